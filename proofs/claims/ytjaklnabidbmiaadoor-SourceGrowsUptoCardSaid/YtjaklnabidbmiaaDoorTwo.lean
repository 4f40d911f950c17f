/- A region that draws its order, whose operations add, but two: one that turns what is there (an append to a row of the call's own), and the last one, which waits for all. -/
import Derived.Test.YtjaklnabidbmiaaDoorLast
namespace Go.Proofs.YtjaklnabidbmiaaDoor
open Go.RowKit
set_option linter.unusedSimpArgs false
set_option linter.unusedVariables false
section
variable {P : Program} {ops : Array Oper} {Q : Exit → Act → World → Prop}
/-- What an operation waits for. -/
def waits (ops : Array Oper) (i : Nat) : List Nat := match ops[i]? with | none => [] | some o => (o.after.toList.filter fun e => Region.binds .any e).map (·.on)
/-- Each one is waited for by one ahead of it. -/
def chain (ops : Array Oper) : List Nat → List Nat → Bool
  | _, [] => true
  | done, i :: rest => (done.any fun c => (waits ops c).contains i) && chain ops (i :: done) rest
def Closed (ops : Array Oper) (L : Array Bool) : Prop := ∀ i, L.getD i false = true → ∀ j ∈ waits ops i, L.getD j false = true
theorem chain_ran {L : Array Bool} (p : Nat) (hc : Closed ops L) (hp : ∀ j ∈ waits ops p, L.getD j false = true) : ∀ (rest done : List Nat), (∀ c ∈ done, c = p ∨ L.getD c false = true) → chain ops done rest = true → ∀ i ∈ rest, L.getD i false = true
  | [], _, _, _, i, hi => nomatch hi
  | k :: rest, done, hd, h, i, hi => by
    simp only [chain, Bool.and_eq_true, List.any_eq_true] at h
    obtain ⟨⟨c, hcd, hck⟩, h2⟩ := h
    have hk : L.getD k false = true := by
      have hm : k ∈ waits ops c := List.contains_iff_mem.1 hck
      rcases hd c hcd with rfl | h
      · exact hp k hm
      · exact hc c h k hm
    rcases List.mem_cons.1 hi with rfl | hi
    · exact hk
    · exact chain_ran p hc hp rest (k :: done) (fun c hc' => by
        rcases List.mem_cons.1 hc' with rfl | h
        · exact .inr hk
        · exact hd c h) h2 i hi
theorem waits_run {L : Array Bool} {i : Nat} {o : Oper} (ho : ops[i]? = some o) (h : ∀ e ∈ o.after, Region.binds .any e = true → L.getD e.on false = true) : ∀ j ∈ waits ops i, L.getD j false = true := by
  intro j hj
  unfold waits at hj
  rw [ho] at hj
  obtain ⟨e, he, rfl⟩ := List.mem_map.1 hj
  obtain ⟨he, hb⟩ := List.mem_filter.1 he
  exact h e (Array.mem_toList_iff.1 he) hb
theorem closed_set {L : Array Bool} (hc : Closed ops L) {i : Nat} (h : ∀ j ∈ waits ops i, L.getD j false = true) : Closed ops (L.setIfInBounds i true) := by
  have up : ∀ j, L.getD j false = true → (L.setIfInBounds i true).getD j false = true := fun j hj => by
    by_cases hij : i = j
    · subst hij
      rw [Array.getD_eq_getD_getElem?, Array.getElem?_setIfInBounds_self]
      split
      · rfl
      · rename_i h9
        rw [Array.getD_eq_getD_getElem?, Array.getElem?_eq_none (by omega)] at hj
        cases hj
    · rw [ran hij]; exact hj
  intro k hk j hj
  by_cases hik : i = k
  · subst hik; exact up j (h j hj)
  · rw [ran hik] at hk; exact up j (hc k hk j hj)
/-- The laws of those operations that are marked. -/
def StepsSel (P : Program) (ops : Array Oper) (Q : Exit → Act → World → Prop) (G : Nat → World → Value → Prop) (a0 : Act) (W0 : World) : List Bool → Nat → List Oper → Prop
  | true :: m, i, o :: l => StepOk P ops Q G a0 W0 i o ∧ StepsSel P ops Q G a0 W0 m (i + 1) l
  | false :: m, i, _ :: l => StepsSel P ops Q G a0 W0 m (i + 1) l
  | _, _, _ => True
theorem stepsSel_at {G : Nat → World → Value → Prop} {a0 : Act} {W0 : World} : ∀ (m : List Bool) (l : List Oper) (k i : Nat) (o : Oper), StepsSel P ops Q G a0 W0 m k l → l[i]? = some o → m[i]? = some true → StepOk P ops Q G a0 W0 (k + i) o
  | _, [], _, _, _, _, h, _ => by simp at h
  | [], _ :: _, _, _, _, _, _, h => by simp at h
  | true :: m, o' :: l, k, 0, o, h, ho, _ => by
    simp at ho
    subst ho
    exact h.1
  | false :: m, o' :: l, k, 0, o, h, ho, hm => by simp at hm
  | true :: m, o' :: l, k, i + 1, o, h, ho, hm => by
    have := stepsSel_at m l (k + 1) i o h.2 (by simpa using ho) (by simpa using hm)
    rwa [show k + (i + 1) = k + 1 + i by omega]
  | false :: m, o' :: l, k, i + 1, o, h, ho, hm => by
    have := stepsSel_at m l (k + 1) i o h (by simpa using ho) (by simpa using hm)
    rwa [show k + (i + 1) = k + 1 + i by omega]
structure TwoInv (ops : Array Oper) (G : Nat → World → Value → Prop) (T : World → Value → Prop) (a0 : Act) (q p dp : Nat) (sides : List Nat) (L : Array Bool) (a : Act) (w : World) : Prop where
  defers : a.defers = a0.defers
  size : a.tmps.size = a0.tmps.size
  done : ∀ i, i < q → i ∉ sides → L.getD i false = true
  turned : T w (a.tmps.getD dp undef)
  side : ∀ i ∈ sides, ∀ o d, ops[i]? = some o → L.getD i false = true → o.dst = some d → G d w (a.tmps.getD d undef)
  rest : ∀ s, (dstsOfOps ops).contains s = false → a.tmps.getD s undef = a0.tmps.getD s undef
theorem wp_region_two {id : Nat} (G : Nat → World → Value → Prop) (T : World → Value → Prop) (q p dp : Nat) (sides : List Nat) (mask : List Bool) (oP oQ : Oper) {a0 : Act} {W0 : World} (hP : P.follows .mixedOrders = true) (hf : fitOps ops = true) (hm : ops.size = q + 1)
    (hQ : ops[q]? = some oQ) (hQd : oQ.dst = none) (hQg : oQ.guard = none) (hp : ops[p]? = some oP) (hpd : oP.dst = some dp) (hpg : oP.guard = none) (hpq : p < q) (hps : p ∉ sides)
    (hmask : (List.range q).all (fun i => (mask[i]? == some true) || decide (i = p) || sides.contains i) = true)
    (hcp : chain ops [p] (((List.range q).filter (fun i => decide (i ≠ p) && !sides.contains i)).reverse) = true)
    (hcq : chain ops [q] ((List.range q).reverse) = true)
    (hn : (dstsOfOps ops).Nodup) (hd : (dstsOfOps ops).all (fun d => decide (d < a0.tmps.size)) = true)
    (hG : ∀ s w w' v, Ext w w' → G s w v → G s w' v)
    (hGs : ∀ i ∈ sides, ∀ o d, ops[i]? = some o → o.dst = some d → ∀ w w' v, G d w v → G d w' v)
    (hsg : ∀ i ∈ sides, ∀ o, ops[i]? = some o → o.guard = none)
    (hstep : StepsSel P ops Q G a0 W0 mask 0 ops.toList)
    (hside : ∀ i ∈ sides, ∀ o, ops[i]? = some o → ∀ a w, a.tmps.size = a0.tmps.size → (∀ s, (dstsOfOps ops).contains s = false → a.tmps.getD s undef = a0.tmps.getD s undef) → ∀ K : Act → World → Prop, (∀ v, (∀ d, o.dst = some d → G d w v) → K (a.put o.dst v) w) → o.wp P a w K Q)
    (hturn : ∀ a w, Ext W0 w → a.defers = a0.defers → a.tmps.size = a0.tmps.size → (∀ s, canRead ops p s = true → G s w (a.tmps.getD s undef)) →
      (∀ s, (dstsOfOps ops).contains s = false → a.tmps.getD s undef = a0.tmps.getD s undef) → ∀ K : Act → World → Prop, (∀ v w', T w' v → K (a.put (some dp) v) w') → oP.wp P a w K Q)
    (hlast : ∀ a w, a.defers = a0.defers → a.tmps.size = a0.tmps.size → T w (a.tmps.getD dp undef) → (∀ i ∈ sides, ∀ o d, ops[i]? = some o → o.dst = some d → G d w (a.tmps.getD d undef)) →
      (∀ s, (dstsOfOps ops).contains s = false → a.tmps.getD s undef = a0.tmps.getD s undef) → oQ.wp P a w (fun a' w' => Q .normal a' w') Q) :
    (Code.region id ops true).wp P Q a0 W0 := by
  have hdst : ∀ (i : Nat) (o : Oper) (d : Nat), ops[i]? = some o → o.dst = some d → d < a0.tmps.size := fun i o d ho h => of_decide_eq_true (List.all_eq_true.1 hd d (mem_dsts ho h))
  refine wp_region_inv (fun L a w => Closed ops L ∧ ((L.getD q false = false ∧ L.getD p false = false ∧ LastInv ops G a0 W0 q L a w) ∨ (L.getD q false = false ∧ L.getD p false = true ∧ TwoInv ops G T a0 q p dp sides L a w) ∨ (L.getD q false = true ∧ Q .normal a w ∧ ∀ i, i < q → L.getD i false = true))) hP hf ?_ ?_ ?_
  · have hl : ∀ i, (Array.replicate ops.size false).getD i false = false := fun i => by
      rw [Array.getD_eq_getD_getElem?, Array.getElem?_replicate]
      split <;> rfl
    exact ⟨fun i h => by (rw [hl] at h; cases h), .inl ⟨hl _, hl _, ⟨(Ext.rf W0).dr, rfl, rfl, fun i o d _ h => by (rw [hl] at h; cases h), fun _ _ => rfl⟩⟩⟩
  · rintro i o L a w ho hLs hi hafter ⟨hcl, I⟩ K hK
    have him : i < q + 1 := by
      have := (Array.getElem?_eq_some_iff.1 ho).1
      omega
    have hon : (L.setIfInBounds i true).getD i false = true := by
      rw [Array.getD_eq_getD_getElem?, Array.getElem?_setIfInBounds_self]
      have : i < L.size := by omega
      simp [this]
    have hw := waits_run ho hafter
    have hcl' := closed_set hcl hw
    by_cases hiq : i = q
    · subst hiq
      rw [hQ] at ho
      cases ho
      have hall : ∀ j, j < i → L.getD j false = true := fun j hj => chain_ran i hcl hw _ [i] (fun c hc => .inl (by simpa using hc)) hcq j (by simpa using hj)
      refine step_free hQg ?_
      rcases I with ⟨_, h2, _⟩ | ⟨_, h2, I⟩ | ⟨h1, _⟩
      · rw [hall p hpq] at h2; cases h2
      · refine Oper.wp_mono (fun a' w' hq => ?_) (hlast a w I.defers I.size I.turned (fun j hj o' d ho' hd' => I.side j hj o' d ho' (hall j (by
          have hjm : j < i + 1 := by have := (Array.getElem?_eq_some_iff.1 ho').1; omega
          have : j ≠ i := fun e => by rw [e, hQ] at ho'; cases ho'; rw [hQd] at hd'; cases hd'
          omega)) hd') I.rest)
        exact hK _ _ ⟨hcl', .inr (.inr ⟨hon, hq, fun j hj => (ran (by omega)).trans (hall j hj)⟩)⟩
      · rw [hi] at h1; cases h1
    · have hlt : i < q := by omega
      have hLq : L.getD q false = false := by
        rcases I with ⟨h1, _⟩ | ⟨h1, _⟩ | ⟨_, _, h3⟩
        · exact h1
        · exact h1
        · rw [h3 i hlt] at hi; cases hi
      have hLq' : (L.setIfInBounds i true).getD q false = false := (ran (by omega)).trans hLq
      by_cases hip : i = p
      · subst hip
        rw [hp] at ho
        cases ho
        have hpre : ∀ j, j < q → j ≠ i → j ∉ sides → L.getD j false = true := fun j hj h1 h2 => chain_ran i hcl hw _ [i] (fun c hc => .inl (by simpa using hc)) hcp j (by
          rw [List.mem_reverse, List.mem_filter]
          exact ⟨List.mem_range.2 hj, by simp [h1, h2]⟩)
        rcases I with ⟨_, _, I⟩ | ⟨_, h2, _⟩ | ⟨h1, _⟩
        · refine step_free hpg ?_
          refine hturn a w I.ext I.defers I.size ?_ I.rest K (fun v w' hT => ?_)
          · intro s hc
            unfold canRead at hc
            rw [hp] at hc
            simp only [Array.any_eq_true] at hc
            obtain ⟨ei, hei, hb⟩ := hc
            have he := Array.getElem_mem hei
            generalize oP.after[ei] = e at he hb
            simp only [Bool.and_eq_true] at hb
            obtain ⟨hb1, hb2⟩ := hb
            cases hp' : ops[e.on]? with
            | none => simp [hp'] at hb2
            | some p' =>
              simp only [hp', beq_iff_eq] at hb2
              exact I.fact e.on p' s hp' (hafter e he hb1) hb2
          · rw [← hpd]
            refine hK _ _ ⟨hcl', .inr (.inl ⟨hLq', hon, ⟨?_, ?_, ?_, ?_, ?_, ?_⟩⟩)⟩
            · rw [hpd]; simp [Act.put, I.defers]
            · rw [hpd]; simp [Act.put, I.size]
            · intro j hj hjs
              by_cases hji : j = i
              · rw [hji]; exact hon
              · rw [ran (fun e => hji e.symm)]; exact hpre j hj hji hjs
            · rw [hpd, put_at (by rw [I.size]; exact hdst _ _ _ hp hpd), if_pos rfl]
              exact hT
            · intro j hj oj d hoj hl hdj
              have hji : j ≠ i := fun e => hps (e ▸ hj)
              rw [ran (fun e => hji e.symm)] at hl
              have hne : d ≠ dp := fun e => hji (dst_one hn hoj hp hdj (by rw [hpd, e]))
              rw [hpd, put_at (by rw [I.size]; exact hdst _ _ _ hp hpd), if_neg hne]
              exact hGs j hj oj d hoj hdj w w' _ (I.fact j oj d hoj hl hdj)
            · intro s hs'
              have hne : s ≠ dp := fun e => by
                have := List.contains_iff_mem.2 (mem_dsts hp hpd)
                rw [← e, hs'] at this
                cases this
              rw [hpd, put_at (by rw [I.size]; exact hdst _ _ _ hp hpd), if_neg hne]
              exact I.rest s hs'
        · rw [hi] at h2; cases h2
        · rw [hLq] at h1; cases h1
      · have hLp' : ∀ b, L.getD p false = b → (L.setIfInBounds i true).getD p false = b := fun b h => (ran hip).trans h
        by_cases his : i ∈ sides
        · refine step_free (hsg i his o ho) ?_
          have hsz : a.tmps.size = a0.tmps.size := by
            rcases I with ⟨_, _, I⟩ | ⟨_, _, I⟩ | ⟨h1, _⟩
            · exact I.size
            · exact I.size
            · rw [hLq] at h1; cases h1
          have hrs : ∀ s, (dstsOfOps ops).contains s = false → a.tmps.getD s undef = a0.tmps.getD s undef := by
            rcases I with ⟨_, _, I⟩ | ⟨_, _, I⟩ | ⟨h1, _⟩
            · exact I.rest
            · exact I.rest
            · rw [hLq] at h1; cases h1
          have hrest' : ∀ v s, (dstsOfOps ops).contains s = false → (a.put o.dst v).tmps.getD s undef = a0.tmps.getD s undef := by
            intro v s hs'
            cases h : o.dst with
            | none => exact hrs s hs'
            | some d2 =>
              have hne : s ≠ d2 := fun e => by
                have := List.contains_iff_mem.2 (mem_dsts ho h)
                rw [← e, hs'] at this
                cases this
              rw [put_at (by rw [hsz]; exact hdst _ _ _ ho h), if_neg hne]
              exact hrs s hs'
          have hother : ∀ v (j : Nat) oj d, ops[j]? = some oj → j ≠ i → oj.dst = some d → (a.put o.dst v).tmps.getD d undef = a.tmps.getD d undef := by
            intro v j oj d hj hij hdj
            cases h : o.dst with
            | none => rfl
            | some d2 =>
              have hne : d ≠ d2 := fun e => hij (dst_one hn hj ho hdj (by rw [h, e]))
              rw [put_at (by rw [hsz]; exact hdst _ _ _ ho h), if_neg hne]
          have hself : ∀ v d, o.dst = some d → (a.put o.dst v).tmps.getD d undef = v := by
            intro v d h
            rw [h, put_at (by rw [hsz]; exact hdst _ _ _ ho h), if_pos rfl]
          have hdf : ∀ v, (a.put o.dst v).defers = a.defers := fun v => by cases h : o.dst <;> simp [Act.put]
          have hsz' : ∀ v, (a.put o.dst v).tmps.size = a.tmps.size := fun v => by cases h : o.dst <;> simp [Act.put]
          refine hside i his o ho a w hsz hrs K (fun v hv => hK _ _ ⟨hcl', ?_⟩)
          rcases I with ⟨_, h2, I⟩ | ⟨_, h2, I⟩ | ⟨h1, _⟩
          · refine .inl ⟨hLq', hLp' _ h2, ⟨I.ext, (hdf v).trans I.defers, (hsz' v).trans I.size, ?_, hrest' v⟩⟩
            intro j oj d hj hl hdj
            by_cases hij : j = i
            · subst hij
              rw [ho] at hj
              cases hj
              rw [hself v d hdj]
              exact hv d hdj
            · rw [ran (fun e => hij e.symm)] at hl
              rw [hother v j oj d hj hij hdj]
              exact I.fact j oj d hj hl hdj
          · refine .inr (.inl ⟨hLq', hLp' _ h2, ⟨(hdf v).trans I.defers, (hsz' v).trans I.size, ?_, ?_, ?_, hrest' v⟩⟩)
            · intro j hj hjs
              by_cases hij : i = j
              · rw [← hij]; exact hon
              · rw [ran hij]; exact I.done j hj hjs
            · rw [hother v p oP dp hp (fun e => hip e.symm) hpd]
              exact I.turned
            · intro j hj oj d hoj hl hdj
              by_cases hij : j = i
              · subst hij
                rw [ho] at hoj
                cases hoj
                rw [hself v d hdj]
                exact hv d hdj
              · rw [ran (fun e => hij e.symm)] at hl
                rw [hother v j oj d hoj hij hdj]
                exact I.side j hj oj d hoj hl hdj
          · rw [hLq] at h1; cases h1
        · have hLp : L.getD p false = false := by
            rcases I with ⟨_, h2, _⟩ | ⟨_, _, I⟩ | ⟨h1, _⟩
            · exact h2
            · rw [I.done i hlt his] at hi; cases hi
            · rw [hLq] at h1; cases h1
          rcases I with ⟨_, _, I⟩ | ⟨_, h2, _⟩ | ⟨h1, _⟩
          · have hmk : mask[i]? = some true := by
              have h9 := List.all_eq_true.1 hmask i (List.mem_range.2 hlt)
              rw [Bool.or_eq_true, Bool.or_eq_true] at h9
              rcases h9 with (h9 | h9) | h9
              · exact eq_of_beq h9
              · exact absurd (of_decide_eq_true h9) hip
              · exact absurd (List.contains_iff_mem.1 h9) his
            have hs := stepsSel_at mask ops.toList 0 i o hstep (by simpa using ho) hmk
            rw [Nat.zero_add] at hs
            refine hs a w I.ext I.defers I.size ?_ I.rest K (fun v w' hx hv => hK _ _ ⟨hcl', .inl ⟨hLq', hLp' _ hLp, ⟨I.ext.tr hx, ?_, ?_, ?_, ?_⟩⟩⟩)
            · intro s hc
              unfold canRead at hc
              rw [ho] at hc
              simp only [Array.any_eq_true] at hc
              obtain ⟨ei, hei, hb⟩ := hc
              have he := Array.getElem_mem hei
              generalize o.after[ei] = e at he hb
              simp only [Bool.and_eq_true] at hb
              obtain ⟨hb1, hb2⟩ := hb
              cases hp' : ops[e.on]? with
              | none => simp [hp'] at hb2
              | some p' =>
                simp only [hp', beq_iff_eq] at hb2
                exact I.fact e.on p' s hp' (hafter e he hb1) hb2
            · cases h : o.dst <;> simp [Act.put, I.defers]
            · cases h : o.dst <;> simp [Act.put, I.size]
            · intro j oj d hj hl hdj
              by_cases hij : j = i
              · subst hij
                rw [ho] at hj
                cases hj
                rw [hdj, put_at (by rw [I.size]; exact hdst _ _ _ ho hdj), if_pos rfl]
                exact hv d hdj
              · rw [ran (fun e => hij e.symm)] at hl
                have hF := hG d w w' _ hx (I.fact j oj d hj hl hdj)
                cases h : o.dst with
                | none => exact hF
                | some d2 =>
                  have hne : d ≠ d2 := fun e => hij (dst_one hn hj ho hdj (by rw [h, e]))
                  rw [put_at (by rw [I.size]; exact hdst _ _ _ ho h), if_neg hne]
                  exact hF
            · intro s hs'
              cases h : o.dst with
              | none => exact I.rest s hs'
              | some d2 =>
                have hne : s ≠ d2 := fun e => by
                  have := List.contains_iff_mem.2 (mem_dsts ho h)
                  rw [← e, hs'] at this
                  cases this
                rw [put_at (by rw [I.size]; exact hdst _ _ _ ho h), if_neg hne]
                exact I.rest s hs'
          · rw [hLp] at h2; cases h2
          · rw [hLq] at h1; cases h1
  · rintro L a w hLs hall ⟨_, I⟩
    rcases I with ⟨h1, _⟩ | ⟨h1, _⟩ | ⟨_, h2, _⟩
    · rw [hall q (by omega)] at h1; cases h1
    · rw [hall q (by omega)] at h1; cases h1
    · exact h2
/-- As wp_region_last; the last operation waits for the others by way of others. -/
theorem wp_region_end {id : Nat} (G : Nat → World → Value → Prop) (m : Nat) (oL : Oper) {a0 : Act} {W0 : World} (hP : P.follows .mixedOrders = true) (hf : fitOps ops = true) (hm : ops.size = m + 1) (hL : ops[m]? = some oL) (hLd : oL.dst = none) (hLg : oL.guard = none)
    (hLa : chain ops [m] ((List.range m).reverse) = true) (hn : (dstsOfOps ops).Nodup) (hd : (dstsOfOps ops).all (fun d => decide (d < a0.tmps.size)) = true)
    (hG : ∀ s w w' v, Ext w w' → G s w v → G s w' v)
    (hstep : StepsFrom P ops Q G a0 W0 0 (ops.toList.take m))
    (hlast : ∀ a w, Ext W0 w → a.defers = a0.defers → a.tmps.size = a0.tmps.size → (∀ d, (dstsOfOps ops).contains d = true → G d w (a.tmps.getD d undef)) →
      (∀ s, (dstsOfOps ops).contains s = false → a.tmps.getD s undef = a0.tmps.getD s undef) → oL.wp P a w (fun a' w' => Q .normal a' w') Q) :
    (Code.region id ops true).wp P Q a0 W0 := by
  have hdst : ∀ (i : Nat) (o : Oper) (d : Nat), ops[i]? = some o → o.dst = some d → d < a0.tmps.size := fun i o d ho h => of_decide_eq_true (List.all_eq_true.1 hd d (mem_dsts ho h))
  refine wp_region_inv (fun L a w => Closed ops L ∧ (L.getD m false = false → LastInv ops G a0 W0 m L a w) ∧ (L.getD m false = true → Q .normal a w ∧ ∀ i, i < m → L.getD i false = true)) hP hf ?_ ?_ ?_
  · have hl : ∀ i, (Array.replicate ops.size false).getD i false = false := fun i => by
      rw [Array.getD_eq_getD_getElem?, Array.getElem?_replicate]
      split <;> rfl
    exact ⟨fun i h => (by rw [hl] at h; cases h), fun _ => ⟨(Ext.rf W0).dr, rfl, rfl, fun i o d _ h => by (rw [hl] at h; cases h), fun _ _ => rfl⟩, fun h => by (rw [hl] at h; cases h)⟩
  · rintro i o L a w ho hLs hi hafter ⟨hcl, I1, I2⟩ K hK
    have hw := waits_run ho hafter
    have hcl' := closed_set hcl hw
    have him : i < m + 1 := by
      have := (Array.getElem?_eq_some_iff.1 ho).1
      omega
    have hon : (L.setIfInBounds i true).getD i false = true := by
      rw [Array.getD_eq_getD_getElem?, Array.getElem?_setIfInBounds_self]
      have : i < L.size := by omega
      simp [this]
    by_cases hlt : i < m
    · have hLm : L.getD m false = false := by
        cases h : L.getD m false with
        | false => rfl
        | true => rw [(I2 h).2 i hlt] at hi; cases hi
      have I := I1 hLm
      have hs := stepsFrom_at (ops.toList.take m) 0 i o hstep (by
        rw [List.getElem?_take_of_lt hlt]
        simpa using ho)
      rw [Nat.zero_add] at hs
      refine hs a w I.ext I.defers I.size ?_ I.rest K (fun v w' hx hv => hK _ _ ⟨hcl', fun _ => ?_, fun h => ?_⟩)
      · intro s hc
        unfold canRead at hc
        rw [ho] at hc
        simp only [Array.any_eq_true] at hc
        obtain ⟨ei, hei, hb⟩ := hc
        have he := Array.getElem_mem hei
        generalize o.after[ei] = e at he hb
        simp only [Bool.and_eq_true] at hb
        obtain ⟨hb1, hb2⟩ := hb
        cases hp : ops[e.on]? with
        | none => simp [hp] at hb2
        | some p =>
          simp only [hp, beq_iff_eq] at hb2
          exact I.fact e.on p s hp (hafter e he hb1) hb2
      · refine ⟨I.ext.tr hx, ?_, ?_, ?_, ?_⟩
        · cases h : o.dst <;> simp [Act.put, I.defers]
        · cases h : o.dst <;> simp [Act.put, I.size]
        · intro j oj d hj hl hdj
          by_cases hij : j = i
          · subst hij
            rw [ho] at hj
            cases hj
            rw [hdj, put_at (by rw [I.size]; exact hdst _ _ _ ho hdj), if_pos rfl]
            exact hv d hdj
          · rw [ran (fun e => hij e.symm)] at hl
            have hF := hG d w w' _ hx (I.fact j oj d hj hl hdj)
            cases h : o.dst with
            | none => exact hF
            | some d2 =>
              have hne : d ≠ d2 := fun e => hij (dst_one hn hj ho hdj (by rw [h, e]))
              rw [put_at (by rw [I.size]; exact hdst _ _ _ ho h), if_neg hne]
              exact hF
        · intro s hs'
          cases h : o.dst with
          | none => exact I.rest s hs'
          | some d2 =>
            have hne : s ≠ d2 := fun e => by
              have := List.contains_iff_mem.2 (mem_dsts ho h)
              rw [← e, hs'] at this
              cases this
            rw [put_at (by rw [I.size]; exact hdst _ _ _ ho h), if_neg hne]
            exact I.rest s hs'
      · rw [ran (by omega), hLm] at h
        cases h
    · obtain rfl : i = m := by omega
      rw [hL] at ho
      cases ho
      have hall : ∀ j, j < i → L.getD j false = true := fun j hj => chain_ran i hcl hw _ [i] (fun c hc => .inl (by simpa using hc)) hLa j (by simpa using hj)
      have I := I1 hi
      refine step_free hLg ?_
      have hl := hlast a w I.ext I.defers I.size (fun d hc => ?_) I.rest
      · refine Oper.wp_mono ?_ hl
        intro a' w' hq
        exact hK _ _ ⟨hcl', fun h => (by rw [hon] at h; cases h), fun _ => ⟨hq, fun j hj => (ran (by omega)).trans (hall j hj)⟩⟩
      · obtain ⟨o', ho', hd'⟩ := List.mem_filterMap.1 (List.contains_iff_mem.1 hc)
        obtain ⟨j, hj, he⟩ := List.mem_iff_getElem.1 ho'
        have hj' : ops[j]? = some o' := by
          rw [← he]
          simp at hj
          simp [hj]
        have hjm : j ≠ i := fun e => by
          rw [e, hL] at hj'
          cases hj'
          rw [hLd] at hd'
          cases hd'
        have hjl : j < i + 1 := by simpa [hm] using hj
        exact I.fact j o' d hj' (hall j (by omega)) hd'
  · rintro L a w hLs hall ⟨_, _, I2⟩
    exact (I2 (hall m (by omega))).1
structure TurnInv (ops : Array Oper) (G : Nat → World → Value → Prop) (T : World → Prop) (a0 : Act) (p : Nat) (sides : List Nat) (L : Array Bool) (a : Act) (w : World) : Prop where
  defers : a.defers = a0.defers
  size : a.tmps.size = a0.tmps.size
  done : ∀ i, i < ops.size → i ∉ sides → L.getD i false = true
  turned : T w
  side : ∀ i ∈ sides, ∀ o d, ops[i]? = some o → L.getD i false = true → o.dst = some d → G d w (a.tmps.getD d undef)
  rest : ∀ s, (dstsOfOps ops).contains s = false → a.tmps.getD s undef = a0.tmps.getD s undef
/-- One operation (p, without a slot of its own) turns what is there; it waits for all others but some that only write a slot. -/
theorem wp_region_turn {id : Nat} (G : Nat → World → Value → Prop) (T : World → Prop) (p : Nat) (sides : List Nat) (mask : List Bool) (oP : Oper) {a0 : Act} {W0 : World} (hP : P.follows .mixedOrders = true) (hf : fitOps ops = true)
    (hp : ops[p]? = some oP) (hpd : oP.dst = none) (hpg : oP.guard = none) (hps : p ∉ sides)
    (hmask : (List.range ops.size).all (fun i => (mask[i]? == some true) || decide (i = p) || sides.contains i) = true)
    (hcp : chain ops [p] (((List.range ops.size).filter (fun i => decide (i ≠ p) && !sides.contains i)).reverse) = true)
    (hn : (dstsOfOps ops).Nodup) (hd : (dstsOfOps ops).all (fun d => decide (d < a0.tmps.size)) = true)
    (hG : ∀ s w w' v, Ext w w' → G s w v → G s w' v)
    (hGs : ∀ i ∈ sides, ∀ o d, ops[i]? = some o → o.dst = some d → ∀ w w' v, G d w v → G d w' v)
    (hsg : ∀ i ∈ sides, ∀ o, ops[i]? = some o → o.guard = none)
    (hstep : StepsSel P ops Q G a0 W0 mask 0 ops.toList)
    (hside : ∀ i ∈ sides, ∀ o, ops[i]? = some o → ∀ a w, a.tmps.size = a0.tmps.size → (∀ s, (dstsOfOps ops).contains s = false → a.tmps.getD s undef = a0.tmps.getD s undef) → ∀ K : Act → World → Prop, (∀ v, (∀ d, o.dst = some d → G d w v) → K (a.put o.dst v) w) → o.wp P a w K Q)
    (hturn : ∀ a w, Ext W0 w → a.defers = a0.defers → a.tmps.size = a0.tmps.size → (∀ s, canRead ops p s = true → G s w (a.tmps.getD s undef)) →
      (∀ s, (dstsOfOps ops).contains s = false → a.tmps.getD s undef = a0.tmps.getD s undef) → ∀ K : Act → World → Prop, (∀ v w', T w' → K (a.put none v) w') → oP.wp P a w K Q)
    (hend : ∀ a w, a.defers = a0.defers → a.tmps.size = a0.tmps.size → T w → (∀ i ∈ sides, ∀ o d, ops[i]? = some o → o.dst = some d → G d w (a.tmps.getD d undef)) →
      (∀ s, (dstsOfOps ops).contains s = false → a.tmps.getD s undef = a0.tmps.getD s undef) → Q .normal a w) :
    (Code.region id ops true).wp P Q a0 W0 := by
  have hdst : ∀ (i : Nat) (o : Oper) (d : Nat), ops[i]? = some o → o.dst = some d → d < a0.tmps.size := fun i o d ho h => of_decide_eq_true (List.all_eq_true.1 hd d (mem_dsts ho h))
  have hpz : p < ops.size := (Array.getElem?_eq_some_iff.1 hp).1
  refine wp_region_inv (fun L a w => Closed ops L ∧ ((L.getD p false = false ∧ LastInv ops G a0 W0 p L a w) ∨ (L.getD p false = true ∧ TurnInv ops G T a0 p sides L a w))) hP hf ?_ ?_ ?_
  · have hl : ∀ i, (Array.replicate ops.size false).getD i false = false := fun i => by
      rw [Array.getD_eq_getD_getElem?, Array.getElem?_replicate]
      split <;> rfl
    exact ⟨fun i h => by (rw [hl] at h; cases h), .inl ⟨hl _, ⟨(Ext.rf W0).dr, rfl, rfl, fun i o d _ h => by (rw [hl] at h; cases h), fun _ _ => rfl⟩⟩⟩
  · rintro i o L a w ho hLs hi hafter ⟨hcl, I⟩ K hK
    have him : i < ops.size := (Array.getElem?_eq_some_iff.1 ho).1
    have hon : (L.setIfInBounds i true).getD i false = true := by
      rw [Array.getD_eq_getD_getElem?, Array.getElem?_setIfInBounds_self]
      have : i < L.size := by omega
      simp [this]
    have hw := waits_run ho hafter
    have hcl' := closed_set hcl hw
    by_cases hip : i = p
    · subst hip
      rw [hp] at ho
      cases ho
      have hpre : ∀ j, j < ops.size → j ≠ i → j ∉ sides → L.getD j false = true := fun j hj h1 h2 => chain_ran i hcl hw _ [i] (fun c hc => .inl (by simpa using hc)) hcp j (by
        rw [List.mem_reverse, List.mem_filter]
        exact ⟨List.mem_range.2 hj, by simp [h1, h2]⟩)
      rcases I with ⟨_, I⟩ | ⟨h2, _⟩
      · refine step_free hpg ?_
        refine hturn a w I.ext I.defers I.size ?_ I.rest K (fun v w' hT => ?_)
        · intro s hc
          unfold canRead at hc
          rw [hp] at hc
          simp only [Array.any_eq_true] at hc
          obtain ⟨ei, hei, hb⟩ := hc
          have he := Array.getElem_mem hei
          generalize oP.after[ei] = e at he hb
          simp only [Bool.and_eq_true] at hb
          obtain ⟨hb1, hb2⟩ := hb
          cases hp' : ops[e.on]? with
          | none => simp [hp'] at hb2
          | some p' =>
            simp only [hp', beq_iff_eq] at hb2
            exact I.fact e.on p' s hp' (hafter e he hb1) hb2
        · rw [← hpd]
          have hput : a.put oP.dst v = a := by rw [hpd]; rfl
          rw [hput]
          refine hK _ _ ⟨hcl', .inr ⟨hon, ⟨I.defers, I.size, ?_, hT, ?_, I.rest⟩⟩⟩
          · intro j hj hjs
            by_cases hji : j = i
            · rw [hji]; exact hon
            · rw [ran (fun e => hji e.symm)]; exact hpre j hj hji hjs
          · intro j hj oj d hoj hl hdj
            have hji : j ≠ i := fun e => hps (e ▸ hj)
            rw [ran (fun e => hji e.symm)] at hl
            exact hGs j hj oj d hoj hdj w w' _ (I.fact j oj d hoj hl hdj)
      · rw [hi] at h2; cases h2
    · have hLp' : ∀ b, L.getD p false = b → (L.setIfInBounds i true).getD p false = b := fun b h => (ran hip).trans h
      have hother : ∀ v (j : Nat) oj d, a.tmps.size = a0.tmps.size → ops[j]? = some oj → j ≠ i → oj.dst = some d → (a.put o.dst v).tmps.getD d undef = a.tmps.getD d undef := by
        intro v j oj d hsz hj hij hdj
        cases h : o.dst with
        | none => rfl
        | some d2 =>
          have hne : d ≠ d2 := fun e => hij (dst_one hn hj ho hdj (by rw [h, e]))
          rw [put_at (by rw [hsz]; exact hdst _ _ _ ho h), if_neg hne]
      have hself : ∀ v d, a.tmps.size = a0.tmps.size → o.dst = some d → (a.put o.dst v).tmps.getD d undef = v := by
        intro v d hsz h
        rw [h, put_at (by rw [hsz]; exact hdst _ _ _ ho h), if_pos rfl]
      have hdf : ∀ v, (a.put o.dst v).defers = a.defers := fun v => by cases h : o.dst <;> simp [Act.put]
      have hsz' : ∀ v, (a.put o.dst v).tmps.size = a.tmps.size := fun v => by cases h : o.dst <;> simp [Act.put]
      have hrest' : ∀ v s, a.tmps.size = a0.tmps.size → (∀ s, (dstsOfOps ops).contains s = false → a.tmps.getD s undef = a0.tmps.getD s undef) → (dstsOfOps ops).contains s = false → (a.put o.dst v).tmps.getD s undef = a0.tmps.getD s undef := by
        intro v s hsz hrs hs'
        cases h : o.dst with
        | none => exact hrs s hs'
        | some d2 =>
          have hne : s ≠ d2 := fun e => by
            have := List.contains_iff_mem.2 (mem_dsts ho h)
            rw [← e, hs'] at this
            cases this
          rw [put_at (by rw [hsz]; exact hdst _ _ _ ho h), if_neg hne]
          exact hrs s hs'
      by_cases his : i ∈ sides
      · refine step_free (hsg i his o ho) ?_
        rcases I with ⟨h2, I⟩ | ⟨h2, I⟩
        · refine hside i his o ho a w I.size I.rest K (fun v hv => hK _ _ ⟨hcl', .inl ⟨hLp' _ h2, ⟨I.ext, (hdf v).trans I.defers, (hsz' v).trans I.size, ?_, fun s hs => hrest' v s I.size I.rest hs⟩⟩⟩)
          intro j oj d hj hl hdj
          by_cases hij : j = i
          · subst hij
            rw [ho] at hj
            cases hj
            rw [hself v d I.size hdj]
            exact hv d hdj
          · rw [ran (fun e => hij e.symm)] at hl
            rw [hother v j oj d I.size hj hij hdj]
            exact I.fact j oj d hj hl hdj
        · refine hside i his o ho a w I.size I.rest K (fun v hv => hK _ _ ⟨hcl', .inr ⟨hLp' _ h2, ⟨(hdf v).trans I.defers, (hsz' v).trans I.size, ?_, I.turned, ?_, fun s hs => hrest' v s I.size I.rest hs⟩⟩⟩)
          · intro j hj hjs
            by_cases hij : i = j
            · rw [← hij]; exact hon
            · rw [ran hij]; exact I.done j hj hjs
          · intro j hj oj d hoj hl hdj
            by_cases hij : j = i
            · subst hij
              rw [ho] at hoj
              cases hoj
              rw [hself v d I.size hdj]
              exact hv d hdj
            · rw [ran (fun e => hij e.symm)] at hl
              rw [hother v j oj d I.size hoj hij hdj]
              exact I.side j hj oj d hoj hl hdj
      · rcases I with ⟨h2, I⟩ | ⟨_, I⟩
        · have hmk : mask[i]? = some true := by
            have h9 := List.all_eq_true.1 hmask i (List.mem_range.2 him)
            rw [Bool.or_eq_true, Bool.or_eq_true] at h9
            rcases h9 with (h9 | h9) | h9
            · exact eq_of_beq h9
            · exact absurd (of_decide_eq_true h9) hip
            · exact absurd (List.contains_iff_mem.1 h9) his
          have hs := stepsSel_at mask ops.toList 0 i o hstep (by simpa using ho) hmk
          rw [Nat.zero_add] at hs
          refine hs a w I.ext I.defers I.size ?_ I.rest K (fun v w' hx hv => hK _ _ ⟨hcl', .inl ⟨hLp' _ h2, ⟨I.ext.tr hx, (hdf v).trans I.defers, (hsz' v).trans I.size, ?_, fun s hs => hrest' v s I.size I.rest hs⟩⟩⟩)
          · intro s hc
            unfold canRead at hc
            rw [ho] at hc
            simp only [Array.any_eq_true] at hc
            obtain ⟨ei, hei, hb⟩ := hc
            have he := Array.getElem_mem hei
            generalize o.after[ei] = e at he hb
            simp only [Bool.and_eq_true] at hb
            obtain ⟨hb1, hb2⟩ := hb
            cases hp' : ops[e.on]? with
            | none => simp [hp'] at hb2
            | some p' =>
              simp only [hp', beq_iff_eq] at hb2
              exact I.fact e.on p' s hp' (hafter e he hb1) hb2
          · intro j oj d hj hl hdj
            by_cases hij : j = i
            · subst hij
              rw [ho] at hj
              cases hj
              rw [hself v d I.size hdj]
              exact hv d hdj
            · rw [ran (fun e => hij e.symm)] at hl
              rw [hother v j oj d I.size hj hij hdj]
              exact hG d w w' _ hx (I.fact j oj d hj hl hdj)
        · rw [I.done i him his] at hi; cases hi
  · rintro L a w hLs hall ⟨_, I⟩
    rcases I with ⟨h1, _⟩ | ⟨_, I⟩
    · rw [hall p hpz] at h1; cases h1
    · exact hend a w I.defers I.size I.turned (fun i hi o d ho hd' => I.side i hi o d ho (hall i (Array.getElem?_eq_some_iff.1 ho).1) hd') I.rest
end
end Go.Proofs.YtjaklnabidbmiaaDoor

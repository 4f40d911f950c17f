/- A region that draws its order, of which one operation makes a variable, the last one stores into it (it waits for all), and all others only add: what they tell lies apart from the variable. -/
import Derived.Test.YtjaklnabidbmiaaDoorTwo
import Derived.Test.YtjaklnabidbmiaaDoorPair
namespace Go.Proofs.YtjaklnabidbmiaaDoor
open Go.RowKit
set_option linter.unusedSimpArgs false
set_option linter.unusedVariables false
section
variable {P : Program} {ops : Array Oper} {Q : Exit → Act → World → Prop}
structure VarInv (ops : Array Oper) (G : Nat → World → Value → Prop) (a0 : Act) (W0 : World) (pa sa n : Nat) (L : Array Bool) (gO : Option Nat) (a : Act) (w : World) : Prop where
  ext : Ext W0 w
  defers : a.defers = a0.defers
  size : a.tmps.size = a0.tmps.size
  sub0 : Sub W0 (but gO w)
  gb : ∀ g, gO = some g → W0.heap.size ≤ g ∧ g < w.heap.size ∧ w.there g 0 n ∧ a.tmps.getD sa undef = .pointer (some ⟨g, 0, none⟩)
  g0 : L.getD pa false = false → gO = none
  g1 : L.getD pa false = true → ∃ g, gO = some g
  fact : ∀ i o d, ops[i]? = some o → L.getD i false = true → o.dst = some d → d ≠ sa → G d (but gO w) (a.tmps.getD d undef)
  rest : ∀ s, (dstsOfOps ops).contains s = false → a.tmps.getD s undef = a0.tmps.getD s undef
/-- One operation's law, in whatever order, whether the variable is there or not. -/
def StepOkV (P : Program) (ops : Array Oper) (Q : Exit → Act → World → Prop) (G : Nat → World → Value → Prop) (a0 : Act) (W0 : World) (sa i : Nat) (o : Oper) : Prop :=
  ∀ (gO : Option Nat) a w, Ext W0 w → Sub W0 (but gO w) → (∀ g, gO = some g → W0.heap.size ≤ g ∧ g < w.heap.size) → a.defers = a0.defers → a.tmps.size = a0.tmps.size → (∀ s, canRead ops i s = true → s ≠ sa → G s (but gO w) (a.tmps.getD s undef)) →
    (∀ s, (dstsOfOps ops).contains s = false → a.tmps.getD s undef = a0.tmps.getD s undef) →
    ∀ K : Act → World → Prop, (∀ v w', Ext w w' → (∀ d, o.dst = some d → G d (but gO w') v) → K (a.put o.dst v) w') → if Region.wanted o (yielded ops a.tmps) = true then o.wp P a w K Q else K (a.put o.dst undef) w
def StepsSelV (P : Program) (ops : Array Oper) (Q : Exit → Act → World → Prop) (G : Nat → World → Value → Prop) (a0 : Act) (W0 : World) (sa : Nat) : List Bool → Nat → List Oper → Prop
  | true :: m, i, o :: l => StepOkV P ops Q G a0 W0 sa i o ∧ StepsSelV P ops Q G a0 W0 sa m (i + 1) l
  | false :: m, i, _ :: l => StepsSelV P ops Q G a0 W0 sa m (i + 1) l
  | _, _, _ => True
theorem stepsSelV_at {G : Nat → World → Value → Prop} {a0 : Act} {W0 : World} {sa : Nat} : ∀ (m : List Bool) (l : List Oper) (k i : Nat) (o : Oper), StepsSelV P ops Q G a0 W0 sa m k l → l[i]? = some o → m[i]? = some true → StepOkV P ops Q G a0 W0 sa (k + i) o
  | _, [], _, _, _, _, h, _ => by simp at h
  | [], _ :: _, _, _, _, _, _, h => by simp at h
  | true :: m, o' :: l, k, 0, o, h, ho, _ => by
    simp at ho
    subst ho
    exact h.1
  | false :: m, o' :: l, k, 0, o, h, ho, hm => by simp at hm
  | true :: m, o' :: l, k, i + 1, o, h, ho, hm => by
    have := stepsSelV_at m l (k + 1) i o h.2 (by simpa using ho) (by simpa using hm)
    rwa [show k + (i + 1) = k + 1 + i by omega]
  | false :: m, o' :: l, k, i + 1, o, h, ho, hm => by
    have := stepsSelV_at m l (k + 1) i o h (by simpa using ho) (by simpa using hm)
    rwa [show k + (i + 1) = k + 1 + i by omega]
theorem wp_region_var {id : Nat} (G : Nat → World → Value → Prop) (m pa sa n : Nat) (mask : List Bool) (oA oL : Oper) {a0 : Act} {W0 : World} (hP : P.follows .mixedOrders = true) (hf : fitOps ops = true) (hm : ops.size = m + 1) (hL : ops[m]? = some oL) (hLd : oL.dst = none) (hLg : oL.guard = none)
    (hA : ops[pa]? = some oA) (hAd : oA.dst = some sa) (hAg : oA.guard = none) (hpm : pa < m)
    (hmask : (List.range m).all (fun i => (mask[i]? == some true) || decide (i = pa)) = true)
    (hLa : chain ops [m] ((List.range m).reverse) = true) (hn : (dstsOfOps ops).Nodup) (hd : (dstsOfOps ops).all (fun d => decide (d < a0.tmps.size)) = true)
    (hG : ∀ s w w' v, Sub w w' → G s w v → G s w' v)
    (hstep : StepsSelV P ops Q G a0 W0 sa mask 0 ops.toList)
    (halloc : ∀ a w K, (∀ w', Ext w w' → w'.heap.size = w.heap.size + 1 → w'.there w.heap.size 0 n → K (a.put (some sa) (.pointer (some ⟨w.heap.size, 0, none⟩))) w') → oA.wp P a w K Q)
    (hlast : ∀ a w g, Ext W0 w → Sub W0 (but (some g) w) → W0.heap.size ≤ g → g < w.heap.size → w.there g 0 n → a.tmps.getD sa undef = .pointer (some ⟨g, 0, none⟩) → a.defers = a0.defers → a.tmps.size = a0.tmps.size → (∀ d, (dstsOfOps ops).contains d = true → d ≠ sa → G d (but (some g) w) (a.tmps.getD d undef)) →
      (∀ s, (dstsOfOps ops).contains s = false → a.tmps.getD s undef = a0.tmps.getD s undef) → oL.wp P a w (fun a' w' => Q .normal a' w') Q) :
    (Code.region id ops true).wp P Q a0 W0 := by
  have hdst : ∀ (i : Nat) (o : Oper) (d : Nat), ops[i]? = some o → o.dst = some d → d < a0.tmps.size := fun i o d ho h => of_decide_eq_true (List.all_eq_true.1 hd d (mem_dsts ho h))
  refine wp_region_inv (fun L a w => Closed ops L ∧ (L.getD m false = false → ∃ gO, VarInv ops G a0 W0 pa sa n L gO a w) ∧ (L.getD m false = true → Q .normal a w ∧ ∀ i, i < m → L.getD i false = true)) hP hf ?_ ?_ ?_
  · have hl : ∀ i, (Array.replicate ops.size false).getD i false = false := fun i => by
      rw [Array.getD_eq_getD_getElem?, Array.getElem?_replicate]
      split <;> rfl
    exact ⟨fun i h => (by rw [hl] at h; cases h), fun _ => ⟨none, (Ext.rf W0).dr, rfl, rfl, but_none W0, (fun g h => by cases h), fun _ => rfl, fun h => (by rw [hl] at h; cases h), fun i o d _ h => by (rw [hl] at h; cases h), fun _ _ => rfl⟩, fun h => (by rw [hl] at h; cases h)⟩
  · rintro i o L a w ho hLs hi hafter ⟨hcl, I1, I2⟩ K hK
    have hw := waits_run ho hafter
    have hcl' := closed_set hcl hw
    have him : i < m + 1 := by
      have := (Array.getElem?_eq_some_iff.1 ho).1
      omega
    have hon : (L.setIfInBounds i true).getD i false = true := by
      rw [Array.getD_eq_getD_getElem?, Array.getElem?_setIfInBounds_self]
      have : i < L.size := by omega
      simp [this]
    have hread : ∀ {gO : Option Nat}, VarInv ops G a0 W0 pa sa n L gO a w → ∀ s, canRead ops i s = true → s ≠ sa → G s (but gO w) (a.tmps.getD s undef) := by
      intro gO I s hc hne
      unfold canRead at hc
      rw [ho] at hc
      simp only [Array.any_eq_true] at hc
      obtain ⟨ei, hei, hb⟩ := hc
      have he := Array.getElem_mem hei
      generalize o.after[ei] = e at he hb
      simp only [Bool.and_eq_true] at hb
      obtain ⟨hb1, hb2⟩ := hb
      cases hp : ops[e.on]? with
      | none => simp [hp] at hb2
      | some p =>
        simp only [hp, beq_iff_eq] at hb2
        exact I.fact e.on p s hp (hafter e he hb1) hb2 hne
    by_cases hlt : i < m
    · have hLm : L.getD m false = false := by
        cases h : L.getD m false with
        | false => rfl
        | true => rw [(I2 h).2 i hlt] at hi; cases hi
      have hLm' : (L.setIfInBounds i true).getD m false = false := (ran (by omega)).trans hLm
      obtain ⟨gO, I⟩ := I1 hLm
      by_cases hip : i = pa
      · subst hip
        rw [hA] at ho
        cases ho
        obtain rfl : gO = none := I.g0 hi
        refine step_free hAg ?_
        refine halloc a w K (fun w' hx hsz hth => ?_)
        rw [← hAd]
        have hsub : Sub (but none w) (but (some w.heap.size) w') := (but_sub none w).tr (but_new hx (Nat.le_refl _))
        refine hK _ _ ⟨hcl', fun _ => ⟨some w.heap.size, I.ext.tr hx, ?_, ?_, I.sub0.tr hsub, ?_, fun h => (by rw [hon] at h; cases h), fun _ => ⟨_, rfl⟩, ?_, ?_⟩, fun h => (by rw [hLm'] at h; cases h)⟩
        · rw [hAd]; simp [Act.put, I.defers]
        · rw [hAd]; simp [Act.put, I.size]
        · intro g hg
          cases hg
          exact ⟨I.ext.size, by omega, hth, by rw [hAd, put_at (by rw [I.size]; exact hdst _ _ _ hA hAd), if_pos rfl]⟩
        · intro j oj d hj hl hdj hne
          have hij : j ≠ i := fun e => by
            subst e
            rw [hA] at hj
            cases hj
            rw [hAd] at hdj
            cases hdj
            exact hne rfl
          rw [ran (fun e => hij e.symm)] at hl
          rw [hAd, put_at (by rw [I.size]; exact hdst _ _ _ hA hAd), if_neg hne]
          exact hG d _ _ _ hsub (I.fact j oj d hj hl hdj hne)
        · intro s hs'
          have hne : s ≠ sa := fun e => by
            have := List.contains_iff_mem.2 (mem_dsts hA hAd)
            rw [← e, hs'] at this
            cases this
          rw [hAd, put_at (by rw [I.size]; exact hdst _ _ _ hA hAd), if_neg hne]
          exact I.rest s hs'
      · have hmk : mask[i]? = some true := by
          have h9 := List.all_eq_true.1 hmask i (List.mem_range.2 hlt)
          rw [Bool.or_eq_true] at h9
          rcases h9 with h9 | h9
          · exact eq_of_beq h9
          · exact absurd (of_decide_eq_true h9) hip
        have hs := stepsSelV_at mask ops.toList 0 i o hstep (by simpa using ho) hmk
        rw [Nat.zero_add] at hs
        have hdsa : ∀ d, o.dst = some d → d ≠ sa := fun d h e => hip (dst_one hn ho hA h (by rw [hAd, e]))
        have hsaput : ∀ v, (a.put o.dst v).tmps.getD sa undef = a.tmps.getD sa undef := fun v => by
          cases h : o.dst with
          | none => rfl
          | some d => rw [put_at (by rw [I.size]; exact hdst _ _ _ ho h), if_neg (fun e => hdsa d h e.symm)]
        refine hs gO a w I.ext I.sub0 (fun g hg => ⟨(I.gb g hg).1, (I.gb g hg).2.1⟩) I.defers I.size (hread I) I.rest K (fun v w' hx hv => hK _ _ ⟨hcl', fun _ => ⟨gO, I.ext.tr hx, ?_, ?_, I.sub0.tr (but_ext _ hx), ?_, ?_, ?_, ?_, ?_⟩, fun h => ?_⟩)
        · cases h : o.dst <;> simp [Act.put, I.defers]
        · cases h : o.dst <;> simp [Act.put, I.size]
        · intro g hg
          obtain ⟨k1, k2, k3, k4⟩ := I.gb g hg
          exact ⟨k1, Nat.lt_of_lt_of_le k2 hx.size, there_ext hx k3, (hsaput v).trans k4⟩
        · intro h; rw [ran hip] at h; exact I.g0 h
        · intro h; rw [ran hip] at h; exact I.g1 h
        · intro j oj d hj hl hdj hne
          by_cases hij : j = i
          · subst hij
            rw [ho] at hj
            cases hj
            rw [hdj, put_at (by rw [I.size]; exact hdst _ _ _ ho hdj), if_pos rfl]
            exact hv d hdj
          · rw [ran (fun e => hij e.symm)] at hl
            have hF := hG d _ _ _ (but_ext gO hx) (I.fact j oj d hj hl hdj hne)
            cases h : o.dst with
            | none => exact hF
            | some d2 =>
              have hne2 : d ≠ d2 := fun e => hij (dst_one hn hj ho hdj (by rw [h, e]))
              rw [put_at (by rw [I.size]; exact hdst _ _ _ ho h), if_neg hne2]
              exact hF
        · intro s hs'
          cases h : o.dst with
          | none => exact I.rest s hs'
          | some d2 =>
            have hne : s ≠ d2 := fun e => by
              have := List.contains_iff_mem.2 (mem_dsts ho h)
              rw [← e, hs'] at this
              cases this
            rw [put_at (by rw [I.size]; exact hdst _ _ _ ho h), if_neg hne]
            exact I.rest s hs'
        · rw [hLm'] at h; cases h
    · obtain rfl : i = m := by omega
      rw [hL] at ho
      cases ho
      have hall : ∀ j, j < i → L.getD j false = true := fun j hj => chain_ran i hcl hw _ [i] (fun c hc => .inl (by simpa using hc)) hLa j (by simpa using hj)
      obtain ⟨gO, I⟩ := I1 hi
      obtain ⟨g, rfl⟩ := I.g1 (hall pa hpm)
      obtain ⟨k1, k2, k3, k4⟩ := I.gb g rfl
      refine step_free hLg ?_
      have hl := hlast a w g I.ext I.sub0 k1 k2 k3 k4 I.defers I.size (fun d hc hne => ?_) I.rest
      · refine Oper.wp_mono ?_ hl
        intro a' w' hq
        exact hK _ _ ⟨hcl', fun h => (by rw [hon] at h; cases h), fun _ => ⟨hq, fun j hj => (ran (by omega)).trans (hall j hj)⟩⟩
      · obtain ⟨o', ho', hd'⟩ := List.mem_filterMap.1 (List.contains_iff_mem.1 hc)
        obtain ⟨j, hj, he⟩ := List.mem_iff_getElem.1 ho'
        have hj' : ops[j]? = some o' := by
          rw [← he]
          simp at hj
          simp [hj]
        have hjm : j ≠ i := fun e => by
          rw [e, hL] at hj'
          cases hj'
          rw [hLd] at hd'
          cases hd'
        have hjl : j < i + 1 := by simpa [hm] using hj
        exact I.fact j o' d hj' (hall j (by omega)) hd' hne
  · rintro L a w hLs hall ⟨_, _, I2⟩
    exact (I2 (hall m (by omega))).1
end
end Go.Proofs.YtjaklnabidbmiaaDoor

/- A region that draws its order, of which each operation only adds: each operation's law once, in any order. -/
import Derived.Test.YtjaklnabidbmiaaDoorRep
import Derived.Deep.RegionHeld3
namespace Go.Proofs.YtjaklnabidbmiaaDoor
open Go.RowKit
set_option linter.unusedSimpArgs false
set_option linter.unusedVariables false

/-- The region's text is fit: no guards, each waits for such as stand ahead, no slot is written twice. -/
def fitOps (ops : Array Oper) : Bool :=
  (List.range ops.size).all fun i => match ops[i]? with
    | none => true
    | some o => o.after.all (fun e => decide (e.on < i))
def dstsOfOps (ops : Array Oper) : List Nat := ops.toList.filterMap (·.dst)

theorem fit_after {ops : Array Oper} (h : fitOps ops = true) {i : Nat} {o : Oper} (ho : ops[i]? = some o) : ∀ e ∈ o.after, e.on < i := by
  have hi : i < ops.size := by
    rcases Nat.lt_or_ge i ops.size with h1 | h1
    · exact h1
    · rw [Array.getElem?_eq_none h1] at ho; cases ho
  have := List.all_eq_true.1 h i (List.mem_range.2 hi)
  simp only [ho] at this
  intro e he
  have := Array.all_eq_true_iff_forall_mem.1 this e he
  exact of_decide_eq_true this

theorem not_ready {ops : Array Oper} (hf : fitOps ops = true) {listed : Array Bool} (hs : listed.size = ops.size) (hr : Region.ready .any ops listed = []) :
    ∀ i, i < ops.size → listed.getD i false = true := by
  intro i
  induction i using Nat.strongRecOn with
  | _ i ih =>
    intro hi
    cases hl : listed.getD i false with
    | true => rfl
    | false =>
      exfalso
      have : i ∈ Region.ready .any ops listed := by
        unfold Region.ready
        rw [List.mem_filter]
        refine ⟨List.mem_range.2 hi, ?_⟩
        have e1 : listed.getD i true = false := by
          rw [Array.getD_eq_getD_getElem?] at hl ⊢
          rw [Array.getElem?_eq_getElem (by omega)] at hl ⊢
          simpa using hl
        rw [e1, Array.getElem?_eq_getElem hi]
        simp only [Bool.not_false, Bool.true_and, Option.map_some, Option.getD_some]
        rw [Array.all_eq_true_iff_forall_mem]
        intro e he
        have h1 := fit_after hf (Array.getElem?_eq_getElem hi) e he
        rw [ih e.on h1 (by omega)]
        simp
      rw [hr] at this
      cases this

section
variable {P : Program} {ops : Array Oper} {Q : Exit → Act → World → Prop}

/-- How things stand while the region runs. -/
structure Stands (ops : Array Oper) (F : Nat → World → Value → Prop) (a0 : Act) (W0 : World) (listed : Array Bool) (a : Act) (w : World) : Prop where
  ext : Ext W0 w
  defers : a.defers = a0.defers
  size : a.tmps.size = a0.tmps.size
  fact : ∀ i o d, ops[i]? = some o → listed.getD i false = true → o.dst = some d → F i w (a.tmps.getD d undef)
  rest : ∀ s, s ∉ dstsOfOps ops → a.tmps.getD s undef = a0.tmps.getD s undef

theorem mem_dsts {i : Nat} {o : Oper} {d : Nat} (ho : ops[i]? = some o) (hd : o.dst = some d) : d ∈ dstsOfOps ops :=
  List.mem_filterMap.2 ⟨o, Array.mem_toList_iff.2 (Array.mem_of_getElem? ho), hd⟩
theorem dst_one_aux : ∀ (l : List Oper) (i j : Nat) (oi oj : Oper) (d : Nat), (l.filterMap (·.dst)).Nodup → l[i]? = some oi → l[j]? = some oj → oi.dst = some d → oj.dst = some d → i = j
  | [], i, j, oi, oj, d, _, h1, _, _, _ => by simp at h1
  | o :: l, i, j, oi, oj, d, hn, h1, h2, h3, h4 => by
    have hn' : (l.filterMap (·.dst)).Nodup := by
      cases ho : o.dst with
      | none => rwa [List.filterMap_cons_none ho] at hn
      | some d' => rw [List.filterMap_cons_some ho] at hn; exact (List.nodup_cons.1 hn).2
    have key : ∀ k (ok : Oper), l[k]? = some ok → ok.dst = some d → o.dst = some d → False := fun k ok hk hd ho => by
      rw [List.filterMap_cons_some ho] at hn
      exact (List.nodup_cons.1 hn).1 (List.mem_filterMap.2 ⟨ok, List.mem_of_getElem? hk, hd⟩)
    match i, j with
    | 0, 0 => rfl
    | 0, j + 1 =>
      simp at h1; subst h1
      exact (key j oj (by simpa using h2) h4 h3).elim
    | i + 1, 0 =>
      simp at h2; subst h2
      exact (key i oi (by simpa using h1) h3 h4).elim
    | i + 1, j + 1 =>
      rw [dst_one_aux l i j oi oj d hn' (by simpa using h1) (by simpa using h2) h3 h4]
theorem dst_one (hn : (dstsOfOps ops).Nodup) {i j : Nat} {oi oj : Oper} {d : Nat} (h1 : ops[i]? = some oi) (h2 : ops[j]? = some oj) (h3 : oi.dst = some d) (h4 : oj.dst = some d) : i = j :=
  dst_one_aux ops.toList i j oi oj d hn (by simpa using h1) (by simpa using h2) h3 h4

theorem region_any (F : Nat → World → Value → Prop) (a0 : Act) (W0 : World) (hf : fitOps ops = true) (hn : (dstsOfOps ops).Nodup) (hd : ∀ d ∈ dstsOfOps ops, d < a0.tmps.size)
    (hm : ∀ i w w' v, Ext w w' → F i w v → F i w' v)
    (hstep : ∀ i o, ops[i]? = some o → ∀ a w, Ext W0 w → a.defers = a0.defers → a.tmps.size = a0.tmps.size →
      (∀ e ∈ o.after, Region.binds .any e = true → ∀ p d, ops[e.on]? = some p → p.dst = some d → F e.on w (a.tmps.getD d undef)) →
      (∀ s, s ∉ dstsOfOps ops → a.tmps.getD s undef = a0.tmps.getD s undef) →
      ∀ K : Act → World → Prop, (∀ v w', Ext w w' → F i w' v → K (a.put o.dst v) w') → if Region.wanted o (yielded ops a.tmps) = true then o.wp P a w K Q else K (a.put o.dst undef) w)
    (hend : ∀ a w, Ext W0 w → a.defers = a0.defers → a.tmps.size = a0.tmps.size → (∀ i o d, ops[i]? = some o → o.dst = some d → F i w (a.tmps.getD d undef)) →
      (∀ s, s ∉ dstsOfOps ops → a.tmps.getD s undef = a0.tmps.getD s undef) → Q .normal a w) :
    ∀ (fuel : Nat) (listed : Array Bool) (a : Act) (w : World), listed.size = ops.size → listed.toList.count false ≤ fuel → Stands ops F a0 W0 listed a w → wpAny P .any ops Q fuel listed a w := by
  have done : ∀ (listed : Array Bool) (a : Act) (w : World), listed.size = ops.size → Region.ready .any ops listed = [] → Stands ops F a0 W0 listed a w → Q .normal a w := by
    intro listed a w hs hr st
    have hall := not_ready hf hs hr
    exact hend a w st.ext st.defers st.size (fun i o d ho h1 => st.fact i o d ho (hall i (by
      rcases Nat.lt_or_ge i ops.size with h | h
      · exact h
      · rw [Array.getElem?_eq_none h] at ho; cases ho)) h1) st.rest
  have lt_of_ready : ∀ (listed : Array Bool) (i : Nat), i ∈ Region.ready .any ops listed → i < ops.size := fun listed i hi => List.mem_range.1 (List.mem_filter.1 hi).1
  intro fuel
  induction fuel with
  | zero =>
    intro listed a w hs hc st
    have hr : Region.ready .any ops listed = [] := by
      rw [List.eq_nil_iff_forall_not_mem]
      intro i hi
      have hlt := lt_of_ready listed i hi
      have h2 := (List.mem_filter.1 hi).2
      simp only [Bool.and_eq_true, Bool.not_eq_true'] at h2
      have h3 := h2.1
      rw [Array.getD_eq_getD_getElem?, Array.getElem?_eq_getElem (by omega)] at h3
      have : false ∈ listed.toList := by
        have h4 : listed[i]'(by omega) = false := by simpa using h3
        rw [← h4]
        exact Array.mem_toList_iff.2 (Array.getElem_mem _)
      have := List.count_pos_iff.2 this
      omega
    exact ⟨hr, done listed a w hs hr st⟩
  | succ fuel ih =>
    intro listed a w hs hc st
    refine ⟨fun hr => done listed a w hs hr st, fun i hi => ?_⟩
    have hlt := lt_of_ready listed i hi
    have h2 := (List.mem_filter.1 hi).2
    have ho : ops[i]? = some ops[i] := Array.getElem?_eq_getElem hlt
    simp only [ho, Option.map_some, Option.getD_some, Bool.and_eq_true, Bool.not_eq_true'] at h2
    obtain ⟨h3, h4⟩ := h2
    have h5 : listed[i]'(by omega) = false := by
      rw [Array.getD_eq_getD_getElem?, Array.getElem?_eq_getElem (by omega)] at h3
      simpa using h3
    unfold wpOp
    rw [ho]
    simp only
    have main := hstep i _ ho a w st.ext st.defers st.size ?_ st.rest (wpAny P .any ops Q fuel (listed.setIfInBounds i true)) ?_
    · split
      · rename_i hw
        rw [if_pos hw] at main
        exact .inl main
      · rename_i hw
        rw [if_neg hw] at main
        exact main
    · intro e he hb p d hp hpd
      have := Array.all_eq_true_iff_forall_mem.1 h4 e he
      rw [hb] at this
      exact st.fact e.on p d hp (by simpa using this) hpd
    · intro v w' hx hv
      refine ih _ _ _ (by simpa using hs) ?_ ?_
      · rw [Array.toList_setIfInBounds, List.count_set (by simpa using (show i < listed.size by omega))]
        have h6 : listed.toList[i]'(by simpa using (show i < listed.size by omega)) = false := by simpa using h5
        have h7 : 0 < listed.toList.count false := List.count_pos_iff.2 (h6 ▸ List.getElem_mem _)
        rw [if_pos (by rw [h6]; rfl), if_neg (by decide)]
        omega
      · refine ⟨st.ext.tr hx, ?_, ?_, ?_, ?_⟩
        · cases hdst : ops[i].dst <;> simp [Act.put, st.defers]
        · cases hdst : ops[i].dst <;> simp [Act.put, st.size]
        · intro j o d hj hl hd'
          by_cases hij : j = i
          · subst hij
            rw [ho] at hj
            cases hj
            rw [hd']
            have hdl : d < a.tmps.size := by rw [st.size]; exact hd d (mem_dsts ho hd')
            have : (a.put (some d) v).tmps.getD d undef = v := by simp [Act.put, hdl]
            rw [this]
            exact hv
          · have hl' : listed.getD j false = true := by
              rw [Array.getD_eq_getD_getElem?, Array.getElem?_setIfInBounds_ne (by omega)] at hl
              rwa [Array.getD_eq_getD_getElem?]
            have hF := hm j w w' _ hx (st.fact j o d hj hl' hd')
            have : (a.put ops[i].dst v).tmps.getD d undef = a.tmps.getD d undef := by
              cases hdst : ops[i].dst with
              | none => rfl
              | some d2 =>
                have hne : d2 ≠ d := fun h => hij (dst_one hn hj ho hd' (by rw [hdst, h]))
                simp [Act.put, Array.getElem?_setIfInBounds_ne hne]
            rw [this]
            exact hF
        · intro s hns
          rw [← st.rest s hns]
          cases hdst : ops[i].dst with
          | none => rfl
          | some d2 =>
            have hne : d2 ≠ s := fun h => hns (h ▸ mem_dsts ho hdst)
            simp [Act.put, Array.getElem?_setIfInBounds_ne hne]

/-- The law of a region of which each operation only adds. -/
theorem wp_region_mono {id : Nat} (F : Nat → World → Value → Prop) (a0 : Act) (W0 : World) (hP : P.follows .mixedOrders = true) (hf : fitOps ops = true) (hn : (dstsOfOps ops).Nodup) (hd : ∀ d ∈ dstsOfOps ops, d < a0.tmps.size)
    (hm : ∀ i w w' v, Ext w w' → F i w v → F i w' v)
    (hstep : ∀ i o, ops[i]? = some o → ∀ a w, Ext W0 w → a.defers = a0.defers → a.tmps.size = a0.tmps.size →
      (∀ e ∈ o.after, Region.binds .any e = true → ∀ p d, ops[e.on]? = some p → p.dst = some d → F e.on w (a.tmps.getD d undef)) →
      (∀ s, s ∉ dstsOfOps ops → a.tmps.getD s undef = a0.tmps.getD s undef) →
      ∀ K : Act → World → Prop, (∀ v w', Ext w w' → F i w' v → K (a.put o.dst v) w') → if Region.wanted o (yielded ops a.tmps) = true then o.wp P a w K Q else K (a.put o.dst undef) w)
    (hend : ∀ a w, Ext W0 w → a.defers = a0.defers → a.tmps.size = a0.tmps.size → (∀ i o d, ops[i]? = some o → o.dst = some d → F i w (a.tmps.getD d undef)) →
      (∀ s, s ∉ dstsOfOps ops → a.tmps.getD s undef = a0.tmps.getD s undef) → Q .normal a w) :
    (Code.region id ops true).wp P Q a0 W0 := by
  refine wp_region_any hP ?_
  refine region_any F a0 W0 hf hn hd hm hstep hend ops.size _ a0 _ (by simp) ?_ ⟨(Ext.rf W0).dr, rfl, rfl, ?_, fun _ _ => rfl⟩
  · simp
  · intro i o d _ hl
    rw [Array.getD_eq_getD_getElem?, Array.getElem?_replicate] at hl
    split at hl <;> simp at hl

/-- What operation i may read: what it waits for. -/
def canRead (ops : Array Oper) (i s : Nat) : Bool :=
  match ops[i]? with
  | none => false
  | some o => o.after.any fun e => Region.binds .any e && (match ops[e.on]? with | some p => p.dst == some s | none => false)
/-- One operation's law, in whatever order. -/
def StepOk (P : Program) (ops : Array Oper) (Q : Exit → Act → World → Prop) (G : Nat → World → Value → Prop) (a0 : Act) (W0 : World) (i : Nat) (o : Oper) : Prop :=
  ∀ a w, Ext W0 w → a.defers = a0.defers → a.tmps.size = a0.tmps.size → (∀ s, canRead ops i s = true → G s w (a.tmps.getD s undef)) →
    (∀ s, (dstsOfOps ops).contains s = false → a.tmps.getD s undef = a0.tmps.getD s undef) →
    ∀ K : Act → World → Prop, (∀ v w', Ext w w' → (∀ d, o.dst = some d → G d w' v) → K (a.put o.dst v) w') → if Region.wanted o (yielded ops a.tmps) = true then o.wp P a w K Q else K (a.put o.dst undef) w
def StepsFrom (P : Program) (ops : Array Oper) (Q : Exit → Act → World → Prop) (G : Nat → World → Value → Prop) (a0 : Act) (W0 : World) : Nat → List Oper → Prop
  | _, [] => True
  | i, o :: l => StepOk P ops Q G a0 W0 i o ∧ StepsFrom P ops Q G a0 W0 (i + 1) l
theorem stepsFrom_at {P : Program} {ops : Array Oper} {Q : Exit → Act → World → Prop} {G : Nat → World → Value → Prop} {a0 : Act} {W0 : World} :
    ∀ (l : List Oper) (k i : Nat) (o : Oper), StepsFrom P ops Q G a0 W0 k l → l[i]? = some o → StepOk P ops Q G a0 W0 (k + i) o
  | [], _, _, _, _, h => by simp at h
  | o' :: l, k, 0, o, h, ho => by
    simp at ho
    subst ho
    exact h.1
  | o' :: l, k, i + 1, o, h, ho => by
    have := stepsFrom_at l (k + 1) i o h.2 (by simpa using ho)
    have e : k + (i + 1) = k + 1 + i := by omega
    rwa [e]
theorem wp_region_steps {P : Program} {ops : Array Oper} {Q : Exit → Act → World → Prop} {id : Nat} (G : Nat → World → Value → Prop) {a0 : Act} {W0 : World} (hP : P.follows .mixedOrders = true) (hf : fitOps ops = true) (hn : (dstsOfOps ops).Nodup) (hd : (dstsOfOps ops).all (fun d => decide (d < a0.tmps.size)) = true)
    (hm : ∀ s w w' v, Ext w w' → G s w v → G s w' v)
    (hstep : StepsFrom P ops Q G a0 W0 0 ops.toList)
    (hend : ∀ a w, Ext W0 w → a.defers = a0.defers → a.tmps.size = a0.tmps.size → (∀ d, (dstsOfOps ops).contains d = true → G d w (a.tmps.getD d undef)) →
      (∀ s, (dstsOfOps ops).contains s = false → a.tmps.getD s undef = a0.tmps.getD s undef) → Q .normal a w) :
    (Code.region id ops true).wp P Q a0 W0 := by
  refine wp_region_mono (fun i w v => ∀ o d, ops[i]? = some o → o.dst = some d → G d w v) a0 W0 hP hf hn (fun d h => of_decide_eq_true (List.all_eq_true.1 hd d h)) (fun i w w' v hx h o d h1 h2 => hm d w w' v hx (h o d h1 h2)) ?_ ?_
  · intro i o ho a w hx h1 h2 h3 h4 K hK
    have hs := stepsFrom_at ops.toList 0 i o hstep (by simpa using ho)
    rw [Nat.zero_add] at hs
    refine hs a w hx h1 h2 ?_ (fun s hs => h4 s (by simpa using hs)) K (fun v w' hx' hv => hK v w' hx' (fun o' d h5 h6 => by
      rw [ho] at h5
      cases h5
      exact hv d h6))
    intro s hc
    unfold canRead at hc
    rw [ho] at hc
    simp only [Array.any_eq_true] at hc
    obtain ⟨ei, hei, hb⟩ := hc
    have he := Array.getElem_mem hei
    generalize o.after[ei] = e at he hb
    simp only [Bool.and_eq_true] at hb
    obtain ⟨hb1, hb2⟩ := hb
    cases hp : ops[e.on]? with
    | none => simp [hp] at hb2
    | some p =>
      simp only [hp, beq_iff_eq] at hb2
      exact h3 e he hb1 p s hp hb2 p s hp hb2
  · intro a w hx h1 h2 h3 h4
    refine hend a w hx h1 h2 ?_ (fun s hs => h4 s (by simpa using hs))
    intro d hdc
    have hmem : d ∈ dstsOfOps ops := by simpa using hdc
    obtain ⟨o, ho, hod⟩ := List.mem_filterMap.1 hmem
    obtain ⟨i, hi⟩ := List.mem_iff_getElem?.1 ho
    have hi' : ops[i]? = some o := by simpa using hi
    exact h3 i o d hi' hod o d hi' hod
/-- An operation that no guard holds back. -/
theorem step_free {P : Program} {ops : Array Oper} {Q : Exit → Act → World → Prop} {o : Oper} {a : Act} {w : World} {K : Act → World → Prop} (hg : o.guard = none) (h : o.wp P a w K Q) :
    if Region.wanted o (yielded ops a.tmps) = true then o.wp P a w K Q else K (a.put o.dst undef) w := by
  rw [if_pos (by simp [Region.wanted, hg])]
  exact h
theorem step_guard {P : Program} {ops : Array Oper} {Q : Exit → Act → World → Prop} {o : Oper} {a : Act} {w : World} {K : Act → World → Prop} {j d : Nat} {want b : Bool} (hg : o.guard = some (j, want))
    (hd : (ops[j]?).bind (·.dst) = some d) (hs : d < a.tmps.size) (hv : a.tmps.getD d undef = .bool b) (h1 : b = want → o.wp P a w K Q) (h2 : b ≠ want → K (a.put o.dst undef) w) :
    if Region.wanted o (yielded ops a.tmps) = true then o.wp P a w K Q else K (a.put o.dst undef) w := by
  have hy : yielded ops a.tmps j = some b := by
    unfold yielded
    rw [hd]
    rw [Array.getD_eq_getD_getElem?, Array.getElem?_eq_getElem hs] at hv
    simp only [Option.bind_some, Array.getElem?_eq_getElem hs]
    rw [show a.tmps[d] = .bool b from hv]
  have hw : Region.wanted o (yielded ops a.tmps) = (b == want) := by
    simp [Region.wanted, hg, hy]
  by_cases h : b = want
  · rw [if_pos (by rw [hw, h]; simp)]
    exact h1 h
  · rw [if_neg (by rw [hw]; simpa using h)]
    exact h2 h
theorem step_held {P : Program} {ops : Array Oper} {Q : Exit → Act → World → Prop} {o : Oper} {a : Act} {w : World} {K : Act → World → Prop} {j d : Nat} {want : Bool} (hg : o.guard = some (j, want))
    (hd : (ops[j]?).bind (·.dst) = some d) (hs : d < a.tmps.size) (hv : a.tmps.getD d undef = undef) (h2 : K (a.put o.dst undef) w) :
    if Region.wanted o (yielded ops a.tmps) = true then o.wp P a w K Q else K (a.put o.dst undef) w := by
  have hy : yielded ops a.tmps j = none := by
    unfold yielded
    rw [hd]
    rw [Array.getD_eq_getD_getElem?, Array.getElem?_eq_getElem hs] at hv
    simp only [Option.bind_some, Array.getElem?_eq_getElem hs]
    rw [show a.tmps[d] = undef from hv]
    rfl
  rw [if_neg (by simp [Region.wanted, hg, hy])]
  exact h2
/-- A frame written out. -/
def spread : Nat → Nat → Array Value → List Value
  | 0, _, _ => []
  | n + 1, i, A => A.getD i undef :: spread n (i + 1) A
theorem spread_get (A : Array Value) : ∀ (n i j : Nat), j < n → (spread n i A)[j]? = some (A.getD (i + j) undef)
  | 0, _, _, h => absurd h (by omega)
  | n + 1, i, 0, _ => rfl
  | n + 1, i, j + 1, h => by
    have := spread_get A n (i + 1) j (by omega)
    simp only [spread, List.getElem?_cons_succ, this]
    congr 2
    omega
theorem spread_len (A : Array Value) : ∀ (n i : Nat), (spread n i A).length = n
  | 0, _ => rfl
  | n + 1, i => by simp [spread, spread_len A n]
theorem spread_eq (A : Array Value) : A = (spread A.size 0 A).toArray := by
  apply Array.ext
  · simp [spread_len]
  · intro j h1 h2
    have := spread_get A A.size 0 j h1
    rw [Nat.zero_add] at this
    have e : (spread A.size 0 A).toArray[j]? = some (A.getD j undef) := by simpa using this
    rw [Array.getElem?_eq_getElem h2] at e
    have e' := Option.some.inj e
    rw [e', Array.getD_eq_getD_getElem?, Array.getElem?_eq_getElem h1]
    rfl
/-- A frame's slots, a letter for each. -/
def slots (f : Nat → Value) : Nat → Nat → List Value
  | 0, _ => []
  | n + 1, i => f i :: slots f n (i + 1)
theorem slots_spread (T : Array Value) : ∀ (n i : Nat), spread n i T = slots (fun s => T.getD s undef) n i
  | 0, _ => rfl
  | n + 1, i => by simp only [spread, slots, slots_spread T n]
theorem frame_slots (T : Array Value) (n : Nat) (h : T.size = n) : ∃ f : Nat → Value, (∀ s, T.getD s undef = f s) ∧ T = (slots f n 0).toArray :=
  ⟨fun s => T.getD s undef, fun _ => rfl, by rw [← slots_spread, ← h]; exact spread_eq T⟩
end
end Go.Proofs.YtjaklnabidbmiaaDoor

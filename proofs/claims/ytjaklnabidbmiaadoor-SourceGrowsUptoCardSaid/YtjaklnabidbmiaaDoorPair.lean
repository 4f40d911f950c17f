/- The statement 'x, y := f(a), g(b)' where y lies in a variable of its own: one law, in whatever order. -/
import Derived.Test.YtjaklnabidbmiaaDoorInv
import Derived.Test.YtjaklnabidbmiaaDoorGen
namespace Go.Proofs.YtjaklnabidbmiaaDoor
open Go.RowKit
set_option linter.unusedSimpArgs false
set_option linter.unusedVariables false

theorem put_get {a : Act} {d s : Nat} {v : Value} (hd : d < a.tmps.size) : (a.put (some d) v).tmps.getD s undef = if s = d then v else a.tmps.getD s undef := by
  by_cases h : s = d
  · subst h
    simp [Act.put, hd]
  · rw [if_neg h]
    simp [Act.put, Array.getElem?_setIfInBounds_ne (show d ≠ s from fun e => h e.symm)]
theorem put_size {a : Act} {d : Option Nat} {v : Value} : (a.put d v).tmps.size = a.tmps.size := by cases d <;> simp [Act.put]
theorem put_defers {a : Act} {d : Option Nat} {v : Value} : (a.put d v).defers = a.defers := by cases d <;> simp [Act.put]
/-- All blocks but one. -/
abbrev but (gO : Option Nat) (w : World) : World := only (butB 0 gO) w
theorem but_none (w : World) : Sub w (but none w) := fun _ _ _ h => only_some.2 ⟨by simp [butB], h⟩
theorem but_sub (gO : Option Nat) (w : World) : Sub (but gO w) w := only_sub _ _
theorem but_ext (gO : Option Nat) {w w' : World} (h : Ext w w') : Sub (but gO w) (but gO w') := only_ext _ h.sub
theorem but_new {w w' : World} {g : Nat} (h : Ext w w') (hg : w.heap.size ≤ g) : Sub w (but (some g) w') := fun b o v x => only_some.2 ⟨butB_iff.2 ⟨Nat.zero_le _, fun e => by
  have := World.block_lt_of_cell? w _ x
  simp only [Option.some.injEq] at e
  subst e
  exact absurd this (by show ¬ g < w.heap.size; omega)⟩, h.cell x⟩
theorem but_frm {w : World} {n : Nat} {gO : Option Nat} (h : ∀ g, gO = some g → g < n) : Sub (frm n w) (but gO w) := fun b o v x => by
  obtain ⟨h1, h2⟩ := only_some.1 x
  have hb : n ≤ b := by simpa [fromB] using h1
  exact only_some.2 ⟨butB_iff.2 ⟨Nat.zero_le _, fun e => by have := h b e; omega⟩, h2⟩
theorem but_sets {g : Nat} : ∀ (cs : List Value) (o : Nat) (w : World), Sub (but (some g) w) (but (some g) (w.setCells g o cs))
  | [], _, w => Sub.rf _
  | c :: cs, o, w => by
    rw [World.setCells]
    refine Sub.tr ?_ (but_sets cs (o + 1) _)
    intro b k v h
    obtain ⟨h1, h2⟩ := only_some.1 h
    refine only_some.2 ⟨h1, ?_⟩
    have hb : b ≠ g := fun e => (butB_iff.1 h1).2 (by rw [e])
    have e : (w.setCell ⟨g, o, none⟩ c).heap[b]? = w.heap[b]? := Below.heap_setCell w _ c b hb
    unfold World.cell? at h2 ⊢
    rw [e]
    exact h2

theorem after_ex {es : Array Edge} {k : Nat} (h : es.any (fun e => Region.binds .any e && e.on == k) = true) : ∃ e ∈ es, Region.binds .any e = true ∧ e.on = k := by
  obtain ⟨i, hi, he⟩ := Array.any_eq_true.1 h
  rw [Bool.and_eq_true, beq_iff_eq] at he
  exact ⟨es[i], Array.getElem_mem hi, he.1, he.2⟩
theorem after_six {es : Array Edge} (h : (List.range 6).all (fun k => es.any (fun e => Region.binds .any e && e.on == k)) = true) : ∀ k, k < 6 → ∃ e ∈ es, Region.binds .any e = true ∧ e.on = k := fun k hk =>
  after_ex (List.all_eq_true.1 h k (List.mem_range.2 hk))
section
variable {P : Program} {Q : Exit → Act → World → Prop} {o0 o1 o2 o3 o4 o5 o6 : Oper}
/-- How things stand while it runs. -/
structure PairInv (RF : World → Value → Prop) (RG : World → List Value → Prop) (s0 s1 s2 s3 s4 s5 n : Nat) (vd : Value) (xs : List Value) (a0 : Act) (W0 : World) (L : Array Bool) (gO : Option Nat) (v : Value) (ys : List Value) (a : Act) (w : World) : Prop where
  defers : a.defers = a0.defers
  size : a.tmps.size = a0.tmps.size
  rest : ∀ s, s ≠ s0 → s ≠ s1 → s ≠ s2 → s ≠ s3 → s ≠ s4 → s ≠ s5 → a.tmps.getD s undef = a0.tmps.getD s undef
  ext : Ext W0 w
  f0 : L.getD 0 false = true → a.tmps.getD s0 undef = vd
  f1 : L.getD 1 false = true → a.tmps.getD s1 undef = v ∧ RF (but gO w) v
  f2 : L.getD 2 false = true → a.tmps.getD s2 undef = .agg xs.toArray
  f3 : L.getD 3 false = true → a.tmps.getD s3 undef = .agg ys.toArray ∧ (ys.length = n ∧ ∀ u ∈ ys, u.oneCell' = true) ∧ RG (but gO w) ys
  f4 : L.getD 4 false = true → ∃ g, gO = some g ∧ a.tmps.getD s4 undef = .pointer (some ⟨g, 0, none⟩) ∧ W0.heap.size ≤ g ∧ g < w.heap.size ∧ w.there g 0 n
  f4n : L.getD 4 false = false → gO = none
  f5 : L.getD 5 false = true → a.tmps.getD s5 undef = v
  f6 : L.getD 6 false = true → ∃ g, gO = some g ∧ cellsAt w g 0 ys
  last : L.getD 6 false = true → ∀ j, j < 6 → L.getD j false = true
  l51 : L.getD 5 false = true → L.getD 1 false = true
theorem wp_pair {id : Nat} (RF : World → Value → Prop) (RG : World → List Value → Prop) (hRF : ∀ w w' v, Sub w w' → RF w v → RF w' v) (hRG : ∀ w w' v, Sub w w' → RG w v → RG w' v)
    (s0 s1 s2 s3 s4 s5 n : Nat) (vd : Value) (xs : List Value) {a0 : Act} {W0 : World} (hP : P.follows .mixedOrders = true) (hf : fitOps #[o0, o1, o2, o3, o4, o5, o6] = true)
    (hg : o0.guard = none ∧ o1.guard = none ∧ o2.guard = none ∧ o3.guard = none ∧ o4.guard = none ∧ o5.guard = none ∧ o6.guard = none)
    (hd : o0.dst = some s0 ∧ o1.dst = some s1 ∧ o2.dst = some s2 ∧ o3.dst = some s3 ∧ o4.dst = some s4 ∧ o5.dst = some s5 ∧ o6.dst = none)
    (hne : [s0, s1, s2, s3, s4, s5].Nodup) (hs : s0 < a0.tmps.size ∧ s1 < a0.tmps.size ∧ s2 < a0.tmps.size ∧ s3 < a0.tmps.size ∧ s4 < a0.tmps.size ∧ s5 < a0.tmps.size)
    (ha1 : ∃ e ∈ o1.after, Region.binds .any e = true ∧ e.on = 0) (ha3 : ∃ e ∈ o3.after, Region.binds .any e = true ∧ e.on = 2)
    (ha5 : ∃ e ∈ o5.after, Region.binds .any e = true ∧ e.on = 1)
    (ha6 : ∀ i, i < 6 → ∃ e ∈ o6.after, Region.binds .any e = true ∧ e.on = i)
    (l0 : ∀ a W K, (∀ s, s ≠ s0 → s ≠ s1 → s ≠ s2 → s ≠ s3 → s ≠ s4 → s ≠ s5 → a.tmps.getD s undef = a0.tmps.getD s undef) → K (a.put (some s0) vd) W → o0.wp P a W K Q)
    (l1 : ∀ a W K, Ext W0 W → a.tmps.getD s0 undef = vd → (∀ v w', Ext W w' → RF (frm W.heap.size w') v → K (a.put (some s1) v) w') → o1.wp P a W K Q)
    (l2 : ∀ a W K, Ext W0 W → (∀ s, s ≠ s0 → s ≠ s1 → s ≠ s2 → s ≠ s3 → s ≠ s4 → s ≠ s5 → a.tmps.getD s undef = a0.tmps.getD s undef) → K (a.put (some s2) (.agg xs.toArray)) W → o2.wp P a W K Q)
    (l3 : ∀ a W K, Ext W0 W → a.tmps.getD s2 undef = .agg xs.toArray → (∀ ys w', Ext W w' → (ys.length = n ∧ ∀ u ∈ ys, u.oneCell' = true) → RG (frm W.heap.size w') ys → K (a.put (some s3) (.agg ys.toArray)) w') → o3.wp P a W K Q)
    (l4 : ∀ a W K, (∀ w', Ext W w' → w'.heap.size = W.heap.size + 1 → w'.there W.heap.size 0 n → K (a.put (some s4) (.pointer (some ⟨W.heap.size, 0, none⟩))) w') → o4.wp P a W K Q)
    (l5 : ∀ a W K v, a.tmps.getD s1 undef = v → K (a.put (some s5) v) W → o5.wp P a W K Q)
    (l6 : ∀ a W K g ys, a.tmps.getD s4 undef = .pointer (some ⟨g, 0, none⟩) → a.tmps.getD s3 undef = .agg ys.toArray → W.there g 0 n → ys.length = n → (∀ u ∈ ys, u.oneCell' = true) → K (a.put none undef) (W.setCells g 0 ys) → o6.wp P a W K Q)
    (hend : ∀ a w g v ys, Ext W0 w → a.defers = a0.defers → a.tmps.size = a0.tmps.size → W0.heap.size ≤ g → a.tmps.getD s5 undef = v → RF (but (some g) w) v → a.tmps.getD s4 undef = .pointer (some ⟨g, 0, none⟩) → ys.length = n → cellsAt w g 0 ys → RG (but (some g) w) ys →
      (∀ s, s ≠ s0 → s ≠ s1 → s ≠ s2 → s ≠ s3 → s ≠ s4 → s ≠ s5 → a.tmps.getD s undef = a0.tmps.getD s undef) → Q .normal a w) :
    (Code.region id #[o0, o1, o2, o3, o4, o5, o6] true).wp P Q a0 W0 := by
  obtain ⟨g0, g1, g2, g3, g4, g5, g6⟩ := hg
  obtain ⟨d0, d1, d2, d3, d4, d5, d6⟩ := hd
  obtain ⟨z0, z1, z2, z3, z4, z5⟩ := hs
  simp only [List.nodup_cons, List.mem_cons, List.not_mem_nil, or_false, not_or, not_false_eq_true, List.nodup_nil, and_true] at hne
  obtain ⟨⟨n01, n02, n03, n04, n05⟩, ⟨n12, n13, n14, n15⟩, ⟨n23, n24, n25⟩, ⟨n34, n35⟩, n45⟩ := hne
  refine wp_region_inv (fun L a w => ∃ gO v ys, PairInv RF RG s0 s1 s2 s3 s4 s5 n vd xs a0 W0 L gO v ys a w) hP hf ?_ ?_ ?_
  · have hl : ∀ i, (Array.replicate (Array.size #[o0, o1, o2, o3, o4, o5, o6]) false).getD i false = false := fun i => by
      rw [Array.getD_eq_getD_getElem?, Array.getElem?_replicate]
      split <;> rfl
    exact ⟨none, undef, [], ⟨rfl, rfl, fun _ _ _ _ _ _ _ => rfl, (Ext.rf W0).dr, fun h => by (rw [hl] at h; cases h), fun h => by (rw [hl] at h; cases h), fun h => by (rw [hl] at h; cases h), fun h => by (rw [hl] at h; cases h), fun h => by (rw [hl] at h; cases h), fun _ => rfl, fun h => by (rw [hl] at h; cases h), fun h => by (rw [hl] at h; cases h), fun h => by (rw [hl] at h; cases h), fun h => by (rw [hl] at h; cases h)⟩⟩
  · rintro i o L a w ho hL hi hafter ⟨gO, v, ys, I⟩ K hK
    have hi7 : i < 7 := by
      have := (Array.getElem?_eq_some_iff.1 ho).1
      simpa using this
    have hon : (L.setIfInBounds i true).getD i false = true := by
      rw [Array.getD_eq_getD_getElem?, Array.getElem?_setIfInBounds_self]
      have : i < L.size := by rw [hL]; exact hi7
      simp [this]
    have hrest : ∀ s, s ≠ s0 → s ≠ s1 → s ≠ s2 → s ≠ s3 → s ≠ s4 → s ≠ s5 → a.tmps.getD s undef = a0.tmps.getD s undef := I.rest
    have hr : ∀ j, i ≠ j → (L.setIfInBounds i true).getD j false = L.getD j false := fun j h => ran h
    have h6 : i < 6 → L.getD 6 false = false := fun h => by
      cases h6 : L.getD 6 false with
      | false => rfl
      | true => rw [I.last h6 i h] at hi; cases hi
    match i, hi7 with
    | 0, _ =>
      simp at ho
      subst ho
      have h6 := h6 (by omega)
      refine step_free g0 ?_
      refine l0 a w K hrest (hK _ _ ⟨gO, v, ys, ?_⟩)
      exact ⟨put_defers.trans I.defers,
        put_size.trans I.size,
        fun s h0 h1 h2 h3 h4 h5 => by rw [put_get (by rw [I.size]; exact z0), if_neg h0]; exact I.rest s h0 h1 h2 h3 h4 h5,
        I.ext,
        fun _ => by rw [put_get (by rw [I.size]; exact z0), if_pos rfl],
        fun h => by obtain ⟨e1, e2⟩ := I.f1 ((hr 1 (by omega)).symm.trans h); exact ⟨by rw [put_get (by rw [I.size]; exact z0), if_neg (Ne.symm n01)]; exact e1, e2⟩,
        fun h => by rw [put_get (by rw [I.size]; exact z0), if_neg (Ne.symm n02)]; exact I.f2 ((hr 2 (by omega)).symm.trans h),
        fun h => by obtain ⟨e1, e2, e3⟩ := I.f3 ((hr 3 (by omega)).symm.trans h); exact ⟨by rw [put_get (by rw [I.size]; exact z0), if_neg (Ne.symm n03)]; exact e1, e2, e3⟩,
        fun h => by obtain ⟨g, e1, e2, e3, e4, e5⟩ := I.f4 ((hr 4 (by omega)).symm.trans h); exact ⟨g, e1, by rw [put_get (by rw [I.size]; exact z0), if_neg (Ne.symm n04)]; exact e2, e3, e4, e5⟩,
        fun h => I.f4n ((hr 4 (by omega)).symm.trans h),
        fun h => by rw [put_get (by rw [I.size]; exact z0), if_neg (Ne.symm n05)]; exact I.f5 ((hr 5 (by omega)).symm.trans h),
        fun h => (by rw [hr 6 (by omega), h6] at h; cases h),
        fun h => (by rw [hr 6 (by omega), h6] at h; cases h),
        fun h => (hr 1 (by omega)).trans (I.l51 ((hr 5 (by omega)).symm.trans h))⟩
    | 1, _ =>
      simp at ho
      subst ho
      have h6 := h6 (by omega)
      refine step_free g1 ?_
      refine l1 a w K I.ext (I.f0 (by obtain ⟨e, he, hb, hn⟩ := ha1; have := hafter e he hb; rwa [hn] at this)) (fun v' w' hx hv => hK _ _ ⟨gO, v', ys, ?_⟩)
      have hgl : ∀ g, gO = some g → g < w.heap.size := fun g hg => by
        cases h4 : L.getD 4 false with
        | false => rw [I.f4n h4] at hg; cases hg
        | true => obtain ⟨g', e1, _, _, e4, _⟩ := I.f4 h4; rw [hg] at e1; cases e1; exact e4
      exact ⟨put_defers.trans I.defers,
        put_size.trans I.size,
        fun s h0 h1 h2 h3 h4 h5 => by rw [put_get (by rw [I.size]; exact z1), if_neg h1]; exact I.rest s h0 h1 h2 h3 h4 h5,
        I.ext.tr hx,
        fun h => by rw [put_get (by rw [I.size]; exact z1), if_neg n01]; exact I.f0 ((hr 0 (by omega)).symm.trans h),
        fun _ => ⟨by rw [put_get (by rw [I.size]; exact z1), if_pos rfl], hRF _ _ _ (but_frm hgl) hv⟩,
        fun h => by rw [put_get (by rw [I.size]; exact z1), if_neg (Ne.symm n12)]; exact I.f2 ((hr 2 (by omega)).symm.trans h),
        fun h => by obtain ⟨e1, e2, e3⟩ := I.f3 ((hr 3 (by omega)).symm.trans h); exact ⟨by rw [put_get (by rw [I.size]; exact z1), if_neg (Ne.symm n13)]; exact e1, e2, hRG _ _ _ (but_ext _ hx) e3⟩,
        fun h => by obtain ⟨g, e1, e2, e3, e4, e5⟩ := I.f4 ((hr 4 (by omega)).symm.trans h); exact ⟨g, e1, by rw [put_get (by rw [I.size]; exact z1), if_neg (Ne.symm n14)]; exact e2, e3, Nat.lt_of_lt_of_le e4 hx.size, there_ext hx e5⟩,
        fun h => I.f4n ((hr 4 (by omega)).symm.trans h),
        fun h => (by exfalso; have h5 := (hr 5 (by omega)).symm.trans h; rw [I.l51 h5] at hi; cases hi),
        fun h => (by rw [hr 6 (by omega), h6] at h; cases h),
        fun h => (by rw [hr 6 (by omega), h6] at h; cases h),
        fun _ => hon⟩
    | 2, _ =>
      simp at ho
      subst ho
      have h6 := h6 (by omega)
      refine step_free g2 ?_
      refine l2 a w K I.ext hrest (hK _ _ ⟨gO, v, ys, ?_⟩)
      exact ⟨put_defers.trans I.defers,
        put_size.trans I.size,
        fun s h0 h1 h2 h3 h4 h5 => by rw [put_get (by rw [I.size]; exact z2), if_neg h2]; exact I.rest s h0 h1 h2 h3 h4 h5,
        I.ext,
        fun h => by rw [put_get (by rw [I.size]; exact z2), if_neg n02]; exact I.f0 ((hr 0 (by omega)).symm.trans h),
        fun h => by obtain ⟨e1, e2⟩ := I.f1 ((hr 1 (by omega)).symm.trans h); exact ⟨by rw [put_get (by rw [I.size]; exact z2), if_neg n12]; exact e1, e2⟩,
        fun _ => by rw [put_get (by rw [I.size]; exact z2), if_pos rfl],
        fun h => by obtain ⟨e1, e2, e3⟩ := I.f3 ((hr 3 (by omega)).symm.trans h); exact ⟨by rw [put_get (by rw [I.size]; exact z2), if_neg (Ne.symm n23)]; exact e1, e2, e3⟩,
        fun h => by obtain ⟨g, e1, e2, e3, e4, e5⟩ := I.f4 ((hr 4 (by omega)).symm.trans h); exact ⟨g, e1, by rw [put_get (by rw [I.size]; exact z2), if_neg (Ne.symm n24)]; exact e2, e3, e4, e5⟩,
        fun h => I.f4n ((hr 4 (by omega)).symm.trans h),
        fun h => by rw [put_get (by rw [I.size]; exact z2), if_neg (Ne.symm n25)]; exact I.f5 ((hr 5 (by omega)).symm.trans h),
        fun h => (by rw [hr 6 (by omega), h6] at h; cases h),
        fun h => (by rw [hr 6 (by omega), h6] at h; cases h),
        fun h => (hr 1 (by omega)).trans (I.l51 ((hr 5 (by omega)).symm.trans h))⟩
    | 3, _ =>
      simp at ho
      subst ho
      have h6 := h6 (by omega)
      refine step_free g3 ?_
      refine l3 a w K I.ext (I.f2 (by obtain ⟨e, he, hb, hn⟩ := ha3; have := hafter e he hb; rwa [hn] at this)) (fun ys' w' hx hys hv => hK _ _ ⟨gO, v, ys', ?_⟩)
      have hgl : ∀ g, gO = some g → g < w.heap.size := fun g hg => by
        cases h4 : L.getD 4 false with
        | false => rw [I.f4n h4] at hg; cases hg
        | true => obtain ⟨g', e1, _, _, e4, _⟩ := I.f4 h4; rw [hg] at e1; cases e1; exact e4
      exact ⟨put_defers.trans I.defers,
        put_size.trans I.size,
        fun s h0 h1 h2 h3 h4 h5 => by rw [put_get (by rw [I.size]; exact z3), if_neg h3]; exact I.rest s h0 h1 h2 h3 h4 h5,
        I.ext.tr hx,
        fun h => by rw [put_get (by rw [I.size]; exact z3), if_neg n03]; exact I.f0 ((hr 0 (by omega)).symm.trans h),
        fun h => by obtain ⟨e1, e2⟩ := I.f1 ((hr 1 (by omega)).symm.trans h); exact ⟨by rw [put_get (by rw [I.size]; exact z3), if_neg n13]; exact e1, hRF _ _ _ (but_ext _ hx) e2⟩,
        fun h => by rw [put_get (by rw [I.size]; exact z3), if_neg n23]; exact I.f2 ((hr 2 (by omega)).symm.trans h),
        fun _ => ⟨by rw [put_get (by rw [I.size]; exact z3), if_pos rfl], hys, hRG _ _ _ (but_frm hgl) hv⟩,
        fun h => by obtain ⟨g, e1, e2, e3, e4, e5⟩ := I.f4 ((hr 4 (by omega)).symm.trans h); exact ⟨g, e1, by rw [put_get (by rw [I.size]; exact z3), if_neg (Ne.symm n34)]; exact e2, e3, Nat.lt_of_lt_of_le e4 hx.size, there_ext hx e5⟩,
        fun h => I.f4n ((hr 4 (by omega)).symm.trans h),
        fun h => by rw [put_get (by rw [I.size]; exact z3), if_neg (Ne.symm n35)]; exact I.f5 ((hr 5 (by omega)).symm.trans h),
        fun h => (by rw [hr 6 (by omega), h6] at h; cases h),
        fun h => (by rw [hr 6 (by omega), h6] at h; cases h),
        fun h => (hr 1 (by omega)).trans (I.l51 ((hr 5 (by omega)).symm.trans h))⟩
    | 4, _ =>
      simp at ho
      subst ho
      have h6 := h6 (by omega)
      refine step_free g4 ?_
      have hgn : gO = none := I.f4n hi
      subst hgn
      refine l4 a w K (fun w' hx hsz hth => hK _ _ ⟨some w.heap.size, v, ys, ?_⟩)
      exact ⟨put_defers.trans I.defers,
        put_size.trans I.size,
        fun s h0 h1 h2 h3 h4 h5 => by rw [put_get (by rw [I.size]; exact z4), if_neg h4]; exact I.rest s h0 h1 h2 h3 h4 h5,
        I.ext.tr hx,
        fun h => by rw [put_get (by rw [I.size]; exact z4), if_neg n04]; exact I.f0 ((hr 0 (by omega)).symm.trans h),
        fun h => by obtain ⟨e1, e2⟩ := I.f1 ((hr 1 (by omega)).symm.trans h); exact ⟨by rw [put_get (by rw [I.size]; exact z4), if_neg n14]; exact e1, hRF _ _ _ ((but_sub _ _).tr (but_new hx (Nat.le_refl _))) e2⟩,
        fun h => by rw [put_get (by rw [I.size]; exact z4), if_neg n24]; exact I.f2 ((hr 2 (by omega)).symm.trans h),
        fun h => by obtain ⟨e1, e2, e3⟩ := I.f3 ((hr 3 (by omega)).symm.trans h); exact ⟨by rw [put_get (by rw [I.size]; exact z4), if_neg n34]; exact e1, e2, hRG _ _ _ ((but_sub _ _).tr (but_new hx (Nat.le_refl _))) e3⟩,
        fun _ => ⟨w.heap.size, rfl, by rw [put_get (by rw [I.size]; exact z4), if_pos rfl], I.ext.size, by omega, hth⟩,
        fun h => (by rw [hon] at h; cases h),
        fun h => by rw [put_get (by rw [I.size]; exact z4), if_neg (Ne.symm n45)]; exact I.f5 ((hr 5 (by omega)).symm.trans h),
        fun h => (by rw [hr 6 (by omega), h6] at h; cases h),
        fun h => (by rw [hr 6 (by omega), h6] at h; cases h),
        fun h => (hr 1 (by omega)).trans (I.l51 ((hr 5 (by omega)).symm.trans h))⟩
    | 5, _ =>
      simp at ho
      subst ho
      have h6 := h6 (by omega)
      refine step_free g5 ?_
      refine l5 a w K v (I.f1 (by obtain ⟨e, he, hb, hn⟩ := ha5; have := hafter e he hb; rwa [hn] at this)).1 (hK _ _ ⟨gO, v, ys, ?_⟩)
      exact ⟨put_defers.trans I.defers,
        put_size.trans I.size,
        fun s h0 h1 h2 h3 h4 h5 => by rw [put_get (by rw [I.size]; exact z5), if_neg h5]; exact I.rest s h0 h1 h2 h3 h4 h5,
        I.ext,
        fun h => by rw [put_get (by rw [I.size]; exact z5), if_neg n05]; exact I.f0 ((hr 0 (by omega)).symm.trans h),
        fun h => by obtain ⟨e1, e2⟩ := I.f1 ((hr 1 (by omega)).symm.trans h); exact ⟨by rw [put_get (by rw [I.size]; exact z5), if_neg n15]; exact e1, e2⟩,
        fun h => by rw [put_get (by rw [I.size]; exact z5), if_neg n25]; exact I.f2 ((hr 2 (by omega)).symm.trans h),
        fun h => by obtain ⟨e1, e2, e3⟩ := I.f3 ((hr 3 (by omega)).symm.trans h); exact ⟨by rw [put_get (by rw [I.size]; exact z5), if_neg n35]; exact e1, e2, e3⟩,
        fun h => by obtain ⟨g, e1, e2, e3, e4, e5⟩ := I.f4 ((hr 4 (by omega)).symm.trans h); exact ⟨g, e1, by rw [put_get (by rw [I.size]; exact z5), if_neg n45]; exact e2, e3, e4, e5⟩,
        fun h => I.f4n ((hr 4 (by omega)).symm.trans h),
        fun _ => by rw [put_get (by rw [I.size]; exact z5), if_pos rfl],
        fun h => (by rw [hr 6 (by omega), h6] at h; cases h),
        fun h => (by rw [hr 6 (by omega), h6] at h; cases h),
        fun _ => (hr 1 (by omega)).trans (by obtain ⟨e, he, hb, hn⟩ := ha5; have := hafter e he hb; rwa [hn] at this)⟩
    | 6, _ =>
      simp at ho
      subst ho
      have hb6 : ∀ j, j < 6 → L.getD j false = true := fun j hj => by
        obtain ⟨e, he, hb, hn⟩ := ha6 j hj
        have := hafter e he hb
        rwa [hn] at this
      obtain ⟨g, e1, e2, e3, e4, e5⟩ := I.f4 (hb6 4 (by omega))
      subst e1
      obtain ⟨k1, k2⟩ := I.f1 (hb6 1 (by omega))
      obtain ⟨m1, m2, m3⟩ := I.f3 (hb6 3 (by omega))
      refine step_free g6 ?_
      refine l6 a w K g ys e2 m1 e5 m2.1 m2.2 (hK _ _ ⟨some g, v, ys, ?_⟩)
      have hx : Ext W0 (w.setCells g 0 ys) := I.ext.sets e3 ys 0
      have hrg : (w.setCells g 0 ys).rangeAt g 0 ys := World.rangeAt_setCells_same _ _ _ _ (by rw [m2.1]; exact e5)
      exact ⟨I.defers, I.size, I.rest, hx, fun h => I.f0 (hb6 0 (by omega)), fun _ => ⟨k1, hRF _ _ _ (but_sets _ _ _) k2⟩, fun _ => I.f2 (hb6 2 (by omega)), fun _ => ⟨m1, m2, hRG _ _ _ (but_sets _ _ _) m3⟩,
        fun _ => ⟨g, rfl, e2, e3, by rw [size_sets]; exact e4, World.there_setCells e5 g 0 ys⟩, fun h => (by rw [hr 4 (by omega), hb6 4 (by omega)] at h; cases h), fun _ => I.f5 (hb6 5 (by omega)), fun _ => ⟨g, rfl, hrg⟩, fun _ j hj => (hr j (by omega)).trans (hb6 j hj), fun _ => (hr 1 (by omega)).trans (hb6 1 (by omega))⟩
  · rintro L a w hL hall ⟨gO, v, ys, I⟩
    have h := fun i (hi : i < 7) => hall i (by simpa using hi)
    obtain ⟨g, hg1, hg2, hg3, hg4, hg5⟩ := I.f4 (h 4 (by omega))
    obtain ⟨g', hg', hc⟩ := I.f6 (h 6 (by omega))
    subst hg1
    cases hg'
    obtain ⟨h1, h2⟩ := I.f1 (h 1 (by omega))
    obtain ⟨h3, h4, h5⟩ := I.f3 (h 3 (by omega))
    exact hend a w g v ys I.ext I.defers I.size hg3 (I.f5 (h 5 (by omega))) h2 hg2 h4.1 hc h5 I.rest
end
end Go.Proofs.YtjaklnabidbmiaaDoor

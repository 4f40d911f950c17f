/- A region that draws its order, by an invariant over what has run. -/
import Derived.Test.YtjaklnabidbmiaaDoorMono
namespace Go.Proofs.YtjaklnabidbmiaaDoor
open Go.RowKit
set_option linter.unusedSimpArgs false
set_option linter.unusedVariables false
section
variable {P : Program} {ops : Array Oper} {Q : Exit → Act → World → Prop}
theorem region_inv (Inv : Array Bool → Act → World → Prop) (hf : fitOps ops = true)
    (hstep : ∀ i o listed a w, ops[i]? = some o → listed.size = ops.size → listed.getD i false = false → (∀ e ∈ o.after, Region.binds .any e = true → listed.getD e.on false = true) → Inv listed a w →
      ∀ K : Act → World → Prop, (∀ a' w', Inv (listed.setIfInBounds i true) a' w' → K a' w') → if Region.wanted o (yielded ops a.tmps) = true then o.wp P a w K Q else K (a.put o.dst undef) w)
    (hend : ∀ listed a w, listed.size = ops.size → (∀ i, i < ops.size → listed.getD i false = true) → Inv listed a w → Q .normal a w) :
    ∀ (fuel : Nat) (listed : Array Bool) (a : Act) (w : World), listed.size = ops.size → listed.toList.count false ≤ fuel → Inv listed a w → wpAny P .any ops Q fuel listed a w := by
  have done : ∀ (listed : Array Bool) (a : Act) (w : World), listed.size = ops.size → Region.ready .any ops listed = [] → Inv listed a w → Q .normal a w := by
    intro listed a w hs hr st
    exact hend listed a w hs (not_ready hf hs hr) st
  have lt_of_ready : ∀ (listed : Array Bool) (i : Nat), i ∈ Region.ready .any ops listed → i < ops.size := fun listed i hi => List.mem_range.1 (List.mem_filter.1 hi).1
  intro fuel
  induction fuel with
  | zero =>
    intro listed a w hs hc st
    have hr : Region.ready .any ops listed = [] := by
      rw [List.eq_nil_iff_forall_not_mem]
      intro i hi
      have hlt := lt_of_ready listed i hi
      have h2 := (List.mem_filter.1 hi).2
      simp only [Bool.and_eq_true, Bool.not_eq_true'] at h2
      have h3 := h2.1
      rw [Array.getD_eq_getD_getElem?, Array.getElem?_eq_getElem (by omega)] at h3
      have : false ∈ listed.toList := by
        have h4 : listed[i]'(by omega) = false := by simpa using h3
        rw [← h4]
        exact Array.mem_toList_iff.2 (Array.getElem_mem _)
      have := List.count_pos_iff.2 this
      omega
    exact ⟨hr, done listed a w hs hr st⟩
  | succ fuel ih =>
    intro listed a w hs hc st
    refine ⟨fun hr => done listed a w hs hr st, fun i hi => ?_⟩
    have hlt := lt_of_ready listed i hi
    have h2 := (List.mem_filter.1 hi).2
    have ho : ops[i]? = some ops[i] := Array.getElem?_eq_getElem hlt
    simp only [ho, Option.map_some, Option.getD_some, Bool.and_eq_true, Bool.not_eq_true'] at h2
    obtain ⟨h3, h4⟩ := h2
    have h5 : listed[i]'(by omega) = false := by
      rw [Array.getD_eq_getD_getElem?, Array.getElem?_eq_getElem (by omega)] at h3
      simpa using h3
    unfold wpOp
    rw [ho]
    simp only
    have main := hstep i _ listed a w ho hs (by rw [Array.getD_eq_getD_getElem?, Array.getElem?_eq_getElem (by omega)]; simpa using h5) ?_ st (wpAny P .any ops Q fuel (listed.setIfInBounds i true)) ?_
    · split
      · rename_i hw
        rw [if_pos hw] at main
        exact .inl main
      · rename_i hw
        rw [if_neg hw] at main
        exact main
    · intro e he hb
      have := Array.all_eq_true_iff_forall_mem.1 h4 e he
      rw [hb] at this
      simpa using this
    · intro a' w' hv
      refine ih _ _ _ (by simpa using hs) ?_ hv
      rw [Array.toList_setIfInBounds, List.count_set (by simpa using (show i < listed.size by omega))]
      have h6 : listed.toList[i]'(by simpa using (show i < listed.size by omega)) = false := by simpa using h5
      have h7 : 0 < listed.toList.count false := List.count_pos_iff.2 (h6 ▸ List.getElem_mem _)
      rw [if_pos (by rw [h6]; rfl), if_neg (by decide)]
      omega
/-- The law of a region, by an invariant. -/
theorem wp_region_inv {id : Nat} (Inv : Array Bool → Act → World → Prop) {a0 : Act} {W0 : World} (hP : P.follows .mixedOrders = true) (hf : fitOps ops = true)
    (h0 : Inv (Array.replicate ops.size false) a0 W0.drew)
    (hstep : ∀ i o listed a w, ops[i]? = some o → listed.size = ops.size → listed.getD i false = false → (∀ e ∈ o.after, Region.binds .any e = true → listed.getD e.on false = true) → Inv listed a w →
      ∀ K : Act → World → Prop, (∀ a' w', Inv (listed.setIfInBounds i true) a' w' → K a' w') → if Region.wanted o (yielded ops a.tmps) = true then o.wp P a w K Q else K (a.put o.dst undef) w)
    (hend : ∀ listed a w, listed.size = ops.size → (∀ i, i < ops.size → listed.getD i false = true) → Inv listed a w → Q .normal a w) : (Code.region id ops true).wp P Q a0 W0 := by
  refine wp_region_any hP ?_
  exact region_inv Inv hf hstep hend ops.size _ a0 _ (by simp) (by simp) h0
/-- What has run stays run. -/
theorem ran {L : Array Bool} {i j : Nat} (hne : i ≠ j) : (L.setIfInBounds i true).getD j false = L.getD j false := by
  rw [Array.getD_eq_getD_getElem?, Array.getElem?_setIfInBounds_ne hne, ← Array.getD_eq_getD_getElem?]
end
end Go.Proofs.YtjaklnabidbmiaaDoor

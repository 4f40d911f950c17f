/- A region that draws its order, of which each operation but the last only adds, and the last waits for all: one law. -/
import Derived.Test.YtjaklnabidbmiaaDoorInv
namespace Go.Proofs.YtjaklnabidbmiaaDoor
open Go.RowKit
set_option linter.unusedSimpArgs false
set_option linter.unusedVariables false
section
variable {P : Program} {ops : Array Oper} {Q : Exit → Act → World → Prop}
theorem put_at {a : Act} {d s : Nat} {v : Value} (hd : d < a.tmps.size) : (a.put (some d) v).tmps.getD s undef = if s = d then v else a.tmps.getD s undef := by
  by_cases h : s = d
  · subst h
    simp [Act.put, hd]
  · rw [if_neg h]
    simp [Act.put, Array.getElem?_setIfInBounds_ne (show d ≠ s from fun e => h e.symm)]
structure LastInv (ops : Array Oper) (G : Nat → World → Value → Prop) (a0 : Act) (W0 : World) (m : Nat) (L : Array Bool) (a : Act) (w : World) : Prop where
  ext : Ext W0 w
  defers : a.defers = a0.defers
  size : a.tmps.size = a0.tmps.size
  fact : ∀ i o d, ops[i]? = some o → L.getD i false = true → o.dst = some d → G d w (a.tmps.getD d undef)
  rest : ∀ s, (dstsOfOps ops).contains s = false → a.tmps.getD s undef = a0.tmps.getD s undef
theorem wp_region_last {id : Nat} (G : Nat → World → Value → Prop) (m : Nat) (oL : Oper) {a0 : Act} {W0 : World} (hP : P.follows .mixedOrders = true) (hf : fitOps ops = true) (hm : ops.size = m + 1) (hL : ops[m]? = some oL) (hLd : oL.dst = none) (hLg : oL.guard = none)
    (hLa : (List.range m).all (fun i => oL.after.any fun e => Region.binds .any e && decide (e.on = i)) = true) (hn : (dstsOfOps ops).Nodup) (hd : (dstsOfOps ops).all (fun d => decide (d < a0.tmps.size)) = true)
    (hG : ∀ s w w' v, Ext w w' → G s w v → G s w' v)
    (hstep : StepsFrom P ops Q G a0 W0 0 (ops.toList.take m))
    (hlast : ∀ a w, Ext W0 w → a.defers = a0.defers → a.tmps.size = a0.tmps.size → (∀ d, (dstsOfOps ops).contains d = true → G d w (a.tmps.getD d undef)) →
      (∀ s, (dstsOfOps ops).contains s = false → a.tmps.getD s undef = a0.tmps.getD s undef) → oL.wp P a w (fun a' w' => Q .normal a' w') Q) :
    (Code.region id ops true).wp P Q a0 W0 := by
  have hdst : ∀ (i : Nat) (o : Oper) (d : Nat), ops[i]? = some o → o.dst = some d → d < a0.tmps.size := fun i o d ho h => of_decide_eq_true (List.all_eq_true.1 hd d (mem_dsts ho h))
  refine wp_region_inv (fun L a w => (L.getD m false = false → LastInv ops G a0 W0 m L a w) ∧ (L.getD m false = true → Q .normal a w ∧ ∀ i, i < m → L.getD i false = true)) hP hf ?_ ?_ ?_
  · have hl : ∀ i, (Array.replicate ops.size false).getD i false = false := fun i => by
      rw [Array.getD_eq_getD_getElem?, Array.getElem?_replicate]
      split <;> rfl
    exact ⟨fun _ => ⟨(Ext.rf W0).dr, rfl, rfl, fun i o d _ h => by (rw [hl] at h; cases h), fun _ _ => rfl⟩, fun h => by (rw [hl] at h; cases h)⟩
  · rintro i o L a w ho hLs hi hafter ⟨I1, I2⟩ K hK
    have him : i < m + 1 := by
      have := (Array.getElem?_eq_some_iff.1 ho).1
      omega
    have hon : (L.setIfInBounds i true).getD i false = true := by
      rw [Array.getD_eq_getD_getElem?, Array.getElem?_setIfInBounds_self]
      have : i < L.size := by omega
      simp [this]
    by_cases hlt : i < m
    · have hLm : L.getD m false = false := by
        cases h : L.getD m false with
        | false => rfl
        | true => rw [(I2 h).2 i hlt] at hi; cases hi
      have I := I1 hLm
      have hs := stepsFrom_at (ops.toList.take m) 0 i o hstep (by
        rw [List.getElem?_take_of_lt hlt]
        simpa using ho)
      rw [Nat.zero_add] at hs
      refine hs a w I.ext I.defers I.size ?_ I.rest K (fun v w' hx hv => hK _ _ ⟨fun _ => ?_, fun h => ?_⟩)
      · intro s hc
        unfold canRead at hc
        rw [ho] at hc
        simp only [Array.any_eq_true] at hc
        obtain ⟨ei, hei, hb⟩ := hc
        have he := Array.getElem_mem hei
        generalize o.after[ei] = e at he hb
        simp only [Bool.and_eq_true] at hb
        obtain ⟨hb1, hb2⟩ := hb
        cases hp : ops[e.on]? with
        | none => simp [hp] at hb2
        | some p =>
          simp only [hp, beq_iff_eq] at hb2
          exact I.fact e.on p s hp (hafter e he hb1) hb2
      · refine ⟨I.ext.tr hx, ?_, ?_, ?_, ?_⟩
        · cases h : o.dst <;> simp [Act.put, I.defers]
        · cases h : o.dst <;> simp [Act.put, I.size]
        · intro j oj d hj hl hdj
          by_cases hij : j = i
          · subst hij
            rw [ho] at hj
            cases hj
            rw [hdj, put_at (by rw [I.size]; exact hdst _ _ _ ho hdj), if_pos rfl]
            exact hv d hdj
          · rw [ran (fun e => hij e.symm)] at hl
            have hF := hG d w w' _ hx (I.fact j oj d hj hl hdj)
            cases h : o.dst with
            | none => exact hF
            | some d2 =>
              have hne : d ≠ d2 := fun e => hij (dst_one hn hj ho hdj (by rw [h, e]))
              rw [put_at (by rw [I.size]; exact hdst _ _ _ ho h), if_neg hne]
              exact hF
        · intro s hs'
          cases h : o.dst with
          | none => exact I.rest s hs'
          | some d2 =>
            have hne : s ≠ d2 := fun e => by
              have := List.contains_iff_mem.2 (mem_dsts ho h)
              rw [← e, hs'] at this
              cases this
            rw [put_at (by rw [I.size]; exact hdst _ _ _ ho h), if_neg hne]
            exact I.rest s hs'
      · rw [ran (by omega), hLm] at h
        cases h
    · obtain rfl : i = m := by omega
      rw [hL] at ho
      cases ho
      have hall : ∀ j, j < i → L.getD j false = true := fun j hj => by
        have h1 := List.all_eq_true.1 hLa j (List.mem_range.2 hj)
        obtain ⟨k, hk, he⟩ := Array.any_eq_true.1 h1
        rw [Bool.and_eq_true, decide_eq_true_eq] at he
        have := hafter _ (Array.getElem_mem hk) he.1
        rwa [he.2] at this
      have I := I1 hi
      refine step_free hLg ?_
      have hl := hlast a w I.ext I.defers I.size (fun d hc => ?_) I.rest
      · refine Oper.wp_mono ?_ hl
        intro a' w' hq
        exact hK _ _ ⟨fun h => (by rw [hon] at h; cases h), fun _ => ⟨hq, fun j hj => (ran (by omega)).trans (hall j hj)⟩⟩
      · obtain ⟨o', ho', hd'⟩ := List.mem_filterMap.1 (List.contains_iff_mem.1 hc)
        obtain ⟨j, hj, he⟩ := List.mem_iff_getElem.1 ho'
        have hj' : ops[j]? = some o' := by
          rw [← he]
          simp at hj
          simp [hj]
        have hjm : j ≠ i := fun e => by
          rw [e, hL] at hj'
          cases hj'
          rw [hLd] at hd'
          cases hd'
        have hjl : j < i + 1 := by simpa [hm] using hj
        exact I.fact j o' d hj' (hall j (by omega)) hd'
  · rintro L a w hLs hall ⟨_, I2⟩
    exact (I2 (hall m (by omega))).1
end
/-- A frame of which some slots are new, the others as they were. -/
def mix : List Bool → List Value → (Nat → Value) → Nat → List Value
  | _, [], _, _ => []
  | [], v :: l, f, k => v :: mix [] l f (k + 1)
  | true :: m, _ :: l, f, k => f k :: mix m l f (k + 1)
  | false :: m, v :: l, f, k => v :: mix m l f (k + 1)
theorem mix_len : ∀ (m : List Bool) (l : List Value) (f : Nat → Value) (k : Nat), (mix m l f k).length = l.length
  | _, [], _, _ => by simp [mix]
  | [], v :: l, f, k => by simp [mix, mix_len [] l f (k + 1)]
  | true :: m, _ :: l, f, k => by simp [mix, mix_len m l f (k + 1)]
  | false :: m, v :: l, f, k => by simp [mix, mix_len m l f (k + 1)]
theorem mix_at : ∀ (m : List Bool) (l : List Value) (f : Nat → Value) (k s : Nat), s < l.length → (mix m l f k)[s]? = if m.getD s false = true then some (f (k + s)) else l[s]?
  | _, [], _, _, _, h => by simp at h
  | [], v :: l, f, k, 0, _ => by simp [mix]
  | [], v :: l, f, k, s + 1, h => by
    rw [mix, List.getElem?_cons_succ, mix_at [] l f (k + 1) s (by simpa using h)]
    simp
  | true :: m, _ :: l, f, k, 0, _ => by simp [mix]
  | true :: m, _ :: l, f, k, s + 1, h => by
    rw [mix, List.getElem?_cons_succ, mix_at m l f (k + 1) s (by simpa using h)]
    rw [show k + 1 + s = k + (s + 1) by omega]
    simp
  | false :: m, v :: l, f, k, 0, _ => by simp [mix]
  | false :: m, v :: l, f, k, s + 1, h => by
    rw [mix, List.getElem?_cons_succ, mix_at m l f (k + 1) s (by simpa using h)]
    rw [show k + 1 + s = k + (s + 1) by omega]
    simp
theorem frame_mix (m : List Bool) (ds : List Nat) (T A : Array Value) (n : Nat) (hA : A.size = n) (hT : T.size = A.size) (hm : (List.range n).all (fun s => m.getD s false || !(ds.contains s)) = true) (h : ∀ s, ds.contains s = false → T.getD s undef = A.getD s undef) :
    ∃ f : Nat → Value, (∀ s, T.getD s undef = f s) ∧ T = (mix m A.toList f 0).toArray := by
  refine ⟨fun s => T.getD s undef, fun _ => rfl, ?_⟩
  have key : T.toList = mix m A.toList (fun s => T.getD s undef) 0 := by
    apply List.ext_getElem?
    intro s
    by_cases hs : s < A.size
    · rw [mix_at _ _ _ _ _ (by simpa using hs), Nat.zero_add]
      have h1 := List.all_eq_true.1 hm s (List.mem_range.2 (by omega))
      rw [Bool.or_eq_true] at h1
      have hsT : s < T.size := by omega
      by_cases hn : m.getD s false = true
      · rw [if_pos hn]
        have e : T.getD s undef = T[s] := by rw [Array.getD_eq_getD_getElem?, Array.getElem?_eq_getElem hsT]; rfl
        rw [e, Array.getElem?_toList, Array.getElem?_eq_getElem hsT]
      · rw [if_neg hn]
        have h2 := h s (by simpa using h1.resolve_left hn)
        rw [Array.getD_eq_getD_getElem?, Array.getD_eq_getD_getElem?, Array.getElem?_eq_getElem hsT, Array.getElem?_eq_getElem hs] at h2
        rw [Array.getElem?_toList, Array.getElem?_toList, Array.getElem?_eq_getElem hsT, Array.getElem?_eq_getElem hs]
        simpa using h2
    · rw [List.getElem?_eq_none (by rw [Array.length_toList]; omega), List.getElem?_eq_none (by rw [mix_len, Array.length_toList]; omega)]
  rw [← key]
end Go.Proofs.YtjaklnabidbmiaaDoor

/- Walks: the document's answer for levels and terms. -/
import Derived.Test.YtjaklnabidbmiaaDoorSrc
import Derived.Test.YtjaklnabidbmiaaDoorMono
namespace Go.Proofs.YtjaklnabidbmiaaDoor
open Go.RowKit
set_option linter.unusedSimpArgs false
set_option linter.unusedVariables false

/-- What the document asks of the part j. -/
def PartOk (l : List Part) (n : Int) (j : Nat) : Prop :=
  (0 ≤ (l.getD j ⟨0, 0⟩).v ∧ (l.getD j ⟨0, 0⟩).v ≤ n ∧ 0 ≤ (l.getD j ⟨0, 0⟩).p ∧ (l.getD j ⟨0, 0⟩).p ≤ 1000) ∧ (0 < j → (l.getD (j - 1) ⟨0, 0⟩).v < (l.getD j ⟨0, 0⟩).v)
theorem levelRight_parts (l : Level) (n : Int) : levelRight l n = true ↔ (∀ j, j < l.parts.length → PartOk l.parts n j) ∧ l.parts.length ≤ 9 := by
  unfold levelRight
  simp only [Bool.and_eq_true, rising_iff, decide_eq_true_eq, Bool.not_eq_true', List.any_eq_false]
  constructor
  · rintro ⟨⟨h1, h2⟩, h3⟩
    refine ⟨fun j hj => ⟨?_, fun h0 => ?_⟩, h2⟩
    · have := h3 l.parts[j] (List.getElem_mem hj)
      rw [← getD_at l.parts ⟨0, 0⟩ hj] at this
      simp only [badPart, Bool.or_eq_true, decide_eq_true_eq, not_or] at this
      omega
    · have := h1 (j - 1) (by omega)
      rwa [Nat.sub_add_cancel (by omega)] at this
  · rintro ⟨h1, h2⟩
    refine ⟨⟨fun i hi => ?_, h2⟩, fun p hp => ?_⟩
    · have := (h1 (i + 1) hi).2 (by omega)
      simpa using this
    · obtain ⟨j, hj, rfl⟩ := List.mem_iff_getElem.1 hp
      have := (h1 j hj).1
      rw [getD_at l.parts ⟨0, 0⟩ hj] at this
      simp [badPart]
      omega
theorem refLevel_no {l : Level} {n : Int} {j : Nat} (hj : j < l.parts.length) (h : ¬ PartOk l.parts n j) : levelRight l n = false := by
  cases hh : levelRight l n
  · rfl
  · exact absurd (((levelRight_parts l n).1 hh).1 j hj) h
set_option maxRecDepth 100000 in
set_option maxHeartbeats 2000000 in
theorem refLevel_any (l : Level) (n : Int) (vc : Value) (w : World) (hs : Sl RPart 2 16 w l.parts vc) :
    Calls Tryd.prog 49 #[.agg #[vc], .int .i64 n] w fun e w' => e = .returned (.bool (levelRight l n)) ∧ Ext w w' := by
  obtain ⟨A, c, rfl, hc, hr⟩ := hs
  have hln := hr.len_le
  go_enter Tryd.func49, Tryd.ntmps49
  go_wp2_with fail
  go_loopw [5] (fun i wr => ∃ j : Nat, j ≤ l.parts.length ∧ i = .int .i64 j ∧ Ext (w.alloc (.cells #[.slice A l.parts.length c] 30)) wr ∧ ∀ (x : Nat), x < j → PartOk l.parts n x) (fun i _ => l.parts.length - (intOf i).toNat)
  case atStart => exact ⟨0, by omega, rfl, Ext.rf _, fun x h => absurd h (by omega)⟩
  case round =>
    rename_i wr
    obtain ⟨j, hj, rfl, hxr, hq⟩ := hrel
    have hx0r := ((Ext.rf w).al _).tr hxr
    have Hq := hid hq
    clear hq
    have r0 : wr.cell? ⟨w.heap.size, 0, none⟩ = some (.slice A l.parts.length c) := hxr.cell (by simp [go_sem])
    have z0 := lt_of_cell r0
    by_cases hlt : j < l.parts.length
    · obtain ⟨b, o, cs, rfl, hRj, hcs0⟩ := hr.at_ hlt
      obtain ⟨rfl, hpi⟩ := hRj
      have hcs := hcs0.ext hx0r
      have b0 := hcs.at0
      have b1 := hcs.at1
      have g0 : l.parts[j] = l.parts.getD j ⟨0, 0⟩ := (getD_at l.parts ⟨0, 0⟩ hlt).symm
      rw [g0] at b0 b1
      have zb := lt_of_cell b0
      have hb1 : j = 0 ∨ (0 < j ∧ wr.cell? ⟨b, o + (j - 1) * 2, none⟩ = some (.int .i64 (l.parts.getD (j - 1) ⟨0, 0⟩).v)) := by
        rcases Nat.eq_zero_or_pos j with h | h
        · exact .inl h
        · refine .inr ⟨h, ?_⟩
          have hj1 : j - 1 < l.parts.length := by omega
          obtain ⟨b', o', cs', he, hRk, hck⟩ := hr.at_ hj1
          cases he
          obtain ⟨rfl, _⟩ := hRk
          have := (hck.ext hx0r).at0
          rwa [← getD_at l.parts ⟨0, 0⟩ hj1] at this
      generalize hpv : (l.parts.getD j ⟨0, 0⟩).v = pv at *
      generalize hpp : (l.parts.getD j ⟨0, 0⟩).p = pp at *
      generalize hqv : (l.parts.getD (j - 1) ⟨0, 0⟩).v = qv at *
      have hP : PartOk l.parts n j ↔ (0 ≤ pv ∧ pv ≤ n ∧ 0 ≤ pp ∧ pp ≤ 1000) ∧ (0 < j → qv < pv) := by
        subst hpv hpp hqv
        exact Iff.rfl
      have HP := hid hP
      clear hP hpv hpp hqv
      obtain ⟨B1, hB1⟩ : ∃ x, x = decide (pv < 0) := ⟨_, rfl⟩
      obtain ⟨X2, hX2⟩ : ∃ x, x = decide (n < pv) := ⟨_, rfl⟩
      obtain ⟨X3, hX3⟩ : ∃ x, x = decide (pp < 0) := ⟨_, rfl⟩
      obtain ⟨X4, hX4⟩ : ∃ x, x = decide (1000 < pp) := ⟨_, rfl⟩
      obtain ⟨C0, hC0⟩ : ∃ x, x = decide (0 < j) := ⟨_, rfl⟩
      obtain ⟨C5, hC5⟩ : ∃ x, x = decide (pv ≤ qv) := ⟨_, rfl⟩
      have HB := hid (And.intro hB1 (And.intro hX2 (And.intro hX3 (And.intro hX4 (And.intro hC0 hC5)))))
      clear hB1 hX2 hX3 hX4 hC0 hC5
      go_wp2_with fail
      generalize hW6 : wr.alloc (.cells #[.int .i64 pv, .int .i64 pp] 44) = W6
      have hx6 : Ext wr W6 := hW6 ▸ (Ext.rf _).al _
      have x0 : W6.cell? ⟨wr.heap.size, 0, none⟩ = some (.int .i64 pv) := by subst hW6; simp [go_sem]
      have x1 : W6.cell? ⟨wr.heap.size, 1, none⟩ = some (.int .i64 pp) := by subst hW6; simp [go_sem]
      have x2 := hx6.cell r0
      have x3 : C0 = true → W6.cell? ⟨b, o + (j - 1) * 2, none⟩ = some (.int .i64 qv) := fun h => by
        rw [HB.out.2.2.2.2.1] at h
        have h' := of_decide_eq_true h
        rcases hb1 with h0 | ⟨_, h1⟩
        · omega
        · exact hx6.cell h1
      clear hW6 hb1
      refine wp_region_steps (fun s W v => match s with
        | 19 => v = .pointer (some ⟨wr.heap.size, 0, none⟩)
        | 20 => v = .int .i64 pv
        | 21 => v = .bool B1
        | 22 => v = .bool B1
        | 23 => (B1 = false → v = .pointer (some ⟨wr.heap.size, 0, none⟩)) ∧ (¬ B1 = false → v = undef)
        | 24 => (B1 = false → v = .int .i64 pv) ∧ (¬ B1 = false → v = undef)
        | 25 => (B1 = false → v = .int .i64 n) ∧ (¬ B1 = false → v = undef)
        | 26 => (B1 = false → v = .bool X2) ∧ (¬ B1 = false → v = undef)
        | 27 => v = .bool (B1 || X2)
        | 28 => v = .bool (B1 || X2)
        | 29 => ((B1 || X2) = false → v = .pointer (some ⟨wr.heap.size, 1, none⟩)) ∧ (¬ (B1 || X2) = false → v = undef)
        | 30 => ((B1 || X2) = false → v = .int .i64 pp) ∧ (¬ (B1 || X2) = false → v = undef)
        | 31 => ((B1 || X2) = false → v = .bool X3) ∧ (¬ (B1 || X2) = false → v = undef)
        | 32 => v = .bool (B1 || X2 || X3)
        | 33 => v = .bool (B1 || X2 || X3)
        | 34 => ((B1 || X2 || X3) = false → v = .pointer (some ⟨wr.heap.size, 1, none⟩)) ∧ (¬ (B1 || X2 || X3) = false → v = undef)
        | 35 => ((B1 || X2 || X3) = false → v = .int .i64 pp) ∧ (¬ (B1 || X2 || X3) = false → v = undef)
        | 36 => ((B1 || X2 || X3) = false → v = .bool X4) ∧ (¬ (B1 || X2 || X3) = false → v = undef)
        | 37 => v = .bool (B1 || X2 || X3 || X4)
        | 38 => v = .bool (B1 || X2 || X3 || X4)
        | 39 => ((B1 || X2 || X3 || X4) = false → v = .int .i64 j) ∧ (¬ (B1 || X2 || X3 || X4) = false → v = undef)
        | 40 => ((B1 || X2 || X3 || X4) = false → v = .bool C0) ∧ (¬ (B1 || X2 || X3 || X4) = false → v = undef)
        | 41 => ((B1 || X2 || X3 || X4) = false → v = .bool C0) ∧ (¬ (B1 || X2 || X3 || X4) = false → v = undef)
        | 42 => (((B1 || X2 || X3 || X4) = false ∧ C0 = true) → v = .pointer (some ⟨w.heap.size, 0, none⟩)) ∧ (¬ ((B1 || X2 || X3 || X4) = false ∧ C0 = true) → v = undef)
        | 43 => (((B1 || X2 || X3 || X4) = false ∧ C0 = true) → v = .slice (some ⟨b, o, none⟩) l.parts.length c) ∧ (¬ ((B1 || X2 || X3 || X4) = false ∧ C0 = true) → v = undef)
        | 44 => (((B1 || X2 || X3 || X4) = false ∧ C0 = true) → v = .int .i64 j) ∧ (¬ ((B1 || X2 || X3 || X4) = false ∧ C0 = true) → v = undef)
        | 45 => (((B1 || X2 || X3 || X4) = false ∧ C0 = true) → v = .int .i64 ((j : Int) - 1)) ∧ (¬ ((B1 || X2 || X3 || X4) = false ∧ C0 = true) → v = undef)
        | 46 => (((B1 || X2 || X3 || X4) = false ∧ C0 = true) → v = .pointer (some ⟨b, o + (j - 1) * 2, none⟩)) ∧ (¬ ((B1 || X2 || X3 || X4) = false ∧ C0 = true) → v = undef)
        | 47 => (((B1 || X2 || X3 || X4) = false ∧ C0 = true) → v = .pointer (some ⟨b, o + (j - 1) * 2, none⟩)) ∧ (¬ ((B1 || X2 || X3 || X4) = false ∧ C0 = true) → v = undef)
        | 48 => (((B1 || X2 || X3 || X4) = false ∧ C0 = true) → v = .int .i64 qv) ∧ (¬ ((B1 || X2 || X3 || X4) = false ∧ C0 = true) → v = undef)
        | 49 => (((B1 || X2 || X3 || X4) = false ∧ C0 = true) → v = .pointer (some ⟨wr.heap.size, 0, none⟩)) ∧ (¬ ((B1 || X2 || X3 || X4) = false ∧ C0 = true) → v = undef)
        | 50 => (((B1 || X2 || X3 || X4) = false ∧ C0 = true) → v = .int .i64 pv) ∧ (¬ ((B1 || X2 || X3 || X4) = false ∧ C0 = true) → v = undef)
        | 51 => (((B1 || X2 || X3 || X4) = false ∧ C0 = true) → v = .bool C5) ∧ (¬ ((B1 || X2 || X3 || X4) = false ∧ C0 = true) → v = undef)
        | 52 => ((B1 || X2 || X3 || X4) = false → v = .bool (C0 && C5)) ∧ (¬ (B1 || X2 || X3 || X4) = false → v = undef)
        | 53 => v = .bool ((B1 || X2 || X3 || X4) || (C0 && C5))
        | _ => True) (by kernel_rfl) (by kernel_rfl) (of_decide_eq_true (by kernel_rfl)) (by kernel_rfl) (fun s W W' v _ h => h) ?_ ?_
      · refine ⟨?_, ?_, ?_, ?_, ?_, ?_, ?_, ?_, ?_, ?_, ?_, ?_, ?_, ?_, ?_, ?_, ?_, ?_, ?_, ?_, ?_, ?_, ?_, ?_, ?_, ?_, ?_, ?_, ?_, ?_, ?_, ?_, ?_, ?_, ?_, trivial⟩
        · intro a W hx hdf hsz hg hi K hK
          refine step_free rfl ?_
          have t6 : a.tmps.getD 6 undef = .pointer (some ⟨wr.heap.size, 0, none⟩) := hi 6 (by kernel_rfl)
          have u6 := t6
          rw [Array.getD_eq_getD_getElem?] at u6
          simp [Oper.wp, Oper.upon, execOp, Act.eval, go_sem, t6, u6]
          exact hK _ _ (Ext.rf _) (fun d' h => by cases h; exact rfl)
        · intro a W hx hdf hsz hg hi K hK
          refine step_free rfl ?_
          have t19 : a.tmps.getD 19 undef = .pointer (some ⟨wr.heap.size, 0, none⟩) := hg 19 (by kernel_rfl)
          have u19 := t19
          rw [Array.getD_eq_getD_getElem?] at u19
          have q0 := hx.cell x0
          simp [Oper.wp, Oper.upon, execOp, Act.eval, go_sem, t19, u19, q0]
          exact hK _ _ (Ext.rf _) (fun d' h => by cases h; exact rfl)
        · intro a W hx hdf hsz hg hi K hK
          refine step_free rfl ?_
          have t20 : a.tmps.getD 20 undef = .int .i64 pv := hg 20 (by kernel_rfl)
          have u20 := t20
          rw [Array.getD_eq_getD_getElem?] at u20
          simp [Oper.wp, Oper.upon, execOp, Act.eval, go_sem, t20, u20]
          exact hK _ _ (Ext.rf _) (fun d' h => by cases h; exact (by rw [HB.out.1]; rfl))
        · intro a W hx hdf hsz hg hi K hK
          refine step_free rfl ?_
          have t21 : a.tmps.getD 21 undef = .bool B1 := hg 21 (by kernel_rfl)
          have u21 := t21
          rw [Array.getD_eq_getD_getElem?] at u21
          simp [Oper.wp, Oper.upon, execOp, Act.eval, go_sem, t21, u21]
          exact hK _ _ (Ext.rf _) (fun d' h => by cases h; exact rfl)
        · intro a W hx hdf hsz hg hi K hK
          have t22 : a.tmps.getD 22 undef = .bool B1 := hg 22 (by kernel_rfl)
          refine step_guard rfl rfl (by have hz58 : a.tmps.size = 58 := hsz; omega) t22 (fun hcc => ?_) (fun hcc => hK _ _ (Ext.rf _) (fun d' h => by cases h; exact ⟨fun h => absurd h hcc, fun _ => rfl⟩))
          have t6 : a.tmps.getD 6 undef = .pointer (some ⟨wr.heap.size, 0, none⟩) := hi 6 (by kernel_rfl)
          have u6 := t6
          rw [Array.getD_eq_getD_getElem?] at u6
          simp [Oper.wp, Oper.upon, execOp, Act.eval, go_sem, t6, u6]
          exact hK _ _ (Ext.rf _) (fun d' h => by cases h; exact ⟨fun _ => rfl, fun h => absurd hcc h⟩)
        · intro a W hx hdf hsz hg hi K hK
          have t22 : a.tmps.getD 22 undef = .bool B1 := hg 22 (by kernel_rfl)
          refine step_guard rfl rfl (by have hz58 : a.tmps.size = 58 := hsz; omega) t22 (fun hcc => ?_) (fun hcc => hK _ _ (Ext.rf _) (fun d' h => by cases h; exact ⟨fun h => absurd h hcc, fun _ => rfl⟩))
          have t23 : a.tmps.getD 23 undef = .pointer (some ⟨wr.heap.size, 0, none⟩) := (show (B1 = false → a.tmps.getD 23 undef = .pointer (some ⟨wr.heap.size, 0, none⟩)) ∧ (¬ B1 = false → a.tmps.getD 23 undef = undef) from hg 23 (by kernel_rfl)).1 hcc
          have u23 := t23
          rw [Array.getD_eq_getD_getElem?] at u23
          have q0 := hx.cell x0
          simp [Oper.wp, Oper.upon, execOp, Act.eval, go_sem, t23, u23, q0]
          exact hK _ _ (Ext.rf _) (fun d' h => by cases h; exact ⟨fun _ => rfl, fun h => absurd hcc h⟩)
        · intro a W hx hdf hsz hg hi K hK
          have t22 : a.tmps.getD 22 undef = .bool B1 := hg 22 (by kernel_rfl)
          refine step_guard rfl rfl (by have hz58 : a.tmps.size = 58 := hsz; omega) t22 (fun hcc => ?_) (fun hcc => hK _ _ (Ext.rf _) (fun d' h => by cases h; exact ⟨fun h => absurd h hcc, fun _ => rfl⟩))
          have t1 : a.tmps.getD 1 undef = .int .i64 n := hi 1 (by kernel_rfl)
          have u1 := t1
          rw [Array.getD_eq_getD_getElem?] at u1
          simp [Oper.wp, Oper.upon, execOp, Act.eval, go_sem, t1, u1]
          exact hK _ _ (Ext.rf _) (fun d' h => by cases h; exact ⟨fun _ => rfl, fun h => absurd hcc h⟩)
        · intro a W hx hdf hsz hg hi K hK
          have t22 : a.tmps.getD 22 undef = .bool B1 := hg 22 (by kernel_rfl)
          refine step_guard rfl rfl (by have hz58 : a.tmps.size = 58 := hsz; omega) t22 (fun hcc => ?_) (fun hcc => hK _ _ (Ext.rf _) (fun d' h => by cases h; exact ⟨fun h => absurd h hcc, fun _ => rfl⟩))
          have t24 : a.tmps.getD 24 undef = .int .i64 pv := (show (B1 = false → a.tmps.getD 24 undef = .int .i64 pv) ∧ (¬ B1 = false → a.tmps.getD 24 undef = undef) from hg 24 (by kernel_rfl)).1 hcc
          have t25 : a.tmps.getD 25 undef = .int .i64 n := (show (B1 = false → a.tmps.getD 25 undef = .int .i64 n) ∧ (¬ B1 = false → a.tmps.getD 25 undef = undef) from hg 25 (by kernel_rfl)).1 hcc
          have u24 := t24
          rw [Array.getD_eq_getD_getElem?] at u24
          have u25 := t25
          rw [Array.getD_eq_getD_getElem?] at u25
          simp [Oper.wp, Oper.upon, execOp, Act.eval, go_sem, t24, u24, t25, u25]
          exact hK _ _ (Ext.rf _) (fun d' h => by cases h; exact ⟨fun _ => (by rw [HB.out.2.1]), fun h => absurd hcc h⟩)
        · intro a W hx hdf hsz hg hi K hK
          refine step_free rfl ?_
          have t22 : a.tmps.getD 22 undef = .bool B1 := hg 22 (by kernel_rfl)
          cases hcc : B1
          · rw [hcc] at t22
            have t26 : a.tmps.getD 26 undef = .bool X2 := (show (B1 = false → a.tmps.getD 26 undef = .bool X2) ∧ (¬ B1 = false → a.tmps.getD 26 undef = undef) from hg 26 (by kernel_rfl)).1 hcc
            have u22 := t22
            rw [Array.getD_eq_getD_getElem?] at u22
            have u26 := t26
            rw [Array.getD_eq_getD_getElem?] at u26
            simp [Oper.wp, Oper.upon, execOp, Act.eval, go_sem, t22, u22, t26, u26]
            exact hK _ _ (Ext.rf _) (fun d' h => by cases h; simp [hcc])
          · rw [hcc] at t22
            have u22 := t22
            rw [Array.getD_eq_getD_getElem?] at u22
            simp [Oper.wp, Oper.upon, execOp, Act.eval, go_sem, t22, u22]
            exact hK _ _ (Ext.rf _) (fun d' h => by cases h; simp [hcc])
        · intro a W hx hdf hsz hg hi K hK
          refine step_free rfl ?_
          have t27 : a.tmps.getD 27 undef = .bool (B1 || X2) := hg 27 (by kernel_rfl)
          have u27 := t27
          rw [Array.getD_eq_getD_getElem?] at u27
          simp [Oper.wp, Oper.upon, execOp, Act.eval, go_sem, t27, u27]
          exact hK _ _ (Ext.rf _) (fun d' h => by cases h; exact rfl)
        · intro a W hx hdf hsz hg hi K hK
          have t28 : a.tmps.getD 28 undef = .bool (B1 || X2) := hg 28 (by kernel_rfl)
          refine step_guard rfl rfl (by have hz58 : a.tmps.size = 58 := hsz; omega) t28 (fun hcc => ?_) (fun hcc => hK _ _ (Ext.rf _) (fun d' h => by cases h; exact ⟨fun h => absurd h hcc, fun _ => rfl⟩))
          have t6 : a.tmps.getD 6 undef = .pointer (some ⟨wr.heap.size, 0, none⟩) := hi 6 (by kernel_rfl)
          have u6 := t6
          rw [Array.getD_eq_getD_getElem?] at u6
          simp [Oper.wp, Oper.upon, execOp, Act.eval, go_sem, t6, u6]
          exact hK _ _ (Ext.rf _) (fun d' h => by cases h; exact ⟨fun _ => rfl, fun h => absurd hcc h⟩)
        · intro a W hx hdf hsz hg hi K hK
          have t28 : a.tmps.getD 28 undef = .bool (B1 || X2) := hg 28 (by kernel_rfl)
          refine step_guard rfl rfl (by have hz58 : a.tmps.size = 58 := hsz; omega) t28 (fun hcc => ?_) (fun hcc => hK _ _ (Ext.rf _) (fun d' h => by cases h; exact ⟨fun h => absurd h hcc, fun _ => rfl⟩))
          have t29 : a.tmps.getD 29 undef = .pointer (some ⟨wr.heap.size, 1, none⟩) := (show ((B1 || X2) = false → a.tmps.getD 29 undef = .pointer (some ⟨wr.heap.size, 1, none⟩)) ∧ (¬ (B1 || X2) = false → a.tmps.getD 29 undef = undef) from hg 29 (by kernel_rfl)).1 hcc
          have u29 := t29
          rw [Array.getD_eq_getD_getElem?] at u29
          have q0 := hx.cell x1
          simp [Oper.wp, Oper.upon, execOp, Act.eval, go_sem, t29, u29, q0]
          exact hK _ _ (Ext.rf _) (fun d' h => by cases h; exact ⟨fun _ => rfl, fun h => absurd hcc h⟩)
        · intro a W hx hdf hsz hg hi K hK
          have t28 : a.tmps.getD 28 undef = .bool (B1 || X2) := hg 28 (by kernel_rfl)
          refine step_guard rfl rfl (by have hz58 : a.tmps.size = 58 := hsz; omega) t28 (fun hcc => ?_) (fun hcc => hK _ _ (Ext.rf _) (fun d' h => by cases h; exact ⟨fun h => absurd h hcc, fun _ => rfl⟩))
          have t30 : a.tmps.getD 30 undef = .int .i64 pp := (show ((B1 || X2) = false → a.tmps.getD 30 undef = .int .i64 pp) ∧ (¬ (B1 || X2) = false → a.tmps.getD 30 undef = undef) from hg 30 (by kernel_rfl)).1 hcc
          have u30 := t30
          rw [Array.getD_eq_getD_getElem?] at u30
          simp [Oper.wp, Oper.upon, execOp, Act.eval, go_sem, t30, u30]
          exact hK _ _ (Ext.rf _) (fun d' h => by cases h; exact ⟨fun _ => (by rw [HB.out.2.2.1]), fun h => absurd hcc h⟩)
        · intro a W hx hdf hsz hg hi K hK
          refine step_free rfl ?_
          have t28 : a.tmps.getD 28 undef = .bool (B1 || X2) := hg 28 (by kernel_rfl)
          cases hcc : (B1 || X2)
          · rw [hcc] at t28
            have t31 : a.tmps.getD 31 undef = .bool X3 := (show ((B1 || X2) = false → a.tmps.getD 31 undef = .bool X3) ∧ (¬ (B1 || X2) = false → a.tmps.getD 31 undef = undef) from hg 31 (by kernel_rfl)).1 hcc
            have u28 := t28
            rw [Array.getD_eq_getD_getElem?] at u28
            have u31 := t31
            rw [Array.getD_eq_getD_getElem?] at u31
            simp [Oper.wp, Oper.upon, execOp, Act.eval, go_sem, t28, u28, t31, u31]
            exact hK _ _ (Ext.rf _) (fun d' h => by cases h; simp [hcc])
          · rw [hcc] at t28
            have u28 := t28
            rw [Array.getD_eq_getD_getElem?] at u28
            simp [Oper.wp, Oper.upon, execOp, Act.eval, go_sem, t28, u28]
            exact hK _ _ (Ext.rf _) (fun d' h => by cases h; simp [hcc])
        · intro a W hx hdf hsz hg hi K hK
          refine step_free rfl ?_
          have t32 : a.tmps.getD 32 undef = .bool (B1 || X2 || X3) := hg 32 (by kernel_rfl)
          have u32 := t32
          rw [Array.getD_eq_getD_getElem?] at u32
          simp [Oper.wp, Oper.upon, execOp, Act.eval, go_sem, t32, u32]
          exact hK _ _ (Ext.rf _) (fun d' h => by cases h; exact rfl)
        · intro a W hx hdf hsz hg hi K hK
          have t33 : a.tmps.getD 33 undef = .bool (B1 || X2 || X3) := hg 33 (by kernel_rfl)
          refine step_guard rfl rfl (by have hz58 : a.tmps.size = 58 := hsz; omega) t33 (fun hcc => ?_) (fun hcc => hK _ _ (Ext.rf _) (fun d' h => by cases h; exact ⟨fun h => absurd h hcc, fun _ => rfl⟩))
          have t6 : a.tmps.getD 6 undef = .pointer (some ⟨wr.heap.size, 0, none⟩) := hi 6 (by kernel_rfl)
          have u6 := t6
          rw [Array.getD_eq_getD_getElem?] at u6
          simp [Oper.wp, Oper.upon, execOp, Act.eval, go_sem, t6, u6]
          exact hK _ _ (Ext.rf _) (fun d' h => by cases h; exact ⟨fun _ => rfl, fun h => absurd hcc h⟩)
        · intro a W hx hdf hsz hg hi K hK
          have t33 : a.tmps.getD 33 undef = .bool (B1 || X2 || X3) := hg 33 (by kernel_rfl)
          refine step_guard rfl rfl (by have hz58 : a.tmps.size = 58 := hsz; omega) t33 (fun hcc => ?_) (fun hcc => hK _ _ (Ext.rf _) (fun d' h => by cases h; exact ⟨fun h => absurd h hcc, fun _ => rfl⟩))
          have t34 : a.tmps.getD 34 undef = .pointer (some ⟨wr.heap.size, 1, none⟩) := (show ((B1 || X2 || X3) = false → a.tmps.getD 34 undef = .pointer (some ⟨wr.heap.size, 1, none⟩)) ∧ (¬ (B1 || X2 || X3) = false → a.tmps.getD 34 undef = undef) from hg 34 (by kernel_rfl)).1 hcc
          have u34 := t34
          rw [Array.getD_eq_getD_getElem?] at u34
          have q0 := hx.cell x1
          simp [Oper.wp, Oper.upon, execOp, Act.eval, go_sem, t34, u34, q0]
          exact hK _ _ (Ext.rf _) (fun d' h => by cases h; exact ⟨fun _ => rfl, fun h => absurd hcc h⟩)
        · intro a W hx hdf hsz hg hi K hK
          have t33 : a.tmps.getD 33 undef = .bool (B1 || X2 || X3) := hg 33 (by kernel_rfl)
          refine step_guard rfl rfl (by have hz58 : a.tmps.size = 58 := hsz; omega) t33 (fun hcc => ?_) (fun hcc => hK _ _ (Ext.rf _) (fun d' h => by cases h; exact ⟨fun h => absurd h hcc, fun _ => rfl⟩))
          have t35 : a.tmps.getD 35 undef = .int .i64 pp := (show ((B1 || X2 || X3) = false → a.tmps.getD 35 undef = .int .i64 pp) ∧ (¬ (B1 || X2 || X3) = false → a.tmps.getD 35 undef = undef) from hg 35 (by kernel_rfl)).1 hcc
          have u35 := t35
          rw [Array.getD_eq_getD_getElem?] at u35
          simp [Oper.wp, Oper.upon, execOp, Act.eval, go_sem, t35, u35]
          exact hK _ _ (Ext.rf _) (fun d' h => by cases h; exact ⟨fun _ => (by rw [HB.out.2.2.2.1]), fun h => absurd hcc h⟩)
        · intro a W hx hdf hsz hg hi K hK
          refine step_free rfl ?_
          have t33 : a.tmps.getD 33 undef = .bool (B1 || X2 || X3) := hg 33 (by kernel_rfl)
          cases hcc : (B1 || X2 || X3)
          · rw [hcc] at t33
            have t36 : a.tmps.getD 36 undef = .bool X4 := (show ((B1 || X2 || X3) = false → a.tmps.getD 36 undef = .bool X4) ∧ (¬ (B1 || X2 || X3) = false → a.tmps.getD 36 undef = undef) from hg 36 (by kernel_rfl)).1 hcc
            have u33 := t33
            rw [Array.getD_eq_getD_getElem?] at u33
            have u36 := t36
            rw [Array.getD_eq_getD_getElem?] at u36
            simp [Oper.wp, Oper.upon, execOp, Act.eval, go_sem, t33, u33, t36, u36]
            exact hK _ _ (Ext.rf _) (fun d' h => by cases h; simp [hcc])
          · rw [hcc] at t33
            have u33 := t33
            rw [Array.getD_eq_getD_getElem?] at u33
            simp [Oper.wp, Oper.upon, execOp, Act.eval, go_sem, t33, u33]
            exact hK _ _ (Ext.rf _) (fun d' h => by cases h; simp [hcc])
        · intro a W hx hdf hsz hg hi K hK
          refine step_free rfl ?_
          have t37 : a.tmps.getD 37 undef = .bool (B1 || X2 || X3 || X4) := hg 37 (by kernel_rfl)
          have u37 := t37
          rw [Array.getD_eq_getD_getElem?] at u37
          simp [Oper.wp, Oper.upon, execOp, Act.eval, go_sem, t37, u37]
          exact hK _ _ (Ext.rf _) (fun d' h => by cases h; exact rfl)
        · intro a W hx hdf hsz hg hi K hK
          have t38 : a.tmps.getD 38 undef = .bool (B1 || X2 || X3 || X4) := hg 38 (by kernel_rfl)
          refine step_guard rfl rfl (by have hz58 : a.tmps.size = 58 := hsz; omega) t38 (fun hcc => ?_) (fun hcc => hK _ _ (Ext.rf _) (fun d' h => by cases h; exact ⟨fun h => absurd h hcc, fun _ => rfl⟩))
          have t5 : a.tmps.getD 5 undef = .int .i64 j := hi 5 (by kernel_rfl)
          have u5 := t5
          rw [Array.getD_eq_getD_getElem?] at u5
          simp [Oper.wp, Oper.upon, execOp, Act.eval, go_sem, t5, u5]
          exact hK _ _ (Ext.rf _) (fun d' h => by cases h; exact ⟨fun _ => rfl, fun h => absurd hcc h⟩)
        · intro a W hx hdf hsz hg hi K hK
          have t38 : a.tmps.getD 38 undef = .bool (B1 || X2 || X3 || X4) := hg 38 (by kernel_rfl)
          refine step_guard rfl rfl (by have hz58 : a.tmps.size = 58 := hsz; omega) t38 (fun hcc => ?_) (fun hcc => hK _ _ (Ext.rf _) (fun d' h => by cases h; exact ⟨fun h => absurd h hcc, fun _ => rfl⟩))
          have t39 : a.tmps.getD 39 undef = .int .i64 j := (show ((B1 || X2 || X3 || X4) = false → a.tmps.getD 39 undef = .int .i64 j) ∧ (¬ (B1 || X2 || X3 || X4) = false → a.tmps.getD 39 undef = undef) from hg 39 (by kernel_rfl)).1 hcc
          have u39 := t39
          rw [Array.getD_eq_getD_getElem?] at u39
          simp [Oper.wp, Oper.upon, execOp, Act.eval, go_sem, t39, u39]
          exact hK _ _ (Ext.rf _) (fun d' h => by cases h; exact ⟨fun _ => (by rw [HB.out.2.2.2.2.1]), fun h => absurd hcc h⟩)
        · intro a W hx hdf hsz hg hi K hK
          have t38 : a.tmps.getD 38 undef = .bool (B1 || X2 || X3 || X4) := hg 38 (by kernel_rfl)
          refine step_guard rfl rfl (by have hz58 : a.tmps.size = 58 := hsz; omega) t38 (fun hcc => ?_) (fun hcc => hK _ _ (Ext.rf _) (fun d' h => by cases h; exact ⟨fun h => absurd h hcc, fun _ => rfl⟩))
          have t40 : a.tmps.getD 40 undef = .bool C0 := (show ((B1 || X2 || X3 || X4) = false → a.tmps.getD 40 undef = .bool C0) ∧ (¬ (B1 || X2 || X3 || X4) = false → a.tmps.getD 40 undef = undef) from hg 40 (by kernel_rfl)).1 hcc
          have u40 := t40
          rw [Array.getD_eq_getD_getElem?] at u40
          simp [Oper.wp, Oper.upon, execOp, Act.eval, go_sem, t40, u40]
          exact hK _ _ (Ext.rf _) (fun d' h => by cases h; exact ⟨fun _ => rfl, fun h => absurd hcc h⟩)
        · intro a W hx hdf hsz hg hi K hK
          cases hb4 : (B1 || X2 || X3 || X4)
          · have t41 : a.tmps.getD 41 undef = .bool C0 := (show ((B1 || X2 || X3 || X4) = false → a.tmps.getD 41 undef = .bool C0) ∧ (¬ (B1 || X2 || X3 || X4) = false → a.tmps.getD 41 undef = undef) from hg 41 (by kernel_rfl)).1 hb4
            refine step_guard rfl rfl (by have hz58 : a.tmps.size = 58 := hsz; omega) t41 (fun hc0 => ?_) (fun hc0 => hK _ _ (Ext.rf _) (fun d' h => by cases h; exact ⟨fun h => absurd h.2 hc0, fun _ => rfl⟩))
            have hcc : ((B1 || X2 || X3 || X4) = false ∧ C0 = true) := ⟨hb4, hc0⟩
            have t2 : a.tmps.getD 2 undef = .pointer (some ⟨w.heap.size, 0, none⟩) := hi 2 (by kernel_rfl)
            have u2 := t2
            rw [Array.getD_eq_getD_getElem?] at u2
            simp [Oper.wp, Oper.upon, execOp, Act.eval, go_sem, t2, u2]
            exact hK _ _ (Ext.rf _) (fun d' h => by cases h; exact ⟨fun _ => rfl, fun h => absurd hcc h⟩)
          · have t41 : a.tmps.getD 41 undef = undef := (show ((B1 || X2 || X3 || X4) = false → a.tmps.getD 41 undef = .bool C0) ∧ (¬ (B1 || X2 || X3 || X4) = false → a.tmps.getD 41 undef = undef) from hg 41 (by kernel_rfl)).2 (by rw [hb4]; decide)
            exact step_held rfl rfl (by have hz58 : a.tmps.size = 58 := hsz; omega) t41 (hK _ _ (Ext.rf _) (fun d' h => by cases h; exact ⟨fun h => absurd (hb4 ▸ h.1) (by decide), fun _ => rfl⟩))
        · intro a W hx hdf hsz hg hi K hK
          cases hb4 : (B1 || X2 || X3 || X4)
          · have t41 : a.tmps.getD 41 undef = .bool C0 := (show ((B1 || X2 || X3 || X4) = false → a.tmps.getD 41 undef = .bool C0) ∧ (¬ (B1 || X2 || X3 || X4) = false → a.tmps.getD 41 undef = undef) from hg 41 (by kernel_rfl)).1 hb4
            refine step_guard rfl rfl (by have hz58 : a.tmps.size = 58 := hsz; omega) t41 (fun hc0 => ?_) (fun hc0 => hK _ _ (Ext.rf _) (fun d' h => by cases h; exact ⟨fun h => absurd h.2 hc0, fun _ => rfl⟩))
            have hcc : ((B1 || X2 || X3 || X4) = false ∧ C0 = true) := ⟨hb4, hc0⟩
            have t42 : a.tmps.getD 42 undef = .pointer (some ⟨w.heap.size, 0, none⟩) := (show (((B1 || X2 || X3 || X4) = false ∧ C0 = true) → a.tmps.getD 42 undef = .pointer (some ⟨w.heap.size, 0, none⟩)) ∧ (¬ ((B1 || X2 || X3 || X4) = false ∧ C0 = true) → a.tmps.getD 42 undef = undef) from hg 42 (by kernel_rfl)).1 hcc
            have u42 := t42
            rw [Array.getD_eq_getD_getElem?] at u42
            have q0 := hx.cell x2
            simp [Oper.wp, Oper.upon, execOp, Act.eval, go_sem, t42, u42, q0]
            exact hK _ _ (Ext.rf _) (fun d' h => by cases h; exact ⟨fun _ => rfl, fun h => absurd hcc h⟩)
          · have t41 : a.tmps.getD 41 undef = undef := (show ((B1 || X2 || X3 || X4) = false → a.tmps.getD 41 undef = .bool C0) ∧ (¬ (B1 || X2 || X3 || X4) = false → a.tmps.getD 41 undef = undef) from hg 41 (by kernel_rfl)).2 (by rw [hb4]; decide)
            exact step_held rfl rfl (by have hz58 : a.tmps.size = 58 := hsz; omega) t41 (hK _ _ (Ext.rf _) (fun d' h => by cases h; exact ⟨fun h => absurd (hb4 ▸ h.1) (by decide), fun _ => rfl⟩))
        · intro a W hx hdf hsz hg hi K hK
          cases hb4 : (B1 || X2 || X3 || X4)
          · have t41 : a.tmps.getD 41 undef = .bool C0 := (show ((B1 || X2 || X3 || X4) = false → a.tmps.getD 41 undef = .bool C0) ∧ (¬ (B1 || X2 || X3 || X4) = false → a.tmps.getD 41 undef = undef) from hg 41 (by kernel_rfl)).1 hb4
            refine step_guard rfl rfl (by have hz58 : a.tmps.size = 58 := hsz; omega) t41 (fun hc0 => ?_) (fun hc0 => hK _ _ (Ext.rf _) (fun d' h => by cases h; exact ⟨fun h => absurd h.2 hc0, fun _ => rfl⟩))
            have hcc : ((B1 || X2 || X3 || X4) = false ∧ C0 = true) := ⟨hb4, hc0⟩
            have t5 : a.tmps.getD 5 undef = .int .i64 j := hi 5 (by kernel_rfl)
            have u5 := t5
            rw [Array.getD_eq_getD_getElem?] at u5
            simp [Oper.wp, Oper.upon, execOp, Act.eval, go_sem, t5, u5]
            exact hK _ _ (Ext.rf _) (fun d' h => by cases h; exact ⟨fun _ => rfl, fun h => absurd hcc h⟩)
          · have t41 : a.tmps.getD 41 undef = undef := (show ((B1 || X2 || X3 || X4) = false → a.tmps.getD 41 undef = .bool C0) ∧ (¬ (B1 || X2 || X3 || X4) = false → a.tmps.getD 41 undef = undef) from hg 41 (by kernel_rfl)).2 (by rw [hb4]; decide)
            exact step_held rfl rfl (by have hz58 : a.tmps.size = 58 := hsz; omega) t41 (hK _ _ (Ext.rf _) (fun d' h => by cases h; exact ⟨fun h => absurd (hb4 ▸ h.1) (by decide), fun _ => rfl⟩))
        · intro a W hx hdf hsz hg hi K hK
          cases hb4 : (B1 || X2 || X3 || X4)
          · have t41 : a.tmps.getD 41 undef = .bool C0 := (show ((B1 || X2 || X3 || X4) = false → a.tmps.getD 41 undef = .bool C0) ∧ (¬ (B1 || X2 || X3 || X4) = false → a.tmps.getD 41 undef = undef) from hg 41 (by kernel_rfl)).1 hb4
            refine step_guard rfl rfl (by have hz58 : a.tmps.size = 58 := hsz; omega) t41 (fun hc0 => ?_) (fun hc0 => hK _ _ (Ext.rf _) (fun d' h => by cases h; exact ⟨fun h => absurd h.2 hc0, fun _ => rfl⟩))
            have hcc : ((B1 || X2 || X3 || X4) = false ∧ C0 = true) := ⟨hb4, hc0⟩
            have t44 : a.tmps.getD 44 undef = .int .i64 j := (show (((B1 || X2 || X3 || X4) = false ∧ C0 = true) → a.tmps.getD 44 undef = .int .i64 j) ∧ (¬ ((B1 || X2 || X3 || X4) = false ∧ C0 = true) → a.tmps.getD 44 undef = undef) from hg 44 (by kernel_rfl)).1 hcc
            have u44 := t44
            rw [Array.getD_eq_getD_getElem?] at u44
            have hj0 : 0 < j := of_decide_eq_true (HB.out.2.2.2.2.1 ▸ hcc.2)
            have e1 : (0 : Int) ≤ (j : Int) - 1 ∧ (j : Int) - 1 < (l.parts.length : Int) := by omega
            have e2 : IntKind.i64.wrap ((j : Int) - 1) = (j : Int) - 1 := IntWalk.i64_in _ (by omega)
            have e5 : (1 : Int) ≤ (j : Int) ∧ (j : Int) < (l.parts.length : Int) + 1 := by omega
            have e6 : 1 ≤ j ∧ j < l.parts.length + 1 := by omega
            simp [Oper.wp, Oper.upon, execOp, Act.eval, go_sem, t44, u44, e1, e2, e5, e6]
            exact hK _ _ (Ext.rf _) (fun d' h => by cases h; exact ⟨fun _ => rfl, fun h => absurd hcc h⟩)
          · have t41 : a.tmps.getD 41 undef = undef := (show ((B1 || X2 || X3 || X4) = false → a.tmps.getD 41 undef = .bool C0) ∧ (¬ (B1 || X2 || X3 || X4) = false → a.tmps.getD 41 undef = undef) from hg 41 (by kernel_rfl)).2 (by rw [hb4]; decide)
            exact step_held rfl rfl (by have hz58 : a.tmps.size = 58 := hsz; omega) t41 (hK _ _ (Ext.rf _) (fun d' h => by cases h; exact ⟨fun h => absurd (hb4 ▸ h.1) (by decide), fun _ => rfl⟩))
        · intro a W hx hdf hsz hg hi K hK
          cases hb4 : (B1 || X2 || X3 || X4)
          · have t41 : a.tmps.getD 41 undef = .bool C0 := (show ((B1 || X2 || X3 || X4) = false → a.tmps.getD 41 undef = .bool C0) ∧ (¬ (B1 || X2 || X3 || X4) = false → a.tmps.getD 41 undef = undef) from hg 41 (by kernel_rfl)).1 hb4
            refine step_guard rfl rfl (by have hz58 : a.tmps.size = 58 := hsz; omega) t41 (fun hc0 => ?_) (fun hc0 => hK _ _ (Ext.rf _) (fun d' h => by cases h; exact ⟨fun h => absurd h.2 hc0, fun _ => rfl⟩))
            have hcc : ((B1 || X2 || X3 || X4) = false ∧ C0 = true) := ⟨hb4, hc0⟩
            have t43 : a.tmps.getD 43 undef = .slice (some ⟨b, o, none⟩) l.parts.length c := (show (((B1 || X2 || X3 || X4) = false ∧ C0 = true) → a.tmps.getD 43 undef = .slice (some ⟨b, o, none⟩) l.parts.length c) ∧ (¬ ((B1 || X2 || X3 || X4) = false ∧ C0 = true) → a.tmps.getD 43 undef = undef) from hg 43 (by kernel_rfl)).1 hcc
            have t45 : a.tmps.getD 45 undef = .int .i64 ((j : Int) - 1) := (show (((B1 || X2 || X3 || X4) = false ∧ C0 = true) → a.tmps.getD 45 undef = .int .i64 ((j : Int) - 1)) ∧ (¬ ((B1 || X2 || X3 || X4) = false ∧ C0 = true) → a.tmps.getD 45 undef = undef) from hg 45 (by kernel_rfl)).1 hcc
            have u43 := t43
            rw [Array.getD_eq_getD_getElem?] at u43
            have u45 := t45
            rw [Array.getD_eq_getD_getElem?] at u45
            have hj0 : 0 < j := of_decide_eq_true (HB.out.2.2.2.2.1 ▸ hcc.2)
            have e1 : (0 : Int) ≤ (j : Int) - 1 ∧ (j : Int) - 1 < (l.parts.length : Int) := by omega
            have e2 : IntKind.i64.wrap ((j : Int) - 1) = (j : Int) - 1 := IntWalk.i64_in _ (by omega)
            have e5 : (1 : Int) ≤ (j : Int) ∧ (j : Int) < (l.parts.length : Int) + 1 := by omega
            have e6 : 1 ≤ j ∧ j < l.parts.length + 1 := by omega
            simp [Oper.wp, Oper.upon, execOp, Act.eval, go_sem, t43, u43, t45, u45, e1, e2, e5, e6]
            exact hK _ _ (Ext.rf _) (fun d' h => by cases h; exact ⟨fun _ => rfl, fun h => absurd hcc h⟩)
          · have t41 : a.tmps.getD 41 undef = undef := (show ((B1 || X2 || X3 || X4) = false → a.tmps.getD 41 undef = .bool C0) ∧ (¬ (B1 || X2 || X3 || X4) = false → a.tmps.getD 41 undef = undef) from hg 41 (by kernel_rfl)).2 (by rw [hb4]; decide)
            exact step_held rfl rfl (by have hz58 : a.tmps.size = 58 := hsz; omega) t41 (hK _ _ (Ext.rf _) (fun d' h => by cases h; exact ⟨fun h => absurd (hb4 ▸ h.1) (by decide), fun _ => rfl⟩))
        · intro a W hx hdf hsz hg hi K hK
          cases hb4 : (B1 || X2 || X3 || X4)
          · have t41 : a.tmps.getD 41 undef = .bool C0 := (show ((B1 || X2 || X3 || X4) = false → a.tmps.getD 41 undef = .bool C0) ∧ (¬ (B1 || X2 || X3 || X4) = false → a.tmps.getD 41 undef = undef) from hg 41 (by kernel_rfl)).1 hb4
            refine step_guard rfl rfl (by have hz58 : a.tmps.size = 58 := hsz; omega) t41 (fun hc0 => ?_) (fun hc0 => hK _ _ (Ext.rf _) (fun d' h => by cases h; exact ⟨fun h => absurd h.2 hc0, fun _ => rfl⟩))
            have hcc : ((B1 || X2 || X3 || X4) = false ∧ C0 = true) := ⟨hb4, hc0⟩
            have t46 : a.tmps.getD 46 undef = .pointer (some ⟨b, o + (j - 1) * 2, none⟩) := (show (((B1 || X2 || X3 || X4) = false ∧ C0 = true) → a.tmps.getD 46 undef = .pointer (some ⟨b, o + (j - 1) * 2, none⟩)) ∧ (¬ ((B1 || X2 || X3 || X4) = false ∧ C0 = true) → a.tmps.getD 46 undef = undef) from hg 46 (by kernel_rfl)).1 hcc
            have u46 := t46
            rw [Array.getD_eq_getD_getElem?] at u46
            simp [Oper.wp, Oper.upon, execOp, Act.eval, go_sem, t46, u46]
            exact hK _ _ (Ext.rf _) (fun d' h => by cases h; exact ⟨fun _ => rfl, fun h => absurd hcc h⟩)
          · have t41 : a.tmps.getD 41 undef = undef := (show ((B1 || X2 || X3 || X4) = false → a.tmps.getD 41 undef = .bool C0) ∧ (¬ (B1 || X2 || X3 || X4) = false → a.tmps.getD 41 undef = undef) from hg 41 (by kernel_rfl)).2 (by rw [hb4]; decide)
            exact step_held rfl rfl (by have hz58 : a.tmps.size = 58 := hsz; omega) t41 (hK _ _ (Ext.rf _) (fun d' h => by cases h; exact ⟨fun h => absurd (hb4 ▸ h.1) (by decide), fun _ => rfl⟩))
        · intro a W hx hdf hsz hg hi K hK
          cases hb4 : (B1 || X2 || X3 || X4)
          · have t41 : a.tmps.getD 41 undef = .bool C0 := (show ((B1 || X2 || X3 || X4) = false → a.tmps.getD 41 undef = .bool C0) ∧ (¬ (B1 || X2 || X3 || X4) = false → a.tmps.getD 41 undef = undef) from hg 41 (by kernel_rfl)).1 hb4
            refine step_guard rfl rfl (by have hz58 : a.tmps.size = 58 := hsz; omega) t41 (fun hc0 => ?_) (fun hc0 => hK _ _ (Ext.rf _) (fun d' h => by cases h; exact ⟨fun h => absurd h.2 hc0, fun _ => rfl⟩))
            have hcc : ((B1 || X2 || X3 || X4) = false ∧ C0 = true) := ⟨hb4, hc0⟩
            have t47 : a.tmps.getD 47 undef = .pointer (some ⟨b, o + (j - 1) * 2, none⟩) := (show (((B1 || X2 || X3 || X4) = false ∧ C0 = true) → a.tmps.getD 47 undef = .pointer (some ⟨b, o + (j - 1) * 2, none⟩)) ∧ (¬ ((B1 || X2 || X3 || X4) = false ∧ C0 = true) → a.tmps.getD 47 undef = undef) from hg 47 (by kernel_rfl)).1 hcc
            have u47 := t47
            rw [Array.getD_eq_getD_getElem?] at u47
            have q0 := hx.cell (x3 hcc.2)
            simp [Oper.wp, Oper.upon, execOp, Act.eval, go_sem, t47, u47, q0]
            exact hK _ _ (Ext.rf _) (fun d' h => by cases h; exact ⟨fun _ => rfl, fun h => absurd hcc h⟩)
          · have t41 : a.tmps.getD 41 undef = undef := (show ((B1 || X2 || X3 || X4) = false → a.tmps.getD 41 undef = .bool C0) ∧ (¬ (B1 || X2 || X3 || X4) = false → a.tmps.getD 41 undef = undef) from hg 41 (by kernel_rfl)).2 (by rw [hb4]; decide)
            exact step_held rfl rfl (by have hz58 : a.tmps.size = 58 := hsz; omega) t41 (hK _ _ (Ext.rf _) (fun d' h => by cases h; exact ⟨fun h => absurd (hb4 ▸ h.1) (by decide), fun _ => rfl⟩))
        · intro a W hx hdf hsz hg hi K hK
          cases hb4 : (B1 || X2 || X3 || X4)
          · have t41 : a.tmps.getD 41 undef = .bool C0 := (show ((B1 || X2 || X3 || X4) = false → a.tmps.getD 41 undef = .bool C0) ∧ (¬ (B1 || X2 || X3 || X4) = false → a.tmps.getD 41 undef = undef) from hg 41 (by kernel_rfl)).1 hb4
            refine step_guard rfl rfl (by have hz58 : a.tmps.size = 58 := hsz; omega) t41 (fun hc0 => ?_) (fun hc0 => hK _ _ (Ext.rf _) (fun d' h => by cases h; exact ⟨fun h => absurd h.2 hc0, fun _ => rfl⟩))
            have hcc : ((B1 || X2 || X3 || X4) = false ∧ C0 = true) := ⟨hb4, hc0⟩
            have t6 : a.tmps.getD 6 undef = .pointer (some ⟨wr.heap.size, 0, none⟩) := hi 6 (by kernel_rfl)
            have u6 := t6
            rw [Array.getD_eq_getD_getElem?] at u6
            simp [Oper.wp, Oper.upon, execOp, Act.eval, go_sem, t6, u6]
            exact hK _ _ (Ext.rf _) (fun d' h => by cases h; exact ⟨fun _ => rfl, fun h => absurd hcc h⟩)
          · have t41 : a.tmps.getD 41 undef = undef := (show ((B1 || X2 || X3 || X4) = false → a.tmps.getD 41 undef = .bool C0) ∧ (¬ (B1 || X2 || X3 || X4) = false → a.tmps.getD 41 undef = undef) from hg 41 (by kernel_rfl)).2 (by rw [hb4]; decide)
            exact step_held rfl rfl (by have hz58 : a.tmps.size = 58 := hsz; omega) t41 (hK _ _ (Ext.rf _) (fun d' h => by cases h; exact ⟨fun h => absurd (hb4 ▸ h.1) (by decide), fun _ => rfl⟩))
        · intro a W hx hdf hsz hg hi K hK
          cases hb4 : (B1 || X2 || X3 || X4)
          · have t41 : a.tmps.getD 41 undef = .bool C0 := (show ((B1 || X2 || X3 || X4) = false → a.tmps.getD 41 undef = .bool C0) ∧ (¬ (B1 || X2 || X3 || X4) = false → a.tmps.getD 41 undef = undef) from hg 41 (by kernel_rfl)).1 hb4
            refine step_guard rfl rfl (by have hz58 : a.tmps.size = 58 := hsz; omega) t41 (fun hc0 => ?_) (fun hc0 => hK _ _ (Ext.rf _) (fun d' h => by cases h; exact ⟨fun h => absurd h.2 hc0, fun _ => rfl⟩))
            have hcc : ((B1 || X2 || X3 || X4) = false ∧ C0 = true) := ⟨hb4, hc0⟩
            have t49 : a.tmps.getD 49 undef = .pointer (some ⟨wr.heap.size, 0, none⟩) := (show (((B1 || X2 || X3 || X4) = false ∧ C0 = true) → a.tmps.getD 49 undef = .pointer (some ⟨wr.heap.size, 0, none⟩)) ∧ (¬ ((B1 || X2 || X3 || X4) = false ∧ C0 = true) → a.tmps.getD 49 undef = undef) from hg 49 (by kernel_rfl)).1 hcc
            have u49 := t49
            rw [Array.getD_eq_getD_getElem?] at u49
            have q0 := hx.cell x0
            simp [Oper.wp, Oper.upon, execOp, Act.eval, go_sem, t49, u49, q0]
            exact hK _ _ (Ext.rf _) (fun d' h => by cases h; exact ⟨fun _ => rfl, fun h => absurd hcc h⟩)
          · have t41 : a.tmps.getD 41 undef = undef := (show ((B1 || X2 || X3 || X4) = false → a.tmps.getD 41 undef = .bool C0) ∧ (¬ (B1 || X2 || X3 || X4) = false → a.tmps.getD 41 undef = undef) from hg 41 (by kernel_rfl)).2 (by rw [hb4]; decide)
            exact step_held rfl rfl (by have hz58 : a.tmps.size = 58 := hsz; omega) t41 (hK _ _ (Ext.rf _) (fun d' h => by cases h; exact ⟨fun h => absurd (hb4 ▸ h.1) (by decide), fun _ => rfl⟩))
        · intro a W hx hdf hsz hg hi K hK
          cases hb4 : (B1 || X2 || X3 || X4)
          · have t41 : a.tmps.getD 41 undef = .bool C0 := (show ((B1 || X2 || X3 || X4) = false → a.tmps.getD 41 undef = .bool C0) ∧ (¬ (B1 || X2 || X3 || X4) = false → a.tmps.getD 41 undef = undef) from hg 41 (by kernel_rfl)).1 hb4
            refine step_guard rfl rfl (by have hz58 : a.tmps.size = 58 := hsz; omega) t41 (fun hc0 => ?_) (fun hc0 => hK _ _ (Ext.rf _) (fun d' h => by cases h; exact ⟨fun h => absurd h.2 hc0, fun _ => rfl⟩))
            have hcc : ((B1 || X2 || X3 || X4) = false ∧ C0 = true) := ⟨hb4, hc0⟩
            have t48 : a.tmps.getD 48 undef = .int .i64 qv := (show (((B1 || X2 || X3 || X4) = false ∧ C0 = true) → a.tmps.getD 48 undef = .int .i64 qv) ∧ (¬ ((B1 || X2 || X3 || X4) = false ∧ C0 = true) → a.tmps.getD 48 undef = undef) from hg 48 (by kernel_rfl)).1 hcc
            have t50 : a.tmps.getD 50 undef = .int .i64 pv := (show (((B1 || X2 || X3 || X4) = false ∧ C0 = true) → a.tmps.getD 50 undef = .int .i64 pv) ∧ (¬ ((B1 || X2 || X3 || X4) = false ∧ C0 = true) → a.tmps.getD 50 undef = undef) from hg 50 (by kernel_rfl)).1 hcc
            have u48 := t48
            rw [Array.getD_eq_getD_getElem?] at u48
            have u50 := t50
            rw [Array.getD_eq_getD_getElem?] at u50
            simp [Oper.wp, Oper.upon, execOp, Act.eval, go_sem, t48, u48, t50, u50]
            exact hK _ _ (Ext.rf _) (fun d' h => by cases h; exact ⟨fun _ => (by rw [HB.out.2.2.2.2.2]), fun h => absurd hcc h⟩)
          · have t41 : a.tmps.getD 41 undef = undef := (show ((B1 || X2 || X3 || X4) = false → a.tmps.getD 41 undef = .bool C0) ∧ (¬ (B1 || X2 || X3 || X4) = false → a.tmps.getD 41 undef = undef) from hg 41 (by kernel_rfl)).2 (by rw [hb4]; decide)
            exact step_held rfl rfl (by have hz58 : a.tmps.size = 58 := hsz; omega) t41 (hK _ _ (Ext.rf _) (fun d' h => by cases h; exact ⟨fun h => absurd (hb4 ▸ h.1) (by decide), fun _ => rfl⟩))
        · intro a W hx hdf hsz hg hi K hK
          have t38 : a.tmps.getD 38 undef = .bool (B1 || X2 || X3 || X4) := hg 38 (by kernel_rfl)
          refine step_guard rfl rfl (by have hz58 : a.tmps.size = 58 := hsz; omega) t38 (fun hcc => ?_) (fun hcc => hK _ _ (Ext.rf _) (fun d' h => by cases h; exact ⟨fun h => absurd h hcc, fun _ => rfl⟩))
          have t41 : a.tmps.getD 41 undef = .bool C0 := (show ((B1 || X2 || X3 || X4) = false → a.tmps.getD 41 undef = .bool C0) ∧ (¬ (B1 || X2 || X3 || X4) = false → a.tmps.getD 41 undef = undef) from hg 41 (by kernel_rfl)).1 hcc
          cases hc0 : C0
          · rw [hc0] at t41
            have u41 := t41
            rw [Array.getD_eq_getD_getElem?] at u41
            simp [Oper.wp, Oper.upon, execOp, Act.eval, go_sem, t41, u41]
            exact hK _ _ (Ext.rf _) (fun d' h => by cases h; exact ⟨fun _ => by simp [hc0], fun h => absurd hcc h⟩)
          · rw [hc0] at t41
            have t51 : a.tmps.getD 51 undef = .bool C5 := (show (((B1 || X2 || X3 || X4) = false ∧ C0 = true) → a.tmps.getD 51 undef = .bool C5) ∧ (¬ ((B1 || X2 || X3 || X4) = false ∧ C0 = true) → a.tmps.getD 51 undef = undef) from hg 51 (by kernel_rfl)).1 ⟨hcc, hc0⟩
            have u41 := t41
            rw [Array.getD_eq_getD_getElem?] at u41
            have u51 := t51
            rw [Array.getD_eq_getD_getElem?] at u51
            simp [Oper.wp, Oper.upon, execOp, Act.eval, go_sem, t41, u41, t51, u51]
            exact hK _ _ (Ext.rf _) (fun d' h => by cases h; exact ⟨fun _ => by simp [hc0], fun h => absurd hcc h⟩)
        · intro a W hx hdf hsz hg hi K hK
          refine step_free rfl ?_
          have t38 : a.tmps.getD 38 undef = .bool (B1 || X2 || X3 || X4) := hg 38 (by kernel_rfl)
          cases hcc : (B1 || X2 || X3 || X4)
          · rw [hcc] at t38
            have t52 : a.tmps.getD 52 undef = .bool (C0 && C5) := (show ((B1 || X2 || X3 || X4) = false → a.tmps.getD 52 undef = .bool (C0 && C5)) ∧ (¬ (B1 || X2 || X3 || X4) = false → a.tmps.getD 52 undef = undef) from hg 52 (by kernel_rfl)).1 hcc
            have u38 := t38
            rw [Array.getD_eq_getD_getElem?] at u38
            have u52 := t52
            rw [Array.getD_eq_getD_getElem?] at u52
            simp [Oper.wp, Oper.upon, execOp, Act.eval, go_sem, t38, u38, t52, u52]
            exact hK _ _ (Ext.rf _) (fun d' h => by cases h; simp [hcc])
          · rw [hcc] at t38
            have u38 := t38
            rw [Array.getD_eq_getD_getElem?] at u38
            simp [Oper.wp, Oper.upon, execOp, Act.eval, go_sem, t38, u38]
            exact hK _ _ (Ext.rf _) (fun d' h => by cases h; simp [hcc])
      · rintro ⟨T, D⟩ w7 hx7 hdf hsz hg hi
        have h53 : T.getD 53 undef = .bool ((B1 || X2 || X3 || X4) || (C0 && C5)) := hg 53 (by kernel_rfl)
        obtain ⟨f, hf, hT⟩ := frame_slots T 58 hsz
        have f53 := (hf 53).symm.trans h53
        have f2 : f 2 = .pointer (some ⟨w.heap.size, 0, none⟩) := (hf 2).symm.trans (hi 2 (by kernel_rfl))
        have f5 : f 5 = .int .i64 j := (hf 5).symm.trans (hi 5 (by kernel_rfl))
        have f0 : f 0 = .agg #[.slice (some ⟨b, o, none⟩) l.parts.length c] := (hf 0).symm.trans (hi 0 (by kernel_rfl))
        have f1 : f 1 = .int .i64 n := (hf 1).symm.trans (hi 1 (by kernel_rfl))
        have f3 : f 3 = undef := (hf 3).symm.trans (hi 3 (by kernel_rfl))
        have f54 : f 54 = undef := (hf 54).symm.trans (hi 54 (by kernel_rfl))
        have f55 : f 55 = undef := (hf 55).symm.trans (hi 55 (by kernel_rfl))
        have f56 : f 56 = undef := (hf 56).symm.trans (hi 56 (by kernel_rfl))
        have f57 : f 57 = undef := (hf 57).symm.trans (hi 57 (by kernel_rfl))
        have hD : D = [] := hdf
        clear hf hi hg hsz hdf h53
        subst hT hD
        have y2 := hx7.cell x2
        have hfin : PartOk l.parts n j ↔ (B1 || X2 || X3 || X4 || (C0 && C5)) = false := by
          rw [HP.out, HB.out.1, HB.out.2.1, HB.out.2.2.1, HB.out.2.2.2.1, HB.out.2.2.2.2.1, HB.out.2.2.2.2.2]
          simp only [Bool.or_eq_false_iff, Bool.and_eq_false_iff, decide_eq_false_iff_not]
          constructor
          · rintro ⟨⟨h1, h2, h3, h4⟩, h5⟩
            refine ⟨⟨⟨⟨by omega, by omega⟩, by omega⟩, by omega⟩, ?_⟩
            by_cases h0 : 0 < j
            · have := h5 h0
              exact .inr (by omega)
            · exact .inl h0
          · rintro ⟨⟨⟨⟨h1, h2⟩, h3⟩, h4⟩, h5⟩
            refine ⟨⟨by omega, by omega, by omega, by omega⟩, fun h0 => ?_⟩
            rcases h5 with h5 | h5
            · exact absurd h0 h5
            · omega
        have HF := hid hfin
        clear hfin
        have hxA : Ext w w7 := hx0r.tr (hx6.tr hx7)
        cases hbad : (B1 || X2 || X3 || X4 || (C0 && C5))
        · have hok := HF.out.2 hbad
          rw [hbad] at f53
          have HOK := hid hok
          clear hok hbad
          simp only [slots, Nat.reduceAdd, f0, f1, f2, f3, f5, f53, f54, f55, f56, f57]
          go_wp2_with fail
          refine ⟨⟨j + 1, by omega, by go_num, hxr.tr (hx6.tr hx7), fun x hx => ?_⟩, by simp only [intOf]; omega⟩
          rcases Nat.lt_or_ge x j with h1 | h1
          · exact Hq.out x h1
          · obtain rfl : x = j := by omega
            exact HOK.out
        · have hno : ¬ PartOk l.parts n j := fun h => by
            have := HF.out.1 h
            rw [hbad] at this
            cases this
          rw [hbad] at f53
          have HNO := hid (refLevel_no hlt hno)
          clear hno hbad
          simp only [slots, Nat.reduceAdd, f0, f1, f2, f3, f5, f53, f54, f55, f56, f57]
          go_wp2_with fail
          go_ret
          exact ⟨ret_bool HNO.out.symm, hxA⟩
    · obtain rfl : j = l.parts.length := by omega
      go_wp2_with fail
      go_ret
      refine ⟨ret_bool (Eq.symm ?_), hx0r⟩
      rw [Bool.eq_iff_iff, levelRight_parts, decide_eq_true_iff]
      exact ⟨fun h => by omega, fun h => ⟨Hq.out, by omega⟩⟩
end Go.Proofs.YtjaklnabidbmiaaDoor

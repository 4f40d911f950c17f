/- Walks: what package level's Right and what it calls come to. -/
import Derived.Test.YtjaklnabidbmiaaDoorProg
import Derived.Test.YtjaklnabidbmiaaDoorRep
import Derived.WalkSpells
import Derived.WalkLawsBesides
import Derived.Deep.RegionHeld3
import Derived.Deep.DrawnRows
import Derived.IntWalk
namespace Go.Proofs.YtjaklnabidbmiaaDoor
open Go.RowKit
attribute [local go_sem ↓] Go.wp_at_zero Go.wp_at_succ

theorem isNaN_any (x : Int) (w : World) :
    Calls Tryd.prog 91 #[.int .i64 x] w fun e w' => e = .returned (.bool false) ∧ w' = w := by
  go_enter Tryd.func91, Tryd.ntmps91
  go_wp2
  go_ret
  exact ⟨rfl, rfl⟩
def cmpI (x y : Int) : Int := if x < y then -1 else if y < x then 1 else 0
theorem compare_any (x y : Int) (w : World) :
    Calls Tryd.prog 78 #[.int .i64 x, .int .i64 y] w fun e w' => e = .returned (.int .i64 (cmpI x y)) ∧ w' = w := by
  go_enter Tryd.func78, Tryd.ntmps78
  go_wp2_with (go_at_call 91; refine (isNaN_any _ _).mono ?_; rintro e w' ⟨rfl, rfl⟩)
  all_goals go_ret
  all_goals (refine ⟨?_, rfl⟩; simp_all [cmpI])
  omega
/-- cmp.Or of two numbers. -/
def orI (x y : Int) : Int := if x = 0 then y else x
theorem or_two (x y : Int) (g c : Nat) (w : World) (h0 : w.cell? ⟨g, 0, none⟩ = some (.int .i64 x)) (h1 : w.cell? ⟨g, 1, none⟩ = some (.int .i64 y)) :
    Calls Tryd.prog 77 #[.slice (some ⟨g, 0, none⟩) 2 c] w fun e w' => e = .returned (.int .i64 (orI x y)) ∧ w' = w := by
  go_enter Tryd.func77, Tryd.ntmps77
  go_wp2
  go_loop [5, 8] (fun _ i => ∃ k : Nat, k ≤ 2 ∧ i = .int .i64 k ∧ (0 < k → x = 0) ∧ (1 < k → y = 0)) (fun _ i => 2 - (intOf i).toNat)
  case atStart => exact ⟨0, by omega, rfl, by omega, by omega⟩
  case round =>
    obtain ⟨k, hk, rfl, hx, hy⟩ := hrel
    have : k = 0 ∨ k = 1 ∨ k = 2 := by omega
    rcases this with rfl | rfl | rfl
    · go_wp2
      · go_ret
        exact ⟨by simp_all [orI], rfl⟩
      · exact ⟨⟨1, by omega, by go_num, by simp_all, by omega⟩, by simp [intOf]⟩
    · have hx := hx (by omega)
      subst hx
      go_wp2
      · go_ret
        exact ⟨by simp_all [orI], rfl⟩
      · exact ⟨⟨2, by omega, by go_num, by simp_all, by simp_all⟩, by simp [intOf]⟩
    · have hx := hx (by omega)
      have hy := hy (by omega)
      subst hx hy
      go_wp2
      go_ret
      exact ⟨by simp [orI], rfl⟩
/-- The order of parts: less by their variables, never the same. -/
def partCmp (a b : Part) : Int := orI (cmpI a.v b.v) (-1)
theorem partCmp_neg (a b : Part) : partCmp a b < 0 ↔ a.v ≤ b.v := by
  unfold partCmp orI cmpI
  split <;> (try split) <;> (try split) <;> simp_all <;> omega
theorem level_cmp (a b : Part) (w : World) :
    Calls Tryd.prog 76 #[.agg #[.int .i64 a.v, .int .i64 a.p], .agg #[.int .i64 b.v, .int .i64 b.p]] w fun e w' => e = .returned (.int .i64 (partCmp a b)) ∧ Ext w w' := by
  go_enter Tryd.func76, Tryd.ntmps76
  go_wp2_with (go_at_call 78; refine (compare_any _ _ _).mono ?_; rintro e w' ⟨rfl, rfl⟩)
  refine (or_two (cmpI a.v b.v) (-1) _ _ _ ?_ ?_).mono ?_
  · simp [go_sem]
  · simp [go_sem]
  rintro e w' ⟨rfl, rfl⟩
  go_wp2
  go_ret
  exact ⟨rfl, (((Ext.rf _).al _).al _).al _⟩
theorem getD_at {α : Type} (l : List α) (d : α) {i : Nat} (h : i < l.length) : l.getD i d = l[i] := by simp [List.getD_eq_getElem?_getD, h]
/-- Do the variables rise? -/
def rising (l : List Part) : Bool := (List.range (l.length - 1)).all fun i => decide ((l.getD i ⟨0, 0⟩).v < (l.getD (i + 1) ⟨0, 0⟩).v)
theorem rising_iff (l : List Part) : rising l = true ↔ ∀ i, i + 1 < l.length → (l.getD i ⟨0, 0⟩).v < (l.getD (i + 1) ⟨0, 0⟩).v := by
  simp only [rising, List.all_eq_true, List.mem_range, decide_eq_true_eq]
  exact ⟨fun h i hi => h i (by omega), fun h i hi => h i (by omega)⟩
theorem sorted_any (l : List Part) (v : Value) (w : World) (hs : Sl RPart 2 16 w l v) :
    Calls Tryd.prog 75 #[v, .func (.func 76) #[] #[]] w fun e w' => e = .returned (.bool (rising l)) ∧ Ext w w' := by
  obtain ⟨A, c, rfl, hc, hr⟩ := hs
  have hl := hr.len_le
  go_enter Tryd.func75, Tryd.ntmps75
  go_wp2
  go_loopw [5] (fun i wr => ∃ k : Int, -1 ≤ k ∧ k < l.length ∧ i = .int .i64 k ∧ Ext w wr ∧ ∀ j : Nat, k ≤ j → j + 1 < l.length → (l.getD j ⟨0, 0⟩).v < (l.getD (j + 1) ⟨0, 0⟩).v) (fun i _ => (intOf i + 1).toNat)
  case atStart => exact ⟨l.length - 1, by omega, by omega, rfl, Ext.rf _, fun j h1 h2 => by omega⟩
  case round =>
    rename_i wr
    obtain ⟨k, hk0, hk, rfl, hx, hq⟩ := hrel
    by_cases hlt : 0 < k
    · have hr' := hr.ext mono_part hx
      obtain ⟨b, o, cs, rfl, ⟨rfl, _⟩, hcs⟩ := hr'.at_ (i := k.toNat) (by omega)
      obtain ⟨b', o', cs', hA, ⟨rfl, _⟩, hcs'⟩ := hr'.at_ (i := k.toNat - 1) (by omega)
      simp only [Option.some.injEq, Addr.mk.injEq, and_true] at hA
      obtain ⟨rfl, rfl⟩ := hA
      have h0 := hcs.at0
      have h1 := hcs.at1
      have h2 := hcs'.at0
      have h3 := hcs'.at1
      clear hcs hcs' hr' hr
      have e1 : (0 : Int) ≤ k ∧ k < (l.length : Int) := by omega
      have e2 : (0 : Int) ≤ k - 1 ∧ k - 1 < (l.length : Int) := by omega
      have e4 : 1 ≤ k ∧ k < (l.length : Int) + 1 := by omega
      have e3 : IntKind.i64.wrap (k - 1) = k - 1 := IntWalk.i64_in _ (by omega)
      go_wp2
      go_region_held3 (fun w' => w'.cell? ⟨b, o + k.toNat * 2, none⟩ = some (.int .i64 l[k.toNat].v) ∧ w'.cell? ⟨b, o + k.toNat * 2 + 1, none⟩ = some (.int .i64 l[k.toNat].p) ∧ w'.cell? ⟨b, o + (k.toNat - 1) * 2, none⟩ = some (.int .i64 l[k.toNat - 1].v) ∧ w'.cell? ⟨b, o + (k.toNat - 1) * 2 + 1, none⟩ = some (.int .i64 l[k.toNat - 1].p)) (first | (refine ⟨h0, h1, h2, h3⟩) | (exact ⟨hb.cell h0, hb.cell h1, hb.cell h2, hb.cell h3⟩)) ((go_at_call 76; refine (level_cmp _ _ _).mono ?_; rintro e w' ⟨rfl, hb⟩))
      have g1 : l[k.toNat] = l.getD (k.toNat - 1 + 1) ⟨0, 0⟩ := by rw [getD_at _ _ (by omega)]; congr 1; omega
      have g2 : l[k.toNat - 1] = l.getD (k.toNat - 1) ⟨0, 0⟩ := by rw [getD_at _ _ (by omega)]
      go_wp2
      · have h : partCmp l[k.toNat] l[k.toNat - 1] < 0 := by assumption
        go_ret
        refine ⟨ret_bool (Eq.symm ?_), hx.dr.tr hb⟩
        have hf : rising l = false := by
          rw [← Bool.not_eq_true, rising_iff]
          intro hr
          have := hr (k.toNat - 1) (by omega)
          rw [← g1, ← g2] at this
          rw [partCmp_neg] at h
          omega
        exact hf
      · have h : ¬ partCmp l[k.toNat] l[k.toNat - 1] < 0 := by omega
        rw [partCmp_neg, g1, g2] at h
        refine ⟨⟨k - 1, by omega, by omega, rfl, hx.dr.tr hb, fun j h1 h2 => ?_⟩, by simp only [intOf]; omega⟩
        by_cases hj : k ≤ j
        · exact hq j hj h2
        · obtain rfl : j = k.toNat - 1 := by omega
          omega
    · go_wp2
      go_ret
      exact ⟨ret_bool ((rising_iff l).2 fun i hi => hq i (by omega) hi).symm, hx⟩
end Go.Proofs.YtjaklnabidbmiaaDoor

/- Walks: slices.Contains of truths; source.must; the small asks of package source. -/
import Derived.Test.YtjaklnabidbmiaaDoorCount
namespace Go.Proofs.YtjaklnabidbmiaaDoor
open Go.RowKit
set_option linter.unusedSimpArgs false
set_option linter.unusedVariables false

theorem index_bool (l : List Bool) (v : Value) (w : World) (hs : Sl RBool 1 1 w l v) :
    Calls Tryd.prog 74 #[v, .bool false] w fun e w' => w' = w ∧ ((e = .returned (.int .i64 (-1)) ∧ false ∉ l) ∨ ∃ i : Nat, i < l.length ∧ e = .returned (.int .i64 i) ∧ false ∈ l) := by
  obtain ⟨A, c, rfl, hc, hr⟩ := hs
  have hl := hr.len_le
  go_enter Tryd.func74, Tryd.ntmps74
  go_wp2_with fail
  go_loop [5, 8] (fun _ i => ∃ k : Nat, k ≤ l.length ∧ i = .int .i64 k ∧ ∀ j (h : j < l.length), j < k → l[j] = true) (fun _ i => l.length - (intOf i).toNat)
  case atStart => exact ⟨0, by omega, rfl, fun j _ h => absurd h (by omega)⟩
  case round =>
    obtain ⟨k, hk, rfl, hj⟩ := hrel
    by_cases hlt : k < l.length
    · obtain ⟨b, o, cs, rfl, hR, hcs⟩ := hr.at_ hlt
      have hR' : cs = [.bool l[k]] := hR
      subst hR'
      have h0 := hcs.at0
      rw [Nat.mul_one] at h0
      clear hcs hR hr
      cases hb : l[k]
      · rw [hb] at h0
        go_wp2_with fail
        go_ret
        exact ⟨rfl, .inr ⟨k, hlt, rfl, hb ▸ List.getElem_mem hlt⟩⟩
      · rw [hb] at h0
        go_wp2_with fail
        exact ⟨⟨k + 1, by omega, by go_num, fun j h1 h2 => by
          by_cases h3 : j < k
          · exact hj j h1 h3
          · obtain rfl : j = k := by omega
            exact hb⟩, by simp only [intOf]; omega⟩
    · go_wp2_with fail
      go_ret
      refine ⟨rfl, .inl ⟨rfl, fun hb => ?_⟩⟩
      obtain ⟨j, h1, h2⟩ := List.getElem_of_mem hb
      rw [hj j h1 (by omega)] at h2
      cases h2
theorem contains_false (l : List Bool) (v : Value) (w : World) (hs : Sl RBool 1 1 w l v) :
    Calls Tryd.prog 51 #[v, .bool false] w fun e w' => e = .returned (.bool (!l.all id)) ∧ w' = w := by
  go_enter Tryd.func51, Tryd.ntmps51
  go_wp2_with fail
  refine (index_bool l v _ hs).mono ?_
  rintro e w' ⟨rfl, ⟨rfl, h⟩ | ⟨i, hi, rfl, h⟩⟩
  · go_wp2_with fail
    go_ret
    have : l.all id = true := List.all_eq_true.2 fun b hb => by cases b <;> simp_all
    exact ⟨ret_bool (by simp [this]), rfl⟩
  · go_wp2_with fail
    go_ret
    have : l.all id = false := by
      rw [List.all_eq_false]
      exact ⟨false, h, by simp⟩
    exact ⟨ret_bool (by simp [this]), rfl⟩
theorem sl_bool1 {w : World} {g : Nat} {a : Bool} (h0 : w.cell? ⟨g, 0, none⟩ = some (.bool a)) : Sl RBool 1 1 w [a] (.slice (some ⟨g, 0, none⟩) 1 1) :=
  ⟨_, _, rfl, Nat.le_refl _, (show 1 * 1 ≤ 140737488351232 by decide), fun _ => ⟨g, 0, rfl, fun i x hx => by
    match i, hx with
    | 0, hx => simp at hx; subst hx; exact ⟨_, rfl, fun j v hv => by match j, hv with | 0, hv => simp at hv; subst hv; simpa using h0⟩⟩⟩
theorem sl_bool2 {w : World} {g : Nat} {a b : Bool} (h0 : w.cell? ⟨g, 0, none⟩ = some (.bool a)) (h1 : w.cell? ⟨g, 1, none⟩ = some (.bool b)) : Sl RBool 1 1 w [a, b] (.slice (some ⟨g, 0, none⟩) 2 2) :=
  ⟨_, _, rfl, Nat.le_refl _, (show 2 * 1 ≤ 140737488351232 by decide), fun _ => ⟨g, 0, rfl, fun i x hx => by
    match i, hx with
    | 0, hx => simp at hx; subst hx; exact ⟨_, rfl, fun j v hv => by match j, hv with | 0, hv => simp at hv; subst hv; simpa using h0⟩
    | 1, hx => simp at hx; subst hx; exact ⟨_, rfl, fun j v hv => by match j, hv with | 0, hv => simp at hv; subst hv; simpa using h1⟩⟩⟩

/-- What is thrown where something is not right; and how a check ends. -/
def wrongs : List PanicEntry := [{ v := .iface 84 (.agg #[]), recovered := false }]
def ck (ok : Bool) : Ending := if ok = true then .returned (.tuple #[]) else .panicked wrongs
theorem ck_true : ck true = .returned (.tuple #[]) := rfl
theorem ck_false : ck false = .panicked wrongs := rfl
theorem must_any (l : List Bool) (v : Value) (w : World) (hs : Sl RBool 1 1 w l v) :
    Calls Tryd.prog 28 #[v] w fun e w' => e = ck (l.all id) ∧ w' = w := by
  go_enter Tryd.func28, Tryd.ntmps28
  go_wp2_with fail
  refine (contains_false l v _ hs).mono ?_
  rintro e w' ⟨rfl, rfl⟩
  cases h : l.all id
  · go_wp2_with fail
    exact ⟨rfl, by rw [h]; rfl, rfl⟩
  · go_wp2_with fail
    go_end0
    exact ⟨by rw [h]; rfl, rfl⟩
theorem must_yes (l : List Bool) (v : Value) (w : World) (hs : Sl RBool 1 1 w l v) (h : l.all id = true) :
    Calls Tryd.prog 28 #[v] w fun e w' => e = .returned (.tuple #[]) ∧ Ext w w' := (must_any l v w hs).mono fun e w' ⟨he, hw⟩ => ⟨by rw [he, h]; rfl, hw ▸ Ext.rf _⟩
theorem must_no (l : List Bool) (v : Value) (w : World) (hs : Sl RBool 1 1 w l v) (h : l.all id = false) :
    Calls Tryd.prog 28 #[v] w fun e w' => e = .panicked wrongs ∧ Ext w w' := (must_any l v w hs).mono fun e w' ⟨he, hw⟩ => ⟨by rw [he, h]; rfl, hw ▸ Ext.rf _⟩
end Go.Proofs.YtjaklnabidbmiaaDoor

/- Walks: spandrelref02. -/
import Derived.Test.YtjaklnabidbmiaaDoorRef
import Derived.Deep.CutBlock
import Derived.Deep.DeepCutAuto
namespace Go.Proofs.YtjaklnabidbmiaaDoor
open Go.RowKit
set_option linter.unusedSimpArgs false
set_option linter.unusedVariables false

theorem refBinds_any (k kid : Int) (w : World) :
    Calls Tryd.prog 50 #[.int .i64 k, .int .i64 kid] w fun e w' => e = .returned (.bool (binds k kid)) ∧ w' = w := by
  have hb : ∀ x : Bool, (x = true ↔ (0 < k ∧ k < 25 ∧ 0 ≤ kid ∧ kBound k = kid)) → x = binds k kid := fun x hx => by
    rw [Bool.eq_iff_iff, hx]
    simp [binds, and_assoc]
  have HB := hid hb
  clear hb
  by_cases h1 : k = 4 ∨ k = 5 ∨ k = 12 ∨ k = 16 ∨ k = 18
  · have H1 := hid h1
    have e : kBound k = 1 := by unfold kBound; rw [if_neg (by omega), if_pos (by omega)]
    have H : Hid (Value.bool (kid == 1) = Value.bool (binds k kid)) := congrArg Value.bool (HB.out _ (by rw [e]; simp; omega))
    rcases h1 with rfl | rfl | rfl | rfl | rfl <;>
    · clear HB e
      go_enter Tryd.func50, Tryd.ntmps50
      go_wp2
      go_ret
      exact ⟨congrArg Ending.returned H.out, rfl⟩
  · by_cases h2 : k = 7
    · subst h2
      have H : Hid (Value.bool (kid == 2) = Value.bool (binds 7 kid)) := congrArg Value.bool (HB.out _ (by simp [kBound]; omega))
      clear HB h1
      go_enter Tryd.func50, Tryd.ntmps50
      go_wp2
      go_ret
      exact ⟨congrArg Ending.returned H.out, rfl⟩
    · have H : Hid (Value.bool false = Value.bool (binds k kid)) := congrArg Value.bool (HB.out _ (by
        constructor
        · intro h; cases h
        · rintro ⟨a, b, c, d⟩
          unfold kBound at d
          rw [if_neg (by omega), if_neg (by omega), if_neg (by omega)] at d
          omega))
      clear HB
      have c1 : k ≠ 4 := by omega
      have c2 : k ≠ 5 := by omega
      have c3 : k ≠ 12 := by omega
      have c4 : k ≠ 16 := by omega
      have c5 : k ≠ 18 := by omega
      clear h1
      go_enter Tryd.func50, Tryd.ntmps50
      go_wp2
      go_ret
      exact ⟨congrArg Ending.returned H.out, rfl⟩
def RefOk (k n a nl nk : Int) : Prop := NodeOk k n a nl nk ∧ (k = 24 → a ≤ 20000)
instance (k n a nl nk : Int) : Decidable (RefOk k n a nl nk) := by unfold RefOk; infer_instance
set_option maxRecDepth 100000 in
set_option maxHeartbeats 4000000 in
theorem refKind_any (k n a : Int) (ls : List Level) (ks : List Term) (vl vk : Value) (w : World) (hl : SlLevel w ls vl) (hs : SlTerm w ks vk) :
    Calls Tryd.prog 73 #[.agg #[.int .i64 k, .int .i64 n, .int .i64 a, vl, vk]] w fun e w' => e = .returned (.bool (decide (RefOk k n a ls.length ks.length))) ∧ Ext w w' := by
  obtain ⟨A1, c1, rfl, hc1, hr1⟩ := hl
  obtain ⟨A2, c2, rfl, hc2, hr2⟩ := hs
  have hl1 := hr1.len_le
  have hl2 := hr2.len_le
  clear hr1 hr2 hc1 hc2
  by_cases hk : 1 ≤ k ∧ k ≤ 24
  · go_enter Tryd.func73, Tryd.ntmps73
    go_upto_block 0 with fail
    generalize hW0 : w.alloc (.cells #[.int .i64 k, .int .i64 n, .int .i64 a, .slice A1 ls.length c1, .slice A2 ks.length c2] 27) = W0
    have hE : Ext w W0 := hW0 ▸ (Ext.rf _).al _
    have x0 : W0.cell? ⟨w.heap.size, 0, none⟩ = some (.int .i64 k) := by subst hW0; simp [go_sem]
    have x1 : W0.cell? ⟨w.heap.size, 1, none⟩ = some (.int .i64 n) := by subst hW0; simp [go_sem]
    have x2 : W0.cell? ⟨w.heap.size, 2, none⟩ = some (.int .i64 a) := by subst hW0; simp [go_sem]
    have x3 : W0.cell? ⟨w.heap.size, 3, none⟩ = some (.slice A1 ls.length c1) := by subst hW0; simp [go_sem]
    have x4 : W0.cell? ⟨w.heap.size, 4, none⟩ = some (.slice A2 ks.length c2) := by subst hW0; simp [go_sem]
    clear hW0
    go_cut [3, 4, 5, 6] (fun nu aa lv kd wc => nu = .bool (kNum k) ∧ aa = .bool (kAt k) ∧ lv = .int .i64 (kLevels k) ∧ kd = .int .i64 (kKids k + (if k = 24 then a else 0)) ∧ wc = W0 ∧ (k = 24 → 0 ≤ a ∧ a ≤ 20000))
    case first =>
      by_cases h24 : k = 24
      · subst h24
        by_cases ha : 0 ≤ a ∧ a ≤ 20000
        · have ha1 : ¬ a < 0 := by omega
          have ha2 : ¬ 20000 < a := by omega
          have ha3 : IntKind.i64.wrap (a + 2) = a + 2 := IntWalk.i64_in _ (by omega)
          go_wp2_with fail
          go_meet
          exact ⟨rfl, rfl, rfl, by simp [kKids]; omega, rfl, fun _ => ha⟩
        · have hno : decide (RefOk 24 n a ls.length ks.length) = false := decide_eq_false (fun h => ha ⟨h.1.2.2.1.1, h.2 rfl⟩)
          have Hno := hid hno
          clear hno
          by_cases ha1 : a < 0
          · go_wp2_with fail
            go_ret
            exact ⟨ret_bool Hno.out.symm, hE⟩
          · have ha2 : 20000 < a := by omega
            go_wp2_with fail
            go_ret
            exact ⟨ret_bool Hno.out.symm, hE⟩
      · have hk' : k = 1 ∨ k = 2 ∨ k = 3 ∨ k = 4 ∨ k = 5 ∨ k = 6 ∨ k = 7 ∨ k = 8 ∨ k = 9 ∨ k = 10 ∨ k = 11 ∨ k = 12 ∨ k = 13 ∨ k = 14 ∨ k = 15 ∨ k = 16 ∨ k = 17 ∨ k = 18 ∨ k = 19 ∨ k = 20 ∨ k = 21 ∨ k = 22 ∨ k = 23 := by omega
        clear h24 hk
        rcases hk' with rfl | rfl | rfl | rfl | rfl | rfl | rfl | rfl | rfl | rfl | rfl | rfl | rfl | rfl | rfl | rfl | rfl | rfl | rfl | rfl | rfl | rfl | rfl <;>
        · go_wp2_with fail
          go_meet
          exact ⟨rfl, rfl, rfl, rfl, rfl, fun h => by omega⟩
    case rest =>
      obtain ⟨rfl, rfl, rfl, rfl, rfl, h24⟩ := hcut
      have hkey : RefOk k n a ls.length ks.length ↔ (0 ≤ n ∧ n ≤ 1048576) ∧ (0 ≤ a ∧ a ≤ 1048576) ∧ (ks.length : Int) = kKids k + (if k = 24 then a else 0) ∧ (n = 0 ∨ kNum k = true) ∧ (a = 0 ∨ kAt k = true) ∧ (kLevels k < 0 ∨ (ls.length : Int) = kLevels k) ∧ (ls.length : Int) ≤ (if k = 10 then 10 else 8) := by
        unfold RefOk NodeOk
        constructor
        · rintro ⟨⟨_, h⟩, _⟩
          exact h
        · intro h
          exact ⟨⟨hk, h⟩, fun h' => (h24 h').2⟩
      have Hkey := hid hkey
      clear hkey h24
      generalize kNum k = B1 at *
      generalize kAt k = B2 at *
      generalize kLevels k = L at *
      generalize (kKids k + if k = 24 then a else 0) = Kd at *
      by_cases h10 : k = 10
      · cases B1 <;> cases B2
        all_goals go_wp2_with fail
        all_goals go_ret
        all_goals refine ⟨ret_bool (Eq.symm ?_), hE⟩
        all_goals have hkey := Hkey.out
        all_goals clear Hkey
        all_goals rw [if_pos h10] at hkey
        all_goals grind
      · cases B1 <;> cases B2
        all_goals go_wp2_with fail
        all_goals go_ret
        all_goals refine ⟨ret_bool (Eq.symm ?_), hE⟩
        all_goals have hkey := Hkey.out
        all_goals clear Hkey
        all_goals rw [if_neg h10] at hkey
        all_goals grind
  · have hno : decide (RefOk k n a ls.length ks.length) = false := decide_eq_false (fun h => hk h.1.1)
    have Hno := hid hno
    clear hno
    have c1 : k ≠ 1 := by omega
    have c2 : k ≠ 2 := by omega
    have c3 : k ≠ 3 := by omega
    have c4 : k ≠ 4 := by omega
    have c5 : k ≠ 5 := by omega
    have c6 : k ≠ 6 := by omega
    have c7 : k ≠ 7 := by omega
    have c8 : k ≠ 8 := by omega
    have c9 : k ≠ 9 := by omega
    have c10 : k ≠ 10 := by omega
    have c11 : k ≠ 11 := by omega
    have c12 : k ≠ 12 := by omega
    have c13 : k ≠ 13 := by omega
    have c14 : k ≠ 14 := by omega
    have c15 : k ≠ 15 := by omega
    have c16 : k ≠ 16 := by omega
    have c17 : k ≠ 17 := by omega
    have c18 : k ≠ 18 := by omega
    have c19 : k ≠ 19 := by omega
    have c20 : k ≠ 20 := by omega
    have c21 : k ≠ 21 := by omega
    have c22 : k ≠ 22 := by omega
    have c23 : k ≠ 23 := by omega
    have c24 : k ≠ 24 := by omega
    clear hk
    go_enter Tryd.func73, Tryd.ntmps73
    go_wp2_with fail
    go_ret
    exact ⟨ret_bool Hno.out.symm, (Ext.rf _).al _⟩
end Go.Proofs.YtjaklnabidbmiaaDoor

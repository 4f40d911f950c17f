/- Walks: package term's depth.means, walk.below, walk.term over any turn; Lift. -/
import Derived.Test.YtjaklnabidbmiaaDoorLift
import Derived.Test.YtjaklnabidbmiaaDoorTerm
import Derived.BigQuiet
import Derived.Deep.QuietTactic
namespace Go.Proofs.YtjaklnabidbmiaaDoor
open Go.RowKit
set_option linter.unusedSimpArgs false
set_option linter.unusedVariables false
theorem Ext.drN2 {w W : World} (h : Ext w W) (n : Nat) : Ext w (W.drewN n) := ⟨h.os, h.tape, h.output, h.size, h.block⟩
theorem means_any (b num : Int) (w : World) (hb : 0 ≤ b ∧ b ≤ 1152921504606846976) (hn : inI num) :
    Calls Tryd.prog 36 #[.agg #[.int .i64 b], .int .i64 num] w fun e w' => Ext w w' ∧ ∃ x, e = .returned (.tuple #[.int .i64 x, .bool (decide (b ≤ num))]) ∧ (b ≤ num → x = num - b) := by
  unfold inI at hn
  by_cases hle : b ≤ num
  · go_enter Tryd.func36, Tryd.ntmps36
    go_wp2_with fail
    go_quiet (fail)
    go_wp2_with fail
    go_ret2
    exact ⟨((Ext.rf _).al _).drN2 _, num - b, by simp [hle], fun _ => rfl⟩
  · go_enter Tryd.func36, Tryd.ntmps36
    go_wp2_with fail
    go_quiet (fail)
    go_wp2_with fail
    go_ret2
    exact ⟨((Ext.rf _).al _).drN2 _, _, by simp [hle]; rfl, fun h => absurd h (by omega)⟩
set_option maxRecDepth 100000 in
theorem below_any (b k i : Int) (K : Nat) (caps : Array Value) (w : World) (hK : KindsIn w) (hb : 0 ≤ b ∧ b ≤ 1152921504606846976) :
    Calls Tryd.prog 58 #[.agg #[.int .i64 b, (.func (.func K) #[] caps)], .int .i64 k, .int .i64 i] w fun e w' => Ext w w' ∧ e = .returned (.agg #[.int .i64 (b + if binds k i = true then 1 else 0), (.func (.func K) #[] caps)]) := by
  have hu2 := Tryd.underlying70
  have hi2 : (Tryd.prog.info? 70).map (·.size) = some 2 := by kernel_rfl
  cases hbi : binds k i
  · go_enter Tryd.func58, Tryd.ntmps58
    go_wp2_with fail
    refine (binds_any k i _ (hK.ext (((Ext.rf _).al _).al _))).mono ?_
    rintro e w1 ⟨rfl, rfl⟩
    rw [hbi]
    have th := hid (show ((w.alloc (.cells #[.int .i64 b, .func (.func K) #[] caps] 70)).alloc (.cells #[.int .i64 0, .nilFunc] 70)).there (w.heap.size + 1) 0 2 by have := there_fresh (w.alloc (.cells #[.int .i64 b, .func (.func K) #[] caps] 70)) 70 #[.int .i64 0, .nilFunc] 2 (Nat.le_refl _); simpa using this)
    have hone := hid (show ∀ v ∈ ([.int .i64 b, .func (.func K) #[] caps] : List Value), v.oneCell' = true from fun u hu => by
      simp only [List.mem_cons, List.not_mem_nil, or_false] at hu
      rcases hu with rfl | rfl <;> rfl)
    go_wp2_with ((with_reducible show wpList _ _ _ (⟨_, Op.store 70 _ _, _, _, _, _⟩ :: _) _ _); refine wpList_store_mid (by rfl) 70 _ _ (by rfl) (w.heap.size + 1) 0 #[.int .i64 b, .func (.func K) #[] caps] (by rfl) (by rfl) (by exact th.out) hi2 (all_oneCell_toArray hone.out) ?_)
    refine bodyPost_ret (v := .agg #[.int .i64 b, .func (.func K) #[] caps]) (results_cell_mid (by rfl) _ _ (w.heap.size + 1) [.int .i64 b, .func (.func K) #[] caps] _ (by rfl) (World.rangeAt_setCells_same _ _ _ _ th.out) hu2 (by rfl) hi2) rfl ?_
    exact ⟨Ext.sets (((Ext.rf _).al _).al _) (by omega) _ _, by simp⟩
  · go_enter Tryd.func58, Tryd.ntmps58
    go_wp2_with fail
    refine (binds_any k i _ (hK.ext (((Ext.rf _).al _).al _))).mono ?_
    rintro e w1 ⟨rfl, rfl⟩
    rw [hbi]
    have th := hid (show ((w.alloc (.cells #[.int .i64 (b + 1), .func (.func K) #[] caps] 70)).alloc (.cells #[.int .i64 0, .nilFunc] 70)).there (w.heap.size + 1) 0 2 by have := there_fresh (w.alloc (.cells #[.int .i64 (b + 1), .func (.func K) #[] caps] 70)) 70 #[.int .i64 0, .nilFunc] 2 (Nat.le_refl _); simpa using this)
    have hone := hid (show ∀ v ∈ ([.int .i64 (b + 1), .func (.func K) #[] caps] : List Value), v.oneCell' = true from fun u hu => by
      simp only [List.mem_cons, List.not_mem_nil, or_false] at hu
      rcases hu with rfl | rfl <;> rfl)
    go_wp2_with ((with_reducible show wpList _ _ _ (⟨_, Op.store 70 _ _, _, _, _, _⟩ :: _) _ _); refine wpList_store_mid (by rfl) 70 _ _ (by rfl) (w.heap.size + 1) 0 #[.int .i64 (b + 1), .func (.func K) #[] caps] (by rfl) (by rfl) (by exact th.out) hi2 (all_oneCell_toArray hone.out) ?_)
    refine bodyPost_ret (v := .agg #[.int .i64 (b + 1), .func (.func K) #[] caps]) (results_cell_mid (by rfl) _ _ (w.heap.size + 1) [.int .i64 (b + 1), .func (.func K) #[] caps] _ (by rfl) (World.rangeAt_setCells_same _ _ _ _ th.out) hu2 (by rfl) hi2) rfl ?_
    exact ⟨Ext.sets (((Ext.rf _).al _).al _) (by omega) _ _, by simp⟩
end Go.Proofs.YtjaklnabidbmiaaDoor

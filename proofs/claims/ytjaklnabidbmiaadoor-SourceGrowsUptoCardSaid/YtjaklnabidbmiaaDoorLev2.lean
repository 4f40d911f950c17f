/- Walks: level.Right. -/
import Derived.Test.YtjaklnabidbmiaaDoorLev
import Derived.Test.YtjaklnabidbmiaaDoorSlices
namespace Go.Proofs.YtjaklnabidbmiaaDoor
open Go.RowKit

theorem enters_levelRight2 : Enters 80 := ⟨fun _ _ => by simp [go_sem]⟩
/-- A part that may not be, among n variables. -/
def badPart (n : Int) (p : Part) : Bool := decide (p.v < 0) || decide (n < p.v) || decide (p.p < 0) || decide (1000 < p.p)
theorem level_bad (n : Int) (p : Part) (g : Nat) (w : World) (hg : w.cell? ⟨g, 0, none⟩ = some (.int .i64 n)) :
    Calls Tryd.prog 80 #[.agg #[.int .i64 p.v, .int .i64 p.p], .pointer (some ⟨g, 0, none⟩)] w fun e w' => e = .returned (.bool (badPart n p)) ∧ Ext w w' := by
  have hgl := World.block_lt_of_cell? w _ hg
  have hne := World.new_ne w _ hg
  go_enter Tryd.func80, Tryd.ntmps80
  go_wp2
  all_goals go_ret
  all_goals refine ⟨ret_bool (Eq.symm ?_), (Ext.rf _).al _⟩
  all_goals unfold badPart
  all_goals first | rfl | (simp [*]; done) | (simp; omega)
def levelRight (l : Level) (n : Int) : Bool := rising l.parts && decide (l.parts.length ≤ 9) && !l.parts.any (badPart n)
set_option maxRecDepth 100000 in
theorem levelRight_any (l : Level) (n : Int) (vc : Value) (w : World) (hs : Sl RPart 2 16 w l.parts vc) :
    Calls Tryd.prog 52 #[.agg #[vc], .int .i64 n] w fun e w' => e = .returned (.bool (levelRight l n)) ∧ Ext w w' := by
  obtain ⟨A, c, hv, hc, hr⟩ := id hs
  subst hv
  have hl := hr.len_le
  have hmf : ∀ (fn : Fn) (first cap : Array Value) (w : World), (Instr.makeFunc fn first cap).run Tryd.prog w = .ok (.func fn first cap) w := fun _ _ _ _ => rfl
  go_enter Tryd.func52, Tryd.ntmps52
  go_wp2_with fail
  refine (sorted_any l.parts _ _ (hs.ext mono_part (((Ext.rf _).al _).al _))).mono ?_
  rintro e w1 ⟨rfl, hx1⟩
  have hx2 : Ext w w1 := (((Ext.rf _).al _).al _).tr hx1
  obtain ⟨hc1, _⟩ := bcell hx1
  cases hq : rising l.parts
  · go_wp2
    go_ret
    exact ⟨ret_bool (by simp [levelRight, hq]), hx2⟩
  · by_cases h9 : (l.parts.length : Int) ≤ 9
    · go_wp2_with fail
      refine (contains_part_pure 80 _ (badPart n) l.parts _ _ (hs.ext mono_part hx2) enters_levelRight2 ?_).mono ?_
      · intro x cs W _ hR hW
        obtain ⟨rfl, _⟩ := hR
        exact level_bad n x (w.heap.size + 1) W (hW.cell (hx1.cell (by simp [go_sem])))
      rintro e w2 ⟨rfl, hx3⟩
      go_wp2
      go_ret
      exact ⟨ret_bool (by simp [levelRight, hq]; omega), hx2.tr hx3⟩
    · go_wp2
      go_ret
      exact ⟨ret_bool (by simp [levelRight]; omega), hx2⟩
end Go.Proofs.YtjaklnabidbmiaaDoor

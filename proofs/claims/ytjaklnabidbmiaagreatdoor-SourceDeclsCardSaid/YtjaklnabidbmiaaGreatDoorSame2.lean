/- Walk: spandrelkit.SameDecl of two that read as the same. Printed by gen_same2.py. -/
import Derived.Test.YtjaklnabidbmiaaGreatDoorSame
import Derived.Test.YtjaklnabidbmiaaGreatDoorBlock2
namespace Go.Proofs.YtjaklnabidbmiaaGreatDoor
open Go.RowKit
set_option linter.unusedSimpArgs false
set_option linter.unusedVariables false

set_option maxRecDepth 100000 in
set_option maxHeartbeats 2000000 in
theorem sameDecl_any (d : Decl) (ca cb : List Value) (w : World) (ha : RDecl w d ca) (hb : RDecl w d cb) : Calls Tryz.prog 16 #[.agg ca.toArray, .agg cb.toArray] w fun e w' => e = .returned (.bool true) ∧ Ext w w' := by
  obtain ⟨xA1, xc1, xA2, xc2, xA3, xc3, xA4, xc4, xcp, xvp, xcS, xvS, xcm, xvm, xcc, xvc, rfl, xhik, xhil, xht, xhb, xhp, xhS, xhm, xhc⟩ := rdecl_open ha
  obtain ⟨yA1, yc1, yA2, yc2, yA3, yc3, yA4, yc4, ycp, yvp, ycS, yvS, ycm, yvm, ycc, yvc, rfl, yhik, yhil, yht, yhb, yhp, yhS, yhm, yhc⟩ := rdecl_open hb
  have xHht := hid xht
  have xHhb := hid xhb
  have xHhp := hid xhp
  have xHhS := hid xhS
  have xHhm := hid xhm
  have xHhc := hid xhc
  clear xht xhb xhp xhS xhm xhc
  have yHht := hid yht
  have yHhb := hid yhb
  have yHhp := hid yhp
  have yHhS := hid yhS
  have yHhm := hid yhm
  have yHhc := hid yhc
  clear yht yhb yhp yhS yhm yhc
  clear ha hb
  have hx0 : Ext w ((w.alloc (.cells #[.int .i64 d.kind, .int .i64 d.levels, .int .i64 d.type.kind, .int .i64 d.type.num, .int .i64 d.type.at_, .slice xA1 d.type.levels.length xc1, .slice xA2 d.type.kids.length xc2, .int .i64 d.body.kind, .int .i64 d.body.num, .int .i64 d.body.at_, .slice xA3 d.body.levels.length xc3, .slice xA4 d.body.kids.length xc4, .slice xvp d.params.length xcp, .slice xvS d.sort.parts.length xcS, .slice xvm d.members.length xcm, .slice xvc d.ctors.length xcc] 42)).alloc (.cells #[.int .i64 d.kind, .int .i64 d.levels, .int .i64 d.type.kind, .int .i64 d.type.num, .int .i64 d.type.at_, .slice yA1 d.type.levels.length yc1, .slice yA2 d.type.kids.length yc2, .int .i64 d.body.kind, .int .i64 d.body.num, .int .i64 d.body.at_, .slice yA3 d.body.levels.length yc3, .slice yA4 d.body.kids.length yc4, .slice yvp d.params.length ycp, .slice yvS d.sort.parts.length ycS, .slice yvm d.members.length ycm, .slice yvc d.ctors.length ycc] 42)) := ((Ext.rf _).al _).al _
  have HX := hid hx0
  clear hx0
  go_enter Tryz.func16, Tryz.ntmps16
  go_wp2_with fail
  refine (sameTerm_any d.type _ _ _ (mono_term _ _ _ _ HX.out xHht.out) (mono_term _ _ _ _ HX.out yHht.out)).mono ?_
  rintro e w1 ⟨rfl, hx1⟩
  have xq0_7 : w1.cell? ⟨w.heap.size, 7, none⟩ = some (.int .i64 d.body.kind) := hx1.cell (by simp [go_sem])
  have xq0_8 : w1.cell? ⟨w.heap.size, 8, none⟩ = some (.int .i64 d.body.num) := hx1.cell (by simp [go_sem])
  have xq0_9 : w1.cell? ⟨w.heap.size, 9, none⟩ = some (.int .i64 d.body.at_) := hx1.cell (by simp [go_sem])
  have xq0_10 : w1.cell? ⟨w.heap.size, 10, none⟩ = some (.slice xA3 d.body.levels.length xc3) := hx1.cell (by simp [go_sem])
  have xq0_11 : w1.cell? ⟨w.heap.size, 11, none⟩ = some (.slice xA4 d.body.kids.length xc4) := hx1.cell (by simp [go_sem])
  have xq0_12 : w1.cell? ⟨w.heap.size, 12, none⟩ = some (.slice xvp d.params.length xcp) := hx1.cell (by simp [go_sem])
  have xq0_13 : w1.cell? ⟨w.heap.size, 13, none⟩ = some (.slice xvS d.sort.parts.length xcS) := hx1.cell (by simp [go_sem])
  have xq0_14 : w1.cell? ⟨w.heap.size, 14, none⟩ = some (.slice xvm d.members.length xcm) := hx1.cell (by simp [go_sem])
  have xq0_15 : w1.cell? ⟨w.heap.size, 15, none⟩ = some (.slice xvc d.ctors.length xcc) := hx1.cell (by simp [go_sem])
  have yq0_7 : w1.cell? ⟨w.heap.size + 1, 7, none⟩ = some (.int .i64 d.body.kind) := hx1.cell (by simp [go_sem])
  have yq0_8 : w1.cell? ⟨w.heap.size + 1, 8, none⟩ = some (.int .i64 d.body.num) := hx1.cell (by simp [go_sem])
  have yq0_9 : w1.cell? ⟨w.heap.size + 1, 9, none⟩ = some (.int .i64 d.body.at_) := hx1.cell (by simp [go_sem])
  have yq0_10 : w1.cell? ⟨w.heap.size + 1, 10, none⟩ = some (.slice yA3 d.body.levels.length yc3) := hx1.cell (by simp [go_sem])
  have yq0_11 : w1.cell? ⟨w.heap.size + 1, 11, none⟩ = some (.slice yA4 d.body.kids.length yc4) := hx1.cell (by simp [go_sem])
  have yq0_12 : w1.cell? ⟨w.heap.size + 1, 12, none⟩ = some (.slice yvp d.params.length ycp) := hx1.cell (by simp [go_sem])
  have yq0_13 : w1.cell? ⟨w.heap.size + 1, 13, none⟩ = some (.slice yvS d.sort.parts.length ycS) := hx1.cell (by simp [go_sem])
  have yq0_14 : w1.cell? ⟨w.heap.size + 1, 14, none⟩ = some (.slice yvm d.members.length ycm) := hx1.cell (by simp [go_sem])
  have yq0_15 : w1.cell? ⟨w.heap.size + 1, 15, none⟩ = some (.slice yvc d.ctors.length ycc) := hx1.cell (by simp [go_sem])
  have hX1 := hid (HX.out.tr hx1)
  clear hx1
  go_wp2_with fail
  refine (sameTerm_any d.body _ _ _ (mono_term _ _ _ _ hX1.out xHhb.out) (mono_term _ _ _ _ hX1.out yHhb.out)).mono ?_
  rintro e w2 ⟨rfl, hx2⟩
  have xq1_12 : w2.cell? ⟨w.heap.size, 12, none⟩ = some (.slice xvp d.params.length xcp) := hx2.cell xq0_12
  have xq1_13 : w2.cell? ⟨w.heap.size, 13, none⟩ = some (.slice xvS d.sort.parts.length xcS) := hx2.cell xq0_13
  have xq1_14 : w2.cell? ⟨w.heap.size, 14, none⟩ = some (.slice xvm d.members.length xcm) := hx2.cell xq0_14
  have xq1_15 : w2.cell? ⟨w.heap.size, 15, none⟩ = some (.slice xvc d.ctors.length xcc) := hx2.cell xq0_15
  have yq1_12 : w2.cell? ⟨w.heap.size + 1, 12, none⟩ = some (.slice yvp d.params.length ycp) := hx2.cell yq0_12
  have yq1_13 : w2.cell? ⟨w.heap.size + 1, 13, none⟩ = some (.slice yvS d.sort.parts.length ycS) := hx2.cell yq0_13
  have yq1_14 : w2.cell? ⟨w.heap.size + 1, 14, none⟩ = some (.slice yvm d.members.length ycm) := hx2.cell yq0_14
  have yq1_15 : w2.cell? ⟨w.heap.size + 1, 15, none⟩ = some (.slice yvc d.ctors.length ycc) := hx2.cell yq0_15
  clear xq0_7 xq0_8 xq0_9 xq0_10 xq0_11 xq0_12 xq0_13 xq0_14 xq0_15 yq0_7 yq0_8 yq0_9 yq0_10 yq0_11 yq0_12 yq0_13 yq0_14 yq0_15
  have hX2 := hid (hX1.out.tr hx2)
  clear hx2
  go_wp2_with fail
  refine (sameTerms_any d.params _ _ _ (xHhp.out.ext mono_term hX2.out) (yHhp.out.ext mono_term hX2.out)).mono ?_
  rintro e w3 ⟨rfl, hx3⟩
  have xq2_13 : w3.cell? ⟨w.heap.size, 13, none⟩ = some (.slice xvS d.sort.parts.length xcS) := hx3.cell xq1_13
  have xq2_14 : w3.cell? ⟨w.heap.size, 14, none⟩ = some (.slice xvm d.members.length xcm) := hx3.cell xq1_14
  have xq2_15 : w3.cell? ⟨w.heap.size, 15, none⟩ = some (.slice xvc d.ctors.length xcc) := hx3.cell xq1_15
  have yq2_13 : w3.cell? ⟨w.heap.size + 1, 13, none⟩ = some (.slice yvS d.sort.parts.length ycS) := hx3.cell yq1_13
  have yq2_14 : w3.cell? ⟨w.heap.size + 1, 14, none⟩ = some (.slice yvm d.members.length ycm) := hx3.cell yq1_14
  have yq2_15 : w3.cell? ⟨w.heap.size + 1, 15, none⟩ = some (.slice yvc d.ctors.length ycc) := hx3.cell yq1_15
  clear xq1_12 xq1_13 xq1_14 xq1_15 yq1_12 yq1_13 yq1_14 yq1_15
  have hX3 := hid (hX2.out.tr hx3)
  clear hx3
  go_wp2_with fail
  refine (sameLevel_any d.sort _ _ _ ⟨_, rfl, xHhS.out.ext mono_part hX3.out⟩ ⟨_, rfl, yHhS.out.ext mono_part hX3.out⟩).mono ?_
  rintro e w4 ⟨rfl, hx4⟩
  have xq3_14 : w4.cell? ⟨w.heap.size, 14, none⟩ = some (.slice xvm d.members.length xcm) := hx4.cell xq2_14
  have xq3_15 : w4.cell? ⟨w.heap.size, 15, none⟩ = some (.slice xvc d.ctors.length xcc) := hx4.cell xq2_15
  have yq3_14 : w4.cell? ⟨w.heap.size + 1, 14, none⟩ = some (.slice yvm d.members.length ycm) := hx4.cell yq2_14
  have yq3_15 : w4.cell? ⟨w.heap.size + 1, 15, none⟩ = some (.slice yvc d.ctors.length ycc) := hx4.cell yq2_15
  clear xq2_13 xq2_14 xq2_15 yq2_13 yq2_14 yq2_15
  have hX4 := hid (hX3.out.tr hx4)
  clear hx4
  go_wp2_with fail
  refine (sameMembers_any d.members _ _ _ (xHhm.out.ext mono_member hX4.out) (yHhm.out.ext mono_member hX4.out)).mono ?_
  rintro e w5 ⟨rfl, hx5⟩
  have xq4_15 : w5.cell? ⟨w.heap.size, 15, none⟩ = some (.slice xvc d.ctors.length xcc) := hx5.cell xq3_15
  have yq4_15 : w5.cell? ⟨w.heap.size + 1, 15, none⟩ = some (.slice yvc d.ctors.length ycc) := hx5.cell yq3_15
  clear xq3_14 xq3_15 yq3_14 yq3_15
  have hX5 := hid (hX4.out.tr hx5)
  clear hx5
  go_wp2_with fail
  refine (sameCtors_any d.ctors _ _ _ (xHhc.out.ext mono_ctor hX5.out) (yHhc.out.ext mono_ctor hX5.out)).mono ?_
  rintro e w6 ⟨rfl, hx6⟩
  clear xq4_15 yq4_15
  have hX6 := hid (hX5.out.tr hx6)
  clear hx6
  go_wp2_with fail
  go_ret
  exact ⟨rfl, hX6.out⟩
end Go.Proofs.YtjaklnabidbmiaaGreatDoor

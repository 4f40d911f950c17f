/- Walks: spandrelkit.KeptDecl, KeptDecls. Printed by gen_kept2.py. -/
import Derived.Test.YtjaklnabidbmiaaGreatDoorKept
namespace Go.Proofs.YtjaklnabidbmiaaGreatDoor
open Go.RowKit
set_option linter.unusedSimpArgs false
set_option linter.unusedVariables false
/-- A lent declaration's cells, written out, and its parts. -/
theorem rldecl_parts {w : World} {d : Decl} {cs : List Value} (h : RLDecl w d cs) : ∃ b1 e1 b2 e2 b3 e3 b4 e4 b5 e5 b6 e6 b7 e7 b8 e8, cs = [.int .i64 d.kind, .int .i64 d.levels, .int .i64 d.type.kind, .int .i64 d.type.num, .int .i64 d.type.at_, .slice (some ⟨b1, 0, none⟩) d.type.levels.length e1, .slice (some ⟨b2, 0, none⟩) d.type.kids.length e2, .int .i64 d.body.kind, .int .i64 d.body.num, .int .i64 d.body.at_, .slice (some ⟨b3, 0, none⟩) d.body.levels.length e3, .slice (some ⟨b4, 0, none⟩) d.body.kids.length e4, .slice (some ⟨b5, 0, none⟩) d.params.length e5, .slice (some ⟨b6, 0, none⟩) d.sort.parts.length e6, .slice (some ⟨b7, 0, none⟩) d.members.length e7, .slice (some ⟨b8, 0, none⟩) d.ctors.length e8] ∧
    RLTerm w d.type [.int .i64 d.type.kind, .int .i64 d.type.num, .int .i64 d.type.at_, .slice (some ⟨b1, 0, none⟩) d.type.levels.length e1, .slice (some ⟨b2, 0, none⟩) d.type.kids.length e2] ∧ RLTerm w d.body [.int .i64 d.body.kind, .int .i64 d.body.num, .int .i64 d.body.at_, .slice (some ⟨b3, 0, none⟩) d.body.levels.length e3, .slice (some ⟨b4, 0, none⟩) d.body.kids.length e4] ∧ LSlTerm w d.params (.slice (some ⟨b5, 0, none⟩) d.params.length e5) ∧ LSl RPart RPart mkPart 2 16 w d.sort.parts (.slice (some ⟨b6, 0, none⟩) d.sort.parts.length e6) ∧ LSlMember w d.members (.slice (some ⟨b7, 0, none⟩) d.members.length e7) ∧ LSlCtor w d.ctors (.slice (some ⟨b8, 0, none⟩) d.ctors.length e8) := by
  obtain ⟨ct, cb, vp, vs, vm, vc, rfl, _, h1, h2, h3, h4, h5, h6⟩ := h
  obtain ⟨b1, e1, b2, e2, rfl⟩ := rlterm_open h1
  obtain ⟨b3, e3, b4, e4, rfl⟩ := rlterm_open h2
  obtain ⟨b5, e5, rfl, k5⟩ := id h3
  obtain ⟨b6, e6, rfl, k6⟩ := id h4
  obtain ⟨b7, e7, rfl, k7⟩ := id h5
  obtain ⟨b8, e8, rfl, k8⟩ := id h6
  exact ⟨_, _, _, _, _, _, _, _, _, _, _, _, _, _, _, _, rfl, h1, h2, h3, h4, h5, h6⟩
set_option maxRecDepth 100000 in
set_option maxHeartbeats 4000000 in
theorem keptDecl_any (d : Decl) (ca cb : List Value) (w : World) (ha : RLDecl w d ca) (hb : RDecl w d cb) : Calls Tryz.prog 29 #[.agg ca.toArray, .agg cb.toArray] w fun e w' => e = .returned (.bool true) ∧ Ext w w' := by
  have HA := hid (rl_decl ha)
  have HB := hid hb
  obtain ⟨b1, e1, b2, e2, b3, e3, b4, e4, b5, e5, b6, e6, b7, e7, b8, e8, rfl, hlt, hlb, hlp, hlS, hlm, hlc⟩ := rldecl_parts ha
  obtain ⟨A1, c1, A2, c2, A3, c3, A4, c4, cp, vp, cS, vS, cm, vm, cc, vc, rfl, hik, hil, ht, hb', hp, hS, hm, hc⟩ := rdecl_open hb
  have LT := hid hlt
  have LB := hid hlb
  have LP := hid hlp
  have LS := hid hlS
  have LM := hid hlm
  have LC := hid hlc
  have RT := hid ht
  have RB := hid hb'
  have RP := hid hp
  have RS := hid hS
  have RM := hid hm
  have RC := hid hc
  clear hlt hlb hlp hlS hlm hlc ht hb' hp hS hm hc ha hb hik hil
  have hx0 : Ext w _ := ((Ext.rf w).al (.cells #[.int .i64 d.kind, .int .i64 d.levels, .int .i64 d.type.kind, .int .i64 d.type.num, .int .i64 d.type.at_, .slice (some ⟨b1, 0, none⟩) d.type.levels.length e1, .slice (some ⟨b2, 0, none⟩) d.type.kids.length e2, .int .i64 d.body.kind, .int .i64 d.body.num, .int .i64 d.body.at_, .slice (some ⟨b3, 0, none⟩) d.body.levels.length e3, .slice (some ⟨b4, 0, none⟩) d.body.kids.length e4, .slice (some ⟨b5, 0, none⟩) d.params.length e5, .slice (some ⟨b6, 0, none⟩) d.sort.parts.length e6, .slice (some ⟨b7, 0, none⟩) d.members.length e7, .slice (some ⟨b8, 0, none⟩) d.ctors.length e8] 42)).al (.cells #[.int .i64 d.kind, .int .i64 d.levels, .int .i64 d.type.kind, .int .i64 d.type.num, .int .i64 d.type.at_, .slice A1 d.type.levels.length c1, .slice A2 d.type.kids.length c2, .int .i64 d.body.kind, .int .i64 d.body.num, .int .i64 d.body.at_, .slice A3 d.body.levels.length c3, .slice A4 d.body.kids.length c4, .slice vp d.params.length cp, .slice vS d.sort.parts.length cS, .slice vm d.members.length cm, .slice vc d.ctors.length cc] 42)
  have HX := hid hx0
  clear hx0
  go_enter Tryz.func29, Tryz.ntmps29
  go_wp2_with fail
  refine (sameDecl_any d _ _ _ (mono_decl _ _ _ _ HX.out HA.out) (mono_decl _ _ _ _ HX.out HB.out)).mono ?_
  rintro e w1 ⟨rfl, hx1⟩
  have xq0_2 : w1.cell? ⟨w.heap.size, 2, none⟩ = some (.int .i64 d.type.kind) := hx1.cell (by simp [go_sem])
  have xq0_3 : w1.cell? ⟨w.heap.size, 3, none⟩ = some (.int .i64 d.type.num) := hx1.cell (by simp [go_sem])
  have xq0_4 : w1.cell? ⟨w.heap.size, 4, none⟩ = some (.int .i64 d.type.at_) := hx1.cell (by simp [go_sem])
  have xq0_5 : w1.cell? ⟨w.heap.size, 5, none⟩ = some (.slice (some ⟨b1, 0, none⟩) d.type.levels.length e1) := hx1.cell (by simp [go_sem])
  have xq0_6 : w1.cell? ⟨w.heap.size, 6, none⟩ = some (.slice (some ⟨b2, 0, none⟩) d.type.kids.length e2) := hx1.cell (by simp [go_sem])
  have xq0_7 : w1.cell? ⟨w.heap.size, 7, none⟩ = some (.int .i64 d.body.kind) := hx1.cell (by simp [go_sem])
  have xq0_8 : w1.cell? ⟨w.heap.size, 8, none⟩ = some (.int .i64 d.body.num) := hx1.cell (by simp [go_sem])
  have xq0_9 : w1.cell? ⟨w.heap.size, 9, none⟩ = some (.int .i64 d.body.at_) := hx1.cell (by simp [go_sem])
  have xq0_10 : w1.cell? ⟨w.heap.size, 10, none⟩ = some (.slice (some ⟨b3, 0, none⟩) d.body.levels.length e3) := hx1.cell (by simp [go_sem])
  have xq0_11 : w1.cell? ⟨w.heap.size, 11, none⟩ = some (.slice (some ⟨b4, 0, none⟩) d.body.kids.length e4) := hx1.cell (by simp [go_sem])
  have xq0_12 : w1.cell? ⟨w.heap.size, 12, none⟩ = some (.slice (some ⟨b5, 0, none⟩) d.params.length e5) := hx1.cell (by simp [go_sem])
  have xq0_13 : w1.cell? ⟨w.heap.size, 13, none⟩ = some (.slice (some ⟨b6, 0, none⟩) d.sort.parts.length e6) := hx1.cell (by simp [go_sem])
  have xq0_14 : w1.cell? ⟨w.heap.size, 14, none⟩ = some (.slice (some ⟨b7, 0, none⟩) d.members.length e7) := hx1.cell (by simp [go_sem])
  have xq0_15 : w1.cell? ⟨w.heap.size, 15, none⟩ = some (.slice (some ⟨b8, 0, none⟩) d.ctors.length e8) := hx1.cell (by simp [go_sem])
  have yq0_2 : w1.cell? ⟨w.heap.size + 1, 2, none⟩ = some (.int .i64 d.type.kind) := hx1.cell (by simp [go_sem])
  have yq0_3 : w1.cell? ⟨w.heap.size + 1, 3, none⟩ = some (.int .i64 d.type.num) := hx1.cell (by simp [go_sem])
  have yq0_4 : w1.cell? ⟨w.heap.size + 1, 4, none⟩ = some (.int .i64 d.type.at_) := hx1.cell (by simp [go_sem])
  have yq0_5 : w1.cell? ⟨w.heap.size + 1, 5, none⟩ = some (.slice A1 d.type.levels.length c1) := hx1.cell (by simp [go_sem])
  have yq0_6 : w1.cell? ⟨w.heap.size + 1, 6, none⟩ = some (.slice A2 d.type.kids.length c2) := hx1.cell (by simp [go_sem])
  have yq0_7 : w1.cell? ⟨w.heap.size + 1, 7, none⟩ = some (.int .i64 d.body.kind) := hx1.cell (by simp [go_sem])
  have yq0_8 : w1.cell? ⟨w.heap.size + 1, 8, none⟩ = some (.int .i64 d.body.num) := hx1.cell (by simp [go_sem])
  have yq0_9 : w1.cell? ⟨w.heap.size + 1, 9, none⟩ = some (.int .i64 d.body.at_) := hx1.cell (by simp [go_sem])
  have yq0_10 : w1.cell? ⟨w.heap.size + 1, 10, none⟩ = some (.slice A3 d.body.levels.length c3) := hx1.cell (by simp [go_sem])
  have yq0_11 : w1.cell? ⟨w.heap.size + 1, 11, none⟩ = some (.slice A4 d.body.kids.length c4) := hx1.cell (by simp [go_sem])
  have yq0_12 : w1.cell? ⟨w.heap.size + 1, 12, none⟩ = some (.slice vp d.params.length cp) := hx1.cell (by simp [go_sem])
  have yq0_13 : w1.cell? ⟨w.heap.size + 1, 13, none⟩ = some (.slice vS d.sort.parts.length cS) := hx1.cell (by simp [go_sem])
  have yq0_14 : w1.cell? ⟨w.heap.size + 1, 14, none⟩ = some (.slice vm d.members.length cm) := hx1.cell (by simp [go_sem])
  have yq0_15 : w1.cell? ⟨w.heap.size + 1, 15, none⟩ = some (.slice vc d.ctors.length cc) := hx1.cell (by simp [go_sem])
  have hX1 := hid (HX.out.tr hx1)
  clear hx1
  go_wp2_with fail
  refine (keptTerm_any d.type _ _ _ (monoC_lterm _ _ _ _ hX1.out.sub LT.out) (mono_term _ _ _ _ hX1.out RT.out)).mono ?_
  rintro e w2 ⟨rfl, hx2⟩
  have xq1_7 : w2.cell? ⟨w.heap.size, 7, none⟩ = some (.int .i64 d.body.kind) := hx2.cell xq0_7
  have xq1_8 : w2.cell? ⟨w.heap.size, 8, none⟩ = some (.int .i64 d.body.num) := hx2.cell xq0_8
  have xq1_9 : w2.cell? ⟨w.heap.size, 9, none⟩ = some (.int .i64 d.body.at_) := hx2.cell xq0_9
  have xq1_10 : w2.cell? ⟨w.heap.size, 10, none⟩ = some (.slice (some ⟨b3, 0, none⟩) d.body.levels.length e3) := hx2.cell xq0_10
  have xq1_11 : w2.cell? ⟨w.heap.size, 11, none⟩ = some (.slice (some ⟨b4, 0, none⟩) d.body.kids.length e4) := hx2.cell xq0_11
  have xq1_12 : w2.cell? ⟨w.heap.size, 12, none⟩ = some (.slice (some ⟨b5, 0, none⟩) d.params.length e5) := hx2.cell xq0_12
  have xq1_13 : w2.cell? ⟨w.heap.size, 13, none⟩ = some (.slice (some ⟨b6, 0, none⟩) d.sort.parts.length e6) := hx2.cell xq0_13
  have xq1_14 : w2.cell? ⟨w.heap.size, 14, none⟩ = some (.slice (some ⟨b7, 0, none⟩) d.members.length e7) := hx2.cell xq0_14
  have xq1_15 : w2.cell? ⟨w.heap.size, 15, none⟩ = some (.slice (some ⟨b8, 0, none⟩) d.ctors.length e8) := hx2.cell xq0_15
  have yq1_7 : w2.cell? ⟨w.heap.size + 1, 7, none⟩ = some (.int .i64 d.body.kind) := hx2.cell yq0_7
  have yq1_8 : w2.cell? ⟨w.heap.size + 1, 8, none⟩ = some (.int .i64 d.body.num) := hx2.cell yq0_8
  have yq1_9 : w2.cell? ⟨w.heap.size + 1, 9, none⟩ = some (.int .i64 d.body.at_) := hx2.cell yq0_9
  have yq1_10 : w2.cell? ⟨w.heap.size + 1, 10, none⟩ = some (.slice A3 d.body.levels.length c3) := hx2.cell yq0_10
  have yq1_11 : w2.cell? ⟨w.heap.size + 1, 11, none⟩ = some (.slice A4 d.body.kids.length c4) := hx2.cell yq0_11
  have yq1_12 : w2.cell? ⟨w.heap.size + 1, 12, none⟩ = some (.slice vp d.params.length cp) := hx2.cell yq0_12
  have yq1_13 : w2.cell? ⟨w.heap.size + 1, 13, none⟩ = some (.slice vS d.sort.parts.length cS) := hx2.cell yq0_13
  have yq1_14 : w2.cell? ⟨w.heap.size + 1, 14, none⟩ = some (.slice vm d.members.length cm) := hx2.cell yq0_14
  have yq1_15 : w2.cell? ⟨w.heap.size + 1, 15, none⟩ = some (.slice vc d.ctors.length cc) := hx2.cell yq0_15
  clear xq0_2 xq0_3 xq0_4 xq0_5 xq0_6 xq0_7 xq0_8 xq0_9 xq0_10 xq0_11 xq0_12 xq0_13 xq0_14 xq0_15 yq0_2 yq0_3 yq0_4 yq0_5 yq0_6 yq0_7 yq0_8 yq0_9 yq0_10 yq0_11 yq0_12 yq0_13 yq0_14 yq0_15
  have hX2 := hid (hX1.out.tr hx2)
  clear hx2
  go_wp2_with fail
  refine (keptTerm_any d.body _ _ _ (monoC_lterm _ _ _ _ hX2.out.sub LB.out) (mono_term _ _ _ _ hX2.out RB.out)).mono ?_
  rintro e w3 ⟨rfl, hx3⟩
  have xq2_12 : w3.cell? ⟨w.heap.size, 12, none⟩ = some (.slice (some ⟨b5, 0, none⟩) d.params.length e5) := hx3.cell xq1_12
  have xq2_13 : w3.cell? ⟨w.heap.size, 13, none⟩ = some (.slice (some ⟨b6, 0, none⟩) d.sort.parts.length e6) := hx3.cell xq1_13
  have xq2_14 : w3.cell? ⟨w.heap.size, 14, none⟩ = some (.slice (some ⟨b7, 0, none⟩) d.members.length e7) := hx3.cell xq1_14
  have xq2_15 : w3.cell? ⟨w.heap.size, 15, none⟩ = some (.slice (some ⟨b8, 0, none⟩) d.ctors.length e8) := hx3.cell xq1_15
  have yq2_12 : w3.cell? ⟨w.heap.size + 1, 12, none⟩ = some (.slice vp d.params.length cp) := hx3.cell yq1_12
  have yq2_13 : w3.cell? ⟨w.heap.size + 1, 13, none⟩ = some (.slice vS d.sort.parts.length cS) := hx3.cell yq1_13
  have yq2_14 : w3.cell? ⟨w.heap.size + 1, 14, none⟩ = some (.slice vm d.members.length cm) := hx3.cell yq1_14
  have yq2_15 : w3.cell? ⟨w.heap.size + 1, 15, none⟩ = some (.slice vc d.ctors.length cc) := hx3.cell yq1_15
  clear xq1_7 xq1_8 xq1_9 xq1_10 xq1_11 xq1_12 xq1_13 xq1_14 xq1_15 yq1_7 yq1_8 yq1_9 yq1_10 yq1_11 yq1_12 yq1_13 yq1_14 yq1_15
  have hX3 := hid (hX2.out.tr hx3)
  clear hx3
  go_wp2_with fail
  refine (keptTerms_any d.params _ _ _ (LP.out.sub monoC_lterm monoC_term hX3.out.sub) (RP.out.ext mono_term hX3.out)).mono ?_
  rintro e w4 ⟨rfl, hx4⟩
  have xq3_13 : w4.cell? ⟨w.heap.size, 13, none⟩ = some (.slice (some ⟨b6, 0, none⟩) d.sort.parts.length e6) := hx4.cell xq2_13
  have xq3_14 : w4.cell? ⟨w.heap.size, 14, none⟩ = some (.slice (some ⟨b7, 0, none⟩) d.members.length e7) := hx4.cell xq2_14
  have xq3_15 : w4.cell? ⟨w.heap.size, 15, none⟩ = some (.slice (some ⟨b8, 0, none⟩) d.ctors.length e8) := hx4.cell xq2_15
  have yq3_13 : w4.cell? ⟨w.heap.size + 1, 13, none⟩ = some (.slice vS d.sort.parts.length cS) := hx4.cell yq2_13
  have yq3_14 : w4.cell? ⟨w.heap.size + 1, 14, none⟩ = some (.slice vm d.members.length cm) := hx4.cell yq2_14
  have yq3_15 : w4.cell? ⟨w.heap.size + 1, 15, none⟩ = some (.slice vc d.ctors.length cc) := hx4.cell yq2_15
  clear xq2_12 xq2_13 xq2_14 xq2_15 yq2_12 yq2_13 yq2_14 yq2_15
  have hX4 := hid (hX3.out.tr hx4)
  clear hx4
  go_wp2_with fail
  refine (keptLevel_any d.sort _ _ _ ⟨_, rfl, LS.out.sub monoC_part monoC_part hX4.out.sub⟩ ⟨_, rfl, RS.out.ext mono_part hX4.out⟩).mono ?_
  rintro e w5 ⟨rfl, hx5⟩
  have xq4_14 : w5.cell? ⟨w.heap.size, 14, none⟩ = some (.slice (some ⟨b7, 0, none⟩) d.members.length e7) := hx5.cell xq3_14
  have xq4_15 : w5.cell? ⟨w.heap.size, 15, none⟩ = some (.slice (some ⟨b8, 0, none⟩) d.ctors.length e8) := hx5.cell xq3_15
  have yq4_14 : w5.cell? ⟨w.heap.size + 1, 14, none⟩ = some (.slice vm d.members.length cm) := hx5.cell yq3_14
  have yq4_15 : w5.cell? ⟨w.heap.size + 1, 15, none⟩ = some (.slice vc d.ctors.length cc) := hx5.cell yq3_15
  clear xq3_13 xq3_14 xq3_15 yq3_13 yq3_14 yq3_15
  have hX5 := hid (hX4.out.tr hx5)
  clear hx5
  go_wp2_with fail
  refine (keptMembers_any d.members _ _ _ (LM.out.sub monoC_lmember monoC_member hX5.out.sub) (RM.out.ext mono_member hX5.out)).mono ?_
  rintro e w6 ⟨rfl, hx6⟩
  have xq5_15 : w6.cell? ⟨w.heap.size, 15, none⟩ = some (.slice (some ⟨b8, 0, none⟩) d.ctors.length e8) := hx6.cell xq4_15
  have yq5_15 : w6.cell? ⟨w.heap.size + 1, 15, none⟩ = some (.slice vc d.ctors.length cc) := hx6.cell yq4_15
  clear xq4_14 xq4_15 yq4_14 yq4_15
  have hX6 := hid (hX5.out.tr hx6)
  clear hx6
  go_wp2_with fail
  refine (keptCtors_any d.ctors _ _ _ (LC.out.sub monoC_lctor monoC_ctor hX6.out.sub) (RC.out.ext mono_ctor hX6.out)).mono ?_
  rintro e w7 ⟨rfl, hx7⟩
  clear xq5_15 yq5_15
  have hX7 := hid (hX6.out.tr hx7)
  clear hx7
  go_wp2_with fail
  go_ret
  exact ⟨rfl, hX7.out⟩
set_option maxRecDepth 100000 in
set_option maxHeartbeats 4000000 in
theorem keptDecls_any (xs : List Decl) (vo vl : Value) (w : World) (ho : LSl RLDecl RDecl mkDecl 16 256 w xs vo) (hl : Sl RDecl 16 256 w xs vl) : Calls Tryz.prog 11 #[vo, vl] w fun e w' => e = .returned (.bool true) ∧ Ext w w' := by
  obtain ⟨b, c, rfl, hc, -, hel, hmk⟩ := ho
  obtain ⟨A, c', rfl, hc', hr⟩ := hl
  have hln := hr.len_le
  have hcap : c ≤ 9223372036854775807 ∨ True := .inr trivial
  have Hel := hid hel
  have Hmk := hid hmk
  clear hel hmk hcap
  go_enter Tryz.func11, Tryz.ntmps11
  go_wp2_with fail
  go_loopw [6] (fun i wr => ∃ k : Nat, k ≤ xs.length + 12 ∧ i = .int .i64 k ∧ Ext w wr) (fun i _ => xs.length + 12 - (intOf i).toNat)
  case atStart => exact ⟨0, by omega, rfl, Ext.rf _⟩
  case round =>
    obtain ⟨k, hk, rfl, hx0⟩ := hrel
    obtain ⟨wr, rfl⟩ := ext_name2 hx0
    have hu := Tryz.underlying42
    have hk0 : (0 : Int) ≤ (k : Int) := by omega
    by_cases hlt : k < xs.length
    · obtain ⟨ca, hRa, hca0⟩ := Hel.out k xs[k] (List.getElem?_eq_getElem hlt)
      obtain ⟨b2, o2, cb, rfl, hRb, hcb0⟩ := hr.at_ hlt
      have hca := hca0.ext hx0
      have hcb := hcb0.ext hx0
      have Ra := hid (monoC_ldecl _ _ _ _ hx0.sub hRa)
      have Rb := hid (mono_decl _ _ _ _ hx0 hRb)
      have hi1 : (Tryz.prog.info? 42).map (·.size) = some ca.length := by rw [rldecl_len hRa]; kernel_rfl
      have hi2 : (Tryz.prog.info? 42).map (·.size) = some cb.length := by rw [rdecl_len hRb]; kernel_rfl
      have hlt1 : (k : Int) < (xs.length : Int) := by omega
      have hge : ¬ xs.length ≤ k := by omega
      have hge1 : ¬ (xs.length : Int) ≤ (k : Int) := by omega
      have hk12 : (k : Int) < (xs.length : Int) + 12 := by omega
      clear hca0 hcb0 hRa hRb
      go_wp2_with fail
      refine wp_region_steps (fun s W v => match s with | 23 => v = .int .i64 k | 24 => v = .slice (some ⟨b2, o2, none⟩) xs.length c' | 25 => v = .int .i64 xs.length | 26 => v = .bool true | 27 => v = .bool true | 28 => v = .slice (some ⟨b, 0, none⟩) (xs.length + 12) c | 29 => v = .int .i64 k | 30 => v = .pointer (some ⟨b, k * 16, none⟩) | 31 => v = .agg ca.toArray | 32 => v = .slice (some ⟨b2, o2, none⟩) xs.length c' | 33 => v = .int .i64 k | 34 => v = .pointer (some ⟨b2, o2 + k * 16, none⟩) | 35 => v = .agg cb.toArray | 36 => v = .bool true | 37 => v = .bool false | 38 => v = .bool false | 39 => v = .bool false | 40 => v = .int .i64 k | 41 => v = .slice (some ⟨b2, o2, none⟩) xs.length c' | 42 => v = .int .i64 xs.length | 43 => v = .bool false | 44 => v = .bool false | 45 => v = undef | 46 => v = undef | 47 => v = undef | 48 => v = undef | 49 => v = undef | 50 => v = undef | 51 => v = undef | 52 => v = undef | 53 => v = undef | 54 => v = undef | 55 => v = undef | 56 => v = .bool false | 57 => v = .bool false | _ => True) (by kernel_rfl) (by kernel_rfl) (of_decide_eq_true (by kernel_rfl)) (by kernel_rfl) (fun s W W' v _ h => h) ?_ ?_
      · refine ⟨?_, ?_, ?_, ?_, ?_, ?_, ?_, ?_, ?_, ?_, ?_, ?_, ?_, ?_, ?_, ?_, ?_, ?_, ?_, ?_, ?_, ?_, ?_, ?_, ?_, ?_, ?_, ?_, ?_, ?_, ?_, ?_, ?_, ?_, ?_, trivial⟩
        · intro a W hx hdf hsz hg hi K hK
          refine step_free rfl ?_
          have t6 : a.tmps.getD 6 undef = .int .i64 k := hi 6 (by kernel_rfl)
          have u6 := t6
          rw [Array.getD_eq_getD_getElem?] at u6
          simp [Oper.wp, Oper.upon, execOp, Act.eval, go_sem, t6, u6, hlt, hlt1, hge, hge1, hk12, hk0]
          exact hK _ _ (Ext.rf _) (fun d' h => by cases h; exact rfl)
        · intro a W hx hdf hsz hg hi K hK
          refine step_free rfl ?_
          have t1 : a.tmps.getD 1 undef = .slice (some ⟨b2, o2, none⟩) xs.length c' := hi 1 (by kernel_rfl)
          have u1 := t1
          rw [Array.getD_eq_getD_getElem?] at u1
          simp [Oper.wp, Oper.upon, execOp, Act.eval, go_sem, t1, u1, hlt, hlt1, hge, hge1, hk12, hk0]
          exact hK _ _ (Ext.rf _) (fun d' h => by cases h; exact rfl)
        · intro a W hx hdf hsz hg hi K hK
          refine step_free rfl ?_
          have t24 : a.tmps.getD 24 undef = .slice (some ⟨b2, o2, none⟩) xs.length c' := hg 24 (by kernel_rfl)
          have u24 := t24
          rw [Array.getD_eq_getD_getElem?] at u24
          simp [Oper.wp, Oper.upon, execOp, Act.eval, go_sem, t24, u24, hlt, hlt1, hge, hge1, hk12, hk0]
          exact hK _ _ (Ext.rf _) (fun d' h => by cases h; exact rfl)
        · intro a W hx hdf hsz hg hi K hK
          refine step_free rfl ?_
          have t23 : a.tmps.getD 23 undef = .int .i64 k := hg 23 (by kernel_rfl)
          have t25 : a.tmps.getD 25 undef = .int .i64 xs.length := hg 25 (by kernel_rfl)
          have u23 := t23
          rw [Array.getD_eq_getD_getElem?] at u23
          have u25 := t25
          rw [Array.getD_eq_getD_getElem?] at u25
          simp [Oper.wp, Oper.upon, execOp, Act.eval, go_sem, t23, u23, t25, u25, hlt, hlt1, hge, hge1, hk12, hk0]
          exact hK _ _ (Ext.rf _) (fun d' h => by cases h; exact rfl)
        · intro a W hx hdf hsz hg hi K hK
          refine step_free rfl ?_
          have t26 : a.tmps.getD 26 undef = .bool true := hg 26 (by kernel_rfl)
          have u26 := t26
          rw [Array.getD_eq_getD_getElem?] at u26
          simp [Oper.wp, Oper.upon, execOp, Act.eval, go_sem, t26, u26, hlt, hlt1, hge, hge1, hk12, hk0]
          exact hK _ _ (Ext.rf _) (fun d' h => by cases h; exact rfl)
        · intro a W hx hdf hsz hg hi K hK
          have G27 : a.tmps.getD 27 undef = .bool true := hg 27 (by kernel_rfl)
          refine step_guard rfl rfl (by have hz : a.tmps.size = 58 := hsz; omega) G27 (fun _ => ?_) (fun h => absurd rfl h)
          have t5 : a.tmps.getD 5 undef = .slice (some ⟨b, 0, none⟩) (xs.length + 12) c := hi 5 (by kernel_rfl)
          have u5 := t5
          rw [Array.getD_eq_getD_getElem?] at u5
          simp [Oper.wp, Oper.upon, execOp, Act.eval, go_sem, t5, u5, hlt, hlt1, hge, hge1, hk12, hk0]
          exact hK _ _ (Ext.rf _) (fun d' h => by cases h; exact rfl)
        · intro a W hx hdf hsz hg hi K hK
          have G27 : a.tmps.getD 27 undef = .bool true := hg 27 (by kernel_rfl)
          refine step_guard rfl rfl (by have hz : a.tmps.size = 58 := hsz; omega) G27 (fun _ => ?_) (fun h => absurd rfl h)
          have t6 : a.tmps.getD 6 undef = .int .i64 k := hi 6 (by kernel_rfl)
          have u6 := t6
          rw [Array.getD_eq_getD_getElem?] at u6
          simp [Oper.wp, Oper.upon, execOp, Act.eval, go_sem, t6, u6, hlt, hlt1, hge, hge1, hk12, hk0]
          exact hK _ _ (Ext.rf _) (fun d' h => by cases h; exact rfl)
        · intro a W hx hdf hsz hg hi K hK
          have G27 : a.tmps.getD 27 undef = .bool true := hg 27 (by kernel_rfl)
          refine step_guard rfl rfl (by have hz : a.tmps.size = 58 := hsz; omega) G27 (fun _ => ?_) (fun h => absurd rfl h)
          have t28 : a.tmps.getD 28 undef = .slice (some ⟨b, 0, none⟩) (xs.length + 12) c := hg 28 (by kernel_rfl)
          have t29 : a.tmps.getD 29 undef = .int .i64 k := hg 29 (by kernel_rfl)
          have u28 := t28
          rw [Array.getD_eq_getD_getElem?] at u28
          have u29 := t29
          rw [Array.getD_eq_getD_getElem?] at u29
          simp [Oper.wp, Oper.upon, execOp, Act.eval, go_sem, t28, u28, t29, u29, hlt, hlt1, hge, hge1, hk12, hk0]
          exact hK _ _ (Ext.rf _) (fun d' h => by cases h; exact rfl)
        · intro a W hx hdf hsz hg hi K hK
          have G27 : a.tmps.getD 27 undef = .bool true := hg 27 (by kernel_rfl)
          refine step_guard rfl rfl (by have hz : a.tmps.size = 58 := hsz; omega) G27 (fun _ => ?_) (fun h => absurd rfl h)
          have t30 : a.tmps.getD 30 undef = .pointer (some ⟨b, k * 16, none⟩) := hg 30 (by kernel_rfl)
          have u30 := t30
          rw [Array.getD_eq_getD_getElem?] at u30
          refine wp_load_mid 42 (.tmp 30) rfl b (k * 16) t30 ca _ (hca.ext hx) hu rfl hi1 ?_
          exact hK _ _ (Ext.rf _) (fun d' h => by cases h; exact rfl)
        · intro a W hx hdf hsz hg hi K hK
          have G27 : a.tmps.getD 27 undef = .bool true := hg 27 (by kernel_rfl)
          refine step_guard rfl rfl (by have hz : a.tmps.size = 58 := hsz; omega) G27 (fun _ => ?_) (fun h => absurd rfl h)
          have t1 : a.tmps.getD 1 undef = .slice (some ⟨b2, o2, none⟩) xs.length c' := hi 1 (by kernel_rfl)
          have u1 := t1
          rw [Array.getD_eq_getD_getElem?] at u1
          simp [Oper.wp, Oper.upon, execOp, Act.eval, go_sem, t1, u1, hlt, hlt1, hge, hge1, hk12, hk0]
          exact hK _ _ (Ext.rf _) (fun d' h => by cases h; exact rfl)
        · intro a W hx hdf hsz hg hi K hK
          have G27 : a.tmps.getD 27 undef = .bool true := hg 27 (by kernel_rfl)
          refine step_guard rfl rfl (by have hz : a.tmps.size = 58 := hsz; omega) G27 (fun _ => ?_) (fun h => absurd rfl h)
          have t6 : a.tmps.getD 6 undef = .int .i64 k := hi 6 (by kernel_rfl)
          have u6 := t6
          rw [Array.getD_eq_getD_getElem?] at u6
          simp [Oper.wp, Oper.upon, execOp, Act.eval, go_sem, t6, u6, hlt, hlt1, hge, hge1, hk12, hk0]
          exact hK _ _ (Ext.rf _) (fun d' h => by cases h; exact rfl)
        · intro a W hx hdf hsz hg hi K hK
          have G27 : a.tmps.getD 27 undef = .bool true := hg 27 (by kernel_rfl)
          refine step_guard rfl rfl (by have hz : a.tmps.size = 58 := hsz; omega) G27 (fun _ => ?_) (fun h => absurd rfl h)
          have t32 : a.tmps.getD 32 undef = .slice (some ⟨b2, o2, none⟩) xs.length c' := hg 32 (by kernel_rfl)
          have t33 : a.tmps.getD 33 undef = .int .i64 k := hg 33 (by kernel_rfl)
          have u32 := t32
          rw [Array.getD_eq_getD_getElem?] at u32
          have u33 := t33
          rw [Array.getD_eq_getD_getElem?] at u33
          simp [Oper.wp, Oper.upon, execOp, Act.eval, go_sem, t32, u32, t33, u33, hlt, hlt1, hge, hge1, hk12, hk0]
          exact hK _ _ (Ext.rf _) (fun d' h => by cases h; exact rfl)
        · intro a W hx hdf hsz hg hi K hK
          have G27 : a.tmps.getD 27 undef = .bool true := hg 27 (by kernel_rfl)
          refine step_guard rfl rfl (by have hz : a.tmps.size = 58 := hsz; omega) G27 (fun _ => ?_) (fun h => absurd rfl h)
          have t34 : a.tmps.getD 34 undef = .pointer (some ⟨b2, o2 + k * 16, none⟩) := hg 34 (by kernel_rfl)
          have u34 := t34
          rw [Array.getD_eq_getD_getElem?] at u34
          refine wp_load_mid 42 (.tmp 34) rfl b2 (o2 + k * 16) t34 cb _ (hcb.ext hx) hu rfl hi2 ?_
          exact hK _ _ (Ext.rf _) (fun d' h => by cases h; exact rfl)
        · intro a W hx hdf hsz hg hi K hK
          have G27 : a.tmps.getD 27 undef = .bool true := hg 27 (by kernel_rfl)
          refine step_guard rfl rfl (by have hz : a.tmps.size = 58 := hsz; omega) G27 (fun _ => ?_) (fun h => absurd rfl h)
          have t31 : a.tmps.getD 31 undef = .agg ca.toArray := hg 31 (by kernel_rfl)
          have t35 : a.tmps.getD 35 undef = .agg cb.toArray := hg 35 (by kernel_rfl)
          have u31 := t31
          rw [Array.getD_eq_getD_getElem?] at u31
          have u35 := t35
          rw [Array.getD_eq_getD_getElem?] at u35
          simp [Oper.wp, Oper.upon, execOp, Act.eval, go_sem, t31, u31, t35, u35]
          refine (keptDecl_any xs[k] _ _ _ (monoC_ldecl _ _ _ _ hx.sub Ra.out) (mono_decl _ _ _ _ hx Rb.out)).mono ?_
          rintro e w' ⟨rfl, hb⟩
          exact hK _ _ hb (fun d' h => by cases h; exact rfl)
        · intro a W hx hdf hsz hg hi K hK
          have G27 : a.tmps.getD 27 undef = .bool true := hg 27 (by kernel_rfl)
          refine step_guard rfl rfl (by have hz : a.tmps.size = 58 := hsz; omega) G27 (fun _ => ?_) (fun h => absurd rfl h)
          have t36 : a.tmps.getD 36 undef = .bool true := hg 36 (by kernel_rfl)
          have u36 := t36
          rw [Array.getD_eq_getD_getElem?] at u36
          simp [Oper.wp, Oper.upon, execOp, Act.eval, go_sem, t36, u36, hlt, hlt1, hge, hge1, hk12, hk0]
          exact hK _ _ (Ext.rf _) (fun d' h => by cases h; exact rfl)
        · intro a W hx hdf hsz hg hi K hK
          refine step_free rfl ?_
          have t27 : a.tmps.getD 27 undef = .bool true := hg 27 (by kernel_rfl)
          have t37 : a.tmps.getD 37 undef = .bool false := hg 37 (by kernel_rfl)
          have u27 := t27
          rw [Array.getD_eq_getD_getElem?] at u27
          have u37 := t37
          rw [Array.getD_eq_getD_getElem?] at u37
          simp [Oper.wp, Oper.upon, execOp, Act.eval, go_sem, t27, u27, t37, u37, hlt, hlt1, hge, hge1, hk12, hk0]
          exact hK _ _ (Ext.rf _) (fun d' h => by cases h; exact rfl)
        · intro a W hx hdf hsz hg hi K hK
          refine step_free rfl ?_
          have t38 : a.tmps.getD 38 undef = .bool false := hg 38 (by kernel_rfl)
          have u38 := t38
          rw [Array.getD_eq_getD_getElem?] at u38
          simp [Oper.wp, Oper.upon, execOp, Act.eval, go_sem, t38, u38, hlt, hlt1, hge, hge1, hk12, hk0]
          exact hK _ _ (Ext.rf _) (fun d' h => by cases h; exact rfl)
        · intro a W hx hdf hsz hg hi K hK
          have G39 : a.tmps.getD 39 undef = .bool false := hg 39 (by kernel_rfl)
          refine step_guard rfl rfl (by have hz : a.tmps.size = 58 := hsz; omega) G39 (fun _ => ?_) (fun h => absurd rfl h)
          have t6 : a.tmps.getD 6 undef = .int .i64 k := hi 6 (by kernel_rfl)
          have u6 := t6
          rw [Array.getD_eq_getD_getElem?] at u6
          simp [Oper.wp, Oper.upon, execOp, Act.eval, go_sem, t6, u6, hlt, hlt1, hge, hge1, hk12, hk0]
          exact hK _ _ (Ext.rf _) (fun d' h => by cases h; exact rfl)
        · intro a W hx hdf hsz hg hi K hK
          have G39 : a.tmps.getD 39 undef = .bool false := hg 39 (by kernel_rfl)
          refine step_guard rfl rfl (by have hz : a.tmps.size = 58 := hsz; omega) G39 (fun _ => ?_) (fun h => absurd rfl h)
          have t1 : a.tmps.getD 1 undef = .slice (some ⟨b2, o2, none⟩) xs.length c' := hi 1 (by kernel_rfl)
          have u1 := t1
          rw [Array.getD_eq_getD_getElem?] at u1
          simp [Oper.wp, Oper.upon, execOp, Act.eval, go_sem, t1, u1, hlt, hlt1, hge, hge1, hk12, hk0]
          exact hK _ _ (Ext.rf _) (fun d' h => by cases h; exact rfl)
        · intro a W hx hdf hsz hg hi K hK
          have G39 : a.tmps.getD 39 undef = .bool false := hg 39 (by kernel_rfl)
          refine step_guard rfl rfl (by have hz : a.tmps.size = 58 := hsz; omega) G39 (fun _ => ?_) (fun h => absurd rfl h)
          have t41 : a.tmps.getD 41 undef = .slice (some ⟨b2, o2, none⟩) xs.length c' := hg 41 (by kernel_rfl)
          have u41 := t41
          rw [Array.getD_eq_getD_getElem?] at u41
          simp [Oper.wp, Oper.upon, execOp, Act.eval, go_sem, t41, u41, hlt, hlt1, hge, hge1, hk12, hk0]
          exact hK _ _ (Ext.rf _) (fun d' h => by cases h; exact rfl)
        · intro a W hx hdf hsz hg hi K hK
          have G39 : a.tmps.getD 39 undef = .bool false := hg 39 (by kernel_rfl)
          refine step_guard rfl rfl (by have hz : a.tmps.size = 58 := hsz; omega) G39 (fun _ => ?_) (fun h => absurd rfl h)
          have t40 : a.tmps.getD 40 undef = .int .i64 k := hg 40 (by kernel_rfl)
          have t42 : a.tmps.getD 42 undef = .int .i64 xs.length := hg 42 (by kernel_rfl)
          have u40 := t40
          rw [Array.getD_eq_getD_getElem?] at u40
          have u42 := t42
          rw [Array.getD_eq_getD_getElem?] at u42
          simp [Oper.wp, Oper.upon, execOp, Act.eval, go_sem, t40, u40, t42, u42, hlt, hlt1, hge, hge1, hk12, hk0]
          exact hK _ _ (Ext.rf _) (fun d' h => by cases h; exact rfl)
        · intro a W hx hdf hsz hg hi K hK
          have G39 : a.tmps.getD 39 undef = .bool false := hg 39 (by kernel_rfl)
          refine step_guard rfl rfl (by have hz : a.tmps.size = 58 := hsz; omega) G39 (fun _ => ?_) (fun h => absurd rfl h)
          have t43 : a.tmps.getD 43 undef = .bool false := hg 43 (by kernel_rfl)
          have u43 := t43
          rw [Array.getD_eq_getD_getElem?] at u43
          simp [Oper.wp, Oper.upon, execOp, Act.eval, go_sem, t43, u43, hlt, hlt1, hge, hge1, hk12, hk0]
          exact hK _ _ (Ext.rf _) (fun d' h => by cases h; exact rfl)
        · intro a W hx hdf hsz hg hi K hK
          have G44 : a.tmps.getD 44 undef = .bool false := hg 44 (by kernel_rfl)
          exact step_guard rfl rfl (by have hz : a.tmps.size = 58 := hsz; omega) G44 (fun h => by cases h) (fun _ => hK _ _ (Ext.rf _) (fun d' h => by cases h; exact rfl))
        · intro a W hx hdf hsz hg hi K hK
          have G44 : a.tmps.getD 44 undef = .bool false := hg 44 (by kernel_rfl)
          exact step_guard rfl rfl (by have hz : a.tmps.size = 58 := hsz; omega) G44 (fun h => by cases h) (fun _ => hK _ _ (Ext.rf _) (fun d' h => by cases h; exact rfl))
        · intro a W hx hdf hsz hg hi K hK
          have G44 : a.tmps.getD 44 undef = .bool false := hg 44 (by kernel_rfl)
          exact step_guard rfl rfl (by have hz : a.tmps.size = 58 := hsz; omega) G44 (fun h => by cases h) (fun _ => hK _ _ (Ext.rf _) (fun d' h => by cases h; exact rfl))
        · intro a W hx hdf hsz hg hi K hK
          have G44 : a.tmps.getD 44 undef = .bool false := hg 44 (by kernel_rfl)
          exact step_guard rfl rfl (by have hz : a.tmps.size = 58 := hsz; omega) G44 (fun h => by cases h) (fun _ => hK _ _ (Ext.rf _) (fun d' h => by cases h; exact rfl))
        · intro a W hx hdf hsz hg hi K hK
          have G44 : a.tmps.getD 44 undef = .bool false := hg 44 (by kernel_rfl)
          exact step_guard rfl rfl (by have hz : a.tmps.size = 58 := hsz; omega) G44 (fun h => by cases h) (fun _ => hK _ _ (Ext.rf _) (fun d' h => by cases h; exact rfl))
        · intro a W hx hdf hsz hg hi K hK
          have G44 : a.tmps.getD 44 undef = .bool false := hg 44 (by kernel_rfl)
          exact step_guard rfl rfl (by have hz : a.tmps.size = 58 := hsz; omega) G44 (fun h => by cases h) (fun _ => hK _ _ (Ext.rf _) (fun d' h => by cases h; exact rfl))
        · intro a W hx hdf hsz hg hi K hK
          have G44 : a.tmps.getD 44 undef = .bool false := hg 44 (by kernel_rfl)
          exact step_guard rfl rfl (by have hz : a.tmps.size = 58 := hsz; omega) G44 (fun h => by cases h) (fun _ => hK _ _ (Ext.rf _) (fun d' h => by cases h; exact rfl))
        · intro a W hx hdf hsz hg hi K hK
          have G44 : a.tmps.getD 44 undef = .bool false := hg 44 (by kernel_rfl)
          exact step_guard rfl rfl (by have hz : a.tmps.size = 58 := hsz; omega) G44 (fun h => by cases h) (fun _ => hK _ _ (Ext.rf _) (fun d' h => by cases h; exact rfl))
        · intro a W hx hdf hsz hg hi K hK
          have G44 : a.tmps.getD 44 undef = .bool false := hg 44 (by kernel_rfl)
          exact step_guard rfl rfl (by have hz : a.tmps.size = 58 := hsz; omega) G44 (fun h => by cases h) (fun _ => hK _ _ (Ext.rf _) (fun d' h => by cases h; exact rfl))
        · intro a W hx hdf hsz hg hi K hK
          have G44 : a.tmps.getD 44 undef = .bool false := hg 44 (by kernel_rfl)
          exact step_guard rfl rfl (by have hz : a.tmps.size = 58 := hsz; omega) G44 (fun h => by cases h) (fun _ => hK _ _ (Ext.rf _) (fun d' h => by cases h; exact rfl))
        · intro a W hx hdf hsz hg hi K hK
          have G44 : a.tmps.getD 44 undef = .bool false := hg 44 (by kernel_rfl)
          exact step_guard rfl rfl (by have hz : a.tmps.size = 58 := hsz; omega) G44 (fun h => by cases h) (fun _ => hK _ _ (Ext.rf _) (fun d' h => by cases h; exact rfl))
        · intro a W hx hdf hsz hg hi K hK
          have G39 : a.tmps.getD 39 undef = .bool false := hg 39 (by kernel_rfl)
          refine step_guard rfl rfl (by have hz : a.tmps.size = 58 := hsz; omega) G39 (fun _ => ?_) (fun h => absurd rfl h)
          have t44 : a.tmps.getD 44 undef = .bool false := hg 44 (by kernel_rfl)
          have t55 : a.tmps.getD 55 undef = undef := hg 55 (by kernel_rfl)
          have u44 := t44
          rw [Array.getD_eq_getD_getElem?] at u44
          have u55 := t55
          rw [Array.getD_eq_getD_getElem?] at u55
          simp [Oper.wp, Oper.upon, execOp, Act.eval, go_sem, t44, u44, t55, u55, hlt, hlt1, hge, hge1, hk12, hk0]
          exact hK _ _ (Ext.rf _) (fun d' h => by cases h; exact rfl)
        · intro a W hx hdf hsz hg hi K hK
          refine step_free rfl ?_
          have t39 : a.tmps.getD 39 undef = .bool false := hg 39 (by kernel_rfl)
          have t56 : a.tmps.getD 56 undef = .bool false := hg 56 (by kernel_rfl)
          have u39 := t39
          rw [Array.getD_eq_getD_getElem?] at u39
          have u56 := t56
          rw [Array.getD_eq_getD_getElem?] at u56
          simp [Oper.wp, Oper.upon, execOp, Act.eval, go_sem, t39, u39, t56, u56, hlt, hlt1, hge, hge1, hk12, hk0]
          exact hK _ _ (Ext.rf _) (fun d' h => by cases h; exact rfl)
      · rintro ⟨T, D⟩ w7 hx7 hdf hsz hg hi
        have h57 : T.getD 57 undef = .bool false := hg 57 (by kernel_rfl)
        obtain ⟨f, hf, hT⟩ := frame_slots T 58 hsz
        have f57 := (hf 57).symm.trans h57
        have f0 : f 0 = .slice (some ⟨b, 0, none⟩) xs.length c := (hf 0).symm.trans (hi 0 (by kernel_rfl))
        have f1 : f 1 = .slice (some ⟨b2, o2, none⟩) xs.length c' := (hf 1).symm.trans (hi 1 (by kernel_rfl))
        have f2 : f 2 = undef := (hf 2).symm.trans (hi 2 (by kernel_rfl))
        have f3 : f 3 = undef := (hf 3).symm.trans (hi 3 (by kernel_rfl))
        have f5 : f 5 = .slice (some ⟨b, 0, none⟩) (xs.length + 12) c := (hf 5).symm.trans (hi 5 (by kernel_rfl))
        have f6 : f 6 = .int .i64 k := (hf 6).symm.trans (hi 6 (by kernel_rfl))
        have f7 : f 7 = .slice (some ⟨b, 0, none⟩) xs.length c := (hf 7).symm.trans (hi 7 (by kernel_rfl))
        have f8 : f 8 = .int .i64 xs.length := (hf 8).symm.trans (hi 8 (by kernel_rfl))
        have f9 : f 9 = .slice (some ⟨b2, o2, none⟩) xs.length c' := (hf 9).symm.trans (hi 9 (by kernel_rfl))
        have f10 : f 10 = .int .i64 xs.length := (hf 10).symm.trans (hi 10 (by kernel_rfl))
        have f11 : f 11 = .bool false := (hf 11).symm.trans (hi 11 (by kernel_rfl))
        have f12 : f 12 = .slice (some ⟨b, 0, none⟩) xs.length c := (hf 12).symm.trans (hi 12 (by kernel_rfl))
        have f13 : f 13 = .slice (some ⟨b2, o2, none⟩) xs.length c' := (hf 13).symm.trans (hi 13 (by kernel_rfl))
        have f14 : f 14 = .int .i64 xs.length := (hf 14).symm.trans (hi 14 (by kernel_rfl))
        have f15 : f 15 = .int .i64 (xs.length + 12) := (hf 15).symm.trans (hi 15 (by kernel_rfl))
        have f16 : f 16 = .slice (some ⟨b, 0, none⟩) (xs.length + 12) c := (hf 16).symm.trans (hi 16 (by kernel_rfl))
        have hD : D = [] := hdf
        clear hf hi hg hsz hdf h57
        subst hT hD
        simp only [slots, Nat.reduceAdd, f57, f0, f1, f2, f3, f5, f6, f7, f8, f9, f10, f11, f12, f13, f14, f15, f16]
        go_wp2_with fail
        exact ⟨⟨k + 1, by omega, by go_num, hx0.tr hx7⟩, by simp only [intOf]; omega⟩
    · by_cases hlt2 : k < xs.length + 12
      · obtain ⟨ca, hRa, hca0⟩ := Hmk.out (k - xs.length) (by omega)
        have e1 : xs.length + (k - xs.length) = k := by omega
        have e2 : ((k - xs.length : Nat) : Int) = (k : Int) - xs.length := by omega
        rw [e1] at hca0
        rw [e2] at hRa
        clear e1 e2
        have hca := hca0.ext hx0
        have Ra := hid (mono_decl _ _ _ _ hx0 hRa)
        have hi1 : (Tryz.prog.info? 42).map (·.size) = some ca.length := by rw [rdecl_len hRa]; kernel_rfl
        have hlt1 : ¬ (k : Int) < (xs.length : Int) := by omega
        have hge : xs.length ≤ k := by omega
        have hge1 : (xs.length : Int) ≤ (k : Int) := by omega
        have hk12 : (k : Int) < (xs.length : Int) + 12 := by omega
        have hsub : IntKind.i64.wrap ((k : Int) - xs.length) = (k : Int) - xs.length := IntWalk.i64_in _ (by omega)
        have hsub2 : (0 : Int) ≤ (k : Int) - xs.length := by omega
        clear hca0 hRa
        go_wp2_with fail
        refine wp_region_steps (fun s W v => match s with | 23 => v = .int .i64 k | 24 => v = .slice A xs.length c' | 25 => v = .int .i64 xs.length | 26 => v = .bool false | 27 => v = .bool false | 28 => v = undef | 29 => v = undef | 30 => v = undef | 31 => v = undef | 32 => v = undef | 33 => v = undef | 34 => v = undef | 35 => v = undef | 36 => v = undef | 37 => v = undef | 38 => v = .bool false | 39 => v = .bool false | 40 => v = .int .i64 k | 41 => v = .slice A xs.length c' | 42 => v = .int .i64 xs.length | 43 => v = .bool true | 44 => v = .bool true | 45 => v = .slice (some ⟨b, 0, none⟩) (xs.length + 12) c | 46 => v = .int .i64 k | 47 => v = .pointer (some ⟨b, k * 16, none⟩) | 48 => v = .agg ca.toArray | 49 => v = .int .i64 k | 50 => v = .slice A xs.length c' | 51 => v = .int .i64 xs.length | 52 => v = .int .i64 ((k : Int) - xs.length) | 53 => ∃ cs : List Value, v = .agg cs.toArray ∧ RDecl W (mkDecl ((k : Int) - xs.length)) cs | 54 => v = .bool true | 55 => v = .bool false | 56 => v = .bool false | 57 => v = .bool false | _ => True) (by kernel_rfl) (by kernel_rfl) (of_decide_eq_true (by kernel_rfl)) (by kernel_rfl) (by intro s W W' v hx h; revert h; split <;> first | exact id | exact fun ⟨cs, e, hr⟩ => ⟨cs, e, mono_decl _ _ _ _ hx hr⟩) ?_ ?_
        · refine ⟨?_, ?_, ?_, ?_, ?_, ?_, ?_, ?_, ?_, ?_, ?_, ?_, ?_, ?_, ?_, ?_, ?_, ?_, ?_, ?_, ?_, ?_, ?_, ?_, ?_, ?_, ?_, ?_, ?_, ?_, ?_, ?_, ?_, ?_, ?_, trivial⟩
          · intro a W hx hdf hsz hg hi K hK
            refine step_free rfl ?_
            have t6 : a.tmps.getD 6 undef = .int .i64 k := hi 6 (by kernel_rfl)
            have u6 := t6
            rw [Array.getD_eq_getD_getElem?] at u6
            simp [Oper.wp, Oper.upon, execOp, Act.eval, go_sem, t6, u6, hlt, hlt1, hge, hge1, hk12, hk0, hsub, hsub2]
            exact hK _ _ (Ext.rf _) (fun d' h => by cases h; exact rfl)
          · intro a W hx hdf hsz hg hi K hK
            refine step_free rfl ?_
            have t1 : a.tmps.getD 1 undef = .slice A xs.length c' := hi 1 (by kernel_rfl)
            have u1 := t1
            rw [Array.getD_eq_getD_getElem?] at u1
            simp [Oper.wp, Oper.upon, execOp, Act.eval, go_sem, t1, u1, hlt, hlt1, hge, hge1, hk12, hk0, hsub, hsub2]
            exact hK _ _ (Ext.rf _) (fun d' h => by cases h; exact rfl)
          · intro a W hx hdf hsz hg hi K hK
            refine step_free rfl ?_
            have t24 : a.tmps.getD 24 undef = .slice A xs.length c' := hg 24 (by kernel_rfl)
            have u24 := t24
            rw [Array.getD_eq_getD_getElem?] at u24
            simp [Oper.wp, Oper.upon, execOp, Act.eval, go_sem, t24, u24, hlt, hlt1, hge, hge1, hk12, hk0, hsub, hsub2]
            exact hK _ _ (Ext.rf _) (fun d' h => by cases h; exact rfl)
          · intro a W hx hdf hsz hg hi K hK
            refine step_free rfl ?_
            have t23 : a.tmps.getD 23 undef = .int .i64 k := hg 23 (by kernel_rfl)
            have t25 : a.tmps.getD 25 undef = .int .i64 xs.length := hg 25 (by kernel_rfl)
            have u23 := t23
            rw [Array.getD_eq_getD_getElem?] at u23
            have u25 := t25
            rw [Array.getD_eq_getD_getElem?] at u25
            simp [Oper.wp, Oper.upon, execOp, Act.eval, go_sem, t23, u23, t25, u25, hlt, hlt1, hge, hge1, hk12, hk0, hsub, hsub2]
            exact hK _ _ (Ext.rf _) (fun d' h => by cases h; exact rfl)
          · intro a W hx hdf hsz hg hi K hK
            refine step_free rfl ?_
            have t26 : a.tmps.getD 26 undef = .bool false := hg 26 (by kernel_rfl)
            have u26 := t26
            rw [Array.getD_eq_getD_getElem?] at u26
            simp [Oper.wp, Oper.upon, execOp, Act.eval, go_sem, t26, u26, hlt, hlt1, hge, hge1, hk12, hk0, hsub, hsub2]
            exact hK _ _ (Ext.rf _) (fun d' h => by cases h; exact rfl)
          · intro a W hx hdf hsz hg hi K hK
            have G27 : a.tmps.getD 27 undef = .bool false := hg 27 (by kernel_rfl)
            exact step_guard rfl rfl (by have hz : a.tmps.size = 58 := hsz; omega) G27 (fun h => by cases h) (fun _ => hK _ _ (Ext.rf _) (fun d' h => by cases h; exact rfl))
          · intro a W hx hdf hsz hg hi K hK
            have G27 : a.tmps.getD 27 undef = .bool false := hg 27 (by kernel_rfl)
            exact step_guard rfl rfl (by have hz : a.tmps.size = 58 := hsz; omega) G27 (fun h => by cases h) (fun _ => hK _ _ (Ext.rf _) (fun d' h => by cases h; exact rfl))
          · intro a W hx hdf hsz hg hi K hK
            have G27 : a.tmps.getD 27 undef = .bool false := hg 27 (by kernel_rfl)
            exact step_guard rfl rfl (by have hz : a.tmps.size = 58 := hsz; omega) G27 (fun h => by cases h) (fun _ => hK _ _ (Ext.rf _) (fun d' h => by cases h; exact rfl))
          · intro a W hx hdf hsz hg hi K hK
            have G27 : a.tmps.getD 27 undef = .bool false := hg 27 (by kernel_rfl)
            exact step_guard rfl rfl (by have hz : a.tmps.size = 58 := hsz; omega) G27 (fun h => by cases h) (fun _ => hK _ _ (Ext.rf _) (fun d' h => by cases h; exact rfl))
          · intro a W hx hdf hsz hg hi K hK
            have G27 : a.tmps.getD 27 undef = .bool false := hg 27 (by kernel_rfl)
            exact step_guard rfl rfl (by have hz : a.tmps.size = 58 := hsz; omega) G27 (fun h => by cases h) (fun _ => hK _ _ (Ext.rf _) (fun d' h => by cases h; exact rfl))
          · intro a W hx hdf hsz hg hi K hK
            have G27 : a.tmps.getD 27 undef = .bool false := hg 27 (by kernel_rfl)
            exact step_guard rfl rfl (by have hz : a.tmps.size = 58 := hsz; omega) G27 (fun h => by cases h) (fun _ => hK _ _ (Ext.rf _) (fun d' h => by cases h; exact rfl))
          · intro a W hx hdf hsz hg hi K hK
            have G27 : a.tmps.getD 27 undef = .bool false := hg 27 (by kernel_rfl)
            exact step_guard rfl rfl (by have hz : a.tmps.size = 58 := hsz; omega) G27 (fun h => by cases h) (fun _ => hK _ _ (Ext.rf _) (fun d' h => by cases h; exact rfl))
          · intro a W hx hdf hsz hg hi K hK
            have G27 : a.tmps.getD 27 undef = .bool false := hg 27 (by kernel_rfl)
            exact step_guard rfl rfl (by have hz : a.tmps.size = 58 := hsz; omega) G27 (fun h => by cases h) (fun _ => hK _ _ (Ext.rf _) (fun d' h => by cases h; exact rfl))
          · intro a W hx hdf hsz hg hi K hK
            have G27 : a.tmps.getD 27 undef = .bool false := hg 27 (by kernel_rfl)
            exact step_guard rfl rfl (by have hz : a.tmps.size = 58 := hsz; omega) G27 (fun h => by cases h) (fun _ => hK _ _ (Ext.rf _) (fun d' h => by cases h; exact rfl))
          · intro a W hx hdf hsz hg hi K hK
            have G27 : a.tmps.getD 27 undef = .bool false := hg 27 (by kernel_rfl)
            exact step_guard rfl rfl (by have hz : a.tmps.size = 58 := hsz; omega) G27 (fun h => by cases h) (fun _ => hK _ _ (Ext.rf _) (fun d' h => by cases h; exact rfl))
          · intro a W hx hdf hsz hg hi K hK
            refine step_free rfl ?_
            have t27 : a.tmps.getD 27 undef = .bool false := hg 27 (by kernel_rfl)
            have t37 : a.tmps.getD 37 undef = undef := hg 37 (by kernel_rfl)
            have u27 := t27
            rw [Array.getD_eq_getD_getElem?] at u27
            have u37 := t37
            rw [Array.getD_eq_getD_getElem?] at u37
            simp [Oper.wp, Oper.upon, execOp, Act.eval, go_sem, t27, u27, t37, u37, hlt, hlt1, hge, hge1, hk12, hk0, hsub, hsub2]
            exact hK _ _ (Ext.rf _) (fun d' h => by cases h; exact rfl)
          · intro a W hx hdf hsz hg hi K hK
            refine step_free rfl ?_
            have t38 : a.tmps.getD 38 undef = .bool false := hg 38 (by kernel_rfl)
            have u38 := t38
            rw [Array.getD_eq_getD_getElem?] at u38
            simp [Oper.wp, Oper.upon, execOp, Act.eval, go_sem, t38, u38, hlt, hlt1, hge, hge1, hk12, hk0, hsub, hsub2]
            exact hK _ _ (Ext.rf _) (fun d' h => by cases h; exact rfl)
          · intro a W hx hdf hsz hg hi K hK
            have G39 : a.tmps.getD 39 undef = .bool false := hg 39 (by kernel_rfl)
            refine step_guard rfl rfl (by have hz : a.tmps.size = 58 := hsz; omega) G39 (fun _ => ?_) (fun h => absurd rfl h)
            have t6 : a.tmps.getD 6 undef = .int .i64 k := hi 6 (by kernel_rfl)
            have u6 := t6
            rw [Array.getD_eq_getD_getElem?] at u6
            simp [Oper.wp, Oper.upon, execOp, Act.eval, go_sem, t6, u6, hlt, hlt1, hge, hge1, hk12, hk0, hsub, hsub2]
            exact hK _ _ (Ext.rf _) (fun d' h => by cases h; exact rfl)
          · intro a W hx hdf hsz hg hi K hK
            have G39 : a.tmps.getD 39 undef = .bool false := hg 39 (by kernel_rfl)
            refine step_guard rfl rfl (by have hz : a.tmps.size = 58 := hsz; omega) G39 (fun _ => ?_) (fun h => absurd rfl h)
            have t1 : a.tmps.getD 1 undef = .slice A xs.length c' := hi 1 (by kernel_rfl)
            have u1 := t1
            rw [Array.getD_eq_getD_getElem?] at u1
            simp [Oper.wp, Oper.upon, execOp, Act.eval, go_sem, t1, u1, hlt, hlt1, hge, hge1, hk12, hk0, hsub, hsub2]
            exact hK _ _ (Ext.rf _) (fun d' h => by cases h; exact rfl)
          · intro a W hx hdf hsz hg hi K hK
            have G39 : a.tmps.getD 39 undef = .bool false := hg 39 (by kernel_rfl)
            refine step_guard rfl rfl (by have hz : a.tmps.size = 58 := hsz; omega) G39 (fun _ => ?_) (fun h => absurd rfl h)
            have t41 : a.tmps.getD 41 undef = .slice A xs.length c' := hg 41 (by kernel_rfl)
            have u41 := t41
            rw [Array.getD_eq_getD_getElem?] at u41
            simp [Oper.wp, Oper.upon, execOp, Act.eval, go_sem, t41, u41, hlt, hlt1, hge, hge1, hk12, hk0, hsub, hsub2]
            exact hK _ _ (Ext.rf _) (fun d' h => by cases h; exact rfl)
          · intro a W hx hdf hsz hg hi K hK
            have G39 : a.tmps.getD 39 undef = .bool false := hg 39 (by kernel_rfl)
            refine step_guard rfl rfl (by have hz : a.tmps.size = 58 := hsz; omega) G39 (fun _ => ?_) (fun h => absurd rfl h)
            have t40 : a.tmps.getD 40 undef = .int .i64 k := hg 40 (by kernel_rfl)
            have t42 : a.tmps.getD 42 undef = .int .i64 xs.length := hg 42 (by kernel_rfl)
            have u40 := t40
            rw [Array.getD_eq_getD_getElem?] at u40
            have u42 := t42
            rw [Array.getD_eq_getD_getElem?] at u42
            simp [Oper.wp, Oper.upon, execOp, Act.eval, go_sem, t40, u40, t42, u42, hlt, hlt1, hge, hge1, hk12, hk0, hsub, hsub2]
            exact hK _ _ (Ext.rf _) (fun d' h => by cases h; exact rfl)
          · intro a W hx hdf hsz hg hi K hK
            have G39 : a.tmps.getD 39 undef = .bool false := hg 39 (by kernel_rfl)
            refine step_guard rfl rfl (by have hz : a.tmps.size = 58 := hsz; omega) G39 (fun _ => ?_) (fun h => absurd rfl h)
            have t43 : a.tmps.getD 43 undef = .bool true := hg 43 (by kernel_rfl)
            have u43 := t43
            rw [Array.getD_eq_getD_getElem?] at u43
            simp [Oper.wp, Oper.upon, execOp, Act.eval, go_sem, t43, u43, hlt, hlt1, hge, hge1, hk12, hk0, hsub, hsub2]
            exact hK _ _ (Ext.rf _) (fun d' h => by cases h; exact rfl)
          · intro a W hx hdf hsz hg hi K hK
            have G44 : a.tmps.getD 44 undef = .bool true := hg 44 (by kernel_rfl)
            refine step_guard rfl rfl (by have hz : a.tmps.size = 58 := hsz; omega) G44 (fun _ => ?_) (fun h => absurd rfl h)
            have t5 : a.tmps.getD 5 undef = .slice (some ⟨b, 0, none⟩) (xs.length + 12) c := hi 5 (by kernel_rfl)
            have u5 := t5
            rw [Array.getD_eq_getD_getElem?] at u5
            simp [Oper.wp, Oper.upon, execOp, Act.eval, go_sem, t5, u5, hlt, hlt1, hge, hge1, hk12, hk0, hsub, hsub2]
            exact hK _ _ (Ext.rf _) (fun d' h => by cases h; exact rfl)
          · intro a W hx hdf hsz hg hi K hK
            have G44 : a.tmps.getD 44 undef = .bool true := hg 44 (by kernel_rfl)
            refine step_guard rfl rfl (by have hz : a.tmps.size = 58 := hsz; omega) G44 (fun _ => ?_) (fun h => absurd rfl h)
            have t6 : a.tmps.getD 6 undef = .int .i64 k := hi 6 (by kernel_rfl)
            have u6 := t6
            rw [Array.getD_eq_getD_getElem?] at u6
            simp [Oper.wp, Oper.upon, execOp, Act.eval, go_sem, t6, u6, hlt, hlt1, hge, hge1, hk12, hk0, hsub, hsub2]
            exact hK _ _ (Ext.rf _) (fun d' h => by cases h; exact rfl)
          · intro a W hx hdf hsz hg hi K hK
            have G44 : a.tmps.getD 44 undef = .bool true := hg 44 (by kernel_rfl)
            refine step_guard rfl rfl (by have hz : a.tmps.size = 58 := hsz; omega) G44 (fun _ => ?_) (fun h => absurd rfl h)
            have t45 : a.tmps.getD 45 undef = .slice (some ⟨b, 0, none⟩) (xs.length + 12) c := hg 45 (by kernel_rfl)
            have t46 : a.tmps.getD 46 undef = .int .i64 k := hg 46 (by kernel_rfl)
            have u45 := t45
            rw [Array.getD_eq_getD_getElem?] at u45
            have u46 := t46
            rw [Array.getD_eq_getD_getElem?] at u46
            simp [Oper.wp, Oper.upon, execOp, Act.eval, go_sem, t45, u45, t46, u46, hlt, hlt1, hge, hge1, hk12, hk0, hsub, hsub2]
            exact hK _ _ (Ext.rf _) (fun d' h => by cases h; exact rfl)
          · intro a W hx hdf hsz hg hi K hK
            have G44 : a.tmps.getD 44 undef = .bool true := hg 44 (by kernel_rfl)
            refine step_guard rfl rfl (by have hz : a.tmps.size = 58 := hsz; omega) G44 (fun _ => ?_) (fun h => absurd rfl h)
            have t47 : a.tmps.getD 47 undef = .pointer (some ⟨b, k * 16, none⟩) := hg 47 (by kernel_rfl)
            have u47 := t47
            rw [Array.getD_eq_getD_getElem?] at u47
            refine wp_load_mid 42 (.tmp 47) rfl b (k * 16) t47 ca _ (hca.ext hx) hu rfl hi1 ?_
            exact hK _ _ (Ext.rf _) (fun d' h => by cases h; exact rfl)
          · intro a W hx hdf hsz hg hi K hK
            have G44 : a.tmps.getD 44 undef = .bool true := hg 44 (by kernel_rfl)
            refine step_guard rfl rfl (by have hz : a.tmps.size = 58 := hsz; omega) G44 (fun _ => ?_) (fun h => absurd rfl h)
            have t6 : a.tmps.getD 6 undef = .int .i64 k := hi 6 (by kernel_rfl)
            have u6 := t6
            rw [Array.getD_eq_getD_getElem?] at u6
            simp [Oper.wp, Oper.upon, execOp, Act.eval, go_sem, t6, u6, hlt, hlt1, hge, hge1, hk12, hk0, hsub, hsub2]
            exact hK _ _ (Ext.rf _) (fun d' h => by cases h; exact rfl)
          · intro a W hx hdf hsz hg hi K hK
            have G44 : a.tmps.getD 44 undef = .bool true := hg 44 (by kernel_rfl)
            refine step_guard rfl rfl (by have hz : a.tmps.size = 58 := hsz; omega) G44 (fun _ => ?_) (fun h => absurd rfl h)
            have t1 : a.tmps.getD 1 undef = .slice A xs.length c' := hi 1 (by kernel_rfl)
            have u1 := t1
            rw [Array.getD_eq_getD_getElem?] at u1
            simp [Oper.wp, Oper.upon, execOp, Act.eval, go_sem, t1, u1, hlt, hlt1, hge, hge1, hk12, hk0, hsub, hsub2]
            exact hK _ _ (Ext.rf _) (fun d' h => by cases h; exact rfl)
          · intro a W hx hdf hsz hg hi K hK
            have G44 : a.tmps.getD 44 undef = .bool true := hg 44 (by kernel_rfl)
            refine step_guard rfl rfl (by have hz : a.tmps.size = 58 := hsz; omega) G44 (fun _ => ?_) (fun h => absurd rfl h)
            have t50 : a.tmps.getD 50 undef = .slice A xs.length c' := hg 50 (by kernel_rfl)
            have u50 := t50
            rw [Array.getD_eq_getD_getElem?] at u50
            simp [Oper.wp, Oper.upon, execOp, Act.eval, go_sem, t50, u50, hlt, hlt1, hge, hge1, hk12, hk0, hsub, hsub2]
            exact hK _ _ (Ext.rf _) (fun d' h => by cases h; exact rfl)
          · intro a W hx hdf hsz hg hi K hK
            have G44 : a.tmps.getD 44 undef = .bool true := hg 44 (by kernel_rfl)
            refine step_guard rfl rfl (by have hz : a.tmps.size = 58 := hsz; omega) G44 (fun _ => ?_) (fun h => absurd rfl h)
            have t49 : a.tmps.getD 49 undef = .int .i64 k := hg 49 (by kernel_rfl)
            have t51 : a.tmps.getD 51 undef = .int .i64 xs.length := hg 51 (by kernel_rfl)
            have u49 := t49
            rw [Array.getD_eq_getD_getElem?] at u49
            have u51 := t51
            rw [Array.getD_eq_getD_getElem?] at u51
            simp [Oper.wp, Oper.upon, execOp, Act.eval, go_sem, t49, u49, t51, u51, hlt, hlt1, hge, hge1, hk12, hk0, hsub, hsub2]
            exact hK _ _ (Ext.rf _) (fun d' h => by cases h; exact rfl)
          · intro a W hx hdf hsz hg hi K hK
            have G44 : a.tmps.getD 44 undef = .bool true := hg 44 (by kernel_rfl)
            refine step_guard rfl rfl (by have hz : a.tmps.size = 58 := hsz; omega) G44 (fun _ => ?_) (fun h => absurd rfl h)
            have t52 : a.tmps.getD 52 undef = .int .i64 ((k : Int) - xs.length) := hg 52 (by kernel_rfl)
            have u52 := t52
            rw [Array.getD_eq_getD_getElem?] at u52
            simp [Oper.wp, Oper.upon, execOp, Act.eval, go_sem, t52, u52]
            refine (markDecl_any ((k : Int) - xs.length) _ (by omega)).mono ?_
            rintro e w' ⟨hb, cs, rfl, hR⟩
            exact hK _ _ hb (fun d' h => by cases h; exact ⟨cs, rfl, monoC_decl _ _ _ _ (frm_sub _ _) hR⟩)
          · intro a W hx hdf hsz hg hi K hK
            have G44 : a.tmps.getD 44 undef = .bool true := hg 44 (by kernel_rfl)
            refine step_guard rfl rfl (by have hz : a.tmps.size = 58 := hsz; omega) G44 (fun _ => ?_) (fun h => absurd rfl h)
            have t48 : a.tmps.getD 48 undef = .agg ca.toArray := hg 48 (by kernel_rfl)
            obtain ⟨cm, t53, hcm⟩ := (show ∃ cs : List Value, a.tmps.getD 53 undef = .agg cs.toArray ∧ RDecl W (mkDecl ((k : Int) - xs.length)) cs from hg 53 (by kernel_rfl))
            have u53 := t53
            rw [Array.getD_eq_getD_getElem?] at u53
            have u48 := t48
            rw [Array.getD_eq_getD_getElem?] at u48
            simp [Oper.wp, Oper.upon, execOp, Act.eval, go_sem, t53, u53, t48, u48]
            refine (sameDecl_any (mkDecl ((k : Int) - xs.length)) _ _ _ (mono_decl _ _ _ _ hx Ra.out) hcm).mono ?_
            rintro e w' ⟨rfl, hb⟩
            exact hK _ _ hb (fun d' h => by cases h; exact rfl)
          · intro a W hx hdf hsz hg hi K hK
            have G44 : a.tmps.getD 44 undef = .bool true := hg 44 (by kernel_rfl)
            refine step_guard rfl rfl (by have hz : a.tmps.size = 58 := hsz; omega) G44 (fun _ => ?_) (fun h => absurd rfl h)
            have t54 : a.tmps.getD 54 undef = .bool true := hg 54 (by kernel_rfl)
            have u54 := t54
            rw [Array.getD_eq_getD_getElem?] at u54
            simp [Oper.wp, Oper.upon, execOp, Act.eval, go_sem, t54, u54, hlt, hlt1, hge, hge1, hk12, hk0, hsub, hsub2]
            exact hK _ _ (Ext.rf _) (fun d' h => by cases h; exact rfl)
          · intro a W hx hdf hsz hg hi K hK
            have G39 : a.tmps.getD 39 undef = .bool false := hg 39 (by kernel_rfl)
            refine step_guard rfl rfl (by have hz : a.tmps.size = 58 := hsz; omega) G39 (fun _ => ?_) (fun h => absurd rfl h)
            have t44 : a.tmps.getD 44 undef = .bool true := hg 44 (by kernel_rfl)
            have t55 : a.tmps.getD 55 undef = .bool false := hg 55 (by kernel_rfl)
            have u44 := t44
            rw [Array.getD_eq_getD_getElem?] at u44
            have u55 := t55
            rw [Array.getD_eq_getD_getElem?] at u55
            simp [Oper.wp, Oper.upon, execOp, Act.eval, go_sem, t44, u44, t55, u55, hlt, hlt1, hge, hge1, hk12, hk0, hsub, hsub2]
            exact hK _ _ (Ext.rf _) (fun d' h => by cases h; exact rfl)
          · intro a W hx hdf hsz hg hi K hK
            refine step_free rfl ?_
            have t39 : a.tmps.getD 39 undef = .bool false := hg 39 (by kernel_rfl)
            have t56 : a.tmps.getD 56 undef = .bool false := hg 56 (by kernel_rfl)
            have u39 := t39
            rw [Array.getD_eq_getD_getElem?] at u39
            have u56 := t56
            rw [Array.getD_eq_getD_getElem?] at u56
            simp [Oper.wp, Oper.upon, execOp, Act.eval, go_sem, t39, u39, t56, u56, hlt, hlt1, hge, hge1, hk12, hk0, hsub, hsub2]
            exact hK _ _ (Ext.rf _) (fun d' h => by cases h; exact rfl)
        · rintro ⟨T, D⟩ w7 hx7 hdf hsz hg hi
          have h57 : T.getD 57 undef = .bool false := hg 57 (by kernel_rfl)
          obtain ⟨f, hf, hT⟩ := frame_slots T 58 hsz
          have f57 := (hf 57).symm.trans h57
          have f0 : f 0 = .slice (some ⟨b, 0, none⟩) xs.length c := (hf 0).symm.trans (hi 0 (by kernel_rfl))
          have f1 : f 1 = .slice A xs.length c' := (hf 1).symm.trans (hi 1 (by kernel_rfl))
          have f2 : f 2 = undef := (hf 2).symm.trans (hi 2 (by kernel_rfl))
          have f3 : f 3 = undef := (hf 3).symm.trans (hi 3 (by kernel_rfl))
          have f5 : f 5 = .slice (some ⟨b, 0, none⟩) (xs.length + 12) c := (hf 5).symm.trans (hi 5 (by kernel_rfl))
          have f6 : f 6 = .int .i64 k := (hf 6).symm.trans (hi 6 (by kernel_rfl))
          have f7 : f 7 = .slice (some ⟨b, 0, none⟩) xs.length c := (hf 7).symm.trans (hi 7 (by kernel_rfl))
          have f8 : f 8 = .int .i64 xs.length := (hf 8).symm.trans (hi 8 (by kernel_rfl))
          have f9 : f 9 = .slice A xs.length c' := (hf 9).symm.trans (hi 9 (by kernel_rfl))
          have f10 : f 10 = .int .i64 xs.length := (hf 10).symm.trans (hi 10 (by kernel_rfl))
          have f11 : f 11 = .bool false := (hf 11).symm.trans (hi 11 (by kernel_rfl))
          have f12 : f 12 = .slice (some ⟨b, 0, none⟩) xs.length c := (hf 12).symm.trans (hi 12 (by kernel_rfl))
          have f13 : f 13 = .slice A xs.length c' := (hf 13).symm.trans (hi 13 (by kernel_rfl))
          have f14 : f 14 = .int .i64 xs.length := (hf 14).symm.trans (hi 14 (by kernel_rfl))
          have f15 : f 15 = .int .i64 (xs.length + 12) := (hf 15).symm.trans (hi 15 (by kernel_rfl))
          have f16 : f 16 = .slice (some ⟨b, 0, none⟩) (xs.length + 12) c := (hf 16).symm.trans (hi 16 (by kernel_rfl))
          have hD : D = [] := hdf
          clear hf hi hg hsz hdf h57
          subst hT hD
          simp only [slots, Nat.reduceAdd, f57, f0, f1, f2, f3, f5, f6, f7, f8, f9, f10, f11, f12, f13, f14, f15, f16]
          go_wp2_with fail
          exact ⟨⟨k + 1, by omega, by go_num, hx0.tr hx7⟩, by simp only [intOf]; omega⟩
      · obtain rfl : k = xs.length + 12 := by omega
        go_wp2_with fail
        go_ret
        exact ⟨rfl, hx0⟩
end Go.Proofs.YtjaklnabidbmiaaGreatDoor

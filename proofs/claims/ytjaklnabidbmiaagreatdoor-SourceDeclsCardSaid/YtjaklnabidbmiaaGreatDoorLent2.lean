/- Walks: spandrelkit.LentDecl, LentDecls. Printed by gen_lent2.py. -/
import Derived.Test.YtjaklnabidbmiaaGreatDoorLent
import Derived.Test.YtjaklnabidbmiaaGreatDoorBlock2
namespace Go.Proofs.YtjaklnabidbmiaaGreatDoor
open Go.RowKit
set_option linter.unusedSimpArgs false
set_option linter.unusedVariables false
theorem rldecl_open {w : World} {d : Decl} {cs : List Value} (h : RLDecl w d cs) : ∃ b1 e1 b2 e2 b3 e3 b4 e4 b5 e5 b6 e6 b7 e7 b8 e8, cs = [.int .i64 d.kind, .int .i64 d.levels, .int .i64 d.type.kind, .int .i64 d.type.num, .int .i64 d.type.at_, .slice (some ⟨b1, 0, none⟩) d.type.levels.length e1, .slice (some ⟨b2, 0, none⟩) d.type.kids.length e2,
    .int .i64 d.body.kind, .int .i64 d.body.num, .int .i64 d.body.at_, .slice (some ⟨b3, 0, none⟩) d.body.levels.length e3, .slice (some ⟨b4, 0, none⟩) d.body.kids.length e4, .slice (some ⟨b5, 0, none⟩) d.params.length e5, .slice (some ⟨b6, 0, none⟩) d.sort.parts.length e6, .slice (some ⟨b7, 0, none⟩) d.members.length e7, .slice (some ⟨b8, 0, none⟩) d.ctors.length e8] := by
  obtain ⟨ct, cb, vp, vs, vm, vc, rfl, _, h1, h2, ⟨b5, e5, rfl, _⟩, ⟨b6, e6, rfl, _⟩, ⟨b7, e7, rfl, _⟩, ⟨b8, e8, rfl, _⟩⟩ := h
  obtain ⟨b1, e1, b2, e2, rfl⟩ := rlterm_open h1
  obtain ⟨b3, e3, b4, e4, rfl⟩ := rlterm_open h2
  exact ⟨_, _, _, _, _, _, _, _, _, _, _, _, _, _, _, _, rfl⟩
set_option maxRecDepth 100000 in
set_option maxHeartbeats 4000000 in
theorem lentDecl_any (d : Decl) (cs : List Value) (w : World) (h : RDecl w d cs) : Calls Tryz.prog 20 #[.agg cs.toArray] w (Gives RLDecl d w) := by
  obtain ⟨A1, c1, A2, c2, A3, c3, A4, c4, cp, vp, cS, vS, cm, vm, cc, vc, rfl, hik, hil, ht, hb, hp, hS, hm, hc⟩ := rdecl_open h
  have Ht := hid ht
  have Hb := hid hb
  have Hp := hid hp
  have HS := hid hS
  have Hm := hid hm
  have Hc := hid hc
  have Hik := hid hik
  have Hil := hid hil
  clear ht hb hp hS hm hc h hik hil
  have hu := Tryz.underlying42
  have hi42 : (Tryz.prog.info? 42).map (·.size) = some 16 := by kernel_rfl
  go_enter Tryz.func20, Tryz.ntmps20
  go_wp2_with fail
  refine (lentTerm_any d.type _ _ (mono_term _ _ _ _ (((Ext.rf _).al _).al _) Ht.out)).mono ?_
  rintro e w1 ⟨hx1, cs1, rfl, hL1⟩
  obtain ⟨b1, e1, b2, e2, rfl⟩ := rlterm_open hL1
  have q1_0 : w1.cell? ⟨w.heap.size, 0, none⟩ = some (.int .i64 d.kind) := hx1.cell (by simp [go_sem])
  have q1_1 : w1.cell? ⟨w.heap.size, 1, none⟩ = some (.int .i64 d.levels) := hx1.cell (by simp [go_sem])
  have q1_2 : w1.cell? ⟨w.heap.size, 2, none⟩ = some (.int .i64 d.type.kind) := hx1.cell (by simp [go_sem])
  have q1_3 : w1.cell? ⟨w.heap.size, 3, none⟩ = some (.int .i64 d.type.num) := hx1.cell (by simp [go_sem])
  have q1_4 : w1.cell? ⟨w.heap.size, 4, none⟩ = some (.int .i64 d.type.at_) := hx1.cell (by simp [go_sem])
  have q1_5 : w1.cell? ⟨w.heap.size, 5, none⟩ = some (.slice A1 d.type.levels.length c1) := hx1.cell (by simp [go_sem])
  have q1_6 : w1.cell? ⟨w.heap.size, 6, none⟩ = some (.slice A2 d.type.kids.length c2) := hx1.cell (by simp [go_sem])
  have q1_7 : w1.cell? ⟨w.heap.size, 7, none⟩ = some (.int .i64 d.body.kind) := hx1.cell (by simp [go_sem])
  have q1_8 : w1.cell? ⟨w.heap.size, 8, none⟩ = some (.int .i64 d.body.num) := hx1.cell (by simp [go_sem])
  have q1_9 : w1.cell? ⟨w.heap.size, 9, none⟩ = some (.int .i64 d.body.at_) := hx1.cell (by simp [go_sem])
  have q1_10 : w1.cell? ⟨w.heap.size, 10, none⟩ = some (.slice A3 d.body.levels.length c3) := hx1.cell (by simp [go_sem])
  have q1_11 : w1.cell? ⟨w.heap.size, 11, none⟩ = some (.slice A4 d.body.kids.length c4) := hx1.cell (by simp [go_sem])
  have q1_12 : w1.cell? ⟨w.heap.size, 12, none⟩ = some (.slice vp d.params.length cp) := hx1.cell (by simp [go_sem])
  have q1_13 : w1.cell? ⟨w.heap.size, 13, none⟩ = some (.slice vS d.sort.parts.length cS) := hx1.cell (by simp [go_sem])
  have q1_14 : w1.cell? ⟨w.heap.size, 14, none⟩ = some (.slice vm d.members.length cm) := hx1.cell (by simp [go_sem])
  have q1_15 : w1.cell? ⟨w.heap.size, 15, none⟩ = some (.slice vc d.ctors.length cc) := hx1.cell (by simp [go_sem])
  have z1 : ∀ j, w1.frozen? ⟨w.heap.size, j, none⟩ = false := fun j => (Below.frozen hx1 (by simp <;> omega)).trans (by simp [go_sem])
  have th1 : w1.there (w.heap.size + 1) 0 16 := there_ext hx1 (by have := there_fresh (w.alloc (.cells #[.int .i64 d.kind, .int .i64 d.levels, .int .i64 d.type.kind, .int .i64 d.type.num, .int .i64 d.type.at_, .slice A1 d.type.levels.length c1, .slice A2 d.type.kids.length c2, .int .i64 d.body.kind, .int .i64 d.body.num, .int .i64 d.body.at_, .slice A3 d.body.levels.length c3, .slice A4 d.body.kids.length c4, .slice vp d.params.length cp, .slice vS d.sort.parts.length cS, .slice vm d.members.length cm, .slice vc d.ctors.length cc] 42)) 42 #[.int .i64 0, .int .i64 0, .int .i64 0, .int .i64 0, .int .i64 0, .slice none 0 0, .slice none 0 0, .int .i64 0, .int .i64 0, .int .i64 0, .slice none 0 0, .slice none 0 0, .slice none 0 0, .slice none 0 0, .slice none 0 0, .slice none 0 0] 16 (by decide); simpa [go_sem] using this)
  have hsz1 : w.heap.size + 1 < w1.heap.size := by have := hx1.size; simp at this; omega
  have zz2 := z1 2
  have zz3 := z1 3
  have zz4 := z1 4
  have zz5 := z1 5
  have zz6 := z1 6
  have HL1 := hid (monoC_lterm _ _ _ _ (frm_le (m := w.heap.size + 2) (by simp <;> omega) _) hL1)
  have K1_1 := hid (Sub.rf (frm (w.heap.size + 2) w1))
  have Hx1 := hid (show Ext w w1 from (((Ext.rf _).al _).al _).tr hx1)
  have Z1 := hid z1
  have TH1 := hid th1
  clear z1 th1 hx1 hL1
  go_wp2_with fail
  clear zz2 zz3 zz4 zz5 zz6
  refine (lentTerm_any d.body _ _ (mono_term _ _ _ _ (((((Hx1.out.st (by simp) _).st (by simp) _).st (by simp) _).st (by simp) _).st (by simp) _) Hb.out)).mono ?_
  rintro e w2 ⟨hx2, cs2, rfl, hL2⟩
  obtain ⟨b3, e3, b4, e4, rfl⟩ := rlterm_open hL2
  have q2_0 : w2.cell? ⟨w.heap.size, 0, none⟩ = some (.int .i64 d.kind) := hx2.cell (by simp [go_sem, q1_0, q1_1, q1_2, q1_3, q1_4, q1_5, q1_6, q1_7, q1_8, q1_9, q1_10, q1_11, q1_12, q1_13, q1_14, q1_15])
  have q2_1 : w2.cell? ⟨w.heap.size, 1, none⟩ = some (.int .i64 d.levels) := hx2.cell (by simp [go_sem, q1_0, q1_1, q1_2, q1_3, q1_4, q1_5, q1_6, q1_7, q1_8, q1_9, q1_10, q1_11, q1_12, q1_13, q1_14, q1_15])
  have q2_2 : w2.cell? ⟨w.heap.size, 2, none⟩ = some (.int .i64 d.type.kind) := hx2.cell (by simp [go_sem, q1_0, q1_1, q1_2, q1_3, q1_4, q1_5, q1_6, q1_7, q1_8, q1_9, q1_10, q1_11, q1_12, q1_13, q1_14, q1_15])
  have q2_3 : w2.cell? ⟨w.heap.size, 3, none⟩ = some (.int .i64 d.type.num) := hx2.cell (by simp [go_sem, q1_0, q1_1, q1_2, q1_3, q1_4, q1_5, q1_6, q1_7, q1_8, q1_9, q1_10, q1_11, q1_12, q1_13, q1_14, q1_15])
  have q2_4 : w2.cell? ⟨w.heap.size, 4, none⟩ = some (.int .i64 d.type.at_) := hx2.cell (by simp [go_sem, q1_0, q1_1, q1_2, q1_3, q1_4, q1_5, q1_6, q1_7, q1_8, q1_9, q1_10, q1_11, q1_12, q1_13, q1_14, q1_15])
  have q2_5 : w2.cell? ⟨w.heap.size, 5, none⟩ = some (.slice (some ⟨b1, 0, none⟩) d.type.levels.length e1) := hx2.cell (by simp [go_sem, q1_0, q1_1, q1_2, q1_3, q1_4, q1_5, q1_6, q1_7, q1_8, q1_9, q1_10, q1_11, q1_12, q1_13, q1_14, q1_15])
  have q2_6 : w2.cell? ⟨w.heap.size, 6, none⟩ = some (.slice (some ⟨b2, 0, none⟩) d.type.kids.length e2) := hx2.cell (by simp [go_sem, q1_0, q1_1, q1_2, q1_3, q1_4, q1_5, q1_6, q1_7, q1_8, q1_9, q1_10, q1_11, q1_12, q1_13, q1_14, q1_15])
  have q2_7 : w2.cell? ⟨w.heap.size, 7, none⟩ = some (.int .i64 d.body.kind) := hx2.cell (by simp [go_sem, q1_0, q1_1, q1_2, q1_3, q1_4, q1_5, q1_6, q1_7, q1_8, q1_9, q1_10, q1_11, q1_12, q1_13, q1_14, q1_15])
  have q2_8 : w2.cell? ⟨w.heap.size, 8, none⟩ = some (.int .i64 d.body.num) := hx2.cell (by simp [go_sem, q1_0, q1_1, q1_2, q1_3, q1_4, q1_5, q1_6, q1_7, q1_8, q1_9, q1_10, q1_11, q1_12, q1_13, q1_14, q1_15])
  have q2_9 : w2.cell? ⟨w.heap.size, 9, none⟩ = some (.int .i64 d.body.at_) := hx2.cell (by simp [go_sem, q1_0, q1_1, q1_2, q1_3, q1_4, q1_5, q1_6, q1_7, q1_8, q1_9, q1_10, q1_11, q1_12, q1_13, q1_14, q1_15])
  have q2_10 : w2.cell? ⟨w.heap.size, 10, none⟩ = some (.slice A3 d.body.levels.length c3) := hx2.cell (by simp [go_sem, q1_0, q1_1, q1_2, q1_3, q1_4, q1_5, q1_6, q1_7, q1_8, q1_9, q1_10, q1_11, q1_12, q1_13, q1_14, q1_15])
  have q2_11 : w2.cell? ⟨w.heap.size, 11, none⟩ = some (.slice A4 d.body.kids.length c4) := hx2.cell (by simp [go_sem, q1_0, q1_1, q1_2, q1_3, q1_4, q1_5, q1_6, q1_7, q1_8, q1_9, q1_10, q1_11, q1_12, q1_13, q1_14, q1_15])
  have q2_12 : w2.cell? ⟨w.heap.size, 12, none⟩ = some (.slice vp d.params.length cp) := hx2.cell (by simp [go_sem, q1_0, q1_1, q1_2, q1_3, q1_4, q1_5, q1_6, q1_7, q1_8, q1_9, q1_10, q1_11, q1_12, q1_13, q1_14, q1_15])
  have q2_13 : w2.cell? ⟨w.heap.size, 13, none⟩ = some (.slice vS d.sort.parts.length cS) := hx2.cell (by simp [go_sem, q1_0, q1_1, q1_2, q1_3, q1_4, q1_5, q1_6, q1_7, q1_8, q1_9, q1_10, q1_11, q1_12, q1_13, q1_14, q1_15])
  have q2_14 : w2.cell? ⟨w.heap.size, 14, none⟩ = some (.slice vm d.members.length cm) := hx2.cell (by simp [go_sem, q1_0, q1_1, q1_2, q1_3, q1_4, q1_5, q1_6, q1_7, q1_8, q1_9, q1_10, q1_11, q1_12, q1_13, q1_14, q1_15])
  have q2_15 : w2.cell? ⟨w.heap.size, 15, none⟩ = some (.slice vc d.ctors.length cc) := hx2.cell (by simp [go_sem, q1_0, q1_1, q1_2, q1_3, q1_4, q1_5, q1_6, q1_7, q1_8, q1_9, q1_10, q1_11, q1_12, q1_13, q1_14, q1_15])
  clear q1_0 q1_1 q1_2 q1_3 q1_4 q1_5 q1_6 q1_7 q1_8 q1_9 q1_10 q1_11 q1_12 q1_13 q1_14 q1_15
  have z2 : ∀ j, w2.frozen? ⟨w.heap.size, j, none⟩ = false := fun j => (Below.frozen hx2 (by simp <;> omega)).trans (by simp [go_sem, Z1.out])
  have th2 : w2.there (w.heap.size + 1) 0 16 := there_ext hx2 (there_set (by omega) (there_set (by omega) (there_set (by omega) (there_set (by omega) (there_set (by omega) TH1.out)))))
  have hsz2 : w.heap.size + 1 < w2.heap.size := by have := hx2.size; simp at this; omega
  have zz7 := z2 7
  have zz8 := z2 8
  have zz9 := z2 9
  have zz10 := z2 10
  have zz11 := z2 11
  have HL2 := hid (monoC_lterm _ _ _ _ (frm_le (m := w.heap.size + 2) (by simp <;> omega) _) hL2)
  have K2_2 := hid (Sub.rf (frm (w.heap.size + 2) w2))
  have K1_2 := hid (((((((K1_1.out).tr (frm_set (by omega))).tr (frm_set (by omega))).tr (frm_set (by omega))).tr (frm_set (by omega))).tr (frm_set (by omega))).tr (frm_ext _ hx2))
  clear K1_1
  have Hx2 := hid (show Ext w w2 from (((((Hx1.out.st (by simp) _).st (by simp) _).st (by simp) _).st (by simp) _).st (by simp) _).tr hx2)
  have Z2 := hid z2
  have TH2 := hid th2
  clear z2 th2 hx2 hL2 Hx1 Z1 TH1
  go_wp2_with fail
  clear zz7 zz8 zz9 zz10 zz11
  refine (lentTerms_any d.params _ _ (Hp.out.ext mono_term (((((Hx2.out.st (by simp) _).st (by simp) _).st (by simp) _).st (by simp) _).st (by simp) _))).mono ?_
  rintro e w3 ⟨hx3, v3, rfl, hL3⟩
  obtain ⟨b5, e5, rfl, _⟩ := id hL3
  have q3_0 : w3.cell? ⟨w.heap.size, 0, none⟩ = some (.int .i64 d.kind) := hx3.cell (by simp [go_sem, q2_0, q2_1, q2_2, q2_3, q2_4, q2_5, q2_6, q2_7, q2_8, q2_9, q2_10, q2_11, q2_12, q2_13, q2_14, q2_15])
  have q3_1 : w3.cell? ⟨w.heap.size, 1, none⟩ = some (.int .i64 d.levels) := hx3.cell (by simp [go_sem, q2_0, q2_1, q2_2, q2_3, q2_4, q2_5, q2_6, q2_7, q2_8, q2_9, q2_10, q2_11, q2_12, q2_13, q2_14, q2_15])
  have q3_2 : w3.cell? ⟨w.heap.size, 2, none⟩ = some (.int .i64 d.type.kind) := hx3.cell (by simp [go_sem, q2_0, q2_1, q2_2, q2_3, q2_4, q2_5, q2_6, q2_7, q2_8, q2_9, q2_10, q2_11, q2_12, q2_13, q2_14, q2_15])
  have q3_3 : w3.cell? ⟨w.heap.size, 3, none⟩ = some (.int .i64 d.type.num) := hx3.cell (by simp [go_sem, q2_0, q2_1, q2_2, q2_3, q2_4, q2_5, q2_6, q2_7, q2_8, q2_9, q2_10, q2_11, q2_12, q2_13, q2_14, q2_15])
  have q3_4 : w3.cell? ⟨w.heap.size, 4, none⟩ = some (.int .i64 d.type.at_) := hx3.cell (by simp [go_sem, q2_0, q2_1, q2_2, q2_3, q2_4, q2_5, q2_6, q2_7, q2_8, q2_9, q2_10, q2_11, q2_12, q2_13, q2_14, q2_15])
  have q3_5 : w3.cell? ⟨w.heap.size, 5, none⟩ = some (.slice (some ⟨b1, 0, none⟩) d.type.levels.length e1) := hx3.cell (by simp [go_sem, q2_0, q2_1, q2_2, q2_3, q2_4, q2_5, q2_6, q2_7, q2_8, q2_9, q2_10, q2_11, q2_12, q2_13, q2_14, q2_15])
  have q3_6 : w3.cell? ⟨w.heap.size, 6, none⟩ = some (.slice (some ⟨b2, 0, none⟩) d.type.kids.length e2) := hx3.cell (by simp [go_sem, q2_0, q2_1, q2_2, q2_3, q2_4, q2_5, q2_6, q2_7, q2_8, q2_9, q2_10, q2_11, q2_12, q2_13, q2_14, q2_15])
  have q3_7 : w3.cell? ⟨w.heap.size, 7, none⟩ = some (.int .i64 d.body.kind) := hx3.cell (by simp [go_sem, q2_0, q2_1, q2_2, q2_3, q2_4, q2_5, q2_6, q2_7, q2_8, q2_9, q2_10, q2_11, q2_12, q2_13, q2_14, q2_15])
  have q3_8 : w3.cell? ⟨w.heap.size, 8, none⟩ = some (.int .i64 d.body.num) := hx3.cell (by simp [go_sem, q2_0, q2_1, q2_2, q2_3, q2_4, q2_5, q2_6, q2_7, q2_8, q2_9, q2_10, q2_11, q2_12, q2_13, q2_14, q2_15])
  have q3_9 : w3.cell? ⟨w.heap.size, 9, none⟩ = some (.int .i64 d.body.at_) := hx3.cell (by simp [go_sem, q2_0, q2_1, q2_2, q2_3, q2_4, q2_5, q2_6, q2_7, q2_8, q2_9, q2_10, q2_11, q2_12, q2_13, q2_14, q2_15])
  have q3_10 : w3.cell? ⟨w.heap.size, 10, none⟩ = some (.slice (some ⟨b3, 0, none⟩) d.body.levels.length e3) := hx3.cell (by simp [go_sem, q2_0, q2_1, q2_2, q2_3, q2_4, q2_5, q2_6, q2_7, q2_8, q2_9, q2_10, q2_11, q2_12, q2_13, q2_14, q2_15])
  have q3_11 : w3.cell? ⟨w.heap.size, 11, none⟩ = some (.slice (some ⟨b4, 0, none⟩) d.body.kids.length e4) := hx3.cell (by simp [go_sem, q2_0, q2_1, q2_2, q2_3, q2_4, q2_5, q2_6, q2_7, q2_8, q2_9, q2_10, q2_11, q2_12, q2_13, q2_14, q2_15])
  have q3_12 : w3.cell? ⟨w.heap.size, 12, none⟩ = some (.slice vp d.params.length cp) := hx3.cell (by simp [go_sem, q2_0, q2_1, q2_2, q2_3, q2_4, q2_5, q2_6, q2_7, q2_8, q2_9, q2_10, q2_11, q2_12, q2_13, q2_14, q2_15])
  have q3_13 : w3.cell? ⟨w.heap.size, 13, none⟩ = some (.slice vS d.sort.parts.length cS) := hx3.cell (by simp [go_sem, q2_0, q2_1, q2_2, q2_3, q2_4, q2_5, q2_6, q2_7, q2_8, q2_9, q2_10, q2_11, q2_12, q2_13, q2_14, q2_15])
  have q3_14 : w3.cell? ⟨w.heap.size, 14, none⟩ = some (.slice vm d.members.length cm) := hx3.cell (by simp [go_sem, q2_0, q2_1, q2_2, q2_3, q2_4, q2_5, q2_6, q2_7, q2_8, q2_9, q2_10, q2_11, q2_12, q2_13, q2_14, q2_15])
  have q3_15 : w3.cell? ⟨w.heap.size, 15, none⟩ = some (.slice vc d.ctors.length cc) := hx3.cell (by simp [go_sem, q2_0, q2_1, q2_2, q2_3, q2_4, q2_5, q2_6, q2_7, q2_8, q2_9, q2_10, q2_11, q2_12, q2_13, q2_14, q2_15])
  clear q2_0 q2_1 q2_2 q2_3 q2_4 q2_5 q2_6 q2_7 q2_8 q2_9 q2_10 q2_11 q2_12 q2_13 q2_14 q2_15
  have z3 : ∀ j, w3.frozen? ⟨w.heap.size, j, none⟩ = false := fun j => (Below.frozen hx3 (by simp <;> omega)).trans (by simp [go_sem, Z2.out])
  have th3 : w3.there (w.heap.size + 1) 0 16 := there_ext hx3 (there_set (by omega) (there_set (by omega) (there_set (by omega) (there_set (by omega) (there_set (by omega) TH2.out)))))
  have hsz3 : w.heap.size + 1 < w3.heap.size := by have := hx3.size; simp at this; omega
  have zz12 := z3 12
  have HL3 := hid (hL3.sub monoC_lterm monoC_term (frm_le (m := w.heap.size + 2) (by simp <;> omega) _))
  have K3_3 := hid (Sub.rf (frm (w.heap.size + 2) w3))
  have K1_3 := hid (((((((K1_2.out).tr (frm_set (by omega))).tr (frm_set (by omega))).tr (frm_set (by omega))).tr (frm_set (by omega))).tr (frm_set (by omega))).tr (frm_ext _ hx3))
  have K2_3 := hid (((((((K2_2.out).tr (frm_set (by omega))).tr (frm_set (by omega))).tr (frm_set (by omega))).tr (frm_set (by omega))).tr (frm_set (by omega))).tr (frm_ext _ hx3))
  clear K1_2 K2_2
  have Hx3 := hid (show Ext w w3 from (((((Hx2.out.st (by simp) _).st (by simp) _).st (by simp) _).st (by simp) _).st (by simp) _).tr hx3)
  have Z3 := hid z3
  have TH3 := hid th3
  clear z3 th3 hx3 hL3 Hx2 Z2 TH2
  go_wp2_with fail
  clear zz12
  refine (lentLevel_any d.sort _ _ ⟨_, rfl, HS.out.ext mono_part (Hx3.out.st (by simp) _)⟩).mono ?_
  rintro e w4 ⟨hx4, cs4, rfl, hL4⟩
  obtain ⟨v4, rfl, ⟨b6, e6, rfl, _⟩⟩ := id hL4
  have q4_0 : w4.cell? ⟨w.heap.size, 0, none⟩ = some (.int .i64 d.kind) := hx4.cell (by simp [go_sem, q3_0, q3_1, q3_2, q3_3, q3_4, q3_5, q3_6, q3_7, q3_8, q3_9, q3_10, q3_11, q3_12, q3_13, q3_14, q3_15])
  have q4_1 : w4.cell? ⟨w.heap.size, 1, none⟩ = some (.int .i64 d.levels) := hx4.cell (by simp [go_sem, q3_0, q3_1, q3_2, q3_3, q3_4, q3_5, q3_6, q3_7, q3_8, q3_9, q3_10, q3_11, q3_12, q3_13, q3_14, q3_15])
  have q4_2 : w4.cell? ⟨w.heap.size, 2, none⟩ = some (.int .i64 d.type.kind) := hx4.cell (by simp [go_sem, q3_0, q3_1, q3_2, q3_3, q3_4, q3_5, q3_6, q3_7, q3_8, q3_9, q3_10, q3_11, q3_12, q3_13, q3_14, q3_15])
  have q4_3 : w4.cell? ⟨w.heap.size, 3, none⟩ = some (.int .i64 d.type.num) := hx4.cell (by simp [go_sem, q3_0, q3_1, q3_2, q3_3, q3_4, q3_5, q3_6, q3_7, q3_8, q3_9, q3_10, q3_11, q3_12, q3_13, q3_14, q3_15])
  have q4_4 : w4.cell? ⟨w.heap.size, 4, none⟩ = some (.int .i64 d.type.at_) := hx4.cell (by simp [go_sem, q3_0, q3_1, q3_2, q3_3, q3_4, q3_5, q3_6, q3_7, q3_8, q3_9, q3_10, q3_11, q3_12, q3_13, q3_14, q3_15])
  have q4_5 : w4.cell? ⟨w.heap.size, 5, none⟩ = some (.slice (some ⟨b1, 0, none⟩) d.type.levels.length e1) := hx4.cell (by simp [go_sem, q3_0, q3_1, q3_2, q3_3, q3_4, q3_5, q3_6, q3_7, q3_8, q3_9, q3_10, q3_11, q3_12, q3_13, q3_14, q3_15])
  have q4_6 : w4.cell? ⟨w.heap.size, 6, none⟩ = some (.slice (some ⟨b2, 0, none⟩) d.type.kids.length e2) := hx4.cell (by simp [go_sem, q3_0, q3_1, q3_2, q3_3, q3_4, q3_5, q3_6, q3_7, q3_8, q3_9, q3_10, q3_11, q3_12, q3_13, q3_14, q3_15])
  have q4_7 : w4.cell? ⟨w.heap.size, 7, none⟩ = some (.int .i64 d.body.kind) := hx4.cell (by simp [go_sem, q3_0, q3_1, q3_2, q3_3, q3_4, q3_5, q3_6, q3_7, q3_8, q3_9, q3_10, q3_11, q3_12, q3_13, q3_14, q3_15])
  have q4_8 : w4.cell? ⟨w.heap.size, 8, none⟩ = some (.int .i64 d.body.num) := hx4.cell (by simp [go_sem, q3_0, q3_1, q3_2, q3_3, q3_4, q3_5, q3_6, q3_7, q3_8, q3_9, q3_10, q3_11, q3_12, q3_13, q3_14, q3_15])
  have q4_9 : w4.cell? ⟨w.heap.size, 9, none⟩ = some (.int .i64 d.body.at_) := hx4.cell (by simp [go_sem, q3_0, q3_1, q3_2, q3_3, q3_4, q3_5, q3_6, q3_7, q3_8, q3_9, q3_10, q3_11, q3_12, q3_13, q3_14, q3_15])
  have q4_10 : w4.cell? ⟨w.heap.size, 10, none⟩ = some (.slice (some ⟨b3, 0, none⟩) d.body.levels.length e3) := hx4.cell (by simp [go_sem, q3_0, q3_1, q3_2, q3_3, q3_4, q3_5, q3_6, q3_7, q3_8, q3_9, q3_10, q3_11, q3_12, q3_13, q3_14, q3_15])
  have q4_11 : w4.cell? ⟨w.heap.size, 11, none⟩ = some (.slice (some ⟨b4, 0, none⟩) d.body.kids.length e4) := hx4.cell (by simp [go_sem, q3_0, q3_1, q3_2, q3_3, q3_4, q3_5, q3_6, q3_7, q3_8, q3_9, q3_10, q3_11, q3_12, q3_13, q3_14, q3_15])
  have q4_12 : w4.cell? ⟨w.heap.size, 12, none⟩ = some (.slice (some ⟨b5, 0, none⟩) d.params.length e5) := hx4.cell (by simp [go_sem, q3_0, q3_1, q3_2, q3_3, q3_4, q3_5, q3_6, q3_7, q3_8, q3_9, q3_10, q3_11, q3_12, q3_13, q3_14, q3_15])
  have q4_13 : w4.cell? ⟨w.heap.size, 13, none⟩ = some (.slice vS d.sort.parts.length cS) := hx4.cell (by simp [go_sem, q3_0, q3_1, q3_2, q3_3, q3_4, q3_5, q3_6, q3_7, q3_8, q3_9, q3_10, q3_11, q3_12, q3_13, q3_14, q3_15])
  have q4_14 : w4.cell? ⟨w.heap.size, 14, none⟩ = some (.slice vm d.members.length cm) := hx4.cell (by simp [go_sem, q3_0, q3_1, q3_2, q3_3, q3_4, q3_5, q3_6, q3_7, q3_8, q3_9, q3_10, q3_11, q3_12, q3_13, q3_14, q3_15])
  have q4_15 : w4.cell? ⟨w.heap.size, 15, none⟩ = some (.slice vc d.ctors.length cc) := hx4.cell (by simp [go_sem, q3_0, q3_1, q3_2, q3_3, q3_4, q3_5, q3_6, q3_7, q3_8, q3_9, q3_10, q3_11, q3_12, q3_13, q3_14, q3_15])
  clear q3_0 q3_1 q3_2 q3_3 q3_4 q3_5 q3_6 q3_7 q3_8 q3_9 q3_10 q3_11 q3_12 q3_13 q3_14 q3_15
  have z4 : ∀ j, w4.frozen? ⟨w.heap.size, j, none⟩ = false := fun j => (Below.frozen hx4 (by simp <;> omega)).trans (by simp [go_sem, Z3.out])
  have th4 : w4.there (w.heap.size + 1) 0 16 := there_ext hx4 (there_set (by omega) TH3.out)
  have hsz4 : w.heap.size + 1 < w4.heap.size := by have := hx4.size; simp at this; omega
  have zz13 := z4 13
  have HL4 := hid (monoC_llevel _ _ _ _ (frm_le (m := w.heap.size + 2) (by simp <;> omega) _) hL4)
  have K4_4 := hid (Sub.rf (frm (w.heap.size + 2) w4))
  have K1_4 := hid (((K1_3.out).tr (frm_set (by omega))).tr (frm_ext _ hx4))
  have K2_4 := hid (((K2_3.out).tr (frm_set (by omega))).tr (frm_ext _ hx4))
  have K3_4 := hid (((K3_3.out).tr (frm_set (by omega))).tr (frm_ext _ hx4))
  clear K1_3 K2_3 K3_3
  have Hx4 := hid (show Ext w w4 from (Hx3.out.st (by simp) _).tr hx4)
  have Z4 := hid z4
  have TH4 := hid th4
  clear z4 th4 hx4 hL4 Hx3 Z3 TH3
  go_wp2_with fail
  clear zz13
  refine (lentMembers_any d.members _ _ (Hm.out.ext mono_member (Hx4.out.st (by simp) _))).mono ?_
  rintro e w5 ⟨hx5, v5, rfl, hL5⟩
  obtain ⟨b7, e7, rfl, _⟩ := id hL5
  have q5_0 : w5.cell? ⟨w.heap.size, 0, none⟩ = some (.int .i64 d.kind) := hx5.cell (by simp [go_sem, q4_0, q4_1, q4_2, q4_3, q4_4, q4_5, q4_6, q4_7, q4_8, q4_9, q4_10, q4_11, q4_12, q4_13, q4_14, q4_15])
  have q5_1 : w5.cell? ⟨w.heap.size, 1, none⟩ = some (.int .i64 d.levels) := hx5.cell (by simp [go_sem, q4_0, q4_1, q4_2, q4_3, q4_4, q4_5, q4_6, q4_7, q4_8, q4_9, q4_10, q4_11, q4_12, q4_13, q4_14, q4_15])
  have q5_2 : w5.cell? ⟨w.heap.size, 2, none⟩ = some (.int .i64 d.type.kind) := hx5.cell (by simp [go_sem, q4_0, q4_1, q4_2, q4_3, q4_4, q4_5, q4_6, q4_7, q4_8, q4_9, q4_10, q4_11, q4_12, q4_13, q4_14, q4_15])
  have q5_3 : w5.cell? ⟨w.heap.size, 3, none⟩ = some (.int .i64 d.type.num) := hx5.cell (by simp [go_sem, q4_0, q4_1, q4_2, q4_3, q4_4, q4_5, q4_6, q4_7, q4_8, q4_9, q4_10, q4_11, q4_12, q4_13, q4_14, q4_15])
  have q5_4 : w5.cell? ⟨w.heap.size, 4, none⟩ = some (.int .i64 d.type.at_) := hx5.cell (by simp [go_sem, q4_0, q4_1, q4_2, q4_3, q4_4, q4_5, q4_6, q4_7, q4_8, q4_9, q4_10, q4_11, q4_12, q4_13, q4_14, q4_15])
  have q5_5 : w5.cell? ⟨w.heap.size, 5, none⟩ = some (.slice (some ⟨b1, 0, none⟩) d.type.levels.length e1) := hx5.cell (by simp [go_sem, q4_0, q4_1, q4_2, q4_3, q4_4, q4_5, q4_6, q4_7, q4_8, q4_9, q4_10, q4_11, q4_12, q4_13, q4_14, q4_15])
  have q5_6 : w5.cell? ⟨w.heap.size, 6, none⟩ = some (.slice (some ⟨b2, 0, none⟩) d.type.kids.length e2) := hx5.cell (by simp [go_sem, q4_0, q4_1, q4_2, q4_3, q4_4, q4_5, q4_6, q4_7, q4_8, q4_9, q4_10, q4_11, q4_12, q4_13, q4_14, q4_15])
  have q5_7 : w5.cell? ⟨w.heap.size, 7, none⟩ = some (.int .i64 d.body.kind) := hx5.cell (by simp [go_sem, q4_0, q4_1, q4_2, q4_3, q4_4, q4_5, q4_6, q4_7, q4_8, q4_9, q4_10, q4_11, q4_12, q4_13, q4_14, q4_15])
  have q5_8 : w5.cell? ⟨w.heap.size, 8, none⟩ = some (.int .i64 d.body.num) := hx5.cell (by simp [go_sem, q4_0, q4_1, q4_2, q4_3, q4_4, q4_5, q4_6, q4_7, q4_8, q4_9, q4_10, q4_11, q4_12, q4_13, q4_14, q4_15])
  have q5_9 : w5.cell? ⟨w.heap.size, 9, none⟩ = some (.int .i64 d.body.at_) := hx5.cell (by simp [go_sem, q4_0, q4_1, q4_2, q4_3, q4_4, q4_5, q4_6, q4_7, q4_8, q4_9, q4_10, q4_11, q4_12, q4_13, q4_14, q4_15])
  have q5_10 : w5.cell? ⟨w.heap.size, 10, none⟩ = some (.slice (some ⟨b3, 0, none⟩) d.body.levels.length e3) := hx5.cell (by simp [go_sem, q4_0, q4_1, q4_2, q4_3, q4_4, q4_5, q4_6, q4_7, q4_8, q4_9, q4_10, q4_11, q4_12, q4_13, q4_14, q4_15])
  have q5_11 : w5.cell? ⟨w.heap.size, 11, none⟩ = some (.slice (some ⟨b4, 0, none⟩) d.body.kids.length e4) := hx5.cell (by simp [go_sem, q4_0, q4_1, q4_2, q4_3, q4_4, q4_5, q4_6, q4_7, q4_8, q4_9, q4_10, q4_11, q4_12, q4_13, q4_14, q4_15])
  have q5_12 : w5.cell? ⟨w.heap.size, 12, none⟩ = some (.slice (some ⟨b5, 0, none⟩) d.params.length e5) := hx5.cell (by simp [go_sem, q4_0, q4_1, q4_2, q4_3, q4_4, q4_5, q4_6, q4_7, q4_8, q4_9, q4_10, q4_11, q4_12, q4_13, q4_14, q4_15])
  have q5_13 : w5.cell? ⟨w.heap.size, 13, none⟩ = some (.slice (some ⟨b6, 0, none⟩) d.sort.parts.length e6) := hx5.cell (by simp [go_sem, q4_0, q4_1, q4_2, q4_3, q4_4, q4_5, q4_6, q4_7, q4_8, q4_9, q4_10, q4_11, q4_12, q4_13, q4_14, q4_15])
  have q5_14 : w5.cell? ⟨w.heap.size, 14, none⟩ = some (.slice vm d.members.length cm) := hx5.cell (by simp [go_sem, q4_0, q4_1, q4_2, q4_3, q4_4, q4_5, q4_6, q4_7, q4_8, q4_9, q4_10, q4_11, q4_12, q4_13, q4_14, q4_15])
  have q5_15 : w5.cell? ⟨w.heap.size, 15, none⟩ = some (.slice vc d.ctors.length cc) := hx5.cell (by simp [go_sem, q4_0, q4_1, q4_2, q4_3, q4_4, q4_5, q4_6, q4_7, q4_8, q4_9, q4_10, q4_11, q4_12, q4_13, q4_14, q4_15])
  clear q4_0 q4_1 q4_2 q4_3 q4_4 q4_5 q4_6 q4_7 q4_8 q4_9 q4_10 q4_11 q4_12 q4_13 q4_14 q4_15
  have z5 : ∀ j, w5.frozen? ⟨w.heap.size, j, none⟩ = false := fun j => (Below.frozen hx5 (by simp <;> omega)).trans (by simp [go_sem, Z4.out])
  have th5 : w5.there (w.heap.size + 1) 0 16 := there_ext hx5 (there_set (by omega) TH4.out)
  have hsz5 : w.heap.size + 1 < w5.heap.size := by have := hx5.size; simp at this; omega
  have zz14 := z5 14
  have HL5 := hid (hL5.sub monoC_lmember monoC_member (frm_le (m := w.heap.size + 2) (by simp <;> omega) _))
  have K5_5 := hid (Sub.rf (frm (w.heap.size + 2) w5))
  have K1_5 := hid (((K1_4.out).tr (frm_set (by omega))).tr (frm_ext _ hx5))
  have K2_5 := hid (((K2_4.out).tr (frm_set (by omega))).tr (frm_ext _ hx5))
  have K3_5 := hid (((K3_4.out).tr (frm_set (by omega))).tr (frm_ext _ hx5))
  have K4_5 := hid (((K4_4.out).tr (frm_set (by omega))).tr (frm_ext _ hx5))
  clear K1_4 K2_4 K3_4 K4_4
  have Hx5 := hid (show Ext w w5 from (Hx4.out.st (by simp) _).tr hx5)
  have Z5 := hid z5
  have TH5 := hid th5
  clear z5 th5 hx5 hL5 Hx4 Z4 TH4
  go_wp2_with fail
  clear zz14
  refine (lentCtors_any d.ctors _ _ (Hc.out.ext mono_ctor (Hx5.out.st (by simp) _))).mono ?_
  rintro e w6 ⟨hx6, v6, rfl, hL6⟩
  obtain ⟨b8, e8, rfl, _⟩ := id hL6
  have q6_0 : w6.cell? ⟨w.heap.size, 0, none⟩ = some (.int .i64 d.kind) := hx6.cell (by simp [go_sem, q5_0, q5_1, q5_2, q5_3, q5_4, q5_5, q5_6, q5_7, q5_8, q5_9, q5_10, q5_11, q5_12, q5_13, q5_14, q5_15])
  have q6_1 : w6.cell? ⟨w.heap.size, 1, none⟩ = some (.int .i64 d.levels) := hx6.cell (by simp [go_sem, q5_0, q5_1, q5_2, q5_3, q5_4, q5_5, q5_6, q5_7, q5_8, q5_9, q5_10, q5_11, q5_12, q5_13, q5_14, q5_15])
  have q6_2 : w6.cell? ⟨w.heap.size, 2, none⟩ = some (.int .i64 d.type.kind) := hx6.cell (by simp [go_sem, q5_0, q5_1, q5_2, q5_3, q5_4, q5_5, q5_6, q5_7, q5_8, q5_9, q5_10, q5_11, q5_12, q5_13, q5_14, q5_15])
  have q6_3 : w6.cell? ⟨w.heap.size, 3, none⟩ = some (.int .i64 d.type.num) := hx6.cell (by simp [go_sem, q5_0, q5_1, q5_2, q5_3, q5_4, q5_5, q5_6, q5_7, q5_8, q5_9, q5_10, q5_11, q5_12, q5_13, q5_14, q5_15])
  have q6_4 : w6.cell? ⟨w.heap.size, 4, none⟩ = some (.int .i64 d.type.at_) := hx6.cell (by simp [go_sem, q5_0, q5_1, q5_2, q5_3, q5_4, q5_5, q5_6, q5_7, q5_8, q5_9, q5_10, q5_11, q5_12, q5_13, q5_14, q5_15])
  have q6_5 : w6.cell? ⟨w.heap.size, 5, none⟩ = some (.slice (some ⟨b1, 0, none⟩) d.type.levels.length e1) := hx6.cell (by simp [go_sem, q5_0, q5_1, q5_2, q5_3, q5_4, q5_5, q5_6, q5_7, q5_8, q5_9, q5_10, q5_11, q5_12, q5_13, q5_14, q5_15])
  have q6_6 : w6.cell? ⟨w.heap.size, 6, none⟩ = some (.slice (some ⟨b2, 0, none⟩) d.type.kids.length e2) := hx6.cell (by simp [go_sem, q5_0, q5_1, q5_2, q5_3, q5_4, q5_5, q5_6, q5_7, q5_8, q5_9, q5_10, q5_11, q5_12, q5_13, q5_14, q5_15])
  have q6_7 : w6.cell? ⟨w.heap.size, 7, none⟩ = some (.int .i64 d.body.kind) := hx6.cell (by simp [go_sem, q5_0, q5_1, q5_2, q5_3, q5_4, q5_5, q5_6, q5_7, q5_8, q5_9, q5_10, q5_11, q5_12, q5_13, q5_14, q5_15])
  have q6_8 : w6.cell? ⟨w.heap.size, 8, none⟩ = some (.int .i64 d.body.num) := hx6.cell (by simp [go_sem, q5_0, q5_1, q5_2, q5_3, q5_4, q5_5, q5_6, q5_7, q5_8, q5_9, q5_10, q5_11, q5_12, q5_13, q5_14, q5_15])
  have q6_9 : w6.cell? ⟨w.heap.size, 9, none⟩ = some (.int .i64 d.body.at_) := hx6.cell (by simp [go_sem, q5_0, q5_1, q5_2, q5_3, q5_4, q5_5, q5_6, q5_7, q5_8, q5_9, q5_10, q5_11, q5_12, q5_13, q5_14, q5_15])
  have q6_10 : w6.cell? ⟨w.heap.size, 10, none⟩ = some (.slice (some ⟨b3, 0, none⟩) d.body.levels.length e3) := hx6.cell (by simp [go_sem, q5_0, q5_1, q5_2, q5_3, q5_4, q5_5, q5_6, q5_7, q5_8, q5_9, q5_10, q5_11, q5_12, q5_13, q5_14, q5_15])
  have q6_11 : w6.cell? ⟨w.heap.size, 11, none⟩ = some (.slice (some ⟨b4, 0, none⟩) d.body.kids.length e4) := hx6.cell (by simp [go_sem, q5_0, q5_1, q5_2, q5_3, q5_4, q5_5, q5_6, q5_7, q5_8, q5_9, q5_10, q5_11, q5_12, q5_13, q5_14, q5_15])
  have q6_12 : w6.cell? ⟨w.heap.size, 12, none⟩ = some (.slice (some ⟨b5, 0, none⟩) d.params.length e5) := hx6.cell (by simp [go_sem, q5_0, q5_1, q5_2, q5_3, q5_4, q5_5, q5_6, q5_7, q5_8, q5_9, q5_10, q5_11, q5_12, q5_13, q5_14, q5_15])
  have q6_13 : w6.cell? ⟨w.heap.size, 13, none⟩ = some (.slice (some ⟨b6, 0, none⟩) d.sort.parts.length e6) := hx6.cell (by simp [go_sem, q5_0, q5_1, q5_2, q5_3, q5_4, q5_5, q5_6, q5_7, q5_8, q5_9, q5_10, q5_11, q5_12, q5_13, q5_14, q5_15])
  have q6_14 : w6.cell? ⟨w.heap.size, 14, none⟩ = some (.slice (some ⟨b7, 0, none⟩) d.members.length e7) := hx6.cell (by simp [go_sem, q5_0, q5_1, q5_2, q5_3, q5_4, q5_5, q5_6, q5_7, q5_8, q5_9, q5_10, q5_11, q5_12, q5_13, q5_14, q5_15])
  have q6_15 : w6.cell? ⟨w.heap.size, 15, none⟩ = some (.slice vc d.ctors.length cc) := hx6.cell (by simp [go_sem, q5_0, q5_1, q5_2, q5_3, q5_4, q5_5, q5_6, q5_7, q5_8, q5_9, q5_10, q5_11, q5_12, q5_13, q5_14, q5_15])
  clear q5_0 q5_1 q5_2 q5_3 q5_4 q5_5 q5_6 q5_7 q5_8 q5_9 q5_10 q5_11 q5_12 q5_13 q5_14 q5_15
  have z6 : ∀ j, w6.frozen? ⟨w.heap.size, j, none⟩ = false := fun j => (Below.frozen hx6 (by simp <;> omega)).trans (by simp [go_sem, Z5.out])
  have th6 : w6.there (w.heap.size + 1) 0 16 := there_ext hx6 (there_set (by omega) TH5.out)
  have hsz6 : w.heap.size + 1 < w6.heap.size := by have := hx6.size; simp at this; omega
  have zz15 := z6 15
  have HL6 := hid (hL6.sub monoC_lctor monoC_ctor (frm_le (m := w.heap.size + 2) (by simp <;> omega) _))
  have K6_6 := hid (Sub.rf (frm (w.heap.size + 2) w6))
  have K1_6 := hid (((K1_5.out).tr (frm_set (by omega))).tr (frm_ext _ hx6))
  have K2_6 := hid (((K2_5.out).tr (frm_set (by omega))).tr (frm_ext _ hx6))
  have K3_6 := hid (((K3_5.out).tr (frm_set (by omega))).tr (frm_ext _ hx6))
  have K4_6 := hid (((K4_5.out).tr (frm_set (by omega))).tr (frm_ext _ hx6))
  have K5_6 := hid (((K5_5.out).tr (frm_set (by omega))).tr (frm_ext _ hx6))
  clear K1_5 K2_5 K3_5 K4_5 K5_5
  have Hx6 := hid (show Ext w w6 from (Hx5.out.st (by simp) _).tr hx6)
  have Z6 := hid z6
  have TH6 := hid th6
  clear z6 th6 hx6 hL6 Hx5 Z5 TH5
  have hrange : (w6.setCell ⟨w.heap.size, 15, none⟩ (.slice (some ⟨b8, 0, none⟩) d.ctors.length e8)).rangeAt w.heap.size 0 [.int .i64 d.kind, .int .i64 d.levels, .int .i64 d.type.kind, .int .i64 d.type.num, .int .i64 d.type.at_, .slice (some ⟨b1, 0, none⟩) d.type.levels.length e1, .slice (some ⟨b2, 0, none⟩) d.type.kids.length e2, .int .i64 d.body.kind, .int .i64 d.body.num, .int .i64 d.body.at_, .slice (some ⟨b3, 0, none⟩) d.body.levels.length e3, .slice (some ⟨b4, 0, none⟩) d.body.kids.length e4, .slice (some ⟨b5, 0, none⟩) d.params.length e5, .slice (some ⟨b6, 0, none⟩) d.sort.parts.length e6, .slice (some ⟨b7, 0, none⟩) d.members.length e7, .slice (some ⟨b8, 0, none⟩) d.ctors.length e8] := fun j v hv => (cells16 (by simp [go_sem, q6_0, q6_15]) (by simp [go_sem, q6_1, q6_15]) (by simp [go_sem, q6_2, q6_15]) (by simp [go_sem, q6_3, q6_15]) (by simp [go_sem, q6_4, q6_15]) (by simp [go_sem, q6_5, q6_15]) (by simp [go_sem, q6_6, q6_15]) (by simp [go_sem, q6_7, q6_15]) (by simp [go_sem, q6_8, q6_15]) (by simp [go_sem, q6_9, q6_15]) (by simp [go_sem, q6_10, q6_15]) (by simp [go_sem, q6_11, q6_15]) (by simp [go_sem, q6_12, q6_15]) (by simp [go_sem, q6_13, q6_15]) (by simp [go_sem, q6_14, q6_15]) (by simp [go_sem, q6_15, q6_15])) j v hv
  have hth : (w6.setCell ⟨w.heap.size, 15, none⟩ (.slice (some ⟨b8, 0, none⟩) d.ctors.length e8)).there (w.heap.size + 1) 0 16 := there_set (by omega) TH6.out
  have hone : ∀ v ∈ ([.int .i64 d.kind, .int .i64 d.levels, .int .i64 d.type.kind, .int .i64 d.type.num, .int .i64 d.type.at_, .slice (some ⟨b1, 0, none⟩) d.type.levels.length e1, .slice (some ⟨b2, 0, none⟩) d.type.kids.length e2, .int .i64 d.body.kind, .int .i64 d.body.num, .int .i64 d.body.at_, .slice (some ⟨b3, 0, none⟩) d.body.levels.length e3, .slice (some ⟨b4, 0, none⟩) d.body.kids.length e4, .slice (some ⟨b5, 0, none⟩) d.params.length e5, .slice (some ⟨b6, 0, none⟩) d.sort.parts.length e6, .slice (some ⟨b7, 0, none⟩) d.members.length e7, .slice (some ⟨b8, 0, none⟩) d.ctors.length e8] : List Value), v.oneCell' = true := (by intro u hu; simp only [List.mem_cons, List.not_mem_nil, or_false] at hu; rcases hu with rfl | rfl | rfl | rfl | rfl | rfl | rfl | rfl | rfl | rfl | rfl | rfl | rfl | rfl | rfl | rfl <;> rfl)
  have Hone := hid hone
  clear hone
  go_wp2_with (first | ((with_reducible show wpList _ _ _ (⟨_, Op.load 42 _, _, _, _, _⟩ :: _) _ _); refine wpList_load_mid (by rfl) 42 _ (by rfl) w.heap.size 0 (by rfl) [.int .i64 d.kind, .int .i64 d.levels, .int .i64 d.type.kind, .int .i64 d.type.num, .int .i64 d.type.at_, .slice (some ⟨b1, 0, none⟩) d.type.levels.length e1, .slice (some ⟨b2, 0, none⟩) d.type.kids.length e2, .int .i64 d.body.kind, .int .i64 d.body.num, .int .i64 d.body.at_, .slice (some ⟨b3, 0, none⟩) d.body.levels.length e3, .slice (some ⟨b4, 0, none⟩) d.body.kids.length e4, .slice (some ⟨b5, 0, none⟩) d.params.length e5, .slice (some ⟨b6, 0, none⟩) d.sort.parts.length e6, .slice (some ⟨b7, 0, none⟩) d.members.length e7, .slice (some ⟨b8, 0, none⟩) d.ctors.length e8] _ (by exact hrange) hu (by rfl) hi42 ?_) | ((with_reducible show wpList _ _ _ (⟨_, Op.store 42 _ _, _, _, _, _⟩ :: _) _ _); refine wpList_store_mid (by rfl) 42 _ _ (by rfl) (w.heap.size + 1) 0 #[.int .i64 d.kind, .int .i64 d.levels, .int .i64 d.type.kind, .int .i64 d.type.num, .int .i64 d.type.at_, .slice (some ⟨b1, 0, none⟩) d.type.levels.length e1, .slice (some ⟨b2, 0, none⟩) d.type.kids.length e2, .int .i64 d.body.kind, .int .i64 d.body.num, .int .i64 d.body.at_, .slice (some ⟨b3, 0, none⟩) d.body.levels.length e3, .slice (some ⟨b4, 0, none⟩) d.body.kids.length e4, .slice (some ⟨b5, 0, none⟩) d.params.length e5, .slice (some ⟨b6, 0, none⟩) d.sort.parts.length e6, .slice (some ⟨b7, 0, none⟩) d.members.length e7, .slice (some ⟨b8, 0, none⟩) d.ctors.length e8] (by rfl) (by rfl) (by exact hth) hi42 (all_oneCell_toArray Hone.out) ?_))
  refine bodyPost_ret (v := .agg #[.int .i64 d.kind, .int .i64 d.levels, .int .i64 d.type.kind, .int .i64 d.type.num, .int .i64 d.type.at_, .slice (some ⟨b1, 0, none⟩) d.type.levels.length e1, .slice (some ⟨b2, 0, none⟩) d.type.kids.length e2, .int .i64 d.body.kind, .int .i64 d.body.num, .int .i64 d.body.at_, .slice (some ⟨b3, 0, none⟩) d.body.levels.length e3, .slice (some ⟨b4, 0, none⟩) d.body.kids.length e4, .slice (some ⟨b5, 0, none⟩) d.params.length e5, .slice (some ⟨b6, 0, none⟩) d.sort.parts.length e6, .slice (some ⟨b7, 0, none⟩) d.members.length e7, .slice (some ⟨b8, 0, none⟩) d.ctors.length e8]) (results_cell_mid (by rfl) _ _ (w.heap.size + 1) [.int .i64 d.kind, .int .i64 d.levels, .int .i64 d.type.kind, .int .i64 d.type.num, .int .i64 d.type.at_, .slice (some ⟨b1, 0, none⟩) d.type.levels.length e1, .slice (some ⟨b2, 0, none⟩) d.type.kids.length e2, .int .i64 d.body.kind, .int .i64 d.body.num, .int .i64 d.body.at_, .slice (some ⟨b3, 0, none⟩) d.body.levels.length e3, .slice (some ⟨b4, 0, none⟩) d.body.kids.length e4, .slice (some ⟨b5, 0, none⟩) d.params.length e5, .slice (some ⟨b6, 0, none⟩) d.sort.parts.length e6, .slice (some ⟨b7, 0, none⟩) d.members.length e7, .slice (some ⟨b8, 0, none⟩) d.ctors.length e8] _ (by rfl) (World.rangeAt_setCells_same _ _ _ _ hth) hu (by rfl) hi42) rfl ?_
  refine ⟨((Hx6.out.st (by simp) _)).sets (by omega) _ _, _, rfl, [_, _, _, _, _], [_, _, _, _, _], _, _, _, _, rfl, ⟨Hik.out, Hil.out⟩, monoC_lterm _ _ _ _ ?_ HL1.out, monoC_lterm _ _ _ _ ?_ HL2.out, HL3.out.sub monoC_lterm monoC_term ?_, ?_, HL5.out.sub monoC_lmember monoC_member ?_, HL6.out.sub monoC_lctor monoC_ctor ?_⟩
  · exact ((K1_6.out.tr (frm_set (by omega))).tr (frm_sets (by omega) _ _ _)).tr (frm_le (by omega) _)
  · exact ((K2_6.out.tr (frm_set (by omega))).tr (frm_sets (by omega) _ _ _)).tr (frm_le (by omega) _)
  · exact ((K3_6.out.tr (frm_set (by omega))).tr (frm_sets (by omega) _ _ _)).tr (frm_le (by omega) _)
  · obtain ⟨v, hv, hh⟩ := HL4.out
    cases hv
    exact hh.sub monoC_part monoC_part (((K4_6.out.tr (frm_set (by omega))).tr (frm_sets (by omega) _ _ _)).tr (frm_le (by omega) _))
  · exact ((K5_6.out.tr (frm_set (by omega))).tr (frm_sets (by omega) _ _ _)).tr (frm_le (by omega) _)
  · exact ((K6_6.out.tr (frm_set (by omega))).tr (frm_sets (by omega) _ _ _)).tr (frm_le (by omega) _)
set_option maxRecDepth 100000 in
set_option maxHeartbeats 8000000 in
theorem lentDecls_any (xs : List Decl) (v : Value) (w : World) (hs : Sl RDecl 16 256 w xs v) : Calls Tryz.prog 7 #[v] w (GivesS (LSl RLDecl RDecl mkDecl 16 256) xs w) := by
  obtain ⟨A, c, rfl, hc, hr⟩ := hs
  have hl := hr.len_le
  have hb := hid hr.1
  obtain ⟨i0, hi, hz0, hz1, hz2⟩ := info_parts info_decl
  have hi' := hid hi
  have hz0' := hid hz0
  have hz1' := hid hz1
  have hz2' := hid hz2
  have hbb : i0.bytes * (xs.length + 12) ≤ 281474976710656 := by rw [hz2]; have := hb.out; unfold LIM at this; omega
  have hbb' := hid hbb
  clear hi hz0 hz1 hz2 hbb
  go_enter Tryz.func7, Tryz.ntmps7
  go_wp2_with ((with_reducible show wpList _ _ _ (⟨_, Op.makeSlice _ _ _, _, _, _, _⟩ :: _) _ _); refine wpList_make_own _ (by rfl) _ _ 22 (by rfl) w.heap.size 42 i0 _ 16 Tryz.underlying22 hi'.out hz0'.out hz1'.out .i64 .i64 _ (xs.length + 12) (by rfl) (by rfl) (by omega) hbb'.out (by unfold maxLen; omega) (Nat.le_refl _) ?_; intro w1 hown hgrow)
  have hx1 : Ext w w1 := grown_ext (Ext.rf w) hgrow (fun k h => by cases h)
  have hz1 := hown.lt w.heap.size rfl
  have Hown := hid (own_empty (R := RL2 RLDecl RDecl) (n0 := w.heap.size) hown)
  clear hown hgrow
  go_loopw [3, 4] (fun o i wr => ∃ k : Nat, k ≤ xs.length ∧ i = .int .i64 k ∧ o = .slice (some ⟨w.heap.size, 0, none⟩) k (xs.length + 12) ∧ Ext w wr ∧ OwnS (RL2 RLDecl RDecl) 16 42 w.heap.size w.heap.size wr (filled mkDecl (xs.take k) 0) (.slice (some ⟨w.heap.size, 0, none⟩) k (xs.length + 12))) (fun _ i _ => xs.length - (intOf i).toNat)
  case atStart => exact ⟨0, by omega, rfl, rfl, hx1, Hown.out⟩
  case round =>
    obtain ⟨k, hk, rfl, rfl, hx, hown⟩ := hrel
    obtain ⟨wr, rfl⟩ := ext_name2 hx
    have hgl := (hown.lt w.heap.size rfl).2
    have Hown' := hid hown
    clear hown Hown
    by_cases hlt : k < xs.length
    · obtain ⟨b, o, cs, rfl, hR, hcs0⟩ := hr.at_ hlt
      have HR := hid (mono_decl _ _ _ _ hx hR)
      obtain ⟨XA1, Xc1, XA2, Xc2, XA3, Xc3, XA4, Xc4, Xcp, Xvp, XcS, XvS, Xcm, Xvm, Xcc, Xvc, rfl, -⟩ := rdecl_open hR
      have hcs := hcs0.ext hx
      have h0 := hcs.pick 0 rfl
      have h1 := hcs.pick 1 rfl
      have h2 := hcs.pick 2 rfl
      have h3 := hcs.pick 3 rfl
      have h4 := hcs.pick 4 rfl
      have h5 := hcs.pick 5 rfl
      have h6 := hcs.pick 6 rfl
      have h7 := hcs.pick 7 rfl
      have h8 := hcs.pick 8 rfl
      have h9 := hcs.pick 9 rfl
      have h10 := hcs.pick 10 rfl
      have h11 := hcs.pick 11 rfl
      have h12 := hcs.pick 12 rfl
      have h13 := hcs.pick 13 rfl
      have h14 := hcs.pick 14 rfl
      have h15 := hcs.pick 15 rfl
      rw [Nat.add_zero] at h0
      have hj2 : (k : Int) < (xs.length : Int) := by omega
      clear hcs hcs0 hR
      go_wp2_with fail
      refine (lentDecl_any xs[k] _ _ HR.out).mono ?_
      rintro e w2 ⟨hx2, cs', rfl, hL⟩
      have HL := hid hL
      obtain ⟨b1, e1, b2, e2, b3, e3, b4, e4, b5, e5, b6, e6, b7, e7, b8, e8, rfl⟩ := rldecl_open hL
      clear hL h0 h1 h2 h3 h4 h5 h6 h7 h8 h9 h10 h11 h12 h13 h14 h15
      have hkl : k = (filled mkDecl (xs.take k) 0).length := by rw [filled_len]; simp; omega
      have Hkl := hid hkl
      clear hkl
      go_wp2_with (at_builtin; refine wpList_append_room (monoC_rl2 monoC_ldecl monoC_decl) (by rfl) _ _ 22 (by rfl) 42 i0 Tryz.underlying22 hi'.out hz1'.out w.heap.size k (xs.length + 12) (by rfl) (by exact Hown'.out.ext (monoC_rl2 monoC_ldecl monoC_decl) ((hx2.al _).al _)) Hkl.out (by omega) (w2.heap.size + 1) 1 (.inl xs[k]) [.int .i64 xs[k].kind, .int .i64 xs[k].levels, .int .i64 xs[k].type.kind, .int .i64 xs[k].type.num, .int .i64 xs[k].type.at_, .slice (some ⟨b1, 0, none⟩) xs[k].type.levels.length e1, .slice (some ⟨b2, 0, none⟩) xs[k].type.kids.length e2, .int .i64 xs[k].body.kind, .int .i64 xs[k].body.num, .int .i64 xs[k].body.at_, .slice (some ⟨b3, 0, none⟩) xs[k].body.levels.length e3, .slice (some ⟨b4, 0, none⟩) xs[k].body.kids.length e4, .slice (some ⟨b5, 0, none⟩) xs[k].params.length e5, .slice (some ⟨b6, 0, none⟩) xs[k].sort.parts.length e6, .slice (some ⟨b7, 0, none⟩) xs[k].members.length e7, .slice (some ⟨b8, 0, none⟩) xs[k].ctors.length e8] wr.heap.size (by rfl) (by exact cells16 (by simp [go_sem]) (by simp [go_sem]) (by simp [go_sem]) (by simp [go_sem]) (by simp [go_sem]) (by simp [go_sem]) (by simp [go_sem]) (by simp [go_sem]) (by simp [go_sem]) (by simp [go_sem]) (by simp [go_sem]) (by simp [go_sem]) (by simp [go_sem]) (by simp [go_sem]) (by simp [go_sem]) (by simp [go_sem])) rfl (by intro u hu; simp only [List.mem_cons, List.not_mem_nil, or_false] at hu; rcases hu with rfl | rfl | rfl | rfl | rfl | rfl | rfl | rfl | rfl | rfl | rfl | rfl | rfl | rfl | rfl | rfl <;> rfl) (by exact monoC_ldecl _ _ _ _ (frm_ext _ (((Ext.rf _).al _).al _)) HL.out) (by exact hx.size) hgl ?_; intro w3 hown3 hg3)
      rw [filled_take _ _ _ hlt] at hown3
      have hx3 : Ext w w3 := grown_ext (((hx.tr hx2).al _).al _) hg3 (fun k h => by cases h; exact Nat.le_refl _)
      have Hown3 := hid hown3
      clear hown3 hg3
      go_wp2_with fail
      exact ⟨⟨k + 1, by omega, by go_num, rfl, hx3, Hown3.out⟩, by simp only [intOf]; omega⟩
    · obtain rfl : k = xs.length := by omega
      rw [List.take_length] at Hown'
      go_wp2_with fail
      go_loopw [3, 6] (fun o i wv => ∃ k : Nat, k ≤ 12 ∧ i = .int .i64 k ∧ o = .slice (some ⟨w.heap.size, 0, none⟩) (xs.length + k) (xs.length + 12) ∧ Ext w wv ∧ OwnS (RL2 RLDecl RDecl) 16 42 w.heap.size w.heap.size wv (filled mkDecl xs k) (.slice (some ⟨w.heap.size, 0, none⟩) (xs.length + k) (xs.length + 12))) (fun _ i _ => 12 - (intOf i).toNat)
      case atStart => exact ⟨0, by omega, rfl, rfl, hx, Hown'.out⟩
      case round =>
        obtain ⟨k, hk, rfl, rfl, hxv, hown⟩ := hrel
        obtain ⟨wv, rfl⟩ := ext_name2 hxv
        have hgv := (hown.lt w.heap.size rfl).2
        have Hv := hid hown
        clear hown Hown'
        by_cases hlt : k < 12
        · go_wp2_with fail
          refine (markDecl_any k _ (by omega)).mono ?_
          rintro e w2 ⟨hx2, cs', rfl, hL⟩
          have HL := hid hL
          obtain ⟨YA1, Yc1, YA2, Yc2, YA3, Yc3, YA4, Yc4, Ycp, Yvp, YcS, YvS, Ycm, Yvm, Ycc, Yvc, rfl, -⟩ := rdecl_open hL
          clear hL
          have hkl : xs.length + k = (filled mkDecl xs k).length := by rw [filled_len]
          have Hkl := hid hkl
          clear hkl
          go_wp2_with (at_builtin; refine wpList_append_room (monoC_rl2 monoC_ldecl monoC_decl) (by rfl) _ _ 22 (by rfl) 42 i0 Tryz.underlying22 hi'.out hz1'.out w.heap.size (xs.length + k) (xs.length + 12) (by rfl) (by exact Hv.out.ext (monoC_rl2 monoC_ldecl monoC_decl) (hx2.al _)) Hkl.out (by omega) w2.heap.size 1 (.inr (mkDecl k)) [.int .i64 (mkDecl k).kind, .int .i64 (mkDecl k).levels, .int .i64 (mkDecl k).type.kind, .int .i64 (mkDecl k).type.num, .int .i64 (mkDecl k).type.at_, .slice YA1 (mkDecl k).type.levels.length Yc1, .slice YA2 (mkDecl k).type.kids.length Yc2, .int .i64 (mkDecl k).body.kind, .int .i64 (mkDecl k).body.num, .int .i64 (mkDecl k).body.at_, .slice YA3 (mkDecl k).body.levels.length Yc3, .slice YA4 (mkDecl k).body.kids.length Yc4, .slice Yvp (mkDecl k).params.length Ycp, .slice YvS (mkDecl k).sort.parts.length YcS, .slice Yvm (mkDecl k).members.length Ycm, .slice Yvc (mkDecl k).ctors.length Ycc] wv.heap.size (by rfl) (by exact cells16 (by simp [go_sem]) (by simp [go_sem]) (by simp [go_sem]) (by simp [go_sem]) (by simp [go_sem]) (by simp [go_sem]) (by simp [go_sem]) (by simp [go_sem]) (by simp [go_sem]) (by simp [go_sem]) (by simp [go_sem]) (by simp [go_sem]) (by simp [go_sem]) (by simp [go_sem]) (by simp [go_sem]) (by simp [go_sem])) rfl (by intro u hu; simp only [List.mem_cons, List.not_mem_nil, or_false] at hu; rcases hu with rfl | rfl | rfl | rfl | rfl | rfl | rfl | rfl | rfl | rfl | rfl | rfl | rfl | rfl | rfl | rfl <;> rfl) (by exact monoC_decl _ _ _ _ (frm_ext _ ((Ext.rf _).al _)) HL.out) (by exact hxv.size) hgv ?_; intro w3 hown3 hg3)
          rw [filled_snoc] at hown3
          have hx3 : Ext w w3 := grown_ext ((hxv.tr hx2).al _) hg3 (fun k h => by cases h; exact Nat.le_refl _)
          have Hown3 := hid hown3
          clear hown3 hg3
          go_wp2_with fail
          exact ⟨⟨k + 1, by omega, by go_num, rfl, hx3, Hown3.out⟩, by simp only [intOf]; omega⟩
        · obtain rfl : k = 12 := by omega
          go_wp2_with fail
          go_ret
          exact ⟨hxv, _, rfl, Hv.out.lent monoC_ldecl monoC_decl hb.out (Nat.le_refl _)⟩
end Go.Proofs.YtjaklnabidbmiaaGreatDoor

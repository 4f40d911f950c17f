/- Walk: spandrellaw11.SourceTells: it answers true, and nothing that was there turns. Printed by gen_tells.py. -/
import Derived.Test.YtjaklnabidbmiaaGreatDoorKept2
import Derived.Test.YtjaklnabidbmiaaGreatDoorSizes
import Derived.Test.YtjaklnabidbmiaaGreatDoorAwake
import Derived.Test.YtjaklnabidbmiaaGreatDoorRefDecl
import Derived.Test.YtjaklnabidbmiaaGreatDoorPair
namespace Go.Proofs.YtjaklnabidbmiaaGreatDoor
open Go.RowKit
set_option linter.unusedSimpArgs false
set_option linter.unusedVariables false

theorem told_pB {P : Prop} {w : World} {e : Ending} {w' : World} (h : Ext w w' ∧ ((P ∧ e = .returned (.bool true)) ∨ (¬ P ∧ e = .returned (.bool false)))) : e = .returned (.bool (pB P)) ∧ Ext w w' := tells_b h
set_option maxRecDepth 100000 in
set_option maxHeartbeats 4000000 in
theorem sourceTells_any (ds : List Decl) (n scope self : Int) (t : Term) (vd : Value) (cs : List Value) (w : World) (hK : KindsIn w) (hd : SlDecl w ds vd) (hR : RTerm w t cs) :
    Calls Tryz.prog 3 #[vd, .int .i64 n, .int .i64 scope, .int .i64 self, .agg cs.toArray] w fun e w' => e = .returned (.bool true) ∧ Ext w w' := by
  have Hd := hid hd
  have HR := hid hR
  obtain ⟨A, c, rfl, -⟩ := hd
  obtain ⟨vl, vk, rfl, -, ⟨A1, c1, rfl, -⟩, ⟨A2, c2, rfl, -⟩⟩ := rterm_open hR
  clear hR
  go_enter Tryz.func3, Tryz.ntmps3
  go_wp2_with fail
  have hx0 : Ext w (w.alloc (.cells #[.int .i64 t.kind, .int .i64 t.num, .int .i64 t.at_, .slice A1 t.levels.length c1, .slice A2 t.kids.length c2] 27)) := (Ext.rf _).al _
  have hx0' : Ext w ((w.alloc (.cells #[.int .i64 t.kind, .int .i64 t.num, .int .i64 t.at_, .slice A1 t.levels.length c1, .slice A2 t.kids.length c2] 27)).alloc (.cells #[.int .i64 t.kind, .int .i64 t.num, .int .i64 t.at_, .slice A1 t.levels.length c1, .slice A2 t.kids.length c2] 27)) := ((Ext.rf _).al _).al _
  have HX0 := hid hx0'
  clear hx0 hx0'
  refine (great_any ds [t] _ _ _ (Hd.out.ext mono_decl HX0.out) (sl_one (by decide) (cs := [.int .i64 t.kind, .int .i64 t.num, .int .i64 t.at_, .slice A1 t.levels.length c1, .slice A2 t.kids.length c2]) (mono_term _ _ _ _ HX0.out HR.out) (cells5o (by simp [go_sem]) (by simp [go_sem]) (by simp [go_sem]) (by simp [go_sem]) (by simp [go_sem])))).mono ?_
  rintro e w1 ⟨hx1, b, rfl⟩
  have q0 : w1.cell? ⟨w.heap.size, 0, none⟩ = some (.int .i64 t.kind) := hx1.cell (by simp [go_sem])
  have q1 : w1.cell? ⟨w.heap.size, 1, none⟩ = some (.int .i64 t.num) := hx1.cell (by simp [go_sem])
  have q2 : w1.cell? ⟨w.heap.size, 2, none⟩ = some (.int .i64 t.at_) := hx1.cell (by simp [go_sem])
  have q3 : w1.cell? ⟨w.heap.size, 3, none⟩ = some (.slice A1 t.levels.length c1) := hx1.cell (by simp [go_sem])
  have q4 : w1.cell? ⟨w.heap.size, 4, none⟩ = some (.slice A2 t.kids.length c2) := hx1.cell (by simp [go_sem])
  have HX1 := hid (HX0.out.tr hx1)
  clear hx1
  cases b
  rotate_left
  · go_wp2_with fail
    refine (awake_any _ (hK.ext HX1.out)).mono ?_
    rintro e w2 ⟨rfl, hx2⟩
    go_wp2_with fail
    go_ret
    exact ⟨rfl, HX1.out.tr hx2⟩
  have hcell : cellsAt w1 w.heap.size 0 [.int .i64 t.kind, .int .i64 t.num, .int .i64 t.at_, .slice A1 t.levels.length c1, .slice A2 t.kids.length c2] := cells5o q0 q1 q2 q3 q4
  have HC := hid hcell
  clear hcell
  have hu := Tryz.underlying27
  have hi5 : (Tryz.prog.info? 27).map (·.size) = some 5 := by kernel_rfl
  go_upto_region 3 with fail
  refine wp_pair (fun W v => ∃ b c, v = .slice (some ⟨b, 0, none⟩) ds.length c ∧ LSlDecl W ds v) (fun W ys => RLTerm W t ys) (fun W W' v h ⟨b, c, e, hl⟩ => ⟨b, c, e, hl.sub monoC_ldecl monoC_decl h⟩) (fun W W' v h hl => monoC_lterm _ _ _ _ h hl)
    18 19 20 21 12 11 5 (.slice A ds.length c) [.int .i64 t.kind, .int .i64 t.num, .int .i64 t.at_, .slice A1 t.levels.length c1, .slice A2 t.kids.length c2] (by kernel_rfl) (by kernel_rfl) ⟨rfl, rfl, rfl, rfl, rfl, rfl, rfl⟩ ⟨rfl, rfl, rfl, rfl, rfl, rfl, rfl⟩ (by decide) (by refine ⟨?_, ?_, ?_, ?_, ?_, ?_⟩ <;> exact of_decide_eq_true (by kernel_rfl)) ?_ ?_ ?_ ?_ ?_ ?_ ?_ ?_ ?_ ?_ ?_ ?_
  · exact after_ex (by kernel_rfl)
  · exact after_ex (by kernel_rfl)
  · exact after_ex (by kernel_rfl)
  · exact after_six (by kernel_rfl)
  · intro a W K hr hK
    have t0 : a.tmps.getD 0 undef = .slice A ds.length c := (hr 0 (by decide) (by decide) (by decide) (by decide) (by decide) (by decide))
    have u0 := t0
    rw [Array.getD_eq_getD_getElem?] at u0
    simp [Oper.wp, Oper.upon, execOp, Act.eval, go_sem, t0, u0]
    exact hK
  · intro a W K hx t18 hK
    have u18 := t18
    rw [Array.getD_eq_getD_getElem?] at u18
    simp [Oper.wp, Oper.upon, execOp, Act.eval, go_sem, t18, u18]
    refine (lentDecls_any ds _ _ (Hd.out.ext mono_decl (HX1.out.tr hx))).mono ?_
    rintro e wa ⟨hb, v, rfl, hL⟩
    obtain ⟨b3, c3, rfl, _⟩ := id hL
    exact hK _ _ hb ⟨_, _, rfl, hL⟩
  · intro a W K hx hr hK
    have t9 : a.tmps.getD 9 undef = .pointer (some ⟨w.heap.size, 0, none⟩) := (hr 9 (by decide) (by decide) (by decide) (by decide) (by decide) (by decide))
    have u9 := t9
    rw [Array.getD_eq_getD_getElem?] at u9
    exact wp_load_mid 27 (.tmp 9) rfl w.heap.size 0 t9 [.int .i64 t.kind, .int .i64 t.num, .int .i64 t.at_, .slice A1 t.levels.length c1, .slice A2 t.kids.length c2] _ (HC.out.ext hx) hu rfl hi5 hK
  · intro a W K hx t20 hK
    have u20 := t20
    rw [Array.getD_eq_getD_getElem?] at u20
    simp [Oper.wp, Oper.upon, execOp, Act.eval, go_sem, t20, u20]
    refine (lentTerm_any t _ _ (mono_term _ _ _ _ (HX1.out.tr hx) HR.out)).mono ?_
    rintro e wb ⟨hb, cs', rfl, hL⟩
    obtain ⟨b4, c4, b5, c5, rfl⟩ := rlterm_open hL
    exact hK _ _ hb ⟨rfl, by simp [Value.oneCell']⟩ hL
  · intro a W K hK
    simp [Oper.wp, Oper.upon, execOp, Act.eval, go_sem]
    exact hK _ ((Ext.rf _).al _) (by simp) (there_fresh W 27 #[.int .i64 0, .int .i64 0, .int .i64 0, .slice none 0 0, .slice none 0 0] 5 (by decide))
  · intro a W K v t19 hK
    have u19 := t19
    rw [Array.getD_eq_getD_getElem?] at u19
    simp [Oper.wp, Oper.upon, execOp, Act.eval, go_sem, t19, u19]
    exact hK
  · intro a W K g ys t12 t21 hth hln hone hK
    exact wp_store_mid 27 (.tmp 12) (.tmp 21) rfl g 0 ys.toArray t12 t21 (by rw [List.size_toArray, hln]; exact hth) (by rw [List.size_toArray, hln]; exact hi5) (all_oneCell_toArray hone) hK
  · rintro ⟨T0, D0⟩ w3 g v ys hx3 hdf hsz hge h11 ⟨b3, e3, rfl, hld⟩ h12 hln hcs hlt hrest
    obtain ⟨b1, e1, b2, e2, rfl⟩ := rlterm_open hlt
    have HLD := hid (hld.sub monoC_ldecl monoC_decl (only_sub _ _))
    have HLT := hid (monoC_lterm _ _ _ _ (only_sub _ _) hlt)
    have HG := hid hcs
    have HC3 := hid (HC.out.ext hx3)
    have HX3 := hid (HX1.out.tr hx3)
    have hK0 := hK
    clear hld hlt hcs hx3
    obtain ⟨f, hf, hT⟩ := frame_slots T0 48 hsz
    have f11 := (hf 11).symm.trans h11
    have f12 := (hf 12).symm.trans h12
    have f0 : f 0 = .slice A ds.length c := (hf 0).symm.trans (hrest 0 (by decide) (by decide) (by decide) (by decide) (by decide) (by decide))
    have f1 : f 1 = .int .i64 n := (hf 1).symm.trans (hrest 1 (by decide) (by decide) (by decide) (by decide) (by decide) (by decide))
    have f2 : f 2 = .int .i64 scope := (hf 2).symm.trans (hrest 2 (by decide) (by decide) (by decide) (by decide) (by decide) (by decide))
    have f3 : f 3 = .int .i64 self := (hf 3).symm.trans (hrest 3 (by decide) (by decide) (by decide) (by decide) (by decide) (by decide))
    have f9 : f 9 = .pointer (some ⟨w.heap.size, 0, none⟩) := (hf 9).symm.trans (hrest 9 (by decide) (by decide) (by decide) (by decide) (by decide) (by decide))
    have f10 : f 10 = .bool false := (hf 10).symm.trans (hrest 10 (by decide) (by decide) (by decide) (by decide) (by decide) (by decide))
    have hD : D0 = [] := hdf
    clear hf hrest hsz hdf h11 h12 hln
    subst hT hD
    simp only [slots, Nat.reduceAdd, f11, f12, f0, f1, f2, f3, f9, f10]
    go_upto_region 4 with fail
    refine wp_region_steps (fun s W v => match s with | 22 => v = .slice (some ⟨b3, 0, none⟩) ds.length e3 | 23 => v = .int .i64 n | 24 => v = .int .i64 scope | 25 => v = .int .i64 self | 26 => v = .agg #[.int .i64 t.kind, .int .i64 t.num, .int .i64 t.at_, .slice (some ⟨b1, 0, none⟩) t.levels.length e1, .slice (some ⟨b2, 0, none⟩) t.kids.length e2] | 27 => v = .bool (pB (RightP ds n scope self t)) | 28 => v = .slice A ds.length c | 29 => v = .int .i64 n | 30 => v = .int .i64 scope | 31 => v = .int .i64 self | 32 => v = .agg #[.int .i64 t.kind, .int .i64 t.num, .int .i64 t.at_, .slice A1 t.levels.length c1, .slice A2 t.kids.length c2] | 33 => v = .bool (pB (RightP ds n scope self t)) | 34 => v = .bool true | 35 => v = .bool true | 36 => v = .slice (some ⟨b3, 0, none⟩) ds.length e3 | 37 => v = .slice A ds.length c | 38 => v = .bool true | 39 => v = .bool true | 40 => v = .bool true | 41 => v = .agg #[.int .i64 t.kind, .int .i64 t.num, .int .i64 t.at_, .slice (some ⟨b1, 0, none⟩) t.levels.length e1, .slice (some ⟨b2, 0, none⟩) t.kids.length e2] | 42 => v = .agg #[.int .i64 t.kind, .int .i64 t.num, .int .i64 t.at_, .slice A1 t.levels.length c1, .slice A2 t.kids.length c2] | 43 => v = .bool true | 44 => v = .bool true | 45 => v = .bool true | 46 => v = .bool true | 47 => v = .bool true | 10 => v = .bool true | _ => True) (by kernel_rfl) (by kernel_rfl) (of_decide_eq_true (by kernel_rfl)) (by kernel_rfl) (fun s W W' v _ h => h) ?_ ?_
    · refine ⟨?_, ?_, ?_, ?_, ?_, ?_, ?_, ?_, ?_, ?_, ?_, ?_, ?_, ?_, ?_, ?_, ?_, ?_, ?_, ?_, ?_, ?_, ?_, ?_, ?_, ?_, ?_, trivial⟩
      · intro a W hx hdf hsz hg hi K hK
        refine step_free rfl ?_
        have t11 : a.tmps.getD 11 undef = .slice (some ⟨b3, 0, none⟩) ds.length e3 := hi 11 (by kernel_rfl)
        have u11 := t11
        rw [Array.getD_eq_getD_getElem?] at u11
        simp [Oper.wp, Oper.upon, execOp, Act.eval, go_sem, t11, u11]
        exact hK _ _ (Ext.rf _) (fun d' h => by cases h; exact rfl)
      · intro a W hx hdf hsz hg hi K hK
        refine step_free rfl ?_
        have t1 : a.tmps.getD 1 undef = .int .i64 n := hi 1 (by kernel_rfl)
        have u1 := t1
        rw [Array.getD_eq_getD_getElem?] at u1
        simp [Oper.wp, Oper.upon, execOp, Act.eval, go_sem, t1, u1]
        exact hK _ _ (Ext.rf _) (fun d' h => by cases h; exact rfl)
      · intro a W hx hdf hsz hg hi K hK
        refine step_free rfl ?_
        have t2 : a.tmps.getD 2 undef = .int .i64 scope := hi 2 (by kernel_rfl)
        have u2 := t2
        rw [Array.getD_eq_getD_getElem?] at u2
        simp [Oper.wp, Oper.upon, execOp, Act.eval, go_sem, t2, u2]
        exact hK _ _ (Ext.rf _) (fun d' h => by cases h; exact rfl)
      · intro a W hx hdf hsz hg hi K hK
        refine step_free rfl ?_
        have t3 : a.tmps.getD 3 undef = .int .i64 self := hi 3 (by kernel_rfl)
        have u3 := t3
        rw [Array.getD_eq_getD_getElem?] at u3
        simp [Oper.wp, Oper.upon, execOp, Act.eval, go_sem, t3, u3]
        exact hK _ _ (Ext.rf _) (fun d' h => by cases h; exact rfl)
      · intro a W hx hdf hsz hg hi K hK
        refine step_free rfl ?_
        have t12 : a.tmps.getD 12 undef = .pointer (some ⟨g, 0, none⟩) := hi 12 (by kernel_rfl)
        have u12 := t12
        rw [Array.getD_eq_getD_getElem?] at u12
        refine wp_load_mid 27 (.tmp 12) rfl g 0 t12 [.int .i64 t.kind, .int .i64 t.num, .int .i64 t.at_, .slice (some ⟨b1, 0, none⟩) t.levels.length e1, .slice (some ⟨b2, 0, none⟩) t.kids.length e2] _ (HG.out.ext hx) hu rfl hi5 ?_
        exact hK _ _ (Ext.rf _) (fun d' h => by cases h; exact rfl)
      · intro a W hx hdf hsz hg hi K hK
        refine step_free rfl ?_
        have t22 : a.tmps.getD 22 undef = .slice (some ⟨b3, 0, none⟩) ds.length e3 := hg 22 (by kernel_rfl)
        have t23 : a.tmps.getD 23 undef = .int .i64 n := hg 23 (by kernel_rfl)
        have t24 : a.tmps.getD 24 undef = .int .i64 scope := hg 24 (by kernel_rfl)
        have t25 : a.tmps.getD 25 undef = .int .i64 self := hg 25 (by kernel_rfl)
        have t26 : a.tmps.getD 26 undef = .agg #[.int .i64 t.kind, .int .i64 t.num, .int .i64 t.at_, .slice (some ⟨b1, 0, none⟩) t.levels.length e1, .slice (some ⟨b2, 0, none⟩) t.kids.length e2] := hg 26 (by kernel_rfl)
        have u22 := t22
        rw [Array.getD_eq_getD_getElem?] at u22
        have u23 := t23
        rw [Array.getD_eq_getD_getElem?] at u23
        have u24 := t24
        rw [Array.getD_eq_getD_getElem?] at u24
        have u25 := t25
        rw [Array.getD_eq_getD_getElem?] at u25
        have u26 := t26
        rw [Array.getD_eq_getD_getElem?] at u26
        simp [Oper.wp, Oper.upon, execOp, Act.eval, go_sem, t22, u22, t23, u23, t24, u24, t25, u25, t26, u26]
        refine (srcRight_any ds n scope self _ t _ _ (hK0.ext (HX3.out.tr hx)) (lsl_decls (HLD.out.sub monoC_ldecl monoC_decl hx.sub)) (rl_term t (monoC_lterm _ _ _ _ hx.sub HLT.out))).mono ?_
        intro e w' h
        obtain ⟨rfl, hb⟩ := told_pB h
        exact hK _ _ hb (fun d' h => by cases h; exact rfl)
      · intro a W hx hdf hsz hg hi K hK
        refine step_free rfl ?_
        have t0 : a.tmps.getD 0 undef = .slice A ds.length c := hi 0 (by kernel_rfl)
        have u0 := t0
        rw [Array.getD_eq_getD_getElem?] at u0
        simp [Oper.wp, Oper.upon, execOp, Act.eval, go_sem, t0, u0]
        exact hK _ _ (Ext.rf _) (fun d' h => by cases h; exact rfl)
      · intro a W hx hdf hsz hg hi K hK
        refine step_free rfl ?_
        have t1 : a.tmps.getD 1 undef = .int .i64 n := hi 1 (by kernel_rfl)
        have u1 := t1
        rw [Array.getD_eq_getD_getElem?] at u1
        simp [Oper.wp, Oper.upon, execOp, Act.eval, go_sem, t1, u1]
        exact hK _ _ (Ext.rf _) (fun d' h => by cases h; exact rfl)
      · intro a W hx hdf hsz hg hi K hK
        refine step_free rfl ?_
        have t2 : a.tmps.getD 2 undef = .int .i64 scope := hi 2 (by kernel_rfl)
        have u2 := t2
        rw [Array.getD_eq_getD_getElem?] at u2
        simp [Oper.wp, Oper.upon, execOp, Act.eval, go_sem, t2, u2]
        exact hK _ _ (Ext.rf _) (fun d' h => by cases h; exact rfl)
      · intro a W hx hdf hsz hg hi K hK
        refine step_free rfl ?_
        have t3 : a.tmps.getD 3 undef = .int .i64 self := hi 3 (by kernel_rfl)
        have u3 := t3
        rw [Array.getD_eq_getD_getElem?] at u3
        simp [Oper.wp, Oper.upon, execOp, Act.eval, go_sem, t3, u3]
        exact hK _ _ (Ext.rf _) (fun d' h => by cases h; exact rfl)
      · intro a W hx hdf hsz hg hi K hK
        refine step_free rfl ?_
        have t9 : a.tmps.getD 9 undef = .pointer (some ⟨w.heap.size, 0, none⟩) := hi 9 (by kernel_rfl)
        have u9 := t9
        rw [Array.getD_eq_getD_getElem?] at u9
        refine wp_load_mid 27 (.tmp 9) rfl w.heap.size 0 t9 [.int .i64 t.kind, .int .i64 t.num, .int .i64 t.at_, .slice A1 t.levels.length c1, .slice A2 t.kids.length c2] _ (HC3.out.ext hx) hu rfl hi5 ?_
        exact hK _ _ (Ext.rf _) (fun d' h => by cases h; exact rfl)
      · intro a W hx hdf hsz hg hi K hK
        refine step_free rfl ?_
        have t28 : a.tmps.getD 28 undef = .slice A ds.length c := hg 28 (by kernel_rfl)
        have t29 : a.tmps.getD 29 undef = .int .i64 n := hg 29 (by kernel_rfl)
        have t30 : a.tmps.getD 30 undef = .int .i64 scope := hg 30 (by kernel_rfl)
        have t31 : a.tmps.getD 31 undef = .int .i64 self := hg 31 (by kernel_rfl)
        have t32 : a.tmps.getD 32 undef = .agg #[.int .i64 t.kind, .int .i64 t.num, .int .i64 t.at_, .slice A1 t.levels.length c1, .slice A2 t.kids.length c2] := hg 32 (by kernel_rfl)
        have u28 := t28
        rw [Array.getD_eq_getD_getElem?] at u28
        have u29 := t29
        rw [Array.getD_eq_getD_getElem?] at u29
        have u30 := t30
        rw [Array.getD_eq_getD_getElem?] at u30
        have u31 := t31
        rw [Array.getD_eq_getD_getElem?] at u31
        have u32 := t32
        rw [Array.getD_eq_getD_getElem?] at u32
        simp [Oper.wp, Oper.upon, execOp, Act.eval, go_sem, t28, u28, t29, u29, t30, u30, t31, u31, t32, u32]
        refine (refElRight_any ds n scope self _ t _ _ (Hd.out.ext mono_decl (HX3.out.tr hx)) (mono_term _ _ _ _ (HX3.out.tr hx) HR.out)).mono ?_
        intro e w' h
        obtain ⟨rfl, hb⟩ := tells_b h
        exact hK _ _ hb (fun d' h => by cases h; exact rfl)
      · intro a W hx hdf hsz hg hi K hK
        refine step_free rfl ?_
        have t27 : a.tmps.getD 27 undef = .bool (pB (RightP ds n scope self t)) := hg 27 (by kernel_rfl)
        have t33 : a.tmps.getD 33 undef = .bool (pB (RightP ds n scope self t)) := hg 33 (by kernel_rfl)
        have u27 := t27
        rw [Array.getD_eq_getD_getElem?] at u27
        have u33 := t33
        rw [Array.getD_eq_getD_getElem?] at u33
        simp [Oper.wp, Oper.upon, execOp, Act.eval, go_sem, t27, u27, t33, u33]
        exact hK _ _ (Ext.rf _) (fun d' h => by cases h; exact rfl)
      · intro a W hx hdf hsz hg hi K hK
        refine step_free rfl ?_
        have t34 : a.tmps.getD 34 undef = .bool true := hg 34 (by kernel_rfl)
        have u34 := t34
        rw [Array.getD_eq_getD_getElem?] at u34
        simp [Oper.wp, Oper.upon, execOp, Act.eval, go_sem, t34, u34]
        exact hK _ _ (Ext.rf _) (fun d' h => by cases h; exact rfl)
      · intro a W hx hdf hsz hg hi K hK
        have G35 : a.tmps.getD 35 undef = .bool true := hg 35 (by kernel_rfl)
        refine step_guard rfl rfl (by have hz : a.tmps.size = 48 := hsz; omega) G35 (fun _ => ?_) (fun h => absurd rfl h)
        have t11 : a.tmps.getD 11 undef = .slice (some ⟨b3, 0, none⟩) ds.length e3 := hi 11 (by kernel_rfl)
        have u11 := t11
        rw [Array.getD_eq_getD_getElem?] at u11
        simp [Oper.wp, Oper.upon, execOp, Act.eval, go_sem, t11, u11]
        exact hK _ _ (Ext.rf _) (fun d' h => by cases h; exact rfl)
      · intro a W hx hdf hsz hg hi K hK
        have G35 : a.tmps.getD 35 undef = .bool true := hg 35 (by kernel_rfl)
        refine step_guard rfl rfl (by have hz : a.tmps.size = 48 := hsz; omega) G35 (fun _ => ?_) (fun h => absurd rfl h)
        have t0 : a.tmps.getD 0 undef = .slice A ds.length c := hi 0 (by kernel_rfl)
        have u0 := t0
        rw [Array.getD_eq_getD_getElem?] at u0
        simp [Oper.wp, Oper.upon, execOp, Act.eval, go_sem, t0, u0]
        exact hK _ _ (Ext.rf _) (fun d' h => by cases h; exact rfl)
      · intro a W hx hdf hsz hg hi K hK
        have G35 : a.tmps.getD 35 undef = .bool true := hg 35 (by kernel_rfl)
        refine step_guard rfl rfl (by have hz : a.tmps.size = 48 := hsz; omega) G35 (fun _ => ?_) (fun h => absurd rfl h)
        have t36 : a.tmps.getD 36 undef = .slice (some ⟨b3, 0, none⟩) ds.length e3 := hg 36 (by kernel_rfl)
        have t37 : a.tmps.getD 37 undef = .slice A ds.length c := hg 37 (by kernel_rfl)
        have u36 := t36
        rw [Array.getD_eq_getD_getElem?] at u36
        have u37 := t37
        rw [Array.getD_eq_getD_getElem?] at u37
        simp [Oper.wp, Oper.upon, execOp, Act.eval, go_sem, t36, u36, t37, u37]
        refine (keptDecls_any ds _ _ _ (HLD.out.sub monoC_ldecl monoC_decl hx.sub) (Hd.out.ext mono_decl (HX3.out.tr hx))).mono ?_
        rintro e w' ⟨rfl, hb⟩
        exact hK _ _ hb (fun d' h => by cases h; exact rfl)
      · intro a W hx hdf hsz hg hi K hK
        refine step_free rfl ?_
        have t35 : a.tmps.getD 35 undef = .bool true := hg 35 (by kernel_rfl)
        have t38 : a.tmps.getD 38 undef = .bool true := hg 38 (by kernel_rfl)
        have u35 := t35
        rw [Array.getD_eq_getD_getElem?] at u35
        have u38 := t38
        rw [Array.getD_eq_getD_getElem?] at u38
        simp [Oper.wp, Oper.upon, execOp, Act.eval, go_sem, t35, u35, t38, u38]
        exact hK _ _ (Ext.rf _) (fun d' h => by cases h; exact rfl)
      · intro a W hx hdf hsz hg hi K hK
        refine step_free rfl ?_
        have t39 : a.tmps.getD 39 undef = .bool true := hg 39 (by kernel_rfl)
        have u39 := t39
        rw [Array.getD_eq_getD_getElem?] at u39
        simp [Oper.wp, Oper.upon, execOp, Act.eval, go_sem, t39, u39]
        exact hK _ _ (Ext.rf _) (fun d' h => by cases h; exact rfl)
      · intro a W hx hdf hsz hg hi K hK
        have G40 : a.tmps.getD 40 undef = .bool true := hg 40 (by kernel_rfl)
        refine step_guard rfl rfl (by have hz : a.tmps.size = 48 := hsz; omega) G40 (fun _ => ?_) (fun h => absurd rfl h)
        have t12 : a.tmps.getD 12 undef = .pointer (some ⟨g, 0, none⟩) := hi 12 (by kernel_rfl)
        have u12 := t12
        rw [Array.getD_eq_getD_getElem?] at u12
        refine wp_load_mid 27 (.tmp 12) rfl g 0 t12 [.int .i64 t.kind, .int .i64 t.num, .int .i64 t.at_, .slice (some ⟨b1, 0, none⟩) t.levels.length e1, .slice (some ⟨b2, 0, none⟩) t.kids.length e2] _ (HG.out.ext hx) hu rfl hi5 ?_
        exact hK _ _ (Ext.rf _) (fun d' h => by cases h; exact rfl)
      · intro a W hx hdf hsz hg hi K hK
        have G40 : a.tmps.getD 40 undef = .bool true := hg 40 (by kernel_rfl)
        refine step_guard rfl rfl (by have hz : a.tmps.size = 48 := hsz; omega) G40 (fun _ => ?_) (fun h => absurd rfl h)
        have t9 : a.tmps.getD 9 undef = .pointer (some ⟨w.heap.size, 0, none⟩) := hi 9 (by kernel_rfl)
        have u9 := t9
        rw [Array.getD_eq_getD_getElem?] at u9
        refine wp_load_mid 27 (.tmp 9) rfl w.heap.size 0 t9 [.int .i64 t.kind, .int .i64 t.num, .int .i64 t.at_, .slice A1 t.levels.length c1, .slice A2 t.kids.length c2] _ (HC3.out.ext hx) hu rfl hi5 ?_
        exact hK _ _ (Ext.rf _) (fun d' h => by cases h; exact rfl)
      · intro a W hx hdf hsz hg hi K hK
        have G40 : a.tmps.getD 40 undef = .bool true := hg 40 (by kernel_rfl)
        refine step_guard rfl rfl (by have hz : a.tmps.size = 48 := hsz; omega) G40 (fun _ => ?_) (fun h => absurd rfl h)
        have t41 : a.tmps.getD 41 undef = .agg #[.int .i64 t.kind, .int .i64 t.num, .int .i64 t.at_, .slice (some ⟨b1, 0, none⟩) t.levels.length e1, .slice (some ⟨b2, 0, none⟩) t.kids.length e2] := hg 41 (by kernel_rfl)
        have t42 : a.tmps.getD 42 undef = .agg #[.int .i64 t.kind, .int .i64 t.num, .int .i64 t.at_, .slice A1 t.levels.length c1, .slice A2 t.kids.length c2] := hg 42 (by kernel_rfl)
        have u41 := t41
        rw [Array.getD_eq_getD_getElem?] at u41
        have u42 := t42
        rw [Array.getD_eq_getD_getElem?] at u42
        simp [Oper.wp, Oper.upon, execOp, Act.eval, go_sem, t41, u41, t42, u42]
        refine (keptTerm_any t _ _ _ (monoC_lterm _ _ _ _ hx.sub HLT.out) (mono_term _ _ _ _ (HX3.out.tr hx) HR.out)).mono ?_
        rintro e w' ⟨rfl, hb⟩
        exact hK _ _ hb (fun d' h => by cases h; exact rfl)
      · intro a W hx hdf hsz hg hi K hK
        refine step_free rfl ?_
        have t40 : a.tmps.getD 40 undef = .bool true := hg 40 (by kernel_rfl)
        have t43 : a.tmps.getD 43 undef = .bool true := hg 43 (by kernel_rfl)
        have u40 := t40
        rw [Array.getD_eq_getD_getElem?] at u40
        have u43 := t43
        rw [Array.getD_eq_getD_getElem?] at u43
        simp [Oper.wp, Oper.upon, execOp, Act.eval, go_sem, t40, u40, t43, u43]
        exact hK _ _ (Ext.rf _) (fun d' h => by cases h; exact rfl)
      · intro a W hx hdf hsz hg hi K hK
        refine step_free rfl ?_
        have t44 : a.tmps.getD 44 undef = .bool true := hg 44 (by kernel_rfl)
        have u44 := t44
        rw [Array.getD_eq_getD_getElem?] at u44
        simp [Oper.wp, Oper.upon, execOp, Act.eval, go_sem, t44, u44]
        exact hK _ _ (Ext.rf _) (fun d' h => by cases h; exact rfl)
      · intro a W hx hdf hsz hg hi K hK
        have G45 : a.tmps.getD 45 undef = .bool true := hg 45 (by kernel_rfl)
        refine step_guard rfl rfl (by have hz : a.tmps.size = 48 := hsz; omega) G45 (fun _ => ?_) (fun h => absurd rfl h)
        simp [Oper.wp, Oper.upon, execOp, Act.eval, go_sem]
        refine (awake_any _ (hK0.ext (HX3.out.tr hx))).mono ?_
        rintro e w' ⟨rfl, hb⟩
        exact hK _ _ hb (fun d' h => by cases h; exact rfl)
      · intro a W hx hdf hsz hg hi K hK
        refine step_free rfl ?_
        have t45 : a.tmps.getD 45 undef = .bool true := hg 45 (by kernel_rfl)
        have t46 : a.tmps.getD 46 undef = .bool true := hg 46 (by kernel_rfl)
        have u45 := t45
        rw [Array.getD_eq_getD_getElem?] at u45
        have u46 := t46
        rw [Array.getD_eq_getD_getElem?] at u46
        simp [Oper.wp, Oper.upon, execOp, Act.eval, go_sem, t45, u45, t46, u46]
        exact hK _ _ (Ext.rf _) (fun d' h => by cases h; exact rfl)
      · intro a W hx hdf hsz hg hi K hK
        refine step_free rfl ?_
        have t47 : a.tmps.getD 47 undef = .bool true := hg 47 (by kernel_rfl)
        have u47 := t47
        rw [Array.getD_eq_getD_getElem?] at u47
        simp [Oper.wp, Oper.upon, execOp, Act.eval, go_sem, t47, u47]
        exact hK _ _ (Ext.rf _) (fun d' h => by cases h; exact rfl)
    · rintro ⟨T4, D4⟩ w4 hx4 hdf hsz hg hi
      have h10 : T4.getD 10 undef = .bool true := hg 10 (by kernel_rfl)
      obtain ⟨f', hf', hT⟩ := frame_slots T4 48 hsz
      have g10 := (hf' 10).symm.trans h10
      have hD : D4 = [] := hdf
      clear hf' hi hg hsz hdf h10
      subst hT hD
      simp only [slots, Nat.reduceAdd, g10]
      go_wp2_with fail
      go_ret
      exact ⟨rfl, HX3.out.tr hx4⟩
end Go.Proofs.YtjaklnabidbmiaaGreatDoor

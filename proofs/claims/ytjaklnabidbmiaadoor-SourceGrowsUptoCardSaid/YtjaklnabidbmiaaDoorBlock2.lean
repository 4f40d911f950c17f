/- Walk: source.over's block. -/
import Derived.Test.YtjaklnabidbmiaaDoorBlock
import Derived.Deep.CutBlock
import Derived.Test.YtjaklnabidbmiaaDoorMono
namespace Go.Proofs.YtjaklnabidbmiaaDoor
open Go.RowKit
set_option linter.unusedSimpArgs false
set_option linter.unusedVariables false

theorem sl_bool7 {w : World} {g : Nat} {a0 a1 a2 a3 a4 a5 a6 : Bool} (h : cellsAt w g 0 [.bool a0, .bool a1, .bool a2, .bool a3, .bool a4, .bool a5, .bool a6]) : Sl RBool 1 1 w [a0, a1, a2, a3, a4, a5, a6] (.slice (some ⟨g, 0, none⟩) 7 7) :=
  ⟨_, _, rfl, Nat.le_refl _, (show 7 * 1 ≤ 140737488351232 by decide), fun _ => ⟨g, 0, rfl, fun i x hx => by
    refine ⟨[.bool x], rfl, fun j v hv => ?_⟩
    match j, hv with
    | 0, hv =>
      simp at hv; subst hv
      have := h i (.bool x) (by
        match i, hx with
        | 0, hx => simp at hx; subst hx; rfl
        | 1, hx => simp at hx; subst hx; rfl
        | 2, hx => simp at hx; subst hx; rfl
        | 3, hx => simp at hx; subst hx; rfl
        | 4, hx => simp at hx; subst hx; rfl
        | 5, hx => simp at hx; subst hx; rfl
        | 6, hx => simp at hx; subst hx; rfl)
      simpa using this⟩⟩

/-- The head of a block that is right. -/
def headBits (d : Decl) : List Bool := [decide ((d.params.length : Int) ≤ 6), levelRight d.sort d.levels, decide (0 < d.members.length), decide ((d.members.length : Int) ≤ 8), decide ((d.ctors.length : Int) ≤ 16), decide (Bare d.type), decide (Bare d.body)]
def HeadOk (d : Decl) : Prop := (headBits d).all id = true
def MembersOk (ds : List Decl) (n self : Int) (d : Decl) : Prop := ∀ (i : Nat) (h : i < d.members.length), d.members[i].index.length ≤ 6 ∧ RowP ds n d.params.length self d.members[i].index
def CtorsOk (ds : List Decl) (n : Int) (d : Decl) : Prop := ∀ (i : Nat) (h : i < d.ctors.length), (0 ≤ d.ctors[i].member ∧ d.ctors[i].member < d.members.length) ∧ RightP ds n d.params.length d.members.length d.ctors[i].type
def BlockP (ds : List Decl) (n self : Int) (d : Decl) : Prop := HeadOk d ∧ RowP ds n 0 self d.params ∧ MembersOk ds n self d ∧ CtorsOk ds n d

/-- A declaration's cells, written out. -/
theorem rdecl_open {w : World} {d : Decl} {cs : List Value} (h : RDecl w d cs) : ∃ A1 c1 A2 c2 A3 c3 A4 c4 cp vp cS vS cm vm cc vc, cs = [.int .i64 d.kind, .int .i64 d.levels, .int .i64 d.type.kind, .int .i64 d.type.num, .int .i64 d.type.at_, .slice A1 d.type.levels.length c1, .slice A2 d.type.kids.length c2, .int .i64 d.body.kind, .int .i64 d.body.num, .int .i64 d.body.at_, .slice A3 d.body.levels.length c3, .slice A4 d.body.kids.length c4, .slice vp d.params.length cp, .slice vS d.sort.parts.length cS, .slice vm d.members.length cm, .slice vc d.ctors.length cc] ∧
    inI d.kind ∧ inI d.levels ∧ RTerm w d.type [.int .i64 d.type.kind, .int .i64 d.type.num, .int .i64 d.type.at_, .slice A1 d.type.levels.length c1, .slice A2 d.type.kids.length c2] ∧ RTerm w d.body [.int .i64 d.body.kind, .int .i64 d.body.num, .int .i64 d.body.at_, .slice A3 d.body.levels.length c3, .slice A4 d.body.kids.length c4] ∧
    SlTerm w d.params (.slice vp d.params.length cp) ∧ Sl RPart 2 16 w d.sort.parts (.slice vS d.sort.parts.length cS) ∧ SlMember w d.members (.slice vm d.members.length cm) ∧ SlCtor w d.ctors (.slice vc d.ctors.length cc) := by
  obtain ⟨ct, cb, vp, vs, vm, vc, rfl, hi, h1, h2, h3, h4, h5, h6⟩ := h
  obtain ⟨a1, a2, rfl, hi1, ⟨A1, c1, rfl, k1⟩, ⟨A2, c2, rfl, k2⟩⟩ := rterm_open h1
  obtain ⟨a3, a4, rfl, hi2, ⟨A3, c3, rfl, k3⟩, ⟨A4, c4, rfl, k4⟩⟩ := rterm_open h2
  obtain ⟨Ap, cp, rfl, kp⟩ := id h3
  obtain ⟨As, cS, rfl, ks⟩ := id h4
  obtain ⟨Am, cm, rfl, km⟩ := id h5
  obtain ⟨Ac, cc, rfl, kc⟩ := id h6
  exact ⟨_, _, _, _, _, _, _, _, _, _, _, _, _, _, _, _, rfl, hi.1, hi.2, h1, h2, h3, h4, h5, h6⟩

set_option maxRecDepth 100000 in
set_option maxHeartbeats 2000000 in
theorem block_any (ds : List Decl) (n self : Int) (vd : Value) (d : Decl) (cs : List Value) (w : World) (hK : KindsIn w) (hd : SlDecl w ds vd) (hR : RDecl w d cs) (hl : d.levels = n) :
    Calls Tryd.prog 29 #[.agg #[vd, .int .i64 n, .int .i64 self], .agg cs.toArray] w fun e w' => Ext w w' ∧ ((BlockP ds n self d ∧ e = .returned (.tuple #[])) ∨ (¬ BlockP ds n self d ∧ e = .panicked wrongs)) := by
  subst hl
  obtain ⟨A0, c0, hv0, hc0, hr0⟩ := id hd
  have hd0 := hid hd
  clear hd
  subst hv0
  obtain ⟨A1, c1, A2, c2, A3, c3, A4, c4, cp, vp, cS, vS, cm, vm, cc, vc, rfl, hik, hil, ht, hb, hp, hS, hm, hc⟩ := rdecl_open hR
  have Ht := hid ht
  have Hb := hid hb
  have Hp := hid hp
  have HS := hid hS
  have Hm := hid hm
  have Hc := hid hc
  have l1 : d.params.length ≤ 140737488351232 := by obtain ⟨_, _, _, _, h⟩ := hp; exact h.len_le
  have l2 : d.members.length ≤ 140737488351232 := by obtain ⟨_, _, _, _, h⟩ := hm; exact h.len_le
  have l3 : d.ctors.length ≤ 140737488351232 := by obtain ⟨_, _, _, _, h⟩ := hc; exact h.len_le
  clear ht hb hp hS hm hc hR
  have hu := Tryd.underlying27
  go_enter Tryd.func29, Tryd.ntmps29
  go_upto_region 2 with fail
  generalize hW0 : (w.alloc _).alloc _ = W0
  have hE : Ext w W0 := hW0 ▸ ((Ext.rf _).al _).al _
  have h0 : W0.cell? ⟨w.heap.size + 1, 0, none⟩ = some (.int .i64 d.kind) := by subst hW0; simp [go_sem]
  have h1 : W0.cell? ⟨w.heap.size + 1, 1, none⟩ = some (.int .i64 d.levels) := by subst hW0; simp [go_sem]
  have h2 : W0.cell? ⟨w.heap.size + 1, 2, none⟩ = some (.int .i64 d.type.kind) := by subst hW0; simp [go_sem]
  have h3 : W0.cell? ⟨w.heap.size + 1, 3, none⟩ = some (.int .i64 d.type.num) := by subst hW0; simp [go_sem]
  have h4 : W0.cell? ⟨w.heap.size + 1, 4, none⟩ = some (.int .i64 d.type.at_) := by subst hW0; simp [go_sem]
  have h5 : W0.cell? ⟨w.heap.size + 1, 5, none⟩ = some (.slice A1 d.type.levels.length c1) := by subst hW0; simp [go_sem]
  have h6 : W0.cell? ⟨w.heap.size + 1, 6, none⟩ = some (.slice A2 d.type.kids.length c2) := by subst hW0; simp [go_sem]
  have h7 : W0.cell? ⟨w.heap.size + 1, 7, none⟩ = some (.int .i64 d.body.kind) := by subst hW0; simp [go_sem]
  have h8 : W0.cell? ⟨w.heap.size + 1, 8, none⟩ = some (.int .i64 d.body.num) := by subst hW0; simp [go_sem]
  have h9 : W0.cell? ⟨w.heap.size + 1, 9, none⟩ = some (.int .i64 d.body.at_) := by subst hW0; simp [go_sem]
  have h10 : W0.cell? ⟨w.heap.size + 1, 10, none⟩ = some (.slice A3 d.body.levels.length c3) := by subst hW0; simp [go_sem]
  have h11 : W0.cell? ⟨w.heap.size + 1, 11, none⟩ = some (.slice A4 d.body.kids.length c4) := by subst hW0; simp [go_sem]
  have h12 : W0.cell? ⟨w.heap.size + 1, 12, none⟩ = some (.slice vp d.params.length cp) := by subst hW0; simp [go_sem]
  have h13 : W0.cell? ⟨w.heap.size + 1, 13, none⟩ = some (.slice vS d.sort.parts.length cS) := by subst hW0; simp [go_sem]
  have h14 : W0.cell? ⟨w.heap.size + 1, 14, none⟩ = some (.slice vm d.members.length cm) := by subst hW0; simp [go_sem]
  have h15 : W0.cell? ⟨w.heap.size + 1, 15, none⟩ = some (.slice vc d.ctors.length cc) := by subst hW0; simp [go_sem]
  have o0 : W0.cell? ⟨w.heap.size, 0, none⟩ = some (.slice A0 ds.length c0) := by subst hW0; simp [go_sem]
  have o1 : W0.cell? ⟨w.heap.size, 1, none⟩ = some (.int .i64 d.levels) := by subst hW0; simp [go_sem]
  have o2 : W0.cell? ⟨w.heap.size, 2, none⟩ = some (.int .i64 self) := by subst hW0; simp [go_sem]
  have z0 : w.heap.size + 1 < W0.heap.size := by subst hW0; simp [go_sem]
  have fz : W0.frozen? ⟨w.heap.size, 2, none⟩ = false := by subst hW0; simp [go_sem]
  clear hW0
  refine wp_region_steps (fun s W v => match s with
    | 12 => v = .int .i64 d.params.length
    | 13 => v = .bool (decide ((d.params.length : Int) ≤ 6))
    | 14 => v = .pointer (some ⟨w.heap.size + 1, 13, none⟩)
    | 15 => v = .agg #[.slice vS d.sort.parts.length cS]
    | 16 => v = .pointer (some ⟨w.heap.size + 1, 1, none⟩)
    | 17 => v = .int .i64 d.levels
    | 18 => v = .bool (levelRight d.sort d.levels)
    | 19 => v = .pointer (some ⟨w.heap.size + 1, 14, none⟩)
    | 20 => v = .slice vm d.members.length cm
    | 21 => v = .int .i64 d.members.length
    | 22 => v = .bool (decide (0 < d.members.length))
    | 23 => v = .pointer (some ⟨w.heap.size + 1, 14, none⟩)
    | 24 => v = .slice vm d.members.length cm
    | 25 => v = .int .i64 d.members.length
    | 26 => v = .bool (decide ((d.members.length : Int) ≤ 8))
    | 27 => v = .pointer (some ⟨w.heap.size + 1, 15, none⟩)
    | 28 => v = .slice vc d.ctors.length cc
    | 29 => v = .int .i64 d.ctors.length
    | 30 => v = .bool (decide ((d.ctors.length : Int) ≤ 16))
    | 31 => v = .pointer (some ⟨w.heap.size + 1, 2, none⟩)
    | 32 => v = .agg #[.int .i64 d.type.kind, .int .i64 d.type.num, .int .i64 d.type.at_, .slice A1 d.type.levels.length c1, .slice A2 d.type.kids.length c2]
    | 33 => v = .bool (decide (Bare d.type))
    | 34 => v = .pointer (some ⟨w.heap.size + 1, 7, none⟩)
    | 35 => v = .agg #[.int .i64 d.body.kind, .int .i64 d.body.num, .int .i64 d.body.at_, .slice A3 d.body.levels.length c3, .slice A4 d.body.kids.length c4]
    | 36 => v = .bool (decide (Bare d.body))
    | 37 => Sl RBool 1 1 W (headBits d) v
    | 38 => (headBits d).all id = true
    | _ => True) (by kernel_rfl) (by kernel_rfl) (of_decide_eq_true (by kernel_rfl)) (by kernel_rfl) ?_ ?_ ?_
  · intro s W W' v hx h
    split at h <;> first | exact h | exact h.ext (fun _ _ _ _ _ h => h) hx | trivial
  · refine ⟨?_, ?_, ?_, ?_, ?_, ?_, ?_, ?_, ?_, ?_, ?_, ?_, ?_, ?_, ?_, ?_, ?_, ?_, ?_, ?_, ?_, ?_, ?_, ?_, ?_, ?_, ?_, trivial⟩
    · intro a W hx hdf hsz hg hi K hK
      have t4 : a.tmps.getD 4 undef = .int .i64 d.params.length := hi 4 (by kernel_rfl)
      have u4 := t4
      rw [Array.getD_eq_getD_getElem?] at u4
      refine step_free rfl ?_
      simp [Oper.wp, Oper.upon, execOp, Act.eval, go_sem, t4, u4]
      exact hK _ _ (Ext.rf _) (fun d' h => by cases h; rfl)
    · intro a W hx hdf hsz hg hi K hK
      have t12 : a.tmps.getD 12 undef = .int .i64 d.params.length := hg 12 (by kernel_rfl)
      have u12 := t12
      rw [Array.getD_eq_getD_getElem?] at u12
      refine step_free rfl ?_
      simp [Oper.wp, Oper.upon, execOp, Act.eval, go_sem, t12, u12]
      exact hK _ _ (Ext.rf _) (fun d' h => by cases h; rfl)
    · intro a W hx hdf hsz hg hi K hK
      have t3 : a.tmps.getD 3 undef = .pointer (some ⟨w.heap.size + 1, 0, none⟩) := hi 3 (by kernel_rfl)
      have u3 := t3
      rw [Array.getD_eq_getD_getElem?] at u3
      refine step_free rfl ?_
      simp [Oper.wp, Oper.upon, execOp, Act.eval, go_sem, t3, u3]
      exact hK _ _ (Ext.rf _) (fun d' h => by cases h; rfl)
    · intro a W hx hdf hsz hg hi K hK
      have t14 : a.tmps.getD 14 undef = .pointer (some ⟨w.heap.size + 1, 13, none⟩) := hg 14 (by kernel_rfl)
      have u14 := t14
      rw [Array.getD_eq_getD_getElem?] at u14
      have q13 := hx.cell h13
      refine step_free rfl ?_
      simp [Oper.wp, Oper.upon, execOp, Act.eval, go_sem, t14, u14, q13]
      exact hK _ _ (Ext.rf _) (fun d' h => by cases h; rfl)
    · intro a W hx hdf hsz hg hi K hK
      have t3 : a.tmps.getD 3 undef = .pointer (some ⟨w.heap.size + 1, 0, none⟩) := hi 3 (by kernel_rfl)
      have u3 := t3
      rw [Array.getD_eq_getD_getElem?] at u3
      refine step_free rfl ?_
      simp [Oper.wp, Oper.upon, execOp, Act.eval, go_sem, t3, u3]
      exact hK _ _ (Ext.rf _) (fun d' h => by cases h; rfl)
    · intro a W hx hdf hsz hg hi K hK
      have t16 : a.tmps.getD 16 undef = .pointer (some ⟨w.heap.size + 1, 1, none⟩) := hg 16 (by kernel_rfl)
      have u16 := t16
      rw [Array.getD_eq_getD_getElem?] at u16
      have q1 := hx.cell h1
      refine step_free rfl ?_
      simp [Oper.wp, Oper.upon, execOp, Act.eval, go_sem, t16, u16, q1]
      exact hK _ _ (Ext.rf _) (fun d' h => by cases h; rfl)
    · intro a W hx hdf hsz hg hi K hK
      have t15 : a.tmps.getD 15 undef = .agg #[.slice vS d.sort.parts.length cS] := hg 15 (by kernel_rfl)
      have t17 : a.tmps.getD 17 undef = .int .i64 d.levels := hg 17 (by kernel_rfl)
      have u15 := t15
      rw [Array.getD_eq_getD_getElem?] at u15
      have u17 := t17
      rw [Array.getD_eq_getD_getElem?] at u17
      refine step_free rfl ?_
      simp [Oper.wp, Oper.upon, execOp, Act.eval, go_sem, t15, u15, t17, u17]
      refine (levelRight_any d.sort d.levels _ _ (HS.out.ext mono_part (hE.tr hx))).mono ?_
      rintro e w' ⟨rfl, hb⟩
      exact hK _ _ hb (fun d' h => by cases h; rfl)
    · intro a W hx hdf hsz hg hi K hK
      have t3 : a.tmps.getD 3 undef = .pointer (some ⟨w.heap.size + 1, 0, none⟩) := hi 3 (by kernel_rfl)
      have u3 := t3
      rw [Array.getD_eq_getD_getElem?] at u3
      refine step_free rfl ?_
      simp [Oper.wp, Oper.upon, execOp, Act.eval, go_sem, t3, u3]
      exact hK _ _ (Ext.rf _) (fun d' h => by cases h; rfl)
    · intro a W hx hdf hsz hg hi K hK
      have t19 : a.tmps.getD 19 undef = .pointer (some ⟨w.heap.size + 1, 14, none⟩) := hg 19 (by kernel_rfl)
      have u19 := t19
      rw [Array.getD_eq_getD_getElem?] at u19
      have q14 := hx.cell h14
      refine step_free rfl ?_
      simp [Oper.wp, Oper.upon, execOp, Act.eval, go_sem, t19, u19, q14]
      exact hK _ _ (Ext.rf _) (fun d' h => by cases h; rfl)
    · intro a W hx hdf hsz hg hi K hK
      have t20 : a.tmps.getD 20 undef = .slice vm d.members.length cm := hg 20 (by kernel_rfl)
      have u20 := t20
      rw [Array.getD_eq_getD_getElem?] at u20
      refine step_free rfl ?_
      simp [Oper.wp, Oper.upon, execOp, Act.eval, go_sem, t20, u20]
      exact hK _ _ (Ext.rf _) (fun d' h => by cases h; rfl)
    · intro a W hx hdf hsz hg hi K hK
      have t21 : a.tmps.getD 21 undef = .int .i64 d.members.length := hg 21 (by kernel_rfl)
      have u21 := t21
      rw [Array.getD_eq_getD_getElem?] at u21
      refine step_free rfl ?_
      simp [Oper.wp, Oper.upon, execOp, Act.eval, go_sem, t21, u21]
      exact hK _ _ (Ext.rf _) (fun d' h => by cases h; rfl)
    · intro a W hx hdf hsz hg hi K hK
      have t3 : a.tmps.getD 3 undef = .pointer (some ⟨w.heap.size + 1, 0, none⟩) := hi 3 (by kernel_rfl)
      have u3 := t3
      rw [Array.getD_eq_getD_getElem?] at u3
      refine step_free rfl ?_
      simp [Oper.wp, Oper.upon, execOp, Act.eval, go_sem, t3, u3]
      exact hK _ _ (Ext.rf _) (fun d' h => by cases h; rfl)
    · intro a W hx hdf hsz hg hi K hK
      have t23 : a.tmps.getD 23 undef = .pointer (some ⟨w.heap.size + 1, 14, none⟩) := hg 23 (by kernel_rfl)
      have u23 := t23
      rw [Array.getD_eq_getD_getElem?] at u23
      have q14 := hx.cell h14
      refine step_free rfl ?_
      simp [Oper.wp, Oper.upon, execOp, Act.eval, go_sem, t23, u23, q14]
      exact hK _ _ (Ext.rf _) (fun d' h => by cases h; rfl)
    · intro a W hx hdf hsz hg hi K hK
      have t24 : a.tmps.getD 24 undef = .slice vm d.members.length cm := hg 24 (by kernel_rfl)
      have u24 := t24
      rw [Array.getD_eq_getD_getElem?] at u24
      refine step_free rfl ?_
      simp [Oper.wp, Oper.upon, execOp, Act.eval, go_sem, t24, u24]
      exact hK _ _ (Ext.rf _) (fun d' h => by cases h; rfl)
    · intro a W hx hdf hsz hg hi K hK
      have t25 : a.tmps.getD 25 undef = .int .i64 d.members.length := hg 25 (by kernel_rfl)
      have u25 := t25
      rw [Array.getD_eq_getD_getElem?] at u25
      refine step_free rfl ?_
      simp [Oper.wp, Oper.upon, execOp, Act.eval, go_sem, t25, u25]
      exact hK _ _ (Ext.rf _) (fun d' h => by cases h; rfl)
    · intro a W hx hdf hsz hg hi K hK
      have t3 : a.tmps.getD 3 undef = .pointer (some ⟨w.heap.size + 1, 0, none⟩) := hi 3 (by kernel_rfl)
      have u3 := t3
      rw [Array.getD_eq_getD_getElem?] at u3
      refine step_free rfl ?_
      simp [Oper.wp, Oper.upon, execOp, Act.eval, go_sem, t3, u3]
      exact hK _ _ (Ext.rf _) (fun d' h => by cases h; rfl)
    · intro a W hx hdf hsz hg hi K hK
      have t27 : a.tmps.getD 27 undef = .pointer (some ⟨w.heap.size + 1, 15, none⟩) := hg 27 (by kernel_rfl)
      have u27 := t27
      rw [Array.getD_eq_getD_getElem?] at u27
      have q15 := hx.cell h15
      refine step_free rfl ?_
      simp [Oper.wp, Oper.upon, execOp, Act.eval, go_sem, t27, u27, q15]
      exact hK _ _ (Ext.rf _) (fun d' h => by cases h; rfl)
    · intro a W hx hdf hsz hg hi K hK
      have t28 : a.tmps.getD 28 undef = .slice vc d.ctors.length cc := hg 28 (by kernel_rfl)
      have u28 := t28
      rw [Array.getD_eq_getD_getElem?] at u28
      refine step_free rfl ?_
      simp [Oper.wp, Oper.upon, execOp, Act.eval, go_sem, t28, u28]
      exact hK _ _ (Ext.rf _) (fun d' h => by cases h; rfl)
    · intro a W hx hdf hsz hg hi K hK
      have t29 : a.tmps.getD 29 undef = .int .i64 d.ctors.length := hg 29 (by kernel_rfl)
      have u29 := t29
      rw [Array.getD_eq_getD_getElem?] at u29
      refine step_free rfl ?_
      simp [Oper.wp, Oper.upon, execOp, Act.eval, go_sem, t29, u29]
      exact hK _ _ (Ext.rf _) (fun d' h => by cases h; rfl)
    · intro a W hx hdf hsz hg hi K hK
      have t3 : a.tmps.getD 3 undef = .pointer (some ⟨w.heap.size + 1, 0, none⟩) := hi 3 (by kernel_rfl)
      have u3 := t3
      rw [Array.getD_eq_getD_getElem?] at u3
      refine step_free rfl ?_
      simp [Oper.wp, Oper.upon, execOp, Act.eval, go_sem, t3, u3]
      exact hK _ _ (Ext.rf _) (fun d' h => by cases h; rfl)
    · intro a W hx hdf hsz hg hi K hK
      have t31 : a.tmps.getD 31 undef = .pointer (some ⟨w.heap.size + 1, 2, none⟩) := hg 31 (by kernel_rfl)
      have u31 := t31
      rw [Array.getD_eq_getD_getElem?] at u31
      have q2 := hx.cell h2
      have q3 := hx.cell h3
      have q4 := hx.cell h4
      have q5 := hx.cell h5
      have q6 := hx.cell h6
      refine step_free rfl ?_
      simp [Oper.wp, Oper.upon, execOp, Act.eval, go_sem, t31, u31, q2, q3, q4, q5, q6]
      exact hK _ _ (Ext.rf _) (fun d' h => by cases h; rfl)
    · intro a W hx hdf hsz hg hi K hK
      have t32 : a.tmps.getD 32 undef = .agg #[.int .i64 d.type.kind, .int .i64 d.type.num, .int .i64 d.type.at_, .slice A1 d.type.levels.length c1, .slice A2 d.type.kids.length c2] := hg 32 (by kernel_rfl)
      have u32 := t32
      rw [Array.getD_eq_getD_getElem?] at u32
      refine step_free rfl ?_
      simp [Oper.wp, Oper.upon, execOp, Act.eval, go_sem, t32, u32]
      refine (bare_any d.type _ _ (mono_term _ _ _ _ (hE.tr hx) Ht.out)).mono ?_
      rintro e w' ⟨rfl, hb⟩
      exact hK _ _ hb (fun d' h => by cases h; rfl)
    · intro a W hx hdf hsz hg hi K hK
      have t3 : a.tmps.getD 3 undef = .pointer (some ⟨w.heap.size + 1, 0, none⟩) := hi 3 (by kernel_rfl)
      have u3 := t3
      rw [Array.getD_eq_getD_getElem?] at u3
      refine step_free rfl ?_
      simp [Oper.wp, Oper.upon, execOp, Act.eval, go_sem, t3, u3]
      exact hK _ _ (Ext.rf _) (fun d' h => by cases h; rfl)
    · intro a W hx hdf hsz hg hi K hK
      have t34 : a.tmps.getD 34 undef = .pointer (some ⟨w.heap.size + 1, 7, none⟩) := hg 34 (by kernel_rfl)
      have u34 := t34
      rw [Array.getD_eq_getD_getElem?] at u34
      have q7 := hx.cell h7
      have q8 := hx.cell h8
      have q9 := hx.cell h9
      have q10 := hx.cell h10
      have q11 := hx.cell h11
      refine step_free rfl ?_
      simp [Oper.wp, Oper.upon, execOp, Act.eval, go_sem, t34, u34, q7, q8, q9, q10, q11]
      exact hK _ _ (Ext.rf _) (fun d' h => by cases h; rfl)
    · intro a W hx hdf hsz hg hi K hK
      have t35 : a.tmps.getD 35 undef = .agg #[.int .i64 d.body.kind, .int .i64 d.body.num, .int .i64 d.body.at_, .slice A3 d.body.levels.length c3, .slice A4 d.body.kids.length c4] := hg 35 (by kernel_rfl)
      have u35 := t35
      rw [Array.getD_eq_getD_getElem?] at u35
      refine step_free rfl ?_
      simp [Oper.wp, Oper.upon, execOp, Act.eval, go_sem, t35, u35]
      refine (bare_any d.body _ _ (mono_term _ _ _ _ (hE.tr hx) Hb.out)).mono ?_
      rintro e w' ⟨rfl, hb⟩
      exact hK _ _ hb (fun d' h => by cases h; rfl)
    · intro a W hx hdf hsz hg hi K hK
      have t13 : a.tmps.getD 13 undef = .bool (decide ((d.params.length : Int) ≤ 6)) := hg 13 (by kernel_rfl)
      have t18 : a.tmps.getD 18 undef = .bool (levelRight d.sort d.levels) := hg 18 (by kernel_rfl)
      have t22 : a.tmps.getD 22 undef = .bool (decide (0 < d.members.length)) := hg 22 (by kernel_rfl)
      have t26 : a.tmps.getD 26 undef = .bool (decide ((d.members.length : Int) ≤ 8)) := hg 26 (by kernel_rfl)
      have t30 : a.tmps.getD 30 undef = .bool (decide ((d.ctors.length : Int) ≤ 16)) := hg 30 (by kernel_rfl)
      have t33 : a.tmps.getD 33 undef = .bool (decide (Bare d.type)) := hg 33 (by kernel_rfl)
      have t36 : a.tmps.getD 36 undef = .bool (decide (Bare d.body)) := hg 36 (by kernel_rfl)
      have u13 := t13
      rw [Array.getD_eq_getD_getElem?] at u13
      have u18 := t18
      rw [Array.getD_eq_getD_getElem?] at u18
      have u22 := t22
      rw [Array.getD_eq_getD_getElem?] at u22
      have u26 := t26
      rw [Array.getD_eq_getD_getElem?] at u26
      have u30 := t30
      rw [Array.getD_eq_getD_getElem?] at u30
      have u33 := t33
      rw [Array.getD_eq_getD_getElem?] at u33
      have u36 := t36
      rw [Array.getD_eq_getD_getElem?] at u36
      refine step_free rfl ?_
      simp [Oper.wp, Oper.upon, execOp, Act.eval, go_sem, t13, u13, t18, u18, t22, u22, t26, u26, t30, u30, t33, u33, t36, u36]
      exact hK (.slice (some ⟨W.heap.size, 0, none⟩) 7 7) _ ((Ext.rf _).al _) (fun d' h => by cases h; exact sl_bool7 (range_fresh W _ _))
    · intro a W hx hdf hsz hg hi K hK
      have t37 : Sl RBool 1 1 W (headBits d) (a.tmps.getD 37 undef) := hg 37 (by kernel_rfl)
      have u37 := t37
      rw [Array.getD_eq_getD_getElem?] at u37
      refine step_free rfl ?_
      simp [Oper.wp, Oper.upon, execOp, Act.eval, go_sem, ]
      refine (must_any (headBits d) _ _ u37).mono ?_
      rintro e w' ⟨rfl, rfl⟩
      cases hh : (headBits d).all id
      · have hno : ¬ BlockP ds d.levels self d := fun h => by
          have := h.1
          rw [HeadOk, hh] at this
          cases this
        simp only [ck_false]
        exact ⟨hdf, hE.tr hx, .inr ⟨hno, rfl⟩⟩
      · simp only [ck_true]
        exact hK _ _ (Ext.rf _) (fun d' h => by cases h; exact hh)
  · rintro ⟨T, D⟩ w1 hx1 hdf hsz hg hi
    have hhead : HeadOk d := hg 38 (by kernel_rfl)
    obtain ⟨f, hf, hT⟩ := frame_slots T 90 hsz
    have e2 : f 2 = .pointer (some ⟨w.heap.size, 0, none⟩) := (hf 2).symm.trans (hi 2 (by kernel_rfl))
    have e3 : f 3 = .pointer (some ⟨w.heap.size + 1, 0, none⟩) := (hf 3).symm.trans (hi 3 (by kernel_rfl))
    have e4 : f 4 = .int .i64 d.params.length := (hf 4).symm.trans (hi 4 (by kernel_rfl))
    have hD : D = [] := hdf
    clear hf hi hg hsz hdf
    subst hT hD
    simp only [slots, Nat.reduceAdd, e2, e3, e4]
    have q0 := hx1.cell o0
    have q1 := hx1.cell o1
    have q2 := hx1.cell o2
    have q3 := hx1.cell h12
    have hx := hE.tr hx1
    go_wp2_with fail
    refine (row_any ds d.levels 0 self _ d.params _ _ (hK.ext hx) (hd0.out.ext mono_decl hx) (Hp.out.ext mono_term hx) (by omega)).mono ?_
    rintro e w2 ⟨hx2, ⟨hrow, rfl⟩ | ⟨hrow, rfl⟩⟩
    · have hxx := hx.tr hx2
      have p0 := hx2.cell q0
      have p1 := hx2.cell q1
      have p2 := hx2.cell q2
      have p14 := hx2.cell (hx1.cell h14)
      have p15 := hx2.cell (hx1.cell h15)
      have zz : w.heap.size < w2.heap.size := lt_of_cell p0
      have fz2 := (Below.frozen hx2 (lt_of_cell q0)).trans ((Below.frozen hx1 (lt_of_cell o0)).trans fz)
      have hn0 : w.heap.size ≠ w.heap.size + 1 := by omega
      have hn1 : w.heap.size + 1 ≠ w.heap.size := by omega
      clear q0 q1 q2 q3 h0 h1 h2 h3 h4 h5 h6 h7 h8 h9 h10 h11 h12 h13 h14 h15 o0 o1 o2 z0 fz
      go_wp2_with fail
      go_loopw [46] (fun i wr => ∃ j : Nat, j ≤ d.members.length ∧ i = .int .i64 j ∧ Ext w2 wr ∧ ∀ (x : Nat) (h : x < d.members.length), x < j → d.members[x].index.length ≤ 6 ∧ RowP ds d.levels d.params.length self d.members[x].index) (fun i _ => d.members.length - (intOf i).toNat)
      case atStart => exact ⟨0, by omega, rfl, Ext.rf _, fun x _ h => absurd h (by omega)⟩
      case round =>
        rename_i wr
        obtain ⟨j, hj, rfl, hxr, hq⟩ := hrel
        have hx0r := hxx.tr hxr
        have r0 := hxr.cell p0
        have r1 := hxr.cell p1
        have r2 := hxr.cell p2
        have r14 := hxr.cell p14
        have r15 := hxr.cell p15
        by_cases hlt : j < d.members.length
        · obtain ⟨Am, cm', hvm, hcm, hrm⟩ := id Hm.out
          cases hvm
          obtain ⟨b, o, cs, rfl, ⟨v, rfl, hsm⟩, hcs0⟩ := hrm.at_ hlt
          obtain ⟨Ai, ci, rfl, hci, hri⟩ := id hsm
          have hli := hri.len_le
          have hmem : wr.cell? ⟨b, o + j * 1, none⟩ = some (.slice Ai d.members[j].index.length ci) := (hcs0.ext hx0r).at0
          rw [Nat.mul_one] at hmem
          have hsm' := hid (hsm.ext mono_term hx0r)
          clear hcs0 hri hsm hrm
          have hz1 : w.heap.size < wr.heap.size := lt_of_cell r0
          have hz2 : w.heap.size + 1 < wr.heap.size := lt_of_cell r14
          go_wp2_with fail
          refine (must_any [decide ((d.members[j].index.length : Int) ≤ 6)] _ _ (sl_bool1 (by simp [go_sem]))).mono ?_
          rintro e w5 ⟨rfl, rfl⟩
          cases hle : decide ((d.members[j].index.length : Int) ≤ 6)
          · have hck : ck ([false].all id) = .panicked wrongs := rfl
            rw [hck]
            go_wp2_with fail
            have hle' := of_decide_eq_false hle
            have hno : ¬ BlockP ds d.levels self d := fun h => by
              have := (h.2.2.1 j hlt).1
              omega
            exact ⟨rfl, (hx0r.al _).al _, .inr ⟨hno, rfl⟩⟩
          · have hck : ck ([true].all id) = .returned (.tuple #[]) := rfl
            rw [hck]
            have hle' := of_decide_eq_true hle
            go_wp2_with fail
            have hxA : Ext w _ := (hx0r.al (.cells #[.slice Ai d.members[j].index.length ci] 38)).al (.cells #[.bool true] 4)
            refine (row_any ds d.levels d.params.length self _ d.members[j].index _ _ (hK.ext hxA) (hd0.out.ext mono_decl hxA) (hsm'.out.ext mono_term (((Ext.rf wr).al _).al _)) (by omega)).mono ?_
            rintro e w6 ⟨hx6, ⟨hr6, rfl⟩ | ⟨hr6, rfl⟩⟩
            · go_wp2_with fail
              refine ⟨⟨j + 1, by omega, by go_num, hxr.tr ((((Ext.rf _).al _).al _).tr hx6), fun x h1 h2 => ?_⟩, by simp only [intOf]; omega⟩
              by_cases h3 : x < j
              · exact hq x h1 h3
              · obtain rfl : x = j := by omega
                exact ⟨by omega, hr6⟩
            · go_wp2_with fail
              exact ⟨rfl, hxA.tr hx6, .inr ⟨fun h => hr6 (h.2.2.1 j hlt).2, rfl⟩⟩
        · obtain rfl : j = d.members.length := by omega
          have fz3 := (Below.frozen hxr (lt_of_cell p0)).trans fz2
          have hz1 : w.heap.size < wr.heap.size := lt_of_cell r0
          have hz2 : w.heap.size + 1 < wr.heap.size := lt_of_cell r14
          have hall : MembersOk ds d.levels self d := fun i h => hq i h h
          have Hall := hid hall
          clear hq hall
          go_upto_region 12 with fail
          generalize hW3 : wr.setCell _ _ = W3
          have hx3 : Ext w W3 := hW3 ▸ hx0r.st (by simp) _
          have s0 : W3.cell? ⟨w.heap.size, 0, none⟩ = some (.slice A0 ds.length c0) := by subst hW3; simp [go_sem, r0]
          have s1 : W3.cell? ⟨w.heap.size, 1, none⟩ = some (.int .i64 d.levels) := by subst hW3; simp [go_sem, r1]
          have s2 : W3.cell? ⟨w.heap.size, 2, none⟩ = some (.int .i64 d.members.length) := by subst hW3; simp [go_sem, r2]
          have s14 : W3.cell? ⟨w.heap.size + 1, 14, none⟩ = some (.slice vm d.members.length cm) := by subst hW3; simp [go_sem, r14]
          have s15 : W3.cell? ⟨w.heap.size + 1, 15, none⟩ = some (.slice vc d.ctors.length cc) := by subst hW3; simp [go_sem, r15]
          clear hW3 r0 r1 r2 r14 r15 fz3 fz2 hxr
          go_loopw [69] (fun i wr => ∃ j : Nat, j ≤ d.ctors.length ∧ i = .int .i64 j ∧ Ext W3 wr ∧ ∀ (x : Nat) (h : x < d.ctors.length), x < j → (0 ≤ d.ctors[x].member ∧ d.ctors[x].member < d.members.length) ∧ RightP ds d.levels d.params.length d.members.length d.ctors[x].type) (fun i _ => d.ctors.length - (intOf i).toNat)
          case atStart => exact ⟨0, by omega, rfl, Ext.rf _, fun x _ h => absurd h (by omega)⟩
          case round =>
            obtain ⟨j, hj, rfl, hxr, hq⟩ := hrel
            have hx0r := hx3.tr hxr
            have r0 := hxr.cell s0
            have r1 := hxr.cell s1
            have r2 := hxr.cell s2
            have r14 := hxr.cell s14
            have r15 := hxr.cell s15
            have hz1 : w.heap.size < wr.heap.size := lt_of_cell r0
            have hz2 : w.heap.size + 1 < wr.heap.size := lt_of_cell r14
            by_cases hlt : j < d.ctors.length
            · obtain ⟨Am, cm', hvm, hcm, hrm⟩ := id Hc.out
              cases hvm
              obtain ⟨b, o, cs, rfl, ⟨ct, rfl, him, hRt⟩, hcs0⟩ := hrm.at_ hlt
              obtain ⟨a1, a2, rfl, hi, ⟨A5, c5, rfl, hc5, hr5⟩, ⟨A6, c6, rfl, hc6, hr6⟩⟩ := rterm_open hRt
              have hcs := hcs0.ext hx0r
              have m0 := hcs 0 _ rfl
              have m1 := hcs 1 _ rfl
              have m2 := hcs 2 _ rfl
              have m3 := hcs 3 _ rfl
              have m4 := hcs 4 _ rfl
              have m5 := hcs 5 _ rfl
              rw [Nat.add_zero] at m0
              have hRt' := hid (mono_term _ _ _ _ hx0r hRt)
              have hcl := hr5.len_le
              have hcl2 := hr6.len_le
              clear hcs0 hcs hr5 hr6 hRt hrm
              go_wp2_with fail
              refine (must_any [decide (0 ≤ d.ctors[j].member), decide (d.ctors[j].member < d.members.length)] _ _ (sl_bool2 (by simp [go_sem]) (by simp [go_sem]))).mono ?_
              rintro e w5 ⟨rfl, rfl⟩
              cases hle : ([decide (0 ≤ d.ctors[j].member), decide (d.ctors[j].member < d.members.length)].all id)
              · rw [ck_false]
                go_wp2_with fail
                have hno : ¬ BlockP ds d.levels self d := fun h => by
                  have := (h.2.2.2 j hlt).1
                  simp [this] at hle
                exact ⟨rfl, (hx0r.al _).al _, .inr ⟨hno, rfl⟩⟩
              · rw [ck_true]
                have hle' : 0 ≤ d.ctors[j].member ∧ d.ctors[j].member < d.members.length := by simpa using hle
                clear hle
                go_wp2_with fail
                have hxA : Ext w _ := (hx0r.al (.cells #[.int .i64 d.ctors[j].member, .int .i64 d.ctors[j].type.kind, .int .i64 d.ctors[j].type.num, .int .i64 d.ctors[j].type.at_, .slice A5 d.ctors[j].type.levels.length c5, .slice A6 d.ctors[j].type.kids.length c6] 46)).al (.cells #[.bool true, .bool true] 4)
                refine (asks_any ds d.levels d.params.length d.members.length _ d.ctors[j].type [.int .i64 d.ctors[j].type.kind, .int .i64 d.ctors[j].type.num, .int .i64 d.ctors[j].type.at_, .slice A5 d.ctors[j].type.levels.length c5, .slice A6 d.ctors[j].type.kids.length c6] _ (hK.ext hxA) (hd0.out.ext mono_decl hxA) (mono_term _ _ _ _ (((Ext.rf wr).al _).al _) hRt'.out)).mono ?_
                rintro e w6 ⟨hx6, ⟨hr6, rfl⟩ | ⟨hr6, rfl⟩⟩
                · go_wp2_with fail
                  refine ⟨⟨j + 1, by omega, by go_num, hxr.tr ((((Ext.rf _).al _).al _).tr hx6), fun x h1 h2 => ?_⟩, by simp only [intOf]; omega⟩
                  by_cases h3 : x < j
                  · exact hq x h1 h3
                  · obtain rfl : x = j := by omega
                    exact ⟨hle', hr6⟩
                · go_wp2_with fail
                  exact ⟨rfl, hxA.tr hx6, .inr ⟨fun h => hr6 (h.2.2.2 j hlt).2, rfl⟩⟩
            · obtain rfl : j = d.ctors.length := by omega
              go_wp2_with fail
              go_end0
              have hmo : MembersOk ds d.levels self d := Hall.out
              exact ⟨hx0r, .inl ⟨⟨hhead, hrow, hmo, fun i h => hq i h h⟩, rfl⟩⟩
    · go_wp2_with fail
      exact ⟨rfl, hx.tr hx2, .inr ⟨fun h => hrow h.2.1, rfl⟩⟩
end Go.Proofs.YtjaklnabidbmiaaDoor

/- Walk: spandrellaw11.SourceDecls: it answers true, and nothing that was there turns. Printed by gen_decls.py. -/
import Derived.Test.YtjaklnabidbmiaaGreatDoorCopy
import Derived.Test.YtjaklnabidbmiaaGreatDoorTells
namespace Go.Proofs.YtjaklnabidbmiaaGreatDoor
open Go.RowKit
set_option linter.unusedSimpArgs false
set_option linter.unusedVariables false

theorem own_fresh {w : World} {base g : Nat} {e : TypeId} {sz : Nat} {cs : List Value} (hg : w.heap.size = g) (hb : base ≤ g) (hl : cs.length = sz) : (w.alloc (.cells cs.toArray e)).ownsRow base e sz (.slice (some ⟨g, 0, none⟩) 1 1) 1 cs := by
  subst hg
  exact ⟨by rw [Nat.one_mul]; exact hl, .inr ⟨w.heap.size, 1, cs.toArray, rfl, hb, (MapKept.heap_alloc w _).1, Nat.le_refl _, by unfold maxLen; omega, by simp [hl], by rw [Nat.one_mul]; exact List.take_of_length_le (by simp; omega)⟩⟩
/-- A row of the call's own reads as a slice. -/
theorem sl_row {α : Type} {R : World → α → List Value → Prop} {sz bytes : Nat} {w : World} {base : Nat} {e : TypeId} {v : Value} {xs : List α} {cells : List Value} (h1 : w.ownsRow base e sz v xs.length cells) (hb : xs.length * bytes ≤ LIM)
    (h2 : ∀ i x, xs[i]? = some x → ∃ cs, R w x cs ∧ ∀ j u, cs[j]? = some u → cells[i * sz + j]? = some u) : Sl R sz bytes w xs v := by
  rcases h1.2 with ⟨rfl, hz⟩ | ⟨g, cap, cur, rfl, hg, hgg, hc, hm, hs, htake⟩
  · obtain rfl : xs = [] := List.eq_nil_of_length_eq_zero hz
    exact ⟨none, 0, rfl, Nat.le_refl _, by simp, fun hne => absurd rfl hne⟩
  · refine ⟨_, _, rfl, hc, hb, fun _ => ⟨g, 0, rfl, fun i x hx => ?_⟩⟩
    obtain ⟨cs, h3, h5⟩ := h2 i x hx
    refine ⟨cs, h3, fun j u hu => ?_⟩
    have h6 := h1.cells (g := g) rfl (i * sz + j) u (h5 j u hu)
    rw [Addr.add_lit, ← Nat.add_assoc] at h6
    exact h6
theorem sl_more {w w' : World} {d : Decl} {ds : List Decl} {cs news : List Value} {v : Value} {base : Nat} {e : TypeId} (hx : Ext w w') (hR : RDecl w d cs) (hown : w'.ownsRow base e 16 v (1 + ds.length) (cs ++ news))
    (hn : ∀ i x, ds[i]? = some x → ∃ cs, RDecl w x cs ∧ cs.length = 16 ∧ ∀ j u, cs[j]? = some u → news[i * 16 + j]? = some u) (hb : (1 + ds.length) * 128 ≤ LIM) : Sl RDecl 16 128 w' (d :: ds) v := by
  have hl : cs.length = 16 := (rdecl_ones hR).1
  refine sl_row (e := e) (base := base) (cells := cs ++ news) (by rw [List.length_cons, Nat.add_comm]; exact hown) (by rw [List.length_cons, Nat.add_comm]; exact hb) (fun i x hi => ?_)
  cases i with
  | zero =>
    simp at hi
    subst hi
    refine ⟨cs, mono_decl _ _ _ _ hx hR, fun j u hu => ?_⟩
    rw [Nat.zero_mul, Nat.zero_add, List.getElem?_append_left (List.getElem?_eq_some_iff.1 hu).1]
    exact hu
  | succ i =>
    obtain ⟨cs', k1, k2, k3⟩ := hn i x (by simpa using hi)
    refine ⟨cs', mono_decl _ _ _ _ hx k1, fun j u hu => ?_⟩
    rw [List.getElem?_append_right (by omega), hl, show (i + 1) * 16 + j - 16 = i * 16 + j by omega]
    exact k3 j u hu
set_option maxRecDepth 100000 in
set_option maxHeartbeats 4000000 in
theorem sourceDecls_any (ds : List Decl) (d : Decl) (vd : Value) (cs : List Value) (w : World) (hK : KindsIn w) (hd : SlDecl w ds vd) (hR : RDecl w d cs) :
    Calls Tryz.prog 4 #[vd, .agg cs.toArray] w fun e w' => e = .returned (.bool true) ∧ Ext w w' := by
  have Hd := hid hd
  have HR := hid hR
  obtain ⟨A, c, rfl, -, hr⟩ := hd
  have Hr := hid hr
  have hbd := hid hr.1
  obtain ⟨A1, c1, A2, c2, A3, c3, A4, c4, cp, vp, cS, vS, cm, vm, cc, vc, rfl, -⟩ := rdecl_open hR
  obtain ⟨i0, hi, hz0, hz1, hz2⟩ := info_parts info_decl
  have hi' := hid hi
  have hz0' := hid hz0
  have hz1' := hid hz1
  have hz2' := hid hz2
  clear hi hz0 hz1 hz2 hR hr
  have hu := Tryz.underlying42
  have hi16 : (Tryz.prog.info? 42).map (·.size) = some 16 := by kernel_rfl
  go_enter Tryz.func4, Tryz.ntmps4
  have hX1 : Ext w (w.alloc (.cells #[.int .i64 d.kind, .int .i64 d.levels, .int .i64 d.type.kind, .int .i64 d.type.num, .int .i64 d.type.at_, .slice A1 d.type.levels.length c1, .slice A2 d.type.kids.length c2, .int .i64 d.body.kind, .int .i64 d.body.num, .int .i64 d.body.at_, .slice A3 d.body.levels.length c3, .slice A4 d.body.kids.length c4, .slice vp d.params.length cp, .slice vS d.sort.parts.length cS, .slice vm d.members.length cm, .slice vc d.ctors.length cc] 42)) := (Ext.rf _).al _
  have HX1 := hid hX1
  have hX2 : Ext w ((w.alloc (.cells #[.int .i64 d.kind, .int .i64 d.levels, .int .i64 d.type.kind, .int .i64 d.type.num, .int .i64 d.type.at_, .slice A1 d.type.levels.length c1, .slice A2 d.type.kids.length c2, .int .i64 d.body.kind, .int .i64 d.body.num, .int .i64 d.body.at_, .slice A3 d.body.levels.length c3, .slice A4 d.body.kids.length c4, .slice vp d.params.length cp, .slice vS d.sort.parts.length cS, .slice vm d.members.length cm, .slice vc d.ctors.length cc] 42)).alloc (.cells #[.int .i64 d.kind, .int .i64 d.levels, .int .i64 d.type.kind, .int .i64 d.type.num, .int .i64 d.type.at_, .slice A1 d.type.levels.length c1, .slice A2 d.type.kids.length c2, .int .i64 d.body.kind, .int .i64 d.body.num, .int .i64 d.body.at_, .slice A3 d.body.levels.length c3, .slice A4 d.body.kids.length c4, .slice vp d.params.length cp, .slice vS d.sort.parts.length cS, .slice vm d.members.length cm, .slice vc d.ctors.length cc] 42)) := ((Ext.rf _).al _).al _
  have HX2 := hid hX2
  clear hX1 hX2
  have hrow : Row (fun _ => RDecl w) 16 256 ((w.alloc (.cells #[.int .i64 d.kind, .int .i64 d.levels, .int .i64 d.type.kind, .int .i64 d.type.num, .int .i64 d.type.at_, .slice A1 d.type.levels.length c1, .slice A2 d.type.kids.length c2, .int .i64 d.body.kind, .int .i64 d.body.num, .int .i64 d.body.at_, .slice A3 d.body.levels.length c3, .slice A4 d.body.kids.length c4, .slice vp d.params.length cp, .slice vS d.sort.parts.length cS, .slice vm d.members.length cm, .slice vc d.ctors.length cc] 42)).alloc (.cells #[.int .i64 d.kind, .int .i64 d.levels, .int .i64 d.type.kind, .int .i64 d.type.num, .int .i64 d.type.at_, .slice A1 d.type.levels.length c1, .slice A2 d.type.kids.length c2, .int .i64 d.body.kind, .int .i64 d.body.num, .int .i64 d.body.at_, .slice A3 d.body.levels.length c3, .slice A4 d.body.kids.length c4, .slice vp d.params.length cp, .slice vS d.sort.parts.length cS, .slice vm d.members.length cm, .slice vc d.ctors.length cc] 42)) A ds := ⟨Hr.out.1, fun hne => by
    obtain ⟨b, o, e, h⟩ := Hr.out.2 hne
    exact ⟨b, o, e, fun i x hx => by
      obtain ⟨cs, h1, h2⟩ := h i x hx
      exact ⟨cs, h1, h2.ext HX2.out⟩⟩⟩
  have Hrow := hid hrow
  clear hrow
  go_wp2_with (first | ((with_reducible show wpList _ _ _ (⟨_, Op.load 42 _, _, _, _, _⟩ :: _) _ _); refine wpList_load_mid (by rfl) 42 _ (by rfl) w.heap.size 0 (by rfl) [.int .i64 d.kind, .int .i64 d.levels, .int .i64 d.type.kind, .int .i64 d.type.num, .int .i64 d.type.at_, .slice A1 d.type.levels.length c1, .slice A2 d.type.kids.length c2, .int .i64 d.body.kind, .int .i64 d.body.num, .int .i64 d.body.at_, .slice A3 d.body.levels.length c3, .slice A4 d.body.kids.length c4, .slice vp d.params.length cp, .slice vS d.sort.parts.length cS, .slice vm d.members.length cm, .slice vc d.ctors.length cc] _ (by exact range_fresh _ _ _) hu (by rfl) hi16 ?_) | (at_builtin; go_loud (refine wpList_append_all (R := fun _ => RDecl w) (sz := 16) (bytes := 256) (fun y cs h => rdecl_ones h) (by rfl) _ _ 22 (by rfl) w.heap.size 42 i0 _ Tryz.underlying22 hi'.out hz0'.out hz1'.out hz2'.out (by rfl) (by omega) (by omega) (.slice (some ⟨w.heap.size + 1, 0, none⟩) 1 1) 1 [.int .i64 d.kind, .int .i64 d.levels, .int .i64 d.type.kind, .int .i64 d.type.num, .int .i64 d.type.at_, .slice A1 d.type.levels.length c1, .slice A2 d.type.kids.length c2, .int .i64 d.body.kind, .int .i64 d.body.num, .int .i64 d.body.at_, .slice A3 d.body.levels.length c3, .slice A4 d.body.kids.length c4, .slice vp d.params.length cp, .slice vS d.sort.parts.length cS, .slice vm d.members.length cm, .slice vc d.ctors.length cc] (by rfl) (by exact own_fresh (by simp) (by omega) rfl) ds A c (by rfl) (by exact Hrow.out) (by have := hbd.out; unfold LIM at this; omega) (by omega) (by simp; omega) ?_; intro v2 w2 news hown hnews hg)))
  have hx2 : Ext w w2 := grown_ext HX2.out hg (fun k h => by cases h; show w.heap.size ≤ w.heap.size + 1; omega)
  have HC2 := hid (show cellsAt w2 w.heap.size 0 [.int .i64 d.kind, .int .i64 d.levels, .int .i64 d.type.kind, .int .i64 d.type.num, .int .i64 d.type.at_, .slice A1 d.type.levels.length c1, .slice A2 d.type.kids.length c2, .int .i64 d.body.kind, .int .i64 d.body.num, .int .i64 d.body.at_, .slice A3 d.body.levels.length c3, .slice A4 d.body.kids.length c4, .slice vp d.params.length cp, .slice vS d.sort.parts.length cS, .slice vm d.members.length cm, .slice vc d.ctors.length cc] from fun j u hu => hg.cell (((Ext.rf _).al _).cell (range_fresh w 42 [.int .i64 d.kind, .int .i64 d.levels, .int .i64 d.type.kind, .int .i64 d.type.num, .int .i64 d.type.at_, .slice A1 d.type.levels.length c1, .slice A2 d.type.kids.length c2, .int .i64 d.body.kind, .int .i64 d.body.num, .int .i64 d.body.at_, .slice A3 d.body.levels.length c3, .slice A4 d.body.kids.length c4, .slice vp d.params.length cp, .slice vS d.sort.parts.length cS, .slice vm d.members.length cm, .slice vc d.ctors.length cc] j u hu)) (fun e => by simp [Value.ownBlock] at e))
  have HX2' := hid hx2
  have HS := hid (sl_more hx2 HR.out hown (fun i x h => hnews i x h) (by have := hbd.out; unfold LIM at this ⊢; omega))
  clear hown hnews hg hx2 Hrow HX1 HX2
  refine (great128_any (d :: ds) [] _ _ _ HS.out sl_nil).mono ?_
  rintro e w1 ⟨hx1, b, rfl⟩
  have HC := hid (HC2.out.ext hx1)
  have HX1 := hid (HX2'.out.tr hx1)
  clear hx1 HC2 HX2' HS
  cases b
  rotate_left
  · go_wp2_with fail
    refine (awake_any _ (hK.ext HX1.out)).mono ?_
    rintro e w2 ⟨rfl, hx2⟩
    go_wp2_with fail
    go_ret
    exact ⟨rfl, HX1.out.tr hx2⟩
  go_upto_region 3 with fail
  refine wp_pair (fun W v => ∃ b c, v = .slice (some ⟨b, 0, none⟩) ds.length c ∧ LSlDecl W ds v) (fun W ys => RDecl W d ys) (fun W W' v h ⟨b, c, e, hl⟩ => ⟨b, c, e, hl.sub monoC_ldecl monoC_decl h⟩) (fun W W' v h hl => monoC_decl _ _ _ _ h hl)
    13 14 15 16 6 5 16 (.slice A ds.length c) [.int .i64 d.kind, .int .i64 d.levels, .int .i64 d.type.kind, .int .i64 d.type.num, .int .i64 d.type.at_, .slice A1 d.type.levels.length c1, .slice A2 d.type.kids.length c2, .int .i64 d.body.kind, .int .i64 d.body.num, .int .i64 d.body.at_, .slice A3 d.body.levels.length c3, .slice A4 d.body.kids.length c4, .slice vp d.params.length cp, .slice vS d.sort.parts.length cS, .slice vm d.members.length cm, .slice vc d.ctors.length cc] (by kernel_rfl) (by kernel_rfl) ⟨rfl, rfl, rfl, rfl, rfl, rfl, rfl⟩ ⟨rfl, rfl, rfl, rfl, rfl, rfl, rfl⟩ (by decide) (by refine ⟨?_, ?_, ?_, ?_, ?_, ?_⟩ <;> exact of_decide_eq_true (by kernel_rfl)) ?_ ?_ ?_ ?_ ?_ ?_ ?_ ?_ ?_ ?_ ?_ ?_
  · exact after_ex (by kernel_rfl)
  · exact after_ex (by kernel_rfl)
  · exact after_ex (by kernel_rfl)
  · exact after_six (by kernel_rfl)
  · intro a W K hr hK
    have t0 : a.tmps.getD 0 undef = .slice A ds.length c := (hr 0 (by decide) (by decide) (by decide) (by decide) (by decide) (by decide))
    have u0 := t0
    rw [Array.getD_eq_getD_getElem?] at u0
    simp [Oper.wp, Oper.upon, execOp, Act.eval, go_sem, t0, u0]
    exact hK
  · intro a W K hx t18 hK
    have u18 := t18
    rw [Array.getD_eq_getD_getElem?] at u18
    simp [Oper.wp, Oper.upon, execOp, Act.eval, go_sem, t18, u18]
    refine (lentDecls_any ds _ _ (Hd.out.ext mono_decl (HX1.out.tr hx))).mono ?_
    rintro e wa ⟨hb, v, rfl, hL⟩
    obtain ⟨b3, c3, rfl, _⟩ := id hL
    exact hK _ _ hb ⟨_, _, rfl, hL⟩
  · intro a W K hx hr hK
    have t3 : a.tmps.getD 3 undef = .pointer (some ⟨w.heap.size, 0, none⟩) := (hr 3 (by decide) (by decide) (by decide) (by decide) (by decide) (by decide))
    have u3 := t3
    rw [Array.getD_eq_getD_getElem?] at u3
    exact wp_load_mid 42 (.tmp 3) rfl w.heap.size 0 t3 [.int .i64 d.kind, .int .i64 d.levels, .int .i64 d.type.kind, .int .i64 d.type.num, .int .i64 d.type.at_, .slice A1 d.type.levels.length c1, .slice A2 d.type.kids.length c2, .int .i64 d.body.kind, .int .i64 d.body.num, .int .i64 d.body.at_, .slice A3 d.body.levels.length c3, .slice A4 d.body.kids.length c4, .slice vp d.params.length cp, .slice vS d.sort.parts.length cS, .slice vm d.members.length cm, .slice vc d.ctors.length cc] _ (HC.out.ext hx) hu rfl hi16 hK
  · intro a W K hx t20 hK
    have u20 := t20
    rw [Array.getD_eq_getD_getElem?] at u20
    simp [Oper.wp, Oper.upon, execOp, Act.eval, go_sem, t20, u20]
    refine (copyDecl_any d _ _ (mono_decl _ _ _ _ (HX1.out.tr hx) HR.out)).mono ?_
    rintro e wb ⟨hb, cs', rfl, hL⟩
    exact hK _ _ hb (rdecl_ones hL) hL
  · intro a W K hK
    simp [Oper.wp, Oper.upon, execOp, Act.eval, go_sem]
    exact hK _ ((Ext.rf _).al _) (by simp) (there_fresh W 42 #[.int .i64 0, .int .i64 0, .int .i64 0, .int .i64 0, .int .i64 0, .slice none 0 0, .slice none 0 0, .int .i64 0, .int .i64 0, .int .i64 0, .slice none 0 0, .slice none 0 0, .slice none 0 0, .slice none 0 0, .slice none 0 0, .slice none 0 0] 16 (by decide))
  · intro a W K v t19 hK
    have u19 := t19
    rw [Array.getD_eq_getD_getElem?] at u19
    simp [Oper.wp, Oper.upon, execOp, Act.eval, go_sem, t19, u19]
    exact hK
  · intro a W K g ys t12 t21 hth hln hone hK
    exact wp_store_mid 42 (.tmp 6) (.tmp 16) rfl g 0 ys.toArray t12 t21 (by rw [List.size_toArray, hln]; exact hth) (by rw [List.size_toArray, hln]; exact hi16) (all_oneCell_toArray hone) hK
  · rintro ⟨T0, D0⟩ w3 g v ys hx3 hdf hsz hge h11 ⟨b3, e0, rfl, hld⟩ h12 hln hcs hlt hrest
    have HLD := hid (hld.sub monoC_ldecl monoC_decl (only_sub _ _))
    have HLT := hid (monoC_decl _ _ _ _ (only_sub _ _) hlt)
    have HG := hid hcs
    have HC3 := hid (HC.out.ext hx3)
    have HX3 := hid (HX1.out.tr hx3)
    have hK0 := hK
    have Hln := hid hln
    clear hld hlt hcs hx3 hln
    obtain ⟨f, hf, hT⟩ := frame_slots T0 37 hsz
    have f5 := (hf 5).symm.trans h11
    have f6 := (hf 6).symm.trans h12
    have f0 : f 0 = .slice A ds.length c := (hf 0).symm.trans (hrest 0 (by decide) (by decide) (by decide) (by decide) (by decide) (by decide))
    have f3 : f 3 = .pointer (some ⟨w.heap.size, 0, none⟩) := (hf 3).symm.trans (hrest 3 (by decide) (by decide) (by decide) (by decide) (by decide) (by decide))
    have f4 : f 4 = .bool false := (hf 4).symm.trans (hrest 4 (by decide) (by decide) (by decide) (by decide) (by decide) (by decide))
    have hD : D0 = [] := hdf
    clear hf hrest hsz hdf h11 h12
    subst hT hD
    simp only [slots, Nat.reduceAdd, f5, f6, f0, f3, f4]
    go_upto_region 4 with fail
    refine wp_region_steps (fun s W v => match s with | 17 => v = .slice (some ⟨b3, 0, none⟩) ds.length e0 | 18 => v = .agg ys.toArray | 19 => v = .bool (pB (DeclP ds d)) | 20 => v = .slice A ds.length c | 21 => v = .agg #[.int .i64 d.kind, .int .i64 d.levels, .int .i64 d.type.kind, .int .i64 d.type.num, .int .i64 d.type.at_, .slice A1 d.type.levels.length c1, .slice A2 d.type.kids.length c2, .int .i64 d.body.kind, .int .i64 d.body.num, .int .i64 d.body.at_, .slice A3 d.body.levels.length c3, .slice A4 d.body.kids.length c4, .slice vp d.params.length cp, .slice vS d.sort.parts.length cS, .slice vm d.members.length cm, .slice vc d.ctors.length cc] | 22 => v = .bool (pB (DeclP ds d)) | 23 => v = .bool true | 24 => v = .bool true | 25 => v = .slice (some ⟨b3, 0, none⟩) ds.length e0 | 26 => v = .slice A ds.length c | 27 => v = .bool true | 28 => v = .bool true | 29 => v = .bool true | 30 => v = .agg ys.toArray | 31 => v = .agg #[.int .i64 d.kind, .int .i64 d.levels, .int .i64 d.type.kind, .int .i64 d.type.num, .int .i64 d.type.at_, .slice A1 d.type.levels.length c1, .slice A2 d.type.kids.length c2, .int .i64 d.body.kind, .int .i64 d.body.num, .int .i64 d.body.at_, .slice A3 d.body.levels.length c3, .slice A4 d.body.kids.length c4, .slice vp d.params.length cp, .slice vS d.sort.parts.length cS, .slice vm d.members.length cm, .slice vc d.ctors.length cc] | 32 => v = .bool true | 33 => v = .bool true | 34 => v = .bool true | 35 => v = .bool true | 36 => v = .bool true | 4 => v = .bool true | _ => True) (by kernel_rfl) (by kernel_rfl) (of_decide_eq_true (by kernel_rfl)) (by kernel_rfl) (fun s W W' v _ h => h) ?_ ?_
    · refine ⟨?_, ?_, ?_, ?_, ?_, ?_, ?_, ?_, ?_, ?_, ?_, ?_, ?_, ?_, ?_, ?_, ?_, ?_, ?_, ?_, ?_, trivial⟩
      · intro a W hx hdf hsz hg hi K hK
        refine step_free rfl ?_
        have t5 : a.tmps.getD 5 undef = .slice (some ⟨b3, 0, none⟩) ds.length e0 := hi 5 (by kernel_rfl)
        have u5 := t5
        rw [Array.getD_eq_getD_getElem?] at u5
        simp [Oper.wp, Oper.upon, execOp, Act.eval, go_sem, t5, u5]
        exact hK _ _ (Ext.rf _) (fun d' h => by cases h; exact rfl)
      · intro a W hx hdf hsz hg hi K hK
        refine step_free rfl ?_
        have t6 : a.tmps.getD 6 undef = .pointer (some ⟨g, 0, none⟩) := hi 6 (by kernel_rfl)
        have u6 := t6
        rw [Array.getD_eq_getD_getElem?] at u6
        refine wp_load_mid 42 (.tmp 6) rfl g 0 t6 ys _ (HG.out.ext hx) hu rfl (by rw [Hln.out]; exact hi16) ?_
        exact hK _ _ (Ext.rf _) (fun d' h => by cases h; exact rfl)
      · intro a W hx hdf hsz hg hi K hK
        refine step_free rfl ?_
        have t17 : a.tmps.getD 17 undef = .slice (some ⟨b3, 0, none⟩) ds.length e0 := hg 17 (by kernel_rfl)
        have t18 : a.tmps.getD 18 undef = .agg ys.toArray := hg 18 (by kernel_rfl)
        have u17 := t17
        rw [Array.getD_eq_getD_getElem?] at u17
        have u18 := t18
        rw [Array.getD_eq_getD_getElem?] at u18
        simp [Oper.wp, Oper.upon, execOp, Act.eval, go_sem, t17, u17, t18, u18]
        refine (srcDecl_any ds d _ _ _ (hK0.ext (HX3.out.tr hx)) (lsl_decls (HLD.out.sub monoC_ldecl monoC_decl hx.sub)) (mono_decl _ _ _ _ hx HLT.out)).mono ?_
        intro e w' h
        obtain ⟨rfl, hb⟩ := told_pB h
        exact hK _ _ hb (fun d' h => by cases h; exact rfl)
      · intro a W hx hdf hsz hg hi K hK
        refine step_free rfl ?_
        have t0 : a.tmps.getD 0 undef = .slice A ds.length c := hi 0 (by kernel_rfl)
        have u0 := t0
        rw [Array.getD_eq_getD_getElem?] at u0
        simp [Oper.wp, Oper.upon, execOp, Act.eval, go_sem, t0, u0]
        exact hK _ _ (Ext.rf _) (fun d' h => by cases h; exact rfl)
      · intro a W hx hdf hsz hg hi K hK
        refine step_free rfl ?_
        have t3 : a.tmps.getD 3 undef = .pointer (some ⟨w.heap.size, 0, none⟩) := hi 3 (by kernel_rfl)
        have u3 := t3
        rw [Array.getD_eq_getD_getElem?] at u3
        refine wp_load_mid 42 (.tmp 3) rfl w.heap.size 0 t3 [.int .i64 d.kind, .int .i64 d.levels, .int .i64 d.type.kind, .int .i64 d.type.num, .int .i64 d.type.at_, .slice A1 d.type.levels.length c1, .slice A2 d.type.kids.length c2, .int .i64 d.body.kind, .int .i64 d.body.num, .int .i64 d.body.at_, .slice A3 d.body.levels.length c3, .slice A4 d.body.kids.length c4, .slice vp d.params.length cp, .slice vS d.sort.parts.length cS, .slice vm d.members.length cm, .slice vc d.ctors.length cc] _ (HC3.out.ext hx) hu rfl hi16 ?_
        exact hK _ _ (Ext.rf _) (fun d' h => by cases h; exact rfl)
      · intro a W hx hdf hsz hg hi K hK
        refine step_free rfl ?_
        have t20 : a.tmps.getD 20 undef = .slice A ds.length c := hg 20 (by kernel_rfl)
        have t21 : a.tmps.getD 21 undef = .agg #[.int .i64 d.kind, .int .i64 d.levels, .int .i64 d.type.kind, .int .i64 d.type.num, .int .i64 d.type.at_, .slice A1 d.type.levels.length c1, .slice A2 d.type.kids.length c2, .int .i64 d.body.kind, .int .i64 d.body.num, .int .i64 d.body.at_, .slice A3 d.body.levels.length c3, .slice A4 d.body.kids.length c4, .slice vp d.params.length cp, .slice vS d.sort.parts.length cS, .slice vm d.members.length cm, .slice vc d.ctors.length cc] := hg 21 (by kernel_rfl)
        have u20 := t20
        rw [Array.getD_eq_getD_getElem?] at u20
        have u21 := t21
        rw [Array.getD_eq_getD_getElem?] at u21
        simp [Oper.wp, Oper.upon, execOp, Act.eval, go_sem, t20, u20, t21, u21]
        refine (refDecl_any ds _ d _ _ (Hd.out.ext mono_decl (HX3.out.tr hx)) (mono_decl _ _ _ _ (HX3.out.tr hx) HR.out)).mono ?_
        intro e w' h
        obtain ⟨rfl, hb⟩ := tells_b h
        exact hK _ _ hb (fun d' h => by cases h; exact rfl)
      · intro a W hx hdf hsz hg hi K hK
        refine step_free rfl ?_
        have t19 : a.tmps.getD 19 undef = .bool (pB (DeclP ds d)) := hg 19 (by kernel_rfl)
        have t22 : a.tmps.getD 22 undef = .bool (pB (DeclP ds d)) := hg 22 (by kernel_rfl)
        have u19 := t19
        rw [Array.getD_eq_getD_getElem?] at u19
        have u22 := t22
        rw [Array.getD_eq_getD_getElem?] at u22
        simp [Oper.wp, Oper.upon, execOp, Act.eval, go_sem, t19, u19, t22, u22]
        exact hK _ _ (Ext.rf _) (fun d' h => by cases h; exact rfl)
      · intro a W hx hdf hsz hg hi K hK
        refine step_free rfl ?_
        have t23 : a.tmps.getD 23 undef = .bool true := hg 23 (by kernel_rfl)
        have u23 := t23
        rw [Array.getD_eq_getD_getElem?] at u23
        simp [Oper.wp, Oper.upon, execOp, Act.eval, go_sem, t23, u23]
        exact hK _ _ (Ext.rf _) (fun d' h => by cases h; exact rfl)
      · intro a W hx hdf hsz hg hi K hK
        have G24 : a.tmps.getD 24 undef = .bool true := hg 24 (by kernel_rfl)
        refine step_guard rfl rfl (by have hz : a.tmps.size = 37 := hsz; omega) G24 (fun _ => ?_) (fun h => absurd rfl h)
        have t5 : a.tmps.getD 5 undef = .slice (some ⟨b3, 0, none⟩) ds.length e0 := hi 5 (by kernel_rfl)
        have u5 := t5
        rw [Array.getD_eq_getD_getElem?] at u5
        simp [Oper.wp, Oper.upon, execOp, Act.eval, go_sem, t5, u5]
        exact hK _ _ (Ext.rf _) (fun d' h => by cases h; exact rfl)
      · intro a W hx hdf hsz hg hi K hK
        have G24 : a.tmps.getD 24 undef = .bool true := hg 24 (by kernel_rfl)
        refine step_guard rfl rfl (by have hz : a.tmps.size = 37 := hsz; omega) G24 (fun _ => ?_) (fun h => absurd rfl h)
        have t0 : a.tmps.getD 0 undef = .slice A ds.length c := hi 0 (by kernel_rfl)
        have u0 := t0
        rw [Array.getD_eq_getD_getElem?] at u0
        simp [Oper.wp, Oper.upon, execOp, Act.eval, go_sem, t0, u0]
        exact hK _ _ (Ext.rf _) (fun d' h => by cases h; exact rfl)
      · intro a W hx hdf hsz hg hi K hK
        have G24 : a.tmps.getD 24 undef = .bool true := hg 24 (by kernel_rfl)
        refine step_guard rfl rfl (by have hz : a.tmps.size = 37 := hsz; omega) G24 (fun _ => ?_) (fun h => absurd rfl h)
        have t25 : a.tmps.getD 25 undef = .slice (some ⟨b3, 0, none⟩) ds.length e0 := hg 25 (by kernel_rfl)
        have t26 : a.tmps.getD 26 undef = .slice A ds.length c := hg 26 (by kernel_rfl)
        have u25 := t25
        rw [Array.getD_eq_getD_getElem?] at u25
        have u26 := t26
        rw [Array.getD_eq_getD_getElem?] at u26
        simp [Oper.wp, Oper.upon, execOp, Act.eval, go_sem, t25, u25, t26, u26]
        refine (keptDecls_any ds _ _ _ (HLD.out.sub monoC_ldecl monoC_decl hx.sub) (Hd.out.ext mono_decl (HX3.out.tr hx))).mono ?_
        rintro e w' ⟨rfl, hb⟩
        exact hK _ _ hb (fun d' h => by cases h; exact rfl)
      · intro a W hx hdf hsz hg hi K hK
        refine step_free rfl ?_
        have t24 : a.tmps.getD 24 undef = .bool true := hg 24 (by kernel_rfl)
        have t27 : a.tmps.getD 27 undef = .bool true := hg 27 (by kernel_rfl)
        have u24 := t24
        rw [Array.getD_eq_getD_getElem?] at u24
        have u27 := t27
        rw [Array.getD_eq_getD_getElem?] at u27
        simp [Oper.wp, Oper.upon, execOp, Act.eval, go_sem, t24, u24, t27, u27]
        exact hK _ _ (Ext.rf _) (fun d' h => by cases h; exact rfl)
      · intro a W hx hdf hsz hg hi K hK
        refine step_free rfl ?_
        have t28 : a.tmps.getD 28 undef = .bool true := hg 28 (by kernel_rfl)
        have u28 := t28
        rw [Array.getD_eq_getD_getElem?] at u28
        simp [Oper.wp, Oper.upon, execOp, Act.eval, go_sem, t28, u28]
        exact hK _ _ (Ext.rf _) (fun d' h => by cases h; exact rfl)
      · intro a W hx hdf hsz hg hi K hK
        have G29 : a.tmps.getD 29 undef = .bool true := hg 29 (by kernel_rfl)
        refine step_guard rfl rfl (by have hz : a.tmps.size = 37 := hsz; omega) G29 (fun _ => ?_) (fun h => absurd rfl h)
        have t6 : a.tmps.getD 6 undef = .pointer (some ⟨g, 0, none⟩) := hi 6 (by kernel_rfl)
        have u6 := t6
        rw [Array.getD_eq_getD_getElem?] at u6
        refine wp_load_mid 42 (.tmp 6) rfl g 0 t6 ys _ (HG.out.ext hx) hu rfl (by rw [Hln.out]; exact hi16) ?_
        exact hK _ _ (Ext.rf _) (fun d' h => by cases h; exact rfl)
      · intro a W hx hdf hsz hg hi K hK
        have G29 : a.tmps.getD 29 undef = .bool true := hg 29 (by kernel_rfl)
        refine step_guard rfl rfl (by have hz : a.tmps.size = 37 := hsz; omega) G29 (fun _ => ?_) (fun h => absurd rfl h)
        have t3 : a.tmps.getD 3 undef = .pointer (some ⟨w.heap.size, 0, none⟩) := hi 3 (by kernel_rfl)
        have u3 := t3
        rw [Array.getD_eq_getD_getElem?] at u3
        refine wp_load_mid 42 (.tmp 3) rfl w.heap.size 0 t3 [.int .i64 d.kind, .int .i64 d.levels, .int .i64 d.type.kind, .int .i64 d.type.num, .int .i64 d.type.at_, .slice A1 d.type.levels.length c1, .slice A2 d.type.kids.length c2, .int .i64 d.body.kind, .int .i64 d.body.num, .int .i64 d.body.at_, .slice A3 d.body.levels.length c3, .slice A4 d.body.kids.length c4, .slice vp d.params.length cp, .slice vS d.sort.parts.length cS, .slice vm d.members.length cm, .slice vc d.ctors.length cc] _ (HC3.out.ext hx) hu rfl hi16 ?_
        exact hK _ _ (Ext.rf _) (fun d' h => by cases h; exact rfl)
      · intro a W hx hdf hsz hg hi K hK
        have G29 : a.tmps.getD 29 undef = .bool true := hg 29 (by kernel_rfl)
        refine step_guard rfl rfl (by have hz : a.tmps.size = 37 := hsz; omega) G29 (fun _ => ?_) (fun h => absurd rfl h)
        have t30 : a.tmps.getD 30 undef = .agg ys.toArray := hg 30 (by kernel_rfl)
        have t31 : a.tmps.getD 31 undef = .agg #[.int .i64 d.kind, .int .i64 d.levels, .int .i64 d.type.kind, .int .i64 d.type.num, .int .i64 d.type.at_, .slice A1 d.type.levels.length c1, .slice A2 d.type.kids.length c2, .int .i64 d.body.kind, .int .i64 d.body.num, .int .i64 d.body.at_, .slice A3 d.body.levels.length c3, .slice A4 d.body.kids.length c4, .slice vp d.params.length cp, .slice vS d.sort.parts.length cS, .slice vm d.members.length cm, .slice vc d.ctors.length cc] := hg 31 (by kernel_rfl)
        have u30 := t30
        rw [Array.getD_eq_getD_getElem?] at u30
        have u31 := t31
        rw [Array.getD_eq_getD_getElem?] at u31
        simp [Oper.wp, Oper.upon, execOp, Act.eval, go_sem, t30, u30, t31, u31]
        refine (sameDecl_any d _ _ _ (mono_decl _ _ _ _ hx HLT.out) (mono_decl _ _ _ _ (HX3.out.tr hx) HR.out)).mono ?_
        rintro e w' ⟨rfl, hb⟩
        exact hK _ _ hb (fun d' h => by cases h; exact rfl)
      · intro a W hx hdf hsz hg hi K hK
        refine step_free rfl ?_
        have t29 : a.tmps.getD 29 undef = .bool true := hg 29 (by kernel_rfl)
        have t32 : a.tmps.getD 32 undef = .bool true := hg 32 (by kernel_rfl)
        have u29 := t29
        rw [Array.getD_eq_getD_getElem?] at u29
        have u32 := t32
        rw [Array.getD_eq_getD_getElem?] at u32
        simp [Oper.wp, Oper.upon, execOp, Act.eval, go_sem, t29, u29, t32, u32]
        exact hK _ _ (Ext.rf _) (fun d' h => by cases h; exact rfl)
      · intro a W hx hdf hsz hg hi K hK
        refine step_free rfl ?_
        have t33 : a.tmps.getD 33 undef = .bool true := hg 33 (by kernel_rfl)
        have u33 := t33
        rw [Array.getD_eq_getD_getElem?] at u33
        simp [Oper.wp, Oper.upon, execOp, Act.eval, go_sem, t33, u33]
        exact hK _ _ (Ext.rf _) (fun d' h => by cases h; exact rfl)
      · intro a W hx hdf hsz hg hi K hK
        have G34 : a.tmps.getD 34 undef = .bool true := hg 34 (by kernel_rfl)
        refine step_guard rfl rfl (by have hz : a.tmps.size = 37 := hsz; omega) G34 (fun _ => ?_) (fun h => absurd rfl h)
        simp [Oper.wp, Oper.upon, execOp, Act.eval, go_sem]
        refine (awake_any _ (hK0.ext (HX3.out.tr hx))).mono ?_
        rintro e w' ⟨rfl, hb⟩
        exact hK _ _ hb (fun d' h => by cases h; exact rfl)
      · intro a W hx hdf hsz hg hi K hK
        refine step_free rfl ?_
        have t34 : a.tmps.getD 34 undef = .bool true := hg 34 (by kernel_rfl)
        have t35 : a.tmps.getD 35 undef = .bool true := hg 35 (by kernel_rfl)
        have u34 := t34
        rw [Array.getD_eq_getD_getElem?] at u34
        have u35 := t35
        rw [Array.getD_eq_getD_getElem?] at u35
        simp [Oper.wp, Oper.upon, execOp, Act.eval, go_sem, t34, u34, t35, u35]
        exact hK _ _ (Ext.rf _) (fun d' h => by cases h; exact rfl)
      · intro a W hx hdf hsz hg hi K hK
        refine step_free rfl ?_
        have t36 : a.tmps.getD 36 undef = .bool true := hg 36 (by kernel_rfl)
        have u36 := t36
        rw [Array.getD_eq_getD_getElem?] at u36
        simp [Oper.wp, Oper.upon, execOp, Act.eval, go_sem, t36, u36]
        exact hK _ _ (Ext.rf _) (fun d' h => by cases h; exact rfl)
    · rintro ⟨T4, D4⟩ w4 hx4 hdf hsz hg hi
      have h10 : T4.getD 4 undef = .bool true := hg 4 (by kernel_rfl)
      obtain ⟨f', hf', hT⟩ := frame_slots T4 37 hsz
      have g4 := (hf' 4).symm.trans h10
      have hD : D4 = [] := hdf
      clear hf' hi hg hsz hdf h10
      subst hT hD
      simp only [slots, Nat.reduceAdd, g4]
      go_wp2_with fail
      go_ret
      exact ⟨rfl, HX3.out.tr hx4⟩
end Go.Proofs.YtjaklnabidbmiaaGreatDoor

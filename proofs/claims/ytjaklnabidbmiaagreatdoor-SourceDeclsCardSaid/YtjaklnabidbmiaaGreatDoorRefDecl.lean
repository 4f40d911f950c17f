/- Walk: spandrelref11.Decl. -/
import Derived.Test.YtjaklnabidbmiaaGreatDoorRefBlk
namespace Go.Proofs.YtjaklnabidbmiaaGreatDoor
open Go.RowKit
set_option linter.unusedSimpArgs false
set_option linter.unusedVariables false

set_option maxRecDepth 100000 in
set_option maxHeartbeats 4000000 in
theorem refDecl_any (ds : List Decl) (vd : Value) (d : Decl) (cs : List Value) (w : World) (hd : SlDecl w ds vd) (hR : RDecl w d cs) :
    Calls Tryz.prog 15 #[vd, .agg cs.toArray] w (Tells (DeclP ds d) w) := by
  obtain ⟨A0, c0, hv0, -⟩ := id hd
  have hd0 := hid hd
  clear hd
  subst hv0
  have hR0 := hid hR
  obtain ⟨A1, c1, A2, c2, A3, c3, A4, c4, cp, vp, cS, vS, cm, vm, cc, vc, rfl, hik, hil, ht, hb, hp, hS, hm, hc⟩ := rdecl_open hR
  have Ht := hid ht
  have Hb := hid hb
  have l1 := sl_len hp
  have l2 := sl_len hS
  have l3 := sl_len hm
  have l4 := sl_len hc
  clear ht hb hp hS hm hc hR
  have HD := hid (show DeclP ds d ↔ _ from Iff.rfl)
  have hxb : Ext w _ := (Ext.rf w).al (.cells #[.int .i64 d.kind, .int .i64 d.levels, .int .i64 d.type.kind, .int .i64 d.type.num, .int .i64 d.type.at_, .slice A1 d.type.levels.length c1, .slice A2 d.type.kids.length c2, .int .i64 d.body.kind, .int .i64 d.body.num, .int .i64 d.body.at_, .slice A3 d.body.levels.length c3, .slice A4 d.body.kids.length c4, .slice vp d.params.length cp, .slice vS d.sort.parts.length cS, .slice vm d.members.length cm, .slice vc d.ctors.length cc] 42)
  have Hxb := hid hxb
  clear hxb
  by_cases h1 : 0 ≤ d.levels
  rotate_left
  · have hno : ¬ DeclP ds d := fun h => h1 h.1.1
    have Hno := hid hno
    have h1' : d.levels < 0 := by omega
    clear hno h1
    go_enter Tryz.func15, Tryz.ntmps15
    go_wp2_with fail
    go_ret
    exact ⟨Hxb.out, .inr ⟨Hno.out, rfl⟩⟩
  by_cases h2 : d.levels < 8
  rotate_left
  · have hno : ¬ DeclP ds d := fun h => h2 h.1.2
    have Hno := hid hno
    have h2' : 7 < d.levels := by omega
    clear hno h2
    go_enter Tryz.func15, Tryz.ntmps15
    go_wp2_with fail
    go_ret
    exact ⟨Hxb.out, .inr ⟨Hno.out, rfl⟩⟩
  by_cases h3 : d.kind = 3
  · have h3b : (d.kind == 3) = true := by simpa using h3
    have H3 := hid h3
    clear h3
    go_enter Tryz.func15, Tryz.ntmps15
    go_wp2_with fail
    refine (refBlock_any ds _ d _ _ (hd0.out.ext mono_decl Hxb.out) (mono_decl _ _ _ _ Hxb.out hR0.out)).mono ?_
    rintro e w6 ⟨hx6, ⟨hsub, rfl⟩ | ⟨hsub, rfl⟩⟩
    · go_wp2_with fail
      go_ret
      exact ⟨Hxb.out.tr hx6, .inl ⟨⟨⟨h1, h2⟩, .inl ⟨H3.out, hsub⟩⟩, rfl⟩⟩
    · go_wp2_with fail
      go_ret
      exact ⟨Hxb.out.tr hx6, .inr ⟨fun h => h.2.elim (fun h => hsub h.2) (fun h => h.1 H3.out), rfl⟩⟩
  · have h3b : (d.kind == 3) = false := by simpa using h3
    have H3 := hid h3
    clear h3
    by_cases hz : d.params.length = 0 ∧ d.sort.parts.length = 0 ∧ d.members.length = 0 ∧ d.ctors.length = 0
    rotate_left
    · have hno : ¬ DeclP ds d := fun h => h.2.elim (fun h => H3.out h.1) (fun h => hz h.2.1)
      have Hno := hid hno
      have hz' : 0 < (d.params.length : Int) + (d.sort.parts.length : Int) + (d.members.length : Int) + (d.ctors.length : Int) := by omega
      clear hno hz
      go_enter Tryz.func15, Tryz.ntmps15
      go_wp2_with fail
      go_ret
      exact ⟨Hxb.out, .inr ⟨Hno.out, rfl⟩⟩
    have Hz := hid hz
    have hz' : ¬ 0 < (d.params.length : Int) + (d.sort.parts.length : Int) + (d.members.length : Int) + (d.ctors.length : Int) := by omega
    clear hz
    go_enter Tryz.func15, Tryz.ntmps15
    go_wp2_with fail
    refine (refElRight_any ds d.levels 0 0 _ d.type _ _ (hd0.out.ext mono_decl Hxb.out) (mono_term _ _ _ _ Hxb.out Ht.out)).mono ?_
    rintro e w6 ⟨hx6, ⟨hsub, rfl⟩ | ⟨hsub, rfl⟩⟩
    rotate_left
    · go_wp2_with fail
      go_ret
      exact ⟨Hxb.out.tr hx6, .inr ⟨fun h => h.2.elim (fun h => H3.out h.1) (fun h => hsub h.2.2.1), rfl⟩⟩
    have q0 : w6.cell? ⟨w.heap.size, 0, none⟩ = some (.int .i64 d.kind) := hx6.cell (by simp [go_sem])
    have q1 : w6.cell? ⟨w.heap.size, 1, none⟩ = some (.int .i64 d.levels) := hx6.cell (by simp [go_sem])
    have q7 : w6.cell? ⟨w.heap.size, 7, none⟩ = some (.int .i64 d.body.kind) := hx6.cell (by simp [go_sem])
    have q8 : w6.cell? ⟨w.heap.size, 8, none⟩ = some (.int .i64 d.body.num) := hx6.cell (by simp [go_sem])
    have q9 : w6.cell? ⟨w.heap.size, 9, none⟩ = some (.int .i64 d.body.at_) := hx6.cell (by simp [go_sem])
    have q10 : w6.cell? ⟨w.heap.size, 10, none⟩ = some (.slice A3 d.body.levels.length c3) := hx6.cell (by simp [go_sem])
    have q11 : w6.cell? ⟨w.heap.size, 11, none⟩ = some (.slice A4 d.body.kids.length c4) := hx6.cell (by simp [go_sem])
    have hx := hid (Hxb.out.tr hx6)
    by_cases hk1 : d.kind = 1
    · have hk1b : (d.kind == 1) = true := by simpa using hk1
      have Hk1 := hid hk1
      clear hk1 h3b
      go_wp2_with fail
      refine (refBare_any d.body _ _ (mono_term _ _ _ _ hx.out Hb.out)).mono ?_
      rintro e w7 ⟨rfl, hx7⟩
      go_wp2_with fail
      go_ret
      refine ⟨hx.out.tr hx7, ?_⟩
      cases hbb : decide (Bare d.body)
      · exact .inr ⟨fun h => h.2.elim (fun h => H3.out h.1) (fun h => h.2.2.2.elim (fun h => of_decide_eq_false hbb h.2) (fun h => by have := Hk1.out; omega)), rfl⟩
      · exact .inl ⟨⟨⟨h1, h2⟩, .inr ⟨H3.out, Hz.out, hsub, .inl ⟨Hk1.out, of_decide_eq_true hbb⟩⟩⟩, rfl⟩
    · have hk1b : (d.kind == 1) = false := by simpa using hk1
      have Hk1 := hid hk1
      clear hk1 h3b
      by_cases hk2 : d.kind = 2
      · have hk2b : (d.kind == 2) = true := by simpa using hk2
        have Hk2 := hid hk2
        clear hk2 hk1b
        go_wp2_with fail
        refine (refElRight_any ds d.levels 0 0 _ d.body _ _ (hd0.out.ext mono_decl hx.out) (mono_term _ _ _ _ hx.out Hb.out)).mono ?_
        rintro e w7 ⟨hx7, ⟨hsub2, rfl⟩ | ⟨hsub2, rfl⟩⟩
        · go_wp2_with fail
          go_ret
          exact ⟨hx.out.tr hx7, .inl ⟨⟨⟨h1, h2⟩, .inr ⟨H3.out, Hz.out, hsub, .inr ⟨Hk2.out, hsub2⟩⟩⟩, rfl⟩⟩
        · go_wp2_with fail
          go_ret
          exact ⟨hx.out.tr hx7, .inr ⟨fun h => h.2.elim (fun h => H3.out h.1) (fun h => h.2.2.2.elim (fun h => Hk1.out h.1) (fun h => hsub2 h.2)), rfl⟩⟩
      · have hk2b : (d.kind == 2) = false := by simpa using hk2
        have Hk2 := hid hk2
        clear hk2
        go_wp2_with fail
        go_ret
        exact ⟨hx.out, .inr ⟨fun h => h.2.elim (fun h => H3.out h.1) (fun h => h.2.2.2.elim (fun h => Hk1.out h.1) (fun h => Hk2.out h.1)), rfl⟩⟩
end Go.Proofs.YtjaklnabidbmiaaGreatDoor

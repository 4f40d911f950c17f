/- Walk: source.Decl. -/
import Derived.Test.YtjaklnabidbmiaaDoorBlock2
namespace Go.Proofs.YtjaklnabidbmiaaDoor
open Go.RowKit
set_option linter.unusedSimpArgs false
set_option linter.unusedVariables false

def DeclRest (ds : List Decl) (d : Decl) : Prop := (d.kind = 1 ∧ Bare d.body) ∨ (d.kind = 2 ∧ RightP ds d.levels 0 0 d.body)
/-- A declaration is right. -/
def DeclP (ds : List Decl) (d : Decl) : Prop :=
  (0 ≤ d.levels ∧ d.levels < 8) ∧ ((d.kind = 3 ∧ BlockP ds d.levels 0 d) ∨
    (d.kind ≠ 3 ∧ (d.params.length = 0 ∧ d.sort.parts.length = 0 ∧ d.members.length = 0 ∧ d.ctors.length = 0) ∧ RightP ds d.levels 0 0 d.type ∧ DeclRest ds d))
theorem bone {p q : Prop} (h : p → q) (h2 : ¬ q) : ¬ p := fun x => h2 (h x)
theorem enters_decl1 : Enters 27 := ⟨fun _ _ => by simp [go_sem]⟩
theorem sl_len {α : Type} {R : World → α → List Value → Prop} {sz by_ : Nat} {w : World} {xs : List α} {v : Value} (h : Sl R sz (by_ + 1) w xs v) : xs.length ≤ 140737488351232 := by
  obtain ⟨A, c, _, h1, h2⟩ := h
  exact h2.len_le
set_option maxRecDepth 100000 in
set_option maxHeartbeats 2000000 in
theorem decl1_any (ds : List Decl) (d : Decl) (vd : Value) (cs : List Value) (g g2 : Nat) (w : World) (hK : KindsIn w) (hd : SlDecl w ds vd) (hR : RDecl w d cs)
    (hg : cellsAt w g 0 cs) (hg2 : w.cell? ⟨g2, 0, none⟩ = some vd) :
    Calls Tryd.prog 27 #[.pointer (some ⟨g, 0, none⟩), .pointer (some ⟨g2, 0, none⟩)] w fun e w' =>
      Ext w w' ∧ ((DeclP ds d ∧ e = .returned (.tuple #[])) ∨ (¬ DeclP ds d ∧ e = .panicked wrongs)) := by
  obtain ⟨A0, c0, hv0, hc0, hr0⟩ := id hd
  have hd0 := hid hd
  clear hd
  subst hv0
  have hR0 := hid hR
  obtain ⟨A1, c1, A2, c2, A3, c3, A4, c4, cp, vp, cS, vS, cm, vm, cc, vc, rfl, hik, hil, ht, hb, hp, hS, hm, hc⟩ := rdecl_open hR
  have Ht := hid ht
  have Hb := hid hb
  have l1 := sl_len hp
  have l2 := sl_len hS
  have l3 := sl_len hm
  have l4 := sl_len hc
  clear ht hb hp hS hm hc hR
  have h0 : w.cell? ⟨g, 0, none⟩ = some (.int .i64 d.kind) := hg.at0
  have h1 : w.cell? ⟨g, 1, none⟩ = some (.int .i64 d.levels) := by have := hg 1 _ rfl; rwa [Nat.zero_add] at this
  have h2 : w.cell? ⟨g, 2, none⟩ = some (.int .i64 d.type.kind) := by have := hg 2 _ rfl; rwa [Nat.zero_add] at this
  have h3 : w.cell? ⟨g, 3, none⟩ = some (.int .i64 d.type.num) := by have := hg 3 _ rfl; rwa [Nat.zero_add] at this
  have h4 : w.cell? ⟨g, 4, none⟩ = some (.int .i64 d.type.at_) := by have := hg 4 _ rfl; rwa [Nat.zero_add] at this
  have h5 : w.cell? ⟨g, 5, none⟩ = some (.slice A1 d.type.levels.length c1) := by have := hg 5 _ rfl; rwa [Nat.zero_add] at this
  have h6 : w.cell? ⟨g, 6, none⟩ = some (.slice A2 d.type.kids.length c2) := by have := hg 6 _ rfl; rwa [Nat.zero_add] at this
  have h7 : w.cell? ⟨g, 7, none⟩ = some (.int .i64 d.body.kind) := by have := hg 7 _ rfl; rwa [Nat.zero_add] at this
  have h8 : w.cell? ⟨g, 8, none⟩ = some (.int .i64 d.body.num) := by have := hg 8 _ rfl; rwa [Nat.zero_add] at this
  have h9 : w.cell? ⟨g, 9, none⟩ = some (.int .i64 d.body.at_) := by have := hg 9 _ rfl; rwa [Nat.zero_add] at this
  have h10 : w.cell? ⟨g, 10, none⟩ = some (.slice A3 d.body.levels.length c3) := by have := hg 10 _ rfl; rwa [Nat.zero_add] at this
  have h11 : w.cell? ⟨g, 11, none⟩ = some (.slice A4 d.body.kids.length c4) := by have := hg 11 _ rfl; rwa [Nat.zero_add] at this
  have h12 : w.cell? ⟨g, 12, none⟩ = some (.slice vp d.params.length cp) := by have := hg 12 _ rfl; rwa [Nat.zero_add] at this
  have h13 : w.cell? ⟨g, 13, none⟩ = some (.slice vS d.sort.parts.length cS) := by have := hg 13 _ rfl; rwa [Nat.zero_add] at this
  have h14 : w.cell? ⟨g, 14, none⟩ = some (.slice vm d.members.length cm) := by have := hg 14 _ rfl; rwa [Nat.zero_add] at this
  have h15 : w.cell? ⟨g, 15, none⟩ = some (.slice vc d.ctors.length cc) := by have := hg 15 _ rfl; rwa [Nat.zero_add] at this
  have zg : g < w.heap.size := lt_of_cell h0
  have zg2 : g2 < w.heap.size := lt_of_cell hg2
  clear hg
  go_enter Tryd.func27, Tryd.ntmps27
  go_wp2_with fail
  refine (must_any [decide (0 ≤ d.levels), decide (d.levels < 8)] _ _ (sl_bool2 (by simp [go_sem]) (by simp [go_sem]))).mono ?_
  rintro e w1 ⟨rfl, rfl⟩
  have hx : Ext w _ := (Ext.rf w).al (.cells #[.bool (decide (0 ≤ d.levels)), .bool (decide (d.levels < 8))] 4)
  cases hle : ([decide (0 ≤ d.levels), decide (d.levels < 8)].all id)
  · rw [ck_false]
    go_wp2_with fail
    exact ⟨rfl, hx, .inr ⟨fun h => by simp [h.1] at hle, rfl⟩⟩
  rw [ck_true]
  have hlev : 0 ≤ d.levels ∧ d.levels < 8 := by simpa using hle
  clear hle
  generalize w.alloc (.cells #[.bool (decide (0 ≤ d.levels)), .bool (decide (d.levels < 8))] 4) = w1 at hx ⊢
  have q0 := hx.cell h0
  have q1 := hx.cell h1
  have q2 := hx.cell h2
  have q3 := hx.cell h3
  have q4 := hx.cell h4
  have q5 := hx.cell h5
  have q6 := hx.cell h6
  have q7 := hx.cell h7
  have q8 := hx.cell h8
  have q9 := hx.cell h9
  have q10 := hx.cell h10
  have q11 := hx.cell h11
  have q12 := hx.cell h12
  have q13 := hx.cell h13
  have q14 := hx.cell h14
  have q15 := hx.cell h15
  have qg2 := hx.cell hg2
  have yg := lt_of_cell q0
  have yg2 := lt_of_cell qg2
  clear h0 h1 h2 h3 h4 h5 h6 h7 h8 h9 h10 h11 h12 h13 h14 h15 hg2 zg zg2
  by_cases hk3 : d.kind = 3
  · go_wp2_with fail
    have hxA : Ext w _ := hx.al (.cells #[.slice A0 ds.length c0, .int .i64 d.levels, .int .i64 0] 59)
    have hRA : RDecl w1 d [.int .i64 3, .int .i64 d.levels, .int .i64 d.type.kind, .int .i64 d.type.num, .int .i64 d.type.at_, .slice A1 d.type.levels.length c1, .slice A2 d.type.kids.length c2, .int .i64 d.body.kind, .int .i64 d.body.num, .int .i64 d.body.at_, .slice A3 d.body.levels.length c3, .slice A4 d.body.kids.length c4, .slice vp d.params.length cp, .slice vS d.sort.parts.length cS, .slice vm d.members.length cm, .slice vc d.ctors.length cc] := by
      have := mono_decl _ _ _ _ hx hR0.out
      rwa [hk3] at this
    refine (block_any ds d.levels 0 _ d [.int .i64 3, .int .i64 d.levels, .int .i64 d.type.kind, .int .i64 d.type.num, .int .i64 d.type.at_, .slice A1 d.type.levels.length c1, .slice A2 d.type.kids.length c2, .int .i64 d.body.kind, .int .i64 d.body.num, .int .i64 d.body.at_, .slice A3 d.body.levels.length c3, .slice A4 d.body.kids.length c4, .slice vp d.params.length cp, .slice vS d.sort.parts.length cS, .slice vm d.members.length cm, .slice vc d.ctors.length cc] _ (hK.ext hxA) (hd0.out.ext mono_decl hxA) (mono_decl _ _ _ _ ((Ext.rf w1).al _) hRA) rfl).mono ?_
    rintro e w6 ⟨hx6, ⟨hr6, rfl⟩ | ⟨hr6, rfl⟩⟩
    · go_wp2_with fail
      refine bodyPost_ret (results_none rfl _ _ _) rfl ?_
      exact ⟨hxA.tr hx6, .inl ⟨⟨hlev, .inl ⟨hk3, hr6⟩⟩, rfl⟩⟩
    · go_wp2_with fail
      exact ⟨rfl, hxA.tr hx6, .inr ⟨fun h => h.2.elim (fun h => hr6 h.2) (fun h => h.1 hk3), rfl⟩⟩
  · go_wp2_with fail
    have hxA : Ext w _ := hx.al (.cells #[.slice A0 ds.length c0, .int .i64 d.levels, .int .i64 0] 59)
    refine (must_any [_] _ _ (sl_bool1 (by simp [go_sem]; rfl))).mono ?_
    rintro e w2 ⟨rfl, rfl⟩
    cases hle : ([((d.params.length : Int) + (d.sort.parts.length : Int) + (d.members.length : Int) + (d.ctors.length : Int) == 0)].all id)
    · rw [ck_false]
      go_wp2_with fail
      have hno : ¬ DeclP ds d := fun h => h.2.elim (fun h => hk3 h.1) (fun h => by simp [h.2.1] at hle)
      exact ⟨rfl, hxA.al _, .inr ⟨hno, rfl⟩⟩
    rw [ck_true]
    have hz : d.params.length = 0 ∧ d.sort.parts.length = 0 ∧ d.members.length = 0 ∧ d.ctors.length = 0 := by
      have : (d.params.length : Int) + (d.sort.parts.length : Int) + (d.members.length : Int) + (d.ctors.length : Int) = 0 := by simpa using hle
      omega
    have Hz := hid hz
    clear hle hz
    go_wp2_with fail
    have hxB : Ext w _ := hxA.al (.cells #[.bool ((d.params.length : Int) + (d.sort.parts.length : Int) + (d.members.length : Int) + (d.ctors.length : Int) == 0)] 4)
    refine (asks_any ds d.levels 0 0 _ d.type [.int .i64 d.type.kind, .int .i64 d.type.num, .int .i64 d.type.at_, .slice A1 d.type.levels.length c1, .slice A2 d.type.kids.length c2] _ (hK.ext hxB) (hd0.out.ext mono_decl hxB) (mono_term _ _ _ _ hxB Ht.out)).mono ?_
    rintro e w6 ⟨hx6, ⟨hr6, rfl⟩ | ⟨hr6, rfl⟩⟩
    · have hx16 : Ext w1 w6 := (((Ext.rf w1).al _).al _).tr hx6
      have hx06 := hx.tr hx16
      have ov : ∀ k v, (w1.alloc (.cells #[.slice A0 ds.length c0, .int .i64 d.levels, .int .i64 0] 59)).cell? ⟨w1.heap.size, k, none⟩ = some v → w6.cell? ⟨w1.heap.size, k, none⟩ = some v := fun k v h => hx6.cell (((Ext.rf _).al _).cell h)
      have o0 := ov 0 _ (by simp [go_sem]; rfl)
      have o1 := ov 1 _ (by simp [go_sem]; rfl)
      have o2 := ov 2 _ (by simp [go_sem]; rfl)
      have p0 := hx16.cell q0
      have p7 := hx16.cell q7
      have p8 := hx16.cell q8
      have p9 := hx16.cell q9
      have p10 := hx16.cell q10
      have p11 := hx16.cell q11
      have yg6 := lt_of_cell p0
      have yo6 := lt_of_cell o0
      clear q0 q1 q2 q3 q4 q5 q6 q7 q8 q9 q10 q11 q12 q13 q14 q15 qg2 yg yg2
      clear ov
      by_cases hk1 : d.kind = 1
      · go_wp2_with fail
        refine (bare_any d.body [.int .i64 d.body.kind, .int .i64 d.body.num, .int .i64 d.body.at_, .slice A3 d.body.levels.length c3, .slice A4 d.body.kids.length c4] _ (mono_term _ _ _ _ hx06 Hb.out)).mono ?_
        rintro e w7 ⟨rfl, hx7⟩
        go_wp2_with fail
        refine (must_any [decide (Bare d.body)] _ _ (sl_bool1 (by simp [go_sem]))).mono ?_
        rintro e w8 ⟨rfl, rfl⟩
        have hx8 := (hx06.tr hx7).al (.cells #[.bool (decide (Bare d.body))] 4)
        cases hbb : ([decide (Bare d.body)].all id)
        · rw [ck_false]
          go_wp2_with fail
          have hno : ¬ DeclP ds d := fun h => h.2.elim (fun h => hk3 h.1) (fun h => h.2.2.2.elim (fun h => by simp [h.2] at hbb) (fun h => by rw [hk1] at h; exact absurd h.1 (by decide)))
          exact ⟨rfl, hx8, .inr ⟨hno, rfl⟩⟩
        · rw [ck_true]
          go_wp2_with fail
          refine bodyPost_ret (results_none rfl _ _ _) rfl ?_
          have hbare : Bare d.body := by simpa using hbb
          exact ⟨hx8, .inl ⟨⟨hlev, .inr ⟨hk3, Hz.out, hr6, .inl ⟨hk1, hbare⟩⟩⟩, rfl⟩⟩
      · go_wp2_with fail
        refine (must_any [d.kind == 2] _ _ (sl_bool1 (by simp [go_sem]))).mono ?_
        rintro e w8 ⟨rfl, rfl⟩
        have hx8 := hx06.al (.cells #[.bool (d.kind == 2)] 4)
        cases hbb : ([d.kind == 2].all id)
        · rw [ck_false]
          go_wp2_with fail
          have hno : ¬ DeclP ds d := fun h => h.2.elim (fun h => hk3 h.1) (fun h => h.2.2.2.elim (fun h => hk1 h.1) (fun h => by simp [h.1] at hbb))
          exact ⟨rfl, hx8, .inr ⟨hno, rfl⟩⟩
        · rw [ck_true]
          have hk2 : d.kind = 2 := by simpa using hbb
          have Hk2 := hid hk2
          clear hk2 hbb
          go_wp2_with fail
          refine (asks_any ds d.levels 0 0 _ d.body [.int .i64 d.body.kind, .int .i64 d.body.num, .int .i64 d.body.at_, .slice A3 d.body.levels.length c3, .slice A4 d.body.kids.length c4] _ (hK.ext hx8) (hd0.out.ext mono_decl hx8) (mono_term _ _ _ _ hx8 Hb.out)).mono ?_
          rintro e w9 ⟨hx9, ⟨hr9, rfl⟩ | ⟨hr9, rfl⟩⟩
          · go_wp2_with fail
            go_end0
            exact ⟨hx8.tr hx9, .inl ⟨⟨hlev, .inr ⟨hk3, Hz.out, hr6, .inr ⟨Hk2.out, hr9⟩⟩⟩, rfl⟩⟩
          · go_wp2_with fail
            have hno : ¬ DeclP ds d := fun h => h.2.elim (fun h => hk3 h.1) (fun h => h.2.2.2.elim (fun h => hk1 h.1) (fun h => hr9 h.2))
            exact ⟨rfl, hx8.tr hx9, .inr ⟨hno, rfl⟩⟩
    · go_wp2_with fail
      have hno : ¬ DeclP ds d := fun h => h.2.elim (fun h => hk3 h.1) (fun h => hr6 h.2.2.1)
      exact ⟨rfl, hxB.tr hx6, .inr ⟨hno, rfl⟩⟩
set_option maxRecDepth 100000 in
set_option maxHeartbeats 2000000 in
/-- source.Decl. -/
theorem srcDecl_any (ds : List Decl) (d : Decl) (vd : Value) (cs : List Value) (w : World) (hK : KindsIn w) (hd : SlDecl w ds vd) (hR : RDecl w d cs) :
    Calls Tryd.prog 12 #[vd, .agg cs.toArray] w fun e w' =>
      Ext w w' ∧ ((DeclP ds d ∧ e = .returned (.bool true)) ∨ (¬ DeclP ds d ∧ e = .returned (.bool false))) := by
  obtain ⟨A0, c0, hv0, hc0, hr0⟩ := id hd
  have hd0 := hid hd
  clear hd
  subst hv0
  have hR0 := hid hR
  obtain ⟨A1, c1, A2, c2, A3, c3, A4, c4, cp, vp, cS, vS, cm, vm, cc, vc, hcs, -⟩ := rdecl_open hR
  clear hR
  subst hcs
  have hmf : ∀ (fn : Fn) (first cap : Array Value) (w : World), (Instr.makeFunc fn first cap).run Tryd.prog w = .ok (.func fn first cap) w := fun _ _ _ _ => rfl
  go_enter Tryd.func12, Tryd.ntmps12
  go_wp2_with fail
  have hE : Ext w ((w.alloc (.cells #[.slice A0 ds.length c0] 39)).alloc (.cells #[.int .i64 d.kind, .int .i64 d.levels, .int .i64 d.type.kind, .int .i64 d.type.num, .int .i64 d.type.at_, .slice A1 d.type.levels.length c1, .slice A2 d.type.kids.length c2, .int .i64 d.body.kind, .int .i64 d.body.num, .int .i64 d.body.at_, .slice A3 d.body.levels.length c3, .slice A4 d.body.kids.length c4, .slice vp d.params.length cp, .slice vS d.sort.parts.length cS, .slice vm d.members.length cm, .slice vc d.ctors.length cc] 34)) := ((Ext.rf _).al _).al _
  refine (held_any 27 _ enters_decl1 (DeclP ds d) _ ?_).mono ?_
  · intro W hW
    refine decl1_any ds d _ [.int .i64 d.kind, .int .i64 d.levels, .int .i64 d.type.kind, .int .i64 d.type.num, .int .i64 d.type.at_, .slice A1 d.type.levels.length c1, .slice A2 d.type.kids.length c2, .int .i64 d.body.kind, .int .i64 d.body.num, .int .i64 d.body.at_, .slice A3 d.body.levels.length c3, .slice A4 d.body.kids.length c4, .slice vp d.params.length cp, .slice vS d.sort.parts.length cS, .slice vm d.members.length cm, .slice vc d.ctors.length cc] (w.heap.size + 1) w.heap.size W (hK.ext (hE.tr hW)) (hd0.out.ext mono_decl (hE.tr hW)) (mono_decl _ _ _ _ (hE.tr hW) hR0.out) ?_ ?_
    · intro j v hv
      refine hW.cell ?_
      have := range_fresh (w.alloc (.cells #[.slice A0 ds.length c0] 39)) 34 [.int .i64 d.kind, .int .i64 d.levels, .int .i64 d.type.kind, .int .i64 d.type.num, .int .i64 d.type.at_, .slice A1 d.type.levels.length c1, .slice A2 d.type.kids.length c2, .int .i64 d.body.kind, .int .i64 d.body.num, .int .i64 d.body.at_, .slice A3 d.body.levels.length c3, .slice A4 d.body.kids.length c4, .slice vp d.params.length cp, .slice vS d.sort.parts.length cS, .slice vm d.members.length cm, .slice vc d.ctors.length cc] j v hv
      simpa [go_sem] using this
    · exact hW.cell (by simp [go_sem])
  rintro e w1 ⟨hx1, ⟨h, rfl⟩ | ⟨h, rfl⟩⟩
  · go_wp2_with fail
    go_ret
    exact ⟨hE.tr hx1, .inl ⟨h, rfl⟩⟩
  · go_wp2_with fail
    go_ret
    exact ⟨hE.tr hx1, .inr ⟨h, rfl⟩⟩
end Go.Proofs.YtjaklnabidbmiaaDoor

/- Walks: spandrellaw11's self, nat, awake. -/
import Derived.Test.YtjaklnabidbmiaaDoorGen2
import Derived.Test.YtjaklnabidbmiaaDoorDecl
import Derived.Test.YtjaklnabidbmiaaDoorRefPlain
namespace Go.Proofs.YtjaklnabidbmiaaDoor
open Go.RowKit
set_option linter.unusedSimpArgs false
set_option linter.unusedVariables false

def selfT (n : Int) : Term := .mk 11 0 n [] []
def natD : Decl := ⟨3, 0, noTerm, noTerm, [], ⟨[]⟩, [⟨[]⟩], [⟨0, selfT 0⟩, ⟨0, .mk 4 0 0 [] [selfT 0, selfT 0]⟩]⟩
theorem rself {w : World} {n : Int} (hn : inI n) : RTerm w (selfT n) [.int .i64 11, .int .i64 0, .int .i64 n, .slice none 0 0, .slice none 0 0] :=
  rterm_iff.2 ⟨_, _, rfl, ⟨by unfold inI; omega, in0, hn⟩, sl_nil, sl_nil⟩
theorem self_any (n : Int) (w : World) : Calls Tryd.prog 11 #[.int .i64 n] w fun e w' => e = .returned (.agg #[.int .i64 11, .int .i64 0, .int .i64 n, .slice none 0 0, .slice none 0 0]) ∧ Ext w w' := by
  go_enter Tryd.func11, Tryd.ntmps11
  go_wp2_with fail
  exact bodyPost_ret (v := .agg #[.int .i64 11, .int .i64 0, .int .i64 n, .slice none 0 0, .slice none 0 0]) (by simp [results, Tryd.results11, go_sem]) rfl ⟨rfl, (Ext.rf _).al _⟩
set_option maxRecDepth 100000 in
set_option maxHeartbeats 2000000 in
theorem nat_any (w : World) : Calls Tryd.prog 6 #[] w (Gives RDecl natD w) := by
  have hu := Tryd.underlying34
  have hi42 : (Tryd.prog.info? 34).map (·.size) = some 16 := by kernel_rfl
  have th0 : (w.alloc (.cells #[.int .i64 0, .int .i64 0, .int .i64 0, .int .i64 0, .int .i64 0, .slice none 0 0, .slice none 0 0, .int .i64 0, .int .i64 0, .int .i64 0, .slice none 0 0, .slice none 0 0, .slice none 0 0, .slice none 0 0, .slice none 0 0, .slice none 0 0] 34)).there w.heap.size 0 16 := there_fresh w _ _ 16 (by decide)
  have TH0 := hid th0
  clear th0
  go_enter Tryd.func6, Tryd.ntmps6
  go_wp2_with fail
  refine (self_any 0 _).mono ?_
  rintro e w1 ⟨rfl, hx1⟩
  have TH1 := hid (there_ext hx1 (there_ext ((Ext.rf _).al _) TH0.out))
  have m0 : w1.cell? ⟨w.heap.size + 1, 0, none⟩ = some (.slice none 0 0) := hx1.cell (by simp [go_sem])
  have X1 := hid ((((Ext.rf w).al _).al _).tr hx1)
  have z1 : w.heap.size + 2 ≤ w1.heap.size := by have := hx1.size; simp at this; omega
  clear hx1 TH0
  go_wp2_with fail
  refine (self_any 0 _).mono ?_
  rintro e w2 ⟨rfl, hx2⟩
  have TH2 := hid (there_ext hx2 TH1.out)
  have m1 := hx2.cell m0
  have X2 := hid (X1.out.tr hx2)
  have z2 : w.heap.size + 2 ≤ w2.heap.size := by have := hx2.size; omega
  clear hx2 TH1 X1 m0
  go_wp2_with fail
  refine (self_any 0 _).mono ?_
  rintro e w3 ⟨rfl, hx3⟩
  have TH3 := hid (there_ext hx3 TH2.out)
  have m2 := hx3.cell m1
  have X3 := hid (X2.out.tr hx3)
  have z3 : w.heap.size + 2 ≤ w3.heap.size := by have := hx3.size; omega
  clear hx3 TH2 X2 m1
  have hone : ∀ v ∈ ([.int .i64 3, .int .i64 0, .int .i64 0, .int .i64 0, .int .i64 0, .slice none 0 0, .slice none 0 0, .int .i64 0, .int .i64 0, .int .i64 0, .slice none 0 0, .slice none 0 0, .slice none 0 0, .slice none 0 0, .slice (some ⟨w.heap.size + 1, 0, none⟩) 1 1, .slice (some ⟨w3.heap.size + 1, 0, none⟩) 2 2] : List Value), v.oneCell' = true := by
    intro u hu
    simp only [List.mem_cons, List.not_mem_nil, or_false] at hu
    rcases hu with rfl | rfl | rfl | rfl | rfl | rfl | rfl | rfl | rfl | rfl | rfl | rfl | rfl | rfl | rfl | rfl <;> rfl
  have Hone := hid hone
  clear hone
  go_wp2_with ((with_reducible show wpList _ _ _ (⟨_, Op.store 34 _ _, _, _, _, _⟩ :: _) _ _); refine wpList_store_mid (by rfl) 34 _ _ (by rfl) w.heap.size 0 #[.int .i64 3, .int .i64 0, .int .i64 0, .int .i64 0, .int .i64 0, .slice none 0 0, .slice none 0 0, .int .i64 0, .int .i64 0, .int .i64 0, .slice none 0 0, .slice none 0 0, .slice none 0 0, .slice none 0 0, .slice (some ⟨w.heap.size + 1, 0, none⟩) 1 1, .slice (some ⟨w3.heap.size + 1, 0, none⟩) 2 2] (by rfl) (by rfl) (by exact there_ext (((Ext.rf _).al _).al _) TH3.out) hi42 (all_oneCell_toArray Hone.out) ?_)
  refine bodyPost_ret (v := .agg #[.int .i64 3, .int .i64 0, .int .i64 0, .int .i64 0, .int .i64 0, .slice none 0 0, .slice none 0 0, .int .i64 0, .int .i64 0, .int .i64 0, .slice none 0 0, .slice none 0 0, .slice none 0 0, .slice none 0 0, .slice (some ⟨w.heap.size + 1, 0, none⟩) 1 1, .slice (some ⟨w3.heap.size + 1, 0, none⟩) 2 2]) (results_cell_mid (by rfl) _ _ w.heap.size [.int .i64 3, .int .i64 0, .int .i64 0, .int .i64 0, .int .i64 0, .slice none 0 0, .slice none 0 0, .int .i64 0, .int .i64 0, .int .i64 0, .slice none 0 0, .slice none 0 0, .slice none 0 0, .slice none 0 0, .slice (some ⟨w.heap.size + 1, 0, none⟩) 1 1, .slice (some ⟨w3.heap.size + 1, 0, none⟩) 2 2] _ (by rfl) (World.rangeAt_setCells_same _ _ _ _ (there_ext (((Ext.rf _).al _).al _) TH3.out)) hu (by rfl) hi42) rfl ?_
  have hs : ∀ W : World, Sub (frm (w.heap.size + 1) W) (frm w.heap.size (W.setCells w.heap.size 0 [.int .i64 3, .int .i64 0, .int .i64 0, .int .i64 0, .int .i64 0, .slice none 0 0, .slice none 0 0, .int .i64 0, .int .i64 0, .int .i64 0, .slice none 0 0, .slice none 0 0, .slice none 0 0, .slice none 0 0, .slice (some ⟨w.heap.size + 1, 0, none⟩) 1 1, .slice (some ⟨w3.heap.size + 1, 0, none⟩) 2 2])) := fun W => (frm_sets (by omega) _ _ _).tr (frm_le (by omega) _)
  refine ⟨((X3.out.al _).al _).sets (by omega) _ _, _, rfl, [_, _, _, _, _], [_, _, _, _, _], _, _, _, _, rfl, ⟨by unfold inI natD; simp, in0⟩, rterm_no, rterm_no, sl_nil, sl_nil, Sl.sub monoC_member (hs _) ?_, Sl.sub monoC_ctor (hs _) ?_⟩
  · refine sl_one (by decide) (cs := [.slice none 0 0]) ⟨_, rfl, sl_nil⟩ (cells1o (frm_cell (by omega) ((((Ext.rf _).al _).al _).cell m2)))
  · refine sl_two (by decide) (cs := [.int .i64 0, .int .i64 11, .int .i64 0, .int .i64 0, .slice none 0 0, .slice none 0 0]) (ds := [.int .i64 0, .int .i64 4, .int .i64 0, .int .i64 0, .slice none 0 0, .slice (some ⟨w3.heap.size, 0, none⟩) 2 2]) ⟨_, rfl, in0, rself in0⟩ ⟨_, rfl, in0, rterm_iff.2 ⟨_, _, rfl, ⟨by unfold inI; omega, in0, in0⟩, sl_nil, sl_two (by decide) (cs := [.int .i64 11, .int .i64 0, .int .i64 0, .slice none 0 0, .slice none 0 0]) (ds := [.int .i64 11, .int .i64 0, .int .i64 0, .slice none 0 0, .slice none 0 0]) (rself in0) (rself in0) ?_ ?_⟩⟩ ?_ ?_
    · exact cells5o (frm_cell (by omega) (by simp [go_sem])) (frm_cell (by omega) (by simp [go_sem])) (frm_cell (by omega) (by simp [go_sem])) (frm_cell (by omega) (by simp [go_sem])) (frm_cell (by omega) (by simp [go_sem]))
    · exact cells5o (frm_cell (by omega) (by simp [go_sem])) (frm_cell (by omega) (by simp [go_sem])) (frm_cell (by omega) (by simp [go_sem])) (frm_cell (by omega) (by simp [go_sem])) (frm_cell (by omega) (by simp [go_sem]))
    · exact cells6o (frm_cell (by omega) (by simp [go_sem])) (frm_cell (by omega) (by simp [go_sem])) (frm_cell (by omega) (by simp [go_sem])) (frm_cell (by omega) (by simp [go_sem])) (frm_cell (by omega) (by simp [go_sem])) (frm_cell (by omega) (by simp [go_sem]))
    · exact cells6o (frm_cell (by omega) (by simp [go_sem])) (frm_cell (by omega) (by simp [go_sem])) (frm_cell (by omega) (by simp [go_sem])) (frm_cell (by omega) (by simp [go_sem])) (frm_cell (by omega) (by simp [go_sem])) (frm_cell (by omega) (by simp [go_sem]))
theorem tr_leaf (k n a : Int) (ls : List Level) (h : node (.mk k n a ls []) = true) : termRight (.mk k n a ls []) = true := by
  unfold termRight
  rw [countT, if_pos ⟨by omega, by omega, h⟩, countK]
theorem aw1 : RightP [natD] 0 0 0 (.mk 9 0 1 [] []) := by
  refine ⟨tr_leaf _ _ _ _ (by decide), ?_⟩
  simp [SrcOk, SrcKids, AskOk, ctorOk, DeclOk, dAt, natD, hasAsk]
theorem aw2 : ¬ RightP [natD] 0 0 0 (.mk 9 0 2 [] []) := by
  rintro ⟨_, h⟩
  simp [SrcOk, SrcKids, AskOk, ctorOk, DeclOk, dAt, natD, hasAsk] at h
theorem aw3 : RightP [natD] 0 0 0 (.mk 10 0 0 [⟨[]⟩] []) := by
  refine ⟨tr_leaf _ _ _ _ (by decide), ?_⟩
  simp [SrcOk, SrcKids, AskOk, recursorOk, DeclOk, dAt, natD, hasAsk]
  decide
theorem aw4 : ¬ RightP [natD] 0 0 0 (.mk 10 0 0 [] []) := by
  rintro ⟨_, h⟩
  simp [SrcOk, SrcKids, AskOk, recursorOk, DeclOk, dAt, natD, hasAsk] at h
theorem decl_no : ¬ DeclP [] noDecl := by
  rintro ⟨_, h⟩
  rcases h with ⟨h, _⟩ | ⟨_, _, h, _⟩
  · simp [noDecl] at h
  · have := h.1
    revert this
    decide
theorem decl_nat : DeclP [] natD := by
  refine ⟨by decide, .inl ⟨rfl, by unfold HeadOk; decide, ?_, ?_, ?_⟩⟩
  · intro i h; simp [natD] at h
  · intro i h
    have : i = 0 := by simp [natD] at h; omega
    subst this
    exact ⟨by show ([] : List Term).length ≤ 6; decide, fun i h => by simp [natD] at h⟩
  · intro i h
    have : i = 0 ∨ i = 1 := by simp [natD] at h; omega
    rcases this with rfl | rfl
    · refine ⟨by show (0 : Int) ≤ 0 ∧ (0 : Int) < ((1 : Nat) : Int); decide, tr_leaf _ _ _ _ (by decide), ?_⟩
      simp [natD, selfT, SrcOk, SrcKids, AskOk, hasAsk]
    · refine ⟨by show (0 : Int) ≤ 0 ∧ (0 : Int) < ((1 : Nat) : Int); decide, ?_, ?_⟩
      · show termRight (.mk 4 0 0 [] [selfT 0, selfT 0]) = true
        decide
      · simp [natD, selfT, SrcOk, SrcKids, AskOk, hasAsk]
theorem rterm_leaf {w : World} {k n a : Int} {ls : List Level} {vl : Value} (hk : inI k) (hn : inI n) (ha : inI a) (hl : SlLevel w ls vl) : RTerm w (.mk k n a ls []) [.int .i64 k, .int .i64 n, .int .i64 a, vl, .slice none 0 0] :=
  rterm_iff.2 ⟨_, _, rfl, ⟨hk, hn, ha⟩, hl, sl_nil⟩
theorem inI_small {n : Int} (h : -1000000000 ≤ n ∧ n ≤ 1000000000) : inI n := by unfold inI; omega
theorem rdecl_noDecl {w : World} : RDecl w noDecl [.int .i64 0, .int .i64 0, .int .i64 0, .int .i64 0, .int .i64 0, .slice none 0 0, .slice none 0 0, .int .i64 0, .int .i64 0, .int .i64 0, .slice none 0 0, .slice none 0 0, .slice none 0 0, .slice none 0 0, .slice none 0 0, .slice none 0 0] :=
  ⟨[_, _, _, _, _], [_, _, _, _, _], _, _, _, _, rfl, ⟨in0, in0⟩, rterm_no, rterm_no, sl_nil, sl_nil, sl_nil, sl_nil⟩
set_option maxRecDepth 100000 in
set_option maxHeartbeats 2000000 in
theorem awake_any (w : World) (hK : KindsIn w) : Calls Tryd.prog 14 #[] w fun e w' => e = .returned (.bool true) ∧ Ext w w' := by
  go_enter Tryd.func14, Tryd.ntmps14
  go_wp2_with fail
  refine (nat_any _).mono ?_
  rintro e w1 ⟨hx1, cs, rfl, hR⟩
  have HR := hid (monoC_decl _ _ _ _ (frm_sub _ _) hR)
  obtain ⟨A1, c1, A2, c2, A3, c3, A4, c4, cp, vp, cS, vS, cm, vm, cc, vc, rfl, -⟩ := rdecl_open hR
  clear hR
  go_wp2_with fail
  have hd1 : SlDecl ((w1.alloc (.cells #[.int .i64 natD.kind, .int .i64 natD.levels, .int .i64 natD.type.kind, .int .i64 natD.type.num, .int .i64 natD.type.at_, .slice A1 natD.type.levels.length c1, .slice A2 natD.type.kids.length c2, .int .i64 natD.body.kind, .int .i64 natD.body.num, .int .i64 natD.body.at_, .slice A3 natD.body.levels.length c3, .slice A4 natD.body.kids.length c4, .slice vp natD.params.length cp, .slice vS natD.sort.parts.length cS, .slice vm natD.members.length cm, .slice vc natD.ctors.length cc] 34)).alloc (.cells #[.slice none 0 0] 30)) [natD] (.slice (some ⟨w1.heap.size, 0, none⟩) 1 1) :=
    sl_one (by decide) (mono_decl _ _ _ _ (((Ext.rf _).al _).al _) HR.out) (cells16o (by simp [go_sem]) (by simp [go_sem]) (by simp [go_sem]) (by simp [go_sem]) (by simp [go_sem]) (by simp [go_sem]) (by simp [go_sem]) (by simp [go_sem]) (by simp [go_sem]) (by simp [go_sem]) (by simp [go_sem]) (by simp [go_sem]) (by simp [go_sem]) (by simp [go_sem]) (by simp [go_sem]) (by simp [go_sem]))
  have hv1 : SlLevel ((w1.alloc (.cells #[.int .i64 natD.kind, .int .i64 natD.levels, .int .i64 natD.type.kind, .int .i64 natD.type.num, .int .i64 natD.type.at_, .slice A1 natD.type.levels.length c1, .slice A2 natD.type.kids.length c2, .int .i64 natD.body.kind, .int .i64 natD.body.num, .int .i64 natD.body.at_, .slice A3 natD.body.levels.length c3, .slice A4 natD.body.kids.length c4, .slice vp natD.params.length cp, .slice vS natD.sort.parts.length cS, .slice vm natD.members.length cm, .slice vc natD.ctors.length cc] 34)).alloc (.cells #[.slice none 0 0] 30)) [⟨[]⟩] (.slice (some ⟨w1.heap.size + 1, 0, none⟩) 1 1) :=
    sl_one (by decide) (cs := [.slice none 0 0]) ⟨_, rfl, sl_nil⟩ (cells1o (by simp [go_sem]))
  have hX1 := hid ((hx1.al (.cells #[.int .i64 natD.kind, .int .i64 natD.levels, .int .i64 natD.type.kind, .int .i64 natD.type.num, .int .i64 natD.type.at_, .slice A1 natD.type.levels.length c1, .slice A2 natD.type.kids.length c2, .int .i64 natD.body.kind, .int .i64 natD.body.num, .int .i64 natD.body.at_, .slice A3 natD.body.levels.length c3, .slice A4 natD.body.kids.length c4, .slice vp natD.params.length cp, .slice vS natD.sort.parts.length cS, .slice vm natD.members.length cm, .slice vc natD.ctors.length cc] 34)).al (.cells #[.slice none 0 0] 30))
  have HD := hid hd1
  have HV := hid hv1
  have i0 : inI 0 := in0
  clear hx1 hd1 hv1 HR
  refine (srcRight_any [natD] 0 0 0 _ (.mk 9 0 1 [] []) [.int .i64 9, .int .i64 0, .int .i64 1, .slice none 0 0, .slice none 0 0] _ (hK.ext hX1.out) HD.out (rterm_leaf (inI_small (by omega)) in0 (inI_small (by omega)) sl_nil)).mono ?_
  rintro e w2 ⟨hx2, ⟨h, rfl⟩ | ⟨h, rfl⟩⟩
  rotate_left
  · exact absurd aw1 h
  clear h
  go_wp2_with fail
  refine (srcRight_any [natD] 0 0 0 _ (.mk 9 0 2 [] []) [.int .i64 9, .int .i64 0, .int .i64 2, .slice none 0 0, .slice none 0 0] _ (hK.ext (hX1.out.tr hx2)) (HD.out.ext mono_decl hx2) (rterm_leaf (inI_small (by omega)) in0 (inI_small (by omega)) sl_nil)).mono ?_
  rintro e w3 ⟨hx3, ⟨h, rfl⟩ | ⟨h, rfl⟩⟩
  · exact absurd h aw2
  clear h
  go_wp2_with fail
  refine (srcRight_any [natD] 0 0 0 _ (.mk 10 0 0 [⟨[]⟩] []) [.int .i64 10, .int .i64 0, .int .i64 0, .slice (some ⟨w1.heap.size + 1, 0, none⟩) 1 1, .slice none 0 0] _ (hK.ext (hX1.out.tr (hx2.tr hx3))) (HD.out.ext mono_decl (hx2.tr hx3)) (rterm_leaf (inI_small (by omega)) in0 in0 (HV.out.ext mono_level (hx2.tr hx3)))).mono ?_
  rintro e w4 ⟨hx4, ⟨h, rfl⟩ | ⟨h, rfl⟩⟩
  rotate_left
  · exact absurd aw3 h
  clear h
  have hX4 := hid (hx2.tr (hx3.tr hx4))
  clear hx2 hx3 hx4
  go_wp2_with fail
  refine (srcRight_any [natD] 0 0 0 _ (.mk 10 0 0 [] []) [.int .i64 10, .int .i64 0, .int .i64 0, .slice none 0 0, .slice none 0 0] _ (hK.ext (hX1.out.tr hX4.out)) (HD.out.ext mono_decl hX4.out) (rterm_leaf (inI_small (by omega)) in0 in0 sl_nil)).mono ?_
  rintro e w5 ⟨hx5, ⟨h, rfl⟩ | ⟨h, rfl⟩⟩
  · exact absurd h aw4
  clear h
  have hX5 := hid (hX1.out.tr (hX4.out.tr hx5))
  clear hx5 hX4 hX1 HD HV
  go_wp2_with fail
  refine (nat_any _).mono ?_
  rintro e w6 ⟨hx6, cs, rfl, hR⟩
  have HR := hid (monoC_decl _ _ _ _ (frm_sub _ _) hR)
  obtain ⟨B1, d1, B2, d2, B3, d3, B4, d4, dp, up, dS, uS, dm, um, dc, uc, rfl, -⟩ := rdecl_open hR
  have hX6 := hid (hX5.out.tr hx6)
  clear hR hx6 hX5
  go_wp2_with fail
  refine (srcDecl_any [] natD _ _ _ (hK.ext hX6.out) sl_nil HR.out).mono ?_
  rintro e w7 ⟨hx7, ⟨h, rfl⟩ | ⟨h, rfl⟩⟩
  rotate_left
  · exact absurd decl_nat h
  clear h HR
  have hX7 := hid (hX6.out.tr hx7)
  clear hx7 hX6
  go_wp2_with fail
  refine (srcDecl_any [] noDecl _ [.int .i64 0, .int .i64 0, .int .i64 0, .int .i64 0, .int .i64 0, .slice none 0 0, .slice none 0 0, .int .i64 0, .int .i64 0, .int .i64 0, .slice none 0 0, .slice none 0 0, .slice none 0 0, .slice none 0 0, .slice none 0 0, .slice none 0 0] _ (hK.ext hX7.out) sl_nil rdecl_noDecl).mono ?_
  rintro e w8 ⟨hx8, ⟨h, rfl⟩ | ⟨h, rfl⟩⟩
  · exact absurd h decl_no
  clear h
  go_wp2_with fail
  go_ret
  exact ⟨rfl, hX7.out.tr hx8⟩
end Go.Proofs.YtjaklnabidbmiaaDoor

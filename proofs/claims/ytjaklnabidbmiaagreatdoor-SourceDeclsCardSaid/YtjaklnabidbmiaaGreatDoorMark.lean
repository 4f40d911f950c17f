/- Walks: spandrelkit.mark and the marks of each kind. -/
import Derived.Test.YtjaklnabidbmiaaGreatDoorGen
namespace Go.Proofs.YtjaklnabidbmiaaGreatDoor
open Go.RowKit
set_option linter.unusedSimpArgs false
set_option linter.unusedVariables false

def mkN (i : Int) : Int := 8000024 + i
def mkPart (i : Int) : Part := ⟨0, mkN i⟩
def mkLevel (i : Int) : Level := ⟨[mkPart i]⟩
def mkTerm (i : Int) : Term := .mk 0 (mkN i) 0 [] []
def mkMember (i : Int) : Member := ⟨[mkTerm i]⟩
def mkCtor (i : Int) : Ctor := ⟨mkN i, noTerm⟩
def mkDecl (i : Int) : Decl := ⟨0, mkN i, noTerm, noTerm, [], ⟨[]⟩, [], []⟩
theorem mkN_in {i : Int} (hi : 0 ≤ i ∧ i ≤ 1000) : inI (mkN i) := by unfold inI mkN; omega

theorem mark_any (i : Int) (w : World) (hi : 0 ≤ i ∧ i ≤ 1000) : Calls Tryz.prog 54 #[.int .i64 1, .int .i64 i] w fun e w' => e = .returned (.int .i64 (mkN i)) ∧ w' = w := by
  go_enter Tryz.func54, Tryz.ntmps54
  go_wp2
  go_ret
  exact ⟨rfl, rfl⟩
theorem markPart_any (i : Int) (w : World) (hi : 0 ≤ i ∧ i ≤ 1000) : Calls Tryz.prog 109 #[.int .i64 1, .int .i64 i] w (Gives RPart (mkPart i) w) := by
  have hn := hid (mkN_in hi)
  go_enter Tryz.func109, Tryz.ntmps109
  go_wp2_with fail
  refine (mark_any i _ hi).mono ?_
  rintro e w' ⟨rfl, rfl⟩
  go_wp2_with fail
  refine bodyPost_ret (v := .agg #[.int .i64 0, .int .i64 (mkN i)]) (by simp [results, Tryz.results109, go_sem]) rfl ?_
  exact ⟨(Ext.rf _).al _, [_, _], rfl, rfl, in0, hn.out⟩
set_option maxRecDepth 100000 in
theorem markTerm_any (i : Int) (w : World) (hi : 0 ≤ i ∧ i ≤ 1000) : Calls Tryz.prog 56 #[.int .i64 1, .int .i64 i] w (Gives RTerm (mkTerm i) w) := by
  have hn := hid (mkN_in hi)
  go_enter Tryz.func56, Tryz.ntmps56
  go_wp2_with fail
  refine (mark_any i _ hi).mono ?_
  rintro e w' ⟨rfl, rfl⟩
  go_wp2_with fail
  refine bodyPost_ret (v := .agg #[.int .i64 0, .int .i64 (mkN i), .int .i64 0, .slice none 0 0, .slice none 0 0]) (by simp [results, Tryz.results56, go_sem]) rfl ?_
  exact ⟨(Ext.rf _).al _, [_, _, _, _, _], rfl, rterm_iff.2 ⟨_, _, rfl, ⟨in0, hn.out, in0⟩, sl_nil, sl_nil⟩⟩
set_option maxRecDepth 100000 in
theorem markCtor_any (i : Int) (w : World) (hi : 0 ≤ i ∧ i ≤ 1000) : Calls Tryz.prog 87 #[.int .i64 1, .int .i64 i] w (Gives RCtor (mkCtor i) w) := by
  have hn := hid (mkN_in hi)
  go_enter Tryz.func87, Tryz.ntmps87
  go_wp2_with fail
  refine (mark_any i _ hi).mono ?_
  rintro e w' ⟨rfl, rfl⟩
  go_wp2_with fail
  refine bodyPost_ret (v := .agg #[.int .i64 (mkN i), .int .i64 0, .int .i64 0, .int .i64 0, .slice none 0 0, .slice none 0 0]) (by simp [results, Tryz.results87, go_sem]) rfl ?_
  exact ⟨(Ext.rf _).al _, [_, _, _, _, _, _], rfl, _, rfl, hn.out, rterm_no⟩
set_option maxRecDepth 100000 in
theorem markDecl_any (i : Int) (w : World) (hi : 0 ≤ i ∧ i ≤ 1000) : Calls Tryz.prog 21 #[.int .i64 1, .int .i64 i] w (Gives RDecl (mkDecl i) w) := by
  have hn := hid (mkN_in hi)
  go_enter Tryz.func21, Tryz.ntmps21
  go_wp2_with fail
  refine (mark_any i _ hi).mono ?_
  rintro e w' ⟨rfl, rfl⟩
  go_wp2_with fail
  refine bodyPost_ret (v := .agg #[.int .i64 0, .int .i64 (mkN i), .int .i64 0, .int .i64 0, .int .i64 0, .slice none 0 0, .slice none 0 0, .int .i64 0, .int .i64 0, .int .i64 0, .slice none 0 0, .slice none 0 0, .slice none 0 0, .slice none 0 0, .slice none 0 0, .slice none 0 0]) (by simp [results, Tryz.results21, go_sem]) rfl ?_
  exact ⟨(Ext.rf _).al _, [_, _, _, _, _, _, _, _, _, _, _, _, _, _, _, _], rfl, [_, _, _, _, _], [_, _, _, _, _], _, _, _, _, rfl, ⟨in0, hn.out⟩, rterm_no, rterm_no, sl_nil, sl_nil, sl_nil, sl_nil⟩
set_option maxRecDepth 100000 in
theorem markLevel_any (i : Int) (w : World) (hi : 0 ≤ i ∧ i ≤ 1000) : Calls Tryz.prog 55 #[.int .i64 1, .int .i64 i] w (Gives RLevel (mkLevel i) w) := by
  have hn := hid (mkN_in hi)
  go_enter Tryz.func55, Tryz.ntmps55
  go_wp2_with fail
  refine (mark_any i _ hi).mono ?_
  rintro e w' ⟨rfl, rfl⟩
  go_wp2_with fail
  refine bodyPost_ret (v := .agg #[.slice (some ⟨w.heap.size + 1, 0, none⟩) 1 1]) (by simp [results, Tryz.results55, go_sem]) rfl ?_
  refine ⟨((Ext.rf _).al _).al _, [_], rfl, _, rfl, sl_one (by decide) (cs := [.int .i64 0, .int .i64 (mkN i)]) ⟨rfl, in0, hn.out⟩ (cells2 ?_ ?_)⟩
  · exact frm_cell (by omega) (by simp [go_sem])
  · exact frm_cell (by omega) (by simp [go_sem])
set_option maxRecDepth 100000 in
theorem markMember_any (i : Int) (w : World) (hi : 0 ≤ i ∧ i ≤ 1000) : Calls Tryz.prog 85 #[.int .i64 1, .int .i64 i] w (Gives RMember (mkMember i) w) := by
  have hn := hid (mkN_in hi)
  go_enter Tryz.func85, Tryz.ntmps85
  go_wp2_with fail
  refine (mark_any i _ hi).mono ?_
  rintro e w' ⟨rfl, rfl⟩
  go_wp2_with fail
  refine bodyPost_ret (v := .agg #[.slice (some ⟨w.heap.size + 1, 0, none⟩) 1 1]) (by simp [results, Tryz.results85, go_sem]) rfl ?_
  refine ⟨((Ext.rf _).al _).al _, [_], rfl, _, rfl, sl_one (by decide) (cs := [.int .i64 0, .int .i64 (mkN i), .int .i64 0, .slice none 0 0, .slice none 0 0]) (rterm_iff.2 ⟨_, _, rfl, ⟨in0, hn.out, in0⟩, sl_nil, sl_nil⟩) (cells5 ?_ ?_ ?_ ?_ ?_)⟩
  all_goals exact frm_cell (by omega) (by simp [go_sem])
end Go.Proofs.YtjaklnabidbmiaaGreatDoor

/- Walks: spandrelkit.Kept.. of what still is as it was: they say yes. Printed by gen_kept.py. -/
import Derived.Test.YtjaklnabidbmiaaGreatDoorLent2
import Derived.Test.YtjaklnabidbmiaaGreatDoorSame2
import Derived.Test.YtjaklnabidbmiaaGreatDoorMono
namespace Go.Proofs.YtjaklnabidbmiaaGreatDoor
open Go.RowKit
set_option linter.unusedSimpArgs false
set_option linter.unusedVariables false
theorem monoC_lpart : MonoC RPart := monoC_part
theorem rpart_len {w : World} {x : Part} {cs : List Value} (h : RPart w x cs) : cs.length = 2 := by obtain ⟨rfl, _⟩ := h; rfl
theorem rlpart_len {w : World} {x : Part} {cs : List Value} (h : RPart w x cs) : cs.length = 2 := rpart_len h
theorem rlevel_len {w : World} {x : Level} {cs : List Value} (h : RLevel w x cs) : cs.length = 1 := by obtain ⟨v, rfl, _⟩ := h; rfl
theorem rllevel_len {w : World} {x : Level} {cs : List Value} (h : RLLevel w x cs) : cs.length = 1 := rlevel_len (rl_level h)
theorem rterm_len {w : World} {x : Term} {cs : List Value} (h : RTerm w x cs) : cs.length = 5 := (rterm_ones h).1
theorem rlterm_len {w : World} {x : Term} {cs : List Value} (h : RLTerm w x cs) : cs.length = 5 := rterm_len (rl_term x h)
theorem rmember_len {w : World} {x : Member} {cs : List Value} (h : RMember w x cs) : cs.length = 1 := by obtain ⟨v, rfl, _⟩ := h; rfl
theorem rlmember_len {w : World} {x : Member} {cs : List Value} (h : RLMember w x cs) : cs.length = 1 := rmember_len (rl_member h)
theorem rctor_len {w : World} {x : Ctor} {cs : List Value} (h : RCtor w x cs) : cs.length = 6 := by
  obtain ⟨ct, rfl, _, ht⟩ := h
  simp [rterm_len ht]
theorem rlctor_len {w : World} {x : Ctor} {cs : List Value} (h : RLCtor w x cs) : cs.length = 6 := rctor_len (rl_ctor h)
theorem rdecl_len {w : World} {x : Decl} {cs : List Value} (h : RDecl w x cs) : cs.length = 16 := (rdecl_ones h).1
theorem rldecl_len {w : World} {x : Decl} {cs : List Value} (h : RLDecl w x cs) : cs.length = 16 := rdecl_len (rl_decl h)
set_option maxRecDepth 100000 in
set_option maxHeartbeats 4000000 in
theorem keptParts_any (xs : List Part) (vo vl : Value) (w : World) (ho : LSl RPart RPart mkPart 2 16 w xs vo) (hl : Sl RPart 2 16 w xs vl) : Calls Tryz.prog 99 #[vo, vl] w fun e w' => e = .returned (.bool true) ∧ Ext w w' := by
  obtain ⟨b, c, rfl, hc, -, hel, hmk⟩ := ho
  obtain ⟨A, c', rfl, hc', hr⟩ := hl
  have hln := hr.len_le
  have hcap : c ≤ 9223372036854775807 ∨ True := .inr trivial
  have Hel := hid hel
  have Hmk := hid hmk
  clear hel hmk hcap
  go_enter Tryz.func99, Tryz.ntmps99
  go_wp2_with fail
  go_loopw [6] (fun i wr => ∃ k : Nat, k ≤ xs.length + 12 ∧ i = .int .i64 k ∧ Ext w wr) (fun i _ => xs.length + 12 - (intOf i).toNat)
  case atStart => exact ⟨0, by omega, rfl, Ext.rf _⟩
  case round =>
    obtain ⟨k, hk, rfl, hx0⟩ := hrel
    obtain ⟨wr, rfl⟩ := ext_name2 hx0
    have hu := Tryz.underlying104
    have hk0 : (0 : Int) ≤ (k : Int) := by omega
    by_cases hlt : k < xs.length
    · obtain ⟨ca, hRa, hca0⟩ := Hel.out k xs[k] (List.getElem?_eq_getElem hlt)
      obtain ⟨b2, o2, cb, rfl, hRb, hcb0⟩ := hr.at_ hlt
      have hca := hca0.ext hx0
      have hcb := hcb0.ext hx0
      have Ra := hid (monoC_lpart _ _ _ _ hx0.sub hRa)
      have Rb := hid (mono_part _ _ _ _ hx0 hRb)
      have hi1 : (Tryz.prog.info? 104).map (·.size) = some ca.length := by rw [rlpart_len hRa]; kernel_rfl
      have hi2 : (Tryz.prog.info? 104).map (·.size) = some cb.length := by rw [rpart_len hRb]; kernel_rfl
      have hlt1 : (k : Int) < (xs.length : Int) := by omega
      have hge : ¬ xs.length ≤ k := by omega
      have hge1 : ¬ (xs.length : Int) ≤ (k : Int) := by omega
      have hk12 : (k : Int) < (xs.length : Int) + 12 := by omega
      obtain ⟨rfl, _⟩ := id hRa
      obtain ⟨rfl, _⟩ := id hRb
      clear hca0 hcb0 hRa hRb
      go_wp2_with fail
      refine wp_region_steps (fun s W v => match s with | 23 => v = .int .i64 k | 24 => v = .slice (some ⟨b2, o2, none⟩) xs.length c' | 25 => v = .int .i64 xs.length | 26 => v = .bool true | 27 => v = .bool true | 28 => v = .slice (some ⟨b, 0, none⟩) (xs.length + 12) c | 29 => v = .int .i64 k | 30 => v = .pointer (some ⟨b, k * 2, none⟩) | 31 => v = .agg #[.int .i64 xs[k].v, .int .i64 xs[k].p] | 32 => v = .slice (some ⟨b2, o2, none⟩) xs.length c' | 33 => v = .int .i64 k | 34 => v = .pointer (some ⟨b2, o2 + k * 2, none⟩) | 35 => v = .agg #[.int .i64 xs[k].v, .int .i64 xs[k].p] | 36 => v = .bool true | 37 => v = .bool false | 38 => v = .bool false | 39 => v = .bool false | 40 => v = .int .i64 k | 41 => v = .slice (some ⟨b2, o2, none⟩) xs.length c' | 42 => v = .int .i64 xs.length | 43 => v = .bool false | 44 => v = .bool false | 45 => v = undef | 46 => v = undef | 47 => v = undef | 48 => v = undef | 49 => v = undef | 50 => v = undef | 51 => v = undef | 52 => v = undef | 53 => v = undef | 54 => v = undef | 55 => v = undef | 56 => v = .bool false | 57 => v = .bool false | _ => True) (by kernel_rfl) (by kernel_rfl) (of_decide_eq_true (by kernel_rfl)) (by kernel_rfl) (fun s W W' v _ h => h) ?_ ?_
      · refine ⟨?_, ?_, ?_, ?_, ?_, ?_, ?_, ?_, ?_, ?_, ?_, ?_, ?_, ?_, ?_, ?_, ?_, ?_, ?_, ?_, ?_, ?_, ?_, ?_, ?_, ?_, ?_, ?_, ?_, ?_, ?_, ?_, ?_, ?_, ?_, trivial⟩
        · intro a W hx hdf hsz hg hi K hK
          refine step_free rfl ?_
          have t6 : a.tmps.getD 6 undef = .int .i64 k := hi 6 (by kernel_rfl)
          have u6 := t6
          rw [Array.getD_eq_getD_getElem?] at u6
          simp [Oper.wp, Oper.upon, execOp, Act.eval, go_sem, t6, u6, hlt, hlt1, hge, hge1, hk12, hk0]
          exact hK _ _ (Ext.rf _) (fun d' h => by cases h; exact rfl)
        · intro a W hx hdf hsz hg hi K hK
          refine step_free rfl ?_
          have t1 : a.tmps.getD 1 undef = .slice (some ⟨b2, o2, none⟩) xs.length c' := hi 1 (by kernel_rfl)
          have u1 := t1
          rw [Array.getD_eq_getD_getElem?] at u1
          simp [Oper.wp, Oper.upon, execOp, Act.eval, go_sem, t1, u1, hlt, hlt1, hge, hge1, hk12, hk0]
          exact hK _ _ (Ext.rf _) (fun d' h => by cases h; exact rfl)
        · intro a W hx hdf hsz hg hi K hK
          refine step_free rfl ?_
          have t24 : a.tmps.getD 24 undef = .slice (some ⟨b2, o2, none⟩) xs.length c' := hg 24 (by kernel_rfl)
          have u24 := t24
          rw [Array.getD_eq_getD_getElem?] at u24
          simp [Oper.wp, Oper.upon, execOp, Act.eval, go_sem, t24, u24, hlt, hlt1, hge, hge1, hk12, hk0]
          exact hK _ _ (Ext.rf _) (fun d' h => by cases h; exact rfl)
        · intro a W hx hdf hsz hg hi K hK
          refine step_free rfl ?_
          have t23 : a.tmps.getD 23 undef = .int .i64 k := hg 23 (by kernel_rfl)
          have t25 : a.tmps.getD 25 undef = .int .i64 xs.length := hg 25 (by kernel_rfl)
          have u23 := t23
          rw [Array.getD_eq_getD_getElem?] at u23
          have u25 := t25
          rw [Array.getD_eq_getD_getElem?] at u25
          simp [Oper.wp, Oper.upon, execOp, Act.eval, go_sem, t23, u23, t25, u25, hlt, hlt1, hge, hge1, hk12, hk0]
          exact hK _ _ (Ext.rf _) (fun d' h => by cases h; exact rfl)
        · intro a W hx hdf hsz hg hi K hK
          refine step_free rfl ?_
          have t26 : a.tmps.getD 26 undef = .bool true := hg 26 (by kernel_rfl)
          have u26 := t26
          rw [Array.getD_eq_getD_getElem?] at u26
          simp [Oper.wp, Oper.upon, execOp, Act.eval, go_sem, t26, u26, hlt, hlt1, hge, hge1, hk12, hk0]
          exact hK _ _ (Ext.rf _) (fun d' h => by cases h; exact rfl)
        · intro a W hx hdf hsz hg hi K hK
          have G27 : a.tmps.getD 27 undef = .bool true := hg 27 (by kernel_rfl)
          refine step_guard rfl rfl (by have hz : a.tmps.size = 58 := hsz; omega) G27 (fun _ => ?_) (fun h => absurd rfl h)
          have t5 : a.tmps.getD 5 undef = .slice (some ⟨b, 0, none⟩) (xs.length + 12) c := hi 5 (by kernel_rfl)
          have u5 := t5
          rw [Array.getD_eq_getD_getElem?] at u5
          simp [Oper.wp, Oper.upon, execOp, Act.eval, go_sem, t5, u5, hlt, hlt1, hge, hge1, hk12, hk0]
          exact hK _ _ (Ext.rf _) (fun d' h => by cases h; exact rfl)
        · intro a W hx hdf hsz hg hi K hK
          have G27 : a.tmps.getD 27 undef = .bool true := hg 27 (by kernel_rfl)
          refine step_guard rfl rfl (by have hz : a.tmps.size = 58 := hsz; omega) G27 (fun _ => ?_) (fun h => absurd rfl h)
          have t6 : a.tmps.getD 6 undef = .int .i64 k := hi 6 (by kernel_rfl)
          have u6 := t6
          rw [Array.getD_eq_getD_getElem?] at u6
          simp [Oper.wp, Oper.upon, execOp, Act.eval, go_sem, t6, u6, hlt, hlt1, hge, hge1, hk12, hk0]
          exact hK _ _ (Ext.rf _) (fun d' h => by cases h; exact rfl)
        · intro a W hx hdf hsz hg hi K hK
          have G27 : a.tmps.getD 27 undef = .bool true := hg 27 (by kernel_rfl)
          refine step_guard rfl rfl (by have hz : a.tmps.size = 58 := hsz; omega) G27 (fun _ => ?_) (fun h => absurd rfl h)
          have t28 : a.tmps.getD 28 undef = .slice (some ⟨b, 0, none⟩) (xs.length + 12) c := hg 28 (by kernel_rfl)
          have t29 : a.tmps.getD 29 undef = .int .i64 k := hg 29 (by kernel_rfl)
          have u28 := t28
          rw [Array.getD_eq_getD_getElem?] at u28
          have u29 := t29
          rw [Array.getD_eq_getD_getElem?] at u29
          simp [Oper.wp, Oper.upon, execOp, Act.eval, go_sem, t28, u28, t29, u29, hlt, hlt1, hge, hge1, hk12, hk0]
          exact hK _ _ (Ext.rf _) (fun d' h => by cases h; exact rfl)
        · intro a W hx hdf hsz hg hi K hK
          have G27 : a.tmps.getD 27 undef = .bool true := hg 27 (by kernel_rfl)
          refine step_guard rfl rfl (by have hz : a.tmps.size = 58 := hsz; omega) G27 (fun _ => ?_) (fun h => absurd rfl h)
          have t30 : a.tmps.getD 30 undef = .pointer (some ⟨b, k * 2, none⟩) := hg 30 (by kernel_rfl)
          have u30 := t30
          rw [Array.getD_eq_getD_getElem?] at u30
          refine wp_load_mid 104 (.tmp 30) rfl b (k * 2) t30 _ _ (hca.ext hx) hu rfl hi1 ?_
          exact hK _ _ (Ext.rf _) (fun d' h => by cases h; exact rfl)
        · intro a W hx hdf hsz hg hi K hK
          have G27 : a.tmps.getD 27 undef = .bool true := hg 27 (by kernel_rfl)
          refine step_guard rfl rfl (by have hz : a.tmps.size = 58 := hsz; omega) G27 (fun _ => ?_) (fun h => absurd rfl h)
          have t1 : a.tmps.getD 1 undef = .slice (some ⟨b2, o2, none⟩) xs.length c' := hi 1 (by kernel_rfl)
          have u1 := t1
          rw [Array.getD_eq_getD_getElem?] at u1
          simp [Oper.wp, Oper.upon, execOp, Act.eval, go_sem, t1, u1, hlt, hlt1, hge, hge1, hk12, hk0]
          exact hK _ _ (Ext.rf _) (fun d' h => by cases h; exact rfl)
        · intro a W hx hdf hsz hg hi K hK
          have G27 : a.tmps.getD 27 undef = .bool true := hg 27 (by kernel_rfl)
          refine step_guard rfl rfl (by have hz : a.tmps.size = 58 := hsz; omega) G27 (fun _ => ?_) (fun h => absurd rfl h)
          have t6 : a.tmps.getD 6 undef = .int .i64 k := hi 6 (by kernel_rfl)
          have u6 := t6
          rw [Array.getD_eq_getD_getElem?] at u6
          simp [Oper.wp, Oper.upon, execOp, Act.eval, go_sem, t6, u6, hlt, hlt1, hge, hge1, hk12, hk0]
          exact hK _ _ (Ext.rf _) (fun d' h => by cases h; exact rfl)
        · intro a W hx hdf hsz hg hi K hK
          have G27 : a.tmps.getD 27 undef = .bool true := hg 27 (by kernel_rfl)
          refine step_guard rfl rfl (by have hz : a.tmps.size = 58 := hsz; omega) G27 (fun _ => ?_) (fun h => absurd rfl h)
          have t32 : a.tmps.getD 32 undef = .slice (some ⟨b2, o2, none⟩) xs.length c' := hg 32 (by kernel_rfl)
          have t33 : a.tmps.getD 33 undef = .int .i64 k := hg 33 (by kernel_rfl)
          have u32 := t32
          rw [Array.getD_eq_getD_getElem?] at u32
          have u33 := t33
          rw [Array.getD_eq_getD_getElem?] at u33
          simp [Oper.wp, Oper.upon, execOp, Act.eval, go_sem, t32, u32, t33, u33, hlt, hlt1, hge, hge1, hk12, hk0]
          exact hK _ _ (Ext.rf _) (fun d' h => by cases h; exact rfl)
        · intro a W hx hdf hsz hg hi K hK
          have G27 : a.tmps.getD 27 undef = .bool true := hg 27 (by kernel_rfl)
          refine step_guard rfl rfl (by have hz : a.tmps.size = 58 := hsz; omega) G27 (fun _ => ?_) (fun h => absurd rfl h)
          have t34 : a.tmps.getD 34 undef = .pointer (some ⟨b2, o2 + k * 2, none⟩) := hg 34 (by kernel_rfl)
          have u34 := t34
          rw [Array.getD_eq_getD_getElem?] at u34
          refine wp_load_mid 104 (.tmp 34) rfl b2 (o2 + k * 2) t34 _ _ (hcb.ext hx) hu rfl hi2 ?_
          exact hK _ _ (Ext.rf _) (fun d' h => by cases h; exact rfl)
        · intro a W hx hdf hsz hg hi K hK
          have G27 : a.tmps.getD 27 undef = .bool true := hg 27 (by kernel_rfl)
          refine step_guard rfl rfl (by have hz : a.tmps.size = 58 := hsz; omega) G27 (fun _ => ?_) (fun h => absurd rfl h)
          have t31 : a.tmps.getD 31 undef = .agg #[.int .i64 xs[k].v, .int .i64 xs[k].p] := hg 31 (by kernel_rfl)
          have t35 : a.tmps.getD 35 undef = .agg #[.int .i64 xs[k].v, .int .i64 xs[k].p] := hg 35 (by kernel_rfl)
          have u31 := t31
          rw [Array.getD_eq_getD_getElem?] at u31
          have u35 := t35
          rw [Array.getD_eq_getD_getElem?] at u35
          simp [Oper.wp, Oper.upon, execOp, Act.eval, go_sem, t31, u31, t35, u35, hlt, hlt1, hge, hge1, hk12, hk0]
          exact hK _ _ (Ext.rf _) (fun d' h => by cases h; exact rfl)
        · intro a W hx hdf hsz hg hi K hK
          have G27 : a.tmps.getD 27 undef = .bool true := hg 27 (by kernel_rfl)
          refine step_guard rfl rfl (by have hz : a.tmps.size = 58 := hsz; omega) G27 (fun _ => ?_) (fun h => absurd rfl h)
          have t36 : a.tmps.getD 36 undef = .bool true := hg 36 (by kernel_rfl)
          have u36 := t36
          rw [Array.getD_eq_getD_getElem?] at u36
          simp [Oper.wp, Oper.upon, execOp, Act.eval, go_sem, t36, u36, hlt, hlt1, hge, hge1, hk12, hk0]
          exact hK _ _ (Ext.rf _) (fun d' h => by cases h; exact rfl)
        · intro a W hx hdf hsz hg hi K hK
          refine step_free rfl ?_
          have t27 : a.tmps.getD 27 undef = .bool true := hg 27 (by kernel_rfl)
          have t37 : a.tmps.getD 37 undef = .bool false := hg 37 (by kernel_rfl)
          have u27 := t27
          rw [Array.getD_eq_getD_getElem?] at u27
          have u37 := t37
          rw [Array.getD_eq_getD_getElem?] at u37
          simp [Oper.wp, Oper.upon, execOp, Act.eval, go_sem, t27, u27, t37, u37, hlt, hlt1, hge, hge1, hk12, hk0]
          exact hK _ _ (Ext.rf _) (fun d' h => by cases h; exact rfl)
        · intro a W hx hdf hsz hg hi K hK
          refine step_free rfl ?_
          have t38 : a.tmps.getD 38 undef = .bool false := hg 38 (by kernel_rfl)
          have u38 := t38
          rw [Array.getD_eq_getD_getElem?] at u38
          simp [Oper.wp, Oper.upon, execOp, Act.eval, go_sem, t38, u38, hlt, hlt1, hge, hge1, hk12, hk0]
          exact hK _ _ (Ext.rf _) (fun d' h => by cases h; exact rfl)
        · intro a W hx hdf hsz hg hi K hK
          have G39 : a.tmps.getD 39 undef = .bool false := hg 39 (by kernel_rfl)
          refine step_guard rfl rfl (by have hz : a.tmps.size = 58 := hsz; omega) G39 (fun _ => ?_) (fun h => absurd rfl h)
          have t6 : a.tmps.getD 6 undef = .int .i64 k := hi 6 (by kernel_rfl)
          have u6 := t6
          rw [Array.getD_eq_getD_getElem?] at u6
          simp [Oper.wp, Oper.upon, execOp, Act.eval, go_sem, t6, u6, hlt, hlt1, hge, hge1, hk12, hk0]
          exact hK _ _ (Ext.rf _) (fun d' h => by cases h; exact rfl)
        · intro a W hx hdf hsz hg hi K hK
          have G39 : a.tmps.getD 39 undef = .bool false := hg 39 (by kernel_rfl)
          refine step_guard rfl rfl (by have hz : a.tmps.size = 58 := hsz; omega) G39 (fun _ => ?_) (fun h => absurd rfl h)
          have t1 : a.tmps.getD 1 undef = .slice (some ⟨b2, o2, none⟩) xs.length c' := hi 1 (by kernel_rfl)
          have u1 := t1
          rw [Array.getD_eq_getD_getElem?] at u1
          simp [Oper.wp, Oper.upon, execOp, Act.eval, go_sem, t1, u1, hlt, hlt1, hge, hge1, hk12, hk0]
          exact hK _ _ (Ext.rf _) (fun d' h => by cases h; exact rfl)
        · intro a W hx hdf hsz hg hi K hK
          have G39 : a.tmps.getD 39 undef = .bool false := hg 39 (by kernel_rfl)
          refine step_guard rfl rfl (by have hz : a.tmps.size = 58 := hsz; omega) G39 (fun _ => ?_) (fun h => absurd rfl h)
          have t41 : a.tmps.getD 41 undef = .slice (some ⟨b2, o2, none⟩) xs.length c' := hg 41 (by kernel_rfl)
          have u41 := t41
          rw [Array.getD_eq_getD_getElem?] at u41
          simp [Oper.wp, Oper.upon, execOp, Act.eval, go_sem, t41, u41, hlt, hlt1, hge, hge1, hk12, hk0]
          exact hK _ _ (Ext.rf _) (fun d' h => by cases h; exact rfl)
        · intro a W hx hdf hsz hg hi K hK
          have G39 : a.tmps.getD 39 undef = .bool false := hg 39 (by kernel_rfl)
          refine step_guard rfl rfl (by have hz : a.tmps.size = 58 := hsz; omega) G39 (fun _ => ?_) (fun h => absurd rfl h)
          have t40 : a.tmps.getD 40 undef = .int .i64 k := hg 40 (by kernel_rfl)
          have t42 : a.tmps.getD 42 undef = .int .i64 xs.length := hg 42 (by kernel_rfl)
          have u40 := t40
          rw [Array.getD_eq_getD_getElem?] at u40
          have u42 := t42
          rw [Array.getD_eq_getD_getElem?] at u42
          simp [Oper.wp, Oper.upon, execOp, Act.eval, go_sem, t40, u40, t42, u42, hlt, hlt1, hge, hge1, hk12, hk0]
          exact hK _ _ (Ext.rf _) (fun d' h => by cases h; exact rfl)
        · intro a W hx hdf hsz hg hi K hK
          have G39 : a.tmps.getD 39 undef = .bool false := hg 39 (by kernel_rfl)
          refine step_guard rfl rfl (by have hz : a.tmps.size = 58 := hsz; omega) G39 (fun _ => ?_) (fun h => absurd rfl h)
          have t43 : a.tmps.getD 43 undef = .bool false := hg 43 (by kernel_rfl)
          have u43 := t43
          rw [Array.getD_eq_getD_getElem?] at u43
          simp [Oper.wp, Oper.upon, execOp, Act.eval, go_sem, t43, u43, hlt, hlt1, hge, hge1, hk12, hk0]
          exact hK _ _ (Ext.rf _) (fun d' h => by cases h; exact rfl)
        · intro a W hx hdf hsz hg hi K hK
          have G44 : a.tmps.getD 44 undef = .bool false := hg 44 (by kernel_rfl)
          exact step_guard rfl rfl (by have hz : a.tmps.size = 58 := hsz; omega) G44 (fun h => by cases h) (fun _ => hK _ _ (Ext.rf _) (fun d' h => by cases h; exact rfl))
        · intro a W hx hdf hsz hg hi K hK
          have G44 : a.tmps.getD 44 undef = .bool false := hg 44 (by kernel_rfl)
          exact step_guard rfl rfl (by have hz : a.tmps.size = 58 := hsz; omega) G44 (fun h => by cases h) (fun _ => hK _ _ (Ext.rf _) (fun d' h => by cases h; exact rfl))
        · intro a W hx hdf hsz hg hi K hK
          have G44 : a.tmps.getD 44 undef = .bool false := hg 44 (by kernel_rfl)
          exact step_guard rfl rfl (by have hz : a.tmps.size = 58 := hsz; omega) G44 (fun h => by cases h) (fun _ => hK _ _ (Ext.rf _) (fun d' h => by cases h; exact rfl))
        · intro a W hx hdf hsz hg hi K hK
          have G44 : a.tmps.getD 44 undef = .bool false := hg 44 (by kernel_rfl)
          exact step_guard rfl rfl (by have hz : a.tmps.size = 58 := hsz; omega) G44 (fun h => by cases h) (fun _ => hK _ _ (Ext.rf _) (fun d' h => by cases h; exact rfl))
        · intro a W hx hdf hsz hg hi K hK
          have G44 : a.tmps.getD 44 undef = .bool false := hg 44 (by kernel_rfl)
          exact step_guard rfl rfl (by have hz : a.tmps.size = 58 := hsz; omega) G44 (fun h => by cases h) (fun _ => hK _ _ (Ext.rf _) (fun d' h => by cases h; exact rfl))
        · intro a W hx hdf hsz hg hi K hK
          have G44 : a.tmps.getD 44 undef = .bool false := hg 44 (by kernel_rfl)
          exact step_guard rfl rfl (by have hz : a.tmps.size = 58 := hsz; omega) G44 (fun h => by cases h) (fun _ => hK _ _ (Ext.rf _) (fun d' h => by cases h; exact rfl))
        · intro a W hx hdf hsz hg hi K hK
          have G44 : a.tmps.getD 44 undef = .bool false := hg 44 (by kernel_rfl)
          exact step_guard rfl rfl (by have hz : a.tmps.size = 58 := hsz; omega) G44 (fun h => by cases h) (fun _ => hK _ _ (Ext.rf _) (fun d' h => by cases h; exact rfl))
        · intro a W hx hdf hsz hg hi K hK
          have G44 : a.tmps.getD 44 undef = .bool false := hg 44 (by kernel_rfl)
          exact step_guard rfl rfl (by have hz : a.tmps.size = 58 := hsz; omega) G44 (fun h => by cases h) (fun _ => hK _ _ (Ext.rf _) (fun d' h => by cases h; exact rfl))
        · intro a W hx hdf hsz hg hi K hK
          have G44 : a.tmps.getD 44 undef = .bool false := hg 44 (by kernel_rfl)
          exact step_guard rfl rfl (by have hz : a.tmps.size = 58 := hsz; omega) G44 (fun h => by cases h) (fun _ => hK _ _ (Ext.rf _) (fun d' h => by cases h; exact rfl))
        · intro a W hx hdf hsz hg hi K hK
          have G44 : a.tmps.getD 44 undef = .bool false := hg 44 (by kernel_rfl)
          exact step_guard rfl rfl (by have hz : a.tmps.size = 58 := hsz; omega) G44 (fun h => by cases h) (fun _ => hK _ _ (Ext.rf _) (fun d' h => by cases h; exact rfl))
        · intro a W hx hdf hsz hg hi K hK
          have G44 : a.tmps.getD 44 undef = .bool false := hg 44 (by kernel_rfl)
          exact step_guard rfl rfl (by have hz : a.tmps.size = 58 := hsz; omega) G44 (fun h => by cases h) (fun _ => hK _ _ (Ext.rf _) (fun d' h => by cases h; exact rfl))
        · intro a W hx hdf hsz hg hi K hK
          have G39 : a.tmps.getD 39 undef = .bool false := hg 39 (by kernel_rfl)
          refine step_guard rfl rfl (by have hz : a.tmps.size = 58 := hsz; omega) G39 (fun _ => ?_) (fun h => absurd rfl h)
          have t44 : a.tmps.getD 44 undef = .bool false := hg 44 (by kernel_rfl)
          have t55 : a.tmps.getD 55 undef = undef := hg 55 (by kernel_rfl)
          have u44 := t44
          rw [Array.getD_eq_getD_getElem?] at u44
          have u55 := t55
          rw [Array.getD_eq_getD_getElem?] at u55
          simp [Oper.wp, Oper.upon, execOp, Act.eval, go_sem, t44, u44, t55, u55, hlt, hlt1, hge, hge1, hk12, hk0]
          exact hK _ _ (Ext.rf _) (fun d' h => by cases h; exact rfl)
        · intro a W hx hdf hsz hg hi K hK
          refine step_free rfl ?_
          have t39 : a.tmps.getD 39 undef = .bool false := hg 39 (by kernel_rfl)
          have t56 : a.tmps.getD 56 undef = .bool false := hg 56 (by kernel_rfl)
          have u39 := t39
          rw [Array.getD_eq_getD_getElem?] at u39
          have u56 := t56
          rw [Array.getD_eq_getD_getElem?] at u56
          simp [Oper.wp, Oper.upon, execOp, Act.eval, go_sem, t39, u39, t56, u56, hlt, hlt1, hge, hge1, hk12, hk0]
          exact hK _ _ (Ext.rf _) (fun d' h => by cases h; exact rfl)
      · rintro ⟨T, D⟩ w7 hx7 hdf hsz hg hi
        have h57 : T.getD 57 undef = .bool false := hg 57 (by kernel_rfl)
        obtain ⟨f, hf, hT⟩ := frame_slots T 58 hsz
        have f57 := (hf 57).symm.trans h57
        have f0 : f 0 = .slice (some ⟨b, 0, none⟩) xs.length c := (hf 0).symm.trans (hi 0 (by kernel_rfl))
        have f1 : f 1 = .slice (some ⟨b2, o2, none⟩) xs.length c' := (hf 1).symm.trans (hi 1 (by kernel_rfl))
        have f2 : f 2 = undef := (hf 2).symm.trans (hi 2 (by kernel_rfl))
        have f3 : f 3 = undef := (hf 3).symm.trans (hi 3 (by kernel_rfl))
        have f5 : f 5 = .slice (some ⟨b, 0, none⟩) (xs.length + 12) c := (hf 5).symm.trans (hi 5 (by kernel_rfl))
        have f6 : f 6 = .int .i64 k := (hf 6).symm.trans (hi 6 (by kernel_rfl))
        have f7 : f 7 = .slice (some ⟨b, 0, none⟩) xs.length c := (hf 7).symm.trans (hi 7 (by kernel_rfl))
        have f8 : f 8 = .int .i64 xs.length := (hf 8).symm.trans (hi 8 (by kernel_rfl))
        have f9 : f 9 = .slice (some ⟨b2, o2, none⟩) xs.length c' := (hf 9).symm.trans (hi 9 (by kernel_rfl))
        have f10 : f 10 = .int .i64 xs.length := (hf 10).symm.trans (hi 10 (by kernel_rfl))
        have f11 : f 11 = .bool false := (hf 11).symm.trans (hi 11 (by kernel_rfl))
        have f12 : f 12 = .slice (some ⟨b, 0, none⟩) xs.length c := (hf 12).symm.trans (hi 12 (by kernel_rfl))
        have f13 : f 13 = .slice (some ⟨b2, o2, none⟩) xs.length c' := (hf 13).symm.trans (hi 13 (by kernel_rfl))
        have f14 : f 14 = .int .i64 xs.length := (hf 14).symm.trans (hi 14 (by kernel_rfl))
        have f15 : f 15 = .int .i64 (xs.length + 12) := (hf 15).symm.trans (hi 15 (by kernel_rfl))
        have f16 : f 16 = .slice (some ⟨b, 0, none⟩) (xs.length + 12) c := (hf 16).symm.trans (hi 16 (by kernel_rfl))
        have hD : D = [] := hdf
        clear hf hi hg hsz hdf h57
        subst hT hD
        simp only [slots, Nat.reduceAdd, f57, f0, f1, f2, f3, f5, f6, f7, f8, f9, f10, f11, f12, f13, f14, f15, f16]
        go_wp2_with fail
        exact ⟨⟨k + 1, by omega, by go_num, hx0.tr hx7⟩, by simp only [intOf]; omega⟩
    · by_cases hlt2 : k < xs.length + 12
      · obtain ⟨ca, hRa, hca0⟩ := Hmk.out (k - xs.length) (by omega)
        have e1 : xs.length + (k - xs.length) = k := by omega
        have e2 : ((k - xs.length : Nat) : Int) = (k : Int) - xs.length := by omega
        rw [e1] at hca0
        rw [e2] at hRa
        clear e1 e2
        have hca := hca0.ext hx0
        have Ra := hid (mono_part _ _ _ _ hx0 hRa)
        have hi1 : (Tryz.prog.info? 104).map (·.size) = some ca.length := by rw [rpart_len hRa]; kernel_rfl
        have hlt1 : ¬ (k : Int) < (xs.length : Int) := by omega
        have hge : xs.length ≤ k := by omega
        have hge1 : (xs.length : Int) ≤ (k : Int) := by omega
        have hk12 : (k : Int) < (xs.length : Int) + 12 := by omega
        have hsub : IntKind.i64.wrap ((k : Int) - xs.length) = (k : Int) - xs.length := IntWalk.i64_in _ (by omega)
        have hsub2 : (0 : Int) ≤ (k : Int) - xs.length := by omega
        obtain ⟨rfl, _⟩ := id hRa
        clear hca0 hRa
        go_wp2_with fail
        refine wp_region_steps (fun s W v => match s with | 23 => v = .int .i64 k | 24 => v = .slice A xs.length c' | 25 => v = .int .i64 xs.length | 26 => v = .bool false | 27 => v = .bool false | 28 => v = undef | 29 => v = undef | 30 => v = undef | 31 => v = undef | 32 => v = undef | 33 => v = undef | 34 => v = undef | 35 => v = undef | 36 => v = undef | 37 => v = undef | 38 => v = .bool false | 39 => v = .bool false | 40 => v = .int .i64 k | 41 => v = .slice A xs.length c' | 42 => v = .int .i64 xs.length | 43 => v = .bool true | 44 => v = .bool true | 45 => v = .slice (some ⟨b, 0, none⟩) (xs.length + 12) c | 46 => v = .int .i64 k | 47 => v = .pointer (some ⟨b, k * 2, none⟩) | 48 => v = .agg #[.int .i64 (mkPart ((k : Int) - xs.length)).v, .int .i64 (mkPart ((k : Int) - xs.length)).p] | 49 => v = .int .i64 k | 50 => v = .slice A xs.length c' | 51 => v = .int .i64 xs.length | 52 => v = .int .i64 ((k : Int) - xs.length) | 53 => v = .agg #[.int .i64 (mkPart ((k : Int) - xs.length)).v, .int .i64 (mkPart ((k : Int) - xs.length)).p] | 54 => v = .bool true | 55 => v = .bool false | 56 => v = .bool false | 57 => v = .bool false | _ => True) (by kernel_rfl) (by kernel_rfl) (of_decide_eq_true (by kernel_rfl)) (by kernel_rfl) (fun s W W' v _ h => h) ?_ ?_
        · refine ⟨?_, ?_, ?_, ?_, ?_, ?_, ?_, ?_, ?_, ?_, ?_, ?_, ?_, ?_, ?_, ?_, ?_, ?_, ?_, ?_, ?_, ?_, ?_, ?_, ?_, ?_, ?_, ?_, ?_, ?_, ?_, ?_, ?_, ?_, ?_, trivial⟩
          · intro a W hx hdf hsz hg hi K hK
            refine step_free rfl ?_
            have t6 : a.tmps.getD 6 undef = .int .i64 k := hi 6 (by kernel_rfl)
            have u6 := t6
            rw [Array.getD_eq_getD_getElem?] at u6
            simp [Oper.wp, Oper.upon, execOp, Act.eval, go_sem, t6, u6, hlt, hlt1, hge, hge1, hk12, hk0, hsub, hsub2]
            exact hK _ _ (Ext.rf _) (fun d' h => by cases h; exact rfl)
          · intro a W hx hdf hsz hg hi K hK
            refine step_free rfl ?_
            have t1 : a.tmps.getD 1 undef = .slice A xs.length c' := hi 1 (by kernel_rfl)
            have u1 := t1
            rw [Array.getD_eq_getD_getElem?] at u1
            simp [Oper.wp, Oper.upon, execOp, Act.eval, go_sem, t1, u1, hlt, hlt1, hge, hge1, hk12, hk0, hsub, hsub2]
            exact hK _ _ (Ext.rf _) (fun d' h => by cases h; exact rfl)
          · intro a W hx hdf hsz hg hi K hK
            refine step_free rfl ?_
            have t24 : a.tmps.getD 24 undef = .slice A xs.length c' := hg 24 (by kernel_rfl)
            have u24 := t24
            rw [Array.getD_eq_getD_getElem?] at u24
            simp [Oper.wp, Oper.upon, execOp, Act.eval, go_sem, t24, u24, hlt, hlt1, hge, hge1, hk12, hk0, hsub, hsub2]
            exact hK _ _ (Ext.rf _) (fun d' h => by cases h; exact rfl)
          · intro a W hx hdf hsz hg hi K hK
            refine step_free rfl ?_
            have t23 : a.tmps.getD 23 undef = .int .i64 k := hg 23 (by kernel_rfl)
            have t25 : a.tmps.getD 25 undef = .int .i64 xs.length := hg 25 (by kernel_rfl)
            have u23 := t23
            rw [Array.getD_eq_getD_getElem?] at u23
            have u25 := t25
            rw [Array.getD_eq_getD_getElem?] at u25
            simp [Oper.wp, Oper.upon, execOp, Act.eval, go_sem, t23, u23, t25, u25, hlt, hlt1, hge, hge1, hk12, hk0, hsub, hsub2]
            exact hK _ _ (Ext.rf _) (fun d' h => by cases h; exact rfl)
          · intro a W hx hdf hsz hg hi K hK
            refine step_free rfl ?_
            have t26 : a.tmps.getD 26 undef = .bool false := hg 26 (by kernel_rfl)
            have u26 := t26
            rw [Array.getD_eq_getD_getElem?] at u26
            simp [Oper.wp, Oper.upon, execOp, Act.eval, go_sem, t26, u26, hlt, hlt1, hge, hge1, hk12, hk0, hsub, hsub2]
            exact hK _ _ (Ext.rf _) (fun d' h => by cases h; exact rfl)
          · intro a W hx hdf hsz hg hi K hK
            have G27 : a.tmps.getD 27 undef = .bool false := hg 27 (by kernel_rfl)
            exact step_guard rfl rfl (by have hz : a.tmps.size = 58 := hsz; omega) G27 (fun h => by cases h) (fun _ => hK _ _ (Ext.rf _) (fun d' h => by cases h; exact rfl))
          · intro a W hx hdf hsz hg hi K hK
            have G27 : a.tmps.getD 27 undef = .bool false := hg 27 (by kernel_rfl)
            exact step_guard rfl rfl (by have hz : a.tmps.size = 58 := hsz; omega) G27 (fun h => by cases h) (fun _ => hK _ _ (Ext.rf _) (fun d' h => by cases h; exact rfl))
          · intro a W hx hdf hsz hg hi K hK
            have G27 : a.tmps.getD 27 undef = .bool false := hg 27 (by kernel_rfl)
            exact step_guard rfl rfl (by have hz : a.tmps.size = 58 := hsz; omega) G27 (fun h => by cases h) (fun _ => hK _ _ (Ext.rf _) (fun d' h => by cases h; exact rfl))
          · intro a W hx hdf hsz hg hi K hK
            have G27 : a.tmps.getD 27 undef = .bool false := hg 27 (by kernel_rfl)
            exact step_guard rfl rfl (by have hz : a.tmps.size = 58 := hsz; omega) G27 (fun h => by cases h) (fun _ => hK _ _ (Ext.rf _) (fun d' h => by cases h; exact rfl))
          · intro a W hx hdf hsz hg hi K hK
            have G27 : a.tmps.getD 27 undef = .bool false := hg 27 (by kernel_rfl)
            exact step_guard rfl rfl (by have hz : a.tmps.size = 58 := hsz; omega) G27 (fun h => by cases h) (fun _ => hK _ _ (Ext.rf _) (fun d' h => by cases h; exact rfl))
          · intro a W hx hdf hsz hg hi K hK
            have G27 : a.tmps.getD 27 undef = .bool false := hg 27 (by kernel_rfl)
            exact step_guard rfl rfl (by have hz : a.tmps.size = 58 := hsz; omega) G27 (fun h => by cases h) (fun _ => hK _ _ (Ext.rf _) (fun d' h => by cases h; exact rfl))
          · intro a W hx hdf hsz hg hi K hK
            have G27 : a.tmps.getD 27 undef = .bool false := hg 27 (by kernel_rfl)
            exact step_guard rfl rfl (by have hz : a.tmps.size = 58 := hsz; omega) G27 (fun h => by cases h) (fun _ => hK _ _ (Ext.rf _) (fun d' h => by cases h; exact rfl))
          · intro a W hx hdf hsz hg hi K hK
            have G27 : a.tmps.getD 27 undef = .bool false := hg 27 (by kernel_rfl)
            exact step_guard rfl rfl (by have hz : a.tmps.size = 58 := hsz; omega) G27 (fun h => by cases h) (fun _ => hK _ _ (Ext.rf _) (fun d' h => by cases h; exact rfl))
          · intro a W hx hdf hsz hg hi K hK
            have G27 : a.tmps.getD 27 undef = .bool false := hg 27 (by kernel_rfl)
            exact step_guard rfl rfl (by have hz : a.tmps.size = 58 := hsz; omega) G27 (fun h => by cases h) (fun _ => hK _ _ (Ext.rf _) (fun d' h => by cases h; exact rfl))
          · intro a W hx hdf hsz hg hi K hK
            have G27 : a.tmps.getD 27 undef = .bool false := hg 27 (by kernel_rfl)
            exact step_guard rfl rfl (by have hz : a.tmps.size = 58 := hsz; omega) G27 (fun h => by cases h) (fun _ => hK _ _ (Ext.rf _) (fun d' h => by cases h; exact rfl))
          · intro a W hx hdf hsz hg hi K hK
            refine step_free rfl ?_
            have t27 : a.tmps.getD 27 undef = .bool false := hg 27 (by kernel_rfl)
            have t37 : a.tmps.getD 37 undef = undef := hg 37 (by kernel_rfl)
            have u27 := t27
            rw [Array.getD_eq_getD_getElem?] at u27
            have u37 := t37
            rw [Array.getD_eq_getD_getElem?] at u37
            simp [Oper.wp, Oper.upon, execOp, Act.eval, go_sem, t27, u27, t37, u37, hlt, hlt1, hge, hge1, hk12, hk0, hsub, hsub2]
            exact hK _ _ (Ext.rf _) (fun d' h => by cases h; exact rfl)
          · intro a W hx hdf hsz hg hi K hK
            refine step_free rfl ?_
            have t38 : a.tmps.getD 38 undef = .bool false := hg 38 (by kernel_rfl)
            have u38 := t38
            rw [Array.getD_eq_getD_getElem?] at u38
            simp [Oper.wp, Oper.upon, execOp, Act.eval, go_sem, t38, u38, hlt, hlt1, hge, hge1, hk12, hk0, hsub, hsub2]
            exact hK _ _ (Ext.rf _) (fun d' h => by cases h; exact rfl)
          · intro a W hx hdf hsz hg hi K hK
            have G39 : a.tmps.getD 39 undef = .bool false := hg 39 (by kernel_rfl)
            refine step_guard rfl rfl (by have hz : a.tmps.size = 58 := hsz; omega) G39 (fun _ => ?_) (fun h => absurd rfl h)
            have t6 : a.tmps.getD 6 undef = .int .i64 k := hi 6 (by kernel_rfl)
            have u6 := t6
            rw [Array.getD_eq_getD_getElem?] at u6
            simp [Oper.wp, Oper.upon, execOp, Act.eval, go_sem, t6, u6, hlt, hlt1, hge, hge1, hk12, hk0, hsub, hsub2]
            exact hK _ _ (Ext.rf _) (fun d' h => by cases h; exact rfl)
          · intro a W hx hdf hsz hg hi K hK
            have G39 : a.tmps.getD 39 undef = .bool false := hg 39 (by kernel_rfl)
            refine step_guard rfl rfl (by have hz : a.tmps.size = 58 := hsz; omega) G39 (fun _ => ?_) (fun h => absurd rfl h)
            have t1 : a.tmps.getD 1 undef = .slice A xs.length c' := hi 1 (by kernel_rfl)
            have u1 := t1
            rw [Array.getD_eq_getD_getElem?] at u1
            simp [Oper.wp, Oper.upon, execOp, Act.eval, go_sem, t1, u1, hlt, hlt1, hge, hge1, hk12, hk0, hsub, hsub2]
            exact hK _ _ (Ext.rf _) (fun d' h => by cases h; exact rfl)
          · intro a W hx hdf hsz hg hi K hK
            have G39 : a.tmps.getD 39 undef = .bool false := hg 39 (by kernel_rfl)
            refine step_guard rfl rfl (by have hz : a.tmps.size = 58 := hsz; omega) G39 (fun _ => ?_) (fun h => absurd rfl h)
            have t41 : a.tmps.getD 41 undef = .slice A xs.length c' := hg 41 (by kernel_rfl)
            have u41 := t41
            rw [Array.getD_eq_getD_getElem?] at u41
            simp [Oper.wp, Oper.upon, execOp, Act.eval, go_sem, t41, u41, hlt, hlt1, hge, hge1, hk12, hk0, hsub, hsub2]
            exact hK _ _ (Ext.rf _) (fun d' h => by cases h; exact rfl)
          · intro a W hx hdf hsz hg hi K hK
            have G39 : a.tmps.getD 39 undef = .bool false := hg 39 (by kernel_rfl)
            refine step_guard rfl rfl (by have hz : a.tmps.size = 58 := hsz; omega) G39 (fun _ => ?_) (fun h => absurd rfl h)
            have t40 : a.tmps.getD 40 undef = .int .i64 k := hg 40 (by kernel_rfl)
            have t42 : a.tmps.getD 42 undef = .int .i64 xs.length := hg 42 (by kernel_rfl)
            have u40 := t40
            rw [Array.getD_eq_getD_getElem?] at u40
            have u42 := t42
            rw [Array.getD_eq_getD_getElem?] at u42
            simp [Oper.wp, Oper.upon, execOp, Act.eval, go_sem, t40, u40, t42, u42, hlt, hlt1, hge, hge1, hk12, hk0, hsub, hsub2]
            exact hK _ _ (Ext.rf _) (fun d' h => by cases h; exact rfl)
          · intro a W hx hdf hsz hg hi K hK
            have G39 : a.tmps.getD 39 undef = .bool false := hg 39 (by kernel_rfl)
            refine step_guard rfl rfl (by have hz : a.tmps.size = 58 := hsz; omega) G39 (fun _ => ?_) (fun h => absurd rfl h)
            have t43 : a.tmps.getD 43 undef = .bool true := hg 43 (by kernel_rfl)
            have u43 := t43
            rw [Array.getD_eq_getD_getElem?] at u43
            simp [Oper.wp, Oper.upon, execOp, Act.eval, go_sem, t43, u43, hlt, hlt1, hge, hge1, hk12, hk0, hsub, hsub2]
            exact hK _ _ (Ext.rf _) (fun d' h => by cases h; exact rfl)
          · intro a W hx hdf hsz hg hi K hK
            have G44 : a.tmps.getD 44 undef = .bool true := hg 44 (by kernel_rfl)
            refine step_guard rfl rfl (by have hz : a.tmps.size = 58 := hsz; omega) G44 (fun _ => ?_) (fun h => absurd rfl h)
            have t5 : a.tmps.getD 5 undef = .slice (some ⟨b, 0, none⟩) (xs.length + 12) c := hi 5 (by kernel_rfl)
            have u5 := t5
            rw [Array.getD_eq_getD_getElem?] at u5
            simp [Oper.wp, Oper.upon, execOp, Act.eval, go_sem, t5, u5, hlt, hlt1, hge, hge1, hk12, hk0, hsub, hsub2]
            exact hK _ _ (Ext.rf _) (fun d' h => by cases h; exact rfl)
          · intro a W hx hdf hsz hg hi K hK
            have G44 : a.tmps.getD 44 undef = .bool true := hg 44 (by kernel_rfl)
            refine step_guard rfl rfl (by have hz : a.tmps.size = 58 := hsz; omega) G44 (fun _ => ?_) (fun h => absurd rfl h)
            have t6 : a.tmps.getD 6 undef = .int .i64 k := hi 6 (by kernel_rfl)
            have u6 := t6
            rw [Array.getD_eq_getD_getElem?] at u6
            simp [Oper.wp, Oper.upon, execOp, Act.eval, go_sem, t6, u6, hlt, hlt1, hge, hge1, hk12, hk0, hsub, hsub2]
            exact hK _ _ (Ext.rf _) (fun d' h => by cases h; exact rfl)
          · intro a W hx hdf hsz hg hi K hK
            have G44 : a.tmps.getD 44 undef = .bool true := hg 44 (by kernel_rfl)
            refine step_guard rfl rfl (by have hz : a.tmps.size = 58 := hsz; omega) G44 (fun _ => ?_) (fun h => absurd rfl h)
            have t45 : a.tmps.getD 45 undef = .slice (some ⟨b, 0, none⟩) (xs.length + 12) c := hg 45 (by kernel_rfl)
            have t46 : a.tmps.getD 46 undef = .int .i64 k := hg 46 (by kernel_rfl)
            have u45 := t45
            rw [Array.getD_eq_getD_getElem?] at u45
            have u46 := t46
            rw [Array.getD_eq_getD_getElem?] at u46
            simp [Oper.wp, Oper.upon, execOp, Act.eval, go_sem, t45, u45, t46, u46, hlt, hlt1, hge, hge1, hk12, hk0, hsub, hsub2]
            exact hK _ _ (Ext.rf _) (fun d' h => by cases h; exact rfl)
          · intro a W hx hdf hsz hg hi K hK
            have G44 : a.tmps.getD 44 undef = .bool true := hg 44 (by kernel_rfl)
            refine step_guard rfl rfl (by have hz : a.tmps.size = 58 := hsz; omega) G44 (fun _ => ?_) (fun h => absurd rfl h)
            have t47 : a.tmps.getD 47 undef = .pointer (some ⟨b, k * 2, none⟩) := hg 47 (by kernel_rfl)
            have u47 := t47
            rw [Array.getD_eq_getD_getElem?] at u47
            refine wp_load_mid 104 (.tmp 47) rfl b (k * 2) t47 _ _ (hca.ext hx) hu rfl hi1 ?_
            exact hK _ _ (Ext.rf _) (fun d' h => by cases h; exact rfl)
          · intro a W hx hdf hsz hg hi K hK
            have G44 : a.tmps.getD 44 undef = .bool true := hg 44 (by kernel_rfl)
            refine step_guard rfl rfl (by have hz : a.tmps.size = 58 := hsz; omega) G44 (fun _ => ?_) (fun h => absurd rfl h)
            have t6 : a.tmps.getD 6 undef = .int .i64 k := hi 6 (by kernel_rfl)
            have u6 := t6
            rw [Array.getD_eq_getD_getElem?] at u6
            simp [Oper.wp, Oper.upon, execOp, Act.eval, go_sem, t6, u6, hlt, hlt1, hge, hge1, hk12, hk0, hsub, hsub2]
            exact hK _ _ (Ext.rf _) (fun d' h => by cases h; exact rfl)
          · intro a W hx hdf hsz hg hi K hK
            have G44 : a.tmps.getD 44 undef = .bool true := hg 44 (by kernel_rfl)
            refine step_guard rfl rfl (by have hz : a.tmps.size = 58 := hsz; omega) G44 (fun _ => ?_) (fun h => absurd rfl h)
            have t1 : a.tmps.getD 1 undef = .slice A xs.length c' := hi 1 (by kernel_rfl)
            have u1 := t1
            rw [Array.getD_eq_getD_getElem?] at u1
            simp [Oper.wp, Oper.upon, execOp, Act.eval, go_sem, t1, u1, hlt, hlt1, hge, hge1, hk12, hk0, hsub, hsub2]
            exact hK _ _ (Ext.rf _) (fun d' h => by cases h; exact rfl)
          · intro a W hx hdf hsz hg hi K hK
            have G44 : a.tmps.getD 44 undef = .bool true := hg 44 (by kernel_rfl)
            refine step_guard rfl rfl (by have hz : a.tmps.size = 58 := hsz; omega) G44 (fun _ => ?_) (fun h => absurd rfl h)
            have t50 : a.tmps.getD 50 undef = .slice A xs.length c' := hg 50 (by kernel_rfl)
            have u50 := t50
            rw [Array.getD_eq_getD_getElem?] at u50
            simp [Oper.wp, Oper.upon, execOp, Act.eval, go_sem, t50, u50, hlt, hlt1, hge, hge1, hk12, hk0, hsub, hsub2]
            exact hK _ _ (Ext.rf _) (fun d' h => by cases h; exact rfl)
          · intro a W hx hdf hsz hg hi K hK
            have G44 : a.tmps.getD 44 undef = .bool true := hg 44 (by kernel_rfl)
            refine step_guard rfl rfl (by have hz : a.tmps.size = 58 := hsz; omega) G44 (fun _ => ?_) (fun h => absurd rfl h)
            have t49 : a.tmps.getD 49 undef = .int .i64 k := hg 49 (by kernel_rfl)
            have t51 : a.tmps.getD 51 undef = .int .i64 xs.length := hg 51 (by kernel_rfl)
            have u49 := t49
            rw [Array.getD_eq_getD_getElem?] at u49
            have u51 := t51
            rw [Array.getD_eq_getD_getElem?] at u51
            simp [Oper.wp, Oper.upon, execOp, Act.eval, go_sem, t49, u49, t51, u51, hlt, hlt1, hge, hge1, hk12, hk0, hsub, hsub2]
            exact hK _ _ (Ext.rf _) (fun d' h => by cases h; exact rfl)
          · intro a W hx hdf hsz hg hi K hK
            have G44 : a.tmps.getD 44 undef = .bool true := hg 44 (by kernel_rfl)
            refine step_guard rfl rfl (by have hz : a.tmps.size = 58 := hsz; omega) G44 (fun _ => ?_) (fun h => absurd rfl h)
            have t52 : a.tmps.getD 52 undef = .int .i64 ((k : Int) - xs.length) := hg 52 (by kernel_rfl)
            have u52 := t52
            rw [Array.getD_eq_getD_getElem?] at u52
            simp [Oper.wp, Oper.upon, execOp, Act.eval, go_sem, t52, u52]
            refine (markPart_any ((k : Int) - xs.length) _ (by omega)).mono ?_
            rintro e w' ⟨hb, cs, rfl, rfl, _⟩
            exact hK _ _ hb (fun d' h => by cases h; exact rfl)
          · intro a W hx hdf hsz hg hi K hK
            have G44 : a.tmps.getD 44 undef = .bool true := hg 44 (by kernel_rfl)
            refine step_guard rfl rfl (by have hz : a.tmps.size = 58 := hsz; omega) G44 (fun _ => ?_) (fun h => absurd rfl h)
            have t48 : a.tmps.getD 48 undef = .agg #[.int .i64 (mkPart ((k : Int) - xs.length)).v, .int .i64 (mkPart ((k : Int) - xs.length)).p] := hg 48 (by kernel_rfl)
            have t53 : a.tmps.getD 53 undef = .agg #[.int .i64 (mkPart ((k : Int) - xs.length)).v, .int .i64 (mkPart ((k : Int) - xs.length)).p] := hg 53 (by kernel_rfl)
            have u48 := t48
            rw [Array.getD_eq_getD_getElem?] at u48
            have u53 := t53
            rw [Array.getD_eq_getD_getElem?] at u53
            simp [Oper.wp, Oper.upon, execOp, Act.eval, go_sem, t48, u48, t53, u53, hlt, hlt1, hge, hge1, hk12, hk0, hsub, hsub2]
            exact hK _ _ (Ext.rf _) (fun d' h => by cases h; exact rfl)
          · intro a W hx hdf hsz hg hi K hK
            have G44 : a.tmps.getD 44 undef = .bool true := hg 44 (by kernel_rfl)
            refine step_guard rfl rfl (by have hz : a.tmps.size = 58 := hsz; omega) G44 (fun _ => ?_) (fun h => absurd rfl h)
            have t54 : a.tmps.getD 54 undef = .bool true := hg 54 (by kernel_rfl)
            have u54 := t54
            rw [Array.getD_eq_getD_getElem?] at u54
            simp [Oper.wp, Oper.upon, execOp, Act.eval, go_sem, t54, u54, hlt, hlt1, hge, hge1, hk12, hk0, hsub, hsub2]
            exact hK _ _ (Ext.rf _) (fun d' h => by cases h; exact rfl)
          · intro a W hx hdf hsz hg hi K hK
            have G39 : a.tmps.getD 39 undef = .bool false := hg 39 (by kernel_rfl)
            refine step_guard rfl rfl (by have hz : a.tmps.size = 58 := hsz; omega) G39 (fun _ => ?_) (fun h => absurd rfl h)
            have t44 : a.tmps.getD 44 undef = .bool true := hg 44 (by kernel_rfl)
            have t55 : a.tmps.getD 55 undef = .bool false := hg 55 (by kernel_rfl)
            have u44 := t44
            rw [Array.getD_eq_getD_getElem?] at u44
            have u55 := t55
            rw [Array.getD_eq_getD_getElem?] at u55
            simp [Oper.wp, Oper.upon, execOp, Act.eval, go_sem, t44, u44, t55, u55, hlt, hlt1, hge, hge1, hk12, hk0, hsub, hsub2]
            exact hK _ _ (Ext.rf _) (fun d' h => by cases h; exact rfl)
          · intro a W hx hdf hsz hg hi K hK
            refine step_free rfl ?_
            have t39 : a.tmps.getD 39 undef = .bool false := hg 39 (by kernel_rfl)
            have t56 : a.tmps.getD 56 undef = .bool false := hg 56 (by kernel_rfl)
            have u39 := t39
            rw [Array.getD_eq_getD_getElem?] at u39
            have u56 := t56
            rw [Array.getD_eq_getD_getElem?] at u56
            simp [Oper.wp, Oper.upon, execOp, Act.eval, go_sem, t39, u39, t56, u56, hlt, hlt1, hge, hge1, hk12, hk0, hsub, hsub2]
            exact hK _ _ (Ext.rf _) (fun d' h => by cases h; exact rfl)
        · rintro ⟨T, D⟩ w7 hx7 hdf hsz hg hi
          have h57 : T.getD 57 undef = .bool false := hg 57 (by kernel_rfl)
          obtain ⟨f, hf, hT⟩ := frame_slots T 58 hsz
          have f57 := (hf 57).symm.trans h57
          have f0 : f 0 = .slice (some ⟨b, 0, none⟩) xs.length c := (hf 0).symm.trans (hi 0 (by kernel_rfl))
          have f1 : f 1 = .slice A xs.length c' := (hf 1).symm.trans (hi 1 (by kernel_rfl))
          have f2 : f 2 = undef := (hf 2).symm.trans (hi 2 (by kernel_rfl))
          have f3 : f 3 = undef := (hf 3).symm.trans (hi 3 (by kernel_rfl))
          have f5 : f 5 = .slice (some ⟨b, 0, none⟩) (xs.length + 12) c := (hf 5).symm.trans (hi 5 (by kernel_rfl))
          have f6 : f 6 = .int .i64 k := (hf 6).symm.trans (hi 6 (by kernel_rfl))
          have f7 : f 7 = .slice (some ⟨b, 0, none⟩) xs.length c := (hf 7).symm.trans (hi 7 (by kernel_rfl))
          have f8 : f 8 = .int .i64 xs.length := (hf 8).symm.trans (hi 8 (by kernel_rfl))
          have f9 : f 9 = .slice A xs.length c' := (hf 9).symm.trans (hi 9 (by kernel_rfl))
          have f10 : f 10 = .int .i64 xs.length := (hf 10).symm.trans (hi 10 (by kernel_rfl))
          have f11 : f 11 = .bool false := (hf 11).symm.trans (hi 11 (by kernel_rfl))
          have f12 : f 12 = .slice (some ⟨b, 0, none⟩) xs.length c := (hf 12).symm.trans (hi 12 (by kernel_rfl))
          have f13 : f 13 = .slice A xs.length c' := (hf 13).symm.trans (hi 13 (by kernel_rfl))
          have f14 : f 14 = .int .i64 xs.length := (hf 14).symm.trans (hi 14 (by kernel_rfl))
          have f15 : f 15 = .int .i64 (xs.length + 12) := (hf 15).symm.trans (hi 15 (by kernel_rfl))
          have f16 : f 16 = .slice (some ⟨b, 0, none⟩) (xs.length + 12) c := (hf 16).symm.trans (hi 16 (by kernel_rfl))
          have hD : D = [] := hdf
          clear hf hi hg hsz hdf h57
          subst hT hD
          simp only [slots, Nat.reduceAdd, f57, f0, f1, f2, f3, f5, f6, f7, f8, f9, f10, f11, f12, f13, f14, f15, f16]
          go_wp2_with fail
          exact ⟨⟨k + 1, by omega, by go_num, hx0.tr hx7⟩, by simp only [intOf]; omega⟩
      · obtain rfl : k = xs.length + 12 := by omega
        go_wp2_with fail
        go_ret
        exact ⟨rfl, hx0⟩
set_option maxRecDepth 100000 in
set_option maxHeartbeats 1000000 in
theorem keptLevel_any (x : Level) (ca cb : List Value) (w : World) (ha : RLLevel w x ca) (hb : RLevel w x cb) : Calls Tryz.prog 64 #[.agg ca.toArray, .agg cb.toArray] w fun e w' => e = .returned (.bool true) ∧ Ext w w' := by
  have HA := hid ha
  have HB := hid hb
  obtain ⟨v, rfl, hs⟩ := ha
  obtain ⟨v', rfl, hs'⟩ := hb
  obtain ⟨b, c, rfl, _⟩ := id hs
  obtain ⟨A, c', rfl, _⟩ := id hs'
  have hx0 : Ext w _ := ((Ext.rf w).al (.cells #[.slice (some ⟨b, 0, none⟩) x.parts.length c] 38)).al (.cells #[.slice A x.parts.length c'] 38)
  have HX := hid hx0
  clear hx0
  go_enter Tryz.func64, Tryz.ntmps64
  go_wp2_with fail
  refine (sameLevel_any x _ _ _ (mono_level _ _ _ _ HX.out (rl_level HA.out)) (mono_level _ _ _ _ HX.out HB.out)).mono ?_
  rintro e w1 ⟨rfl, hx⟩
  have q0 : w1.cell? ⟨w.heap.size, 0, none⟩ = some (.slice (some ⟨b, 0, none⟩) x.parts.length c) := hx.cell (by simp [go_sem])
  have r0 : w1.cell? ⟨w.heap.size + 1, 0, none⟩ = some (.slice A x.parts.length c') := hx.cell (by simp [go_sem])
  have hx1 := hid (HX.out.tr hx)
  go_wp2_with fail
  refine (keptParts_any x.parts _ _ _ (hs.sub monoC_part monoC_part hx1.out.sub) (hs'.ext mono_part hx1.out)).mono ?_
  rintro e w2 ⟨rfl, hx2⟩
  go_wp2_with fail
  go_ret
  exact ⟨rfl, hx1.out.tr hx2⟩
set_option maxRecDepth 100000 in
set_option maxHeartbeats 4000000 in
theorem keptLevels_any (xs : List Level) (vo vl : Value) (w : World) (ho : LSl RLLevel RLevel mkLevel 1 24 w xs vo) (hl : Sl RLevel 1 24 w xs vl) : Calls Tryz.prog 31 #[vo, vl] w fun e w' => e = .returned (.bool true) ∧ Ext w w' := by
  obtain ⟨b, c, rfl, hc, -, hel, hmk⟩ := ho
  obtain ⟨A, c', rfl, hc', hr⟩ := hl
  have hln := hr.len_le
  have hcap : c ≤ 9223372036854775807 ∨ True := .inr trivial
  have Hel := hid hel
  have Hmk := hid hmk
  clear hel hmk hcap
  go_enter Tryz.func31, Tryz.ntmps31
  go_wp2_with fail
  go_loopw [6] (fun i wr => ∃ k : Nat, k ≤ xs.length + 12 ∧ i = .int .i64 k ∧ Ext w wr) (fun i _ => xs.length + 12 - (intOf i).toNat)
  case atStart => exact ⟨0, by omega, rfl, Ext.rf _⟩
  case round =>
    obtain ⟨k, hk, rfl, hx0⟩ := hrel
    obtain ⟨wr, rfl⟩ := ext_name2 hx0
    have hu := Tryz.underlying38
    have hk0 : (0 : Int) ≤ (k : Int) := by omega
    by_cases hlt : k < xs.length
    · obtain ⟨ca, hRa, hca0⟩ := Hel.out k xs[k] (List.getElem?_eq_getElem hlt)
      obtain ⟨b2, o2, cb, rfl, hRb, hcb0⟩ := hr.at_ hlt
      have hca := hca0.ext hx0
      have hcb := hcb0.ext hx0
      rw [Nat.mul_one] at hca hcb
      have Ra := hid (monoC_llevel _ _ _ _ hx0.sub hRa)
      have Rb := hid (mono_level _ _ _ _ hx0 hRb)
      have hi1 : (Tryz.prog.info? 38).map (·.size) = some ca.length := by rw [rllevel_len hRa]; kernel_rfl
      have hi2 : (Tryz.prog.info? 38).map (·.size) = some cb.length := by rw [rlevel_len hRb]; kernel_rfl
      have hlt1 : (k : Int) < (xs.length : Int) := by omega
      have hge : ¬ xs.length ≤ k := by omega
      have hge1 : ¬ (xs.length : Int) ≤ (k : Int) := by omega
      have hk12 : (k : Int) < (xs.length : Int) + 12 := by omega
      clear hca0 hcb0 hRa hRb
      go_wp2_with fail
      refine wp_region_steps (fun s W v => match s with | 23 => v = .int .i64 k | 24 => v = .slice (some ⟨b2, o2, none⟩) xs.length c' | 25 => v = .int .i64 xs.length | 26 => v = .bool true | 27 => v = .bool true | 28 => v = .slice (some ⟨b, 0, none⟩) (xs.length + 12) c | 29 => v = .int .i64 k | 30 => v = .pointer (some ⟨b, k, none⟩) | 31 => v = .agg ca.toArray | 32 => v = .slice (some ⟨b2, o2, none⟩) xs.length c' | 33 => v = .int .i64 k | 34 => v = .pointer (some ⟨b2, o2 + k, none⟩) | 35 => v = .agg cb.toArray | 36 => v = .bool true | 37 => v = .bool false | 38 => v = .bool false | 39 => v = .bool false | 40 => v = .int .i64 k | 41 => v = .slice (some ⟨b2, o2, none⟩) xs.length c' | 42 => v = .int .i64 xs.length | 43 => v = .bool false | 44 => v = .bool false | 45 => v = undef | 46 => v = undef | 47 => v = undef | 48 => v = undef | 49 => v = undef | 50 => v = undef | 51 => v = undef | 52 => v = undef | 53 => v = undef | 54 => v = undef | 55 => v = undef | 56 => v = .bool false | 57 => v = .bool false | _ => True) (by kernel_rfl) (by kernel_rfl) (of_decide_eq_true (by kernel_rfl)) (by kernel_rfl) (fun s W W' v _ h => h) ?_ ?_
      · refine ⟨?_, ?_, ?_, ?_, ?_, ?_, ?_, ?_, ?_, ?_, ?_, ?_, ?_, ?_, ?_, ?_, ?_, ?_, ?_, ?_, ?_, ?_, ?_, ?_, ?_, ?_, ?_, ?_, ?_, ?_, ?_, ?_, ?_, ?_, ?_, trivial⟩
        · intro a W hx hdf hsz hg hi K hK
          refine step_free rfl ?_
          have t6 : a.tmps.getD 6 undef = .int .i64 k := hi 6 (by kernel_rfl)
          have u6 := t6
          rw [Array.getD_eq_getD_getElem?] at u6
          simp [Oper.wp, Oper.upon, execOp, Act.eval, go_sem, t6, u6, hlt, hlt1, hge, hge1, hk12, hk0]
          exact hK _ _ (Ext.rf _) (fun d' h => by cases h; exact rfl)
        · intro a W hx hdf hsz hg hi K hK
          refine step_free rfl ?_
          have t1 : a.tmps.getD 1 undef = .slice (some ⟨b2, o2, none⟩) xs.length c' := hi 1 (by kernel_rfl)
          have u1 := t1
          rw [Array.getD_eq_getD_getElem?] at u1
          simp [Oper.wp, Oper.upon, execOp, Act.eval, go_sem, t1, u1, hlt, hlt1, hge, hge1, hk12, hk0]
          exact hK _ _ (Ext.rf _) (fun d' h => by cases h; exact rfl)
        · intro a W hx hdf hsz hg hi K hK
          refine step_free rfl ?_
          have t24 : a.tmps.getD 24 undef = .slice (some ⟨b2, o2, none⟩) xs.length c' := hg 24 (by kernel_rfl)
          have u24 := t24
          rw [Array.getD_eq_getD_getElem?] at u24
          simp [Oper.wp, Oper.upon, execOp, Act.eval, go_sem, t24, u24, hlt, hlt1, hge, hge1, hk12, hk0]
          exact hK _ _ (Ext.rf _) (fun d' h => by cases h; exact rfl)
        · intro a W hx hdf hsz hg hi K hK
          refine step_free rfl ?_
          have t23 : a.tmps.getD 23 undef = .int .i64 k := hg 23 (by kernel_rfl)
          have t25 : a.tmps.getD 25 undef = .int .i64 xs.length := hg 25 (by kernel_rfl)
          have u23 := t23
          rw [Array.getD_eq_getD_getElem?] at u23
          have u25 := t25
          rw [Array.getD_eq_getD_getElem?] at u25
          simp [Oper.wp, Oper.upon, execOp, Act.eval, go_sem, t23, u23, t25, u25, hlt, hlt1, hge, hge1, hk12, hk0]
          exact hK _ _ (Ext.rf _) (fun d' h => by cases h; exact rfl)
        · intro a W hx hdf hsz hg hi K hK
          refine step_free rfl ?_
          have t26 : a.tmps.getD 26 undef = .bool true := hg 26 (by kernel_rfl)
          have u26 := t26
          rw [Array.getD_eq_getD_getElem?] at u26
          simp [Oper.wp, Oper.upon, execOp, Act.eval, go_sem, t26, u26, hlt, hlt1, hge, hge1, hk12, hk0]
          exact hK _ _ (Ext.rf _) (fun d' h => by cases h; exact rfl)
        · intro a W hx hdf hsz hg hi K hK
          have G27 : a.tmps.getD 27 undef = .bool true := hg 27 (by kernel_rfl)
          refine step_guard rfl rfl (by have hz : a.tmps.size = 58 := hsz; omega) G27 (fun _ => ?_) (fun h => absurd rfl h)
          have t5 : a.tmps.getD 5 undef = .slice (some ⟨b, 0, none⟩) (xs.length + 12) c := hi 5 (by kernel_rfl)
          have u5 := t5
          rw [Array.getD_eq_getD_getElem?] at u5
          simp [Oper.wp, Oper.upon, execOp, Act.eval, go_sem, t5, u5, hlt, hlt1, hge, hge1, hk12, hk0]
          exact hK _ _ (Ext.rf _) (fun d' h => by cases h; exact rfl)
        · intro a W hx hdf hsz hg hi K hK
          have G27 : a.tmps.getD 27 undef = .bool true := hg 27 (by kernel_rfl)
          refine step_guard rfl rfl (by have hz : a.tmps.size = 58 := hsz; omega) G27 (fun _ => ?_) (fun h => absurd rfl h)
          have t6 : a.tmps.getD 6 undef = .int .i64 k := hi 6 (by kernel_rfl)
          have u6 := t6
          rw [Array.getD_eq_getD_getElem?] at u6
          simp [Oper.wp, Oper.upon, execOp, Act.eval, go_sem, t6, u6, hlt, hlt1, hge, hge1, hk12, hk0]
          exact hK _ _ (Ext.rf _) (fun d' h => by cases h; exact rfl)
        · intro a W hx hdf hsz hg hi K hK
          have G27 : a.tmps.getD 27 undef = .bool true := hg 27 (by kernel_rfl)
          refine step_guard rfl rfl (by have hz : a.tmps.size = 58 := hsz; omega) G27 (fun _ => ?_) (fun h => absurd rfl h)
          have t28 : a.tmps.getD 28 undef = .slice (some ⟨b, 0, none⟩) (xs.length + 12) c := hg 28 (by kernel_rfl)
          have t29 : a.tmps.getD 29 undef = .int .i64 k := hg 29 (by kernel_rfl)
          have u28 := t28
          rw [Array.getD_eq_getD_getElem?] at u28
          have u29 := t29
          rw [Array.getD_eq_getD_getElem?] at u29
          simp [Oper.wp, Oper.upon, execOp, Act.eval, go_sem, t28, u28, t29, u29, hlt, hlt1, hge, hge1, hk12, hk0]
          exact hK _ _ (Ext.rf _) (fun d' h => by cases h; exact rfl)
        · intro a W hx hdf hsz hg hi K hK
          have G27 : a.tmps.getD 27 undef = .bool true := hg 27 (by kernel_rfl)
          refine step_guard rfl rfl (by have hz : a.tmps.size = 58 := hsz; omega) G27 (fun _ => ?_) (fun h => absurd rfl h)
          have t30 : a.tmps.getD 30 undef = .pointer (some ⟨b, k, none⟩) := hg 30 (by kernel_rfl)
          have u30 := t30
          rw [Array.getD_eq_getD_getElem?] at u30
          refine wp_load_mid 38 (.tmp 30) rfl b (k) t30 ca _ (hca.ext hx) hu rfl hi1 ?_
          exact hK _ _ (Ext.rf _) (fun d' h => by cases h; exact rfl)
        · intro a W hx hdf hsz hg hi K hK
          have G27 : a.tmps.getD 27 undef = .bool true := hg 27 (by kernel_rfl)
          refine step_guard rfl rfl (by have hz : a.tmps.size = 58 := hsz; omega) G27 (fun _ => ?_) (fun h => absurd rfl h)
          have t1 : a.tmps.getD 1 undef = .slice (some ⟨b2, o2, none⟩) xs.length c' := hi 1 (by kernel_rfl)
          have u1 := t1
          rw [Array.getD_eq_getD_getElem?] at u1
          simp [Oper.wp, Oper.upon, execOp, Act.eval, go_sem, t1, u1, hlt, hlt1, hge, hge1, hk12, hk0]
          exact hK _ _ (Ext.rf _) (fun d' h => by cases h; exact rfl)
        · intro a W hx hdf hsz hg hi K hK
          have G27 : a.tmps.getD 27 undef = .bool true := hg 27 (by kernel_rfl)
          refine step_guard rfl rfl (by have hz : a.tmps.size = 58 := hsz; omega) G27 (fun _ => ?_) (fun h => absurd rfl h)
          have t6 : a.tmps.getD 6 undef = .int .i64 k := hi 6 (by kernel_rfl)
          have u6 := t6
          rw [Array.getD_eq_getD_getElem?] at u6
          simp [Oper.wp, Oper.upon, execOp, Act.eval, go_sem, t6, u6, hlt, hlt1, hge, hge1, hk12, hk0]
          exact hK _ _ (Ext.rf _) (fun d' h => by cases h; exact rfl)
        · intro a W hx hdf hsz hg hi K hK
          have G27 : a.tmps.getD 27 undef = .bool true := hg 27 (by kernel_rfl)
          refine step_guard rfl rfl (by have hz : a.tmps.size = 58 := hsz; omega) G27 (fun _ => ?_) (fun h => absurd rfl h)
          have t32 : a.tmps.getD 32 undef = .slice (some ⟨b2, o2, none⟩) xs.length c' := hg 32 (by kernel_rfl)
          have t33 : a.tmps.getD 33 undef = .int .i64 k := hg 33 (by kernel_rfl)
          have u32 := t32
          rw [Array.getD_eq_getD_getElem?] at u32
          have u33 := t33
          rw [Array.getD_eq_getD_getElem?] at u33
          simp [Oper.wp, Oper.upon, execOp, Act.eval, go_sem, t32, u32, t33, u33, hlt, hlt1, hge, hge1, hk12, hk0]
          exact hK _ _ (Ext.rf _) (fun d' h => by cases h; exact rfl)
        · intro a W hx hdf hsz hg hi K hK
          have G27 : a.tmps.getD 27 undef = .bool true := hg 27 (by kernel_rfl)
          refine step_guard rfl rfl (by have hz : a.tmps.size = 58 := hsz; omega) G27 (fun _ => ?_) (fun h => absurd rfl h)
          have t34 : a.tmps.getD 34 undef = .pointer (some ⟨b2, o2 + k, none⟩) := hg 34 (by kernel_rfl)
          have u34 := t34
          rw [Array.getD_eq_getD_getElem?] at u34
          refine wp_load_mid 38 (.tmp 34) rfl b2 (o2 + k) t34 cb _ (hcb.ext hx) hu rfl hi2 ?_
          exact hK _ _ (Ext.rf _) (fun d' h => by cases h; exact rfl)
        · intro a W hx hdf hsz hg hi K hK
          have G27 : a.tmps.getD 27 undef = .bool true := hg 27 (by kernel_rfl)
          refine step_guard rfl rfl (by have hz : a.tmps.size = 58 := hsz; omega) G27 (fun _ => ?_) (fun h => absurd rfl h)
          have t31 : a.tmps.getD 31 undef = .agg ca.toArray := hg 31 (by kernel_rfl)
          have t35 : a.tmps.getD 35 undef = .agg cb.toArray := hg 35 (by kernel_rfl)
          have u31 := t31
          rw [Array.getD_eq_getD_getElem?] at u31
          have u35 := t35
          rw [Array.getD_eq_getD_getElem?] at u35
          simp [Oper.wp, Oper.upon, execOp, Act.eval, go_sem, t31, u31, t35, u35]
          refine (keptLevel_any xs[k] _ _ _ (monoC_llevel _ _ _ _ hx.sub Ra.out) (mono_level _ _ _ _ hx Rb.out)).mono ?_
          rintro e w' ⟨rfl, hb⟩
          exact hK _ _ hb (fun d' h => by cases h; exact rfl)
        · intro a W hx hdf hsz hg hi K hK
          have G27 : a.tmps.getD 27 undef = .bool true := hg 27 (by kernel_rfl)
          refine step_guard rfl rfl (by have hz : a.tmps.size = 58 := hsz; omega) G27 (fun _ => ?_) (fun h => absurd rfl h)
          have t36 : a.tmps.getD 36 undef = .bool true := hg 36 (by kernel_rfl)
          have u36 := t36
          rw [Array.getD_eq_getD_getElem?] at u36
          simp [Oper.wp, Oper.upon, execOp, Act.eval, go_sem, t36, u36, hlt, hlt1, hge, hge1, hk12, hk0]
          exact hK _ _ (Ext.rf _) (fun d' h => by cases h; exact rfl)
        · intro a W hx hdf hsz hg hi K hK
          refine step_free rfl ?_
          have t27 : a.tmps.getD 27 undef = .bool true := hg 27 (by kernel_rfl)
          have t37 : a.tmps.getD 37 undef = .bool false := hg 37 (by kernel_rfl)
          have u27 := t27
          rw [Array.getD_eq_getD_getElem?] at u27
          have u37 := t37
          rw [Array.getD_eq_getD_getElem?] at u37
          simp [Oper.wp, Oper.upon, execOp, Act.eval, go_sem, t27, u27, t37, u37, hlt, hlt1, hge, hge1, hk12, hk0]
          exact hK _ _ (Ext.rf _) (fun d' h => by cases h; exact rfl)
        · intro a W hx hdf hsz hg hi K hK
          refine step_free rfl ?_
          have t38 : a.tmps.getD 38 undef = .bool false := hg 38 (by kernel_rfl)
          have u38 := t38
          rw [Array.getD_eq_getD_getElem?] at u38
          simp [Oper.wp, Oper.upon, execOp, Act.eval, go_sem, t38, u38, hlt, hlt1, hge, hge1, hk12, hk0]
          exact hK _ _ (Ext.rf _) (fun d' h => by cases h; exact rfl)
        · intro a W hx hdf hsz hg hi K hK
          have G39 : a.tmps.getD 39 undef = .bool false := hg 39 (by kernel_rfl)
          refine step_guard rfl rfl (by have hz : a.tmps.size = 58 := hsz; omega) G39 (fun _ => ?_) (fun h => absurd rfl h)
          have t6 : a.tmps.getD 6 undef = .int .i64 k := hi 6 (by kernel_rfl)
          have u6 := t6
          rw [Array.getD_eq_getD_getElem?] at u6
          simp [Oper.wp, Oper.upon, execOp, Act.eval, go_sem, t6, u6, hlt, hlt1, hge, hge1, hk12, hk0]
          exact hK _ _ (Ext.rf _) (fun d' h => by cases h; exact rfl)
        · intro a W hx hdf hsz hg hi K hK
          have G39 : a.tmps.getD 39 undef = .bool false := hg 39 (by kernel_rfl)
          refine step_guard rfl rfl (by have hz : a.tmps.size = 58 := hsz; omega) G39 (fun _ => ?_) (fun h => absurd rfl h)
          have t1 : a.tmps.getD 1 undef = .slice (some ⟨b2, o2, none⟩) xs.length c' := hi 1 (by kernel_rfl)
          have u1 := t1
          rw [Array.getD_eq_getD_getElem?] at u1
          simp [Oper.wp, Oper.upon, execOp, Act.eval, go_sem, t1, u1, hlt, hlt1, hge, hge1, hk12, hk0]
          exact hK _ _ (Ext.rf _) (fun d' h => by cases h; exact rfl)
        · intro a W hx hdf hsz hg hi K hK
          have G39 : a.tmps.getD 39 undef = .bool false := hg 39 (by kernel_rfl)
          refine step_guard rfl rfl (by have hz : a.tmps.size = 58 := hsz; omega) G39 (fun _ => ?_) (fun h => absurd rfl h)
          have t41 : a.tmps.getD 41 undef = .slice (some ⟨b2, o2, none⟩) xs.length c' := hg 41 (by kernel_rfl)
          have u41 := t41
          rw [Array.getD_eq_getD_getElem?] at u41
          simp [Oper.wp, Oper.upon, execOp, Act.eval, go_sem, t41, u41, hlt, hlt1, hge, hge1, hk12, hk0]
          exact hK _ _ (Ext.rf _) (fun d' h => by cases h; exact rfl)
        · intro a W hx hdf hsz hg hi K hK
          have G39 : a.tmps.getD 39 undef = .bool false := hg 39 (by kernel_rfl)
          refine step_guard rfl rfl (by have hz : a.tmps.size = 58 := hsz; omega) G39 (fun _ => ?_) (fun h => absurd rfl h)
          have t40 : a.tmps.getD 40 undef = .int .i64 k := hg 40 (by kernel_rfl)
          have t42 : a.tmps.getD 42 undef = .int .i64 xs.length := hg 42 (by kernel_rfl)
          have u40 := t40
          rw [Array.getD_eq_getD_getElem?] at u40
          have u42 := t42
          rw [Array.getD_eq_getD_getElem?] at u42
          simp [Oper.wp, Oper.upon, execOp, Act.eval, go_sem, t40, u40, t42, u42, hlt, hlt1, hge, hge1, hk12, hk0]
          exact hK _ _ (Ext.rf _) (fun d' h => by cases h; exact rfl)
        · intro a W hx hdf hsz hg hi K hK
          have G39 : a.tmps.getD 39 undef = .bool false := hg 39 (by kernel_rfl)
          refine step_guard rfl rfl (by have hz : a.tmps.size = 58 := hsz; omega) G39 (fun _ => ?_) (fun h => absurd rfl h)
          have t43 : a.tmps.getD 43 undef = .bool false := hg 43 (by kernel_rfl)
          have u43 := t43
          rw [Array.getD_eq_getD_getElem?] at u43
          simp [Oper.wp, Oper.upon, execOp, Act.eval, go_sem, t43, u43, hlt, hlt1, hge, hge1, hk12, hk0]
          exact hK _ _ (Ext.rf _) (fun d' h => by cases h; exact rfl)
        · intro a W hx hdf hsz hg hi K hK
          have G44 : a.tmps.getD 44 undef = .bool false := hg 44 (by kernel_rfl)
          exact step_guard rfl rfl (by have hz : a.tmps.size = 58 := hsz; omega) G44 (fun h => by cases h) (fun _ => hK _ _ (Ext.rf _) (fun d' h => by cases h; exact rfl))
        · intro a W hx hdf hsz hg hi K hK
          have G44 : a.tmps.getD 44 undef = .bool false := hg 44 (by kernel_rfl)
          exact step_guard rfl rfl (by have hz : a.tmps.size = 58 := hsz; omega) G44 (fun h => by cases h) (fun _ => hK _ _ (Ext.rf _) (fun d' h => by cases h; exact rfl))
        · intro a W hx hdf hsz hg hi K hK
          have G44 : a.tmps.getD 44 undef = .bool false := hg 44 (by kernel_rfl)
          exact step_guard rfl rfl (by have hz : a.tmps.size = 58 := hsz; omega) G44 (fun h => by cases h) (fun _ => hK _ _ (Ext.rf _) (fun d' h => by cases h; exact rfl))
        · intro a W hx hdf hsz hg hi K hK
          have G44 : a.tmps.getD 44 undef = .bool false := hg 44 (by kernel_rfl)
          exact step_guard rfl rfl (by have hz : a.tmps.size = 58 := hsz; omega) G44 (fun h => by cases h) (fun _ => hK _ _ (Ext.rf _) (fun d' h => by cases h; exact rfl))
        · intro a W hx hdf hsz hg hi K hK
          have G44 : a.tmps.getD 44 undef = .bool false := hg 44 (by kernel_rfl)
          exact step_guard rfl rfl (by have hz : a.tmps.size = 58 := hsz; omega) G44 (fun h => by cases h) (fun _ => hK _ _ (Ext.rf _) (fun d' h => by cases h; exact rfl))
        · intro a W hx hdf hsz hg hi K hK
          have G44 : a.tmps.getD 44 undef = .bool false := hg 44 (by kernel_rfl)
          exact step_guard rfl rfl (by have hz : a.tmps.size = 58 := hsz; omega) G44 (fun h => by cases h) (fun _ => hK _ _ (Ext.rf _) (fun d' h => by cases h; exact rfl))
        · intro a W hx hdf hsz hg hi K hK
          have G44 : a.tmps.getD 44 undef = .bool false := hg 44 (by kernel_rfl)
          exact step_guard rfl rfl (by have hz : a.tmps.size = 58 := hsz; omega) G44 (fun h => by cases h) (fun _ => hK _ _ (Ext.rf _) (fun d' h => by cases h; exact rfl))
        · intro a W hx hdf hsz hg hi K hK
          have G44 : a.tmps.getD 44 undef = .bool false := hg 44 (by kernel_rfl)
          exact step_guard rfl rfl (by have hz : a.tmps.size = 58 := hsz; omega) G44 (fun h => by cases h) (fun _ => hK _ _ (Ext.rf _) (fun d' h => by cases h; exact rfl))
        · intro a W hx hdf hsz hg hi K hK
          have G44 : a.tmps.getD 44 undef = .bool false := hg 44 (by kernel_rfl)
          exact step_guard rfl rfl (by have hz : a.tmps.size = 58 := hsz; omega) G44 (fun h => by cases h) (fun _ => hK _ _ (Ext.rf _) (fun d' h => by cases h; exact rfl))
        · intro a W hx hdf hsz hg hi K hK
          have G44 : a.tmps.getD 44 undef = .bool false := hg 44 (by kernel_rfl)
          exact step_guard rfl rfl (by have hz : a.tmps.size = 58 := hsz; omega) G44 (fun h => by cases h) (fun _ => hK _ _ (Ext.rf _) (fun d' h => by cases h; exact rfl))
        · intro a W hx hdf hsz hg hi K hK
          have G44 : a.tmps.getD 44 undef = .bool false := hg 44 (by kernel_rfl)
          exact step_guard rfl rfl (by have hz : a.tmps.size = 58 := hsz; omega) G44 (fun h => by cases h) (fun _ => hK _ _ (Ext.rf _) (fun d' h => by cases h; exact rfl))
        · intro a W hx hdf hsz hg hi K hK
          have G39 : a.tmps.getD 39 undef = .bool false := hg 39 (by kernel_rfl)
          refine step_guard rfl rfl (by have hz : a.tmps.size = 58 := hsz; omega) G39 (fun _ => ?_) (fun h => absurd rfl h)
          have t44 : a.tmps.getD 44 undef = .bool false := hg 44 (by kernel_rfl)
          have t55 : a.tmps.getD 55 undef = undef := hg 55 (by kernel_rfl)
          have u44 := t44
          rw [Array.getD_eq_getD_getElem?] at u44
          have u55 := t55
          rw [Array.getD_eq_getD_getElem?] at u55
          simp [Oper.wp, Oper.upon, execOp, Act.eval, go_sem, t44, u44, t55, u55, hlt, hlt1, hge, hge1, hk12, hk0]
          exact hK _ _ (Ext.rf _) (fun d' h => by cases h; exact rfl)
        · intro a W hx hdf hsz hg hi K hK
          refine step_free rfl ?_
          have t39 : a.tmps.getD 39 undef = .bool false := hg 39 (by kernel_rfl)
          have t56 : a.tmps.getD 56 undef = .bool false := hg 56 (by kernel_rfl)
          have u39 := t39
          rw [Array.getD_eq_getD_getElem?] at u39
          have u56 := t56
          rw [Array.getD_eq_getD_getElem?] at u56
          simp [Oper.wp, Oper.upon, execOp, Act.eval, go_sem, t39, u39, t56, u56, hlt, hlt1, hge, hge1, hk12, hk0]
          exact hK _ _ (Ext.rf _) (fun d' h => by cases h; exact rfl)
      · rintro ⟨T, D⟩ w7 hx7 hdf hsz hg hi
        have h57 : T.getD 57 undef = .bool false := hg 57 (by kernel_rfl)
        obtain ⟨f, hf, hT⟩ := frame_slots T 58 hsz
        have f57 := (hf 57).symm.trans h57
        have f0 : f 0 = .slice (some ⟨b, 0, none⟩) xs.length c := (hf 0).symm.trans (hi 0 (by kernel_rfl))
        have f1 : f 1 = .slice (some ⟨b2, o2, none⟩) xs.length c' := (hf 1).symm.trans (hi 1 (by kernel_rfl))
        have f2 : f 2 = undef := (hf 2).symm.trans (hi 2 (by kernel_rfl))
        have f3 : f 3 = undef := (hf 3).symm.trans (hi 3 (by kernel_rfl))
        have f5 : f 5 = .slice (some ⟨b, 0, none⟩) (xs.length + 12) c := (hf 5).symm.trans (hi 5 (by kernel_rfl))
        have f6 : f 6 = .int .i64 k := (hf 6).symm.trans (hi 6 (by kernel_rfl))
        have f7 : f 7 = .slice (some ⟨b, 0, none⟩) xs.length c := (hf 7).symm.trans (hi 7 (by kernel_rfl))
        have f8 : f 8 = .int .i64 xs.length := (hf 8).symm.trans (hi 8 (by kernel_rfl))
        have f9 : f 9 = .slice (some ⟨b2, o2, none⟩) xs.length c' := (hf 9).symm.trans (hi 9 (by kernel_rfl))
        have f10 : f 10 = .int .i64 xs.length := (hf 10).symm.trans (hi 10 (by kernel_rfl))
        have f11 : f 11 = .bool false := (hf 11).symm.trans (hi 11 (by kernel_rfl))
        have f12 : f 12 = .slice (some ⟨b, 0, none⟩) xs.length c := (hf 12).symm.trans (hi 12 (by kernel_rfl))
        have f13 : f 13 = .slice (some ⟨b2, o2, none⟩) xs.length c' := (hf 13).symm.trans (hi 13 (by kernel_rfl))
        have f14 : f 14 = .int .i64 xs.length := (hf 14).symm.trans (hi 14 (by kernel_rfl))
        have f15 : f 15 = .int .i64 (xs.length + 12) := (hf 15).symm.trans (hi 15 (by kernel_rfl))
        have f16 : f 16 = .slice (some ⟨b, 0, none⟩) (xs.length + 12) c := (hf 16).symm.trans (hi 16 (by kernel_rfl))
        have hD : D = [] := hdf
        clear hf hi hg hsz hdf h57
        subst hT hD
        simp only [slots, Nat.reduceAdd, f57, f0, f1, f2, f3, f5, f6, f7, f8, f9, f10, f11, f12, f13, f14, f15, f16]
        go_wp2_with fail
        exact ⟨⟨k + 1, by omega, by go_num, hx0.tr hx7⟩, by simp only [intOf]; omega⟩
    · by_cases hlt2 : k < xs.length + 12
      · obtain ⟨ca, hRa, hca0⟩ := Hmk.out (k - xs.length) (by omega)
        have e1 : xs.length + (k - xs.length) = k := by omega
        have e2 : ((k - xs.length : Nat) : Int) = (k : Int) - xs.length := by omega
        rw [e1] at hca0
        rw [e2] at hRa
        clear e1 e2
        have hca := hca0.ext hx0
        rw [Nat.mul_one] at hca
        have Ra := hid (mono_level _ _ _ _ hx0 hRa)
        have hi1 : (Tryz.prog.info? 38).map (·.size) = some ca.length := by rw [rlevel_len hRa]; kernel_rfl
        have hlt1 : ¬ (k : Int) < (xs.length : Int) := by omega
        have hge : xs.length ≤ k := by omega
        have hge1 : (xs.length : Int) ≤ (k : Int) := by omega
        have hk12 : (k : Int) < (xs.length : Int) + 12 := by omega
        have hsub : IntKind.i64.wrap ((k : Int) - xs.length) = (k : Int) - xs.length := IntWalk.i64_in _ (by omega)
        have hsub2 : (0 : Int) ≤ (k : Int) - xs.length := by omega
        clear hca0 hRa
        go_wp2_with fail
        refine wp_region_steps (fun s W v => match s with | 23 => v = .int .i64 k | 24 => v = .slice A xs.length c' | 25 => v = .int .i64 xs.length | 26 => v = .bool false | 27 => v = .bool false | 28 => v = undef | 29 => v = undef | 30 => v = undef | 31 => v = undef | 32 => v = undef | 33 => v = undef | 34 => v = undef | 35 => v = undef | 36 => v = undef | 37 => v = undef | 38 => v = .bool false | 39 => v = .bool false | 40 => v = .int .i64 k | 41 => v = .slice A xs.length c' | 42 => v = .int .i64 xs.length | 43 => v = .bool true | 44 => v = .bool true | 45 => v = .slice (some ⟨b, 0, none⟩) (xs.length + 12) c | 46 => v = .int .i64 k | 47 => v = .pointer (some ⟨b, k, none⟩) | 48 => v = .agg ca.toArray | 49 => v = .int .i64 k | 50 => v = .slice A xs.length c' | 51 => v = .int .i64 xs.length | 52 => v = .int .i64 ((k : Int) - xs.length) | 53 => ∃ cs : List Value, v = .agg cs.toArray ∧ RLevel W (mkLevel ((k : Int) - xs.length)) cs | 54 => v = .bool true | 55 => v = .bool false | 56 => v = .bool false | 57 => v = .bool false | _ => True) (by kernel_rfl) (by kernel_rfl) (of_decide_eq_true (by kernel_rfl)) (by kernel_rfl) (by intro s W W' v hx h; revert h; split <;> first | exact id | exact fun ⟨cs, e, hr⟩ => ⟨cs, e, mono_level _ _ _ _ hx hr⟩) ?_ ?_
        · refine ⟨?_, ?_, ?_, ?_, ?_, ?_, ?_, ?_, ?_, ?_, ?_, ?_, ?_, ?_, ?_, ?_, ?_, ?_, ?_, ?_, ?_, ?_, ?_, ?_, ?_, ?_, ?_, ?_, ?_, ?_, ?_, ?_, ?_, ?_, ?_, trivial⟩
          · intro a W hx hdf hsz hg hi K hK
            refine step_free rfl ?_
            have t6 : a.tmps.getD 6 undef = .int .i64 k := hi 6 (by kernel_rfl)
            have u6 := t6
            rw [Array.getD_eq_getD_getElem?] at u6
            simp [Oper.wp, Oper.upon, execOp, Act.eval, go_sem, t6, u6, hlt, hlt1, hge, hge1, hk12, hk0, hsub, hsub2]
            exact hK _ _ (Ext.rf _) (fun d' h => by cases h; exact rfl)
          · intro a W hx hdf hsz hg hi K hK
            refine step_free rfl ?_
            have t1 : a.tmps.getD 1 undef = .slice A xs.length c' := hi 1 (by kernel_rfl)
            have u1 := t1
            rw [Array.getD_eq_getD_getElem?] at u1
            simp [Oper.wp, Oper.upon, execOp, Act.eval, go_sem, t1, u1, hlt, hlt1, hge, hge1, hk12, hk0, hsub, hsub2]
            exact hK _ _ (Ext.rf _) (fun d' h => by cases h; exact rfl)
          · intro a W hx hdf hsz hg hi K hK
            refine step_free rfl ?_
            have t24 : a.tmps.getD 24 undef = .slice A xs.length c' := hg 24 (by kernel_rfl)
            have u24 := t24
            rw [Array.getD_eq_getD_getElem?] at u24
            simp [Oper.wp, Oper.upon, execOp, Act.eval, go_sem, t24, u24, hlt, hlt1, hge, hge1, hk12, hk0, hsub, hsub2]
            exact hK _ _ (Ext.rf _) (fun d' h => by cases h; exact rfl)
          · intro a W hx hdf hsz hg hi K hK
            refine step_free rfl ?_
            have t23 : a.tmps.getD 23 undef = .int .i64 k := hg 23 (by kernel_rfl)
            have t25 : a.tmps.getD 25 undef = .int .i64 xs.length := hg 25 (by kernel_rfl)
            have u23 := t23
            rw [Array.getD_eq_getD_getElem?] at u23
            have u25 := t25
            rw [Array.getD_eq_getD_getElem?] at u25
            simp [Oper.wp, Oper.upon, execOp, Act.eval, go_sem, t23, u23, t25, u25, hlt, hlt1, hge, hge1, hk12, hk0, hsub, hsub2]
            exact hK _ _ (Ext.rf _) (fun d' h => by cases h; exact rfl)
          · intro a W hx hdf hsz hg hi K hK
            refine step_free rfl ?_
            have t26 : a.tmps.getD 26 undef = .bool false := hg 26 (by kernel_rfl)
            have u26 := t26
            rw [Array.getD_eq_getD_getElem?] at u26
            simp [Oper.wp, Oper.upon, execOp, Act.eval, go_sem, t26, u26, hlt, hlt1, hge, hge1, hk12, hk0, hsub, hsub2]
            exact hK _ _ (Ext.rf _) (fun d' h => by cases h; exact rfl)
          · intro a W hx hdf hsz hg hi K hK
            have G27 : a.tmps.getD 27 undef = .bool false := hg 27 (by kernel_rfl)
            exact step_guard rfl rfl (by have hz : a.tmps.size = 58 := hsz; omega) G27 (fun h => by cases h) (fun _ => hK _ _ (Ext.rf _) (fun d' h => by cases h; exact rfl))
          · intro a W hx hdf hsz hg hi K hK
            have G27 : a.tmps.getD 27 undef = .bool false := hg 27 (by kernel_rfl)
            exact step_guard rfl rfl (by have hz : a.tmps.size = 58 := hsz; omega) G27 (fun h => by cases h) (fun _ => hK _ _ (Ext.rf _) (fun d' h => by cases h; exact rfl))
          · intro a W hx hdf hsz hg hi K hK
            have G27 : a.tmps.getD 27 undef = .bool false := hg 27 (by kernel_rfl)
            exact step_guard rfl rfl (by have hz : a.tmps.size = 58 := hsz; omega) G27 (fun h => by cases h) (fun _ => hK _ _ (Ext.rf _) (fun d' h => by cases h; exact rfl))
          · intro a W hx hdf hsz hg hi K hK
            have G27 : a.tmps.getD 27 undef = .bool false := hg 27 (by kernel_rfl)
            exact step_guard rfl rfl (by have hz : a.tmps.size = 58 := hsz; omega) G27 (fun h => by cases h) (fun _ => hK _ _ (Ext.rf _) (fun d' h => by cases h; exact rfl))
          · intro a W hx hdf hsz hg hi K hK
            have G27 : a.tmps.getD 27 undef = .bool false := hg 27 (by kernel_rfl)
            exact step_guard rfl rfl (by have hz : a.tmps.size = 58 := hsz; omega) G27 (fun h => by cases h) (fun _ => hK _ _ (Ext.rf _) (fun d' h => by cases h; exact rfl))
          · intro a W hx hdf hsz hg hi K hK
            have G27 : a.tmps.getD 27 undef = .bool false := hg 27 (by kernel_rfl)
            exact step_guard rfl rfl (by have hz : a.tmps.size = 58 := hsz; omega) G27 (fun h => by cases h) (fun _ => hK _ _ (Ext.rf _) (fun d' h => by cases h; exact rfl))
          · intro a W hx hdf hsz hg hi K hK
            have G27 : a.tmps.getD 27 undef = .bool false := hg 27 (by kernel_rfl)
            exact step_guard rfl rfl (by have hz : a.tmps.size = 58 := hsz; omega) G27 (fun h => by cases h) (fun _ => hK _ _ (Ext.rf _) (fun d' h => by cases h; exact rfl))
          · intro a W hx hdf hsz hg hi K hK
            have G27 : a.tmps.getD 27 undef = .bool false := hg 27 (by kernel_rfl)
            exact step_guard rfl rfl (by have hz : a.tmps.size = 58 := hsz; omega) G27 (fun h => by cases h) (fun _ => hK _ _ (Ext.rf _) (fun d' h => by cases h; exact rfl))
          · intro a W hx hdf hsz hg hi K hK
            have G27 : a.tmps.getD 27 undef = .bool false := hg 27 (by kernel_rfl)
            exact step_guard rfl rfl (by have hz : a.tmps.size = 58 := hsz; omega) G27 (fun h => by cases h) (fun _ => hK _ _ (Ext.rf _) (fun d' h => by cases h; exact rfl))
          · intro a W hx hdf hsz hg hi K hK
            have G27 : a.tmps.getD 27 undef = .bool false := hg 27 (by kernel_rfl)
            exact step_guard rfl rfl (by have hz : a.tmps.size = 58 := hsz; omega) G27 (fun h => by cases h) (fun _ => hK _ _ (Ext.rf _) (fun d' h => by cases h; exact rfl))
          · intro a W hx hdf hsz hg hi K hK
            refine step_free rfl ?_
            have t27 : a.tmps.getD 27 undef = .bool false := hg 27 (by kernel_rfl)
            have t37 : a.tmps.getD 37 undef = undef := hg 37 (by kernel_rfl)
            have u27 := t27
            rw [Array.getD_eq_getD_getElem?] at u27
            have u37 := t37
            rw [Array.getD_eq_getD_getElem?] at u37
            simp [Oper.wp, Oper.upon, execOp, Act.eval, go_sem, t27, u27, t37, u37, hlt, hlt1, hge, hge1, hk12, hk0, hsub, hsub2]
            exact hK _ _ (Ext.rf _) (fun d' h => by cases h; exact rfl)
          · intro a W hx hdf hsz hg hi K hK
            refine step_free rfl ?_
            have t38 : a.tmps.getD 38 undef = .bool false := hg 38 (by kernel_rfl)
            have u38 := t38
            rw [Array.getD_eq_getD_getElem?] at u38
            simp [Oper.wp, Oper.upon, execOp, Act.eval, go_sem, t38, u38, hlt, hlt1, hge, hge1, hk12, hk0, hsub, hsub2]
            exact hK _ _ (Ext.rf _) (fun d' h => by cases h; exact rfl)
          · intro a W hx hdf hsz hg hi K hK
            have G39 : a.tmps.getD 39 undef = .bool false := hg 39 (by kernel_rfl)
            refine step_guard rfl rfl (by have hz : a.tmps.size = 58 := hsz; omega) G39 (fun _ => ?_) (fun h => absurd rfl h)
            have t6 : a.tmps.getD 6 undef = .int .i64 k := hi 6 (by kernel_rfl)
            have u6 := t6
            rw [Array.getD_eq_getD_getElem?] at u6
            simp [Oper.wp, Oper.upon, execOp, Act.eval, go_sem, t6, u6, hlt, hlt1, hge, hge1, hk12, hk0, hsub, hsub2]
            exact hK _ _ (Ext.rf _) (fun d' h => by cases h; exact rfl)
          · intro a W hx hdf hsz hg hi K hK
            have G39 : a.tmps.getD 39 undef = .bool false := hg 39 (by kernel_rfl)
            refine step_guard rfl rfl (by have hz : a.tmps.size = 58 := hsz; omega) G39 (fun _ => ?_) (fun h => absurd rfl h)
            have t1 : a.tmps.getD 1 undef = .slice A xs.length c' := hi 1 (by kernel_rfl)
            have u1 := t1
            rw [Array.getD_eq_getD_getElem?] at u1
            simp [Oper.wp, Oper.upon, execOp, Act.eval, go_sem, t1, u1, hlt, hlt1, hge, hge1, hk12, hk0, hsub, hsub2]
            exact hK _ _ (Ext.rf _) (fun d' h => by cases h; exact rfl)
          · intro a W hx hdf hsz hg hi K hK
            have G39 : a.tmps.getD 39 undef = .bool false := hg 39 (by kernel_rfl)
            refine step_guard rfl rfl (by have hz : a.tmps.size = 58 := hsz; omega) G39 (fun _ => ?_) (fun h => absurd rfl h)
            have t41 : a.tmps.getD 41 undef = .slice A xs.length c' := hg 41 (by kernel_rfl)
            have u41 := t41
            rw [Array.getD_eq_getD_getElem?] at u41
            simp [Oper.wp, Oper.upon, execOp, Act.eval, go_sem, t41, u41, hlt, hlt1, hge, hge1, hk12, hk0, hsub, hsub2]
            exact hK _ _ (Ext.rf _) (fun d' h => by cases h; exact rfl)
          · intro a W hx hdf hsz hg hi K hK
            have G39 : a.tmps.getD 39 undef = .bool false := hg 39 (by kernel_rfl)
            refine step_guard rfl rfl (by have hz : a.tmps.size = 58 := hsz; omega) G39 (fun _ => ?_) (fun h => absurd rfl h)
            have t40 : a.tmps.getD 40 undef = .int .i64 k := hg 40 (by kernel_rfl)
            have t42 : a.tmps.getD 42 undef = .int .i64 xs.length := hg 42 (by kernel_rfl)
            have u40 := t40
            rw [Array.getD_eq_getD_getElem?] at u40
            have u42 := t42
            rw [Array.getD_eq_getD_getElem?] at u42
            simp [Oper.wp, Oper.upon, execOp, Act.eval, go_sem, t40, u40, t42, u42, hlt, hlt1, hge, hge1, hk12, hk0, hsub, hsub2]
            exact hK _ _ (Ext.rf _) (fun d' h => by cases h; exact rfl)
          · intro a W hx hdf hsz hg hi K hK
            have G39 : a.tmps.getD 39 undef = .bool false := hg 39 (by kernel_rfl)
            refine step_guard rfl rfl (by have hz : a.tmps.size = 58 := hsz; omega) G39 (fun _ => ?_) (fun h => absurd rfl h)
            have t43 : a.tmps.getD 43 undef = .bool true := hg 43 (by kernel_rfl)
            have u43 := t43
            rw [Array.getD_eq_getD_getElem?] at u43
            simp [Oper.wp, Oper.upon, execOp, Act.eval, go_sem, t43, u43, hlt, hlt1, hge, hge1, hk12, hk0, hsub, hsub2]
            exact hK _ _ (Ext.rf _) (fun d' h => by cases h; exact rfl)
          · intro a W hx hdf hsz hg hi K hK
            have G44 : a.tmps.getD 44 undef = .bool true := hg 44 (by kernel_rfl)
            refine step_guard rfl rfl (by have hz : a.tmps.size = 58 := hsz; omega) G44 (fun _ => ?_) (fun h => absurd rfl h)
            have t5 : a.tmps.getD 5 undef = .slice (some ⟨b, 0, none⟩) (xs.length + 12) c := hi 5 (by kernel_rfl)
            have u5 := t5
            rw [Array.getD_eq_getD_getElem?] at u5
            simp [Oper.wp, Oper.upon, execOp, Act.eval, go_sem, t5, u5, hlt, hlt1, hge, hge1, hk12, hk0, hsub, hsub2]
            exact hK _ _ (Ext.rf _) (fun d' h => by cases h; exact rfl)
          · intro a W hx hdf hsz hg hi K hK
            have G44 : a.tmps.getD 44 undef = .bool true := hg 44 (by kernel_rfl)
            refine step_guard rfl rfl (by have hz : a.tmps.size = 58 := hsz; omega) G44 (fun _ => ?_) (fun h => absurd rfl h)
            have t6 : a.tmps.getD 6 undef = .int .i64 k := hi 6 (by kernel_rfl)
            have u6 := t6
            rw [Array.getD_eq_getD_getElem?] at u6
            simp [Oper.wp, Oper.upon, execOp, Act.eval, go_sem, t6, u6, hlt, hlt1, hge, hge1, hk12, hk0, hsub, hsub2]
            exact hK _ _ (Ext.rf _) (fun d' h => by cases h; exact rfl)
          · intro a W hx hdf hsz hg hi K hK
            have G44 : a.tmps.getD 44 undef = .bool true := hg 44 (by kernel_rfl)
            refine step_guard rfl rfl (by have hz : a.tmps.size = 58 := hsz; omega) G44 (fun _ => ?_) (fun h => absurd rfl h)
            have t45 : a.tmps.getD 45 undef = .slice (some ⟨b, 0, none⟩) (xs.length + 12) c := hg 45 (by kernel_rfl)
            have t46 : a.tmps.getD 46 undef = .int .i64 k := hg 46 (by kernel_rfl)
            have u45 := t45
            rw [Array.getD_eq_getD_getElem?] at u45
            have u46 := t46
            rw [Array.getD_eq_getD_getElem?] at u46
            simp [Oper.wp, Oper.upon, execOp, Act.eval, go_sem, t45, u45, t46, u46, hlt, hlt1, hge, hge1, hk12, hk0, hsub, hsub2]
            exact hK _ _ (Ext.rf _) (fun d' h => by cases h; exact rfl)
          · intro a W hx hdf hsz hg hi K hK
            have G44 : a.tmps.getD 44 undef = .bool true := hg 44 (by kernel_rfl)
            refine step_guard rfl rfl (by have hz : a.tmps.size = 58 := hsz; omega) G44 (fun _ => ?_) (fun h => absurd rfl h)
            have t47 : a.tmps.getD 47 undef = .pointer (some ⟨b, k, none⟩) := hg 47 (by kernel_rfl)
            have u47 := t47
            rw [Array.getD_eq_getD_getElem?] at u47
            refine wp_load_mid 38 (.tmp 47) rfl b (k) t47 ca _ (hca.ext hx) hu rfl hi1 ?_
            exact hK _ _ (Ext.rf _) (fun d' h => by cases h; exact rfl)
          · intro a W hx hdf hsz hg hi K hK
            have G44 : a.tmps.getD 44 undef = .bool true := hg 44 (by kernel_rfl)
            refine step_guard rfl rfl (by have hz : a.tmps.size = 58 := hsz; omega) G44 (fun _ => ?_) (fun h => absurd rfl h)
            have t6 : a.tmps.getD 6 undef = .int .i64 k := hi 6 (by kernel_rfl)
            have u6 := t6
            rw [Array.getD_eq_getD_getElem?] at u6
            simp [Oper.wp, Oper.upon, execOp, Act.eval, go_sem, t6, u6, hlt, hlt1, hge, hge1, hk12, hk0, hsub, hsub2]
            exact hK _ _ (Ext.rf _) (fun d' h => by cases h; exact rfl)
          · intro a W hx hdf hsz hg hi K hK
            have G44 : a.tmps.getD 44 undef = .bool true := hg 44 (by kernel_rfl)
            refine step_guard rfl rfl (by have hz : a.tmps.size = 58 := hsz; omega) G44 (fun _ => ?_) (fun h => absurd rfl h)
            have t1 : a.tmps.getD 1 undef = .slice A xs.length c' := hi 1 (by kernel_rfl)
            have u1 := t1
            rw [Array.getD_eq_getD_getElem?] at u1
            simp [Oper.wp, Oper.upon, execOp, Act.eval, go_sem, t1, u1, hlt, hlt1, hge, hge1, hk12, hk0, hsub, hsub2]
            exact hK _ _ (Ext.rf _) (fun d' h => by cases h; exact rfl)
          · intro a W hx hdf hsz hg hi K hK
            have G44 : a.tmps.getD 44 undef = .bool true := hg 44 (by kernel_rfl)
            refine step_guard rfl rfl (by have hz : a.tmps.size = 58 := hsz; omega) G44 (fun _ => ?_) (fun h => absurd rfl h)
            have t50 : a.tmps.getD 50 undef = .slice A xs.length c' := hg 50 (by kernel_rfl)
            have u50 := t50
            rw [Array.getD_eq_getD_getElem?] at u50
            simp [Oper.wp, Oper.upon, execOp, Act.eval, go_sem, t50, u50, hlt, hlt1, hge, hge1, hk12, hk0, hsub, hsub2]
            exact hK _ _ (Ext.rf _) (fun d' h => by cases h; exact rfl)
          · intro a W hx hdf hsz hg hi K hK
            have G44 : a.tmps.getD 44 undef = .bool true := hg 44 (by kernel_rfl)
            refine step_guard rfl rfl (by have hz : a.tmps.size = 58 := hsz; omega) G44 (fun _ => ?_) (fun h => absurd rfl h)
            have t49 : a.tmps.getD 49 undef = .int .i64 k := hg 49 (by kernel_rfl)
            have t51 : a.tmps.getD 51 undef = .int .i64 xs.length := hg 51 (by kernel_rfl)
            have u49 := t49
            rw [Array.getD_eq_getD_getElem?] at u49
            have u51 := t51
            rw [Array.getD_eq_getD_getElem?] at u51
            simp [Oper.wp, Oper.upon, execOp, Act.eval, go_sem, t49, u49, t51, u51, hlt, hlt1, hge, hge1, hk12, hk0, hsub, hsub2]
            exact hK _ _ (Ext.rf _) (fun d' h => by cases h; exact rfl)
          · intro a W hx hdf hsz hg hi K hK
            have G44 : a.tmps.getD 44 undef = .bool true := hg 44 (by kernel_rfl)
            refine step_guard rfl rfl (by have hz : a.tmps.size = 58 := hsz; omega) G44 (fun _ => ?_) (fun h => absurd rfl h)
            have t52 : a.tmps.getD 52 undef = .int .i64 ((k : Int) - xs.length) := hg 52 (by kernel_rfl)
            have u52 := t52
            rw [Array.getD_eq_getD_getElem?] at u52
            simp [Oper.wp, Oper.upon, execOp, Act.eval, go_sem, t52, u52]
            refine (markLevel_any ((k : Int) - xs.length) _ (by omega)).mono ?_
            rintro e w' ⟨hb, cs, rfl, hR⟩
            exact hK _ _ hb (fun d' h => by cases h; exact ⟨cs, rfl, monoC_level _ _ _ _ (frm_sub _ _) hR⟩)
          · intro a W hx hdf hsz hg hi K hK
            have G44 : a.tmps.getD 44 undef = .bool true := hg 44 (by kernel_rfl)
            refine step_guard rfl rfl (by have hz : a.tmps.size = 58 := hsz; omega) G44 (fun _ => ?_) (fun h => absurd rfl h)
            have t48 : a.tmps.getD 48 undef = .agg ca.toArray := hg 48 (by kernel_rfl)
            obtain ⟨cm, t53, hcm⟩ := (show ∃ cs : List Value, a.tmps.getD 53 undef = .agg cs.toArray ∧ RLevel W (mkLevel ((k : Int) - xs.length)) cs from hg 53 (by kernel_rfl))
            have u53 := t53
            rw [Array.getD_eq_getD_getElem?] at u53
            have u48 := t48
            rw [Array.getD_eq_getD_getElem?] at u48
            simp [Oper.wp, Oper.upon, execOp, Act.eval, go_sem, t53, u53, t48, u48]
            refine (sameLevel_any (mkLevel ((k : Int) - xs.length)) _ _ _ (mono_level _ _ _ _ hx Ra.out) hcm).mono ?_
            rintro e w' ⟨rfl, hb⟩
            exact hK _ _ hb (fun d' h => by cases h; exact rfl)
          · intro a W hx hdf hsz hg hi K hK
            have G44 : a.tmps.getD 44 undef = .bool true := hg 44 (by kernel_rfl)
            refine step_guard rfl rfl (by have hz : a.tmps.size = 58 := hsz; omega) G44 (fun _ => ?_) (fun h => absurd rfl h)
            have t54 : a.tmps.getD 54 undef = .bool true := hg 54 (by kernel_rfl)
            have u54 := t54
            rw [Array.getD_eq_getD_getElem?] at u54
            simp [Oper.wp, Oper.upon, execOp, Act.eval, go_sem, t54, u54, hlt, hlt1, hge, hge1, hk12, hk0, hsub, hsub2]
            exact hK _ _ (Ext.rf _) (fun d' h => by cases h; exact rfl)
          · intro a W hx hdf hsz hg hi K hK
            have G39 : a.tmps.getD 39 undef = .bool false := hg 39 (by kernel_rfl)
            refine step_guard rfl rfl (by have hz : a.tmps.size = 58 := hsz; omega) G39 (fun _ => ?_) (fun h => absurd rfl h)
            have t44 : a.tmps.getD 44 undef = .bool true := hg 44 (by kernel_rfl)
            have t55 : a.tmps.getD 55 undef = .bool false := hg 55 (by kernel_rfl)
            have u44 := t44
            rw [Array.getD_eq_getD_getElem?] at u44
            have u55 := t55
            rw [Array.getD_eq_getD_getElem?] at u55
            simp [Oper.wp, Oper.upon, execOp, Act.eval, go_sem, t44, u44, t55, u55, hlt, hlt1, hge, hge1, hk12, hk0, hsub, hsub2]
            exact hK _ _ (Ext.rf _) (fun d' h => by cases h; exact rfl)
          · intro a W hx hdf hsz hg hi K hK
            refine step_free rfl ?_
            have t39 : a.tmps.getD 39 undef = .bool false := hg 39 (by kernel_rfl)
            have t56 : a.tmps.getD 56 undef = .bool false := hg 56 (by kernel_rfl)
            have u39 := t39
            rw [Array.getD_eq_getD_getElem?] at u39
            have u56 := t56
            rw [Array.getD_eq_getD_getElem?] at u56
            simp [Oper.wp, Oper.upon, execOp, Act.eval, go_sem, t39, u39, t56, u56, hlt, hlt1, hge, hge1, hk12, hk0, hsub, hsub2]
            exact hK _ _ (Ext.rf _) (fun d' h => by cases h; exact rfl)
        · rintro ⟨T, D⟩ w7 hx7 hdf hsz hg hi
          have h57 : T.getD 57 undef = .bool false := hg 57 (by kernel_rfl)
          obtain ⟨f, hf, hT⟩ := frame_slots T 58 hsz
          have f57 := (hf 57).symm.trans h57
          have f0 : f 0 = .slice (some ⟨b, 0, none⟩) xs.length c := (hf 0).symm.trans (hi 0 (by kernel_rfl))
          have f1 : f 1 = .slice A xs.length c' := (hf 1).symm.trans (hi 1 (by kernel_rfl))
          have f2 : f 2 = undef := (hf 2).symm.trans (hi 2 (by kernel_rfl))
          have f3 : f 3 = undef := (hf 3).symm.trans (hi 3 (by kernel_rfl))
          have f5 : f 5 = .slice (some ⟨b, 0, none⟩) (xs.length + 12) c := (hf 5).symm.trans (hi 5 (by kernel_rfl))
          have f6 : f 6 = .int .i64 k := (hf 6).symm.trans (hi 6 (by kernel_rfl))
          have f7 : f 7 = .slice (some ⟨b, 0, none⟩) xs.length c := (hf 7).symm.trans (hi 7 (by kernel_rfl))
          have f8 : f 8 = .int .i64 xs.length := (hf 8).symm.trans (hi 8 (by kernel_rfl))
          have f9 : f 9 = .slice A xs.length c' := (hf 9).symm.trans (hi 9 (by kernel_rfl))
          have f10 : f 10 = .int .i64 xs.length := (hf 10).symm.trans (hi 10 (by kernel_rfl))
          have f11 : f 11 = .bool false := (hf 11).symm.trans (hi 11 (by kernel_rfl))
          have f12 : f 12 = .slice (some ⟨b, 0, none⟩) xs.length c := (hf 12).symm.trans (hi 12 (by kernel_rfl))
          have f13 : f 13 = .slice A xs.length c' := (hf 13).symm.trans (hi 13 (by kernel_rfl))
          have f14 : f 14 = .int .i64 xs.length := (hf 14).symm.trans (hi 14 (by kernel_rfl))
          have f15 : f 15 = .int .i64 (xs.length + 12) := (hf 15).symm.trans (hi 15 (by kernel_rfl))
          have f16 : f 16 = .slice (some ⟨b, 0, none⟩) (xs.length + 12) c := (hf 16).symm.trans (hi 16 (by kernel_rfl))
          have hD : D = [] := hdf
          clear hf hi hg hsz hdf h57
          subst hT hD
          simp only [slots, Nat.reduceAdd, f57, f0, f1, f2, f3, f5, f6, f7, f8, f9, f10, f11, f12, f13, f14, f15, f16]
          go_wp2_with fail
          exact ⟨⟨k + 1, by omega, by go_num, hx0.tr hx7⟩, by simp only [intOf]; omega⟩
      · obtain rfl : k = xs.length + 12 := by omega
        go_wp2_with fail
        go_ret
        exact ⟨rfl, hx0⟩
def KeptTermP (t : Term) : Prop := ∀ (ca cb : List Value) (w : World), RLTerm w t ca → RTerm w t cb → Calls Tryz.prog 12 #[.agg ca.toArray, .agg cb.toArray] w fun e w' => e = .returned (.bool true) ∧ Ext w w'
set_option maxRecDepth 100000 in
set_option maxHeartbeats 4000000 in
theorem keptTerms_of (xs : List Term) (vo vl : Value) (w : World) (ih : ∀ t ∈ xs, KeptTermP t) (ho : LSl RLTerm RTerm mkTerm 5 72 w xs vo) (hl : Sl RTerm 5 72 w xs vl) : Calls Tryz.prog 32 #[vo, vl] w fun e w' => e = .returned (.bool true) ∧ Ext w w' := by
  obtain ⟨b, c, rfl, hc, -, hel, hmk⟩ := ho
  obtain ⟨A, c', rfl, hc', hr⟩ := hl
  have hln := hr.len_le
  have hcap : c ≤ 9223372036854775807 ∨ True := .inr trivial
  have IH := hid ih
  clear ih
  have Hel := hid hel
  have Hmk := hid hmk
  clear hel hmk hcap
  go_enter Tryz.func32, Tryz.ntmps32
  go_wp2_with fail
  go_loopw [6] (fun i wr => ∃ k : Nat, k ≤ xs.length + 12 ∧ i = .int .i64 k ∧ Ext w wr) (fun i _ => xs.length + 12 - (intOf i).toNat)
  case atStart => exact ⟨0, by omega, rfl, Ext.rf _⟩
  case round =>
    obtain ⟨k, hk, rfl, hx0⟩ := hrel
    obtain ⟨wr, rfl⟩ := ext_name2 hx0
    have hu := Tryz.underlying27
    have hk0 : (0 : Int) ≤ (k : Int) := by omega
    by_cases hlt : k < xs.length
    · obtain ⟨ca, hRa, hca0⟩ := Hel.out k xs[k] (List.getElem?_eq_getElem hlt)
      obtain ⟨b2, o2, cb, rfl, hRb, hcb0⟩ := hr.at_ hlt
      have hca := hca0.ext hx0
      have hcb := hcb0.ext hx0
      have Ra := hid (monoC_lterm _ _ _ _ hx0.sub hRa)
      have Rb := hid (mono_term _ _ _ _ hx0 hRb)
      have hi1 : (Tryz.prog.info? 27).map (·.size) = some ca.length := by rw [rlterm_len hRa]; kernel_rfl
      have hi2 : (Tryz.prog.info? 27).map (·.size) = some cb.length := by rw [rterm_len hRb]; kernel_rfl
      have hlt1 : (k : Int) < (xs.length : Int) := by omega
      have hge : ¬ xs.length ≤ k := by omega
      have hge1 : ¬ (xs.length : Int) ≤ (k : Int) := by omega
      have hk12 : (k : Int) < (xs.length : Int) + 12 := by omega
      clear hca0 hcb0 hRa hRb
      go_wp2_with fail
      refine wp_region_steps (fun s W v => match s with | 23 => v = .int .i64 k | 24 => v = .slice (some ⟨b2, o2, none⟩) xs.length c' | 25 => v = .int .i64 xs.length | 26 => v = .bool true | 27 => v = .bool true | 28 => v = .slice (some ⟨b, 0, none⟩) (xs.length + 12) c | 29 => v = .int .i64 k | 30 => v = .pointer (some ⟨b, k * 5, none⟩) | 31 => v = .agg ca.toArray | 32 => v = .slice (some ⟨b2, o2, none⟩) xs.length c' | 33 => v = .int .i64 k | 34 => v = .pointer (some ⟨b2, o2 + k * 5, none⟩) | 35 => v = .agg cb.toArray | 36 => v = .bool true | 37 => v = .bool false | 38 => v = .bool false | 39 => v = .bool false | 40 => v = .int .i64 k | 41 => v = .slice (some ⟨b2, o2, none⟩) xs.length c' | 42 => v = .int .i64 xs.length | 43 => v = .bool false | 44 => v = .bool false | 45 => v = undef | 46 => v = undef | 47 => v = undef | 48 => v = undef | 49 => v = undef | 50 => v = undef | 51 => v = undef | 52 => v = undef | 53 => v = undef | 54 => v = undef | 55 => v = undef | 56 => v = .bool false | 57 => v = .bool false | _ => True) (by kernel_rfl) (by kernel_rfl) (of_decide_eq_true (by kernel_rfl)) (by kernel_rfl) (fun s W W' v _ h => h) ?_ ?_
      · refine ⟨?_, ?_, ?_, ?_, ?_, ?_, ?_, ?_, ?_, ?_, ?_, ?_, ?_, ?_, ?_, ?_, ?_, ?_, ?_, ?_, ?_, ?_, ?_, ?_, ?_, ?_, ?_, ?_, ?_, ?_, ?_, ?_, ?_, ?_, ?_, trivial⟩
        · intro a W hx hdf hsz hg hi K hK
          refine step_free rfl ?_
          have t6 : a.tmps.getD 6 undef = .int .i64 k := hi 6 (by kernel_rfl)
          have u6 := t6
          rw [Array.getD_eq_getD_getElem?] at u6
          simp [Oper.wp, Oper.upon, execOp, Act.eval, go_sem, t6, u6, hlt, hlt1, hge, hge1, hk12, hk0]
          exact hK _ _ (Ext.rf _) (fun d' h => by cases h; exact rfl)
        · intro a W hx hdf hsz hg hi K hK
          refine step_free rfl ?_
          have t1 : a.tmps.getD 1 undef = .slice (some ⟨b2, o2, none⟩) xs.length c' := hi 1 (by kernel_rfl)
          have u1 := t1
          rw [Array.getD_eq_getD_getElem?] at u1
          simp [Oper.wp, Oper.upon, execOp, Act.eval, go_sem, t1, u1, hlt, hlt1, hge, hge1, hk12, hk0]
          exact hK _ _ (Ext.rf _) (fun d' h => by cases h; exact rfl)
        · intro a W hx hdf hsz hg hi K hK
          refine step_free rfl ?_
          have t24 : a.tmps.getD 24 undef = .slice (some ⟨b2, o2, none⟩) xs.length c' := hg 24 (by kernel_rfl)
          have u24 := t24
          rw [Array.getD_eq_getD_getElem?] at u24
          simp [Oper.wp, Oper.upon, execOp, Act.eval, go_sem, t24, u24, hlt, hlt1, hge, hge1, hk12, hk0]
          exact hK _ _ (Ext.rf _) (fun d' h => by cases h; exact rfl)
        · intro a W hx hdf hsz hg hi K hK
          refine step_free rfl ?_
          have t23 : a.tmps.getD 23 undef = .int .i64 k := hg 23 (by kernel_rfl)
          have t25 : a.tmps.getD 25 undef = .int .i64 xs.length := hg 25 (by kernel_rfl)
          have u23 := t23
          rw [Array.getD_eq_getD_getElem?] at u23
          have u25 := t25
          rw [Array.getD_eq_getD_getElem?] at u25
          simp [Oper.wp, Oper.upon, execOp, Act.eval, go_sem, t23, u23, t25, u25, hlt, hlt1, hge, hge1, hk12, hk0]
          exact hK _ _ (Ext.rf _) (fun d' h => by cases h; exact rfl)
        · intro a W hx hdf hsz hg hi K hK
          refine step_free rfl ?_
          have t26 : a.tmps.getD 26 undef = .bool true := hg 26 (by kernel_rfl)
          have u26 := t26
          rw [Array.getD_eq_getD_getElem?] at u26
          simp [Oper.wp, Oper.upon, execOp, Act.eval, go_sem, t26, u26, hlt, hlt1, hge, hge1, hk12, hk0]
          exact hK _ _ (Ext.rf _) (fun d' h => by cases h; exact rfl)
        · intro a W hx hdf hsz hg hi K hK
          have G27 : a.tmps.getD 27 undef = .bool true := hg 27 (by kernel_rfl)
          refine step_guard rfl rfl (by have hz : a.tmps.size = 58 := hsz; omega) G27 (fun _ => ?_) (fun h => absurd rfl h)
          have t5 : a.tmps.getD 5 undef = .slice (some ⟨b, 0, none⟩) (xs.length + 12) c := hi 5 (by kernel_rfl)
          have u5 := t5
          rw [Array.getD_eq_getD_getElem?] at u5
          simp [Oper.wp, Oper.upon, execOp, Act.eval, go_sem, t5, u5, hlt, hlt1, hge, hge1, hk12, hk0]
          exact hK _ _ (Ext.rf _) (fun d' h => by cases h; exact rfl)
        · intro a W hx hdf hsz hg hi K hK
          have G27 : a.tmps.getD 27 undef = .bool true := hg 27 (by kernel_rfl)
          refine step_guard rfl rfl (by have hz : a.tmps.size = 58 := hsz; omega) G27 (fun _ => ?_) (fun h => absurd rfl h)
          have t6 : a.tmps.getD 6 undef = .int .i64 k := hi 6 (by kernel_rfl)
          have u6 := t6
          rw [Array.getD_eq_getD_getElem?] at u6
          simp [Oper.wp, Oper.upon, execOp, Act.eval, go_sem, t6, u6, hlt, hlt1, hge, hge1, hk12, hk0]
          exact hK _ _ (Ext.rf _) (fun d' h => by cases h; exact rfl)
        · intro a W hx hdf hsz hg hi K hK
          have G27 : a.tmps.getD 27 undef = .bool true := hg 27 (by kernel_rfl)
          refine step_guard rfl rfl (by have hz : a.tmps.size = 58 := hsz; omega) G27 (fun _ => ?_) (fun h => absurd rfl h)
          have t28 : a.tmps.getD 28 undef = .slice (some ⟨b, 0, none⟩) (xs.length + 12) c := hg 28 (by kernel_rfl)
          have t29 : a.tmps.getD 29 undef = .int .i64 k := hg 29 (by kernel_rfl)
          have u28 := t28
          rw [Array.getD_eq_getD_getElem?] at u28
          have u29 := t29
          rw [Array.getD_eq_getD_getElem?] at u29
          simp [Oper.wp, Oper.upon, execOp, Act.eval, go_sem, t28, u28, t29, u29, hlt, hlt1, hge, hge1, hk12, hk0]
          exact hK _ _ (Ext.rf _) (fun d' h => by cases h; exact rfl)
        · intro a W hx hdf hsz hg hi K hK
          have G27 : a.tmps.getD 27 undef = .bool true := hg 27 (by kernel_rfl)
          refine step_guard rfl rfl (by have hz : a.tmps.size = 58 := hsz; omega) G27 (fun _ => ?_) (fun h => absurd rfl h)
          have t30 : a.tmps.getD 30 undef = .pointer (some ⟨b, k * 5, none⟩) := hg 30 (by kernel_rfl)
          have u30 := t30
          rw [Array.getD_eq_getD_getElem?] at u30
          refine wp_load_mid 27 (.tmp 30) rfl b (k * 5) t30 ca _ (hca.ext hx) hu rfl hi1 ?_
          exact hK _ _ (Ext.rf _) (fun d' h => by cases h; exact rfl)
        · intro a W hx hdf hsz hg hi K hK
          have G27 : a.tmps.getD 27 undef = .bool true := hg 27 (by kernel_rfl)
          refine step_guard rfl rfl (by have hz : a.tmps.size = 58 := hsz; omega) G27 (fun _ => ?_) (fun h => absurd rfl h)
          have t1 : a.tmps.getD 1 undef = .slice (some ⟨b2, o2, none⟩) xs.length c' := hi 1 (by kernel_rfl)
          have u1 := t1
          rw [Array.getD_eq_getD_getElem?] at u1
          simp [Oper.wp, Oper.upon, execOp, Act.eval, go_sem, t1, u1, hlt, hlt1, hge, hge1, hk12, hk0]
          exact hK _ _ (Ext.rf _) (fun d' h => by cases h; exact rfl)
        · intro a W hx hdf hsz hg hi K hK
          have G27 : a.tmps.getD 27 undef = .bool true := hg 27 (by kernel_rfl)
          refine step_guard rfl rfl (by have hz : a.tmps.size = 58 := hsz; omega) G27 (fun _ => ?_) (fun h => absurd rfl h)
          have t6 : a.tmps.getD 6 undef = .int .i64 k := hi 6 (by kernel_rfl)
          have u6 := t6
          rw [Array.getD_eq_getD_getElem?] at u6
          simp [Oper.wp, Oper.upon, execOp, Act.eval, go_sem, t6, u6, hlt, hlt1, hge, hge1, hk12, hk0]
          exact hK _ _ (Ext.rf _) (fun d' h => by cases h; exact rfl)
        · intro a W hx hdf hsz hg hi K hK
          have G27 : a.tmps.getD 27 undef = .bool true := hg 27 (by kernel_rfl)
          refine step_guard rfl rfl (by have hz : a.tmps.size = 58 := hsz; omega) G27 (fun _ => ?_) (fun h => absurd rfl h)
          have t32 : a.tmps.getD 32 undef = .slice (some ⟨b2, o2, none⟩) xs.length c' := hg 32 (by kernel_rfl)
          have t33 : a.tmps.getD 33 undef = .int .i64 k := hg 33 (by kernel_rfl)
          have u32 := t32
          rw [Array.getD_eq_getD_getElem?] at u32
          have u33 := t33
          rw [Array.getD_eq_getD_getElem?] at u33
          simp [Oper.wp, Oper.upon, execOp, Act.eval, go_sem, t32, u32, t33, u33, hlt, hlt1, hge, hge1, hk12, hk0]
          exact hK _ _ (Ext.rf _) (fun d' h => by cases h; exact rfl)
        · intro a W hx hdf hsz hg hi K hK
          have G27 : a.tmps.getD 27 undef = .bool true := hg 27 (by kernel_rfl)
          refine step_guard rfl rfl (by have hz : a.tmps.size = 58 := hsz; omega) G27 (fun _ => ?_) (fun h => absurd rfl h)
          have t34 : a.tmps.getD 34 undef = .pointer (some ⟨b2, o2 + k * 5, none⟩) := hg 34 (by kernel_rfl)
          have u34 := t34
          rw [Array.getD_eq_getD_getElem?] at u34
          refine wp_load_mid 27 (.tmp 34) rfl b2 (o2 + k * 5) t34 cb _ (hcb.ext hx) hu rfl hi2 ?_
          exact hK _ _ (Ext.rf _) (fun d' h => by cases h; exact rfl)
        · intro a W hx hdf hsz hg hi K hK
          have G27 : a.tmps.getD 27 undef = .bool true := hg 27 (by kernel_rfl)
          refine step_guard rfl rfl (by have hz : a.tmps.size = 58 := hsz; omega) G27 (fun _ => ?_) (fun h => absurd rfl h)
          have t31 : a.tmps.getD 31 undef = .agg ca.toArray := hg 31 (by kernel_rfl)
          have t35 : a.tmps.getD 35 undef = .agg cb.toArray := hg 35 (by kernel_rfl)
          have u31 := t31
          rw [Array.getD_eq_getD_getElem?] at u31
          have u35 := t35
          rw [Array.getD_eq_getD_getElem?] at u35
          simp [Oper.wp, Oper.upon, execOp, Act.eval, go_sem, t31, u31, t35, u35]
          refine (IH.out xs[k] (List.getElem_mem hlt) _ _ _ (monoC_lterm _ _ _ _ hx.sub Ra.out) (mono_term _ _ _ _ hx Rb.out)).mono ?_
          rintro e w' ⟨rfl, hb⟩
          exact hK _ _ hb (fun d' h => by cases h; exact rfl)
        · intro a W hx hdf hsz hg hi K hK
          have G27 : a.tmps.getD 27 undef = .bool true := hg 27 (by kernel_rfl)
          refine step_guard rfl rfl (by have hz : a.tmps.size = 58 := hsz; omega) G27 (fun _ => ?_) (fun h => absurd rfl h)
          have t36 : a.tmps.getD 36 undef = .bool true := hg 36 (by kernel_rfl)
          have u36 := t36
          rw [Array.getD_eq_getD_getElem?] at u36
          simp [Oper.wp, Oper.upon, execOp, Act.eval, go_sem, t36, u36, hlt, hlt1, hge, hge1, hk12, hk0]
          exact hK _ _ (Ext.rf _) (fun d' h => by cases h; exact rfl)
        · intro a W hx hdf hsz hg hi K hK
          refine step_free rfl ?_
          have t27 : a.tmps.getD 27 undef = .bool true := hg 27 (by kernel_rfl)
          have t37 : a.tmps.getD 37 undef = .bool false := hg 37 (by kernel_rfl)
          have u27 := t27
          rw [Array.getD_eq_getD_getElem?] at u27
          have u37 := t37
          rw [Array.getD_eq_getD_getElem?] at u37
          simp [Oper.wp, Oper.upon, execOp, Act.eval, go_sem, t27, u27, t37, u37, hlt, hlt1, hge, hge1, hk12, hk0]
          exact hK _ _ (Ext.rf _) (fun d' h => by cases h; exact rfl)
        · intro a W hx hdf hsz hg hi K hK
          refine step_free rfl ?_
          have t38 : a.tmps.getD 38 undef = .bool false := hg 38 (by kernel_rfl)
          have u38 := t38
          rw [Array.getD_eq_getD_getElem?] at u38
          simp [Oper.wp, Oper.upon, execOp, Act.eval, go_sem, t38, u38, hlt, hlt1, hge, hge1, hk12, hk0]
          exact hK _ _ (Ext.rf _) (fun d' h => by cases h; exact rfl)
        · intro a W hx hdf hsz hg hi K hK
          have G39 : a.tmps.getD 39 undef = .bool false := hg 39 (by kernel_rfl)
          refine step_guard rfl rfl (by have hz : a.tmps.size = 58 := hsz; omega) G39 (fun _ => ?_) (fun h => absurd rfl h)
          have t6 : a.tmps.getD 6 undef = .int .i64 k := hi 6 (by kernel_rfl)
          have u6 := t6
          rw [Array.getD_eq_getD_getElem?] at u6
          simp [Oper.wp, Oper.upon, execOp, Act.eval, go_sem, t6, u6, hlt, hlt1, hge, hge1, hk12, hk0]
          exact hK _ _ (Ext.rf _) (fun d' h => by cases h; exact rfl)
        · intro a W hx hdf hsz hg hi K hK
          have G39 : a.tmps.getD 39 undef = .bool false := hg 39 (by kernel_rfl)
          refine step_guard rfl rfl (by have hz : a.tmps.size = 58 := hsz; omega) G39 (fun _ => ?_) (fun h => absurd rfl h)
          have t1 : a.tmps.getD 1 undef = .slice (some ⟨b2, o2, none⟩) xs.length c' := hi 1 (by kernel_rfl)
          have u1 := t1
          rw [Array.getD_eq_getD_getElem?] at u1
          simp [Oper.wp, Oper.upon, execOp, Act.eval, go_sem, t1, u1, hlt, hlt1, hge, hge1, hk12, hk0]
          exact hK _ _ (Ext.rf _) (fun d' h => by cases h; exact rfl)
        · intro a W hx hdf hsz hg hi K hK
          have G39 : a.tmps.getD 39 undef = .bool false := hg 39 (by kernel_rfl)
          refine step_guard rfl rfl (by have hz : a.tmps.size = 58 := hsz; omega) G39 (fun _ => ?_) (fun h => absurd rfl h)
          have t41 : a.tmps.getD 41 undef = .slice (some ⟨b2, o2, none⟩) xs.length c' := hg 41 (by kernel_rfl)
          have u41 := t41
          rw [Array.getD_eq_getD_getElem?] at u41
          simp [Oper.wp, Oper.upon, execOp, Act.eval, go_sem, t41, u41, hlt, hlt1, hge, hge1, hk12, hk0]
          exact hK _ _ (Ext.rf _) (fun d' h => by cases h; exact rfl)
        · intro a W hx hdf hsz hg hi K hK
          have G39 : a.tmps.getD 39 undef = .bool false := hg 39 (by kernel_rfl)
          refine step_guard rfl rfl (by have hz : a.tmps.size = 58 := hsz; omega) G39 (fun _ => ?_) (fun h => absurd rfl h)
          have t40 : a.tmps.getD 40 undef = .int .i64 k := hg 40 (by kernel_rfl)
          have t42 : a.tmps.getD 42 undef = .int .i64 xs.length := hg 42 (by kernel_rfl)
          have u40 := t40
          rw [Array.getD_eq_getD_getElem?] at u40
          have u42 := t42
          rw [Array.getD_eq_getD_getElem?] at u42
          simp [Oper.wp, Oper.upon, execOp, Act.eval, go_sem, t40, u40, t42, u42, hlt, hlt1, hge, hge1, hk12, hk0]
          exact hK _ _ (Ext.rf _) (fun d' h => by cases h; exact rfl)
        · intro a W hx hdf hsz hg hi K hK
          have G39 : a.tmps.getD 39 undef = .bool false := hg 39 (by kernel_rfl)
          refine step_guard rfl rfl (by have hz : a.tmps.size = 58 := hsz; omega) G39 (fun _ => ?_) (fun h => absurd rfl h)
          have t43 : a.tmps.getD 43 undef = .bool false := hg 43 (by kernel_rfl)
          have u43 := t43
          rw [Array.getD_eq_getD_getElem?] at u43
          simp [Oper.wp, Oper.upon, execOp, Act.eval, go_sem, t43, u43, hlt, hlt1, hge, hge1, hk12, hk0]
          exact hK _ _ (Ext.rf _) (fun d' h => by cases h; exact rfl)
        · intro a W hx hdf hsz hg hi K hK
          have G44 : a.tmps.getD 44 undef = .bool false := hg 44 (by kernel_rfl)
          exact step_guard rfl rfl (by have hz : a.tmps.size = 58 := hsz; omega) G44 (fun h => by cases h) (fun _ => hK _ _ (Ext.rf _) (fun d' h => by cases h; exact rfl))
        · intro a W hx hdf hsz hg hi K hK
          have G44 : a.tmps.getD 44 undef = .bool false := hg 44 (by kernel_rfl)
          exact step_guard rfl rfl (by have hz : a.tmps.size = 58 := hsz; omega) G44 (fun h => by cases h) (fun _ => hK _ _ (Ext.rf _) (fun d' h => by cases h; exact rfl))
        · intro a W hx hdf hsz hg hi K hK
          have G44 : a.tmps.getD 44 undef = .bool false := hg 44 (by kernel_rfl)
          exact step_guard rfl rfl (by have hz : a.tmps.size = 58 := hsz; omega) G44 (fun h => by cases h) (fun _ => hK _ _ (Ext.rf _) (fun d' h => by cases h; exact rfl))
        · intro a W hx hdf hsz hg hi K hK
          have G44 : a.tmps.getD 44 undef = .bool false := hg 44 (by kernel_rfl)
          exact step_guard rfl rfl (by have hz : a.tmps.size = 58 := hsz; omega) G44 (fun h => by cases h) (fun _ => hK _ _ (Ext.rf _) (fun d' h => by cases h; exact rfl))
        · intro a W hx hdf hsz hg hi K hK
          have G44 : a.tmps.getD 44 undef = .bool false := hg 44 (by kernel_rfl)
          exact step_guard rfl rfl (by have hz : a.tmps.size = 58 := hsz; omega) G44 (fun h => by cases h) (fun _ => hK _ _ (Ext.rf _) (fun d' h => by cases h; exact rfl))
        · intro a W hx hdf hsz hg hi K hK
          have G44 : a.tmps.getD 44 undef = .bool false := hg 44 (by kernel_rfl)
          exact step_guard rfl rfl (by have hz : a.tmps.size = 58 := hsz; omega) G44 (fun h => by cases h) (fun _ => hK _ _ (Ext.rf _) (fun d' h => by cases h; exact rfl))
        · intro a W hx hdf hsz hg hi K hK
          have G44 : a.tmps.getD 44 undef = .bool false := hg 44 (by kernel_rfl)
          exact step_guard rfl rfl (by have hz : a.tmps.size = 58 := hsz; omega) G44 (fun h => by cases h) (fun _ => hK _ _ (Ext.rf _) (fun d' h => by cases h; exact rfl))
        · intro a W hx hdf hsz hg hi K hK
          have G44 : a.tmps.getD 44 undef = .bool false := hg 44 (by kernel_rfl)
          exact step_guard rfl rfl (by have hz : a.tmps.size = 58 := hsz; omega) G44 (fun h => by cases h) (fun _ => hK _ _ (Ext.rf _) (fun d' h => by cases h; exact rfl))
        · intro a W hx hdf hsz hg hi K hK
          have G44 : a.tmps.getD 44 undef = .bool false := hg 44 (by kernel_rfl)
          exact step_guard rfl rfl (by have hz : a.tmps.size = 58 := hsz; omega) G44 (fun h => by cases h) (fun _ => hK _ _ (Ext.rf _) (fun d' h => by cases h; exact rfl))
        · intro a W hx hdf hsz hg hi K hK
          have G44 : a.tmps.getD 44 undef = .bool false := hg 44 (by kernel_rfl)
          exact step_guard rfl rfl (by have hz : a.tmps.size = 58 := hsz; omega) G44 (fun h => by cases h) (fun _ => hK _ _ (Ext.rf _) (fun d' h => by cases h; exact rfl))
        · intro a W hx hdf hsz hg hi K hK
          have G44 : a.tmps.getD 44 undef = .bool false := hg 44 (by kernel_rfl)
          exact step_guard rfl rfl (by have hz : a.tmps.size = 58 := hsz; omega) G44 (fun h => by cases h) (fun _ => hK _ _ (Ext.rf _) (fun d' h => by cases h; exact rfl))
        · intro a W hx hdf hsz hg hi K hK
          have G39 : a.tmps.getD 39 undef = .bool false := hg 39 (by kernel_rfl)
          refine step_guard rfl rfl (by have hz : a.tmps.size = 58 := hsz; omega) G39 (fun _ => ?_) (fun h => absurd rfl h)
          have t44 : a.tmps.getD 44 undef = .bool false := hg 44 (by kernel_rfl)
          have t55 : a.tmps.getD 55 undef = undef := hg 55 (by kernel_rfl)
          have u44 := t44
          rw [Array.getD_eq_getD_getElem?] at u44
          have u55 := t55
          rw [Array.getD_eq_getD_getElem?] at u55
          simp [Oper.wp, Oper.upon, execOp, Act.eval, go_sem, t44, u44, t55, u55, hlt, hlt1, hge, hge1, hk12, hk0]
          exact hK _ _ (Ext.rf _) (fun d' h => by cases h; exact rfl)
        · intro a W hx hdf hsz hg hi K hK
          refine step_free rfl ?_
          have t39 : a.tmps.getD 39 undef = .bool false := hg 39 (by kernel_rfl)
          have t56 : a.tmps.getD 56 undef = .bool false := hg 56 (by kernel_rfl)
          have u39 := t39
          rw [Array.getD_eq_getD_getElem?] at u39
          have u56 := t56
          rw [Array.getD_eq_getD_getElem?] at u56
          simp [Oper.wp, Oper.upon, execOp, Act.eval, go_sem, t39, u39, t56, u56, hlt, hlt1, hge, hge1, hk12, hk0]
          exact hK _ _ (Ext.rf _) (fun d' h => by cases h; exact rfl)
      · rintro ⟨T, D⟩ w7 hx7 hdf hsz hg hi
        have h57 : T.getD 57 undef = .bool false := hg 57 (by kernel_rfl)
        obtain ⟨f, hf, hT⟩ := frame_slots T 58 hsz
        have f57 := (hf 57).symm.trans h57
        have f0 : f 0 = .slice (some ⟨b, 0, none⟩) xs.length c := (hf 0).symm.trans (hi 0 (by kernel_rfl))
        have f1 : f 1 = .slice (some ⟨b2, o2, none⟩) xs.length c' := (hf 1).symm.trans (hi 1 (by kernel_rfl))
        have f2 : f 2 = undef := (hf 2).symm.trans (hi 2 (by kernel_rfl))
        have f3 : f 3 = undef := (hf 3).symm.trans (hi 3 (by kernel_rfl))
        have f5 : f 5 = .slice (some ⟨b, 0, none⟩) (xs.length + 12) c := (hf 5).symm.trans (hi 5 (by kernel_rfl))
        have f6 : f 6 = .int .i64 k := (hf 6).symm.trans (hi 6 (by kernel_rfl))
        have f7 : f 7 = .slice (some ⟨b, 0, none⟩) xs.length c := (hf 7).symm.trans (hi 7 (by kernel_rfl))
        have f8 : f 8 = .int .i64 xs.length := (hf 8).symm.trans (hi 8 (by kernel_rfl))
        have f9 : f 9 = .slice (some ⟨b2, o2, none⟩) xs.length c' := (hf 9).symm.trans (hi 9 (by kernel_rfl))
        have f10 : f 10 = .int .i64 xs.length := (hf 10).symm.trans (hi 10 (by kernel_rfl))
        have f11 : f 11 = .bool false := (hf 11).symm.trans (hi 11 (by kernel_rfl))
        have f12 : f 12 = .slice (some ⟨b, 0, none⟩) xs.length c := (hf 12).symm.trans (hi 12 (by kernel_rfl))
        have f13 : f 13 = .slice (some ⟨b2, o2, none⟩) xs.length c' := (hf 13).symm.trans (hi 13 (by kernel_rfl))
        have f14 : f 14 = .int .i64 xs.length := (hf 14).symm.trans (hi 14 (by kernel_rfl))
        have f15 : f 15 = .int .i64 (xs.length + 12) := (hf 15).symm.trans (hi 15 (by kernel_rfl))
        have f16 : f 16 = .slice (some ⟨b, 0, none⟩) (xs.length + 12) c := (hf 16).symm.trans (hi 16 (by kernel_rfl))
        have hD : D = [] := hdf
        clear hf hi hg hsz hdf h57
        subst hT hD
        simp only [slots, Nat.reduceAdd, f57, f0, f1, f2, f3, f5, f6, f7, f8, f9, f10, f11, f12, f13, f14, f15, f16]
        go_wp2_with fail
        exact ⟨⟨k + 1, by omega, by go_num, hx0.tr hx7⟩, by simp only [intOf]; omega⟩
    · by_cases hlt2 : k < xs.length + 12
      · obtain ⟨ca, hRa, hca0⟩ := Hmk.out (k - xs.length) (by omega)
        have e1 : xs.length + (k - xs.length) = k := by omega
        have e2 : ((k - xs.length : Nat) : Int) = (k : Int) - xs.length := by omega
        rw [e1] at hca0
        rw [e2] at hRa
        clear e1 e2
        have hca := hca0.ext hx0
        have Ra := hid (mono_term _ _ _ _ hx0 hRa)
        have hi1 : (Tryz.prog.info? 27).map (·.size) = some ca.length := by rw [rterm_len hRa]; kernel_rfl
        have hlt1 : ¬ (k : Int) < (xs.length : Int) := by omega
        have hge : xs.length ≤ k := by omega
        have hge1 : (xs.length : Int) ≤ (k : Int) := by omega
        have hk12 : (k : Int) < (xs.length : Int) + 12 := by omega
        have hsub : IntKind.i64.wrap ((k : Int) - xs.length) = (k : Int) - xs.length := IntWalk.i64_in _ (by omega)
        have hsub2 : (0 : Int) ≤ (k : Int) - xs.length := by omega
        clear hca0 hRa
        go_wp2_with fail
        refine wp_region_steps (fun s W v => match s with | 23 => v = .int .i64 k | 24 => v = .slice A xs.length c' | 25 => v = .int .i64 xs.length | 26 => v = .bool false | 27 => v = .bool false | 28 => v = undef | 29 => v = undef | 30 => v = undef | 31 => v = undef | 32 => v = undef | 33 => v = undef | 34 => v = undef | 35 => v = undef | 36 => v = undef | 37 => v = undef | 38 => v = .bool false | 39 => v = .bool false | 40 => v = .int .i64 k | 41 => v = .slice A xs.length c' | 42 => v = .int .i64 xs.length | 43 => v = .bool true | 44 => v = .bool true | 45 => v = .slice (some ⟨b, 0, none⟩) (xs.length + 12) c | 46 => v = .int .i64 k | 47 => v = .pointer (some ⟨b, k * 5, none⟩) | 48 => v = .agg ca.toArray | 49 => v = .int .i64 k | 50 => v = .slice A xs.length c' | 51 => v = .int .i64 xs.length | 52 => v = .int .i64 ((k : Int) - xs.length) | 53 => ∃ cs : List Value, v = .agg cs.toArray ∧ RTerm W (mkTerm ((k : Int) - xs.length)) cs | 54 => v = .bool true | 55 => v = .bool false | 56 => v = .bool false | 57 => v = .bool false | _ => True) (by kernel_rfl) (by kernel_rfl) (of_decide_eq_true (by kernel_rfl)) (by kernel_rfl) (by intro s W W' v hx h; revert h; split <;> first | exact id | exact fun ⟨cs, e, hr⟩ => ⟨cs, e, mono_term _ _ _ _ hx hr⟩) ?_ ?_
        · refine ⟨?_, ?_, ?_, ?_, ?_, ?_, ?_, ?_, ?_, ?_, ?_, ?_, ?_, ?_, ?_, ?_, ?_, ?_, ?_, ?_, ?_, ?_, ?_, ?_, ?_, ?_, ?_, ?_, ?_, ?_, ?_, ?_, ?_, ?_, ?_, trivial⟩
          · intro a W hx hdf hsz hg hi K hK
            refine step_free rfl ?_
            have t6 : a.tmps.getD 6 undef = .int .i64 k := hi 6 (by kernel_rfl)
            have u6 := t6
            rw [Array.getD_eq_getD_getElem?] at u6
            simp [Oper.wp, Oper.upon, execOp, Act.eval, go_sem, t6, u6, hlt, hlt1, hge, hge1, hk12, hk0, hsub, hsub2]
            exact hK _ _ (Ext.rf _) (fun d' h => by cases h; exact rfl)
          · intro a W hx hdf hsz hg hi K hK
            refine step_free rfl ?_
            have t1 : a.tmps.getD 1 undef = .slice A xs.length c' := hi 1 (by kernel_rfl)
            have u1 := t1
            rw [Array.getD_eq_getD_getElem?] at u1
            simp [Oper.wp, Oper.upon, execOp, Act.eval, go_sem, t1, u1, hlt, hlt1, hge, hge1, hk12, hk0, hsub, hsub2]
            exact hK _ _ (Ext.rf _) (fun d' h => by cases h; exact rfl)
          · intro a W hx hdf hsz hg hi K hK
            refine step_free rfl ?_
            have t24 : a.tmps.getD 24 undef = .slice A xs.length c' := hg 24 (by kernel_rfl)
            have u24 := t24
            rw [Array.getD_eq_getD_getElem?] at u24
            simp [Oper.wp, Oper.upon, execOp, Act.eval, go_sem, t24, u24, hlt, hlt1, hge, hge1, hk12, hk0, hsub, hsub2]
            exact hK _ _ (Ext.rf _) (fun d' h => by cases h; exact rfl)
          · intro a W hx hdf hsz hg hi K hK
            refine step_free rfl ?_
            have t23 : a.tmps.getD 23 undef = .int .i64 k := hg 23 (by kernel_rfl)
            have t25 : a.tmps.getD 25 undef = .int .i64 xs.length := hg 25 (by kernel_rfl)
            have u23 := t23
            rw [Array.getD_eq_getD_getElem?] at u23
            have u25 := t25
            rw [Array.getD_eq_getD_getElem?] at u25
            simp [Oper.wp, Oper.upon, execOp, Act.eval, go_sem, t23, u23, t25, u25, hlt, hlt1, hge, hge1, hk12, hk0, hsub, hsub2]
            exact hK _ _ (Ext.rf _) (fun d' h => by cases h; exact rfl)
          · intro a W hx hdf hsz hg hi K hK
            refine step_free rfl ?_
            have t26 : a.tmps.getD 26 undef = .bool false := hg 26 (by kernel_rfl)
            have u26 := t26
            rw [Array.getD_eq_getD_getElem?] at u26
            simp [Oper.wp, Oper.upon, execOp, Act.eval, go_sem, t26, u26, hlt, hlt1, hge, hge1, hk12, hk0, hsub, hsub2]
            exact hK _ _ (Ext.rf _) (fun d' h => by cases h; exact rfl)
          · intro a W hx hdf hsz hg hi K hK
            have G27 : a.tmps.getD 27 undef = .bool false := hg 27 (by kernel_rfl)
            exact step_guard rfl rfl (by have hz : a.tmps.size = 58 := hsz; omega) G27 (fun h => by cases h) (fun _ => hK _ _ (Ext.rf _) (fun d' h => by cases h; exact rfl))
          · intro a W hx hdf hsz hg hi K hK
            have G27 : a.tmps.getD 27 undef = .bool false := hg 27 (by kernel_rfl)
            exact step_guard rfl rfl (by have hz : a.tmps.size = 58 := hsz; omega) G27 (fun h => by cases h) (fun _ => hK _ _ (Ext.rf _) (fun d' h => by cases h; exact rfl))
          · intro a W hx hdf hsz hg hi K hK
            have G27 : a.tmps.getD 27 undef = .bool false := hg 27 (by kernel_rfl)
            exact step_guard rfl rfl (by have hz : a.tmps.size = 58 := hsz; omega) G27 (fun h => by cases h) (fun _ => hK _ _ (Ext.rf _) (fun d' h => by cases h; exact rfl))
          · intro a W hx hdf hsz hg hi K hK
            have G27 : a.tmps.getD 27 undef = .bool false := hg 27 (by kernel_rfl)
            exact step_guard rfl rfl (by have hz : a.tmps.size = 58 := hsz; omega) G27 (fun h => by cases h) (fun _ => hK _ _ (Ext.rf _) (fun d' h => by cases h; exact rfl))
          · intro a W hx hdf hsz hg hi K hK
            have G27 : a.tmps.getD 27 undef = .bool false := hg 27 (by kernel_rfl)
            exact step_guard rfl rfl (by have hz : a.tmps.size = 58 := hsz; omega) G27 (fun h => by cases h) (fun _ => hK _ _ (Ext.rf _) (fun d' h => by cases h; exact rfl))
          · intro a W hx hdf hsz hg hi K hK
            have G27 : a.tmps.getD 27 undef = .bool false := hg 27 (by kernel_rfl)
            exact step_guard rfl rfl (by have hz : a.tmps.size = 58 := hsz; omega) G27 (fun h => by cases h) (fun _ => hK _ _ (Ext.rf _) (fun d' h => by cases h; exact rfl))
          · intro a W hx hdf hsz hg hi K hK
            have G27 : a.tmps.getD 27 undef = .bool false := hg 27 (by kernel_rfl)
            exact step_guard rfl rfl (by have hz : a.tmps.size = 58 := hsz; omega) G27 (fun h => by cases h) (fun _ => hK _ _ (Ext.rf _) (fun d' h => by cases h; exact rfl))
          · intro a W hx hdf hsz hg hi K hK
            have G27 : a.tmps.getD 27 undef = .bool false := hg 27 (by kernel_rfl)
            exact step_guard rfl rfl (by have hz : a.tmps.size = 58 := hsz; omega) G27 (fun h => by cases h) (fun _ => hK _ _ (Ext.rf _) (fun d' h => by cases h; exact rfl))
          · intro a W hx hdf hsz hg hi K hK
            have G27 : a.tmps.getD 27 undef = .bool false := hg 27 (by kernel_rfl)
            exact step_guard rfl rfl (by have hz : a.tmps.size = 58 := hsz; omega) G27 (fun h => by cases h) (fun _ => hK _ _ (Ext.rf _) (fun d' h => by cases h; exact rfl))
          · intro a W hx hdf hsz hg hi K hK
            have G27 : a.tmps.getD 27 undef = .bool false := hg 27 (by kernel_rfl)
            exact step_guard rfl rfl (by have hz : a.tmps.size = 58 := hsz; omega) G27 (fun h => by cases h) (fun _ => hK _ _ (Ext.rf _) (fun d' h => by cases h; exact rfl))
          · intro a W hx hdf hsz hg hi K hK
            refine step_free rfl ?_
            have t27 : a.tmps.getD 27 undef = .bool false := hg 27 (by kernel_rfl)
            have t37 : a.tmps.getD 37 undef = undef := hg 37 (by kernel_rfl)
            have u27 := t27
            rw [Array.getD_eq_getD_getElem?] at u27
            have u37 := t37
            rw [Array.getD_eq_getD_getElem?] at u37
            simp [Oper.wp, Oper.upon, execOp, Act.eval, go_sem, t27, u27, t37, u37, hlt, hlt1, hge, hge1, hk12, hk0, hsub, hsub2]
            exact hK _ _ (Ext.rf _) (fun d' h => by cases h; exact rfl)
          · intro a W hx hdf hsz hg hi K hK
            refine step_free rfl ?_
            have t38 : a.tmps.getD 38 undef = .bool false := hg 38 (by kernel_rfl)
            have u38 := t38
            rw [Array.getD_eq_getD_getElem?] at u38
            simp [Oper.wp, Oper.upon, execOp, Act.eval, go_sem, t38, u38, hlt, hlt1, hge, hge1, hk12, hk0, hsub, hsub2]
            exact hK _ _ (Ext.rf _) (fun d' h => by cases h; exact rfl)
          · intro a W hx hdf hsz hg hi K hK
            have G39 : a.tmps.getD 39 undef = .bool false := hg 39 (by kernel_rfl)
            refine step_guard rfl rfl (by have hz : a.tmps.size = 58 := hsz; omega) G39 (fun _ => ?_) (fun h => absurd rfl h)
            have t6 : a.tmps.getD 6 undef = .int .i64 k := hi 6 (by kernel_rfl)
            have u6 := t6
            rw [Array.getD_eq_getD_getElem?] at u6
            simp [Oper.wp, Oper.upon, execOp, Act.eval, go_sem, t6, u6, hlt, hlt1, hge, hge1, hk12, hk0, hsub, hsub2]
            exact hK _ _ (Ext.rf _) (fun d' h => by cases h; exact rfl)
          · intro a W hx hdf hsz hg hi K hK
            have G39 : a.tmps.getD 39 undef = .bool false := hg 39 (by kernel_rfl)
            refine step_guard rfl rfl (by have hz : a.tmps.size = 58 := hsz; omega) G39 (fun _ => ?_) (fun h => absurd rfl h)
            have t1 : a.tmps.getD 1 undef = .slice A xs.length c' := hi 1 (by kernel_rfl)
            have u1 := t1
            rw [Array.getD_eq_getD_getElem?] at u1
            simp [Oper.wp, Oper.upon, execOp, Act.eval, go_sem, t1, u1, hlt, hlt1, hge, hge1, hk12, hk0, hsub, hsub2]
            exact hK _ _ (Ext.rf _) (fun d' h => by cases h; exact rfl)
          · intro a W hx hdf hsz hg hi K hK
            have G39 : a.tmps.getD 39 undef = .bool false := hg 39 (by kernel_rfl)
            refine step_guard rfl rfl (by have hz : a.tmps.size = 58 := hsz; omega) G39 (fun _ => ?_) (fun h => absurd rfl h)
            have t41 : a.tmps.getD 41 undef = .slice A xs.length c' := hg 41 (by kernel_rfl)
            have u41 := t41
            rw [Array.getD_eq_getD_getElem?] at u41
            simp [Oper.wp, Oper.upon, execOp, Act.eval, go_sem, t41, u41, hlt, hlt1, hge, hge1, hk12, hk0, hsub, hsub2]
            exact hK _ _ (Ext.rf _) (fun d' h => by cases h; exact rfl)
          · intro a W hx hdf hsz hg hi K hK
            have G39 : a.tmps.getD 39 undef = .bool false := hg 39 (by kernel_rfl)
            refine step_guard rfl rfl (by have hz : a.tmps.size = 58 := hsz; omega) G39 (fun _ => ?_) (fun h => absurd rfl h)
            have t40 : a.tmps.getD 40 undef = .int .i64 k := hg 40 (by kernel_rfl)
            have t42 : a.tmps.getD 42 undef = .int .i64 xs.length := hg 42 (by kernel_rfl)
            have u40 := t40
            rw [Array.getD_eq_getD_getElem?] at u40
            have u42 := t42
            rw [Array.getD_eq_getD_getElem?] at u42
            simp [Oper.wp, Oper.upon, execOp, Act.eval, go_sem, t40, u40, t42, u42, hlt, hlt1, hge, hge1, hk12, hk0, hsub, hsub2]
            exact hK _ _ (Ext.rf _) (fun d' h => by cases h; exact rfl)
          · intro a W hx hdf hsz hg hi K hK
            have G39 : a.tmps.getD 39 undef = .bool false := hg 39 (by kernel_rfl)
            refine step_guard rfl rfl (by have hz : a.tmps.size = 58 := hsz; omega) G39 (fun _ => ?_) (fun h => absurd rfl h)
            have t43 : a.tmps.getD 43 undef = .bool true := hg 43 (by kernel_rfl)
            have u43 := t43
            rw [Array.getD_eq_getD_getElem?] at u43
            simp [Oper.wp, Oper.upon, execOp, Act.eval, go_sem, t43, u43, hlt, hlt1, hge, hge1, hk12, hk0, hsub, hsub2]
            exact hK _ _ (Ext.rf _) (fun d' h => by cases h; exact rfl)
          · intro a W hx hdf hsz hg hi K hK
            have G44 : a.tmps.getD 44 undef = .bool true := hg 44 (by kernel_rfl)
            refine step_guard rfl rfl (by have hz : a.tmps.size = 58 := hsz; omega) G44 (fun _ => ?_) (fun h => absurd rfl h)
            have t5 : a.tmps.getD 5 undef = .slice (some ⟨b, 0, none⟩) (xs.length + 12) c := hi 5 (by kernel_rfl)
            have u5 := t5
            rw [Array.getD_eq_getD_getElem?] at u5
            simp [Oper.wp, Oper.upon, execOp, Act.eval, go_sem, t5, u5, hlt, hlt1, hge, hge1, hk12, hk0, hsub, hsub2]
            exact hK _ _ (Ext.rf _) (fun d' h => by cases h; exact rfl)
          · intro a W hx hdf hsz hg hi K hK
            have G44 : a.tmps.getD 44 undef = .bool true := hg 44 (by kernel_rfl)
            refine step_guard rfl rfl (by have hz : a.tmps.size = 58 := hsz; omega) G44 (fun _ => ?_) (fun h => absurd rfl h)
            have t6 : a.tmps.getD 6 undef = .int .i64 k := hi 6 (by kernel_rfl)
            have u6 := t6
            rw [Array.getD_eq_getD_getElem?] at u6
            simp [Oper.wp, Oper.upon, execOp, Act.eval, go_sem, t6, u6, hlt, hlt1, hge, hge1, hk12, hk0, hsub, hsub2]
            exact hK _ _ (Ext.rf _) (fun d' h => by cases h; exact rfl)
          · intro a W hx hdf hsz hg hi K hK
            have G44 : a.tmps.getD 44 undef = .bool true := hg 44 (by kernel_rfl)
            refine step_guard rfl rfl (by have hz : a.tmps.size = 58 := hsz; omega) G44 (fun _ => ?_) (fun h => absurd rfl h)
            have t45 : a.tmps.getD 45 undef = .slice (some ⟨b, 0, none⟩) (xs.length + 12) c := hg 45 (by kernel_rfl)
            have t46 : a.tmps.getD 46 undef = .int .i64 k := hg 46 (by kernel_rfl)
            have u45 := t45
            rw [Array.getD_eq_getD_getElem?] at u45
            have u46 := t46
            rw [Array.getD_eq_getD_getElem?] at u46
            simp [Oper.wp, Oper.upon, execOp, Act.eval, go_sem, t45, u45, t46, u46, hlt, hlt1, hge, hge1, hk12, hk0, hsub, hsub2]
            exact hK _ _ (Ext.rf _) (fun d' h => by cases h; exact rfl)
          · intro a W hx hdf hsz hg hi K hK
            have G44 : a.tmps.getD 44 undef = .bool true := hg 44 (by kernel_rfl)
            refine step_guard rfl rfl (by have hz : a.tmps.size = 58 := hsz; omega) G44 (fun _ => ?_) (fun h => absurd rfl h)
            have t47 : a.tmps.getD 47 undef = .pointer (some ⟨b, k * 5, none⟩) := hg 47 (by kernel_rfl)
            have u47 := t47
            rw [Array.getD_eq_getD_getElem?] at u47
            refine wp_load_mid 27 (.tmp 47) rfl b (k * 5) t47 ca _ (hca.ext hx) hu rfl hi1 ?_
            exact hK _ _ (Ext.rf _) (fun d' h => by cases h; exact rfl)
          · intro a W hx hdf hsz hg hi K hK
            have G44 : a.tmps.getD 44 undef = .bool true := hg 44 (by kernel_rfl)
            refine step_guard rfl rfl (by have hz : a.tmps.size = 58 := hsz; omega) G44 (fun _ => ?_) (fun h => absurd rfl h)
            have t6 : a.tmps.getD 6 undef = .int .i64 k := hi 6 (by kernel_rfl)
            have u6 := t6
            rw [Array.getD_eq_getD_getElem?] at u6
            simp [Oper.wp, Oper.upon, execOp, Act.eval, go_sem, t6, u6, hlt, hlt1, hge, hge1, hk12, hk0, hsub, hsub2]
            exact hK _ _ (Ext.rf _) (fun d' h => by cases h; exact rfl)
          · intro a W hx hdf hsz hg hi K hK
            have G44 : a.tmps.getD 44 undef = .bool true := hg 44 (by kernel_rfl)
            refine step_guard rfl rfl (by have hz : a.tmps.size = 58 := hsz; omega) G44 (fun _ => ?_) (fun h => absurd rfl h)
            have t1 : a.tmps.getD 1 undef = .slice A xs.length c' := hi 1 (by kernel_rfl)
            have u1 := t1
            rw [Array.getD_eq_getD_getElem?] at u1
            simp [Oper.wp, Oper.upon, execOp, Act.eval, go_sem, t1, u1, hlt, hlt1, hge, hge1, hk12, hk0, hsub, hsub2]
            exact hK _ _ (Ext.rf _) (fun d' h => by cases h; exact rfl)
          · intro a W hx hdf hsz hg hi K hK
            have G44 : a.tmps.getD 44 undef = .bool true := hg 44 (by kernel_rfl)
            refine step_guard rfl rfl (by have hz : a.tmps.size = 58 := hsz; omega) G44 (fun _ => ?_) (fun h => absurd rfl h)
            have t50 : a.tmps.getD 50 undef = .slice A xs.length c' := hg 50 (by kernel_rfl)
            have u50 := t50
            rw [Array.getD_eq_getD_getElem?] at u50
            simp [Oper.wp, Oper.upon, execOp, Act.eval, go_sem, t50, u50, hlt, hlt1, hge, hge1, hk12, hk0, hsub, hsub2]
            exact hK _ _ (Ext.rf _) (fun d' h => by cases h; exact rfl)
          · intro a W hx hdf hsz hg hi K hK
            have G44 : a.tmps.getD 44 undef = .bool true := hg 44 (by kernel_rfl)
            refine step_guard rfl rfl (by have hz : a.tmps.size = 58 := hsz; omega) G44 (fun _ => ?_) (fun h => absurd rfl h)
            have t49 : a.tmps.getD 49 undef = .int .i64 k := hg 49 (by kernel_rfl)
            have t51 : a.tmps.getD 51 undef = .int .i64 xs.length := hg 51 (by kernel_rfl)
            have u49 := t49
            rw [Array.getD_eq_getD_getElem?] at u49
            have u51 := t51
            rw [Array.getD_eq_getD_getElem?] at u51
            simp [Oper.wp, Oper.upon, execOp, Act.eval, go_sem, t49, u49, t51, u51, hlt, hlt1, hge, hge1, hk12, hk0, hsub, hsub2]
            exact hK _ _ (Ext.rf _) (fun d' h => by cases h; exact rfl)
          · intro a W hx hdf hsz hg hi K hK
            have G44 : a.tmps.getD 44 undef = .bool true := hg 44 (by kernel_rfl)
            refine step_guard rfl rfl (by have hz : a.tmps.size = 58 := hsz; omega) G44 (fun _ => ?_) (fun h => absurd rfl h)
            have t52 : a.tmps.getD 52 undef = .int .i64 ((k : Int) - xs.length) := hg 52 (by kernel_rfl)
            have u52 := t52
            rw [Array.getD_eq_getD_getElem?] at u52
            simp [Oper.wp, Oper.upon, execOp, Act.eval, go_sem, t52, u52]
            refine (markTerm_any ((k : Int) - xs.length) _ (by omega)).mono ?_
            rintro e w' ⟨hb, cs, rfl, hR⟩
            exact hK _ _ hb (fun d' h => by cases h; exact ⟨cs, rfl, monoC_term _ _ _ _ (frm_sub _ _) hR⟩)
          · intro a W hx hdf hsz hg hi K hK
            have G44 : a.tmps.getD 44 undef = .bool true := hg 44 (by kernel_rfl)
            refine step_guard rfl rfl (by have hz : a.tmps.size = 58 := hsz; omega) G44 (fun _ => ?_) (fun h => absurd rfl h)
            have t48 : a.tmps.getD 48 undef = .agg ca.toArray := hg 48 (by kernel_rfl)
            obtain ⟨cm, t53, hcm⟩ := (show ∃ cs : List Value, a.tmps.getD 53 undef = .agg cs.toArray ∧ RTerm W (mkTerm ((k : Int) - xs.length)) cs from hg 53 (by kernel_rfl))
            have u53 := t53
            rw [Array.getD_eq_getD_getElem?] at u53
            have u48 := t48
            rw [Array.getD_eq_getD_getElem?] at u48
            simp [Oper.wp, Oper.upon, execOp, Act.eval, go_sem, t53, u53, t48, u48]
            refine (sameTerm_any (mkTerm ((k : Int) - xs.length)) _ _ _ (mono_term _ _ _ _ hx Ra.out) hcm).mono ?_
            rintro e w' ⟨rfl, hb⟩
            exact hK _ _ hb (fun d' h => by cases h; exact rfl)
          · intro a W hx hdf hsz hg hi K hK
            have G44 : a.tmps.getD 44 undef = .bool true := hg 44 (by kernel_rfl)
            refine step_guard rfl rfl (by have hz : a.tmps.size = 58 := hsz; omega) G44 (fun _ => ?_) (fun h => absurd rfl h)
            have t54 : a.tmps.getD 54 undef = .bool true := hg 54 (by kernel_rfl)
            have u54 := t54
            rw [Array.getD_eq_getD_getElem?] at u54
            simp [Oper.wp, Oper.upon, execOp, Act.eval, go_sem, t54, u54, hlt, hlt1, hge, hge1, hk12, hk0, hsub, hsub2]
            exact hK _ _ (Ext.rf _) (fun d' h => by cases h; exact rfl)
          · intro a W hx hdf hsz hg hi K hK
            have G39 : a.tmps.getD 39 undef = .bool false := hg 39 (by kernel_rfl)
            refine step_guard rfl rfl (by have hz : a.tmps.size = 58 := hsz; omega) G39 (fun _ => ?_) (fun h => absurd rfl h)
            have t44 : a.tmps.getD 44 undef = .bool true := hg 44 (by kernel_rfl)
            have t55 : a.tmps.getD 55 undef = .bool false := hg 55 (by kernel_rfl)
            have u44 := t44
            rw [Array.getD_eq_getD_getElem?] at u44
            have u55 := t55
            rw [Array.getD_eq_getD_getElem?] at u55
            simp [Oper.wp, Oper.upon, execOp, Act.eval, go_sem, t44, u44, t55, u55, hlt, hlt1, hge, hge1, hk12, hk0, hsub, hsub2]
            exact hK _ _ (Ext.rf _) (fun d' h => by cases h; exact rfl)
          · intro a W hx hdf hsz hg hi K hK
            refine step_free rfl ?_
            have t39 : a.tmps.getD 39 undef = .bool false := hg 39 (by kernel_rfl)
            have t56 : a.tmps.getD 56 undef = .bool false := hg 56 (by kernel_rfl)
            have u39 := t39
            rw [Array.getD_eq_getD_getElem?] at u39
            have u56 := t56
            rw [Array.getD_eq_getD_getElem?] at u56
            simp [Oper.wp, Oper.upon, execOp, Act.eval, go_sem, t39, u39, t56, u56, hlt, hlt1, hge, hge1, hk12, hk0, hsub, hsub2]
            exact hK _ _ (Ext.rf _) (fun d' h => by cases h; exact rfl)
        · rintro ⟨T, D⟩ w7 hx7 hdf hsz hg hi
          have h57 : T.getD 57 undef = .bool false := hg 57 (by kernel_rfl)
          obtain ⟨f, hf, hT⟩ := frame_slots T 58 hsz
          have f57 := (hf 57).symm.trans h57
          have f0 : f 0 = .slice (some ⟨b, 0, none⟩) xs.length c := (hf 0).symm.trans (hi 0 (by kernel_rfl))
          have f1 : f 1 = .slice A xs.length c' := (hf 1).symm.trans (hi 1 (by kernel_rfl))
          have f2 : f 2 = undef := (hf 2).symm.trans (hi 2 (by kernel_rfl))
          have f3 : f 3 = undef := (hf 3).symm.trans (hi 3 (by kernel_rfl))
          have f5 : f 5 = .slice (some ⟨b, 0, none⟩) (xs.length + 12) c := (hf 5).symm.trans (hi 5 (by kernel_rfl))
          have f6 : f 6 = .int .i64 k := (hf 6).symm.trans (hi 6 (by kernel_rfl))
          have f7 : f 7 = .slice (some ⟨b, 0, none⟩) xs.length c := (hf 7).symm.trans (hi 7 (by kernel_rfl))
          have f8 : f 8 = .int .i64 xs.length := (hf 8).symm.trans (hi 8 (by kernel_rfl))
          have f9 : f 9 = .slice A xs.length c' := (hf 9).symm.trans (hi 9 (by kernel_rfl))
          have f10 : f 10 = .int .i64 xs.length := (hf 10).symm.trans (hi 10 (by kernel_rfl))
          have f11 : f 11 = .bool false := (hf 11).symm.trans (hi 11 (by kernel_rfl))
          have f12 : f 12 = .slice (some ⟨b, 0, none⟩) xs.length c := (hf 12).symm.trans (hi 12 (by kernel_rfl))
          have f13 : f 13 = .slice A xs.length c' := (hf 13).symm.trans (hi 13 (by kernel_rfl))
          have f14 : f 14 = .int .i64 xs.length := (hf 14).symm.trans (hi 14 (by kernel_rfl))
          have f15 : f 15 = .int .i64 (xs.length + 12) := (hf 15).symm.trans (hi 15 (by kernel_rfl))
          have f16 : f 16 = .slice (some ⟨b, 0, none⟩) (xs.length + 12) c := (hf 16).symm.trans (hi 16 (by kernel_rfl))
          have hD : D = [] := hdf
          clear hf hi hg hsz hdf h57
          subst hT hD
          simp only [slots, Nat.reduceAdd, f57, f0, f1, f2, f3, f5, f6, f7, f8, f9, f10, f11, f12, f13, f14, f15, f16]
          go_wp2_with fail
          exact ⟨⟨k + 1, by omega, by go_num, hx0.tr hx7⟩, by simp only [intOf]; omega⟩
      · obtain rfl : k = xs.length + 12 := by omega
        go_wp2_with fail
        go_ret
        exact ⟨rfl, hx0⟩
set_option maxRecDepth 100000 in
set_option maxHeartbeats 1000000 in
theorem keptTerm_step (k n a : Int) (ls : List Level) (ks : List Term) (ih : ∀ t ∈ ks, KeptTermP t) : KeptTermP (.mk k n a ls ks) := by
  intro ca cb w ha hb
  have IH := hid ih
  clear ih
  have HA := hid ha
  have HB := hid hb
  obtain ⟨vl, vk, rfl, _, hl, hk⟩ := rlterm_iff.1 ha
  obtain ⟨vl', vk', rfl, _, hl', hk'⟩ := rterm_iff.1 hb
  obtain ⟨b1, c1, rfl, _⟩ := id hl
  obtain ⟨b2, c2, rfl, _⟩ := id hk
  obtain ⟨A1, d1, rfl, _⟩ := id hl'
  obtain ⟨A2, d2, rfl, _⟩ := id hk'
  have hx0 : Ext w _ := ((Ext.rf w).al (.cells #[.int .i64 k, .int .i64 n, .int .i64 a, .slice (some ⟨b1, 0, none⟩) ls.length c1, .slice (some ⟨b2, 0, none⟩) ks.length c2] 27)).al (.cells #[.int .i64 k, .int .i64 n, .int .i64 a, .slice A1 ls.length d1, .slice A2 ks.length d2] 27)
  have HX := hid hx0
  clear hx0 ha hb
  go_enter Tryz.func12, Tryz.ntmps12
  go_wp2_with fail
  refine (sameTerm_any _ _ _ _ (mono_term _ _ _ _ HX.out (rl_term _ HA.out)) (mono_term _ _ _ _ HX.out HB.out)).mono ?_
  rintro e w1 ⟨rfl, hx⟩
  have q3 : w1.cell? ⟨w.heap.size, 3, none⟩ = some (.slice (some ⟨b1, 0, none⟩) ls.length c1) := hx.cell (by simp [go_sem])
  have q4 : w1.cell? ⟨w.heap.size, 4, none⟩ = some (.slice (some ⟨b2, 0, none⟩) ks.length c2) := hx.cell (by simp [go_sem])
  have r3 : w1.cell? ⟨w.heap.size + 1, 3, none⟩ = some (.slice A1 ls.length d1) := hx.cell (by simp [go_sem])
  have r4 : w1.cell? ⟨w.heap.size + 1, 4, none⟩ = some (.slice A2 ks.length d2) := hx.cell (by simp [go_sem])
  have hx1 := hid (HX.out.tr hx)
  go_wp2_with fail
  refine (keptLevels_any ls _ _ _ (hl.sub monoC_llevel monoC_level hx1.out.sub) (hl'.ext mono_level hx1.out)).mono ?_
  rintro e w2 ⟨rfl, hx2⟩
  have s4 := hx2.cell q4
  have t4 := hx2.cell r4
  have hx3 := hid (hx1.out.tr hx2)
  clear q3 q4 r3 r4
  go_wp2_with fail
  refine (keptTerms_of ks _ _ _ IH.out (hk.sub monoC_lterm monoC_term hx3.out.sub) (hk'.ext mono_term hx3.out)).mono ?_
  rintro e w4 ⟨rfl, hx4⟩
  go_wp2_with fail
  go_ret
  exact ⟨rfl, hx3.out.tr hx4⟩
theorem keptTerm_any (t : Term) : KeptTermP t := Term.ind (fun k n a ls ks ih => keptTerm_step k n a ls ks ih) t
theorem keptTerms_any (xs : List Term) (vo vl : Value) (w : World) (ho : LSlTerm w xs vo) (hl : SlTerm w xs vl) : Calls Tryz.prog 32 #[vo, vl] w fun e w' => e = .returned (.bool true) ∧ Ext w w' := keptTerms_of xs vo vl w (fun t _ => keptTerm_any t) ho hl
set_option maxRecDepth 100000 in
set_option maxHeartbeats 1000000 in
theorem keptMember_any (x : Member) (ca cb : List Value) (w : World) (ha : RLMember w x ca) (hb : RMember w x cb) : Calls Tryz.prog 100 #[.agg ca.toArray, .agg cb.toArray] w fun e w' => e = .returned (.bool true) ∧ Ext w w' := by
  have HA := hid ha
  have HB := hid hb
  obtain ⟨v, rfl, hs⟩ := ha
  obtain ⟨v', rfl, hs'⟩ := hb
  obtain ⟨b, c, rfl, _⟩ := id hs
  obtain ⟨A, c', rfl, _⟩ := id hs'
  have hx0 : Ext w _ := ((Ext.rf w).al (.cells #[.slice (some ⟨b, 0, none⟩) x.index.length c] 71)).al (.cells #[.slice A x.index.length c'] 71)
  have HX := hid hx0
  clear hx0
  go_enter Tryz.func100, Tryz.ntmps100
  go_wp2_with fail
  refine (sameMember_any x _ _ _ (mono_member _ _ _ _ HX.out (rl_member HA.out)) (mono_member _ _ _ _ HX.out HB.out)).mono ?_
  rintro e w1 ⟨rfl, hx⟩
  have q0 : w1.cell? ⟨w.heap.size, 0, none⟩ = some (.slice (some ⟨b, 0, none⟩) x.index.length c) := hx.cell (by simp [go_sem])
  have r0 : w1.cell? ⟨w.heap.size + 1, 0, none⟩ = some (.slice A x.index.length c') := hx.cell (by simp [go_sem])
  have hx1 := hid (HX.out.tr hx)
  go_wp2_with fail
  refine (keptTerms_any x.index _ _ _ (hs.sub monoC_lterm monoC_term hx1.out.sub) (hs'.ext mono_term hx1.out)).mono ?_
  rintro e w2 ⟨rfl, hx2⟩
  go_wp2_with fail
  go_ret
  exact ⟨rfl, hx1.out.tr hx2⟩
set_option maxRecDepth 100000 in
set_option maxHeartbeats 4000000 in
theorem keptMembers_any (xs : List Member) (vo vl : Value) (w : World) (ho : LSl RLMember RMember mkMember 1 24 w xs vo) (hl : Sl RMember 1 24 w xs vl) : Calls Tryz.prog 65 #[vo, vl] w fun e w' => e = .returned (.bool true) ∧ Ext w w' := by
  obtain ⟨b, c, rfl, hc, -, hel, hmk⟩ := ho
  obtain ⟨A, c', rfl, hc', hr⟩ := hl
  have hln := hr.len_le
  have hcap : c ≤ 9223372036854775807 ∨ True := .inr trivial
  have Hel := hid hel
  have Hmk := hid hmk
  clear hel hmk hcap
  go_enter Tryz.func65, Tryz.ntmps65
  go_wp2_with fail
  go_loopw [6] (fun i wr => ∃ k : Nat, k ≤ xs.length + 12 ∧ i = .int .i64 k ∧ Ext w wr) (fun i _ => xs.length + 12 - (intOf i).toNat)
  case atStart => exact ⟨0, by omega, rfl, Ext.rf _⟩
  case round =>
    obtain ⟨k, hk, rfl, hx0⟩ := hrel
    obtain ⟨wr, rfl⟩ := ext_name2 hx0
    have hu := Tryz.underlying71
    have hk0 : (0 : Int) ≤ (k : Int) := by omega
    by_cases hlt : k < xs.length
    · obtain ⟨ca, hRa, hca0⟩ := Hel.out k xs[k] (List.getElem?_eq_getElem hlt)
      obtain ⟨b2, o2, cb, rfl, hRb, hcb0⟩ := hr.at_ hlt
      have hca := hca0.ext hx0
      have hcb := hcb0.ext hx0
      rw [Nat.mul_one] at hca hcb
      have Ra := hid (monoC_lmember _ _ _ _ hx0.sub hRa)
      have Rb := hid (mono_member _ _ _ _ hx0 hRb)
      have hi1 : (Tryz.prog.info? 71).map (·.size) = some ca.length := by rw [rlmember_len hRa]; kernel_rfl
      have hi2 : (Tryz.prog.info? 71).map (·.size) = some cb.length := by rw [rmember_len hRb]; kernel_rfl
      have hlt1 : (k : Int) < (xs.length : Int) := by omega
      have hge : ¬ xs.length ≤ k := by omega
      have hge1 : ¬ (xs.length : Int) ≤ (k : Int) := by omega
      have hk12 : (k : Int) < (xs.length : Int) + 12 := by omega
      clear hca0 hcb0 hRa hRb
      go_wp2_with fail
      refine wp_region_steps (fun s W v => match s with | 23 => v = .int .i64 k | 24 => v = .slice (some ⟨b2, o2, none⟩) xs.length c' | 25 => v = .int .i64 xs.length | 26 => v = .bool true | 27 => v = .bool true | 28 => v = .slice (some ⟨b, 0, none⟩) (xs.length + 12) c | 29 => v = .int .i64 k | 30 => v = .pointer (some ⟨b, k, none⟩) | 31 => v = .agg ca.toArray | 32 => v = .slice (some ⟨b2, o2, none⟩) xs.length c' | 33 => v = .int .i64 k | 34 => v = .pointer (some ⟨b2, o2 + k, none⟩) | 35 => v = .agg cb.toArray | 36 => v = .bool true | 37 => v = .bool false | 38 => v = .bool false | 39 => v = .bool false | 40 => v = .int .i64 k | 41 => v = .slice (some ⟨b2, o2, none⟩) xs.length c' | 42 => v = .int .i64 xs.length | 43 => v = .bool false | 44 => v = .bool false | 45 => v = undef | 46 => v = undef | 47 => v = undef | 48 => v = undef | 49 => v = undef | 50 => v = undef | 51 => v = undef | 52 => v = undef | 53 => v = undef | 54 => v = undef | 55 => v = undef | 56 => v = .bool false | 57 => v = .bool false | _ => True) (by kernel_rfl) (by kernel_rfl) (of_decide_eq_true (by kernel_rfl)) (by kernel_rfl) (fun s W W' v _ h => h) ?_ ?_
      · refine ⟨?_, ?_, ?_, ?_, ?_, ?_, ?_, ?_, ?_, ?_, ?_, ?_, ?_, ?_, ?_, ?_, ?_, ?_, ?_, ?_, ?_, ?_, ?_, ?_, ?_, ?_, ?_, ?_, ?_, ?_, ?_, ?_, ?_, ?_, ?_, trivial⟩
        · intro a W hx hdf hsz hg hi K hK
          refine step_free rfl ?_
          have t6 : a.tmps.getD 6 undef = .int .i64 k := hi 6 (by kernel_rfl)
          have u6 := t6
          rw [Array.getD_eq_getD_getElem?] at u6
          simp [Oper.wp, Oper.upon, execOp, Act.eval, go_sem, t6, u6, hlt, hlt1, hge, hge1, hk12, hk0]
          exact hK _ _ (Ext.rf _) (fun d' h => by cases h; exact rfl)
        · intro a W hx hdf hsz hg hi K hK
          refine step_free rfl ?_
          have t1 : a.tmps.getD 1 undef = .slice (some ⟨b2, o2, none⟩) xs.length c' := hi 1 (by kernel_rfl)
          have u1 := t1
          rw [Array.getD_eq_getD_getElem?] at u1
          simp [Oper.wp, Oper.upon, execOp, Act.eval, go_sem, t1, u1, hlt, hlt1, hge, hge1, hk12, hk0]
          exact hK _ _ (Ext.rf _) (fun d' h => by cases h; exact rfl)
        · intro a W hx hdf hsz hg hi K hK
          refine step_free rfl ?_
          have t24 : a.tmps.getD 24 undef = .slice (some ⟨b2, o2, none⟩) xs.length c' := hg 24 (by kernel_rfl)
          have u24 := t24
          rw [Array.getD_eq_getD_getElem?] at u24
          simp [Oper.wp, Oper.upon, execOp, Act.eval, go_sem, t24, u24, hlt, hlt1, hge, hge1, hk12, hk0]
          exact hK _ _ (Ext.rf _) (fun d' h => by cases h; exact rfl)
        · intro a W hx hdf hsz hg hi K hK
          refine step_free rfl ?_
          have t23 : a.tmps.getD 23 undef = .int .i64 k := hg 23 (by kernel_rfl)
          have t25 : a.tmps.getD 25 undef = .int .i64 xs.length := hg 25 (by kernel_rfl)
          have u23 := t23
          rw [Array.getD_eq_getD_getElem?] at u23
          have u25 := t25
          rw [Array.getD_eq_getD_getElem?] at u25
          simp [Oper.wp, Oper.upon, execOp, Act.eval, go_sem, t23, u23, t25, u25, hlt, hlt1, hge, hge1, hk12, hk0]
          exact hK _ _ (Ext.rf _) (fun d' h => by cases h; exact rfl)
        · intro a W hx hdf hsz hg hi K hK
          refine step_free rfl ?_
          have t26 : a.tmps.getD 26 undef = .bool true := hg 26 (by kernel_rfl)
          have u26 := t26
          rw [Array.getD_eq_getD_getElem?] at u26
          simp [Oper.wp, Oper.upon, execOp, Act.eval, go_sem, t26, u26, hlt, hlt1, hge, hge1, hk12, hk0]
          exact hK _ _ (Ext.rf _) (fun d' h => by cases h; exact rfl)
        · intro a W hx hdf hsz hg hi K hK
          have G27 : a.tmps.getD 27 undef = .bool true := hg 27 (by kernel_rfl)
          refine step_guard rfl rfl (by have hz : a.tmps.size = 58 := hsz; omega) G27 (fun _ => ?_) (fun h => absurd rfl h)
          have t5 : a.tmps.getD 5 undef = .slice (some ⟨b, 0, none⟩) (xs.length + 12) c := hi 5 (by kernel_rfl)
          have u5 := t5
          rw [Array.getD_eq_getD_getElem?] at u5
          simp [Oper.wp, Oper.upon, execOp, Act.eval, go_sem, t5, u5, hlt, hlt1, hge, hge1, hk12, hk0]
          exact hK _ _ (Ext.rf _) (fun d' h => by cases h; exact rfl)
        · intro a W hx hdf hsz hg hi K hK
          have G27 : a.tmps.getD 27 undef = .bool true := hg 27 (by kernel_rfl)
          refine step_guard rfl rfl (by have hz : a.tmps.size = 58 := hsz; omega) G27 (fun _ => ?_) (fun h => absurd rfl h)
          have t6 : a.tmps.getD 6 undef = .int .i64 k := hi 6 (by kernel_rfl)
          have u6 := t6
          rw [Array.getD_eq_getD_getElem?] at u6
          simp [Oper.wp, Oper.upon, execOp, Act.eval, go_sem, t6, u6, hlt, hlt1, hge, hge1, hk12, hk0]
          exact hK _ _ (Ext.rf _) (fun d' h => by cases h; exact rfl)
        · intro a W hx hdf hsz hg hi K hK
          have G27 : a.tmps.getD 27 undef = .bool true := hg 27 (by kernel_rfl)
          refine step_guard rfl rfl (by have hz : a.tmps.size = 58 := hsz; omega) G27 (fun _ => ?_) (fun h => absurd rfl h)
          have t28 : a.tmps.getD 28 undef = .slice (some ⟨b, 0, none⟩) (xs.length + 12) c := hg 28 (by kernel_rfl)
          have t29 : a.tmps.getD 29 undef = .int .i64 k := hg 29 (by kernel_rfl)
          have u28 := t28
          rw [Array.getD_eq_getD_getElem?] at u28
          have u29 := t29
          rw [Array.getD_eq_getD_getElem?] at u29
          simp [Oper.wp, Oper.upon, execOp, Act.eval, go_sem, t28, u28, t29, u29, hlt, hlt1, hge, hge1, hk12, hk0]
          exact hK _ _ (Ext.rf _) (fun d' h => by cases h; exact rfl)
        · intro a W hx hdf hsz hg hi K hK
          have G27 : a.tmps.getD 27 undef = .bool true := hg 27 (by kernel_rfl)
          refine step_guard rfl rfl (by have hz : a.tmps.size = 58 := hsz; omega) G27 (fun _ => ?_) (fun h => absurd rfl h)
          have t30 : a.tmps.getD 30 undef = .pointer (some ⟨b, k, none⟩) := hg 30 (by kernel_rfl)
          have u30 := t30
          rw [Array.getD_eq_getD_getElem?] at u30
          refine wp_load_mid 71 (.tmp 30) rfl b (k) t30 ca _ (hca.ext hx) hu rfl hi1 ?_
          exact hK _ _ (Ext.rf _) (fun d' h => by cases h; exact rfl)
        · intro a W hx hdf hsz hg hi K hK
          have G27 : a.tmps.getD 27 undef = .bool true := hg 27 (by kernel_rfl)
          refine step_guard rfl rfl (by have hz : a.tmps.size = 58 := hsz; omega) G27 (fun _ => ?_) (fun h => absurd rfl h)
          have t1 : a.tmps.getD 1 undef = .slice (some ⟨b2, o2, none⟩) xs.length c' := hi 1 (by kernel_rfl)
          have u1 := t1
          rw [Array.getD_eq_getD_getElem?] at u1
          simp [Oper.wp, Oper.upon, execOp, Act.eval, go_sem, t1, u1, hlt, hlt1, hge, hge1, hk12, hk0]
          exact hK _ _ (Ext.rf _) (fun d' h => by cases h; exact rfl)
        · intro a W hx hdf hsz hg hi K hK
          have G27 : a.tmps.getD 27 undef = .bool true := hg 27 (by kernel_rfl)
          refine step_guard rfl rfl (by have hz : a.tmps.size = 58 := hsz; omega) G27 (fun _ => ?_) (fun h => absurd rfl h)
          have t6 : a.tmps.getD 6 undef = .int .i64 k := hi 6 (by kernel_rfl)
          have u6 := t6
          rw [Array.getD_eq_getD_getElem?] at u6
          simp [Oper.wp, Oper.upon, execOp, Act.eval, go_sem, t6, u6, hlt, hlt1, hge, hge1, hk12, hk0]
          exact hK _ _ (Ext.rf _) (fun d' h => by cases h; exact rfl)
        · intro a W hx hdf hsz hg hi K hK
          have G27 : a.tmps.getD 27 undef = .bool true := hg 27 (by kernel_rfl)
          refine step_guard rfl rfl (by have hz : a.tmps.size = 58 := hsz; omega) G27 (fun _ => ?_) (fun h => absurd rfl h)
          have t32 : a.tmps.getD 32 undef = .slice (some ⟨b2, o2, none⟩) xs.length c' := hg 32 (by kernel_rfl)
          have t33 : a.tmps.getD 33 undef = .int .i64 k := hg 33 (by kernel_rfl)
          have u32 := t32
          rw [Array.getD_eq_getD_getElem?] at u32
          have u33 := t33
          rw [Array.getD_eq_getD_getElem?] at u33
          simp [Oper.wp, Oper.upon, execOp, Act.eval, go_sem, t32, u32, t33, u33, hlt, hlt1, hge, hge1, hk12, hk0]
          exact hK _ _ (Ext.rf _) (fun d' h => by cases h; exact rfl)
        · intro a W hx hdf hsz hg hi K hK
          have G27 : a.tmps.getD 27 undef = .bool true := hg 27 (by kernel_rfl)
          refine step_guard rfl rfl (by have hz : a.tmps.size = 58 := hsz; omega) G27 (fun _ => ?_) (fun h => absurd rfl h)
          have t34 : a.tmps.getD 34 undef = .pointer (some ⟨b2, o2 + k, none⟩) := hg 34 (by kernel_rfl)
          have u34 := t34
          rw [Array.getD_eq_getD_getElem?] at u34
          refine wp_load_mid 71 (.tmp 34) rfl b2 (o2 + k) t34 cb _ (hcb.ext hx) hu rfl hi2 ?_
          exact hK _ _ (Ext.rf _) (fun d' h => by cases h; exact rfl)
        · intro a W hx hdf hsz hg hi K hK
          have G27 : a.tmps.getD 27 undef = .bool true := hg 27 (by kernel_rfl)
          refine step_guard rfl rfl (by have hz : a.tmps.size = 58 := hsz; omega) G27 (fun _ => ?_) (fun h => absurd rfl h)
          have t31 : a.tmps.getD 31 undef = .agg ca.toArray := hg 31 (by kernel_rfl)
          have t35 : a.tmps.getD 35 undef = .agg cb.toArray := hg 35 (by kernel_rfl)
          have u31 := t31
          rw [Array.getD_eq_getD_getElem?] at u31
          have u35 := t35
          rw [Array.getD_eq_getD_getElem?] at u35
          simp [Oper.wp, Oper.upon, execOp, Act.eval, go_sem, t31, u31, t35, u35]
          refine (keptMember_any xs[k] _ _ _ (monoC_lmember _ _ _ _ hx.sub Ra.out) (mono_member _ _ _ _ hx Rb.out)).mono ?_
          rintro e w' ⟨rfl, hb⟩
          exact hK _ _ hb (fun d' h => by cases h; exact rfl)
        · intro a W hx hdf hsz hg hi K hK
          have G27 : a.tmps.getD 27 undef = .bool true := hg 27 (by kernel_rfl)
          refine step_guard rfl rfl (by have hz : a.tmps.size = 58 := hsz; omega) G27 (fun _ => ?_) (fun h => absurd rfl h)
          have t36 : a.tmps.getD 36 undef = .bool true := hg 36 (by kernel_rfl)
          have u36 := t36
          rw [Array.getD_eq_getD_getElem?] at u36
          simp [Oper.wp, Oper.upon, execOp, Act.eval, go_sem, t36, u36, hlt, hlt1, hge, hge1, hk12, hk0]
          exact hK _ _ (Ext.rf _) (fun d' h => by cases h; exact rfl)
        · intro a W hx hdf hsz hg hi K hK
          refine step_free rfl ?_
          have t27 : a.tmps.getD 27 undef = .bool true := hg 27 (by kernel_rfl)
          have t37 : a.tmps.getD 37 undef = .bool false := hg 37 (by kernel_rfl)
          have u27 := t27
          rw [Array.getD_eq_getD_getElem?] at u27
          have u37 := t37
          rw [Array.getD_eq_getD_getElem?] at u37
          simp [Oper.wp, Oper.upon, execOp, Act.eval, go_sem, t27, u27, t37, u37, hlt, hlt1, hge, hge1, hk12, hk0]
          exact hK _ _ (Ext.rf _) (fun d' h => by cases h; exact rfl)
        · intro a W hx hdf hsz hg hi K hK
          refine step_free rfl ?_
          have t38 : a.tmps.getD 38 undef = .bool false := hg 38 (by kernel_rfl)
          have u38 := t38
          rw [Array.getD_eq_getD_getElem?] at u38
          simp [Oper.wp, Oper.upon, execOp, Act.eval, go_sem, t38, u38, hlt, hlt1, hge, hge1, hk12, hk0]
          exact hK _ _ (Ext.rf _) (fun d' h => by cases h; exact rfl)
        · intro a W hx hdf hsz hg hi K hK
          have G39 : a.tmps.getD 39 undef = .bool false := hg 39 (by kernel_rfl)
          refine step_guard rfl rfl (by have hz : a.tmps.size = 58 := hsz; omega) G39 (fun _ => ?_) (fun h => absurd rfl h)
          have t6 : a.tmps.getD 6 undef = .int .i64 k := hi 6 (by kernel_rfl)
          have u6 := t6
          rw [Array.getD_eq_getD_getElem?] at u6
          simp [Oper.wp, Oper.upon, execOp, Act.eval, go_sem, t6, u6, hlt, hlt1, hge, hge1, hk12, hk0]
          exact hK _ _ (Ext.rf _) (fun d' h => by cases h; exact rfl)
        · intro a W hx hdf hsz hg hi K hK
          have G39 : a.tmps.getD 39 undef = .bool false := hg 39 (by kernel_rfl)
          refine step_guard rfl rfl (by have hz : a.tmps.size = 58 := hsz; omega) G39 (fun _ => ?_) (fun h => absurd rfl h)
          have t1 : a.tmps.getD 1 undef = .slice (some ⟨b2, o2, none⟩) xs.length c' := hi 1 (by kernel_rfl)
          have u1 := t1
          rw [Array.getD_eq_getD_getElem?] at u1
          simp [Oper.wp, Oper.upon, execOp, Act.eval, go_sem, t1, u1, hlt, hlt1, hge, hge1, hk12, hk0]
          exact hK _ _ (Ext.rf _) (fun d' h => by cases h; exact rfl)
        · intro a W hx hdf hsz hg hi K hK
          have G39 : a.tmps.getD 39 undef = .bool false := hg 39 (by kernel_rfl)
          refine step_guard rfl rfl (by have hz : a.tmps.size = 58 := hsz; omega) G39 (fun _ => ?_) (fun h => absurd rfl h)
          have t41 : a.tmps.getD 41 undef = .slice (some ⟨b2, o2, none⟩) xs.length c' := hg 41 (by kernel_rfl)
          have u41 := t41
          rw [Array.getD_eq_getD_getElem?] at u41
          simp [Oper.wp, Oper.upon, execOp, Act.eval, go_sem, t41, u41, hlt, hlt1, hge, hge1, hk12, hk0]
          exact hK _ _ (Ext.rf _) (fun d' h => by cases h; exact rfl)
        · intro a W hx hdf hsz hg hi K hK
          have G39 : a.tmps.getD 39 undef = .bool false := hg 39 (by kernel_rfl)
          refine step_guard rfl rfl (by have hz : a.tmps.size = 58 := hsz; omega) G39 (fun _ => ?_) (fun h => absurd rfl h)
          have t40 : a.tmps.getD 40 undef = .int .i64 k := hg 40 (by kernel_rfl)
          have t42 : a.tmps.getD 42 undef = .int .i64 xs.length := hg 42 (by kernel_rfl)
          have u40 := t40
          rw [Array.getD_eq_getD_getElem?] at u40
          have u42 := t42
          rw [Array.getD_eq_getD_getElem?] at u42
          simp [Oper.wp, Oper.upon, execOp, Act.eval, go_sem, t40, u40, t42, u42, hlt, hlt1, hge, hge1, hk12, hk0]
          exact hK _ _ (Ext.rf _) (fun d' h => by cases h; exact rfl)
        · intro a W hx hdf hsz hg hi K hK
          have G39 : a.tmps.getD 39 undef = .bool false := hg 39 (by kernel_rfl)
          refine step_guard rfl rfl (by have hz : a.tmps.size = 58 := hsz; omega) G39 (fun _ => ?_) (fun h => absurd rfl h)
          have t43 : a.tmps.getD 43 undef = .bool false := hg 43 (by kernel_rfl)
          have u43 := t43
          rw [Array.getD_eq_getD_getElem?] at u43
          simp [Oper.wp, Oper.upon, execOp, Act.eval, go_sem, t43, u43, hlt, hlt1, hge, hge1, hk12, hk0]
          exact hK _ _ (Ext.rf _) (fun d' h => by cases h; exact rfl)
        · intro a W hx hdf hsz hg hi K hK
          have G44 : a.tmps.getD 44 undef = .bool false := hg 44 (by kernel_rfl)
          exact step_guard rfl rfl (by have hz : a.tmps.size = 58 := hsz; omega) G44 (fun h => by cases h) (fun _ => hK _ _ (Ext.rf _) (fun d' h => by cases h; exact rfl))
        · intro a W hx hdf hsz hg hi K hK
          have G44 : a.tmps.getD 44 undef = .bool false := hg 44 (by kernel_rfl)
          exact step_guard rfl rfl (by have hz : a.tmps.size = 58 := hsz; omega) G44 (fun h => by cases h) (fun _ => hK _ _ (Ext.rf _) (fun d' h => by cases h; exact rfl))
        · intro a W hx hdf hsz hg hi K hK
          have G44 : a.tmps.getD 44 undef = .bool false := hg 44 (by kernel_rfl)
          exact step_guard rfl rfl (by have hz : a.tmps.size = 58 := hsz; omega) G44 (fun h => by cases h) (fun _ => hK _ _ (Ext.rf _) (fun d' h => by cases h; exact rfl))
        · intro a W hx hdf hsz hg hi K hK
          have G44 : a.tmps.getD 44 undef = .bool false := hg 44 (by kernel_rfl)
          exact step_guard rfl rfl (by have hz : a.tmps.size = 58 := hsz; omega) G44 (fun h => by cases h) (fun _ => hK _ _ (Ext.rf _) (fun d' h => by cases h; exact rfl))
        · intro a W hx hdf hsz hg hi K hK
          have G44 : a.tmps.getD 44 undef = .bool false := hg 44 (by kernel_rfl)
          exact step_guard rfl rfl (by have hz : a.tmps.size = 58 := hsz; omega) G44 (fun h => by cases h) (fun _ => hK _ _ (Ext.rf _) (fun d' h => by cases h; exact rfl))
        · intro a W hx hdf hsz hg hi K hK
          have G44 : a.tmps.getD 44 undef = .bool false := hg 44 (by kernel_rfl)
          exact step_guard rfl rfl (by have hz : a.tmps.size = 58 := hsz; omega) G44 (fun h => by cases h) (fun _ => hK _ _ (Ext.rf _) (fun d' h => by cases h; exact rfl))
        · intro a W hx hdf hsz hg hi K hK
          have G44 : a.tmps.getD 44 undef = .bool false := hg 44 (by kernel_rfl)
          exact step_guard rfl rfl (by have hz : a.tmps.size = 58 := hsz; omega) G44 (fun h => by cases h) (fun _ => hK _ _ (Ext.rf _) (fun d' h => by cases h; exact rfl))
        · intro a W hx hdf hsz hg hi K hK
          have G44 : a.tmps.getD 44 undef = .bool false := hg 44 (by kernel_rfl)
          exact step_guard rfl rfl (by have hz : a.tmps.size = 58 := hsz; omega) G44 (fun h => by cases h) (fun _ => hK _ _ (Ext.rf _) (fun d' h => by cases h; exact rfl))
        · intro a W hx hdf hsz hg hi K hK
          have G44 : a.tmps.getD 44 undef = .bool false := hg 44 (by kernel_rfl)
          exact step_guard rfl rfl (by have hz : a.tmps.size = 58 := hsz; omega) G44 (fun h => by cases h) (fun _ => hK _ _ (Ext.rf _) (fun d' h => by cases h; exact rfl))
        · intro a W hx hdf hsz hg hi K hK
          have G44 : a.tmps.getD 44 undef = .bool false := hg 44 (by kernel_rfl)
          exact step_guard rfl rfl (by have hz : a.tmps.size = 58 := hsz; omega) G44 (fun h => by cases h) (fun _ => hK _ _ (Ext.rf _) (fun d' h => by cases h; exact rfl))
        · intro a W hx hdf hsz hg hi K hK
          have G44 : a.tmps.getD 44 undef = .bool false := hg 44 (by kernel_rfl)
          exact step_guard rfl rfl (by have hz : a.tmps.size = 58 := hsz; omega) G44 (fun h => by cases h) (fun _ => hK _ _ (Ext.rf _) (fun d' h => by cases h; exact rfl))
        · intro a W hx hdf hsz hg hi K hK
          have G39 : a.tmps.getD 39 undef = .bool false := hg 39 (by kernel_rfl)
          refine step_guard rfl rfl (by have hz : a.tmps.size = 58 := hsz; omega) G39 (fun _ => ?_) (fun h => absurd rfl h)
          have t44 : a.tmps.getD 44 undef = .bool false := hg 44 (by kernel_rfl)
          have t55 : a.tmps.getD 55 undef = undef := hg 55 (by kernel_rfl)
          have u44 := t44
          rw [Array.getD_eq_getD_getElem?] at u44
          have u55 := t55
          rw [Array.getD_eq_getD_getElem?] at u55
          simp [Oper.wp, Oper.upon, execOp, Act.eval, go_sem, t44, u44, t55, u55, hlt, hlt1, hge, hge1, hk12, hk0]
          exact hK _ _ (Ext.rf _) (fun d' h => by cases h; exact rfl)
        · intro a W hx hdf hsz hg hi K hK
          refine step_free rfl ?_
          have t39 : a.tmps.getD 39 undef = .bool false := hg 39 (by kernel_rfl)
          have t56 : a.tmps.getD 56 undef = .bool false := hg 56 (by kernel_rfl)
          have u39 := t39
          rw [Array.getD_eq_getD_getElem?] at u39
          have u56 := t56
          rw [Array.getD_eq_getD_getElem?] at u56
          simp [Oper.wp, Oper.upon, execOp, Act.eval, go_sem, t39, u39, t56, u56, hlt, hlt1, hge, hge1, hk12, hk0]
          exact hK _ _ (Ext.rf _) (fun d' h => by cases h; exact rfl)
      · rintro ⟨T, D⟩ w7 hx7 hdf hsz hg hi
        have h57 : T.getD 57 undef = .bool false := hg 57 (by kernel_rfl)
        obtain ⟨f, hf, hT⟩ := frame_slots T 58 hsz
        have f57 := (hf 57).symm.trans h57
        have f0 : f 0 = .slice (some ⟨b, 0, none⟩) xs.length c := (hf 0).symm.trans (hi 0 (by kernel_rfl))
        have f1 : f 1 = .slice (some ⟨b2, o2, none⟩) xs.length c' := (hf 1).symm.trans (hi 1 (by kernel_rfl))
        have f2 : f 2 = undef := (hf 2).symm.trans (hi 2 (by kernel_rfl))
        have f3 : f 3 = undef := (hf 3).symm.trans (hi 3 (by kernel_rfl))
        have f5 : f 5 = .slice (some ⟨b, 0, none⟩) (xs.length + 12) c := (hf 5).symm.trans (hi 5 (by kernel_rfl))
        have f6 : f 6 = .int .i64 k := (hf 6).symm.trans (hi 6 (by kernel_rfl))
        have f7 : f 7 = .slice (some ⟨b, 0, none⟩) xs.length c := (hf 7).symm.trans (hi 7 (by kernel_rfl))
        have f8 : f 8 = .int .i64 xs.length := (hf 8).symm.trans (hi 8 (by kernel_rfl))
        have f9 : f 9 = .slice (some ⟨b2, o2, none⟩) xs.length c' := (hf 9).symm.trans (hi 9 (by kernel_rfl))
        have f10 : f 10 = .int .i64 xs.length := (hf 10).symm.trans (hi 10 (by kernel_rfl))
        have f11 : f 11 = .bool false := (hf 11).symm.trans (hi 11 (by kernel_rfl))
        have f12 : f 12 = .slice (some ⟨b, 0, none⟩) xs.length c := (hf 12).symm.trans (hi 12 (by kernel_rfl))
        have f13 : f 13 = .slice (some ⟨b2, o2, none⟩) xs.length c' := (hf 13).symm.trans (hi 13 (by kernel_rfl))
        have f14 : f 14 = .int .i64 xs.length := (hf 14).symm.trans (hi 14 (by kernel_rfl))
        have f15 : f 15 = .int .i64 (xs.length + 12) := (hf 15).symm.trans (hi 15 (by kernel_rfl))
        have f16 : f 16 = .slice (some ⟨b, 0, none⟩) (xs.length + 12) c := (hf 16).symm.trans (hi 16 (by kernel_rfl))
        have hD : D = [] := hdf
        clear hf hi hg hsz hdf h57
        subst hT hD
        simp only [slots, Nat.reduceAdd, f57, f0, f1, f2, f3, f5, f6, f7, f8, f9, f10, f11, f12, f13, f14, f15, f16]
        go_wp2_with fail
        exact ⟨⟨k + 1, by omega, by go_num, hx0.tr hx7⟩, by simp only [intOf]; omega⟩
    · by_cases hlt2 : k < xs.length + 12
      · obtain ⟨ca, hRa, hca0⟩ := Hmk.out (k - xs.length) (by omega)
        have e1 : xs.length + (k - xs.length) = k := by omega
        have e2 : ((k - xs.length : Nat) : Int) = (k : Int) - xs.length := by omega
        rw [e1] at hca0
        rw [e2] at hRa
        clear e1 e2
        have hca := hca0.ext hx0
        rw [Nat.mul_one] at hca
        have Ra := hid (mono_member _ _ _ _ hx0 hRa)
        have hi1 : (Tryz.prog.info? 71).map (·.size) = some ca.length := by rw [rmember_len hRa]; kernel_rfl
        have hlt1 : ¬ (k : Int) < (xs.length : Int) := by omega
        have hge : xs.length ≤ k := by omega
        have hge1 : (xs.length : Int) ≤ (k : Int) := by omega
        have hk12 : (k : Int) < (xs.length : Int) + 12 := by omega
        have hsub : IntKind.i64.wrap ((k : Int) - xs.length) = (k : Int) - xs.length := IntWalk.i64_in _ (by omega)
        have hsub2 : (0 : Int) ≤ (k : Int) - xs.length := by omega
        clear hca0 hRa
        go_wp2_with fail
        refine wp_region_steps (fun s W v => match s with | 23 => v = .int .i64 k | 24 => v = .slice A xs.length c' | 25 => v = .int .i64 xs.length | 26 => v = .bool false | 27 => v = .bool false | 28 => v = undef | 29 => v = undef | 30 => v = undef | 31 => v = undef | 32 => v = undef | 33 => v = undef | 34 => v = undef | 35 => v = undef | 36 => v = undef | 37 => v = undef | 38 => v = .bool false | 39 => v = .bool false | 40 => v = .int .i64 k | 41 => v = .slice A xs.length c' | 42 => v = .int .i64 xs.length | 43 => v = .bool true | 44 => v = .bool true | 45 => v = .slice (some ⟨b, 0, none⟩) (xs.length + 12) c | 46 => v = .int .i64 k | 47 => v = .pointer (some ⟨b, k, none⟩) | 48 => v = .agg ca.toArray | 49 => v = .int .i64 k | 50 => v = .slice A xs.length c' | 51 => v = .int .i64 xs.length | 52 => v = .int .i64 ((k : Int) - xs.length) | 53 => ∃ cs : List Value, v = .agg cs.toArray ∧ RMember W (mkMember ((k : Int) - xs.length)) cs | 54 => v = .bool true | 55 => v = .bool false | 56 => v = .bool false | 57 => v = .bool false | _ => True) (by kernel_rfl) (by kernel_rfl) (of_decide_eq_true (by kernel_rfl)) (by kernel_rfl) (by intro s W W' v hx h; revert h; split <;> first | exact id | exact fun ⟨cs, e, hr⟩ => ⟨cs, e, mono_member _ _ _ _ hx hr⟩) ?_ ?_
        · refine ⟨?_, ?_, ?_, ?_, ?_, ?_, ?_, ?_, ?_, ?_, ?_, ?_, ?_, ?_, ?_, ?_, ?_, ?_, ?_, ?_, ?_, ?_, ?_, ?_, ?_, ?_, ?_, ?_, ?_, ?_, ?_, ?_, ?_, ?_, ?_, trivial⟩
          · intro a W hx hdf hsz hg hi K hK
            refine step_free rfl ?_
            have t6 : a.tmps.getD 6 undef = .int .i64 k := hi 6 (by kernel_rfl)
            have u6 := t6
            rw [Array.getD_eq_getD_getElem?] at u6
            simp [Oper.wp, Oper.upon, execOp, Act.eval, go_sem, t6, u6, hlt, hlt1, hge, hge1, hk12, hk0, hsub, hsub2]
            exact hK _ _ (Ext.rf _) (fun d' h => by cases h; exact rfl)
          · intro a W hx hdf hsz hg hi K hK
            refine step_free rfl ?_
            have t1 : a.tmps.getD 1 undef = .slice A xs.length c' := hi 1 (by kernel_rfl)
            have u1 := t1
            rw [Array.getD_eq_getD_getElem?] at u1
            simp [Oper.wp, Oper.upon, execOp, Act.eval, go_sem, t1, u1, hlt, hlt1, hge, hge1, hk12, hk0, hsub, hsub2]
            exact hK _ _ (Ext.rf _) (fun d' h => by cases h; exact rfl)
          · intro a W hx hdf hsz hg hi K hK
            refine step_free rfl ?_
            have t24 : a.tmps.getD 24 undef = .slice A xs.length c' := hg 24 (by kernel_rfl)
            have u24 := t24
            rw [Array.getD_eq_getD_getElem?] at u24
            simp [Oper.wp, Oper.upon, execOp, Act.eval, go_sem, t24, u24, hlt, hlt1, hge, hge1, hk12, hk0, hsub, hsub2]
            exact hK _ _ (Ext.rf _) (fun d' h => by cases h; exact rfl)
          · intro a W hx hdf hsz hg hi K hK
            refine step_free rfl ?_
            have t23 : a.tmps.getD 23 undef = .int .i64 k := hg 23 (by kernel_rfl)
            have t25 : a.tmps.getD 25 undef = .int .i64 xs.length := hg 25 (by kernel_rfl)
            have u23 := t23
            rw [Array.getD_eq_getD_getElem?] at u23
            have u25 := t25
            rw [Array.getD_eq_getD_getElem?] at u25
            simp [Oper.wp, Oper.upon, execOp, Act.eval, go_sem, t23, u23, t25, u25, hlt, hlt1, hge, hge1, hk12, hk0, hsub, hsub2]
            exact hK _ _ (Ext.rf _) (fun d' h => by cases h; exact rfl)
          · intro a W hx hdf hsz hg hi K hK
            refine step_free rfl ?_
            have t26 : a.tmps.getD 26 undef = .bool false := hg 26 (by kernel_rfl)
            have u26 := t26
            rw [Array.getD_eq_getD_getElem?] at u26
            simp [Oper.wp, Oper.upon, execOp, Act.eval, go_sem, t26, u26, hlt, hlt1, hge, hge1, hk12, hk0, hsub, hsub2]
            exact hK _ _ (Ext.rf _) (fun d' h => by cases h; exact rfl)
          · intro a W hx hdf hsz hg hi K hK
            have G27 : a.tmps.getD 27 undef = .bool false := hg 27 (by kernel_rfl)
            exact step_guard rfl rfl (by have hz : a.tmps.size = 58 := hsz; omega) G27 (fun h => by cases h) (fun _ => hK _ _ (Ext.rf _) (fun d' h => by cases h; exact rfl))
          · intro a W hx hdf hsz hg hi K hK
            have G27 : a.tmps.getD 27 undef = .bool false := hg 27 (by kernel_rfl)
            exact step_guard rfl rfl (by have hz : a.tmps.size = 58 := hsz; omega) G27 (fun h => by cases h) (fun _ => hK _ _ (Ext.rf _) (fun d' h => by cases h; exact rfl))
          · intro a W hx hdf hsz hg hi K hK
            have G27 : a.tmps.getD 27 undef = .bool false := hg 27 (by kernel_rfl)
            exact step_guard rfl rfl (by have hz : a.tmps.size = 58 := hsz; omega) G27 (fun h => by cases h) (fun _ => hK _ _ (Ext.rf _) (fun d' h => by cases h; exact rfl))
          · intro a W hx hdf hsz hg hi K hK
            have G27 : a.tmps.getD 27 undef = .bool false := hg 27 (by kernel_rfl)
            exact step_guard rfl rfl (by have hz : a.tmps.size = 58 := hsz; omega) G27 (fun h => by cases h) (fun _ => hK _ _ (Ext.rf _) (fun d' h => by cases h; exact rfl))
          · intro a W hx hdf hsz hg hi K hK
            have G27 : a.tmps.getD 27 undef = .bool false := hg 27 (by kernel_rfl)
            exact step_guard rfl rfl (by have hz : a.tmps.size = 58 := hsz; omega) G27 (fun h => by cases h) (fun _ => hK _ _ (Ext.rf _) (fun d' h => by cases h; exact rfl))
          · intro a W hx hdf hsz hg hi K hK
            have G27 : a.tmps.getD 27 undef = .bool false := hg 27 (by kernel_rfl)
            exact step_guard rfl rfl (by have hz : a.tmps.size = 58 := hsz; omega) G27 (fun h => by cases h) (fun _ => hK _ _ (Ext.rf _) (fun d' h => by cases h; exact rfl))
          · intro a W hx hdf hsz hg hi K hK
            have G27 : a.tmps.getD 27 undef = .bool false := hg 27 (by kernel_rfl)
            exact step_guard rfl rfl (by have hz : a.tmps.size = 58 := hsz; omega) G27 (fun h => by cases h) (fun _ => hK _ _ (Ext.rf _) (fun d' h => by cases h; exact rfl))
          · intro a W hx hdf hsz hg hi K hK
            have G27 : a.tmps.getD 27 undef = .bool false := hg 27 (by kernel_rfl)
            exact step_guard rfl rfl (by have hz : a.tmps.size = 58 := hsz; omega) G27 (fun h => by cases h) (fun _ => hK _ _ (Ext.rf _) (fun d' h => by cases h; exact rfl))
          · intro a W hx hdf hsz hg hi K hK
            have G27 : a.tmps.getD 27 undef = .bool false := hg 27 (by kernel_rfl)
            exact step_guard rfl rfl (by have hz : a.tmps.size = 58 := hsz; omega) G27 (fun h => by cases h) (fun _ => hK _ _ (Ext.rf _) (fun d' h => by cases h; exact rfl))
          · intro a W hx hdf hsz hg hi K hK
            have G27 : a.tmps.getD 27 undef = .bool false := hg 27 (by kernel_rfl)
            exact step_guard rfl rfl (by have hz : a.tmps.size = 58 := hsz; omega) G27 (fun h => by cases h) (fun _ => hK _ _ (Ext.rf _) (fun d' h => by cases h; exact rfl))
          · intro a W hx hdf hsz hg hi K hK
            refine step_free rfl ?_
            have t27 : a.tmps.getD 27 undef = .bool false := hg 27 (by kernel_rfl)
            have t37 : a.tmps.getD 37 undef = undef := hg 37 (by kernel_rfl)
            have u27 := t27
            rw [Array.getD_eq_getD_getElem?] at u27
            have u37 := t37
            rw [Array.getD_eq_getD_getElem?] at u37
            simp [Oper.wp, Oper.upon, execOp, Act.eval, go_sem, t27, u27, t37, u37, hlt, hlt1, hge, hge1, hk12, hk0, hsub, hsub2]
            exact hK _ _ (Ext.rf _) (fun d' h => by cases h; exact rfl)
          · intro a W hx hdf hsz hg hi K hK
            refine step_free rfl ?_
            have t38 : a.tmps.getD 38 undef = .bool false := hg 38 (by kernel_rfl)
            have u38 := t38
            rw [Array.getD_eq_getD_getElem?] at u38
            simp [Oper.wp, Oper.upon, execOp, Act.eval, go_sem, t38, u38, hlt, hlt1, hge, hge1, hk12, hk0, hsub, hsub2]
            exact hK _ _ (Ext.rf _) (fun d' h => by cases h; exact rfl)
          · intro a W hx hdf hsz hg hi K hK
            have G39 : a.tmps.getD 39 undef = .bool false := hg 39 (by kernel_rfl)
            refine step_guard rfl rfl (by have hz : a.tmps.size = 58 := hsz; omega) G39 (fun _ => ?_) (fun h => absurd rfl h)
            have t6 : a.tmps.getD 6 undef = .int .i64 k := hi 6 (by kernel_rfl)
            have u6 := t6
            rw [Array.getD_eq_getD_getElem?] at u6
            simp [Oper.wp, Oper.upon, execOp, Act.eval, go_sem, t6, u6, hlt, hlt1, hge, hge1, hk12, hk0, hsub, hsub2]
            exact hK _ _ (Ext.rf _) (fun d' h => by cases h; exact rfl)
          · intro a W hx hdf hsz hg hi K hK
            have G39 : a.tmps.getD 39 undef = .bool false := hg 39 (by kernel_rfl)
            refine step_guard rfl rfl (by have hz : a.tmps.size = 58 := hsz; omega) G39 (fun _ => ?_) (fun h => absurd rfl h)
            have t1 : a.tmps.getD 1 undef = .slice A xs.length c' := hi 1 (by kernel_rfl)
            have u1 := t1
            rw [Array.getD_eq_getD_getElem?] at u1
            simp [Oper.wp, Oper.upon, execOp, Act.eval, go_sem, t1, u1, hlt, hlt1, hge, hge1, hk12, hk0, hsub, hsub2]
            exact hK _ _ (Ext.rf _) (fun d' h => by cases h; exact rfl)
          · intro a W hx hdf hsz hg hi K hK
            have G39 : a.tmps.getD 39 undef = .bool false := hg 39 (by kernel_rfl)
            refine step_guard rfl rfl (by have hz : a.tmps.size = 58 := hsz; omega) G39 (fun _ => ?_) (fun h => absurd rfl h)
            have t41 : a.tmps.getD 41 undef = .slice A xs.length c' := hg 41 (by kernel_rfl)
            have u41 := t41
            rw [Array.getD_eq_getD_getElem?] at u41
            simp [Oper.wp, Oper.upon, execOp, Act.eval, go_sem, t41, u41, hlt, hlt1, hge, hge1, hk12, hk0, hsub, hsub2]
            exact hK _ _ (Ext.rf _) (fun d' h => by cases h; exact rfl)
          · intro a W hx hdf hsz hg hi K hK
            have G39 : a.tmps.getD 39 undef = .bool false := hg 39 (by kernel_rfl)
            refine step_guard rfl rfl (by have hz : a.tmps.size = 58 := hsz; omega) G39 (fun _ => ?_) (fun h => absurd rfl h)
            have t40 : a.tmps.getD 40 undef = .int .i64 k := hg 40 (by kernel_rfl)
            have t42 : a.tmps.getD 42 undef = .int .i64 xs.length := hg 42 (by kernel_rfl)
            have u40 := t40
            rw [Array.getD_eq_getD_getElem?] at u40
            have u42 := t42
            rw [Array.getD_eq_getD_getElem?] at u42
            simp [Oper.wp, Oper.upon, execOp, Act.eval, go_sem, t40, u40, t42, u42, hlt, hlt1, hge, hge1, hk12, hk0, hsub, hsub2]
            exact hK _ _ (Ext.rf _) (fun d' h => by cases h; exact rfl)
          · intro a W hx hdf hsz hg hi K hK
            have G39 : a.tmps.getD 39 undef = .bool false := hg 39 (by kernel_rfl)
            refine step_guard rfl rfl (by have hz : a.tmps.size = 58 := hsz; omega) G39 (fun _ => ?_) (fun h => absurd rfl h)
            have t43 : a.tmps.getD 43 undef = .bool true := hg 43 (by kernel_rfl)
            have u43 := t43
            rw [Array.getD_eq_getD_getElem?] at u43
            simp [Oper.wp, Oper.upon, execOp, Act.eval, go_sem, t43, u43, hlt, hlt1, hge, hge1, hk12, hk0, hsub, hsub2]
            exact hK _ _ (Ext.rf _) (fun d' h => by cases h; exact rfl)
          · intro a W hx hdf hsz hg hi K hK
            have G44 : a.tmps.getD 44 undef = .bool true := hg 44 (by kernel_rfl)
            refine step_guard rfl rfl (by have hz : a.tmps.size = 58 := hsz; omega) G44 (fun _ => ?_) (fun h => absurd rfl h)
            have t5 : a.tmps.getD 5 undef = .slice (some ⟨b, 0, none⟩) (xs.length + 12) c := hi 5 (by kernel_rfl)
            have u5 := t5
            rw [Array.getD_eq_getD_getElem?] at u5
            simp [Oper.wp, Oper.upon, execOp, Act.eval, go_sem, t5, u5, hlt, hlt1, hge, hge1, hk12, hk0, hsub, hsub2]
            exact hK _ _ (Ext.rf _) (fun d' h => by cases h; exact rfl)
          · intro a W hx hdf hsz hg hi K hK
            have G44 : a.tmps.getD 44 undef = .bool true := hg 44 (by kernel_rfl)
            refine step_guard rfl rfl (by have hz : a.tmps.size = 58 := hsz; omega) G44 (fun _ => ?_) (fun h => absurd rfl h)
            have t6 : a.tmps.getD 6 undef = .int .i64 k := hi 6 (by kernel_rfl)
            have u6 := t6
            rw [Array.getD_eq_getD_getElem?] at u6
            simp [Oper.wp, Oper.upon, execOp, Act.eval, go_sem, t6, u6, hlt, hlt1, hge, hge1, hk12, hk0, hsub, hsub2]
            exact hK _ _ (Ext.rf _) (fun d' h => by cases h; exact rfl)
          · intro a W hx hdf hsz hg hi K hK
            have G44 : a.tmps.getD 44 undef = .bool true := hg 44 (by kernel_rfl)
            refine step_guard rfl rfl (by have hz : a.tmps.size = 58 := hsz; omega) G44 (fun _ => ?_) (fun h => absurd rfl h)
            have t45 : a.tmps.getD 45 undef = .slice (some ⟨b, 0, none⟩) (xs.length + 12) c := hg 45 (by kernel_rfl)
            have t46 : a.tmps.getD 46 undef = .int .i64 k := hg 46 (by kernel_rfl)
            have u45 := t45
            rw [Array.getD_eq_getD_getElem?] at u45
            have u46 := t46
            rw [Array.getD_eq_getD_getElem?] at u46
            simp [Oper.wp, Oper.upon, execOp, Act.eval, go_sem, t45, u45, t46, u46, hlt, hlt1, hge, hge1, hk12, hk0, hsub, hsub2]
            exact hK _ _ (Ext.rf _) (fun d' h => by cases h; exact rfl)
          · intro a W hx hdf hsz hg hi K hK
            have G44 : a.tmps.getD 44 undef = .bool true := hg 44 (by kernel_rfl)
            refine step_guard rfl rfl (by have hz : a.tmps.size = 58 := hsz; omega) G44 (fun _ => ?_) (fun h => absurd rfl h)
            have t47 : a.tmps.getD 47 undef = .pointer (some ⟨b, k, none⟩) := hg 47 (by kernel_rfl)
            have u47 := t47
            rw [Array.getD_eq_getD_getElem?] at u47
            refine wp_load_mid 71 (.tmp 47) rfl b (k) t47 ca _ (hca.ext hx) hu rfl hi1 ?_
            exact hK _ _ (Ext.rf _) (fun d' h => by cases h; exact rfl)
          · intro a W hx hdf hsz hg hi K hK
            have G44 : a.tmps.getD 44 undef = .bool true := hg 44 (by kernel_rfl)
            refine step_guard rfl rfl (by have hz : a.tmps.size = 58 := hsz; omega) G44 (fun _ => ?_) (fun h => absurd rfl h)
            have t6 : a.tmps.getD 6 undef = .int .i64 k := hi 6 (by kernel_rfl)
            have u6 := t6
            rw [Array.getD_eq_getD_getElem?] at u6
            simp [Oper.wp, Oper.upon, execOp, Act.eval, go_sem, t6, u6, hlt, hlt1, hge, hge1, hk12, hk0, hsub, hsub2]
            exact hK _ _ (Ext.rf _) (fun d' h => by cases h; exact rfl)
          · intro a W hx hdf hsz hg hi K hK
            have G44 : a.tmps.getD 44 undef = .bool true := hg 44 (by kernel_rfl)
            refine step_guard rfl rfl (by have hz : a.tmps.size = 58 := hsz; omega) G44 (fun _ => ?_) (fun h => absurd rfl h)
            have t1 : a.tmps.getD 1 undef = .slice A xs.length c' := hi 1 (by kernel_rfl)
            have u1 := t1
            rw [Array.getD_eq_getD_getElem?] at u1
            simp [Oper.wp, Oper.upon, execOp, Act.eval, go_sem, t1, u1, hlt, hlt1, hge, hge1, hk12, hk0, hsub, hsub2]
            exact hK _ _ (Ext.rf _) (fun d' h => by cases h; exact rfl)
          · intro a W hx hdf hsz hg hi K hK
            have G44 : a.tmps.getD 44 undef = .bool true := hg 44 (by kernel_rfl)
            refine step_guard rfl rfl (by have hz : a.tmps.size = 58 := hsz; omega) G44 (fun _ => ?_) (fun h => absurd rfl h)
            have t50 : a.tmps.getD 50 undef = .slice A xs.length c' := hg 50 (by kernel_rfl)
            have u50 := t50
            rw [Array.getD_eq_getD_getElem?] at u50
            simp [Oper.wp, Oper.upon, execOp, Act.eval, go_sem, t50, u50, hlt, hlt1, hge, hge1, hk12, hk0, hsub, hsub2]
            exact hK _ _ (Ext.rf _) (fun d' h => by cases h; exact rfl)
          · intro a W hx hdf hsz hg hi K hK
            have G44 : a.tmps.getD 44 undef = .bool true := hg 44 (by kernel_rfl)
            refine step_guard rfl rfl (by have hz : a.tmps.size = 58 := hsz; omega) G44 (fun _ => ?_) (fun h => absurd rfl h)
            have t49 : a.tmps.getD 49 undef = .int .i64 k := hg 49 (by kernel_rfl)
            have t51 : a.tmps.getD 51 undef = .int .i64 xs.length := hg 51 (by kernel_rfl)
            have u49 := t49
            rw [Array.getD_eq_getD_getElem?] at u49
            have u51 := t51
            rw [Array.getD_eq_getD_getElem?] at u51
            simp [Oper.wp, Oper.upon, execOp, Act.eval, go_sem, t49, u49, t51, u51, hlt, hlt1, hge, hge1, hk12, hk0, hsub, hsub2]
            exact hK _ _ (Ext.rf _) (fun d' h => by cases h; exact rfl)
          · intro a W hx hdf hsz hg hi K hK
            have G44 : a.tmps.getD 44 undef = .bool true := hg 44 (by kernel_rfl)
            refine step_guard rfl rfl (by have hz : a.tmps.size = 58 := hsz; omega) G44 (fun _ => ?_) (fun h => absurd rfl h)
            have t52 : a.tmps.getD 52 undef = .int .i64 ((k : Int) - xs.length) := hg 52 (by kernel_rfl)
            have u52 := t52
            rw [Array.getD_eq_getD_getElem?] at u52
            simp [Oper.wp, Oper.upon, execOp, Act.eval, go_sem, t52, u52]
            refine (markMember_any ((k : Int) - xs.length) _ (by omega)).mono ?_
            rintro e w' ⟨hb, cs, rfl, hR⟩
            exact hK _ _ hb (fun d' h => by cases h; exact ⟨cs, rfl, monoC_member _ _ _ _ (frm_sub _ _) hR⟩)
          · intro a W hx hdf hsz hg hi K hK
            have G44 : a.tmps.getD 44 undef = .bool true := hg 44 (by kernel_rfl)
            refine step_guard rfl rfl (by have hz : a.tmps.size = 58 := hsz; omega) G44 (fun _ => ?_) (fun h => absurd rfl h)
            have t48 : a.tmps.getD 48 undef = .agg ca.toArray := hg 48 (by kernel_rfl)
            obtain ⟨cm, t53, hcm⟩ := (show ∃ cs : List Value, a.tmps.getD 53 undef = .agg cs.toArray ∧ RMember W (mkMember ((k : Int) - xs.length)) cs from hg 53 (by kernel_rfl))
            have u53 := t53
            rw [Array.getD_eq_getD_getElem?] at u53
            have u48 := t48
            rw [Array.getD_eq_getD_getElem?] at u48
            simp [Oper.wp, Oper.upon, execOp, Act.eval, go_sem, t53, u53, t48, u48]
            refine (sameMember_any (mkMember ((k : Int) - xs.length)) _ _ _ (mono_member _ _ _ _ hx Ra.out) hcm).mono ?_
            rintro e w' ⟨rfl, hb⟩
            exact hK _ _ hb (fun d' h => by cases h; exact rfl)
          · intro a W hx hdf hsz hg hi K hK
            have G44 : a.tmps.getD 44 undef = .bool true := hg 44 (by kernel_rfl)
            refine step_guard rfl rfl (by have hz : a.tmps.size = 58 := hsz; omega) G44 (fun _ => ?_) (fun h => absurd rfl h)
            have t54 : a.tmps.getD 54 undef = .bool true := hg 54 (by kernel_rfl)
            have u54 := t54
            rw [Array.getD_eq_getD_getElem?] at u54
            simp [Oper.wp, Oper.upon, execOp, Act.eval, go_sem, t54, u54, hlt, hlt1, hge, hge1, hk12, hk0, hsub, hsub2]
            exact hK _ _ (Ext.rf _) (fun d' h => by cases h; exact rfl)
          · intro a W hx hdf hsz hg hi K hK
            have G39 : a.tmps.getD 39 undef = .bool false := hg 39 (by kernel_rfl)
            refine step_guard rfl rfl (by have hz : a.tmps.size = 58 := hsz; omega) G39 (fun _ => ?_) (fun h => absurd rfl h)
            have t44 : a.tmps.getD 44 undef = .bool true := hg 44 (by kernel_rfl)
            have t55 : a.tmps.getD 55 undef = .bool false := hg 55 (by kernel_rfl)
            have u44 := t44
            rw [Array.getD_eq_getD_getElem?] at u44
            have u55 := t55
            rw [Array.getD_eq_getD_getElem?] at u55
            simp [Oper.wp, Oper.upon, execOp, Act.eval, go_sem, t44, u44, t55, u55, hlt, hlt1, hge, hge1, hk12, hk0, hsub, hsub2]
            exact hK _ _ (Ext.rf _) (fun d' h => by cases h; exact rfl)
          · intro a W hx hdf hsz hg hi K hK
            refine step_free rfl ?_
            have t39 : a.tmps.getD 39 undef = .bool false := hg 39 (by kernel_rfl)
            have t56 : a.tmps.getD 56 undef = .bool false := hg 56 (by kernel_rfl)
            have u39 := t39
            rw [Array.getD_eq_getD_getElem?] at u39
            have u56 := t56
            rw [Array.getD_eq_getD_getElem?] at u56
            simp [Oper.wp, Oper.upon, execOp, Act.eval, go_sem, t39, u39, t56, u56, hlt, hlt1, hge, hge1, hk12, hk0, hsub, hsub2]
            exact hK _ _ (Ext.rf _) (fun d' h => by cases h; exact rfl)
        · rintro ⟨T, D⟩ w7 hx7 hdf hsz hg hi
          have h57 : T.getD 57 undef = .bool false := hg 57 (by kernel_rfl)
          obtain ⟨f, hf, hT⟩ := frame_slots T 58 hsz
          have f57 := (hf 57).symm.trans h57
          have f0 : f 0 = .slice (some ⟨b, 0, none⟩) xs.length c := (hf 0).symm.trans (hi 0 (by kernel_rfl))
          have f1 : f 1 = .slice A xs.length c' := (hf 1).symm.trans (hi 1 (by kernel_rfl))
          have f2 : f 2 = undef := (hf 2).symm.trans (hi 2 (by kernel_rfl))
          have f3 : f 3 = undef := (hf 3).symm.trans (hi 3 (by kernel_rfl))
          have f5 : f 5 = .slice (some ⟨b, 0, none⟩) (xs.length + 12) c := (hf 5).symm.trans (hi 5 (by kernel_rfl))
          have f6 : f 6 = .int .i64 k := (hf 6).symm.trans (hi 6 (by kernel_rfl))
          have f7 : f 7 = .slice (some ⟨b, 0, none⟩) xs.length c := (hf 7).symm.trans (hi 7 (by kernel_rfl))
          have f8 : f 8 = .int .i64 xs.length := (hf 8).symm.trans (hi 8 (by kernel_rfl))
          have f9 : f 9 = .slice A xs.length c' := (hf 9).symm.trans (hi 9 (by kernel_rfl))
          have f10 : f 10 = .int .i64 xs.length := (hf 10).symm.trans (hi 10 (by kernel_rfl))
          have f11 : f 11 = .bool false := (hf 11).symm.trans (hi 11 (by kernel_rfl))
          have f12 : f 12 = .slice (some ⟨b, 0, none⟩) xs.length c := (hf 12).symm.trans (hi 12 (by kernel_rfl))
          have f13 : f 13 = .slice A xs.length c' := (hf 13).symm.trans (hi 13 (by kernel_rfl))
          have f14 : f 14 = .int .i64 xs.length := (hf 14).symm.trans (hi 14 (by kernel_rfl))
          have f15 : f 15 = .int .i64 (xs.length + 12) := (hf 15).symm.trans (hi 15 (by kernel_rfl))
          have f16 : f 16 = .slice (some ⟨b, 0, none⟩) (xs.length + 12) c := (hf 16).symm.trans (hi 16 (by kernel_rfl))
          have hD : D = [] := hdf
          clear hf hi hg hsz hdf h57
          subst hT hD
          simp only [slots, Nat.reduceAdd, f57, f0, f1, f2, f3, f5, f6, f7, f8, f9, f10, f11, f12, f13, f14, f15, f16]
          go_wp2_with fail
          exact ⟨⟨k + 1, by omega, by go_num, hx0.tr hx7⟩, by simp only [intOf]; omega⟩
      · obtain rfl : k = xs.length + 12 := by omega
        go_wp2_with fail
        go_ret
        exact ⟨rfl, hx0⟩
set_option maxRecDepth 100000 in
set_option maxHeartbeats 1000000 in
theorem keptCtor_any (x : Ctor) (ca cb : List Value) (w : World) (ha : RLCtor w x ca) (hb : RCtor w x cb) : Calls Tryz.prog 101 #[.agg ca.toArray, .agg cb.toArray] w fun e w' => e = .returned (.bool true) ∧ Ext w w' := by
  have HA := hid ha
  have HB := hid hb
  obtain ⟨ct, rfl, _, ht⟩ := ha
  obtain ⟨ct', rfl, _, ht'⟩ := hb
  have HT := hid ht
  have HT' := hid ht'
  obtain ⟨b1, c1, b2, c2, rfl⟩ := rlterm_open ht
  obtain ⟨vl', vk', rfl, _, ⟨A1, d1, rfl, _⟩, ⟨A2, d2, rfl, _⟩⟩ := rterm_open ht'
  have hx0 : Ext w _ := ((Ext.rf w).al (.cells #[.int .i64 x.member, .int .i64 x.type.kind, .int .i64 x.type.num, .int .i64 x.type.at_, .slice (some ⟨b1, 0, none⟩) x.type.levels.length c1, .slice (some ⟨b2, 0, none⟩) x.type.kids.length c2] 74)).al (.cells #[.int .i64 x.member, .int .i64 x.type.kind, .int .i64 x.type.num, .int .i64 x.type.at_, .slice A1 x.type.levels.length d1, .slice A2 x.type.kids.length d2] 74)
  have HX := hid hx0
  clear hx0 ht ht'
  go_enter Tryz.func101, Tryz.ntmps101
  go_wp2_with fail
  refine (sameCtor_any x _ _ _ (mono_ctor _ _ _ _ HX.out (rl_ctor HA.out)) (mono_ctor _ _ _ _ HX.out HB.out)).mono ?_
  rintro e w1 ⟨rfl, hx⟩
  have q0 : w1.cell? ⟨w.heap.size, 1, none⟩ = some (.int .i64 x.type.kind) := hx.cell (by simp [go_sem])
  have r0 : w1.cell? ⟨w.heap.size + 1, 1, none⟩ = some (.int .i64 x.type.kind) := hx.cell (by simp [go_sem])
  have q1 : w1.cell? ⟨w.heap.size, 2, none⟩ = some (.int .i64 x.type.num) := hx.cell (by simp [go_sem])
  have r1 : w1.cell? ⟨w.heap.size + 1, 2, none⟩ = some (.int .i64 x.type.num) := hx.cell (by simp [go_sem])
  have q2 : w1.cell? ⟨w.heap.size, 3, none⟩ = some (.int .i64 x.type.at_) := hx.cell (by simp [go_sem])
  have r2 : w1.cell? ⟨w.heap.size + 1, 3, none⟩ = some (.int .i64 x.type.at_) := hx.cell (by simp [go_sem])
  have q3 : w1.cell? ⟨w.heap.size, 4, none⟩ = some (.slice (some ⟨b1, 0, none⟩) x.type.levels.length c1) := hx.cell (by simp [go_sem])
  have r3 : w1.cell? ⟨w.heap.size + 1, 4, none⟩ = some (.slice A1 x.type.levels.length d1) := hx.cell (by simp [go_sem])
  have q4 : w1.cell? ⟨w.heap.size, 5, none⟩ = some (.slice (some ⟨b2, 0, none⟩) x.type.kids.length c2) := hx.cell (by simp [go_sem])
  have r4 : w1.cell? ⟨w.heap.size + 1, 5, none⟩ = some (.slice A2 x.type.kids.length d2) := hx.cell (by simp [go_sem])
  have hx1 := hid (HX.out.tr hx)
  go_wp2_with fail
  refine (keptTerm_any x.type _ _ _ (monoC_lterm _ _ _ _ hx1.out.sub HT.out) (mono_term _ _ _ _ hx1.out HT'.out)).mono ?_
  rintro e w2 ⟨rfl, hx2⟩
  go_wp2_with fail
  go_ret
  exact ⟨rfl, hx1.out.tr hx2⟩
set_option maxRecDepth 100000 in
set_option maxHeartbeats 4000000 in
theorem keptCtors_any (xs : List Ctor) (vo vl : Value) (w : World) (ho : LSl RLCtor RCtor mkCtor 6 80 w xs vo) (hl : Sl RCtor 6 80 w xs vl) : Calls Tryz.prog 66 #[vo, vl] w fun e w' => e = .returned (.bool true) ∧ Ext w w' := by
  obtain ⟨b, c, rfl, hc, -, hel, hmk⟩ := ho
  obtain ⟨A, c', rfl, hc', hr⟩ := hl
  have hln := hr.len_le
  have hcap : c ≤ 9223372036854775807 ∨ True := .inr trivial
  have Hel := hid hel
  have Hmk := hid hmk
  clear hel hmk hcap
  go_enter Tryz.func66, Tryz.ntmps66
  go_wp2_with fail
  go_loopw [6] (fun i wr => ∃ k : Nat, k ≤ xs.length + 12 ∧ i = .int .i64 k ∧ Ext w wr) (fun i _ => xs.length + 12 - (intOf i).toNat)
  case atStart => exact ⟨0, by omega, rfl, Ext.rf _⟩
  case round =>
    obtain ⟨k, hk, rfl, hx0⟩ := hrel
    obtain ⟨wr, rfl⟩ := ext_name2 hx0
    have hu := Tryz.underlying74
    have hk0 : (0 : Int) ≤ (k : Int) := by omega
    by_cases hlt : k < xs.length
    · obtain ⟨ca, hRa, hca0⟩ := Hel.out k xs[k] (List.getElem?_eq_getElem hlt)
      obtain ⟨b2, o2, cb, rfl, hRb, hcb0⟩ := hr.at_ hlt
      have hca := hca0.ext hx0
      have hcb := hcb0.ext hx0
      have Ra := hid (monoC_lctor _ _ _ _ hx0.sub hRa)
      have Rb := hid (mono_ctor _ _ _ _ hx0 hRb)
      have hi1 : (Tryz.prog.info? 74).map (·.size) = some ca.length := by rw [rlctor_len hRa]; kernel_rfl
      have hi2 : (Tryz.prog.info? 74).map (·.size) = some cb.length := by rw [rctor_len hRb]; kernel_rfl
      have hlt1 : (k : Int) < (xs.length : Int) := by omega
      have hge : ¬ xs.length ≤ k := by omega
      have hge1 : ¬ (xs.length : Int) ≤ (k : Int) := by omega
      have hk12 : (k : Int) < (xs.length : Int) + 12 := by omega
      clear hca0 hcb0 hRa hRb
      go_wp2_with fail
      refine wp_region_steps (fun s W v => match s with | 23 => v = .int .i64 k | 24 => v = .slice (some ⟨b2, o2, none⟩) xs.length c' | 25 => v = .int .i64 xs.length | 26 => v = .bool true | 27 => v = .bool true | 28 => v = .slice (some ⟨b, 0, none⟩) (xs.length + 12) c | 29 => v = .int .i64 k | 30 => v = .pointer (some ⟨b, k * 6, none⟩) | 31 => v = .agg ca.toArray | 32 => v = .slice (some ⟨b2, o2, none⟩) xs.length c' | 33 => v = .int .i64 k | 34 => v = .pointer (some ⟨b2, o2 + k * 6, none⟩) | 35 => v = .agg cb.toArray | 36 => v = .bool true | 37 => v = .bool false | 38 => v = .bool false | 39 => v = .bool false | 40 => v = .int .i64 k | 41 => v = .slice (some ⟨b2, o2, none⟩) xs.length c' | 42 => v = .int .i64 xs.length | 43 => v = .bool false | 44 => v = .bool false | 45 => v = undef | 46 => v = undef | 47 => v = undef | 48 => v = undef | 49 => v = undef | 50 => v = undef | 51 => v = undef | 52 => v = undef | 53 => v = undef | 54 => v = undef | 55 => v = undef | 56 => v = .bool false | 57 => v = .bool false | _ => True) (by kernel_rfl) (by kernel_rfl) (of_decide_eq_true (by kernel_rfl)) (by kernel_rfl) (fun s W W' v _ h => h) ?_ ?_
      · refine ⟨?_, ?_, ?_, ?_, ?_, ?_, ?_, ?_, ?_, ?_, ?_, ?_, ?_, ?_, ?_, ?_, ?_, ?_, ?_, ?_, ?_, ?_, ?_, ?_, ?_, ?_, ?_, ?_, ?_, ?_, ?_, ?_, ?_, ?_, ?_, trivial⟩
        · intro a W hx hdf hsz hg hi K hK
          refine step_free rfl ?_
          have t6 : a.tmps.getD 6 undef = .int .i64 k := hi 6 (by kernel_rfl)
          have u6 := t6
          rw [Array.getD_eq_getD_getElem?] at u6
          simp [Oper.wp, Oper.upon, execOp, Act.eval, go_sem, t6, u6, hlt, hlt1, hge, hge1, hk12, hk0]
          exact hK _ _ (Ext.rf _) (fun d' h => by cases h; exact rfl)
        · intro a W hx hdf hsz hg hi K hK
          refine step_free rfl ?_
          have t1 : a.tmps.getD 1 undef = .slice (some ⟨b2, o2, none⟩) xs.length c' := hi 1 (by kernel_rfl)
          have u1 := t1
          rw [Array.getD_eq_getD_getElem?] at u1
          simp [Oper.wp, Oper.upon, execOp, Act.eval, go_sem, t1, u1, hlt, hlt1, hge, hge1, hk12, hk0]
          exact hK _ _ (Ext.rf _) (fun d' h => by cases h; exact rfl)
        · intro a W hx hdf hsz hg hi K hK
          refine step_free rfl ?_
          have t24 : a.tmps.getD 24 undef = .slice (some ⟨b2, o2, none⟩) xs.length c' := hg 24 (by kernel_rfl)
          have u24 := t24
          rw [Array.getD_eq_getD_getElem?] at u24
          simp [Oper.wp, Oper.upon, execOp, Act.eval, go_sem, t24, u24, hlt, hlt1, hge, hge1, hk12, hk0]
          exact hK _ _ (Ext.rf _) (fun d' h => by cases h; exact rfl)
        · intro a W hx hdf hsz hg hi K hK
          refine step_free rfl ?_
          have t23 : a.tmps.getD 23 undef = .int .i64 k := hg 23 (by kernel_rfl)
          have t25 : a.tmps.getD 25 undef = .int .i64 xs.length := hg 25 (by kernel_rfl)
          have u23 := t23
          rw [Array.getD_eq_getD_getElem?] at u23
          have u25 := t25
          rw [Array.getD_eq_getD_getElem?] at u25
          simp [Oper.wp, Oper.upon, execOp, Act.eval, go_sem, t23, u23, t25, u25, hlt, hlt1, hge, hge1, hk12, hk0]
          exact hK _ _ (Ext.rf _) (fun d' h => by cases h; exact rfl)
        · intro a W hx hdf hsz hg hi K hK
          refine step_free rfl ?_
          have t26 : a.tmps.getD 26 undef = .bool true := hg 26 (by kernel_rfl)
          have u26 := t26
          rw [Array.getD_eq_getD_getElem?] at u26
          simp [Oper.wp, Oper.upon, execOp, Act.eval, go_sem, t26, u26, hlt, hlt1, hge, hge1, hk12, hk0]
          exact hK _ _ (Ext.rf _) (fun d' h => by cases h; exact rfl)
        · intro a W hx hdf hsz hg hi K hK
          have G27 : a.tmps.getD 27 undef = .bool true := hg 27 (by kernel_rfl)
          refine step_guard rfl rfl (by have hz : a.tmps.size = 58 := hsz; omega) G27 (fun _ => ?_) (fun h => absurd rfl h)
          have t5 : a.tmps.getD 5 undef = .slice (some ⟨b, 0, none⟩) (xs.length + 12) c := hi 5 (by kernel_rfl)
          have u5 := t5
          rw [Array.getD_eq_getD_getElem?] at u5
          simp [Oper.wp, Oper.upon, execOp, Act.eval, go_sem, t5, u5, hlt, hlt1, hge, hge1, hk12, hk0]
          exact hK _ _ (Ext.rf _) (fun d' h => by cases h; exact rfl)
        · intro a W hx hdf hsz hg hi K hK
          have G27 : a.tmps.getD 27 undef = .bool true := hg 27 (by kernel_rfl)
          refine step_guard rfl rfl (by have hz : a.tmps.size = 58 := hsz; omega) G27 (fun _ => ?_) (fun h => absurd rfl h)
          have t6 : a.tmps.getD 6 undef = .int .i64 k := hi 6 (by kernel_rfl)
          have u6 := t6
          rw [Array.getD_eq_getD_getElem?] at u6
          simp [Oper.wp, Oper.upon, execOp, Act.eval, go_sem, t6, u6, hlt, hlt1, hge, hge1, hk12, hk0]
          exact hK _ _ (Ext.rf _) (fun d' h => by cases h; exact rfl)
        · intro a W hx hdf hsz hg hi K hK
          have G27 : a.tmps.getD 27 undef = .bool true := hg 27 (by kernel_rfl)
          refine step_guard rfl rfl (by have hz : a.tmps.size = 58 := hsz; omega) G27 (fun _ => ?_) (fun h => absurd rfl h)
          have t28 : a.tmps.getD 28 undef = .slice (some ⟨b, 0, none⟩) (xs.length + 12) c := hg 28 (by kernel_rfl)
          have t29 : a.tmps.getD 29 undef = .int .i64 k := hg 29 (by kernel_rfl)
          have u28 := t28
          rw [Array.getD_eq_getD_getElem?] at u28
          have u29 := t29
          rw [Array.getD_eq_getD_getElem?] at u29
          simp [Oper.wp, Oper.upon, execOp, Act.eval, go_sem, t28, u28, t29, u29, hlt, hlt1, hge, hge1, hk12, hk0]
          exact hK _ _ (Ext.rf _) (fun d' h => by cases h; exact rfl)
        · intro a W hx hdf hsz hg hi K hK
          have G27 : a.tmps.getD 27 undef = .bool true := hg 27 (by kernel_rfl)
          refine step_guard rfl rfl (by have hz : a.tmps.size = 58 := hsz; omega) G27 (fun _ => ?_) (fun h => absurd rfl h)
          have t30 : a.tmps.getD 30 undef = .pointer (some ⟨b, k * 6, none⟩) := hg 30 (by kernel_rfl)
          have u30 := t30
          rw [Array.getD_eq_getD_getElem?] at u30
          refine wp_load_mid 74 (.tmp 30) rfl b (k * 6) t30 ca _ (hca.ext hx) hu rfl hi1 ?_
          exact hK _ _ (Ext.rf _) (fun d' h => by cases h; exact rfl)
        · intro a W hx hdf hsz hg hi K hK
          have G27 : a.tmps.getD 27 undef = .bool true := hg 27 (by kernel_rfl)
          refine step_guard rfl rfl (by have hz : a.tmps.size = 58 := hsz; omega) G27 (fun _ => ?_) (fun h => absurd rfl h)
          have t1 : a.tmps.getD 1 undef = .slice (some ⟨b2, o2, none⟩) xs.length c' := hi 1 (by kernel_rfl)
          have u1 := t1
          rw [Array.getD_eq_getD_getElem?] at u1
          simp [Oper.wp, Oper.upon, execOp, Act.eval, go_sem, t1, u1, hlt, hlt1, hge, hge1, hk12, hk0]
          exact hK _ _ (Ext.rf _) (fun d' h => by cases h; exact rfl)
        · intro a W hx hdf hsz hg hi K hK
          have G27 : a.tmps.getD 27 undef = .bool true := hg 27 (by kernel_rfl)
          refine step_guard rfl rfl (by have hz : a.tmps.size = 58 := hsz; omega) G27 (fun _ => ?_) (fun h => absurd rfl h)
          have t6 : a.tmps.getD 6 undef = .int .i64 k := hi 6 (by kernel_rfl)
          have u6 := t6
          rw [Array.getD_eq_getD_getElem?] at u6
          simp [Oper.wp, Oper.upon, execOp, Act.eval, go_sem, t6, u6, hlt, hlt1, hge, hge1, hk12, hk0]
          exact hK _ _ (Ext.rf _) (fun d' h => by cases h; exact rfl)
        · intro a W hx hdf hsz hg hi K hK
          have G27 : a.tmps.getD 27 undef = .bool true := hg 27 (by kernel_rfl)
          refine step_guard rfl rfl (by have hz : a.tmps.size = 58 := hsz; omega) G27 (fun _ => ?_) (fun h => absurd rfl h)
          have t32 : a.tmps.getD 32 undef = .slice (some ⟨b2, o2, none⟩) xs.length c' := hg 32 (by kernel_rfl)
          have t33 : a.tmps.getD 33 undef = .int .i64 k := hg 33 (by kernel_rfl)
          have u32 := t32
          rw [Array.getD_eq_getD_getElem?] at u32
          have u33 := t33
          rw [Array.getD_eq_getD_getElem?] at u33
          simp [Oper.wp, Oper.upon, execOp, Act.eval, go_sem, t32, u32, t33, u33, hlt, hlt1, hge, hge1, hk12, hk0]
          exact hK _ _ (Ext.rf _) (fun d' h => by cases h; exact rfl)
        · intro a W hx hdf hsz hg hi K hK
          have G27 : a.tmps.getD 27 undef = .bool true := hg 27 (by kernel_rfl)
          refine step_guard rfl rfl (by have hz : a.tmps.size = 58 := hsz; omega) G27 (fun _ => ?_) (fun h => absurd rfl h)
          have t34 : a.tmps.getD 34 undef = .pointer (some ⟨b2, o2 + k * 6, none⟩) := hg 34 (by kernel_rfl)
          have u34 := t34
          rw [Array.getD_eq_getD_getElem?] at u34
          refine wp_load_mid 74 (.tmp 34) rfl b2 (o2 + k * 6) t34 cb _ (hcb.ext hx) hu rfl hi2 ?_
          exact hK _ _ (Ext.rf _) (fun d' h => by cases h; exact rfl)
        · intro a W hx hdf hsz hg hi K hK
          have G27 : a.tmps.getD 27 undef = .bool true := hg 27 (by kernel_rfl)
          refine step_guard rfl rfl (by have hz : a.tmps.size = 58 := hsz; omega) G27 (fun _ => ?_) (fun h => absurd rfl h)
          have t31 : a.tmps.getD 31 undef = .agg ca.toArray := hg 31 (by kernel_rfl)
          have t35 : a.tmps.getD 35 undef = .agg cb.toArray := hg 35 (by kernel_rfl)
          have u31 := t31
          rw [Array.getD_eq_getD_getElem?] at u31
          have u35 := t35
          rw [Array.getD_eq_getD_getElem?] at u35
          simp [Oper.wp, Oper.upon, execOp, Act.eval, go_sem, t31, u31, t35, u35]
          refine (keptCtor_any xs[k] _ _ _ (monoC_lctor _ _ _ _ hx.sub Ra.out) (mono_ctor _ _ _ _ hx Rb.out)).mono ?_
          rintro e w' ⟨rfl, hb⟩
          exact hK _ _ hb (fun d' h => by cases h; exact rfl)
        · intro a W hx hdf hsz hg hi K hK
          have G27 : a.tmps.getD 27 undef = .bool true := hg 27 (by kernel_rfl)
          refine step_guard rfl rfl (by have hz : a.tmps.size = 58 := hsz; omega) G27 (fun _ => ?_) (fun h => absurd rfl h)
          have t36 : a.tmps.getD 36 undef = .bool true := hg 36 (by kernel_rfl)
          have u36 := t36
          rw [Array.getD_eq_getD_getElem?] at u36
          simp [Oper.wp, Oper.upon, execOp, Act.eval, go_sem, t36, u36, hlt, hlt1, hge, hge1, hk12, hk0]
          exact hK _ _ (Ext.rf _) (fun d' h => by cases h; exact rfl)
        · intro a W hx hdf hsz hg hi K hK
          refine step_free rfl ?_
          have t27 : a.tmps.getD 27 undef = .bool true := hg 27 (by kernel_rfl)
          have t37 : a.tmps.getD 37 undef = .bool false := hg 37 (by kernel_rfl)
          have u27 := t27
          rw [Array.getD_eq_getD_getElem?] at u27
          have u37 := t37
          rw [Array.getD_eq_getD_getElem?] at u37
          simp [Oper.wp, Oper.upon, execOp, Act.eval, go_sem, t27, u27, t37, u37, hlt, hlt1, hge, hge1, hk12, hk0]
          exact hK _ _ (Ext.rf _) (fun d' h => by cases h; exact rfl)
        · intro a W hx hdf hsz hg hi K hK
          refine step_free rfl ?_
          have t38 : a.tmps.getD 38 undef = .bool false := hg 38 (by kernel_rfl)
          have u38 := t38
          rw [Array.getD_eq_getD_getElem?] at u38
          simp [Oper.wp, Oper.upon, execOp, Act.eval, go_sem, t38, u38, hlt, hlt1, hge, hge1, hk12, hk0]
          exact hK _ _ (Ext.rf _) (fun d' h => by cases h; exact rfl)
        · intro a W hx hdf hsz hg hi K hK
          have G39 : a.tmps.getD 39 undef = .bool false := hg 39 (by kernel_rfl)
          refine step_guard rfl rfl (by have hz : a.tmps.size = 58 := hsz; omega) G39 (fun _ => ?_) (fun h => absurd rfl h)
          have t6 : a.tmps.getD 6 undef = .int .i64 k := hi 6 (by kernel_rfl)
          have u6 := t6
          rw [Array.getD_eq_getD_getElem?] at u6
          simp [Oper.wp, Oper.upon, execOp, Act.eval, go_sem, t6, u6, hlt, hlt1, hge, hge1, hk12, hk0]
          exact hK _ _ (Ext.rf _) (fun d' h => by cases h; exact rfl)
        · intro a W hx hdf hsz hg hi K hK
          have G39 : a.tmps.getD 39 undef = .bool false := hg 39 (by kernel_rfl)
          refine step_guard rfl rfl (by have hz : a.tmps.size = 58 := hsz; omega) G39 (fun _ => ?_) (fun h => absurd rfl h)
          have t1 : a.tmps.getD 1 undef = .slice (some ⟨b2, o2, none⟩) xs.length c' := hi 1 (by kernel_rfl)
          have u1 := t1
          rw [Array.getD_eq_getD_getElem?] at u1
          simp [Oper.wp, Oper.upon, execOp, Act.eval, go_sem, t1, u1, hlt, hlt1, hge, hge1, hk12, hk0]
          exact hK _ _ (Ext.rf _) (fun d' h => by cases h; exact rfl)
        · intro a W hx hdf hsz hg hi K hK
          have G39 : a.tmps.getD 39 undef = .bool false := hg 39 (by kernel_rfl)
          refine step_guard rfl rfl (by have hz : a.tmps.size = 58 := hsz; omega) G39 (fun _ => ?_) (fun h => absurd rfl h)
          have t41 : a.tmps.getD 41 undef = .slice (some ⟨b2, o2, none⟩) xs.length c' := hg 41 (by kernel_rfl)
          have u41 := t41
          rw [Array.getD_eq_getD_getElem?] at u41
          simp [Oper.wp, Oper.upon, execOp, Act.eval, go_sem, t41, u41, hlt, hlt1, hge, hge1, hk12, hk0]
          exact hK _ _ (Ext.rf _) (fun d' h => by cases h; exact rfl)
        · intro a W hx hdf hsz hg hi K hK
          have G39 : a.tmps.getD 39 undef = .bool false := hg 39 (by kernel_rfl)
          refine step_guard rfl rfl (by have hz : a.tmps.size = 58 := hsz; omega) G39 (fun _ => ?_) (fun h => absurd rfl h)
          have t40 : a.tmps.getD 40 undef = .int .i64 k := hg 40 (by kernel_rfl)
          have t42 : a.tmps.getD 42 undef = .int .i64 xs.length := hg 42 (by kernel_rfl)
          have u40 := t40
          rw [Array.getD_eq_getD_getElem?] at u40
          have u42 := t42
          rw [Array.getD_eq_getD_getElem?] at u42
          simp [Oper.wp, Oper.upon, execOp, Act.eval, go_sem, t40, u40, t42, u42, hlt, hlt1, hge, hge1, hk12, hk0]
          exact hK _ _ (Ext.rf _) (fun d' h => by cases h; exact rfl)
        · intro a W hx hdf hsz hg hi K hK
          have G39 : a.tmps.getD 39 undef = .bool false := hg 39 (by kernel_rfl)
          refine step_guard rfl rfl (by have hz : a.tmps.size = 58 := hsz; omega) G39 (fun _ => ?_) (fun h => absurd rfl h)
          have t43 : a.tmps.getD 43 undef = .bool false := hg 43 (by kernel_rfl)
          have u43 := t43
          rw [Array.getD_eq_getD_getElem?] at u43
          simp [Oper.wp, Oper.upon, execOp, Act.eval, go_sem, t43, u43, hlt, hlt1, hge, hge1, hk12, hk0]
          exact hK _ _ (Ext.rf _) (fun d' h => by cases h; exact rfl)
        · intro a W hx hdf hsz hg hi K hK
          have G44 : a.tmps.getD 44 undef = .bool false := hg 44 (by kernel_rfl)
          exact step_guard rfl rfl (by have hz : a.tmps.size = 58 := hsz; omega) G44 (fun h => by cases h) (fun _ => hK _ _ (Ext.rf _) (fun d' h => by cases h; exact rfl))
        · intro a W hx hdf hsz hg hi K hK
          have G44 : a.tmps.getD 44 undef = .bool false := hg 44 (by kernel_rfl)
          exact step_guard rfl rfl (by have hz : a.tmps.size = 58 := hsz; omega) G44 (fun h => by cases h) (fun _ => hK _ _ (Ext.rf _) (fun d' h => by cases h; exact rfl))
        · intro a W hx hdf hsz hg hi K hK
          have G44 : a.tmps.getD 44 undef = .bool false := hg 44 (by kernel_rfl)
          exact step_guard rfl rfl (by have hz : a.tmps.size = 58 := hsz; omega) G44 (fun h => by cases h) (fun _ => hK _ _ (Ext.rf _) (fun d' h => by cases h; exact rfl))
        · intro a W hx hdf hsz hg hi K hK
          have G44 : a.tmps.getD 44 undef = .bool false := hg 44 (by kernel_rfl)
          exact step_guard rfl rfl (by have hz : a.tmps.size = 58 := hsz; omega) G44 (fun h => by cases h) (fun _ => hK _ _ (Ext.rf _) (fun d' h => by cases h; exact rfl))
        · intro a W hx hdf hsz hg hi K hK
          have G44 : a.tmps.getD 44 undef = .bool false := hg 44 (by kernel_rfl)
          exact step_guard rfl rfl (by have hz : a.tmps.size = 58 := hsz; omega) G44 (fun h => by cases h) (fun _ => hK _ _ (Ext.rf _) (fun d' h => by cases h; exact rfl))
        · intro a W hx hdf hsz hg hi K hK
          have G44 : a.tmps.getD 44 undef = .bool false := hg 44 (by kernel_rfl)
          exact step_guard rfl rfl (by have hz : a.tmps.size = 58 := hsz; omega) G44 (fun h => by cases h) (fun _ => hK _ _ (Ext.rf _) (fun d' h => by cases h; exact rfl))
        · intro a W hx hdf hsz hg hi K hK
          have G44 : a.tmps.getD 44 undef = .bool false := hg 44 (by kernel_rfl)
          exact step_guard rfl rfl (by have hz : a.tmps.size = 58 := hsz; omega) G44 (fun h => by cases h) (fun _ => hK _ _ (Ext.rf _) (fun d' h => by cases h; exact rfl))
        · intro a W hx hdf hsz hg hi K hK
          have G44 : a.tmps.getD 44 undef = .bool false := hg 44 (by kernel_rfl)
          exact step_guard rfl rfl (by have hz : a.tmps.size = 58 := hsz; omega) G44 (fun h => by cases h) (fun _ => hK _ _ (Ext.rf _) (fun d' h => by cases h; exact rfl))
        · intro a W hx hdf hsz hg hi K hK
          have G44 : a.tmps.getD 44 undef = .bool false := hg 44 (by kernel_rfl)
          exact step_guard rfl rfl (by have hz : a.tmps.size = 58 := hsz; omega) G44 (fun h => by cases h) (fun _ => hK _ _ (Ext.rf _) (fun d' h => by cases h; exact rfl))
        · intro a W hx hdf hsz hg hi K hK
          have G44 : a.tmps.getD 44 undef = .bool false := hg 44 (by kernel_rfl)
          exact step_guard rfl rfl (by have hz : a.tmps.size = 58 := hsz; omega) G44 (fun h => by cases h) (fun _ => hK _ _ (Ext.rf _) (fun d' h => by cases h; exact rfl))
        · intro a W hx hdf hsz hg hi K hK
          have G44 : a.tmps.getD 44 undef = .bool false := hg 44 (by kernel_rfl)
          exact step_guard rfl rfl (by have hz : a.tmps.size = 58 := hsz; omega) G44 (fun h => by cases h) (fun _ => hK _ _ (Ext.rf _) (fun d' h => by cases h; exact rfl))
        · intro a W hx hdf hsz hg hi K hK
          have G39 : a.tmps.getD 39 undef = .bool false := hg 39 (by kernel_rfl)
          refine step_guard rfl rfl (by have hz : a.tmps.size = 58 := hsz; omega) G39 (fun _ => ?_) (fun h => absurd rfl h)
          have t44 : a.tmps.getD 44 undef = .bool false := hg 44 (by kernel_rfl)
          have t55 : a.tmps.getD 55 undef = undef := hg 55 (by kernel_rfl)
          have u44 := t44
          rw [Array.getD_eq_getD_getElem?] at u44
          have u55 := t55
          rw [Array.getD_eq_getD_getElem?] at u55
          simp [Oper.wp, Oper.upon, execOp, Act.eval, go_sem, t44, u44, t55, u55, hlt, hlt1, hge, hge1, hk12, hk0]
          exact hK _ _ (Ext.rf _) (fun d' h => by cases h; exact rfl)
        · intro a W hx hdf hsz hg hi K hK
          refine step_free rfl ?_
          have t39 : a.tmps.getD 39 undef = .bool false := hg 39 (by kernel_rfl)
          have t56 : a.tmps.getD 56 undef = .bool false := hg 56 (by kernel_rfl)
          have u39 := t39
          rw [Array.getD_eq_getD_getElem?] at u39
          have u56 := t56
          rw [Array.getD_eq_getD_getElem?] at u56
          simp [Oper.wp, Oper.upon, execOp, Act.eval, go_sem, t39, u39, t56, u56, hlt, hlt1, hge, hge1, hk12, hk0]
          exact hK _ _ (Ext.rf _) (fun d' h => by cases h; exact rfl)
      · rintro ⟨T, D⟩ w7 hx7 hdf hsz hg hi
        have h57 : T.getD 57 undef = .bool false := hg 57 (by kernel_rfl)
        obtain ⟨f, hf, hT⟩ := frame_slots T 58 hsz
        have f57 := (hf 57).symm.trans h57
        have f0 : f 0 = .slice (some ⟨b, 0, none⟩) xs.length c := (hf 0).symm.trans (hi 0 (by kernel_rfl))
        have f1 : f 1 = .slice (some ⟨b2, o2, none⟩) xs.length c' := (hf 1).symm.trans (hi 1 (by kernel_rfl))
        have f2 : f 2 = undef := (hf 2).symm.trans (hi 2 (by kernel_rfl))
        have f3 : f 3 = undef := (hf 3).symm.trans (hi 3 (by kernel_rfl))
        have f5 : f 5 = .slice (some ⟨b, 0, none⟩) (xs.length + 12) c := (hf 5).symm.trans (hi 5 (by kernel_rfl))
        have f6 : f 6 = .int .i64 k := (hf 6).symm.trans (hi 6 (by kernel_rfl))
        have f7 : f 7 = .slice (some ⟨b, 0, none⟩) xs.length c := (hf 7).symm.trans (hi 7 (by kernel_rfl))
        have f8 : f 8 = .int .i64 xs.length := (hf 8).symm.trans (hi 8 (by kernel_rfl))
        have f9 : f 9 = .slice (some ⟨b2, o2, none⟩) xs.length c' := (hf 9).symm.trans (hi 9 (by kernel_rfl))
        have f10 : f 10 = .int .i64 xs.length := (hf 10).symm.trans (hi 10 (by kernel_rfl))
        have f11 : f 11 = .bool false := (hf 11).symm.trans (hi 11 (by kernel_rfl))
        have f12 : f 12 = .slice (some ⟨b, 0, none⟩) xs.length c := (hf 12).symm.trans (hi 12 (by kernel_rfl))
        have f13 : f 13 = .slice (some ⟨b2, o2, none⟩) xs.length c' := (hf 13).symm.trans (hi 13 (by kernel_rfl))
        have f14 : f 14 = .int .i64 xs.length := (hf 14).symm.trans (hi 14 (by kernel_rfl))
        have f15 : f 15 = .int .i64 (xs.length + 12) := (hf 15).symm.trans (hi 15 (by kernel_rfl))
        have f16 : f 16 = .slice (some ⟨b, 0, none⟩) (xs.length + 12) c := (hf 16).symm.trans (hi 16 (by kernel_rfl))
        have hD : D = [] := hdf
        clear hf hi hg hsz hdf h57
        subst hT hD
        simp only [slots, Nat.reduceAdd, f57, f0, f1, f2, f3, f5, f6, f7, f8, f9, f10, f11, f12, f13, f14, f15, f16]
        go_wp2_with fail
        exact ⟨⟨k + 1, by omega, by go_num, hx0.tr hx7⟩, by simp only [intOf]; omega⟩
    · by_cases hlt2 : k < xs.length + 12
      · obtain ⟨ca, hRa, hca0⟩ := Hmk.out (k - xs.length) (by omega)
        have e1 : xs.length + (k - xs.length) = k := by omega
        have e2 : ((k - xs.length : Nat) : Int) = (k : Int) - xs.length := by omega
        rw [e1] at hca0
        rw [e2] at hRa
        clear e1 e2
        have hca := hca0.ext hx0
        have Ra := hid (mono_ctor _ _ _ _ hx0 hRa)
        have hi1 : (Tryz.prog.info? 74).map (·.size) = some ca.length := by rw [rctor_len hRa]; kernel_rfl
        have hlt1 : ¬ (k : Int) < (xs.length : Int) := by omega
        have hge : xs.length ≤ k := by omega
        have hge1 : (xs.length : Int) ≤ (k : Int) := by omega
        have hk12 : (k : Int) < (xs.length : Int) + 12 := by omega
        have hsub : IntKind.i64.wrap ((k : Int) - xs.length) = (k : Int) - xs.length := IntWalk.i64_in _ (by omega)
        have hsub2 : (0 : Int) ≤ (k : Int) - xs.length := by omega
        clear hca0 hRa
        go_wp2_with fail
        refine wp_region_steps (fun s W v => match s with | 23 => v = .int .i64 k | 24 => v = .slice A xs.length c' | 25 => v = .int .i64 xs.length | 26 => v = .bool false | 27 => v = .bool false | 28 => v = undef | 29 => v = undef | 30 => v = undef | 31 => v = undef | 32 => v = undef | 33 => v = undef | 34 => v = undef | 35 => v = undef | 36 => v = undef | 37 => v = undef | 38 => v = .bool false | 39 => v = .bool false | 40 => v = .int .i64 k | 41 => v = .slice A xs.length c' | 42 => v = .int .i64 xs.length | 43 => v = .bool true | 44 => v = .bool true | 45 => v = .slice (some ⟨b, 0, none⟩) (xs.length + 12) c | 46 => v = .int .i64 k | 47 => v = .pointer (some ⟨b, k * 6, none⟩) | 48 => v = .agg ca.toArray | 49 => v = .int .i64 k | 50 => v = .slice A xs.length c' | 51 => v = .int .i64 xs.length | 52 => v = .int .i64 ((k : Int) - xs.length) | 53 => ∃ cs : List Value, v = .agg cs.toArray ∧ RCtor W (mkCtor ((k : Int) - xs.length)) cs | 54 => v = .bool true | 55 => v = .bool false | 56 => v = .bool false | 57 => v = .bool false | _ => True) (by kernel_rfl) (by kernel_rfl) (of_decide_eq_true (by kernel_rfl)) (by kernel_rfl) (by intro s W W' v hx h; revert h; split <;> first | exact id | exact fun ⟨cs, e, hr⟩ => ⟨cs, e, mono_ctor _ _ _ _ hx hr⟩) ?_ ?_
        · refine ⟨?_, ?_, ?_, ?_, ?_, ?_, ?_, ?_, ?_, ?_, ?_, ?_, ?_, ?_, ?_, ?_, ?_, ?_, ?_, ?_, ?_, ?_, ?_, ?_, ?_, ?_, ?_, ?_, ?_, ?_, ?_, ?_, ?_, ?_, ?_, trivial⟩
          · intro a W hx hdf hsz hg hi K hK
            refine step_free rfl ?_
            have t6 : a.tmps.getD 6 undef = .int .i64 k := hi 6 (by kernel_rfl)
            have u6 := t6
            rw [Array.getD_eq_getD_getElem?] at u6
            simp [Oper.wp, Oper.upon, execOp, Act.eval, go_sem, t6, u6, hlt, hlt1, hge, hge1, hk12, hk0, hsub, hsub2]
            exact hK _ _ (Ext.rf _) (fun d' h => by cases h; exact rfl)
          · intro a W hx hdf hsz hg hi K hK
            refine step_free rfl ?_
            have t1 : a.tmps.getD 1 undef = .slice A xs.length c' := hi 1 (by kernel_rfl)
            have u1 := t1
            rw [Array.getD_eq_getD_getElem?] at u1
            simp [Oper.wp, Oper.upon, execOp, Act.eval, go_sem, t1, u1, hlt, hlt1, hge, hge1, hk12, hk0, hsub, hsub2]
            exact hK _ _ (Ext.rf _) (fun d' h => by cases h; exact rfl)
          · intro a W hx hdf hsz hg hi K hK
            refine step_free rfl ?_
            have t24 : a.tmps.getD 24 undef = .slice A xs.length c' := hg 24 (by kernel_rfl)
            have u24 := t24
            rw [Array.getD_eq_getD_getElem?] at u24
            simp [Oper.wp, Oper.upon, execOp, Act.eval, go_sem, t24, u24, hlt, hlt1, hge, hge1, hk12, hk0, hsub, hsub2]
            exact hK _ _ (Ext.rf _) (fun d' h => by cases h; exact rfl)
          · intro a W hx hdf hsz hg hi K hK
            refine step_free rfl ?_
            have t23 : a.tmps.getD 23 undef = .int .i64 k := hg 23 (by kernel_rfl)
            have t25 : a.tmps.getD 25 undef = .int .i64 xs.length := hg 25 (by kernel_rfl)
            have u23 := t23
            rw [Array.getD_eq_getD_getElem?] at u23
            have u25 := t25
            rw [Array.getD_eq_getD_getElem?] at u25
            simp [Oper.wp, Oper.upon, execOp, Act.eval, go_sem, t23, u23, t25, u25, hlt, hlt1, hge, hge1, hk12, hk0, hsub, hsub2]
            exact hK _ _ (Ext.rf _) (fun d' h => by cases h; exact rfl)
          · intro a W hx hdf hsz hg hi K hK
            refine step_free rfl ?_
            have t26 : a.tmps.getD 26 undef = .bool false := hg 26 (by kernel_rfl)
            have u26 := t26
            rw [Array.getD_eq_getD_getElem?] at u26
            simp [Oper.wp, Oper.upon, execOp, Act.eval, go_sem, t26, u26, hlt, hlt1, hge, hge1, hk12, hk0, hsub, hsub2]
            exact hK _ _ (Ext.rf _) (fun d' h => by cases h; exact rfl)
          · intro a W hx hdf hsz hg hi K hK
            have G27 : a.tmps.getD 27 undef = .bool false := hg 27 (by kernel_rfl)
            exact step_guard rfl rfl (by have hz : a.tmps.size = 58 := hsz; omega) G27 (fun h => by cases h) (fun _ => hK _ _ (Ext.rf _) (fun d' h => by cases h; exact rfl))
          · intro a W hx hdf hsz hg hi K hK
            have G27 : a.tmps.getD 27 undef = .bool false := hg 27 (by kernel_rfl)
            exact step_guard rfl rfl (by have hz : a.tmps.size = 58 := hsz; omega) G27 (fun h => by cases h) (fun _ => hK _ _ (Ext.rf _) (fun d' h => by cases h; exact rfl))
          · intro a W hx hdf hsz hg hi K hK
            have G27 : a.tmps.getD 27 undef = .bool false := hg 27 (by kernel_rfl)
            exact step_guard rfl rfl (by have hz : a.tmps.size = 58 := hsz; omega) G27 (fun h => by cases h) (fun _ => hK _ _ (Ext.rf _) (fun d' h => by cases h; exact rfl))
          · intro a W hx hdf hsz hg hi K hK
            have G27 : a.tmps.getD 27 undef = .bool false := hg 27 (by kernel_rfl)
            exact step_guard rfl rfl (by have hz : a.tmps.size = 58 := hsz; omega) G27 (fun h => by cases h) (fun _ => hK _ _ (Ext.rf _) (fun d' h => by cases h; exact rfl))
          · intro a W hx hdf hsz hg hi K hK
            have G27 : a.tmps.getD 27 undef = .bool false := hg 27 (by kernel_rfl)
            exact step_guard rfl rfl (by have hz : a.tmps.size = 58 := hsz; omega) G27 (fun h => by cases h) (fun _ => hK _ _ (Ext.rf _) (fun d' h => by cases h; exact rfl))
          · intro a W hx hdf hsz hg hi K hK
            have G27 : a.tmps.getD 27 undef = .bool false := hg 27 (by kernel_rfl)
            exact step_guard rfl rfl (by have hz : a.tmps.size = 58 := hsz; omega) G27 (fun h => by cases h) (fun _ => hK _ _ (Ext.rf _) (fun d' h => by cases h; exact rfl))
          · intro a W hx hdf hsz hg hi K hK
            have G27 : a.tmps.getD 27 undef = .bool false := hg 27 (by kernel_rfl)
            exact step_guard rfl rfl (by have hz : a.tmps.size = 58 := hsz; omega) G27 (fun h => by cases h) (fun _ => hK _ _ (Ext.rf _) (fun d' h => by cases h; exact rfl))
          · intro a W hx hdf hsz hg hi K hK
            have G27 : a.tmps.getD 27 undef = .bool false := hg 27 (by kernel_rfl)
            exact step_guard rfl rfl (by have hz : a.tmps.size = 58 := hsz; omega) G27 (fun h => by cases h) (fun _ => hK _ _ (Ext.rf _) (fun d' h => by cases h; exact rfl))
          · intro a W hx hdf hsz hg hi K hK
            have G27 : a.tmps.getD 27 undef = .bool false := hg 27 (by kernel_rfl)
            exact step_guard rfl rfl (by have hz : a.tmps.size = 58 := hsz; omega) G27 (fun h => by cases h) (fun _ => hK _ _ (Ext.rf _) (fun d' h => by cases h; exact rfl))
          · intro a W hx hdf hsz hg hi K hK
            have G27 : a.tmps.getD 27 undef = .bool false := hg 27 (by kernel_rfl)
            exact step_guard rfl rfl (by have hz : a.tmps.size = 58 := hsz; omega) G27 (fun h => by cases h) (fun _ => hK _ _ (Ext.rf _) (fun d' h => by cases h; exact rfl))
          · intro a W hx hdf hsz hg hi K hK
            refine step_free rfl ?_
            have t27 : a.tmps.getD 27 undef = .bool false := hg 27 (by kernel_rfl)
            have t37 : a.tmps.getD 37 undef = undef := hg 37 (by kernel_rfl)
            have u27 := t27
            rw [Array.getD_eq_getD_getElem?] at u27
            have u37 := t37
            rw [Array.getD_eq_getD_getElem?] at u37
            simp [Oper.wp, Oper.upon, execOp, Act.eval, go_sem, t27, u27, t37, u37, hlt, hlt1, hge, hge1, hk12, hk0, hsub, hsub2]
            exact hK _ _ (Ext.rf _) (fun d' h => by cases h; exact rfl)
          · intro a W hx hdf hsz hg hi K hK
            refine step_free rfl ?_
            have t38 : a.tmps.getD 38 undef = .bool false := hg 38 (by kernel_rfl)
            have u38 := t38
            rw [Array.getD_eq_getD_getElem?] at u38
            simp [Oper.wp, Oper.upon, execOp, Act.eval, go_sem, t38, u38, hlt, hlt1, hge, hge1, hk12, hk0, hsub, hsub2]
            exact hK _ _ (Ext.rf _) (fun d' h => by cases h; exact rfl)
          · intro a W hx hdf hsz hg hi K hK
            have G39 : a.tmps.getD 39 undef = .bool false := hg 39 (by kernel_rfl)
            refine step_guard rfl rfl (by have hz : a.tmps.size = 58 := hsz; omega) G39 (fun _ => ?_) (fun h => absurd rfl h)
            have t6 : a.tmps.getD 6 undef = .int .i64 k := hi 6 (by kernel_rfl)
            have u6 := t6
            rw [Array.getD_eq_getD_getElem?] at u6
            simp [Oper.wp, Oper.upon, execOp, Act.eval, go_sem, t6, u6, hlt, hlt1, hge, hge1, hk12, hk0, hsub, hsub2]
            exact hK _ _ (Ext.rf _) (fun d' h => by cases h; exact rfl)
          · intro a W hx hdf hsz hg hi K hK
            have G39 : a.tmps.getD 39 undef = .bool false := hg 39 (by kernel_rfl)
            refine step_guard rfl rfl (by have hz : a.tmps.size = 58 := hsz; omega) G39 (fun _ => ?_) (fun h => absurd rfl h)
            have t1 : a.tmps.getD 1 undef = .slice A xs.length c' := hi 1 (by kernel_rfl)
            have u1 := t1
            rw [Array.getD_eq_getD_getElem?] at u1
            simp [Oper.wp, Oper.upon, execOp, Act.eval, go_sem, t1, u1, hlt, hlt1, hge, hge1, hk12, hk0, hsub, hsub2]
            exact hK _ _ (Ext.rf _) (fun d' h => by cases h; exact rfl)
          · intro a W hx hdf hsz hg hi K hK
            have G39 : a.tmps.getD 39 undef = .bool false := hg 39 (by kernel_rfl)
            refine step_guard rfl rfl (by have hz : a.tmps.size = 58 := hsz; omega) G39 (fun _ => ?_) (fun h => absurd rfl h)
            have t41 : a.tmps.getD 41 undef = .slice A xs.length c' := hg 41 (by kernel_rfl)
            have u41 := t41
            rw [Array.getD_eq_getD_getElem?] at u41
            simp [Oper.wp, Oper.upon, execOp, Act.eval, go_sem, t41, u41, hlt, hlt1, hge, hge1, hk12, hk0, hsub, hsub2]
            exact hK _ _ (Ext.rf _) (fun d' h => by cases h; exact rfl)
          · intro a W hx hdf hsz hg hi K hK
            have G39 : a.tmps.getD 39 undef = .bool false := hg 39 (by kernel_rfl)
            refine step_guard rfl rfl (by have hz : a.tmps.size = 58 := hsz; omega) G39 (fun _ => ?_) (fun h => absurd rfl h)
            have t40 : a.tmps.getD 40 undef = .int .i64 k := hg 40 (by kernel_rfl)
            have t42 : a.tmps.getD 42 undef = .int .i64 xs.length := hg 42 (by kernel_rfl)
            have u40 := t40
            rw [Array.getD_eq_getD_getElem?] at u40
            have u42 := t42
            rw [Array.getD_eq_getD_getElem?] at u42
            simp [Oper.wp, Oper.upon, execOp, Act.eval, go_sem, t40, u40, t42, u42, hlt, hlt1, hge, hge1, hk12, hk0, hsub, hsub2]
            exact hK _ _ (Ext.rf _) (fun d' h => by cases h; exact rfl)
          · intro a W hx hdf hsz hg hi K hK
            have G39 : a.tmps.getD 39 undef = .bool false := hg 39 (by kernel_rfl)
            refine step_guard rfl rfl (by have hz : a.tmps.size = 58 := hsz; omega) G39 (fun _ => ?_) (fun h => absurd rfl h)
            have t43 : a.tmps.getD 43 undef = .bool true := hg 43 (by kernel_rfl)
            have u43 := t43
            rw [Array.getD_eq_getD_getElem?] at u43
            simp [Oper.wp, Oper.upon, execOp, Act.eval, go_sem, t43, u43, hlt, hlt1, hge, hge1, hk12, hk0, hsub, hsub2]
            exact hK _ _ (Ext.rf _) (fun d' h => by cases h; exact rfl)
          · intro a W hx hdf hsz hg hi K hK
            have G44 : a.tmps.getD 44 undef = .bool true := hg 44 (by kernel_rfl)
            refine step_guard rfl rfl (by have hz : a.tmps.size = 58 := hsz; omega) G44 (fun _ => ?_) (fun h => absurd rfl h)
            have t5 : a.tmps.getD 5 undef = .slice (some ⟨b, 0, none⟩) (xs.length + 12) c := hi 5 (by kernel_rfl)
            have u5 := t5
            rw [Array.getD_eq_getD_getElem?] at u5
            simp [Oper.wp, Oper.upon, execOp, Act.eval, go_sem, t5, u5, hlt, hlt1, hge, hge1, hk12, hk0, hsub, hsub2]
            exact hK _ _ (Ext.rf _) (fun d' h => by cases h; exact rfl)
          · intro a W hx hdf hsz hg hi K hK
            have G44 : a.tmps.getD 44 undef = .bool true := hg 44 (by kernel_rfl)
            refine step_guard rfl rfl (by have hz : a.tmps.size = 58 := hsz; omega) G44 (fun _ => ?_) (fun h => absurd rfl h)
            have t6 : a.tmps.getD 6 undef = .int .i64 k := hi 6 (by kernel_rfl)
            have u6 := t6
            rw [Array.getD_eq_getD_getElem?] at u6
            simp [Oper.wp, Oper.upon, execOp, Act.eval, go_sem, t6, u6, hlt, hlt1, hge, hge1, hk12, hk0, hsub, hsub2]
            exact hK _ _ (Ext.rf _) (fun d' h => by cases h; exact rfl)
          · intro a W hx hdf hsz hg hi K hK
            have G44 : a.tmps.getD 44 undef = .bool true := hg 44 (by kernel_rfl)
            refine step_guard rfl rfl (by have hz : a.tmps.size = 58 := hsz; omega) G44 (fun _ => ?_) (fun h => absurd rfl h)
            have t45 : a.tmps.getD 45 undef = .slice (some ⟨b, 0, none⟩) (xs.length + 12) c := hg 45 (by kernel_rfl)
            have t46 : a.tmps.getD 46 undef = .int .i64 k := hg 46 (by kernel_rfl)
            have u45 := t45
            rw [Array.getD_eq_getD_getElem?] at u45
            have u46 := t46
            rw [Array.getD_eq_getD_getElem?] at u46
            simp [Oper.wp, Oper.upon, execOp, Act.eval, go_sem, t45, u45, t46, u46, hlt, hlt1, hge, hge1, hk12, hk0, hsub, hsub2]
            exact hK _ _ (Ext.rf _) (fun d' h => by cases h; exact rfl)
          · intro a W hx hdf hsz hg hi K hK
            have G44 : a.tmps.getD 44 undef = .bool true := hg 44 (by kernel_rfl)
            refine step_guard rfl rfl (by have hz : a.tmps.size = 58 := hsz; omega) G44 (fun _ => ?_) (fun h => absurd rfl h)
            have t47 : a.tmps.getD 47 undef = .pointer (some ⟨b, k * 6, none⟩) := hg 47 (by kernel_rfl)
            have u47 := t47
            rw [Array.getD_eq_getD_getElem?] at u47
            refine wp_load_mid 74 (.tmp 47) rfl b (k * 6) t47 ca _ (hca.ext hx) hu rfl hi1 ?_
            exact hK _ _ (Ext.rf _) (fun d' h => by cases h; exact rfl)
          · intro a W hx hdf hsz hg hi K hK
            have G44 : a.tmps.getD 44 undef = .bool true := hg 44 (by kernel_rfl)
            refine step_guard rfl rfl (by have hz : a.tmps.size = 58 := hsz; omega) G44 (fun _ => ?_) (fun h => absurd rfl h)
            have t6 : a.tmps.getD 6 undef = .int .i64 k := hi 6 (by kernel_rfl)
            have u6 := t6
            rw [Array.getD_eq_getD_getElem?] at u6
            simp [Oper.wp, Oper.upon, execOp, Act.eval, go_sem, t6, u6, hlt, hlt1, hge, hge1, hk12, hk0, hsub, hsub2]
            exact hK _ _ (Ext.rf _) (fun d' h => by cases h; exact rfl)
          · intro a W hx hdf hsz hg hi K hK
            have G44 : a.tmps.getD 44 undef = .bool true := hg 44 (by kernel_rfl)
            refine step_guard rfl rfl (by have hz : a.tmps.size = 58 := hsz; omega) G44 (fun _ => ?_) (fun h => absurd rfl h)
            have t1 : a.tmps.getD 1 undef = .slice A xs.length c' := hi 1 (by kernel_rfl)
            have u1 := t1
            rw [Array.getD_eq_getD_getElem?] at u1
            simp [Oper.wp, Oper.upon, execOp, Act.eval, go_sem, t1, u1, hlt, hlt1, hge, hge1, hk12, hk0, hsub, hsub2]
            exact hK _ _ (Ext.rf _) (fun d' h => by cases h; exact rfl)
          · intro a W hx hdf hsz hg hi K hK
            have G44 : a.tmps.getD 44 undef = .bool true := hg 44 (by kernel_rfl)
            refine step_guard rfl rfl (by have hz : a.tmps.size = 58 := hsz; omega) G44 (fun _ => ?_) (fun h => absurd rfl h)
            have t50 : a.tmps.getD 50 undef = .slice A xs.length c' := hg 50 (by kernel_rfl)
            have u50 := t50
            rw [Array.getD_eq_getD_getElem?] at u50
            simp [Oper.wp, Oper.upon, execOp, Act.eval, go_sem, t50, u50, hlt, hlt1, hge, hge1, hk12, hk0, hsub, hsub2]
            exact hK _ _ (Ext.rf _) (fun d' h => by cases h; exact rfl)
          · intro a W hx hdf hsz hg hi K hK
            have G44 : a.tmps.getD 44 undef = .bool true := hg 44 (by kernel_rfl)
            refine step_guard rfl rfl (by have hz : a.tmps.size = 58 := hsz; omega) G44 (fun _ => ?_) (fun h => absurd rfl h)
            have t49 : a.tmps.getD 49 undef = .int .i64 k := hg 49 (by kernel_rfl)
            have t51 : a.tmps.getD 51 undef = .int .i64 xs.length := hg 51 (by kernel_rfl)
            have u49 := t49
            rw [Array.getD_eq_getD_getElem?] at u49
            have u51 := t51
            rw [Array.getD_eq_getD_getElem?] at u51
            simp [Oper.wp, Oper.upon, execOp, Act.eval, go_sem, t49, u49, t51, u51, hlt, hlt1, hge, hge1, hk12, hk0, hsub, hsub2]
            exact hK _ _ (Ext.rf _) (fun d' h => by cases h; exact rfl)
          · intro a W hx hdf hsz hg hi K hK
            have G44 : a.tmps.getD 44 undef = .bool true := hg 44 (by kernel_rfl)
            refine step_guard rfl rfl (by have hz : a.tmps.size = 58 := hsz; omega) G44 (fun _ => ?_) (fun h => absurd rfl h)
            have t52 : a.tmps.getD 52 undef = .int .i64 ((k : Int) - xs.length) := hg 52 (by kernel_rfl)
            have u52 := t52
            rw [Array.getD_eq_getD_getElem?] at u52
            simp [Oper.wp, Oper.upon, execOp, Act.eval, go_sem, t52, u52]
            refine (markCtor_any ((k : Int) - xs.length) _ (by omega)).mono ?_
            rintro e w' ⟨hb, cs, rfl, hR⟩
            exact hK _ _ hb (fun d' h => by cases h; exact ⟨cs, rfl, monoC_ctor _ _ _ _ (frm_sub _ _) hR⟩)
          · intro a W hx hdf hsz hg hi K hK
            have G44 : a.tmps.getD 44 undef = .bool true := hg 44 (by kernel_rfl)
            refine step_guard rfl rfl (by have hz : a.tmps.size = 58 := hsz; omega) G44 (fun _ => ?_) (fun h => absurd rfl h)
            have t48 : a.tmps.getD 48 undef = .agg ca.toArray := hg 48 (by kernel_rfl)
            obtain ⟨cm, t53, hcm⟩ := (show ∃ cs : List Value, a.tmps.getD 53 undef = .agg cs.toArray ∧ RCtor W (mkCtor ((k : Int) - xs.length)) cs from hg 53 (by kernel_rfl))
            have u53 := t53
            rw [Array.getD_eq_getD_getElem?] at u53
            have u48 := t48
            rw [Array.getD_eq_getD_getElem?] at u48
            simp [Oper.wp, Oper.upon, execOp, Act.eval, go_sem, t53, u53, t48, u48]
            refine (sameCtor_any (mkCtor ((k : Int) - xs.length)) _ _ _ (mono_ctor _ _ _ _ hx Ra.out) hcm).mono ?_
            rintro e w' ⟨rfl, hb⟩
            exact hK _ _ hb (fun d' h => by cases h; exact rfl)
          · intro a W hx hdf hsz hg hi K hK
            have G44 : a.tmps.getD 44 undef = .bool true := hg 44 (by kernel_rfl)
            refine step_guard rfl rfl (by have hz : a.tmps.size = 58 := hsz; omega) G44 (fun _ => ?_) (fun h => absurd rfl h)
            have t54 : a.tmps.getD 54 undef = .bool true := hg 54 (by kernel_rfl)
            have u54 := t54
            rw [Array.getD_eq_getD_getElem?] at u54
            simp [Oper.wp, Oper.upon, execOp, Act.eval, go_sem, t54, u54, hlt, hlt1, hge, hge1, hk12, hk0, hsub, hsub2]
            exact hK _ _ (Ext.rf _) (fun d' h => by cases h; exact rfl)
          · intro a W hx hdf hsz hg hi K hK
            have G39 : a.tmps.getD 39 undef = .bool false := hg 39 (by kernel_rfl)
            refine step_guard rfl rfl (by have hz : a.tmps.size = 58 := hsz; omega) G39 (fun _ => ?_) (fun h => absurd rfl h)
            have t44 : a.tmps.getD 44 undef = .bool true := hg 44 (by kernel_rfl)
            have t55 : a.tmps.getD 55 undef = .bool false := hg 55 (by kernel_rfl)
            have u44 := t44
            rw [Array.getD_eq_getD_getElem?] at u44
            have u55 := t55
            rw [Array.getD_eq_getD_getElem?] at u55
            simp [Oper.wp, Oper.upon, execOp, Act.eval, go_sem, t44, u44, t55, u55, hlt, hlt1, hge, hge1, hk12, hk0, hsub, hsub2]
            exact hK _ _ (Ext.rf _) (fun d' h => by cases h; exact rfl)
          · intro a W hx hdf hsz hg hi K hK
            refine step_free rfl ?_
            have t39 : a.tmps.getD 39 undef = .bool false := hg 39 (by kernel_rfl)
            have t56 : a.tmps.getD 56 undef = .bool false := hg 56 (by kernel_rfl)
            have u39 := t39
            rw [Array.getD_eq_getD_getElem?] at u39
            have u56 := t56
            rw [Array.getD_eq_getD_getElem?] at u56
            simp [Oper.wp, Oper.upon, execOp, Act.eval, go_sem, t39, u39, t56, u56, hlt, hlt1, hge, hge1, hk12, hk0, hsub, hsub2]
            exact hK _ _ (Ext.rf _) (fun d' h => by cases h; exact rfl)
        · rintro ⟨T, D⟩ w7 hx7 hdf hsz hg hi
          have h57 : T.getD 57 undef = .bool false := hg 57 (by kernel_rfl)
          obtain ⟨f, hf, hT⟩ := frame_slots T 58 hsz
          have f57 := (hf 57).symm.trans h57
          have f0 : f 0 = .slice (some ⟨b, 0, none⟩) xs.length c := (hf 0).symm.trans (hi 0 (by kernel_rfl))
          have f1 : f 1 = .slice A xs.length c' := (hf 1).symm.trans (hi 1 (by kernel_rfl))
          have f2 : f 2 = undef := (hf 2).symm.trans (hi 2 (by kernel_rfl))
          have f3 : f 3 = undef := (hf 3).symm.trans (hi 3 (by kernel_rfl))
          have f5 : f 5 = .slice (some ⟨b, 0, none⟩) (xs.length + 12) c := (hf 5).symm.trans (hi 5 (by kernel_rfl))
          have f6 : f 6 = .int .i64 k := (hf 6).symm.trans (hi 6 (by kernel_rfl))
          have f7 : f 7 = .slice (some ⟨b, 0, none⟩) xs.length c := (hf 7).symm.trans (hi 7 (by kernel_rfl))
          have f8 : f 8 = .int .i64 xs.length := (hf 8).symm.trans (hi 8 (by kernel_rfl))
          have f9 : f 9 = .slice A xs.length c' := (hf 9).symm.trans (hi 9 (by kernel_rfl))
          have f10 : f 10 = .int .i64 xs.length := (hf 10).symm.trans (hi 10 (by kernel_rfl))
          have f11 : f 11 = .bool false := (hf 11).symm.trans (hi 11 (by kernel_rfl))
          have f12 : f 12 = .slice (some ⟨b, 0, none⟩) xs.length c := (hf 12).symm.trans (hi 12 (by kernel_rfl))
          have f13 : f 13 = .slice A xs.length c' := (hf 13).symm.trans (hi 13 (by kernel_rfl))
          have f14 : f 14 = .int .i64 xs.length := (hf 14).symm.trans (hi 14 (by kernel_rfl))
          have f15 : f 15 = .int .i64 (xs.length + 12) := (hf 15).symm.trans (hi 15 (by kernel_rfl))
          have f16 : f 16 = .slice (some ⟨b, 0, none⟩) (xs.length + 12) c := (hf 16).symm.trans (hi 16 (by kernel_rfl))
          have hD : D = [] := hdf
          clear hf hi hg hsz hdf h57
          subst hT hD
          simp only [slots, Nat.reduceAdd, f57, f0, f1, f2, f3, f5, f6, f7, f8, f9, f10, f11, f12, f13, f14, f15, f16]
          go_wp2_with fail
          exact ⟨⟨k + 1, by omega, by go_num, hx0.tr hx7⟩, by simp only [intOf]; omega⟩
      · obtain rfl : k = xs.length + 12 := by omega
        go_wp2_with fail
        go_ret
        exact ⟨rfl, hx0⟩
end Go.Proofs.YtjaklnabidbmiaaGreatDoor

/- Walks: spandrelkit's counts of how great things are: each gives some number. Printed by gen_count.py. -/
import Derived.Test.YtjaklnabidbmiaaDoorBlock2
import Derived.Test.YtjaklnabidbmiaaDoorMono
namespace Go.Proofs.YtjaklnabidbmiaaDoor
open Go.RowKit
set_option linter.unusedSimpArgs false
set_option linter.unusedVariables false
/-- It gives some number. -/
def SomeI (w : World) (e : Ending) (w' : World) : Prop := Ext w w' ∧ ∃ n : Int, e = .returned (.int .i64 n)
theorem ext_name3 {w w' : World} (h : Ext w w') : ∃ W : World, W = w' := ⟨_, rfl⟩
set_option maxRecDepth 100000 in
theorem levelOf_any (l : Level) (cs : List Value) (most : Int) (w : World) (h : RLevel w l cs) : Calls Tryd.prog 81 #[.agg cs.toArray, .int .i64 most] w (SomeI w) := by
  obtain ⟨v, rfl, ⟨A, c, rfl, _⟩⟩ := h
  go_enter Tryd.func81, Tryd.ntmps81
  go_wp2_with fail
  all_goals go_ret
  all_goals exact ⟨(Ext.rf _).al _, _, rfl⟩
set_option maxRecDepth 100000 in
set_option maxHeartbeats 1000000 in
theorem levelsOf_any (xs : List Level) (v : Value) (most : Int) (w : World) (hs : Sl RLevel 1 24 w xs v) : Calls Tryd.prog 84 #[v, .int .i64 most] w (SomeI w) := by
  obtain ⟨A, c, rfl, hc, hr⟩ := hs
  have hl := hr.len_le
  go_enter Tryd.func84, Tryd.ntmps84
  go_wp2_with fail
  go_loopw [5, 6] (fun n i wr => ∃ (k : Nat) (m : Int), k ≤ xs.length ∧ i = .int .i64 k ∧ n = .int .i64 m ∧ Ext w wr) (fun _ i _ => xs.length - (intOf i).toNat)
  case atStart => exact ⟨0, 0, by omega, rfl, rfl, Ext.rf _⟩
  case round =>
    obtain ⟨k, m, hk, rfl, rfl, hx⟩ := hrel
    obtain ⟨wr, rfl⟩ := ext_name3 hx
    by_cases hlt : k < xs.length
    · by_cases hm : m ≤ most
      · obtain ⟨b, o, cs, rfl, hR, hcs0⟩ := hr.at_ hlt
        have HR := hid (mono_level _ _ _ _ hx hR)
        obtain ⟨vp, rfl, ⟨B1, e1, rfl, _⟩⟩ := id hR
        have hcs := hcs0.ext hx
        have h0 := hcs.pick 0 rfl
        rw [Nat.add_zero] at h0
        rw [Nat.mul_one] at h0
        clear hcs hcs0 hR
        go_wp2_with fail
        refine (levelOf_any xs[k] _ _ _ HR.out).mono ?_
        rintro e w2 ⟨hx2, n, rfl⟩
        go_wp2_with fail
        exact ⟨⟨k + 1, _, by omega, by go_num, rfl, hx.tr hx2⟩, by simp only [intOf]; omega⟩
      · go_wp2_with fail
        go_ret
        exact ⟨hx, _, rfl⟩
    · obtain rfl : k = xs.length := by omega
      go_wp2_with fail
      go_ret
      exact ⟨hx, _, rfl⟩
def TermOfP (t : Term) : Prop := ∀ (cs : List Value) (most : Int) (w : World), RTerm w t cs → Calls Tryd.prog 56 #[.agg cs.toArray, .int .i64 most] w (SomeI w)
set_option maxRecDepth 100000 in
set_option maxHeartbeats 1000000 in
theorem termsOf_of (xs : List Term) (v : Value) (most : Int) (w : World) (ih : ∀ t ∈ xs, TermOfP t) (hs : Sl RTerm 5 72 w xs v) : Calls Tryd.prog 34 #[v, .int .i64 most] w (SomeI w) := by
  obtain ⟨A, c, rfl, hc, hr⟩ := hs
  have hl := hr.len_le
  have IH := hid ih
  clear ih
  go_enter Tryd.func34, Tryd.ntmps34
  go_wp2_with fail
  go_loopw [5, 6] (fun n i wr => ∃ (k : Nat) (m : Int), k ≤ xs.length ∧ i = .int .i64 k ∧ n = .int .i64 m ∧ Ext w wr) (fun _ i _ => xs.length - (intOf i).toNat)
  case atStart => exact ⟨0, 0, by omega, rfl, rfl, Ext.rf _⟩
  case round =>
    obtain ⟨k, m, hk, rfl, rfl, hx⟩ := hrel
    obtain ⟨wr, rfl⟩ := ext_name3 hx
    by_cases hlt : k < xs.length
    · by_cases hm : m ≤ most
      · obtain ⟨b, o, cs, rfl, hR, hcs0⟩ := hr.at_ hlt
        have HR := hid (mono_term _ _ _ _ hx hR)
        obtain ⟨vl, vk, rfl, _, ⟨B1, e1, rfl, _⟩, ⟨B2, e2, rfl, _⟩⟩ := rterm_open hR
        have hcs := hcs0.ext hx
        have h0 := hcs.pick 0 rfl
        have h1 := hcs.pick 1 rfl
        have h2 := hcs.pick 2 rfl
        have h3 := hcs.pick 3 rfl
        have h4 := hcs.pick 4 rfl
        rw [Nat.add_zero] at h0
        clear hcs hcs0 hR
        go_wp2_with fail
        refine (IH.out xs[k] (List.getElem_mem hlt) _ _ _ HR.out).mono ?_
        rintro e w2 ⟨hx2, n, rfl⟩
        go_wp2_with fail
        exact ⟨⟨k + 1, _, by omega, by go_num, rfl, hx.tr hx2⟩, by simp only [intOf]; omega⟩
      · go_wp2_with fail
        go_ret
        exact ⟨hx, _, rfl⟩
    · obtain rfl : k = xs.length := by omega
      go_wp2_with fail
      go_ret
      exact ⟨hx, _, rfl⟩
set_option maxRecDepth 100000 in
set_option maxHeartbeats 1000000 in
theorem termOf_step (k n a : Int) (ls : List Level) (ks : List Term) (ih : ∀ t ∈ ks, TermOfP t) : TermOfP (.mk k n a ls ks) := by
  intro cs most w h
  have IH := hid ih
  clear ih
  obtain ⟨vl, vk, rfl, _, hl, hs⟩ := rterm_iff.1 h
  obtain ⟨B1, e1, rfl, _⟩ := id hl
  obtain ⟨B2, e2, rfl, _⟩ := id hs
  have Hl := hid hl
  have Hs := hid hs
  clear h hl hs
  go_enter Tryd.func56, Tryd.ntmps56
  go_wp2_with fail
  generalize hW : w.alloc (.cells #[.int .i64 k, .int .i64 n, .int .i64 a, .slice B1 ls.length e1, .slice B2 ks.length e2] 27) = W1
  have hX : Ext w W1 := hW ▸ (Ext.rf _).al _
  have HX := hid hX
  have b3 : W1.cell? ⟨w.heap.size, 3, none⟩ = some (.slice B1 ls.length e1) := by subst hW; simp [go_sem]
  have b4 : W1.cell? ⟨w.heap.size, 4, none⟩ = some (.slice B2 ks.length e2) := by subst hW; simp [go_sem]
  clear hW hX
  refine wp_region_steps (fun s W v => match s with | 5 => v = .pointer (some ⟨w.heap.size, 3, none⟩) | 6 => v = .slice B1 ls.length e1 | 7 => v = .int .i64 most | 8 => ∃ n : Int, v = .int .i64 n | 9 => ∃ n : Int, v = .int .i64 n | 10 => v = .pointer (some ⟨w.heap.size, 4, none⟩) | 11 => v = .slice B2 ks.length e2 | 12 => v = .int .i64 most | 13 => ∃ n : Int, v = .int .i64 n | 14 => ∃ n : Int, v = .int .i64 n | 4 => ∃ n : Int, v = .int .i64 n | _ => True) (by kernel_rfl) (by kernel_rfl) (of_decide_eq_true (by kernel_rfl)) (by kernel_rfl) (fun s W W' v _ h => h) ?_ ?_
  · refine ⟨?_, ?_, ?_, ?_, ?_, ?_, ?_, ?_, ?_, ?_, ?_, trivial⟩
    · intro a W hx hdf hsz hg hi K hK
      refine step_free rfl ?_
      have t2 : a.tmps.getD 2 undef = .pointer (some ⟨w.heap.size, 0, none⟩) := hi 2 (by kernel_rfl)
      have u2 := t2
      rw [Array.getD_eq_getD_getElem?] at u2
      simp [Oper.wp, Oper.upon, execOp, Act.eval, go_sem, t2, u2]
      exact hK _ _ (Ext.rf _) (fun d' h => by cases h; exact rfl)
    · intro a W hx hdf hsz hg hi K hK
      refine step_free rfl ?_
      have t5 : a.tmps.getD 5 undef = .pointer (some ⟨w.heap.size, 3, none⟩) := hg 5 (by kernel_rfl)
      have u5 := t5
      rw [Array.getD_eq_getD_getElem?] at u5
      have q := hx.cell b3
      simp [Oper.wp, Oper.upon, execOp, Act.eval, go_sem, t5, u5, q]
      exact hK _ _ (Ext.rf _) (fun d' h => by cases h; exact rfl)
    · intro a W hx hdf hsz hg hi K hK
      refine step_free rfl ?_
      have t1 : a.tmps.getD 1 undef = .int .i64 most := hi 1 (by kernel_rfl)
      have u1 := t1
      rw [Array.getD_eq_getD_getElem?] at u1
      simp [Oper.wp, Oper.upon, execOp, Act.eval, go_sem, t1, u1]
      exact hK _ _ (Ext.rf _) (fun d' h => by cases h; exact rfl)
    · intro a W hx hdf hsz hg hi K hK
      refine step_free rfl ?_
      have t6 : a.tmps.getD 6 undef = .slice B1 ls.length e1 := hg 6 (by kernel_rfl)
      have t7 : a.tmps.getD 7 undef = .int .i64 most := hg 7 (by kernel_rfl)
      have u6 := t6
      rw [Array.getD_eq_getD_getElem?] at u6
      have u7 := t7
      rw [Array.getD_eq_getD_getElem?] at u7
      simp [Oper.wp, Oper.upon, execOp, Act.eval, go_sem, t6, u6, t7, u7]
      refine (levelsOf_any ls _ _ _ (Hl.out.ext mono_level (HX.out.tr hx))).mono ?_
      rintro e w' ⟨hb, n, rfl⟩
      exact hK _ _ hb (fun d' h => by cases h; exact ⟨n, rfl⟩)
    · intro a W hx hdf hsz hg hi K hK
      refine step_free rfl ?_
      obtain ⟨n8, t8⟩ := (show ∃ n : Int, a.tmps.getD 8 undef = .int .i64 n from hg 8 (by kernel_rfl))
      have u8 := t8
      rw [Array.getD_eq_getD_getElem?] at u8
      simp [Oper.wp, Oper.upon, execOp, Act.eval, go_sem, t8, u8]
      exact hK _ _ (Ext.rf _) (fun d' h => by cases h; exact ⟨_, rfl⟩)
    · intro a W hx hdf hsz hg hi K hK
      refine step_free rfl ?_
      have t2 : a.tmps.getD 2 undef = .pointer (some ⟨w.heap.size, 0, none⟩) := hi 2 (by kernel_rfl)
      have u2 := t2
      rw [Array.getD_eq_getD_getElem?] at u2
      simp [Oper.wp, Oper.upon, execOp, Act.eval, go_sem, t2, u2]
      exact hK _ _ (Ext.rf _) (fun d' h => by cases h; exact rfl)
    · intro a W hx hdf hsz hg hi K hK
      refine step_free rfl ?_
      have t10 : a.tmps.getD 10 undef = .pointer (some ⟨w.heap.size, 4, none⟩) := hg 10 (by kernel_rfl)
      have u10 := t10
      rw [Array.getD_eq_getD_getElem?] at u10
      have q := hx.cell b4
      simp [Oper.wp, Oper.upon, execOp, Act.eval, go_sem, t10, u10, q]
      exact hK _ _ (Ext.rf _) (fun d' h => by cases h; exact rfl)
    · intro a W hx hdf hsz hg hi K hK
      refine step_free rfl ?_
      have t1 : a.tmps.getD 1 undef = .int .i64 most := hi 1 (by kernel_rfl)
      have u1 := t1
      rw [Array.getD_eq_getD_getElem?] at u1
      simp [Oper.wp, Oper.upon, execOp, Act.eval, go_sem, t1, u1]
      exact hK _ _ (Ext.rf _) (fun d' h => by cases h; exact rfl)
    · intro a W hx hdf hsz hg hi K hK
      refine step_free rfl ?_
      have t11 : a.tmps.getD 11 undef = .slice B2 ks.length e2 := hg 11 (by kernel_rfl)
      have t12 : a.tmps.getD 12 undef = .int .i64 most := hg 12 (by kernel_rfl)
      have u11 := t11
      rw [Array.getD_eq_getD_getElem?] at u11
      have u12 := t12
      rw [Array.getD_eq_getD_getElem?] at u12
      simp [Oper.wp, Oper.upon, execOp, Act.eval, go_sem, t11, u11, t12, u12]
      refine (termsOf_of ks _ _ _ IH.out (Hs.out.ext mono_term (HX.out.tr hx))).mono ?_
      rintro e w' ⟨hb, n, rfl⟩
      exact hK _ _ hb (fun d' h => by cases h; exact ⟨n, rfl⟩)
    · intro a W hx hdf hsz hg hi K hK
      refine step_free rfl ?_
      obtain ⟨n9, t9⟩ := (show ∃ n : Int, a.tmps.getD 9 undef = .int .i64 n from hg 9 (by kernel_rfl))
      have u9 := t9
      rw [Array.getD_eq_getD_getElem?] at u9
      obtain ⟨n13, t13⟩ := (show ∃ n : Int, a.tmps.getD 13 undef = .int .i64 n from hg 13 (by kernel_rfl))
      have u13 := t13
      rw [Array.getD_eq_getD_getElem?] at u13
      simp [Oper.wp, Oper.upon, execOp, Act.eval, go_sem, t9, u9, t13, u13]
      exact hK _ _ (Ext.rf _) (fun d' h => by cases h; exact ⟨_, rfl⟩)
    · intro a W hx hdf hsz hg hi K hK
      refine step_free rfl ?_
      obtain ⟨n14, t14⟩ := (show ∃ n : Int, a.tmps.getD 14 undef = .int .i64 n from hg 14 (by kernel_rfl))
      have u14 := t14
      rw [Array.getD_eq_getD_getElem?] at u14
      simp [Oper.wp, Oper.upon, execOp, Act.eval, go_sem, t14, u14]
      exact hK _ _ (Ext.rf _) (fun d' h => by cases h; exact ⟨_, rfl⟩)
  · rintro ⟨T, D⟩ w7 hx7 hdf hsz hg hi
    obtain ⟨n, hn⟩ := (show ∃ n : Int, T.getD 4 undef = .int .i64 n from hg 4 (by kernel_rfl))
    obtain ⟨f, hf, hT⟩ := frame_slots T 15 hsz
    have fr := (hf 4).symm.trans hn
    have hD : D = [] := hdf
    clear hf hi hg hsz hdf hn
    subst hT hD
    simp only [slots, Nat.reduceAdd, fr]
    go_wp2_with fail
    go_ret
    exact ⟨HX.out.tr hx7, _, rfl⟩
theorem termOf_any (t : Term) : TermOfP t := Term.ind (fun k n a ls ks ih => termOf_step k n a ls ks ih) t
theorem termsOf_any (xs : List Term) (v : Value) (most : Int) (w : World) (hs : SlTerm w xs v) : Calls Tryd.prog 34 #[v, .int .i64 most] w (SomeI w) := termsOf_of xs v most w (fun t _ => termOf_any t) hs
set_option maxRecDepth 100000 in
set_option maxHeartbeats 1000000 in
theorem membersOf_any (xs : List Member) (v : Value) (most : Int) (w : World) (hs : Sl RMember 1 24 w xs v) : Calls Tryd.prog 82 #[v, .int .i64 most] w (SomeI w) := by
  obtain ⟨A, c, rfl, hc, hr⟩ := hs
  have hl := hr.len_le
  go_enter Tryd.func82, Tryd.ntmps82
  go_wp2_with fail
  go_loopw [5, 6] (fun n i wr => ∃ (k : Nat) (m : Int), k ≤ xs.length ∧ i = .int .i64 k ∧ n = .int .i64 m ∧ Ext w wr) (fun _ i _ => xs.length - (intOf i).toNat)
  case atStart => exact ⟨0, 0, by omega, rfl, rfl, Ext.rf _⟩
  case round =>
    obtain ⟨k, m, hk, rfl, rfl, hx⟩ := hrel
    obtain ⟨wr, rfl⟩ := ext_name3 hx
    by_cases hlt : k < xs.length
    · by_cases hm : m ≤ most
      · obtain ⟨b, o, cs, rfl, hR, hcs0⟩ := hr.at_ hlt
        have HR := hid (mono_member _ _ _ _ hx hR)
        obtain ⟨vp, rfl, hsi⟩ := id hR
        obtain ⟨B1, e1, rfl, _⟩ := id hsi
        have Hsi := hid (hsi.ext mono_term hx)
        clear hsi
        have hcs := hcs0.ext hx
        have h0 := hcs.pick 0 rfl
        rw [Nat.add_zero] at h0
        rw [Nat.mul_one] at h0
        clear hcs hcs0 hR
        go_wp2_with fail
        refine (termsOf_any xs[k].index _ _ _ Hsi.out).mono ?_
        rintro e w2 ⟨hx2, n, rfl⟩
        go_wp2_with fail
        exact ⟨⟨k + 1, _, by omega, by go_num, rfl, hx.tr hx2⟩, by simp only [intOf]; omega⟩
      · go_wp2_with fail
        go_ret
        exact ⟨hx, _, rfl⟩
    · obtain rfl : k = xs.length := by omega
      go_wp2_with fail
      go_ret
      exact ⟨hx, _, rfl⟩
set_option maxRecDepth 100000 in
set_option maxHeartbeats 1000000 in
theorem ctorsOf_any (xs : List Ctor) (v : Value) (most : Int) (w : World) (hs : Sl RCtor 6 80 w xs v) : Calls Tryd.prog 83 #[v, .int .i64 most] w (SomeI w) := by
  obtain ⟨A, c, rfl, hc, hr⟩ := hs
  have hl := hr.len_le
  go_enter Tryd.func83, Tryd.ntmps83
  go_wp2_with fail
  go_loopw [5, 6] (fun n i wr => ∃ (k : Nat) (m : Int), k ≤ xs.length ∧ i = .int .i64 k ∧ n = .int .i64 m ∧ Ext w wr) (fun _ i _ => xs.length - (intOf i).toNat)
  case atStart => exact ⟨0, 0, by omega, rfl, rfl, Ext.rf _⟩
  case round =>
    obtain ⟨k, m, hk, rfl, rfl, hx⟩ := hrel
    obtain ⟨wr, rfl⟩ := ext_name3 hx
    by_cases hlt : k < xs.length
    · by_cases hm : m ≤ most
      · obtain ⟨b, o, cs, rfl, hR, hcs0⟩ := hr.at_ hlt
        have HR := hid (mono_ctor _ _ _ _ hx hR)
        obtain ⟨ct, rfl, _, hct⟩ := id hR
        have Hct := hid (mono_term _ _ _ _ hx hct)
        obtain ⟨vl, vk, rfl, _, ⟨B1, e1, rfl, _⟩, ⟨B2, e2, rfl, _⟩⟩ := rterm_open hct
        clear hct
        have hcs := hcs0.ext hx
        have h0 := hcs.pick 0 rfl
        have h1 := hcs.pick 1 rfl
        have h2 := hcs.pick 2 rfl
        have h3 := hcs.pick 3 rfl
        have h4 := hcs.pick 4 rfl
        have h5 := hcs.pick 5 rfl
        rw [Nat.add_zero] at h0
        clear hcs hcs0 hR
        go_wp2_with fail
        refine (termOf_any xs[k].type _ _ _ Hct.out).mono ?_
        rintro e w2 ⟨hx2, n, rfl⟩
        go_wp2_with fail
        exact ⟨⟨k + 1, _, by omega, by go_num, rfl, hx.tr hx2⟩, by simp only [intOf]; omega⟩
      · go_wp2_with fail
        go_ret
        exact ⟨hx, _, rfl⟩
    · obtain rfl : k = xs.length := by omega
      go_wp2_with fail
      go_ret
      exact ⟨hx, _, rfl⟩
set_option maxRecDepth 100000 in
set_option maxHeartbeats 2000000 in
theorem declOf_any (d : Decl) (cs : List Value) (most : Int) (w : World) (h : RDecl w d cs) : Calls Tryd.prog 55 #[.agg cs.toArray, .int .i64 most] w (SomeI w) := by
  obtain ⟨A1, c1, A2, c2, A3, c3, A4, c4, cp, vp, cS, vS, cm, vm, cc, vc, rfl, hik, hil, ht, hb, hp, hS, hm, hc⟩ := rdecl_open h
  have Ht := hid ht
  have Hb := hid hb
  have Hp := hid hp
  have HS := hid hS
  have Hm := hid hm
  have Hc := hid hc
  clear ht hb hp hS hm hc h hik hil
  go_enter Tryd.func55, Tryd.ntmps55
  go_wp2_with fail
  generalize hW : w.alloc (.cells #[.int .i64 d.kind, .int .i64 d.levels, .int .i64 d.type.kind, .int .i64 d.type.num, .int .i64 d.type.at_, .slice A1 d.type.levels.length c1, .slice A2 d.type.kids.length c2, .int .i64 d.body.kind, .int .i64 d.body.num, .int .i64 d.body.at_, .slice A3 d.body.levels.length c3, .slice A4 d.body.kids.length c4, .slice vp d.params.length cp, .slice vS d.sort.parts.length cS, .slice vm d.members.length cm, .slice vc d.ctors.length cc] 34) = W1
  have hX : Ext w W1 := hW ▸ (Ext.rf _).al _
  have HX := hid hX
  have b2 : W1.cell? ⟨w.heap.size, 2, none⟩ = some (.int .i64 d.type.kind) := by subst hW; simp [go_sem]
  have b3 : W1.cell? ⟨w.heap.size, 3, none⟩ = some (.int .i64 d.type.num) := by subst hW; simp [go_sem]
  have b4 : W1.cell? ⟨w.heap.size, 4, none⟩ = some (.int .i64 d.type.at_) := by subst hW; simp [go_sem]
  have b5 : W1.cell? ⟨w.heap.size, 5, none⟩ = some (.slice A1 d.type.levels.length c1) := by subst hW; simp [go_sem]
  have b6 : W1.cell? ⟨w.heap.size, 6, none⟩ = some (.slice A2 d.type.kids.length c2) := by subst hW; simp [go_sem]
  have b7 : W1.cell? ⟨w.heap.size, 7, none⟩ = some (.int .i64 d.body.kind) := by subst hW; simp [go_sem]
  have b8 : W1.cell? ⟨w.heap.size, 8, none⟩ = some (.int .i64 d.body.num) := by subst hW; simp [go_sem]
  have b9 : W1.cell? ⟨w.heap.size, 9, none⟩ = some (.int .i64 d.body.at_) := by subst hW; simp [go_sem]
  have b10 : W1.cell? ⟨w.heap.size, 10, none⟩ = some (.slice A3 d.body.levels.length c3) := by subst hW; simp [go_sem]
  have b11 : W1.cell? ⟨w.heap.size, 11, none⟩ = some (.slice A4 d.body.kids.length c4) := by subst hW; simp [go_sem]
  have b12 : W1.cell? ⟨w.heap.size, 12, none⟩ = some (.slice vp d.params.length cp) := by subst hW; simp [go_sem]
  have b13 : W1.cell? ⟨w.heap.size, 13, none⟩ = some (.slice vS d.sort.parts.length cS) := by subst hW; simp [go_sem]
  have b14 : W1.cell? ⟨w.heap.size, 14, none⟩ = some (.slice vm d.members.length cm) := by subst hW; simp [go_sem]
  have b15 : W1.cell? ⟨w.heap.size, 15, none⟩ = some (.slice vc d.ctors.length cc) := by subst hW; simp [go_sem]
  clear hW hX
  refine wp_region_steps (fun s W v => match s with | 5 => v = .pointer (some ⟨w.heap.size, 2, none⟩) | 6 => v = .agg #[.int .i64 d.type.kind, .int .i64 d.type.num, .int .i64 d.type.at_, .slice A1 d.type.levels.length c1, .slice A2 d.type.kids.length c2] | 7 => v = .int .i64 most | 8 => ∃ n : Int, v = .int .i64 n | 9 => ∃ n : Int, v = .int .i64 n | 10 => v = .pointer (some ⟨w.heap.size, 7, none⟩) | 11 => v = .agg #[.int .i64 d.body.kind, .int .i64 d.body.num, .int .i64 d.body.at_, .slice A3 d.body.levels.length c3, .slice A4 d.body.kids.length c4] | 12 => v = .int .i64 most | 13 => ∃ n : Int, v = .int .i64 n | 14 => ∃ n : Int, v = .int .i64 n | 15 => v = .pointer (some ⟨w.heap.size, 12, none⟩) | 16 => v = .slice vp d.params.length cp | 17 => v = .int .i64 most | 18 => ∃ n : Int, v = .int .i64 n | 19 => ∃ n : Int, v = .int .i64 n | 20 => v = .pointer (some ⟨w.heap.size, 13, none⟩) | 21 => v = .agg #[.slice vS d.sort.parts.length cS] | 22 => v = .int .i64 most | 23 => ∃ n : Int, v = .int .i64 n | 24 => ∃ n : Int, v = .int .i64 n | 25 => v = .pointer (some ⟨w.heap.size, 14, none⟩) | 26 => v = .slice vm d.members.length cm | 27 => v = .int .i64 most | 28 => ∃ n : Int, v = .int .i64 n | 29 => ∃ n : Int, v = .int .i64 n | 30 => v = .pointer (some ⟨w.heap.size, 15, none⟩) | 31 => v = .slice vc d.ctors.length cc | 32 => v = .int .i64 most | 33 => ∃ n : Int, v = .int .i64 n | 34 => ∃ n : Int, v = .int .i64 n | 4 => ∃ n : Int, v = .int .i64 n | _ => True) (by kernel_rfl) (by kernel_rfl) (of_decide_eq_true (by kernel_rfl)) (by kernel_rfl) (fun s W W' v _ h => h) ?_ ?_
  · refine ⟨?_, ?_, ?_, ?_, ?_, ?_, ?_, ?_, ?_, ?_, ?_, ?_, ?_, ?_, ?_, ?_, ?_, ?_, ?_, ?_, ?_, ?_, ?_, ?_, ?_, ?_, ?_, ?_, ?_, ?_, ?_, trivial⟩
    · intro a W hx hdf hsz hg hi K hK
      refine step_free rfl ?_
      have t2 : a.tmps.getD 2 undef = .pointer (some ⟨w.heap.size, 0, none⟩) := hi 2 (by kernel_rfl)
      have u2 := t2
      rw [Array.getD_eq_getD_getElem?] at u2
      simp [Oper.wp, Oper.upon, execOp, Act.eval, go_sem, t2, u2]
      exact hK _ _ (Ext.rf _) (fun d' h => by cases h; exact rfl)
    · intro a W hx hdf hsz hg hi K hK
      refine step_free rfl ?_
      have t5 : a.tmps.getD 5 undef = .pointer (some ⟨w.heap.size, 2, none⟩) := hg 5 (by kernel_rfl)
      have u5 := t5
      rw [Array.getD_eq_getD_getElem?] at u5
      have q2 := hx.cell b2
      have q3 := hx.cell b3
      have q4 := hx.cell b4
      have q5 := hx.cell b5
      have q6 := hx.cell b6
      simp [Oper.wp, Oper.upon, execOp, Act.eval, go_sem, t5, u5, q2, q3, q4, q5, q6]
      exact hK _ _ (Ext.rf _) (fun d' h => by cases h; exact rfl)
    · intro a W hx hdf hsz hg hi K hK
      refine step_free rfl ?_
      have t1 : a.tmps.getD 1 undef = .int .i64 most := hi 1 (by kernel_rfl)
      have u1 := t1
      rw [Array.getD_eq_getD_getElem?] at u1
      simp [Oper.wp, Oper.upon, execOp, Act.eval, go_sem, t1, u1]
      exact hK _ _ (Ext.rf _) (fun d' h => by cases h; exact rfl)
    · intro a W hx hdf hsz hg hi K hK
      refine step_free rfl ?_
      have t6 : a.tmps.getD 6 undef = .agg #[.int .i64 d.type.kind, .int .i64 d.type.num, .int .i64 d.type.at_, .slice A1 d.type.levels.length c1, .slice A2 d.type.kids.length c2] := hg 6 (by kernel_rfl)
      have t7 : a.tmps.getD 7 undef = .int .i64 most := hg 7 (by kernel_rfl)
      have u6 := t6
      rw [Array.getD_eq_getD_getElem?] at u6
      have u7 := t7
      rw [Array.getD_eq_getD_getElem?] at u7
      simp [Oper.wp, Oper.upon, execOp, Act.eval, go_sem, t6, u6, t7, u7]
      refine (termOf_any d.type _ _ _ (mono_term _ _ _ _ (HX.out.tr hx) Ht.out)).mono ?_
      rintro e w' ⟨hb, n, rfl⟩
      exact hK _ _ hb (fun d' h => by cases h; exact ⟨n, rfl⟩)
    · intro a W hx hdf hsz hg hi K hK
      refine step_free rfl ?_
      obtain ⟨n8, t8⟩ := (show ∃ n : Int, a.tmps.getD 8 undef = .int .i64 n from hg 8 (by kernel_rfl))
      have u8 := t8
      rw [Array.getD_eq_getD_getElem?] at u8
      simp [Oper.wp, Oper.upon, execOp, Act.eval, go_sem, t8, u8]
      exact hK _ _ (Ext.rf _) (fun d' h => by cases h; exact ⟨_, rfl⟩)
    · intro a W hx hdf hsz hg hi K hK
      refine step_free rfl ?_
      have t2 : a.tmps.getD 2 undef = .pointer (some ⟨w.heap.size, 0, none⟩) := hi 2 (by kernel_rfl)
      have u2 := t2
      rw [Array.getD_eq_getD_getElem?] at u2
      simp [Oper.wp, Oper.upon, execOp, Act.eval, go_sem, t2, u2]
      exact hK _ _ (Ext.rf _) (fun d' h => by cases h; exact rfl)
    · intro a W hx hdf hsz hg hi K hK
      refine step_free rfl ?_
      have t10 : a.tmps.getD 10 undef = .pointer (some ⟨w.heap.size, 7, none⟩) := hg 10 (by kernel_rfl)
      have u10 := t10
      rw [Array.getD_eq_getD_getElem?] at u10
      have q7 := hx.cell b7
      have q8 := hx.cell b8
      have q9 := hx.cell b9
      have q10 := hx.cell b10
      have q11 := hx.cell b11
      simp [Oper.wp, Oper.upon, execOp, Act.eval, go_sem, t10, u10, q7, q8, q9, q10, q11]
      exact hK _ _ (Ext.rf _) (fun d' h => by cases h; exact rfl)
    · intro a W hx hdf hsz hg hi K hK
      refine step_free rfl ?_
      have t1 : a.tmps.getD 1 undef = .int .i64 most := hi 1 (by kernel_rfl)
      have u1 := t1
      rw [Array.getD_eq_getD_getElem?] at u1
      simp [Oper.wp, Oper.upon, execOp, Act.eval, go_sem, t1, u1]
      exact hK _ _ (Ext.rf _) (fun d' h => by cases h; exact rfl)
    · intro a W hx hdf hsz hg hi K hK
      refine step_free rfl ?_
      have t11 : a.tmps.getD 11 undef = .agg #[.int .i64 d.body.kind, .int .i64 d.body.num, .int .i64 d.body.at_, .slice A3 d.body.levels.length c3, .slice A4 d.body.kids.length c4] := hg 11 (by kernel_rfl)
      have t12 : a.tmps.getD 12 undef = .int .i64 most := hg 12 (by kernel_rfl)
      have u11 := t11
      rw [Array.getD_eq_getD_getElem?] at u11
      have u12 := t12
      rw [Array.getD_eq_getD_getElem?] at u12
      simp [Oper.wp, Oper.upon, execOp, Act.eval, go_sem, t11, u11, t12, u12]
      refine (termOf_any d.body _ _ _ (mono_term _ _ _ _ (HX.out.tr hx) Hb.out)).mono ?_
      rintro e w' ⟨hb, n, rfl⟩
      exact hK _ _ hb (fun d' h => by cases h; exact ⟨n, rfl⟩)
    · intro a W hx hdf hsz hg hi K hK
      refine step_free rfl ?_
      obtain ⟨n9, t9⟩ := (show ∃ n : Int, a.tmps.getD 9 undef = .int .i64 n from hg 9 (by kernel_rfl))
      have u9 := t9
      rw [Array.getD_eq_getD_getElem?] at u9
      obtain ⟨n13, t13⟩ := (show ∃ n : Int, a.tmps.getD 13 undef = .int .i64 n from hg 13 (by kernel_rfl))
      have u13 := t13
      rw [Array.getD_eq_getD_getElem?] at u13
      simp [Oper.wp, Oper.upon, execOp, Act.eval, go_sem, t9, u9, t13, u13]
      exact hK _ _ (Ext.rf _) (fun d' h => by cases h; exact ⟨_, rfl⟩)
    · intro a W hx hdf hsz hg hi K hK
      refine step_free rfl ?_
      have t2 : a.tmps.getD 2 undef = .pointer (some ⟨w.heap.size, 0, none⟩) := hi 2 (by kernel_rfl)
      have u2 := t2
      rw [Array.getD_eq_getD_getElem?] at u2
      simp [Oper.wp, Oper.upon, execOp, Act.eval, go_sem, t2, u2]
      exact hK _ _ (Ext.rf _) (fun d' h => by cases h; exact rfl)
    · intro a W hx hdf hsz hg hi K hK
      refine step_free rfl ?_
      have t15 : a.tmps.getD 15 undef = .pointer (some ⟨w.heap.size, 12, none⟩) := hg 15 (by kernel_rfl)
      have u15 := t15
      rw [Array.getD_eq_getD_getElem?] at u15
      have q12 := hx.cell b12
      simp [Oper.wp, Oper.upon, execOp, Act.eval, go_sem, t15, u15, q12]
      exact hK _ _ (Ext.rf _) (fun d' h => by cases h; exact rfl)
    · intro a W hx hdf hsz hg hi K hK
      refine step_free rfl ?_
      have t1 : a.tmps.getD 1 undef = .int .i64 most := hi 1 (by kernel_rfl)
      have u1 := t1
      rw [Array.getD_eq_getD_getElem?] at u1
      simp [Oper.wp, Oper.upon, execOp, Act.eval, go_sem, t1, u1]
      exact hK _ _ (Ext.rf _) (fun d' h => by cases h; exact rfl)
    · intro a W hx hdf hsz hg hi K hK
      refine step_free rfl ?_
      have t16 : a.tmps.getD 16 undef = .slice vp d.params.length cp := hg 16 (by kernel_rfl)
      have t17 : a.tmps.getD 17 undef = .int .i64 most := hg 17 (by kernel_rfl)
      have u16 := t16
      rw [Array.getD_eq_getD_getElem?] at u16
      have u17 := t17
      rw [Array.getD_eq_getD_getElem?] at u17
      simp [Oper.wp, Oper.upon, execOp, Act.eval, go_sem, t16, u16, t17, u17]
      refine (termsOf_any d.params _ _ _ (Hp.out.ext mono_term (HX.out.tr hx))).mono ?_
      rintro e w' ⟨hb, n, rfl⟩
      exact hK _ _ hb (fun d' h => by cases h; exact ⟨n, rfl⟩)
    · intro a W hx hdf hsz hg hi K hK
      refine step_free rfl ?_
      obtain ⟨n14, t14⟩ := (show ∃ n : Int, a.tmps.getD 14 undef = .int .i64 n from hg 14 (by kernel_rfl))
      have u14 := t14
      rw [Array.getD_eq_getD_getElem?] at u14
      obtain ⟨n18, t18⟩ := (show ∃ n : Int, a.tmps.getD 18 undef = .int .i64 n from hg 18 (by kernel_rfl))
      have u18 := t18
      rw [Array.getD_eq_getD_getElem?] at u18
      simp [Oper.wp, Oper.upon, execOp, Act.eval, go_sem, t14, u14, t18, u18]
      exact hK _ _ (Ext.rf _) (fun d' h => by cases h; exact ⟨_, rfl⟩)
    · intro a W hx hdf hsz hg hi K hK
      refine step_free rfl ?_
      have t2 : a.tmps.getD 2 undef = .pointer (some ⟨w.heap.size, 0, none⟩) := hi 2 (by kernel_rfl)
      have u2 := t2
      rw [Array.getD_eq_getD_getElem?] at u2
      simp [Oper.wp, Oper.upon, execOp, Act.eval, go_sem, t2, u2]
      exact hK _ _ (Ext.rf _) (fun d' h => by cases h; exact rfl)
    · intro a W hx hdf hsz hg hi K hK
      refine step_free rfl ?_
      have t20 : a.tmps.getD 20 undef = .pointer (some ⟨w.heap.size, 13, none⟩) := hg 20 (by kernel_rfl)
      have u20 := t20
      rw [Array.getD_eq_getD_getElem?] at u20
      have q13 := hx.cell b13
      simp [Oper.wp, Oper.upon, execOp, Act.eval, go_sem, t20, u20, q13]
      exact hK _ _ (Ext.rf _) (fun d' h => by cases h; exact rfl)
    · intro a W hx hdf hsz hg hi K hK
      refine step_free rfl ?_
      have t1 : a.tmps.getD 1 undef = .int .i64 most := hi 1 (by kernel_rfl)
      have u1 := t1
      rw [Array.getD_eq_getD_getElem?] at u1
      simp [Oper.wp, Oper.upon, execOp, Act.eval, go_sem, t1, u1]
      exact hK _ _ (Ext.rf _) (fun d' h => by cases h; exact rfl)
    · intro a W hx hdf hsz hg hi K hK
      refine step_free rfl ?_
      have t21 : a.tmps.getD 21 undef = .agg #[.slice vS d.sort.parts.length cS] := hg 21 (by kernel_rfl)
      have t22 : a.tmps.getD 22 undef = .int .i64 most := hg 22 (by kernel_rfl)
      have u21 := t21
      rw [Array.getD_eq_getD_getElem?] at u21
      have u22 := t22
      rw [Array.getD_eq_getD_getElem?] at u22
      simp [Oper.wp, Oper.upon, execOp, Act.eval, go_sem, t21, u21, t22, u22]
      refine (levelOf_any d.sort _ _ _ ⟨_, rfl, HS.out.ext mono_part (HX.out.tr hx)⟩).mono ?_
      rintro e w' ⟨hb, n, rfl⟩
      exact hK _ _ hb (fun d' h => by cases h; exact ⟨n, rfl⟩)
    · intro a W hx hdf hsz hg hi K hK
      refine step_free rfl ?_
      obtain ⟨n19, t19⟩ := (show ∃ n : Int, a.tmps.getD 19 undef = .int .i64 n from hg 19 (by kernel_rfl))
      have u19 := t19
      rw [Array.getD_eq_getD_getElem?] at u19
      obtain ⟨n23, t23⟩ := (show ∃ n : Int, a.tmps.getD 23 undef = .int .i64 n from hg 23 (by kernel_rfl))
      have u23 := t23
      rw [Array.getD_eq_getD_getElem?] at u23
      simp [Oper.wp, Oper.upon, execOp, Act.eval, go_sem, t19, u19, t23, u23]
      exact hK _ _ (Ext.rf _) (fun d' h => by cases h; exact ⟨_, rfl⟩)
    · intro a W hx hdf hsz hg hi K hK
      refine step_free rfl ?_
      have t2 : a.tmps.getD 2 undef = .pointer (some ⟨w.heap.size, 0, none⟩) := hi 2 (by kernel_rfl)
      have u2 := t2
      rw [Array.getD_eq_getD_getElem?] at u2
      simp [Oper.wp, Oper.upon, execOp, Act.eval, go_sem, t2, u2]
      exact hK _ _ (Ext.rf _) (fun d' h => by cases h; exact rfl)
    · intro a W hx hdf hsz hg hi K hK
      refine step_free rfl ?_
      have t25 : a.tmps.getD 25 undef = .pointer (some ⟨w.heap.size, 14, none⟩) := hg 25 (by kernel_rfl)
      have u25 := t25
      rw [Array.getD_eq_getD_getElem?] at u25
      have q14 := hx.cell b14
      simp [Oper.wp, Oper.upon, execOp, Act.eval, go_sem, t25, u25, q14]
      exact hK _ _ (Ext.rf _) (fun d' h => by cases h; exact rfl)
    · intro a W hx hdf hsz hg hi K hK
      refine step_free rfl ?_
      have t1 : a.tmps.getD 1 undef = .int .i64 most := hi 1 (by kernel_rfl)
      have u1 := t1
      rw [Array.getD_eq_getD_getElem?] at u1
      simp [Oper.wp, Oper.upon, execOp, Act.eval, go_sem, t1, u1]
      exact hK _ _ (Ext.rf _) (fun d' h => by cases h; exact rfl)
    · intro a W hx hdf hsz hg hi K hK
      refine step_free rfl ?_
      have t26 : a.tmps.getD 26 undef = .slice vm d.members.length cm := hg 26 (by kernel_rfl)
      have t27 : a.tmps.getD 27 undef = .int .i64 most := hg 27 (by kernel_rfl)
      have u26 := t26
      rw [Array.getD_eq_getD_getElem?] at u26
      have u27 := t27
      rw [Array.getD_eq_getD_getElem?] at u27
      simp [Oper.wp, Oper.upon, execOp, Act.eval, go_sem, t26, u26, t27, u27]
      refine (membersOf_any d.members _ _ _ (Hm.out.ext mono_member (HX.out.tr hx))).mono ?_
      rintro e w' ⟨hb, n, rfl⟩
      exact hK _ _ hb (fun d' h => by cases h; exact ⟨n, rfl⟩)
    · intro a W hx hdf hsz hg hi K hK
      refine step_free rfl ?_
      obtain ⟨n24, t24⟩ := (show ∃ n : Int, a.tmps.getD 24 undef = .int .i64 n from hg 24 (by kernel_rfl))
      have u24 := t24
      rw [Array.getD_eq_getD_getElem?] at u24
      obtain ⟨n28, t28⟩ := (show ∃ n : Int, a.tmps.getD 28 undef = .int .i64 n from hg 28 (by kernel_rfl))
      have u28 := t28
      rw [Array.getD_eq_getD_getElem?] at u28
      simp [Oper.wp, Oper.upon, execOp, Act.eval, go_sem, t24, u24, t28, u28]
      exact hK _ _ (Ext.rf _) (fun d' h => by cases h; exact ⟨_, rfl⟩)
    · intro a W hx hdf hsz hg hi K hK
      refine step_free rfl ?_
      have t2 : a.tmps.getD 2 undef = .pointer (some ⟨w.heap.size, 0, none⟩) := hi 2 (by kernel_rfl)
      have u2 := t2
      rw [Array.getD_eq_getD_getElem?] at u2
      simp [Oper.wp, Oper.upon, execOp, Act.eval, go_sem, t2, u2]
      exact hK _ _ (Ext.rf _) (fun d' h => by cases h; exact rfl)
    · intro a W hx hdf hsz hg hi K hK
      refine step_free rfl ?_
      have t30 : a.tmps.getD 30 undef = .pointer (some ⟨w.heap.size, 15, none⟩) := hg 30 (by kernel_rfl)
      have u30 := t30
      rw [Array.getD_eq_getD_getElem?] at u30
      have q15 := hx.cell b15
      simp [Oper.wp, Oper.upon, execOp, Act.eval, go_sem, t30, u30, q15]
      exact hK _ _ (Ext.rf _) (fun d' h => by cases h; exact rfl)
    · intro a W hx hdf hsz hg hi K hK
      refine step_free rfl ?_
      have t1 : a.tmps.getD 1 undef = .int .i64 most := hi 1 (by kernel_rfl)
      have u1 := t1
      rw [Array.getD_eq_getD_getElem?] at u1
      simp [Oper.wp, Oper.upon, execOp, Act.eval, go_sem, t1, u1]
      exact hK _ _ (Ext.rf _) (fun d' h => by cases h; exact rfl)
    · intro a W hx hdf hsz hg hi K hK
      refine step_free rfl ?_
      have t31 : a.tmps.getD 31 undef = .slice vc d.ctors.length cc := hg 31 (by kernel_rfl)
      have t32 : a.tmps.getD 32 undef = .int .i64 most := hg 32 (by kernel_rfl)
      have u31 := t31
      rw [Array.getD_eq_getD_getElem?] at u31
      have u32 := t32
      rw [Array.getD_eq_getD_getElem?] at u32
      simp [Oper.wp, Oper.upon, execOp, Act.eval, go_sem, t31, u31, t32, u32]
      refine (ctorsOf_any d.ctors _ _ _ (Hc.out.ext mono_ctor (HX.out.tr hx))).mono ?_
      rintro e w' ⟨hb, n, rfl⟩
      exact hK _ _ hb (fun d' h => by cases h; exact ⟨n, rfl⟩)
    · intro a W hx hdf hsz hg hi K hK
      refine step_free rfl ?_
      obtain ⟨n29, t29⟩ := (show ∃ n : Int, a.tmps.getD 29 undef = .int .i64 n from hg 29 (by kernel_rfl))
      have u29 := t29
      rw [Array.getD_eq_getD_getElem?] at u29
      obtain ⟨n33, t33⟩ := (show ∃ n : Int, a.tmps.getD 33 undef = .int .i64 n from hg 33 (by kernel_rfl))
      have u33 := t33
      rw [Array.getD_eq_getD_getElem?] at u33
      simp [Oper.wp, Oper.upon, execOp, Act.eval, go_sem, t29, u29, t33, u33]
      exact hK _ _ (Ext.rf _) (fun d' h => by cases h; exact ⟨_, rfl⟩)
    · intro a W hx hdf hsz hg hi K hK
      refine step_free rfl ?_
      obtain ⟨n34, t34⟩ := (show ∃ n : Int, a.tmps.getD 34 undef = .int .i64 n from hg 34 (by kernel_rfl))
      have u34 := t34
      rw [Array.getD_eq_getD_getElem?] at u34
      simp [Oper.wp, Oper.upon, execOp, Act.eval, go_sem, t34, u34]
      exact hK _ _ (Ext.rf _) (fun d' h => by cases h; exact ⟨_, rfl⟩)
  · rintro ⟨T, D⟩ w7 hx7 hdf hsz hg hi
    obtain ⟨n, hn⟩ := (show ∃ n : Int, T.getD 4 undef = .int .i64 n from hg 4 (by kernel_rfl))
    obtain ⟨f, hf, hT⟩ := frame_slots T 35 hsz
    have fr := (hf 4).symm.trans hn
    have hD : D = [] := hdf
    clear hf hi hg hsz hdf hn
    subst hT hD
    simp only [slots, Nat.reduceAdd, fr]
    go_wp2_with fail
    go_ret
    exact ⟨HX.out.tr hx7, _, rfl⟩
set_option maxRecDepth 100000 in
set_option maxHeartbeats 1000000 in
theorem declsOf128_any (xs : List Decl) (v : Value) (most : Int) (w : World) (hs : Sl RDecl 16 128 w xs v) : Calls Tryd.prog 33 #[v, .int .i64 most] w (SomeI w) := by
  obtain ⟨A, c, rfl, hc, hr⟩ := hs
  have hl := hr.len_le
  go_enter Tryd.func33, Tryd.ntmps33
  go_wp2_with fail
  go_loopw [5, 6] (fun n i wr => ∃ (k : Nat) (m : Int), k ≤ xs.length ∧ i = .int .i64 k ∧ n = .int .i64 m ∧ Ext w wr) (fun _ i _ => xs.length - (intOf i).toNat)
  case atStart => exact ⟨0, 0, by omega, rfl, rfl, Ext.rf _⟩
  case round =>
    obtain ⟨k, m, hk, rfl, rfl, hx⟩ := hrel
    obtain ⟨wr, rfl⟩ := ext_name3 hx
    by_cases hlt : k < xs.length
    · by_cases hm : m ≤ most
      · obtain ⟨b, o, cs, rfl, hR, hcs0⟩ := hr.at_ hlt
        have HR := hid (mono_decl _ _ _ _ hx hR)
        obtain ⟨A1, c1, A2, c2, A3, c3, A4, c4, cp, vp, cS, vS, cm, vm, cc, vc, rfl, -⟩ := rdecl_open hR
        have hcs := hcs0.ext hx
        have h0 := hcs.pick 0 rfl
        have h1 := hcs.pick 1 rfl
        have h2 := hcs.pick 2 rfl
        have h3 := hcs.pick 3 rfl
        have h4 := hcs.pick 4 rfl
        have h5 := hcs.pick 5 rfl
        have h6 := hcs.pick 6 rfl
        have h7 := hcs.pick 7 rfl
        have h8 := hcs.pick 8 rfl
        have h9 := hcs.pick 9 rfl
        have h10 := hcs.pick 10 rfl
        have h11 := hcs.pick 11 rfl
        have h12 := hcs.pick 12 rfl
        have h13 := hcs.pick 13 rfl
        have h14 := hcs.pick 14 rfl
        have h15 := hcs.pick 15 rfl
        rw [Nat.add_zero] at h0
        clear hcs hcs0 hR
        go_wp2_with fail
        refine (declOf_any xs[k] _ _ _ HR.out).mono ?_
        rintro e w2 ⟨hx2, n, rfl⟩
        go_wp2_with fail
        exact ⟨⟨k + 1, _, by omega, by go_num, rfl, hx.tr hx2⟩, by simp only [intOf]; omega⟩
      · go_wp2_with fail
        go_ret
        exact ⟨hx, _, rfl⟩
    · obtain rfl : k = xs.length := by omega
      go_wp2_with fail
      go_ret
      exact ⟨hx, _, rfl⟩
/-- The greater element's bound holds with the smaller one. -/
theorem sl_half {w : World} {ds : List Decl} {v : Value} (h : SlDecl w ds v) : Sl RDecl 16 128 w ds v := by
  obtain ⟨A, c, e, hc, hb, hr⟩ := h
  exact ⟨A, c, e, hc, by omega, hr⟩
theorem declsOf_any (xs : List Decl) (v : Value) (most : Int) (w : World) (hs : SlDecl w xs v) : Calls Tryd.prog 33 #[v, .int .i64 most] w (SomeI w) := declsOf128_any xs v most w (sl_half hs)
theorem great128_any (ds : List Decl) (ts : List Term) (vd vt : Value) (w : World) (hd : Sl RDecl 16 128 w ds vd) (ht : SlTerm w ts vt) :
    Calls Tryd.prog 15 #[vd, vt] w fun e w' => Ext w w' ∧ ∃ b : Bool, e = .returned (.bool b) := by
  have Hd := hid hd
  have Ht := hid ht
  obtain ⟨A, c, rfl, _⟩ := id hd
  obtain ⟨A', c', rfl, _⟩ := id ht
  clear hd ht
  go_enter Tryd.func15, Tryd.ntmps15
  go_wp2_with fail
  refine (declsOf128_any ds _ _ _ Hd.out).mono ?_
  rintro e w1 ⟨hx, n, rfl⟩
  go_wp2_with fail
  refine (termsOf_any ts _ _ _ (Ht.out.ext mono_term hx)).mono ?_
  rintro e w2 ⟨hx2, m, rfl⟩
  go_wp2_with fail
  go_ret
  exact ⟨hx.tr hx2, _, rfl⟩
theorem great_any (ds : List Decl) (ts : List Term) (vd vt : Value) (w : World) (hd : SlDecl w ds vd) (ht : SlTerm w ts vt) :
    Calls Tryd.prog 15 #[vd, vt] w fun e w' => Ext w w' ∧ ∃ b : Bool, e = .returned (.bool b) := great128_any ds ts vd vt w (sl_half hd) ht
end Go.Proofs.YtjaklnabidbmiaaDoor

/- Walks: package tele's own, owns, of, Pis, Sort. Printed by gen_tele.py. -/
import Derived.Test.YtjaklnabidbmiaaDoorAbove
namespace Go.Proofs.YtjaklnabidbmiaaDoor
open Go.RowKit
set_option linter.unusedSimpArgs false
set_option linter.unusedVariables false
theorem inI_small1 {n : Int} (h : -1000000000 ≤ n ∧ n ≤ 1000000000) : inI n := by unfold inI; omega
abbrev BIG : Nat := 1152921504606846976
set_option maxRecDepth 100000 in
set_option maxHeartbeats 1000000 in
theorem teleOwn_any (t : Term) (cs : List Value) (w : World) (hK : KindsIn w) (hsz : tsize t ≤ BIG) (hR : RTerm w t cs) : Calls Tryd.prog 43 #[.agg cs.toArray] w (Gives RTerm t w) := by
  have hu5 := Tryd.underlying27
  have hi5 : (Tryd.prog.info? 27).map (·.size) = some 5 := by kernel_rfl
  obtain ⟨_, _, rfl, -, ⟨A1, c1, rfl, -⟩, ⟨A2, c2, rfl, -⟩⟩ := rterm_open hR
  have HR := hid hR
  have hxl : Ext w ((w.alloc (.cells #[.int .i64 t.kind, .int .i64 t.num, .int .i64 t.at_, .slice A1 t.levels.length c1, .slice A2 t.kids.length c2] 27)).alloc (.cells #[.int .i64 0, .int .i64 0, .int .i64 0, .slice none 0 0, .slice none 0 0] 27)) := ((Ext.rf _).al _).al _
  have HT0 := hid (show ((w.alloc (.cells #[.int .i64 t.kind, .int .i64 t.num, .int .i64 t.at_, .slice A1 t.levels.length c1, .slice A2 t.kids.length c2] 27)).alloc (.cells #[.int .i64 0, .int .i64 0, .int .i64 0, .slice none 0 0, .slice none 0 0] 27)).there (w.heap.size + 1) 0 5 by have := there_fresh (w.alloc (.cells #[.int .i64 t.kind, .int .i64 t.num, .int .i64 t.at_, .slice A1 t.levels.length c1, .slice A2 t.kids.length c2] 27)) 27 #[.int .i64 0, .int .i64 0, .int .i64 0, .slice none 0 0, .slice none 0 0] 5 (Nat.le_refl _); simpa using this)
  have Hxl := hid hxl
  have HK := hid (hK.ext hxl)
  clear hR hxl
  go_enter Tryd.func43, Tryd.ntmps43
  go_wp2_with fail
  refine (lift0_any 0 t _ _ HK.out hsz (mono_term _ _ _ _ Hxl.out HR.out)).mono ?_
  rintro e w1 ⟨hx1, cs', rfl, hR1⟩
  obtain ⟨_, _, rfl, -, ⟨A3, c3, rfl, -⟩, ⟨A4, c4, rfl, -⟩⟩ := rterm_open hR1
  have HT1 := hid (there_ext hx1 HT0.out)
  have HR1 := hid hR1
  have Hx1 := hid hx1
  clear HT0 hR1 hx1
  have hon := hid (show ∀ v ∈ ([.int .i64 t.kind, .int .i64 t.num, .int .i64 t.at_, .slice A3 t.levels.length c3, .slice A4 t.kids.length c4] : List Value), v.oneCell' = true from fun u hu => by
    simp only [List.mem_cons, List.not_mem_nil, or_false] at hu
    rcases hu with rfl | rfl | rfl | rfl | rfl <;> rfl)
  go_wp2_with ((with_reducible show wpList _ _ _ (⟨_, Op.store 27 _ _, _, _, _, _⟩ :: _) _ _); refine wpList_store_mid (by rfl) 27 _ _ (by rfl) (w.heap.size + 1) 0 #[.int .i64 t.kind, .int .i64 t.num, .int .i64 t.at_, .slice A3 t.levels.length c3, .slice A4 t.kids.length c4] (by rfl) (by rfl) (by exact HT1.out) hi5 (all_oneCell_toArray hon.out) ?_)
  refine bodyPost_ret (v := .agg #[.int .i64 t.kind, .int .i64 t.num, .int .i64 t.at_, .slice A3 t.levels.length c3, .slice A4 t.kids.length c4]) (results_cell_mid (by rfl) _ _ (w.heap.size + 1) [.int .i64 t.kind, .int .i64 t.num, .int .i64 t.at_, .slice A3 t.levels.length c3, .slice A4 t.kids.length c4] _ (by rfl) (World.rangeAt_setCells_same _ _ _ _ HT1.out) hu5 (by rfl) hi5) rfl ?_
  refine ⟨Ext.sets (Hxl.out.tr Hx1.out) (by omega) _ _, _, rfl, monoC_term _ _ _ _ ?_ HR1.out⟩
  have hfz : ((w.alloc (.cells #[.int .i64 t.kind, .int .i64 t.num, .int .i64 t.at_, .slice A1 t.levels.length c1, .slice A2 t.kids.length c2] 27)).alloc (.cells #[.int .i64 0, .int .i64 0, .int .i64 0, .slice none 0 0, .slice none 0 0] 27)).heap.size = w.heap.size + 2 := by simp
  rw [hfz]
  exact (frm_sets (by omega) _ _ _).tr (frm_le (by omega) _)
set_option maxRecDepth 100000 in
set_option maxHeartbeats 2000000 in
theorem owns_any (xs : List Term) (v : Value) (w : World) (hK : KindsIn w) (hsz : ∀ t ∈ xs, tsize t ≤ BIG) (hs : SlTerm w xs v) : Calls Tryd.prog 62 #[v] w (GivesS SlTerm xs w) := by
  obtain ⟨A, c, rfl, hc, hr⟩ := hs
  have hl := hr.len_le
  have hb := hid hr.1
  have HSZ := hid hsz
  clear hsz
  obtain ⟨i0, hi, hz0, hz1, hz2⟩ := info_parts info_term
  have hi' := hid hi
  have hz0' := hid hz0
  have hz1' := hid hz1
  have hz2' := hid hz2
  clear hi hz0 hz1 hz2
  go_enter Tryd.func62, Tryd.ntmps62
  go_wp2_with fail
  go_loopw [2, 7] (fun o i wr => ∃ k : Nat, k ≤ xs.length ∧ i = .int .i64 k ∧ Ext w wr ∧ OwnS RTerm 5 27 w.heap.size w.heap.size wr (xs.take k) o) (fun _ i _ => xs.length - (intOf i).toNat)
  case atStart => exact ⟨0, by omega, rfl, Ext.rf _, OwnS.nil⟩
  case round =>
    obtain ⟨k, hk, rfl, hx, hown⟩ := hrel
    obtain ⟨wr, rfl⟩ := ext_name2 hx
    obtain ⟨vo, ho⟩ := own_name hown
    rw [← ho] at hown ⊢
    clear ho
    have Hown' := hid hown
    clear hown
    by_cases hlt : k < xs.length
    · obtain ⟨b, o, cs, rfl, hR, hcs0⟩ := hr.at_ hlt
      have HR := hid (mono_term _ _ _ _ hx hR)
      obtain ⟨_, _, rfl, -, ⟨A1, c1, rfl, -⟩, ⟨A2, c2, rfl, -⟩⟩ := rterm_open hR
      have hcs := hcs0.ext hx
      have h0 := hcs.pick 0 rfl
      have h1 := hcs.pick 1 rfl
      have h2 := hcs.pick 2 rfl
      have h3 := hcs.pick 3 rfl
      have h4 := hcs.pick 4 rfl
      rw [Nat.add_zero] at h0
      have hj2 : (k : Int) < (xs.length : Int) := by omega
      clear hcs hcs0 hR
      go_wp2_with fail
      refine (teleOwn_any xs[k] _ _ (hK.ext (hx.al _)) (HSZ.out _ (List.getElem_mem hlt)) (mono_term _ _ _ _ ((Ext.rf _).al _) HR.out)).mono ?_
      rintro e w2 ⟨hx2, cs', rfl, hL⟩
      have HL := hid hL
      obtain ⟨_, _, rfl, -, ⟨A3, c3, rfl, -⟩, ⟨A4, c4, rfl, -⟩⟩ := rterm_open hL
      clear hL h0 h1 h2 h3 h4
      have hkb : ((xs.take k).length + 1) * 72 ≤ LIM := Nat.le_trans (Nat.mul_le_mul_right _ (by rw [List.length_take]; omega)) hb.out
      have Hkb := hid hkb
      clear hkb
      go_wp2_with (at_builtin; refine wpList_append_one (bytes := 72) monoC_term (by rfl) _ _ 25 (by rfl) 27 i0 _ Tryd.underlying25 hi'.out hz0'.out hz1'.out hz2'.out (by rfl) (by omega) (by rfl) (by exact Hown'.out.ext monoC_term ((((Ext.rf _).al _).tr hx2).al _)) w2.heap.size 1 xs[k] [.int .i64 xs[k].kind, .int .i64 xs[k].num, .int .i64 xs[k].at_, .slice A3 xs[k].levels.length c3, .slice A4 xs[k].kids.length c4] (wr.heap.size + 1) (by rfl) (by exact cells5o (by simp [go_sem]) (by simp [go_sem]) (by simp [go_sem]) (by simp [go_sem]) (by simp [go_sem])) rfl (by intro u hu; simp only [List.mem_cons, List.not_mem_nil, or_false] at hu; rcases hu with rfl | rfl | rfl | rfl | rfl <;> rfl) (by have := HL.out; rw [World.size_alloc] at this; exact monoC_term _ _ _ _ (frm_ext _ ((Ext.rf _).al _)) this) (by have := hx.size; omega) (fun g hg => by have := (Hown'.out.lt g hg).2; omega) Hkb.out (by omega) (by have := hx.size; have := hx2.size; simp at this ⊢; omega) ?_; intro v3 w3 hown3 hg3)
      rw [take_snoc hlt] at hown3
      have hx3 : Ext w w3 := grown_ext ((hx.tr (((Ext.rf _).al _).tr hx2)).al _) hg3 (fun g hg => (Hown'.out.lt g hg).1)
      have Hown3 := hid hown3
      clear hown3 hg3
      go_wp2_with fail
      exact ⟨⟨k + 1, by omega, by go_num, hx3, Hown3.out⟩, by simp only [intOf]; omega⟩
    · obtain rfl : k = xs.length := by omega
      rw [List.take_length] at Hown'
      go_wp2_with fail
      go_ret
      exact ⟨hx, _, rfl, Hown'.out.sl monoC_term hb.out (Nat.le_refl _)⟩
set_option maxRecDepth 100000 in
theorem of_any (xs : List Term) (v : Value) (w : World) (hK : KindsIn w) (hsz : ∀ t ∈ xs, tsize t ≤ BIG) (hs : SlTerm w xs v) :
    Calls Tryd.prog 41 #[v] w fun e w' => Ext w w' ∧ ∃ A c, e = .returned (.agg #[.slice A xs.length c]) ∧ SlTerm (frm w.heap.size w') xs (.slice A xs.length c) := by
  obtain ⟨A0, c0, rfl, -⟩ := id hs
  have HS := hid hs
  clear hs
  go_enter Tryd.func41, Tryd.ntmps41
  go_wp2_with fail
  refine (owns_any xs _ _ (hK.ext ((Ext.rf _).al _)) hsz (HS.out.ext mono_term ((Ext.rf _).al _))).mono ?_
  rintro e w1 ⟨hx1, v1, rfl, hL⟩
  obtain ⟨A1, c1, rfl, -⟩ := id hL
  have q0 : w1.cell? ⟨w.heap.size, 0, none⟩ = some (.slice none 0 0) := hx1.cell (by simp [go_sem])
  have z0 : w1.frozen? ⟨w.heap.size, 0, none⟩ = false := (Below.frozen hx1 (by simp <;> omega)).trans (by simp [go_sem])
  have HL := hid hL
  have Hx := hid hx1
  clear hL hx1
  go_wp2_with fail
  refine bodyPost_ret (v := .agg #[.slice A1 xs.length c1]) (by simp [results, Tryd.results41, go_sem, q0, z0]) rfl ?_
  refine ⟨(((Ext.rf _).al _).tr Hx.out).st (Nat.le_refl _) _, A1, c1, rfl, HL.out.sub monoC_term ?_⟩
  exact (frm_set (by simp)).tr (frm_le (by simp) _)
/-- A row's types above a term. -/
def pisT (row : List Term) (b : Term) : Term := row.foldr (fun a x => .mk 4 0 0 [] [a, x]) b
theorem above_rev (k : Int) : ∀ (l : List Term) (b : Term), aboveT k b l.reverse = l.foldr (fun a x => .mk k 0 0 [] [a, x]) b
  | [], b => rfl
  | a :: l, b => by rw [List.reverse_cons, aboveT_snoc, above_rev k l]; rfl
set_option maxRecDepth 100000 in
set_option maxHeartbeats 2000000 in
theorem pis_any (xs : List Term) (v : Value) (b : Term) (cs : List Value) (w : World) (hK : KindsIn w) (hszs : ∀ t ∈ xs, tsize t ≤ BIG) (hbz : tsize b ≤ BIG) (hs : SlTerm w xs v) (hb : RTerm w b cs) :
    Calls Tryd.prog 20 #[v, .agg cs.toArray] w (Gives RTerm (pisT xs b) w) := by
  have hu5 := Tryd.underlying27
  have hi5 : (Tryd.prog.info? 27).map (·.size) = some 5 := by kernel_rfl
  obtain ⟨A0, c0, rfl, -⟩ := id hs
  obtain ⟨_, _, rfl, -, ⟨A1, c1, rfl, -⟩, ⟨A2, c2, rfl, -⟩⟩ := rterm_open hb
  have hxl : Ext w ((w.alloc (.cells #[.int .i64 b.kind, .int .i64 b.num, .int .i64 b.at_, .slice A1 b.levels.length c1, .slice A2 b.kids.length c2] 27)).alloc (.cells #[.int .i64 0, .int .i64 0, .int .i64 0, .slice none 0 0, .slice none 0 0] 27)) := ((Ext.rf _).al _).al _
  have HT0 := hid (show ((w.alloc (.cells #[.int .i64 b.kind, .int .i64 b.num, .int .i64 b.at_, .slice A1 b.levels.length c1, .slice A2 b.kids.length c2] 27)).alloc (.cells #[.int .i64 0, .int .i64 0, .int .i64 0, .slice none 0 0, .slice none 0 0] 27)).there (w.heap.size + 1) 0 5 by have := there_fresh (w.alloc (.cells #[.int .i64 b.kind, .int .i64 b.num, .int .i64 b.at_, .slice A1 b.levels.length c1, .slice A2 b.kids.length c2] 27)) 27 #[.int .i64 0, .int .i64 0, .int .i64 0, .slice none 0 0, .slice none 0 0] 5 (Nat.le_refl _); simpa using this)
  have HCB := hid (show cellsAt ((w.alloc (.cells #[.int .i64 b.kind, .int .i64 b.num, .int .i64 b.at_, .slice A1 b.levels.length c1, .slice A2 b.kids.length c2] 27)).alloc (.cells #[.int .i64 0, .int .i64 0, .int .i64 0, .slice none 0 0, .slice none 0 0] 27)) w.heap.size 0 [.int .i64 b.kind, .int .i64 b.num, .int .i64 b.at_, .slice A1 b.levels.length c1, .slice A2 b.kids.length c2] from cells5o (by simp [go_sem]) (by simp [go_sem]) (by simp [go_sem]) (by simp [go_sem]) (by simp [go_sem]))
  have HS := hid (hs.ext mono_term hxl)
  have HB := hid (mono_term _ _ _ _ hxl hb)
  have HK := hid (hK.ext hxl)
  have HX := hid hxl
  have hfz : ((w.alloc (.cells #[.int .i64 b.kind, .int .i64 b.num, .int .i64 b.at_, .slice A1 b.levels.length c1, .slice A2 b.kids.length c2] 27)).alloc (.cells #[.int .i64 0, .int .i64 0, .int .i64 0, .slice none 0 0, .slice none 0 0] 27)).heap.size = w.heap.size + 2 := by simp
  clear hs hb hxl
  obtain ⟨Y, hY⟩ : ∃ Y, Y = pisT xs b := ⟨_, rfl⟩
  rw [← hY]
  have HYe := hid (show aboveT 4 b xs.reverse = Y by rw [hY, above_rev]; rfl)
  clear hY
  go_enter Tryd.func20, Tryd.ntmps20
  go_upto_region 1 with fail
  generalize ((w.alloc (.cells #[.int .i64 b.kind, .int .i64 b.num, .int .i64 b.at_, .slice A1 b.levels.length c1, .slice A2 b.kids.length c2] 27)).alloc (.cells #[.int .i64 0, .int .i64 0, .int .i64 0, .slice none 0 0, .slice none 0 0] 27)) = W0 at HT0 HCB HS HB HK HX hfz ⊢
  refine wp_region_end (fun s W v => match s with | 5 => v = .slice A0 xs.length c0 | 6 => ∃ A c, v = .agg #[.slice A xs.length c] ∧ SlTerm (frm (w.heap.size + 2) W) xs (.slice A xs.length c) | 7 => ∃ A c, v = .agg #[.slice A xs.length c] ∧ SlTerm (frm (w.heap.size + 2) W) xs (.slice A xs.length c) | 8 => v = .agg #[.int .i64 b.kind, .int .i64 b.num, .int .i64 b.at_, .slice A1 b.levels.length c1, .slice A2 b.kids.length c2] | 9 => ∃ cs : List Value, v = .agg cs.toArray ∧ RTerm (frm (w.heap.size + 2) W) b cs | 10 => ∃ cs : List Value, v = .agg cs.toArray ∧ RTerm (frm (w.heap.size + 2) W) Y cs | _ => True) 6 _ (by kernel_rfl) (by kernel_rfl) (by kernel_rfl) (by rfl) rfl rfl (by kernel_rfl) (of_decide_eq_true (by kernel_rfl)) (by kernel_rfl) (by intro s W W' v hx h; revert h; split <;> first | exact id | exact fun ⟨A, c, e, hr⟩ => ⟨A, c, e, hr.sub monoC_term (frm_ext _ hx)⟩ | exact fun ⟨cs, e, hr⟩ => ⟨cs, e, monoC_term _ _ _ _ (frm_ext _ hx) hr⟩) ?_ ?_
  · refine ⟨?_, ?_, ?_, ?_, ?_, ?_, trivial⟩
    · intro a W hx hdf hsz hg hi K hK
      refine step_free rfl ?_
      have t0 : a.tmps.getD 0 undef = .slice A0 xs.length c0 := hi 0 (by kernel_rfl)
      have u0 := t0
      rw [Array.getD_eq_getD_getElem?] at u0
      simp [Oper.wp, Oper.upon, execOp, Act.eval, go_sem, t0, u0]
      exact hK _ _ (Ext.rf _) (fun d' h => by cases h; exact rfl)
    · intro a W hx hdf hsz hg hi K hK
      refine step_free rfl ?_
      have t5 : a.tmps.getD 5 undef = .slice A0 xs.length c0 := hg 5 (by kernel_rfl)
      have u5 := t5
      rw [Array.getD_eq_getD_getElem?] at u5
      simp [Oper.wp, Oper.upon, execOp, Act.eval, go_sem, t5, u5]
      refine (of_any xs _ _ (HK.out.ext hx) hszs (HS.out.ext mono_term hx)).mono ?_
      rintro e w' ⟨hb, A, c, rfl, hL⟩
      exact hK _ _ hb (fun d' h => by cases h; exact ⟨A, c, rfl, hL.sub monoC_term (frm_le (by have := hx.size; omega) _)⟩)
    · intro a W hx hdf hsz hg hi K hK
      refine step_free rfl ?_
      obtain ⟨A6, c6, t6, hL6⟩ := (show ∃ A c, a.tmps.getD 6 undef = .agg #[.slice A xs.length c] ∧ SlTerm (frm (w.heap.size + 2) W) xs (.slice A xs.length c) from hg 6 (by kernel_rfl))
      have u6 := t6
      rw [Array.getD_eq_getD_getElem?] at u6
      simp [Oper.wp, Oper.upon, execOp, Act.eval, go_sem, t6, u6]
      exact hK _ _ (Ext.rf _) (fun d' h => by cases h; exact ⟨A6, c6, rfl, hL6⟩)
    · intro a W hx hdf hsz hg hi K hK
      refine step_free rfl ?_
      have t3 : a.tmps.getD 3 undef = .pointer (some ⟨w.heap.size, 0, none⟩) := hi 3 (by kernel_rfl)
      have u3 := t3
      rw [Array.getD_eq_getD_getElem?] at u3
      refine wp_load_mid 27 (.tmp 3) rfl w.heap.size 0 t3 [.int .i64 b.kind, .int .i64 b.num, .int .i64 b.at_, .slice A1 b.levels.length c1, .slice A2 b.kids.length c2] _ (HCB.out.ext hx) hu5 rfl hi5 ?_
      exact hK _ _ (Ext.rf _) (fun d' h => by cases h; exact rfl)
    · intro a W hx hdf hsz hg hi K hK
      refine step_free rfl ?_
      have t8 : a.tmps.getD 8 undef = .agg #[.int .i64 b.kind, .int .i64 b.num, .int .i64 b.at_, .slice A1 b.levels.length c1, .slice A2 b.kids.length c2] := hg 8 (by kernel_rfl)
      have u8 := t8
      rw [Array.getD_eq_getD_getElem?] at u8
      simp [Oper.wp, Oper.upon, execOp, Act.eval, go_sem, t8, u8]
      refine (teleOwn_any b [.int .i64 b.kind, .int .i64 b.num, .int .i64 b.at_, .slice A1 b.levels.length c1, .slice A2 b.kids.length c2] _ (HK.out.ext hx) hbz (mono_term _ _ _ _ hx HB.out)).mono ?_
      rintro e w' ⟨hb, cs', rfl, hR⟩
      exact hK _ _ hb (fun d' h => by cases h; exact ⟨cs', rfl, monoC_term _ _ _ _ (frm_le (by have := hx.size; omega) _) hR⟩)
    · intro a W hx hdf hsz hg hi K hK
      refine step_free rfl ?_
      obtain ⟨A7, c7, t7, hL7⟩ := (show ∃ A c, a.tmps.getD 7 undef = .agg #[.slice A xs.length c] ∧ SlTerm (frm (w.heap.size + 2) W) xs (.slice A xs.length c) from hg 7 (by kernel_rfl))
      have u7 := t7
      rw [Array.getD_eq_getD_getElem?] at u7
      obtain ⟨cs9, t9, hR9⟩ := (show ∃ cs : List Value, a.tmps.getD 9 undef = .agg cs.toArray ∧ RTerm (frm (w.heap.size + 2) W) b cs from hg 9 (by kernel_rfl))
      have u9 := t9
      rw [Array.getD_eq_getD_getElem?] at u9
      simp [Oper.wp, Oper.upon, execOp, Act.eval, go_sem, t7, u7, t9, u9]
      refine (above_any 4 xs _ b cs9 (w.heap.size + 2) _ (by have := hx.size; omega) (inI_small1 (by omega)) hL7 hR9).mono ?_
      rintro e w' ⟨hb, cs', rfl, hR⟩
      rw [HYe.out] at hR
      exact hK _ _ hb (fun d' h => by cases h; exact ⟨cs', rfl, hR⟩)
  · rintro ⟨T3, D3⟩ W hx hdf hsz0 hg hi
    have t4 : T3.getD 4 undef = .pointer (some ⟨w.heap.size + 1, 0, none⟩) := hi 4 (by kernel_rfl)
    obtain ⟨cs1, t10, hR1⟩ := (show ∃ cs : List Value, T3.getD 10 undef = .agg cs.toArray ∧ RTerm (frm (w.heap.size + 2) W) Y cs from hg 10 (by kernel_rfl))
    obtain ⟨A5, c5, A6, c6, e5⟩ : ∃ A5 c5 A6 c6, cs1 = [.int .i64 Y.kind, .int .i64 Y.num, .int .i64 Y.at_, .slice A5 Y.levels.length c5, .slice A6 Y.kids.length c6] := by
      obtain ⟨_, _, rfl, -, ⟨A5, c5, rfl, -⟩, ⟨A6, c6, rfl, -⟩⟩ := rterm_open hR1
      exact ⟨A5, c5, A6, c6, rfl⟩
    subst e5
    have HT1 := hid (there_ext hx HT0.out)
    have HR1 := hid hR1
    have Hx1 := hid (HX.out.tr hx)
    clear HT0 hR1 hx
    have hon := hid (show ∀ v ∈ ([.int .i64 Y.kind, .int .i64 Y.num, .int .i64 Y.at_, .slice A5 Y.levels.length c5, .slice A6 Y.kids.length c6] : List Value), v.oneCell' = true from fun u hu => by
      simp only [List.mem_cons, List.not_mem_nil, or_false] at hu
      rcases hu with rfl | rfl | rfl | rfl | rfl <;> rfl)
    refine wp_store_mid 27 _ _ rfl (w.heap.size + 1) 0 #[.int .i64 Y.kind, .int .i64 Y.num, .int .i64 Y.at_, .slice A5 Y.levels.length c5, .slice A6 Y.kids.length c6] t4 t10 (by exact HT1.out) hi5 (all_oneCell_toArray hon.out) ?_
    obtain ⟨f, hf, hT⟩ := frame_slots T3 11 hsz0
    have f4 := (hf 4).symm.trans t4
    have hD : D3 = [] := hdf
    clear hf hi hg hsz0 hdf t4 t10
    subst hT hD
    simp only [slots, Nat.reduceAdd, Act.put, f4]
    go_wp2_with fail
    refine bodyPost_ret (v := .agg #[.int .i64 Y.kind, .int .i64 Y.num, .int .i64 Y.at_, .slice A5 Y.levels.length c5, .slice A6 Y.kids.length c6]) (results_cell_mid (by rfl) _ _ (w.heap.size + 1) [.int .i64 Y.kind, .int .i64 Y.num, .int .i64 Y.at_, .slice A5 Y.levels.length c5, .slice A6 Y.kids.length c6] _ (by rfl) (World.rangeAt_setCells_same _ _ _ _ HT1.out) hu5 (by rfl) hi5) rfl ?_
    exact ⟨Ext.sets Hx1.out (by omega) _ _, _, rfl, monoC_term _ _ _ _ ((frm_sets (by omega) _ _ _).tr (frm_le (by omega) _)) HR1.out⟩
set_option maxRecDepth 100000 in
set_option maxHeartbeats 1000000 in
theorem sort_any (l : Level) (cs : List Value) (w : World) (hR : RLevel w l cs) : Calls Tryd.prog 21 #[.agg cs.toArray] w (Gives RTerm (.mk 2 0 0 [l] []) w) := by
  have hu5 := Tryd.underlying27
  have hi5 : (Tryd.prog.info? 27).map (·.size) = some 5 := by kernel_rfl
  obtain ⟨v, rfl, hs⟩ := hR
  obtain ⟨A0, c0, rfl, -⟩ := id hs
  have HS := hid hs
  clear hs
  have HT0 := hid (show ((w.alloc (.cells #[.slice A0 l.parts.length c0] 30)).alloc (.cells #[.int .i64 0, .int .i64 0, .int .i64 0, .slice none 0 0, .slice none 0 0] 27)).there (w.heap.size + 1) 0 5 by have := there_fresh (w.alloc (.cells #[.slice A0 l.parts.length c0] 30)) 27 #[.int .i64 0, .int .i64 0, .int .i64 0, .slice none 0 0, .slice none 0 0] 5 (Nat.le_refl _); simpa using this)
  go_enter Tryd.func21, Tryd.ntmps21
  go_wp2_with fail
  refine (cloneParts_any l.parts _ w _ HS.out (((Ext.rf _).al _).al _)).mono ?_
  rintro e w1 ⟨hx1, v1, news, rfl, hown, hnews⟩
  have hO : OwnS RPart 2 44 (w.heap.size + 2) (w.heap.size + 2) w1 l.parts v1 := ⟨news, by simpa using hown, fun i x h => hnews i x h⟩
  have hL := hO.sl (bytes := 16) monoC_part HS.out.room (Nat.le_refl _)
  obtain ⟨A1, c1, rfl, -⟩ := id hL
  have HT1 := hid (show ((w1.alloc (.cells #[.slice A1 l.parts.length c1] 30))).there (w.heap.size + 1) 0 5 from there_ext ((Ext.rf _).al _) (there_ext hx1 HT0.out))
  have Hx := hid hx1
  have HL := hid hL
  have hz1 : w.heap.size + 2 ≤ w1.heap.size := by have := hx1.size; simpa using this
  clear hL hO hown hnews hx1 HT0
  have hon := hid (show ∀ v ∈ ([.int .i64 2, .int .i64 0, .int .i64 0, .slice (some ⟨w1.heap.size, 0, none⟩) 1 1, .slice none 0 0] : List Value), v.oneCell' = true from fun u hu => by
    simp only [List.mem_cons, List.not_mem_nil, or_false] at hu
    rcases hu with rfl | rfl | rfl | rfl | rfl <;> rfl)
  go_wp2_with ((with_reducible show wpList _ _ _ (⟨_, Op.store 27 _ _, _, _, _, _⟩ :: _) _ _); refine wpList_store_mid (by rfl) 27 _ _ (by rfl) (w.heap.size + 1) 0 #[.int .i64 2, .int .i64 0, .int .i64 0, .slice (some ⟨w1.heap.size, 0, none⟩) 1 1, .slice none 0 0] (by rfl) (by rfl) (by exact HT1.out) hi5 (all_oneCell_toArray hon.out) ?_)
  refine bodyPost_ret (v := .agg #[.int .i64 2, .int .i64 0, .int .i64 0, .slice (some ⟨w1.heap.size, 0, none⟩) 1 1, .slice none 0 0]) (results_cell_mid (by rfl) _ _ (w.heap.size + 1) [.int .i64 2, .int .i64 0, .int .i64 0, .slice (some ⟨w1.heap.size, 0, none⟩) 1 1, .slice none 0 0] _ (by rfl) (World.rangeAt_setCells_same _ _ _ _ HT1.out) hu5 (by rfl) hi5) rfl ?_
  refine ⟨Ext.sets ((((((Ext.rf _).al _).al _).tr Hx.out).al _)) (by omega) _ _, _, rfl, ?_⟩
  refine rterm_iff.2 ⟨_, _, rfl, ⟨inI_small1 (by omega), in0, in0⟩, Sl.sub monoC_level ((frm_sets (n := w.heap.size + 2) (by omega) _ _ _).tr (frm_le (by omega) _)) (sl_one (by simp [LIM]) (cs := [.slice A1 l.parts.length c1]) ⟨_, rfl, HL.out.sub monoC_part (frm_ext _ ((Ext.rf _).al _))⟩ (cells1o (frm_cell (by omega) (by simp [go_sem])))), sl_nil⟩
end Go.Proofs.YtjaklnabidbmiaaDoor

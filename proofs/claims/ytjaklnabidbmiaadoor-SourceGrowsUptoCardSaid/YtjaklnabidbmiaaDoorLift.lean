/- Walks: slices.Clone of parts and of levels; term.own. Printed by gen_lift.py. -/
import Derived.Test.YtjaklnabidbmiaaDoorWide
import Derived.Test.YtjaklnabidbmiaaDoorTwo
import Derived.WalkSpells
namespace Go.Proofs.YtjaklnabidbmiaaDoor
open Go.RowKit
set_option linter.unusedSimpArgs false
set_option linter.unusedVariables false
theorem level_ones {w : World} (y : Level) (cs : List Value) (h : RLevel w y cs) : Ones 1 cs := by
  obtain ⟨v, rfl, hs⟩ := h
  exact ⟨rfl, fun u hu => by simp only [List.mem_cons, List.not_mem_nil, or_false] at hu; subst hu; exact hs.one⟩
theorem Row.fix {α : Type} {R : World → α → List Value → Prop} {sz bytes : Nat} {w w' : World} (h : Ext w w') {A : Option Addr} {xs : List α} (hr : Row R sz bytes w A xs) : Row (fun _ => R w) sz bytes w' A xs :=
  ⟨hr.1, fun hne => let ⟨b, o, e, hx⟩ := hr.2 hne; ⟨b, o, e, fun i x hi => let ⟨cs, h1, h2⟩ := hx i x hi; ⟨cs, h1, h2.ext h⟩⟩⟩
theorem but_sets0 {n0 g : Nat} : ∀ (cs : List Value) (o : Nat) (w : World), Sub (only (butB n0 (some g)) w) (only (butB n0 (some g)) (w.setCells g o cs))
  | [], _, w => Sub.rf _
  | c :: cs, o, w => by
    have h1 : Sub (only (butB n0 (some g)) w) (only (butB n0 (some g)) (w.setCell ⟨g, o, none⟩ c)) := fun b o' v h => by
      obtain ⟨k1, k2⟩ := only_some.1 h
      refine only_some.2 ⟨k1, ?_⟩
      have hb : b ≠ g := fun e => (butB_iff.1 k1).2 (by rw [e])
      exact (World.cell?_setCell_far w _ _ _ (by first | exact hb | exact fun e => hb e.symm)).trans k2
    rw [World.setCells]
    exact h1.tr (but_sets0 cs (o + 1) _)
theorem cells_set1 {W : World} {b j : Nat} {cs : List Value} {v : Value} (hc : cellsAt W b 0 cs) (hj : j < cs.length) : cellsAt (W.setCell ⟨b, j, none⟩ v) b 0 (cs.set j v) := fun i u hu => by
  rw [Nat.zero_add]
  by_cases h : i = j
  · subst h
    rw [List.getElem?_set_self hj, Option.some.injEq] at hu
    subst hu
    have := hc i cs[i] (List.getElem?_eq_getElem hj)
    rw [Nat.zero_add] at this
    exact World.cell?_setCell_same' W _ v (by rw [this]; rfl)
  · rw [List.getElem?_set_ne (fun e => h e.symm)] at hu
    have := hc i u hu
    rw [Nat.zero_add] at this
    exact (World.cell?_setCell_other W _ _ v (fun e => h (by cases e; rfl))).trans this
theorem Sl.room {α : Type} {R : World → α → List Value → Prop} {sz bytes : Nat} {w : World} {xs : List α} {v : Value} (h : Sl R sz bytes w xs v) : xs.length * bytes ≤ LIM := by
  obtain ⟨A, c, rfl, hc, hr⟩ := h
  exact hr.1
theorem frm_butB {w : World} {n n0 : Nat} {g : Nat} (h0 : n0 ≤ n) (h : g < n) : Sub (frm n w) (only (butB n0 (some g)) w) := only_le (fun b hb => by simp only [fromB, decide_eq_true_eq] at hb; exact butB_iff.2 ⟨by omega, fun e => by cases e; omega⟩) w
theorem butB_frm {w : World} {n0 g : Nat} : Sub (only (butB n0 (some g)) w) (frm n0 w) := only_le (fun b hb => by simp only [fromB, decide_eq_true_eq]; exact (butB_iff.1 hb).1) w
set_option maxRecDepth 100000 in
set_option maxHeartbeats 2000000 in
theorem cloneParts_any (xs : List Part) (v : Value) (w0 w : World) (hs : Sl RPart 2 16 w0 xs v) (h0 : Ext w0 w) : Calls Tryd.prog 44 #[v] w fun e w' => Ext w w' ∧ ∃ v' news, e = .returned v' ∧ w'.ownsRow w.heap.size 44 2 v' xs.length news ∧ ∀ i x, xs[i]? = some x → ∃ cs, RPart w0 x cs ∧ cs.length = 2 ∧ ∀ j u, cs[j]? = some u → news[i * 2 + j]? = some u := by
  obtain ⟨A, c, rfl, hc, hr⟩ := hs
  have hb := hid hr.1
  obtain ⟨i0, hi, hz0, hz1, hz2⟩ := info_parts info_part
  have hi' := hid hi
  have hz0' := hid hz0
  have hz1' := hid hz1
  have hz2' := hid hz2
  clear hi hz0 hz1 hz2
  cases A with
  | none =>
    obtain rfl : xs = [] := by
      cases xs with
      | nil => rfl
      | cons x xs => obtain ⟨b, o, e, _⟩ := hr.2 (by simp); cases e
    have k1 := fun (w : World) => Lib.run_eql_slice_nil (P := Tryd.prog) w 28 44 none 0 c 0 0 Tryd.underlying28
    go_enter Tryd.func44, Tryd.ntmps44
    go_wp2_with fail
    go_ret
    exact ⟨Ext.rf _, _, [], rfl, World.ownsRow_nil _ _ _ _, fun i x h => by simp at h⟩
  | some ad =>
    have k1 := fun (w : World) => Lib.run_eql_slice_nil (P := Tryd.prog) w 28 44 (some ad) xs.length c 0 0 Tryd.underlying28
    go_enter Tryd.func44, Tryd.ntmps44
    go_wp2_with (at_builtin; refine wpList_append_all (R := fun _ => RPart w0) (bytes := 16) (fun y cs h => part_ones y cs h) (by rfl) _ _ 28 (by rfl) w.heap.size 44 i0 _ Tryd.underlying28 hi'.out hz0'.out hz1'.out hz2'.out (by rfl) (by omega) (by omega) _ 0 [] (by rfl) (World.ownsRow_made w #[] 0 (Nat.le_refl _) (Nat.zero_le _) rfl) xs _ c (by rfl) (hr.fix (h0.al _)) (by rw [Nat.zero_add]; exact Nat.le_trans hb.out (by decide)) (by omega) (by simp) ?_; intro v2 w2 news hown hnews hg)
    rw [Nat.zero_add, List.nil_append] at hown
    have hx : Ext w w2 := grown_ext ((Ext.rf w).al _) hg (fun k h => by simp only [Value.ownBlock, Option.some.injEq] at h; omega)
    go_ret
    exact ⟨hx, _, news, rfl, hown, hnews⟩
set_option maxRecDepth 100000 in
set_option maxHeartbeats 2000000 in
theorem cloneLevels_any (xs : List Level) (v : Value) (w0 w : World) (hs : Sl RLevel 1 24 w0 xs v) (h0 : Ext w0 w) : Calls Tryd.prog 57 #[v] w fun e w' => Ext w w' ∧ ∃ v' news, e = .returned v' ∧ w'.ownsRow w.heap.size 30 1 v' xs.length news ∧ ∀ i x, xs[i]? = some x → ∃ cs, RLevel w0 x cs ∧ cs.length = 1 ∧ ∀ j u, cs[j]? = some u → news[i * 1 + j]? = some u := by
  obtain ⟨A, c, rfl, hc, hr⟩ := hs
  have hb := hid hr.1
  obtain ⟨i0, hi, hz0, hz1, hz2⟩ := info_parts info_level
  have hi' := hid hi
  have hz0' := hid hz0
  have hz1' := hid hz1
  have hz2' := hid hz2
  clear hi hz0 hz1 hz2
  cases A with
  | none =>
    obtain rfl : xs = [] := by
      cases xs with
      | nil => rfl
      | cons x xs => obtain ⟨b, o, e, _⟩ := hr.2 (by simp); cases e
    have k1 := fun (w : World) => Lib.run_eql_slice_nil (P := Tryd.prog) w 24 30 none 0 c 0 0 Tryd.underlying24
    go_enter Tryd.func57, Tryd.ntmps57
    go_wp2_with fail
    go_ret
    exact ⟨Ext.rf _, _, [], rfl, World.ownsRow_nil _ _ _ _, fun i x h => by simp at h⟩
  | some ad =>
    have k1 := fun (w : World) => Lib.run_eql_slice_nil (P := Tryd.prog) w 24 30 (some ad) xs.length c 0 0 Tryd.underlying24
    go_enter Tryd.func57, Tryd.ntmps57
    go_wp2_with (at_builtin; refine wpList_append_all (R := fun _ => RLevel w0) (bytes := 24) (fun y cs h => level_ones y cs h) (by rfl) _ _ 24 (by rfl) w.heap.size 30 i0 _ Tryd.underlying24 hi'.out hz0'.out hz1'.out hz2'.out (by rfl) (by omega) (by omega) _ 0 [] (by rfl) (World.ownsRow_made w #[] 0 (Nat.le_refl _) (Nat.zero_le _) rfl) xs _ c (by rfl) (hr.fix (h0.al _)) (by rw [Nat.zero_add]; exact Nat.le_trans hb.out (by decide)) (by omega) (by simp) ?_; intro v2 w2 news hown hnews hg)
    rw [Nat.zero_add, List.nil_append] at hown
    have hx : Ext w w2 := grown_ext ((Ext.rf w).al _) hg (fun k h => by simp only [Value.ownBlock, Option.some.injEq] at h; omega)
    go_ret
    exact ⟨hx, _, news, rfl, hown, hnews⟩
/-- A row of levels that is being made the call's own, the first so many parts done. -/
def LvAt (w : World) (A : Option Addr) (ls : List Level) (i : Nat) (wr : World) : Prop :=
  ∀ j (h : j < ls.length), ∃ g u, A = some ⟨g, 0, none⟩ ∧ w.heap.size + 1 < g ∧ g < wr.heap.size ∧ wr.there g 0 ls.length ∧ wr.cell? ⟨g, j, none⟩ = some u ∧ (j < i → Sl RPart 2 16 (only (butB (w.heap.size + 2) (some g)) wr) ls[j].parts u) ∧ (i ≤ j → Sl RPart 2 16 w ls[j].parts u)
theorem LvAt.ext {w wr wr' : World} {A : Option Addr} {ls : List Level} {i : Nat} (h : LvAt w A ls i wr) (hx : Ext wr wr') : LvAt w A ls i wr' := fun j hj => by
  obtain ⟨g, u, h1, h2, h3, h4, h5, h6, h7⟩ := h j hj
  exact ⟨g, u, h1, h2, Nat.lt_of_lt_of_le h3 hx.size, there_ext hx h4, hx.cell h5, fun h => (h6 h).sub monoC_part (only_ext _ hx.sub), h7⟩
theorem only_set {S : Nat → Bool} {w : World} {b k : Nat} {x : Value} (hb : S b = false) : Sub (only S w) (only S (w.setCell ⟨b, k, none⟩ x)) := fun b' o v h => by
  obtain ⟨k1, k2⟩ := only_some.1 h
  refine only_some.2 ⟨k1, ?_⟩
  have hne : b ≠ b' := fun e => by rw [e, k1] at hb; cases hb
  exact (World.cell?_setCell_far w _ _ _ hne).trans k2
theorem LvAt.low {w wr : World} {A : Option Addr} {ls : List Level} {i b k : Nat} {x : Value} (h : LvAt w A ls i wr) (hb : b < w.heap.size + 2) : LvAt w A ls i (wr.setCell ⟨b, k, none⟩ x) := fun j hj => by
  obtain ⟨g, u, h1, h2, h3, h4, h5, h6, h7⟩ := h j hj
  exact ⟨g, u, h1, h2, by simpa [World.setCell] using h3, there_set (by omega) h4, (World.cell?_setCell_far wr _ _ x (show b ≠ g by omega)).trans h5, fun h => (h6 h).sub monoC_part (only_set (by simp [butB]; omega)), h7⟩
theorem LvAt.store {w wr : World} {g : Nat} {ls : List Level} {i : Nat} {x : Value} (h : LvAt w (some ⟨g, 0, none⟩) ls i wr) (hi : i < ls.length) (hx : Sl RPart 2 16 (only (butB (w.heap.size + 2) (some g)) wr) ls[i].parts x) : LvAt w (some ⟨g, 0, none⟩) ls (i + 1) (wr.setCell ⟨g, i, none⟩ x) := fun j hj => by
  obtain ⟨g', u, h1, h2, h3, h4, h5, h6, h7⟩ := h j hj
  obtain rfl : g = g' := by cases h1; rfl
  have hs : Sub (only (butB (w.heap.size + 2) (some g)) wr) (only (butB (w.heap.size + 2) (some g)) (wr.setCell ⟨g, i, none⟩ x)) := but_sets0 [x] i wr
  by_cases hji : j = i
  · subst hji
    exact ⟨g, x, rfl, h2, by simpa [World.setCell] using h3, World.there_setCells h4 g j [x], World.cell?_setCell_same' wr _ x (by rw [h5]; rfl), fun _ => hx.sub monoC_part hs, fun h => absurd h (by omega)⟩
  · exact ⟨g, u, rfl, h2, by simpa [World.setCell] using h3, World.there_setCells h4 g i [x], (World.cell?_setCell_other wr _ _ x (fun e => hji (by cases e; rfl))).trans h5, fun h => (h6 (by omega)).sub monoC_part hs, fun h => h7 (by omega)⟩
theorem LvAt.sl {w wr : World} {A : Option Addr} {ls : List Level} {c : Nat} (hc : ls.length ≤ c) (hb : ls.length * 24 ≤ LIM) (h : LvAt w A ls ls.length wr) : SlLevel (frm (w.heap.size + 2) wr) ls (.slice A ls.length c) := by
  refine ⟨_, _, rfl, hc, hb, fun hne => ?_⟩
  obtain ⟨g, u, h1, h2, h3, h4, h5, h6, h7⟩ := h 0 (List.length_pos_iff.2 hne)
  subst h1
  refine ⟨g, 0, rfl, fun j x hx => ?_⟩
  obtain ⟨hj, rfl⟩ := List.getElem?_eq_some_iff.1 hx
  obtain ⟨g', u, h1, h2, h3, h4, h5, h6, h7⟩ := h j hj
  obtain rfl : g = g' := by cases h1; rfl
  exact ⟨[u], ⟨u, rfl, (h6 hj).sub monoC_part butB_frm⟩, cells1o (frm_cell (by omega) (by rw [Nat.zero_add, Nat.mul_one]; exact h5))⟩
set_option maxRecDepth 100000 in
set_option maxHeartbeats 4000000 in
theorem termOwn_any (k n a : Int) (ls : List Level) (vl : Value) (Ak : Option Addr) (nk ck : Nat) (w : World) (hl : SlLevel w ls vl) :
    Calls Tryd.prog 37 #[.agg #[.int .i64 k, .int .i64 n, .int .i64 a, vl, .slice Ak nk ck]] w fun e w' => Ext w w' ∧ ∃ vl', e = .returned (.agg #[.int .i64 k, .int .i64 n, .int .i64 a, vl', .slice Ak nk ck]) ∧ SlLevel (frm (w.heap.size + 2) w') ls vl' := by
  have hu5 := Tryd.underlying27
  have hi5 : (Tryd.prog.info? 27).map (·.size) = some 5 := by kernel_rfl
  have hlen : ls.length * 24 ≤ LIM := by obtain ⟨A, c, rfl, hc, hr⟩ := hl; exact hr.1
  have hln : ls.length ≤ 140737488351232 := by unfold LIM at hlen; omega
  have Hlen := hid hlen
  clear hlen
  have HL := hid hl
  obtain ⟨A0, c0, rfl, hc0, -⟩ := hl
  go_enter Tryd.func37, Tryd.ntmps37
  go_wp2_with fail
  refine (cloneLevels_any ls _ w _ HL.out (((Ext.rf _).al _).al _)).mono ?_
  rintro e w1 ⟨hx1, v', news, rfl, hown, hnews⟩
  have hlv : LvAt w (match v' with | .slice A _ _ => A | _ => none) ls 0 w1 ∧ ∃ Av cv, v' = .slice Av ls.length cv ∧ ls.length ≤ cv := by
    rcases id hown.2 with ⟨rfl, hz⟩ | ⟨g, cap, cur, rfl, hg, hgg, hle, hmx, hsz, htk⟩
    · exact ⟨fun j h => absurd h (by omega), _, _, by rw [hz], by omega⟩
    · refine ⟨fun j h => ?_, _, _, rfl, hle⟩
      obtain ⟨cs, ⟨u, rfl, hsu⟩, _, hcs⟩ := hnews j ls[j] (List.getElem?_eq_getElem h)
      have h1 := hcs 0 u rfl
      rw [Nat.mul_one, Nat.add_zero] at h1
      have h2 := hown.cells (g := g) rfl j u h1
      rw [Addr.add_lit, Nat.zero_add] at h2
      refine ⟨g, u, rfl, by simp at hg; omega, (Array.getElem?_eq_some_iff.1 hgg).1, there_of_block hgg (by rw [hsz]; omega), h2, fun h => absurd h (by omega), fun _ => hsu⟩
  obtain ⟨hlv, Av, cv, rfl, hcv⟩ := hlv
  have hlv' : LvAt w Av ls 0 w1 := hlv
  have q3 : w1.cell? ⟨w.heap.size, 3, none⟩ = some (.slice A0 ls.length c0) := hx1.cell (by simp [go_sem])
  have z3 : w1.frozen? ⟨w.heap.size, 3, none⟩ = false := (Below.frozen hx1 (by simp <;> omega)).trans (by simp [go_sem])
  have hc1 : cellsAt w1 w.heap.size 0 [.int .i64 k, .int .i64 n, .int .i64 a, .slice A0 ls.length c0, .slice Ak nk ck] := cells5o (hx1.cell (by simp [go_sem])) (hx1.cell (by simp [go_sem])) (hx1.cell (by simp [go_sem])) (hx1.cell (by simp [go_sem])) (hx1.cell (by simp [go_sem]))
  have th1 : w1.there (w.heap.size + 1) 0 5 := by
    have := there_ext hx1 (there_fresh (w.alloc (.cells #[.int .i64 k, .int .i64 n, .int .i64 a, .slice A0 ls.length c0, .slice Ak nk ck] 27)) 27 #[.int .i64 0, .int .i64 0, .int .i64 0, .slice none 0 0, .slice none 0 0] 5 (Nat.le_refl _))
    simpa using this
  have hxa := hid ((((Ext.rf w).al _).al _).tr hx1)
  have HC1 := hid hc1
  have HT1 := hid th1
  have HLV := hid hlv'
  clear hlv hlv' hown hnews hx1 hc1 th1
  go_upto_region 3 with fail
  go_wp2_with fail
  have hx2 : Ext w (w1.setCell ⟨w.heap.size, 3, none⟩ (.slice Av ls.length cv)) := hxa.out.st (Nat.le_refl _) _
  have hc2 : cellsAt (w1.setCell ⟨w.heap.size, 3, none⟩ (.slice Av ls.length cv)) w.heap.size 0 [.int .i64 k, .int .i64 n, .int .i64 a, .slice Av ls.length cv, .slice Ak nk ck] := by
    have := cells_set1 (j := 3) (v := .slice Av ls.length cv) HC1.out (by simp)
    simpa using this
  have ht2 : (w1.setCell ⟨w.heap.size, 3, none⟩ (.slice Av ls.length cv)).there (w.heap.size + 1) 0 5 := there_set (by omega) HT1.out
  have hv2 : LvAt w Av ls 0 (w1.setCell ⟨w.heap.size, 3, none⟩ (.slice Av ls.length cv)) := HLV.out.low (by omega)
  generalize w1.setCell ⟨w.heap.size, 3, none⟩ (.slice Av ls.length cv) = W2 at hx2 hc2 ht2 hv2 ⊢
  clear q3 z3 hxa HC1 HT1 HLV
  go_loopw [11] (fun i wr => ∃ j : Nat, j ≤ ls.length ∧ i = .int .i64 j ∧ Ext w wr ∧ cellsAt wr w.heap.size 0 [.int .i64 k, .int .i64 n, .int .i64 a, .slice Av ls.length cv, .slice Ak nk ck] ∧ wr.there (w.heap.size + 1) 0 5 ∧ LvAt w Av ls j wr) (fun i _ => ls.length - (intOf i).toNat)
  case atStart => exact ⟨0, by omega, rfl, hx2, hc2, ht2, hv2⟩
  case round =>
    obtain ⟨j, hj, rfl, hxr, hcr, htr, hvr⟩ := hrel
    obtain ⟨wr, rfl⟩ := ext_name2 hxr
    have b3 : wr.cell? ⟨w.heap.size, 3, none⟩ = some (.slice Av ls.length cv) := by simpa using hcr.pick 3 rfl
    by_cases hlt : j < ls.length
    · obtain ⟨g, u, rfl, hg1, hg2, hg3, hg4, hg5, hg6⟩ := hvr j hlt
      have HS := hid (hg6 (Nat.le_refl _))
      have hjI : (j : Int) < ls.length := by omega
      have Hxr := hid hxr
      have Hcr := hid hcr
      have Htr := hid htr
      have Hvr := hid hvr
      have Hg3 := hid hg3
      clear hxr hcr htr hvr hg3 hg5 hg6 hx2 hc2 ht2 hv2
      go_upto_region 5 with fail
      refine wp_region_end (fun s W v => match s with | 14 => v = .pointer (some ⟨w.heap.size, 3, none⟩) | 15 => v = .slice (some ⟨g, 0, none⟩) ls.length cv | 16 => v = .int .i64 j | 17 => v = .pointer (some ⟨w.heap.size, 3, none⟩) | 18 => v = .slice (some ⟨g, 0, none⟩) ls.length cv | 19 => v = .int .i64 j | 20 => v = .pointer (some ⟨g, j, none⟩) | 21 => v = .pointer (some ⟨g, j, none⟩) | 22 => v = u | 23 => Sl RPart 2 16 (only (butB (w.heap.size + 2) (some g)) W) ls[j].parts v | 24 => v = .pointer (some ⟨g, j, none⟩) | 25 => v = .pointer (some ⟨g, j, none⟩) | _ => True) 12 _ (by kernel_rfl) (by kernel_rfl) (by kernel_rfl) (by rfl) rfl rfl (by kernel_rfl) (of_decide_eq_true (by kernel_rfl)) (by kernel_rfl) (by intro s W W' v hx h; revert h; split <;> first | exact id | exact fun h => h.sub monoC_part (only_ext _ hx.sub)) ?_ ?_
      · refine ⟨?_, ?_, ?_, ?_, ?_, ?_, ?_, ?_, ?_, ?_, ?_, ?_, trivial⟩
        · intro a W hx hdf hsz hg hi K hK
          refine step_free rfl ?_
          have t1 : a.tmps.getD 1 undef = .pointer (some ⟨w.heap.size, 0, none⟩) := hi 1 (by kernel_rfl)
          have u1 := t1
          rw [Array.getD_eq_getD_getElem?] at u1
          simp [Oper.wp, Oper.upon, execOp, Act.eval, go_sem, t1, u1, hjI]
          exact hK _ _ (Ext.rf _) (fun d' h => by cases h; exact rfl)
        · intro a W hx hdf hsz hg hi K hK
          refine step_free rfl ?_
          have t14 : a.tmps.getD 14 undef = .pointer (some ⟨w.heap.size, 3, none⟩) := hg 14 (by kernel_rfl)
          have u14 := t14
          rw [Array.getD_eq_getD_getElem?] at u14
          have q := hx.cell b3
          simp [Oper.wp, Oper.upon, execOp, Act.eval, go_sem, t14, u14, q]
          exact hK _ _ (Ext.rf _) (fun d' h => by cases h; exact rfl)
        · intro a W hx hdf hsz hg hi K hK
          refine step_free rfl ?_
          have t3 : a.tmps.getD 3 undef = .int .i64 j := hi 3 (by kernel_rfl)
          have u3 := t3
          rw [Array.getD_eq_getD_getElem?] at u3
          simp [Oper.wp, Oper.upon, execOp, Act.eval, go_sem, t3, u3, hjI]
          exact hK _ _ (Ext.rf _) (fun d' h => by cases h; exact rfl)
        · intro a W hx hdf hsz hg hi K hK
          refine step_free rfl ?_
          have t1 : a.tmps.getD 1 undef = .pointer (some ⟨w.heap.size, 0, none⟩) := hi 1 (by kernel_rfl)
          have u1 := t1
          rw [Array.getD_eq_getD_getElem?] at u1
          simp [Oper.wp, Oper.upon, execOp, Act.eval, go_sem, t1, u1, hjI]
          exact hK _ _ (Ext.rf _) (fun d' h => by cases h; exact rfl)
        · intro a W hx hdf hsz hg hi K hK
          refine step_free rfl ?_
          have t17 : a.tmps.getD 17 undef = .pointer (some ⟨w.heap.size, 3, none⟩) := hg 17 (by kernel_rfl)
          have u17 := t17
          rw [Array.getD_eq_getD_getElem?] at u17
          have q := hx.cell b3
          simp [Oper.wp, Oper.upon, execOp, Act.eval, go_sem, t17, u17, q]
          exact hK _ _ (Ext.rf _) (fun d' h => by cases h; exact rfl)
        · intro a W hx hdf hsz hg hi K hK
          refine step_free rfl ?_
          have t3 : a.tmps.getD 3 undef = .int .i64 j := hi 3 (by kernel_rfl)
          have u3 := t3
          rw [Array.getD_eq_getD_getElem?] at u3
          simp [Oper.wp, Oper.upon, execOp, Act.eval, go_sem, t3, u3, hjI]
          exact hK _ _ (Ext.rf _) (fun d' h => by cases h; exact rfl)
        · intro a W hx hdf hsz hg hi K hK
          refine step_free rfl ?_
          have t18 : a.tmps.getD 18 undef = .slice (some ⟨g, 0, none⟩) ls.length cv := hg 18 (by kernel_rfl)
          have t19 : a.tmps.getD 19 undef = .int .i64 j := hg 19 (by kernel_rfl)
          have u18 := t18
          rw [Array.getD_eq_getD_getElem?] at u18
          have u19 := t19
          rw [Array.getD_eq_getD_getElem?] at u19
          simp [Oper.wp, Oper.upon, execOp, Act.eval, go_sem, t18, u18, t19, u19, hjI]
          exact hK _ _ (Ext.rf _) (fun d' h => by cases h; exact rfl)
        · intro a W hx hdf hsz hg hi K hK
          refine step_free rfl ?_
          have t20 : a.tmps.getD 20 undef = .pointer (some ⟨g, j, none⟩) := hg 20 (by kernel_rfl)
          have u20 := t20
          rw [Array.getD_eq_getD_getElem?] at u20
          simp [Oper.wp, Oper.upon, execOp, Act.eval, go_sem, t20, u20, hjI]
          exact hK _ _ (Ext.rf _) (fun d' h => by cases h; exact rfl)
        · intro a W hx hdf hsz hg hi K hK
          refine step_free rfl ?_
          have t21 : a.tmps.getD 21 undef = .pointer (some ⟨g, j, none⟩) := hg 21 (by kernel_rfl)
          have u21 := t21
          rw [Array.getD_eq_getD_getElem?] at u21
          have q := hx.cell hg4
          simp [Oper.wp, Oper.upon, execOp, Act.eval, go_sem, t21, u21, q]
          exact hK _ _ (Ext.rf _) (fun d' h => by cases h; exact rfl)
        · intro a W hx hdf hsz hg hi K hK
          refine step_free rfl ?_
          have t22 : a.tmps.getD 22 undef = u := hg 22 (by kernel_rfl)
          have u22 := t22
          rw [Array.getD_eq_getD_getElem?] at u22
          simp [Oper.wp, Oper.upon, execOp, Act.eval, go_sem, t22, u22]
          refine (cloneParts_any ls[j].parts _ w W HS.out (Hxr.out.tr hx)).mono ?_
          rintro e w' ⟨hb, v', news, rfl, hown, hnews⟩
          have hO : OwnS RPart 2 44 W.heap.size W.heap.size w' ls[j].parts v' := ⟨news, hown, fun i x h => hnews i x h⟩
          exact hK _ _ hb (fun d' h => by cases h; exact (hO.sl monoC_part (HS.out.room) (Nat.le_refl _)).sub monoC_part (frm_butB (by have := hx.size; omega) (by have := hx.size; omega)))
        · intro a W hx hdf hsz hg hi K hK
          refine step_free rfl ?_
          have t15 : a.tmps.getD 15 undef = .slice (some ⟨g, 0, none⟩) ls.length cv := hg 15 (by kernel_rfl)
          have t16 : a.tmps.getD 16 undef = .int .i64 j := hg 16 (by kernel_rfl)
          have u15 := t15
          rw [Array.getD_eq_getD_getElem?] at u15
          have u16 := t16
          rw [Array.getD_eq_getD_getElem?] at u16
          simp [Oper.wp, Oper.upon, execOp, Act.eval, go_sem, t15, u15, t16, u16, hjI]
          exact hK _ _ (Ext.rf _) (fun d' h => by cases h; exact rfl)
        · intro a W hx hdf hsz hg hi K hK
          refine step_free rfl ?_
          have t24 : a.tmps.getD 24 undef = .pointer (some ⟨g, j, none⟩) := hg 24 (by kernel_rfl)
          have u24 := t24
          rw [Array.getD_eq_getD_getElem?] at u24
          simp [Oper.wp, Oper.upon, execOp, Act.eval, go_sem, t24, u24, hjI]
          exact hK _ _ (Ext.rf _) (fun d' h => by cases h; exact rfl)
      · rintro ⟨T3, D3⟩ W hx hdf hsz0 hg hi
        have t23 := (show Sl RPart 2 16 (only (butB (w.heap.size + 2) (some g)) W) ls[j].parts (T3.getD 23 undef) from hg 23 (by kernel_rfl))
        have t25 : T3.getD 25 undef = .pointer (some ⟨g, j, none⟩) := hg 25 (by kernel_rfl)
        have qj := hx.cell hg4
        have zj := (there_ext hx Hg3.out j hlt).2
        rw [Nat.zero_add] at zj
        obtain ⟨v23, e23⟩ : ∃ v, v = T3.getD 23 undef := ⟨_, rfl⟩
        have hS23 := t23
        rw [← e23] at hS23
        clear t23
        have t23 := e23.symm
        obtain ⟨Ap, cp, ev, -⟩ := id hS23
        subst ev
        have HS23 := hid hS23
        clear hS23 e23
        obtain ⟨f', hf', hT⟩ := frame_mix [false, false, false, false, false, false, false, false, false, false, false, false, false, false, true, true, true, true, true, true, true, true, true, true, true, true, false, false] (dstsOfOps _) T3 _ 28 (by rfl) hsz0 (by kernel_rfl) hi
        have g23 := (hf' 23).symm.trans t23
        have g25 := (hf' 25).symm.trans t25
        have hD : D3 = [] := hdf
        clear hf' hi hg hsz0 hdf
        subst hT hD
        simp only [List.toList_toArray, mix, Nat.reduceAdd, g23, g25]
        simp [Oper.wp, Oper.upon, execOp, Act.eval, go_sem, qj, zj]
        have hx9 := (Hxr.out.tr hx).st (p := ⟨g, j, none⟩) (by show w.heap.size ≤ g; omega) (.slice Ap ls[j].parts.length cp)
        have hc9 : cellsAt (W.setCell ⟨g, j, none⟩ (.slice Ap ls[j].parts.length cp)) w.heap.size 0 [.int .i64 k, .int .i64 n, .int .i64 a, .slice (some ⟨g, 0, none⟩) ls.length cv, .slice Ak nk ck] := fun i u hu => (World.cell?_setCell_far W _ _ _ (show g ≠ w.heap.size by omega)).trans ((Hcr.out.ext hx) i u hu)
        have ht9 : (W.setCell ⟨g, j, none⟩ (.slice Ap ls[j].parts.length cp)).there (w.heap.size + 1) 0 5 := there_set (by omega) (there_ext hx Htr.out)
        have hv9 := (Hvr.out.ext hx).store hlt HS23.out
        generalize W.setCell ⟨g, j, none⟩ (.slice Ap ls[j].parts.length cp) = W9 at hx9 hc9 ht9 hv9 ⊢
        clear qj zj Hxr Hcr Htr Hvr HS23
        go_wp2_with fail
        exact ⟨⟨j + 1, by omega, by go_num, hx9, hc9, ht9, hv9⟩, by simp only [intOf]; omega⟩
    · obtain rfl : j = ls.length := by omega
      have b0 : wr.cell? ⟨w.heap.size, 0, none⟩ = some (.int .i64 k) := by simpa using hcr.pick 0 rfl
      have b1 : wr.cell? ⟨w.heap.size, 1, none⟩ = some (.int .i64 n) := by simpa using hcr.pick 1 rfl
      have b2 : wr.cell? ⟨w.heap.size, 2, none⟩ = some (.int .i64 a) := by simpa using hcr.pick 2 rfl
      have b4 : wr.cell? ⟨w.heap.size, 4, none⟩ = some (.slice Ak nk ck) := by simpa using hcr.pick 4 rfl
      have Hxr := hid hxr
      have Htr := hid htr
      have Hvr := hid hvr
      clear hxr hcr htr hvr hx2 hc2 ht2 hv2
      have hone : ∀ v ∈ ([.int .i64 k, .int .i64 n, .int .i64 a, .slice Av ls.length cv, .slice Ak nk ck] : List Value), v.oneCell' = true := by
        intro u hu
        simp only [List.mem_cons, List.not_mem_nil, or_false] at hu
        rcases hu with rfl | rfl | rfl | rfl | rfl <;> rfl
      have Hone := hid hone
      clear hone
      go_wp2_with ((with_reducible show wpList _ _ _ (⟨_, Op.store 27 _ _, _, _, _, _⟩ :: _) _ _); refine wpList_store_mid (by rfl) 27 _ _ (by rfl) (w.heap.size + 1) 0 #[.int .i64 k, .int .i64 n, .int .i64 a, .slice Av ls.length cv, .slice Ak nk ck] (by rfl) (by rfl) (by exact Htr.out) hi5 (all_oneCell_toArray Hone.out) ?_)
      refine bodyPost_ret (v := .agg #[.int .i64 k, .int .i64 n, .int .i64 a, .slice Av ls.length cv, .slice Ak nk ck]) (results_cell_mid (by rfl) _ _ (w.heap.size + 1) [.int .i64 k, .int .i64 n, .int .i64 a, .slice Av ls.length cv, .slice Ak nk ck] _ (by rfl) (World.rangeAt_setCells_same _ _ _ _ Htr.out) hu5 (by rfl) hi5) rfl ?_
      refine ⟨Hxr.out.sets (by omega) _ _, _, rfl, ?_⟩
      exact (Hvr.out.sl hcv Hlen.out).sub monoC_level (frm_sets (by omega) _ _ _)
end Go.Proofs.YtjaklnabidbmiaaDoor

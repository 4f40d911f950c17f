/- Walks: slices.Backward over terms; package tele's row.above. Printed by gen_above.py. -/
import Derived.Test.YtjaklnabidbmiaaDoorLift4
import Derived.Test.YtjaklnabidbmiaaDoorRange
namespace Go.Proofs.YtjaklnabidbmiaaDoor
open Go.RowKit Go.Shelf
set_option linter.unusedSimpArgs false
set_option linter.unusedVariables false
attribute [local go_sem] Oper.semAt_some
/-- What a loop's body keeps: the blocks of which k says so. -/
structure KeepB (k : Nat → Prop) (A B : World) : Prop where
  size : A.heap.size ≤ B.heap.size
  block : ∀ i, k i → i < A.heap.size → B.heap[i]? = A.heap[i]?
theorem KeepB.rf (k : Nat → Prop) (A : World) : KeepB k A A := ⟨Nat.le_refl _, fun _ _ _ => rfl⟩
theorem KeepB.tr {k : Nat → Prop} {A B C : World} (h : KeepB k A B) (h2 : KeepB k B C) : KeepB k A C := ⟨Nat.le_trans h.size h2.size, fun i hi hl => (h2.block i hi (Nat.lt_of_lt_of_le hl h.size)).trans (h.block i hi hl)⟩
theorem KeepB.of {k : Nat → Prop} {A B : World} (h : Ext A B) : KeepB k A B := ⟨h.size, fun i _ hl => h.block i hl⟩
theorem KeepB.put {k : Nat → Prop} {A : World} {l : Nat} {o : Obj} (h : ¬ k l) : KeepB k A (A.putObj l o) := ⟨by simp, fun i hi _ => World.putObj_heap_other (fun e => h (e ▸ hi))⟩
theorem KeepB.set {k : Nat → Prop} {A : World} {g j : Nat} {v : Value} (h : ¬ k g) : KeepB k A (A.setCell ⟨g, j, none⟩ v) := ⟨by simp [World.setCell], fun i hi _ => Below.heap_setCell A _ v i (fun e => h (by have : i = g := e; rw [← this]; exact hi))⟩
theorem KeepB.sets {k : Nat → Prop} {g : Nat} (h : ¬ k g) : ∀ (cs : List Value) (o : Nat) (A : World), KeepB k A (A.setCells g o cs)
  | [], _, A => .rf k A
  | c :: cs, o, A => (KeepB.set h).tr (KeepB.sets h cs (o + 1) _)
theorem KeepB.cell {k : Nat → Prop} {A B : World} (h : KeepB k A B) {b o : Nat} {v : Value} (hb : k b) (hc : A.cell? ⟨b, o, none⟩ = some v) : B.cell? ⟨b, o, none⟩ = some v := by
  have := h.block b hb (lt_of_cell hc)
  unfold World.cell? at hc ⊢
  rw [this]
  exact hc
theorem keeps_sets {g : Nat} : ∀ (cs : List Value) (o : Nat) (A : World), KeepsOthers A (A.setCells g o cs)
  | [], _, A => .refl A
  | c :: cs, o, A => (KeepsOthers.setCell A ⟨g, o, none⟩ c).trans (keeps_sets cs (o + 1) _)
/-- A turn of what is no cells leaves all cells. -/
theorem sub_of_row {W W' : World} {row : Option Nat} {B : Nat} (hg : W.grownBy W' row) (hr : ∀ r, row = some r → B ≤ r ∧ ∃ o : Obj, W.heap[r]? = some o ∧ o.isCells = false) : Sub W W' := fun b o v h => by
  refine hg.cell h (fun e => ?_)
  obtain ⟨_, ob, h1, h2⟩ := hr b e.symm
  unfold World.cell? at h
  rw [h1] at h
  cases ob <;> simp_all [Obj.isCells]
theorem there_of_row {W W' : World} {row : Option Nat} {B : Nat} (hg : W.grownBy W' row) (hr : ∀ r, row = some r → B ≤ r ∧ ∃ o : Obj, W.heap[r]? = some o ∧ o.isCells = false) {b o n : Nat} (hn : 0 < n) (h : W.there b o n) : W'.there b o n := by
  refine grown_there hg (fun e => ?_) h
  obtain ⟨_, ob, h1, h2⟩ := hr b e
  have h3 := (h 0 hn).1
  unfold World.cell? at h3
  rw [h1] at h3
  cases ob <;> simp_all [Obj.isCells]
/-- The blocks from n0 on, but those of a frame's own. -/
def outB (n0 lo hi : Nat) : Nat → Bool := fun b => decide (n0 ≤ b) && !(decide (lo ≤ b) && decide (b < hi))
theorem outB_iff {n0 lo hi b : Nat} : outB n0 lo hi b = true ↔ n0 ≤ b ∧ ¬ (lo ≤ b ∧ b < hi) := by simp [outB]; intro _; omega
theorem outB_no {n0 lo hi b : Nat} (h : lo ≤ b ∧ b < hi) : outB n0 lo hi b = false := by simp [outB]; omega
theorem only_sets {S : Nat → Bool} {g : Nat} (h : S g = false) : ∀ (cs : List Value) (o : Nat) (w : World), Sub (only S w) (only S (w.setCells g o cs))
  | [], _, w => Sub.rf _
  | c :: cs, o, w => by
    rw [World.setCells]
    exact (only_set h).tr (only_sets h cs (o + 1) _)
theorem out_cell {w : World} {n0 lo hi b o : Nat} {v : Value} (h0 : n0 ≤ b) (hne : hi ≤ b) (h : w.cell? ⟨b, o, none⟩ = some v) : (only (outB n0 lo hi) w).cell? ⟨b, o, none⟩ = some v := only_some.2 ⟨outB_iff.2 ⟨h0, by omega⟩, h⟩
theorem out_frm {n0 lo hi : Nat} {w : World} : Sub (only (outB n0 lo hi) w) (frm n0 w) := only_le (fun b hb => by simp only [fromB, decide_eq_true_eq]; exact (outB_iff.1 hb).1) w
theorem frm_out {n0 lo hi : Nat} {w w' : World} (hlo : w.heap.size ≤ lo) (h : Ext w w') : Sub (frm n0 w) (only (outB n0 lo hi) w') := fun b o v hc => by
  obtain ⟨k1, k2⟩ := only_some.1 hc
  have := lt_of_cell k2
  exact only_some.2 ⟨outB_iff.2 ⟨by simpa [fromB] using k1, by omega⟩, h.cell k2⟩
theorem keep_sets1 {W : World} {g b o k : Nat} {v : Value} {cs : List Value} (hg : b ≠ g) (h : W.cell? ⟨b, o, none⟩ = some v) : (W.setCells g k cs).cell? ⟨b, o, none⟩ = some v :=
  (only_some.1 (but_sets0 (n0 := 0) (g := g) cs k W _ _ _ (only_some.2 ⟨butB_iff.2 ⟨Nat.zero_le _, fun e => hg (by cases e; rfl)⟩, h⟩))).2
theorem but_cellN {w : World} {n0 g b o : Nat} {v : Value} (h0 : n0 ≤ b) (hne : b ≠ g) (h : w.cell? ⟨b, o, none⟩ = some v) : (only (butB n0 (some g)) w).cell? ⟨b, o, none⟩ = some v := only_some.2 ⟨butB_iff.2 ⟨h0, fun e => hne (by cases e; rfl)⟩, h⟩
/-- What is handed to a round: an index, a term, its cells. -/
abbrev Given (wR : World) : Type := { p : (Int × Term) × List Value // RTerm wR p.1.2 p.2 }
set_option maxRecDepth 100000 in
set_option maxHeartbeats 2000000 in
theorem backward1_any (wR w0 W : World) (n0 Bs : Nat) (xs : List Term) (A : Option Addr) (c : Nat) (hsub : Sub wR w0) (hn0 : w0.heap.size ≤ n0) (hx : Ext w0 W) (hc : W.cell? ⟨Bs, 0, none⟩ = some (.slice A xs.length c)) (hr : Row RTerm 5 72 wR A xs) :
    SeqX Tryd.prog 88 #[.pointer (some ⟨Bs, 0, none⟩)] (fun x : Given wR => #[.int .i64 x.1.1.1, .agg x.1.2.toArray]) Ext (KeepB (fun k => k < n0 ∨ k = Bs)) (fun ys => ys.map (·.1.1.2) = xs.reverse) (fun _ => True) W := by
  intro l J Jx hJ hJx hY h0
  have hlen := hr.len_le
  show CallsIn Fence.wide 4 Tryd.prog 88 #[.func (.yield l) #[] #[], .pointer (some ⟨Bs, 0, none⟩)] W _
  have HX := hid hx
  clear hx
  refine callsIn_of_wp Tryd.func88 rfl trivial ?_ rfl
  simp only [Tryd.ntmps88, List.size_toArray, List.length_cons, List.length_nil, Nat.reduceAdd, Nat.reduceSub, Array.replicate_succ, Array.replicate_zero, List.push_toArray, List.append_toArray, List.nil_append, List.cons_append]
  gi_wp2
  gi_loopw [3] (fun i wr => ∃ (z : Int) (pre : List (Given wR)), -1 ≤ z ∧ z < xs.length ∧ i = .int .i64 z ∧ KeepB (fun k => k < n0 ∨ k = Bs) W wr ∧ J pre wr ∧ pre.map (·.1.1.2) = (xs.drop (z + 1).toNat).reverse) (fun i _ => (intOf i + 1).toNat)
  case atStart => exact ⟨(xs.length : Int) - 1, [], by omega, by omega, rfl, .rf _ _, h0, by rw [show ((xs.length : Int) - 1 + 1).toNat = xs.length by omega]; simp⟩
  case round =>
    rename_i wr
    obtain ⟨z, pre, hz1, hz2, rfl, hkp, hJs, hpre⟩ := hrel
    have hcr := hkp.cell (.inr rfl) hc
    by_cases hz : 0 ≤ z
    · obtain ⟨m, rfl⟩ := Int.eq_ofNat_of_zero_le hz
      have hm : m < xs.length := by omega
      obtain ⟨b, o, cs, rfl, hRm, hcs⟩ := hr.at_ hm
      obtain ⟨vl, vk, rfl, -, ⟨A1, c1, rfl, -⟩, ⟨A2, c2, rfl, -⟩⟩ := rterm_open hRm
      have hcw : ∀ j v, ([.int .i64 xs[m].kind, .int .i64 xs[m].num, .int .i64 xs[m].at_, .slice A1 xs[m].levels.length c1, .slice A2 xs[m].kids.length c2] : List Value)[j]? = some v → wr.cell? ⟨b, o + m * 5 + j, none⟩ = some v := fun j v hv => hkp.cell (.inl (Nat.lt_of_lt_of_le (lt_of_cell (hsub _ _ _ (hcs 0 _ rfl))) hn0)) (HX.out.cell (hsub _ _ _ (hcs j v hv)))
      have e0 := hcw 0 _ rfl
      have e1 := hcw 1 _ rfl
      have e2 := hcw 2 _ rfl
      have e3 := hcw 3 _ rfl
      have e4 := hcw 4 _ rfl
      rw [Nat.add_zero] at e0
      obtain ⟨fn, tmps, assign, body, hy, hR⟩ := hY pre ⟨((m, xs[m]), [.int .i64 xs[m].kind, .int .i64 xs[m].num, .int .i64 xs[m].at_, .slice A1 xs[m].levels.length c1, .slice A2 xs[m].kids.length c2]), hRm⟩ _ hJs
      dsimp only at hy
      have hmI : (m : Int) < xs.length := by omega
      gi_wp2
      refine hR.mono ?_
      rintro e W3 (⟨rfl, hJ3, hk3⟩ | ⟨rfl, hJx3⟩)
      · gi_wp2
        go_roundw
        case rel => exact ⟨(m : Int) - 1, pre ++ [⟨((m, xs[m]), [.int .i64 xs[m].kind, .int .i64 xs[m].num, .int .i64 xs[m].at_, .slice A1 xs[m].levels.length c1, .slice A2 xs[m].kids.length c2]), hRm⟩], by omega, by omega, by go_num, hkp.tr hk3, hJ3, by
          rw [List.map_append, hpre, show ((m : Int) - 1 + 1).toNat = m by omega, show ((m : Int) + 1).toNat = m + 1 by omega, List.drop_eq_getElem_cons hm, List.reverse_cons]
          rfl⟩
        case measure => simp [intOf] <;> omega
      · gi_wp2
        refine bodyPost_ret (results_none rfl _ _ _) rfl ?_
        exact ⟨⟨_, rfl⟩, .inr ⟨_, trivial, hJx3⟩⟩
    · obtain rfl : z = -1 := by omega
      gi_wp2
      go_end0
      exact ⟨⟨_, rfl⟩, .inl ⟨_, by rw [hpre]; simp, hJs⟩⟩
set_option maxRecDepth 100000 in
theorem backward_any (A : Option Addr) (len c : Nat) (w : World) : Calls Tryd.prog 63 #[.slice A len c] w fun e w' => e = .returned (.func (.func 88) #[] #[.pointer (some ⟨w.heap.size, 0, none⟩)]) ∧ w' = w.alloc (.cells #[.slice A len c] 25) := by
  have hmf : ∀ (fn : Fn) (first cap : Array Value) (w : World), (Instr.makeFunc fn first cap).run Tryd.prog w = .ok (.func fn first cap) w := fun _ _ _ _ => rfl
  go_enter Tryd.func63, Tryd.ntmps63
  go_wp2_with fail
  go_ret
  exact ⟨rfl, rfl⟩
/-- Types above a term: the one below all first. -/
def aboveT (k : Int) : Term → List Term → Term
  | b, [] => b
  | b, a :: l => aboveT k (.mk k 0 0 [] [a, b]) l
theorem aboveT_snoc (k : Int) : ∀ (l : List Term) (b a : Term), aboveT k b (l ++ [a]) = .mk k 0 0 [] [a, aboveT k b l]
  | [], _, _ => rfl
  | x :: l, b, a => by rw [List.cons_append, aboveT, aboveT, aboveT_snoc k l]
/-- The variable at work, and what else the loop leans on. -/
def AboveI {wR : World} (k : Int) (n0 : Nat) (w : World) (b : Term) (pre : List (Given wR)) (W : World) : Prop :=
  (∃ cs : List Value, RTerm (only (outB n0 w.heap.size (w.heap.size + 5)) W) (aboveT k b (pre.map (·.1.1.2))) cs ∧ cellsAt W (w.heap.size + 2) 0 cs) ∧ W.there (w.heap.size + 2) 0 5 ∧ W.there (w.heap.size + 3) 0 5 ∧ W.cell? ⟨w.heap.size + 1, 0, none⟩ = some (.int .i64 k) ∧ w.heap.size + 5 ≤ W.heap.size ∧ Ext w W
theorem aboveI_own {wR : World} {k : Int} {n0 : Nat} {w : World} {b : Term} {B : Nat} (hB : w.heap.size ≤ B) : OwnFrom B (AboveI (wR := wR) k n0 w b) := by
  rintro s X Y row ⟨⟨cs, h1, h2⟩, h3, h4, h5, hz, h6⟩ hg hr
  have hs := sub_of_row hg hr
  exact ⟨⟨cs, monoC_term _ _ _ _ (only_ext _ hs) h1, h2.sub hs⟩, there_of_row hg hr (by omega) h3, there_of_row hg hr (by omega) h4, hs _ _ _ h5, Nat.le_trans hz hg.size, Below.grown h6 hg h6.size (fun k e => Nat.le_trans hB (hr k e).1)⟩
theorem aboveI_ext {wR : World} {k : Int} {n0 : Nat} {w : World} {b : Term} {s : List (Given wR)} {X Y : World} (h : AboveI k n0 w b s X) (hx : Ext X Y) : AboveI k n0 w b s Y := by
  obtain ⟨⟨cs, h1, h2⟩, h3, h4, h5, hz, h6⟩ := h
  exact ⟨⟨cs, monoC_term _ _ _ _ (only_ext _ hx.sub) h1, h2.ext hx⟩, there_ext hx h3, there_ext hx h4, hx.cell h5, Nat.le_trans hz hx.size, h6.tr hx⟩
set_option maxRecDepth 100000 in
set_option maxHeartbeats 2000000 in
theorem above_any (k : Int) (xs : List Term) (v : Value) (b : Term) (cs : List Value) (n0 : Nat) (w : World) (hn : n0 ≤ w.heap.size) (hk : inI k) (hs : SlTerm (frm n0 w) xs v) (hb : RTerm (frm n0 w) b cs) :
    Calls Tryd.prog 42 #[.agg #[v], .int .i64 k, .agg cs.toArray] w fun e w' => Ext w w' ∧ ∃ cs', e = .returned (.agg cs'.toArray) ∧ RTerm (frm n0 w') (aboveT k b xs.reverse) cs' := by
  have hu5 := Tryd.underlying27
  have hi5 : (Tryd.prog.info? 27).map (·.size) = some 5 := by kernel_rfl
  obtain ⟨A, c, rfl, hc, hr⟩ := hs
  obtain ⟨vl, vk, rfl, -, ⟨A1, c1, rfl, -⟩, ⟨A2, c2, rfl, -⟩⟩ := rterm_open hb
  have HR := hid hr
  have HB := hid hb
  have HT3 := hid (show (((((w.alloc (.cells #[.slice A xs.length c] 77)).alloc (.cells #[.int .i64 k] 23)).alloc (.cells #[.int .i64 b.kind, .int .i64 b.num, .int .i64 b.at_, .slice A1 b.levels.length c1, .slice A2 b.kids.length c2] 27)).alloc (.cells #[.int .i64 0, .int .i64 0, .int .i64 0, .slice none 0 0, .slice none 0 0] 27)).alloc (.cells #[.slice A xs.length c] 25)).there (w.heap.size + 3) 0 5 from there_ext ((Ext.rf _).al _) (by have := there_fresh (((w.alloc (.cells #[.slice A xs.length c] 77)).alloc (.cells #[.int .i64 k] 23)).alloc (.cells #[.int .i64 b.kind, .int .i64 b.num, .int .i64 b.at_, .slice A1 b.levels.length c1, .slice A2 b.kids.length c2] 27)) 27 #[.int .i64 0, .int .i64 0, .int .i64 0, .slice none 0 0, .slice none 0 0] 5 (Nat.le_refl _); simpa using this))
  have HT2 := hid (show (((((w.alloc (.cells #[.slice A xs.length c] 77)).alloc (.cells #[.int .i64 k] 23)).alloc (.cells #[.int .i64 b.kind, .int .i64 b.num, .int .i64 b.at_, .slice A1 b.levels.length c1, .slice A2 b.kids.length c2] 27)).alloc (.cells #[.int .i64 0, .int .i64 0, .int .i64 0, .slice none 0 0, .slice none 0 0] 27)).alloc (.cells #[.slice A xs.length c] 25)).there (w.heap.size + 2) 0 5 from there_ext (((Ext.rf _).al _).al _) (by have := there_fresh ((w.alloc (.cells #[.slice A xs.length c] 77)).alloc (.cells #[.int .i64 k] 23)) 27 #[.int .i64 b.kind, .int .i64 b.num, .int .i64 b.at_, .slice A1 b.levels.length c1, .slice A2 b.kids.length c2] 5 (Nat.le_refl _); simpa using this))
  have HC2 := hid (show cellsAt (((((w.alloc (.cells #[.slice A xs.length c] 77)).alloc (.cells #[.int .i64 k] 23)).alloc (.cells #[.int .i64 b.kind, .int .i64 b.num, .int .i64 b.at_, .slice A1 b.levels.length c1, .slice A2 b.kids.length c2] 27)).alloc (.cells #[.int .i64 0, .int .i64 0, .int .i64 0, .slice none 0 0, .slice none 0 0] 27)).alloc (.cells #[.slice A xs.length c] 25)) (w.heap.size + 2) 0 [.int .i64 b.kind, .int .i64 b.num, .int .i64 b.at_, .slice A1 b.levels.length c1, .slice A2 b.kids.length c2] from cells5o (by simp [go_sem]) (by simp [go_sem]) (by simp [go_sem]) (by simp [go_sem]) (by simp [go_sem]))
  have HK1 := hid (show (((((w.alloc (.cells #[.slice A xs.length c] 77)).alloc (.cells #[.int .i64 k] 23)).alloc (.cells #[.int .i64 b.kind, .int .i64 b.num, .int .i64 b.at_, .slice A1 b.levels.length c1, .slice A2 b.kids.length c2] 27)).alloc (.cells #[.int .i64 0, .int .i64 0, .int .i64 0, .slice none 0 0, .slice none 0 0] 27)).alloc (.cells #[.slice A xs.length c] 25)).cell? ⟨w.heap.size + 1, 0, none⟩ = some (.int .i64 k) by simp [go_sem])
  have HX5 := hid (show Ext w (((((w.alloc (.cells #[.slice A xs.length c] 77)).alloc (.cells #[.int .i64 k] 23)).alloc (.cells #[.int .i64 b.kind, .int .i64 b.num, .int .i64 b.at_, .slice A1 b.levels.length c1, .slice A2 b.kids.length c2] 27)).alloc (.cells #[.int .i64 0, .int .i64 0, .int .i64 0, .slice none 0 0, .slice none 0 0] 27)).alloc (.cells #[.slice A xs.length c] 25)) from (((((Ext.rf _).al _).al _).al _).al _).al _)
  have HC4 := hid (show (((((w.alloc (.cells #[.slice A xs.length c] 77)).alloc (.cells #[.int .i64 k] 23)).alloc (.cells #[.int .i64 b.kind, .int .i64 b.num, .int .i64 b.at_, .slice A1 b.levels.length c1, .slice A2 b.kids.length c2] 27)).alloc (.cells #[.int .i64 0, .int .i64 0, .int .i64 0, .slice none 0 0, .slice none 0 0] 27)).alloc (.cells #[.slice A xs.length c] 25)).cell? ⟨w.heap.size + 4, 0, none⟩ = some (.slice A xs.length c) by simp [go_sem])
  have hz5 : (((((w.alloc (.cells #[.slice A xs.length c] 77)).alloc (.cells #[.int .i64 k] 23)).alloc (.cells #[.int .i64 b.kind, .int .i64 b.num, .int .i64 b.at_, .slice A1 b.levels.length c1, .slice A2 b.kids.length c2] 27)).alloc (.cells #[.int .i64 0, .int .i64 0, .int .i64 0, .slice none 0 0, .slice none 0 0] 27)).alloc (.cells #[.slice A xs.length c] 25)).heap.size = w.heap.size + 5 := by simp
  clear hr hb
  refine (callsIn_wide (n := 5)).1 ?_
  refine callsIn_of_wp_marks Tryd.func42 rfl trivial ?_ rfl
  simp only [Tryd.ntmps42, List.size_toArray, List.length_cons, List.length_nil, Nat.reduceAdd, Nat.reduceSub, Array.replicate_succ, Array.replicate_zero, List.push_toArray, List.append_toArray, List.nil_append, List.cons_append]
  gi_wp2_with ((refine ⟨trivial, ?_⟩; gi_at_call 63; refine (callsIn_wide.2 (backward_any _ _ _ _)).mono ?_; rintro e w' ⟨rfl, rfl⟩))
  generalize hW5 : (((((w.alloc (.cells #[.slice A xs.length c] 77)).alloc (.cells #[.int .i64 k] 23)).alloc (.cells #[.int .i64 b.kind, .int .i64 b.num, .int .i64 b.at_, .slice A1 b.levels.length c1, .slice A2 b.kids.length c2] 27)).alloc (.cells #[.int .i64 0, .int .i64 0, .int .i64 0, .slice none 0 0, .slice none 0 0] 27)).alloc (.cells #[.slice A xs.length c] 25)) = W5 at HT3 HT2 HC2 HK1 HX5 HC4 hz5 ⊢
  have hI0 : AboveI (wR := frm n0 w) k n0 w b [] W5 := ⟨⟨_, monoC_term _ _ _ _ (frm_out (Nat.le_refl _) HX5.out) HB.out, HC2.out⟩, HT2.out, HT3.out, HK1.out, by omega, HX5.out⟩
  refine wpIn_rangeFunc_x (α := Given (frm n0 w)) (gf := 88) (lb := #[.pointer (some ⟨w.heap.size + 4, 0, none⟩)]) rfl (enters_of Tryd.func88 (by kernel_rfl) rfl) (encs := fun x => #[.int .i64 x.1.1.1, .agg x.1.2.toArray]) (Ab := Ext) (Kp := KeepB (fun k => k < w.heap.size ∨ k = w.heap.size + 4)) (S := fun ys => ys.map (·.1.1.2) = xs.reverse) (Sp := fun _ => True)
    (fun W1 hb hz => backward1_any (frm n0 w) w W1 w.heap.size (w.heap.size + 4) xs A c (frm_sub _ _) (Nat.le_refl _) (HX5.out.tr hb) (Ext.cell hb HC4.out) HR.out)
    KeepB.tr (fun W l o o' hl h _ _ => KeepB.put (by omega)) (fun A B k h h1 _ _ => h.block k h1) (fun _ => rfl)
    (AboveI k n0 w b) (fun _ _ _ => False) (aboveI_own (by omega)) (fun _ => fun _ _ _ _ h _ _ => h.elim) (fun s A B h hx => aboveI_ext h hx) (fun _ _ _ _ h _ => h.elim) (fun s A B h hx => aboveI_ext h hx) (fun A B h => KeepB.of h) hI0
    (fun x a' W => ∃ B8, w.heap.size + 5 ≤ B8 ∧ W.heap[B8]? = some (.cells x.1.2.toArray 27 (0, 0)) ∧ a' = { tmps := #[.agg #[.slice A xs.length c], .int .i64 k, .agg #[.int .i64 b.kind, .int .i64 b.num, .int .i64 b.at_, .slice A1 b.levels.length c1, .slice A2 b.kids.length c2], .pointer (some ⟨w.heap.size, 0, none⟩), .pointer (some ⟨w.heap.size + 1, 0, none⟩), .pointer (some ⟨w.heap.size + 2, 0, none⟩), .pointer (some ⟨w.heap.size + 3, 0, none⟩), undef, .pointer (some ⟨B8, 0, none⟩), .pointer (some ⟨w.heap.size, 0, none⟩), .slice A xs.length c, .func (.func 88) #[] #[.pointer (some ⟨w.heap.size + 4, 0, none⟩)], .int .i64 x.1.1.1, .agg x.1.2.toArray, undef, undef, undef, undef, undef, undef], defers := [] })
    (fun x a' => by
      rintro s X Y row ⟨B8, h1, h2, h3⟩ hg hr
      refine ⟨B8, h1, (hg.block B8 (Array.getElem?_eq_some_iff.1 h2).1 (fun e => ?_)).trans h2, h3⟩
      obtain ⟨_, ob, h4, h5⟩ := hr B8 e.symm
      rw [h2] at h4
      cases h4
      simp [Obj.isCells] at h5) ?assign ?body ?done ?stop
  case assign =>
    rintro l pre ⟨⟨⟨i, t⟩, cs⟩, hRt⟩ W K hi hK
    have hRt' : RTerm (frm n0 w) t cs := hRt
    obtain ⟨vl, vk, rfl, -, ⟨A3, c3, rfl, -⟩, ⟨A4, c4, rfl, -⟩⟩ := rterm_open hRt'
    have hlt : w.heap.size + 5 ≤ W.heap.size := hi.2.2.2.2.1
    gi_wp2
    exact hK _ _ ((Ext.rf _).al _) ⟨W.heap.size, hlt, heap_alloc_new W _, rfl⟩
  case body =>
    rintro l pre ⟨⟨⟨i, t⟩, cs⟩, hRt⟩ a' W ⟨⟨cb, hRb, hcb⟩, ht2, ht3, hk1, hzW, hxW⟩ ⟨B8, hB8, hc8, rfl⟩
    have hRt' : RTerm (frm n0 w) t cs := hRt
    obtain ⟨vl, vk, rfl, -, ⟨A3, c3, rfl, -⟩, ⟨A4, c4, rfl, -⟩⟩ := rterm_open hRt'
    obtain ⟨T, hT⟩ : ∃ T, T = aboveT k b (pre.map (·.1.1.2)) := ⟨_, rfl⟩
    rw [← hT] at hRb
    obtain ⟨vl, vk, rfl, -, ⟨A5, c5, rfl, -⟩, ⟨A6, c6, rfl, -⟩⟩ := rterm_open hRb
    have hc8' : ∀ j u, ([.int .i64 t.kind, .int .i64 t.num, .int .i64 t.at_, .slice A3 t.levels.length c3, .slice A4 t.kids.length c4] : List Value)[j]? = some u → W.cell? ⟨B8, j, none⟩ = some u := fun j u hu => by
      rw [cell_of_row W B8 _ _ 27 (0, 0) hc8]
      simpa using hu
    have e0 := hc8' 0 _ rfl
    have e1 := hc8' 1 _ rfl
    have e2 := hc8' 2 _ rfl
    have e3 := hc8' 3 _ rfl
    have e4 := hc8' 4 _ rfl
    have d0 := hcb.at0
    have d1 := hcb.at1
    have d2 := hcb.at2
    have d3 := hcb.at3
    have d4 := hcb.at4
    rw [Nat.zero_add] at d1 d2 d3 d4
    have HTS := hid (show (W.alloc (.cells #[.int .i64 t.kind, .int .i64 t.num, .int .i64 t.at_, .slice A3 t.levels.length c3, .slice A4 t.kids.length c4, .int .i64 T.kind, .int .i64 T.num, .int .i64 T.at_, .slice A5 T.levels.length c5, .slice A6 T.kids.length c6] 27)).there (w.heap.size + 2) 0 5 from there_ext ((Ext.rf _).al _) ht2)
    have HRb := hid hRb
    have HRt := hid hRt'
    have hon := hid (show ∀ v ∈ ([.int .i64 k, .int .i64 0, .int .i64 0, .slice none 0 0, .slice (some ⟨W.heap.size, 0, none⟩) 2 2] : List Value), v.oneCell' = true from fun u hu => by
      simp only [List.mem_cons, List.not_mem_nil, or_false] at hu
      rcases hu with rfl | rfl | rfl | rfl | rfl <;> rfl)
    have HCB := hid hcb
    have HXW := hid hxW
    have HT2' := hid ht2
    have HT3' := hid ht3
    have hTe := hid hT
    clear hc8' hc8 hcb ht2 ht3 hxW hRb hRt' hT
    gi_wp2_with ((with_reducible show wpListIn _ _ _ _ _ (⟨_, Op.store 27 _ _, _, _, _, _⟩ :: _) _ _); refine wpListIn_store_mid (by rfl) 27 _ _ (by rfl) (w.heap.size + 2) 0 #[.int .i64 k, .int .i64 0, .int .i64 0, .slice none 0 0, .slice (some ⟨W.heap.size, 0, none⟩) 2 2] (by rfl) (by rfl) (by exact HTS.out) hi5 (all_oneCell_toArray hon.out) ?_)
    have hxa : Ext W (W.alloc (.cells #[.int .i64 t.kind, .int .i64 t.num, .int .i64 t.at_, .slice A3 t.levels.length c3, .slice A4 t.kids.length c4, .int .i64 T.kind, .int .i64 T.num, .int .i64 T.at_, .slice A5 T.levels.length c5, .slice A6 T.kids.length c6] 27)) := (Ext.rf _).al _
    refine ⟨(hxa.keeps).trans (keeps_sets _ _ _), (KeepB.of hxa).tr (KeepB.sets (by omega) _ _ _), ⟨⟨_, ?_, World.rangeAt_setCells_same _ _ _ _ HTS.out⟩, World.there_setCells HTS.out _ _ _, World.there_setCells (there_ext hxa HT3'.out) _ _ _, keep_sets1 (by omega) (hxa.cell hk1), by rw [size_sets]; simp; omega, (HXW.out.tr hxa).sets (by omega) _ _⟩⟩
    rw [List.map_append, List.map_cons, List.map_nil, aboveT_snoc, ← hTe.out]
    have hsb : ∀ X : World, Sub (only (outB n0 w.heap.size (w.heap.size + 5)) X) (only (outB n0 w.heap.size (w.heap.size + 5)) (X.setCells (w.heap.size + 2) 0 [.int .i64 k, .int .i64 0, .int .i64 0, .slice none 0 0, .slice (some ⟨W.heap.size, 0, none⟩) 2 2])) := fun X => only_sets (outB_no (by omega)) _ _ _
    refine rterm_iff.2 ⟨_, _, rfl, ⟨hk, in0, in0⟩, sl_nil, Sl.sub monoC_term (hsb _) (sl_two (by simp [LIM]) (cs := [.int .i64 t.kind, .int .i64 t.num, .int .i64 t.at_, .slice A3 t.levels.length c3, .slice A4 t.kids.length c4]) (ds := [.int .i64 T.kind, .int .i64 T.num, .int .i64 T.at_, .slice A5 T.levels.length c5, .slice A6 T.kids.length c6]) (monoC_term _ _ _ _ (frm_out (Nat.le_refl _) (HXW.out.tr hxa)) HRt.out) (monoC_term _ _ _ _ (only_ext _ hxa.sub) HRb.out) ?_ ?_)⟩
    · exact cells5o (out_cell (by omega) (by omega) (by simp [go_sem])) (out_cell (by omega) (by omega) (by simp [go_sem])) (out_cell (by omega) (by omega) (by simp [go_sem])) (out_cell (by omega) (by omega) (by simp [go_sem])) (out_cell (by omega) (by omega) (by simp [go_sem]))
    · exact cells5o (out_cell (by omega) (by omega) (by simp [go_sem])) (out_cell (by omega) (by omega) (by simp [go_sem])) (out_cell (by omega) (by omega) (by simp [go_sem])) (out_cell (by omega) (by omega) (by simp [go_sem])) (out_cell (by omega) (by omega) (by simp [go_sem]))
  case done =>
    rintro D ys W hD hS ⟨⟨cb, hRb, hcb⟩, ht2, ht3, hk1, hzW, hxW⟩ hK
    obtain ⟨vl, vk, rfl, -, ⟨A5, c5, rfl, -⟩, ⟨A6, c6, rfl, -⟩⟩ := rterm_open hRb
    rw [hS] at hRb hcb
    obtain ⟨T, hT⟩ : ∃ T, T = aboveT k b xs.reverse := ⟨_, rfl⟩
    rw [← hT] at hRb hcb
    have d0 := hcb.at0
    have d1 := hcb.at1
    have d2 := hcb.at2
    have d3 := hcb.at3
    have d4 := hcb.at4
    rw [Nat.zero_add] at d1 d2 d3 d4
    have HRb := hid hRb
    have HXW := hid hxW
    have HT3' := hid ht3
    have hon := hid (show ∀ v ∈ ([.int .i64 T.kind, .int .i64 T.num, .int .i64 T.at_, .slice A5 T.levels.length c5, .slice A6 T.kids.length c6] : List Value), v.oneCell' = true from fun u hu => by
      simp only [List.mem_cons, List.not_mem_nil, or_false] at hu
      rcases hu with rfl | rfl | rfl | rfl | rfl <;> rfl)
    have HKD := hid hK
    have hTe := hid hT
    clear hcb ht2 ht3 hxW hRb hK hT
    gi_wp2_with ((with_reducible show wpListIn _ _ _ _ _ (⟨_, Op.store 27 _ _, _, _, _, _⟩ :: _) _ _); refine wpListIn_store_mid (by rfl) 27 _ _ (by rfl) (w.heap.size + 3) 0 #[.int .i64 T.kind, .int .i64 T.num, .int .i64 T.at_, .slice A5 T.levels.length c5, .slice A6 T.kids.length c6] (by rfl) (by rfl) (by exact HT3'.out) hi5 (all_oneCell_toArray hon.out) ?_)
    have hK9 := (keeps_sets (g := w.heap.size + 3) [.int .i64 T.kind, .int .i64 T.num, .int .i64 T.at_, .slice A5 T.levels.length c5, .slice A6 T.kids.length c6] 0 W).same D _ HKD.out rfl
    refine ⟨by simp, .inl ⟨_, _, rfl, run_takeDeferred hK9, ?_⟩⟩
    have hrow : ∀ r, some D = some r → w.heap.size ≤ r ∧ ∃ o : Obj, (W.setCells (w.heap.size + 3) 0 [.int .i64 T.kind, .int .i64 T.num, .int .i64 T.at_, .slice A5 T.levels.length c5, .slice A6 T.kids.length c6]).heap[r]? = some o ∧ o.isCells = false := fun r e => by cases e; exact ⟨by omega, _, hK9, rfl⟩
    have hgr := grownBy_putObj' (W.setCells (w.heap.size + 3) 0 [.int .i64 T.kind, .int .i64 T.num, .int .i64 T.at_, .slice A5 T.levels.length c5, .slice A6 T.kids.length c6]) D (.deferred none)
    have hsb := sub_of_row hgr hrow
    refine ⟨.agg #[.int .i64 T.kind, .int .i64 T.num, .int .i64 T.at_, .slice A5 T.levels.length c5, .slice A6 T.kids.length c6], results_cell_mid (by rfl) _ _ (w.heap.size + 3) [.int .i64 T.kind, .int .i64 T.num, .int .i64 T.at_, .slice A5 T.levels.length c5, .slice A6 T.kids.length c6] _ (by rfl) (fun j u hu => hsb _ _ _ (World.rangeAt_setCells_same _ _ _ _ HT3'.out j u hu)) hu5 (by rfl) hi5, Below.grown (HXW.out.sets (b := w.heap.size + 3) (by omega) [.int .i64 T.kind, .int .i64 T.num, .int .i64 T.at_, .slice A5 T.levels.length c5, .slice A6 T.kids.length c6] 0) hgr (HXW.out.sets (b := w.heap.size + 3) (by omega) [.int .i64 T.kind, .int .i64 T.num, .int .i64 T.at_, .slice A5 T.levels.length c5, .slice A6 T.kids.length c6] 0).size (fun k e => (hrow k e).1), _, rfl, ?_⟩
    rw [← hTe.out]
    exact monoC_term _ _ _ _ (((only_sets (outB_no (by omega)) _ _ _).tr (only_ext _ hsb)).tr out_frm) HRb.out
  case stop =>
    rintro D c pre W _ _ h _
    exact h.elim
end Go.Proofs.YtjaklnabidbmiaaDoor

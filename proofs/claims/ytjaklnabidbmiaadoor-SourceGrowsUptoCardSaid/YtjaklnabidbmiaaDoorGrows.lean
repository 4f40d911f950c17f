/- Walk: spandrellaw11.SourceGrows: it answers true, and nothing that was there turns (where the rows are not too long to be laid behind each other). Printed by gen_grows2.py. -/
import Derived.Test.YtjaklnabidbmiaaDoorPut
import Derived.Test.YtjaklnabidbmiaaDoorGhost
import Derived.Test.YtjaklnabidbmiaaDoorRefBlk
import Derived.Test.YtjaklnabidbmiaaDoorRows2
namespace Go.Proofs.YtjaklnabidbmiaaDoor
open Go.RowKit
set_option linter.unusedSimpArgs false
set_option linter.unusedVariables false
theorem told_pB3 {P : Prop} {w : World} {e : Ending} {w' : World} (h : Ext w w' ∧ ((P ∧ e = .returned (.bool true)) ∨ (¬ P ∧ e = .returned (.bool false)))) : e = .returned (.bool (pB P)) ∧ Ext w w' := by
  obtain ⟨hx, ⟨h1, rfl⟩ | ⟨h1, rfl⟩⟩ := h
  · exact ⟨by rw [pB_yes h1], hx⟩
  · exact ⟨by rw [pB_no h1], hx⟩
/-- Two rows, one behind the other, read as one. -/
theorem sl_both {w w' : World} {ds bs : List Decl} {n1 n2 : List Value} {v : Value} {base : Nat} {e : TypeId} (hx : Ext w w') (hown : w'.ownsRow base e 16 v (ds.length + bs.length) (n1 ++ n2)) (hl : n1.length = ds.length * 16)
    (h1 : ∀ i x, ds[i]? = some x → ∃ cs, RDecl w x cs ∧ cs.length = 16 ∧ ∀ j u, cs[j]? = some u → n1[i * 16 + j]? = some u)
    (h2 : ∀ i x, bs[i]? = some x → ∃ cs, RDecl w x cs ∧ cs.length = 16 ∧ ∀ j u, cs[j]? = some u → n2[i * 16 + j]? = some u) (hb : (ds.length + bs.length) * 256 ≤ LIM) : SlDecl w' (ds ++ bs) v := by
  refine sl_row (e := e) (base := base) (cells := n1 ++ n2) (by rw [List.length_append]; exact hown) (by rw [List.length_append]; exact hb) (fun i x hi => ?_)
  by_cases h : i < ds.length
  · rw [List.getElem?_append_left h] at hi
    obtain ⟨cs, k1, k2, k3⟩ := h1 i x hi
    exact ⟨cs, mono_decl _ _ _ _ hx k1, fun j u hu => by rw [List.getElem?_append_left (List.getElem?_eq_some_iff.1 (k3 j u hu)).1]; exact k3 j u hu⟩
  · rw [List.getElem?_append_right (by omega)] at hi
    obtain ⟨cs, k1, k2, k3⟩ := h2 _ x hi
    refine ⟨cs, mono_decl _ _ _ _ hx k1, fun j u hu => ?_⟩
    rw [List.getElem?_append_right (by rw [hl]; omega), hl, show i * 16 + j - ds.length * 16 = (i - ds.length) * 16 + j by rw [Nat.sub_mul]; omega]
    exact k3 j u hu
theorem grown_heap {w w' : World} {row : Option Nat} (hg : w.grownBy w' row) {b : Nat} {o : Obj} (h : w.heap[b]? = some o) (hne : row ≠ some b) : w'.heap[b]? = some o := (hg.block b (Array.getElem?_eq_some_iff.1 h).1 (fun e => hne e.symm)).trans h
/-- Two terms in a row just made. -/
theorem sl_pair {w0 W : World} {g : Nat} {t a : Term} {cs ds : List Value} {ty : Nat} (hx : Ext w0 W) (ht : RTerm w0 t cs) (ha : RTerm w0 a ds) (h : W.heap[g]? = some (.cells (cs ++ ds).toArray ty (0, 0))) : SlTerm W [t, a] (.slice (some ⟨g, 0, none⟩) 2 2) := by
  have o1 := (rterm_ones ht).1
  refine sl_two (by simp [LIM]) (mono_term _ _ _ _ hx ht) (mono_term _ _ _ _ hx ha) (cells_of_block h (fun j u hu => ?_)) (cells_of_block h (fun j u hu => ?_))
  · rw [Nat.zero_add, List.getElem?_toArray, List.getElem?_append_left (List.getElem?_eq_some_iff.1 hu).1]; exact hu
  · rw [List.getElem?_toArray, List.getElem?_append_right (by omega), show 5 + j - cs.length = j by omega]; exact hu
theorem SlDecl_ext {W W' : World} {xs : List Decl} {v : Value} (hx : Ext W W') (h : SlDecl W xs v) : SlDecl W' xs v := h.ext mono_decl hx
theorem ownsRow_ext {W W' : World} {base : Nat} {e : TypeId} {sz n : Nat} {v : Value} {cs : List Value} (h : W.ownsRow base e sz v n cs) (hx : Ext W W') : W'.ownsRow base e sz v n cs := h.kept hx.grown (by cases v.ownBlock <;> simp)
set_option maxRecDepth 100000 in
set_option maxHeartbeats 16000000 in
theorem sourceGrows_any (ds bs : List Decl) (n scope self : Int) (t a : Term) (more : Int) (vA vB : Value) (ct ca : List Value) (w : World) (hK : KindsIn w) (hn : inI n) (hsc : inI scope) (hse : inI self) (hmo : inI more) (hd : SlDecl w ds vA) (hbd : SlDecl w bs vB) (hR : RTerm w t ct) (hRa : RTerm w a ca) (hlen : ds.length + bs.length ≤ 4194304) :
    Calls Tryd.prog 4 #[vA, vB, .int .i64 n, .int .i64 scope, .int .i64 self, .agg ct.toArray, .agg ca.toArray, .int .i64 more] w fun e w' => e = .returned (.bool true) ∧ Ext w w' := by
  have HKd := hid hK
  have Hd := hid hd
  have Hb := hid hbd
  have HR := hid hR
  have HRa := hid hRa
  have Hlen := hid hlen
  obtain ⟨A, c, rfl, hcA, hr1⟩ := id hd
  obtain ⟨B, cB, rfl, hcB, hr2⟩ := id hbd
  have Hr1 := hid hr1
  have Hr2 := hid hr2
  obtain ⟨_, _, rfl, -, ⟨A1, c1, rfl, -⟩, ⟨A2, c2, rfl, -⟩⟩ := rterm_open hR
  obtain ⟨_, _, rfl, -, ⟨A3, c3, rfl, -⟩, ⟨A4, c4, rfl, -⟩⟩ := rterm_open hRa
  have hu5 := Tryd.underlying27
  have hi5 : (Tryd.prog.info? 27).map (·.size) = some 5 := by kernel_rfl
  have hxl : Ext w ((w.alloc (.cells #[.int .i64 t.kind, .int .i64 t.num, .int .i64 t.at_, .slice A1 t.levels.length c1, .slice A2 t.kids.length c2] 27)).alloc (.cells #[.int .i64 a.kind, .int .i64 a.num, .int .i64 a.at_, .slice A3 a.levels.length c3, .slice A4 a.kids.length c4] 27)) := ((Ext.rf _).al _).al _
  have HC0 := hid (show cellsAt ((w.alloc (.cells #[.int .i64 t.kind, .int .i64 t.num, .int .i64 t.at_, .slice A1 t.levels.length c1, .slice A2 t.kids.length c2] 27)).alloc (.cells #[.int .i64 a.kind, .int .i64 a.num, .int .i64 a.at_, .slice A3 a.levels.length c3, .slice A4 a.kids.length c4] 27)) w.heap.size 0 [.int .i64 t.kind, .int .i64 t.num, .int .i64 t.at_, .slice A1 t.levels.length c1, .slice A2 t.kids.length c2] from cells5o (by simp [go_sem]) (by simp [go_sem]) (by simp [go_sem]) (by simp [go_sem]) (by simp [go_sem]))
  have HC1 := hid (show cellsAt ((w.alloc (.cells #[.int .i64 t.kind, .int .i64 t.num, .int .i64 t.at_, .slice A1 t.levels.length c1, .slice A2 t.kids.length c2] 27)).alloc (.cells #[.int .i64 a.kind, .int .i64 a.num, .int .i64 a.at_, .slice A3 a.levels.length c3, .slice A4 a.kids.length c4] 27)) (w.heap.size + 1) 0 [.int .i64 a.kind, .int .i64 a.num, .int .i64 a.at_, .slice A3 a.levels.length c3, .slice A4 a.kids.length c4] from cells5o (by simp [go_sem]) (by simp [go_sem]) (by simp [go_sem]) (by simp [go_sem]) (by simp [go_sem]))
  have Hxl := hid hxl
  have HN := hid hn
  have HS := hid hsc
  have HSe := hid hse
  have HM := hid hmo
  clear hd hbd hR hRa hr1 hr2 hxl hK hn hsc hse hmo
  go_enter Tryd.func4, Tryd.ntmps4
  go_wp2_with fail
  refine (awake_any _ (HKd.out.ext Hxl.out)).mono ?_
  rintro e w1 ⟨rfl, hx1⟩
  have HX1 := hid (Hxl.out.tr hx1)
  have HT0 := hid (HC0.out.ext hx1)
  have HT1 := hid (HC1.out.ext hx1)
  have hz1 : w.heap.size + 2 ≤ w1.heap.size := by have := hx1.size; simpa using this
  clear hx1 HC0 HC1 Hxl
  go_upto_region 3 with fail
  obtain ⟨k1, hk1⟩ : ∃ k, k = decide (scope < 0) := ⟨_, rfl⟩
  obtain ⟨k2, hk2⟩ : ∃ k, k = decide (100 < scope) := ⟨_, rfl⟩
  obtain ⟨k3, hk3⟩ : ∃ k, k = decide (1000 < n) := ⟨_, rfl⟩
  obtain ⟨k4, hk4⟩ : ∃ k, k = decide (1000 < self) := ⟨_, rfl⟩
  obtain ⟨k5, hk5⟩ : ∃ k, k = decide (more < 0) := ⟨_, rfl⟩
  obtain ⟨k6, hk6⟩ : ∃ k, k = decide (100 < more) := ⟨_, rfl⟩
  obtain ⟨k7, hk7⟩ : ∃ k, k = !pB (RightP ds n scope self t) := ⟨_, rfl⟩
  have HK1 := hid hk1
  have HK2 := hid hk2
  have HK3 := hid hk3
  have HK4 := hid hk4
  have HK5 := hid hk5
  have HK6 := hid hk6
  have HK7 := hid hk7
  clear hk1 hk2 hk3 hk4 hk5 hk6 hk7
  have hmon : ∀ (b : Bool × Bool) (s : Nat) (W W' : World) (x : Value), Ext W W' → (fun (b : Bool × Bool) s W v => match s with | 21 => b.2 = false → ∃ g, v = .slice (some ⟨g, 0, none⟩) 0 0 ∧ w1.heap.size ≤ g ∧ W.heap[g]? = some (.cells #[] 34 (0, 0)) | 22 => v = .slice A ds.length c | 23 => b.2 = false → ∃ news, W.ownsRow w1.heap.size 34 16 v ds.length news ∧ (∀ i x, ds[i]? = some x → ∃ cs, RDecl w x cs ∧ cs.length = 16 ∧ ∀ j u, cs[j]? = some u → news[i * 16 + j]? = some u) | 24 => v = .slice B bs.length cB | 25 => SlDecl W (ds ++ bs) v | 26 => v = .agg #[.int .i64 t.kind, .int .i64 t.num, .int .i64 t.at_, .slice A1 t.levels.length c1, .slice A2 t.kids.length c2] | 27 => v = .agg #[.int .i64 a.kind, .int .i64 a.num, .int .i64 a.at_, .slice A3 a.levels.length c3, .slice A4 a.kids.length c4] | 28 => ∃ g, v = .slice (some ⟨g, 0, none⟩) 2 2 ∧ W.heap[g]? = some (.cells #[.int .i64 t.kind, .int .i64 t.num, .int .i64 t.at_, .slice A1 t.levels.length c1, .slice A2 t.kids.length c2, .int .i64 a.kind, .int .i64 a.num, .int .i64 a.at_, .slice A3 a.levels.length c3, .slice A4 a.kids.length c4] 27 (0, 0)) | 29 => v = .bool b.1 | 30 => v = .bool b.1 | 31 => b.1 = false → v = .int .i64 scope | 32 => b.1 = false → v = .bool k1 | 33 => v = .bool (b.1 || k1) | 34 => v = .bool (b.1 || k1) | 35 => (b.1 || k1) = false → v = .int .i64 scope | 36 => (b.1 || k1) = false → v = .bool k2 | 37 => v = .bool ((b.1 || k1) || k2) | 38 => v = .bool ((b.1 || k1) || k2) | 39 => ((b.1 || k1) || k2) = false → v = .int .i64 n | 40 => ((b.1 || k1) || k2) = false → v = .bool k3 | 41 => v = .bool (((b.1 || k1) || k2) || k3) | 42 => v = .bool (((b.1 || k1) || k2) || k3) | 43 => (((b.1 || k1) || k2) || k3) = false → v = .int .i64 self | 44 => (((b.1 || k1) || k2) || k3) = false → v = .bool k4 | 45 => v = .bool ((((b.1 || k1) || k2) || k3) || k4) | 46 => v = .bool ((((b.1 || k1) || k2) || k3) || k4) | 47 => ((((b.1 || k1) || k2) || k3) || k4) = false → v = .int .i64 more | 48 => ((((b.1 || k1) || k2) || k3) || k4) = false → v = .bool k5 | 49 => v = .bool (((((b.1 || k1) || k2) || k3) || k4) || k5) | 50 => v = .bool (((((b.1 || k1) || k2) || k3) || k4) || k5) | 51 => (((((b.1 || k1) || k2) || k3) || k4) || k5) = false → v = .int .i64 more | 52 => (((((b.1 || k1) || k2) || k3) || k4) || k5) = false → v = .bool k6 | 53 => v = .bool ((((((b.1 || k1) || k2) || k3) || k4) || k5) || k6) | 54 => v = .bool ((((((b.1 || k1) || k2) || k3) || k4) || k5) || k6) | 55 => ((((((b.1 || k1) || k2) || k3) || k4) || k5) || k6) = false → v = .slice A ds.length c | 56 => ((((((b.1 || k1) || k2) || k3) || k4) || k5) || k6) = false → v = .int .i64 n | 57 => ((((((b.1 || k1) || k2) || k3) || k4) || k5) || k6) = false → v = .int .i64 scope | 58 => ((((((b.1 || k1) || k2) || k3) || k4) || k5) || k6) = false → v = .int .i64 self | 59 => ((((((b.1 || k1) || k2) || k3) || k4) || k5) || k6) = false → v = .agg #[.int .i64 t.kind, .int .i64 t.num, .int .i64 t.at_, .slice A1 t.levels.length c1, .slice A2 t.kids.length c2] | 60 => ((((((b.1 || k1) || k2) || k3) || k4) || k5) || k6) = false → v = .bool (pB (RightP ds n scope self t)) | 61 => ((((((b.1 || k1) || k2) || k3) || k4) || k5) || k6) = false → v = .bool k7 | 62 => v = .bool (((((((b.1 || k1) || k2) || k3) || k4) || k5) || k6) || k7) | _ => True) b s W x → (fun (b : Bool × Bool) s W v => match s with | 21 => b.2 = false → ∃ g, v = .slice (some ⟨g, 0, none⟩) 0 0 ∧ w1.heap.size ≤ g ∧ W.heap[g]? = some (.cells #[] 34 (0, 0)) | 22 => v = .slice A ds.length c | 23 => b.2 = false → ∃ news, W.ownsRow w1.heap.size 34 16 v ds.length news ∧ (∀ i x, ds[i]? = some x → ∃ cs, RDecl w x cs ∧ cs.length = 16 ∧ ∀ j u, cs[j]? = some u → news[i * 16 + j]? = some u) | 24 => v = .slice B bs.length cB | 25 => SlDecl W (ds ++ bs) v | 26 => v = .agg #[.int .i64 t.kind, .int .i64 t.num, .int .i64 t.at_, .slice A1 t.levels.length c1, .slice A2 t.kids.length c2] | 27 => v = .agg #[.int .i64 a.kind, .int .i64 a.num, .int .i64 a.at_, .slice A3 a.levels.length c3, .slice A4 a.kids.length c4] | 28 => ∃ g, v = .slice (some ⟨g, 0, none⟩) 2 2 ∧ W.heap[g]? = some (.cells #[.int .i64 t.kind, .int .i64 t.num, .int .i64 t.at_, .slice A1 t.levels.length c1, .slice A2 t.kids.length c2, .int .i64 a.kind, .int .i64 a.num, .int .i64 a.at_, .slice A3 a.levels.length c3, .slice A4 a.kids.length c4] 27 (0, 0)) | 29 => v = .bool b.1 | 30 => v = .bool b.1 | 31 => b.1 = false → v = .int .i64 scope | 32 => b.1 = false → v = .bool k1 | 33 => v = .bool (b.1 || k1) | 34 => v = .bool (b.1 || k1) | 35 => (b.1 || k1) = false → v = .int .i64 scope | 36 => (b.1 || k1) = false → v = .bool k2 | 37 => v = .bool ((b.1 || k1) || k2) | 38 => v = .bool ((b.1 || k1) || k2) | 39 => ((b.1 || k1) || k2) = false → v = .int .i64 n | 40 => ((b.1 || k1) || k2) = false → v = .bool k3 | 41 => v = .bool (((b.1 || k1) || k2) || k3) | 42 => v = .bool (((b.1 || k1) || k2) || k3) | 43 => (((b.1 || k1) || k2) || k3) = false → v = .int .i64 self | 44 => (((b.1 || k1) || k2) || k3) = false → v = .bool k4 | 45 => v = .bool ((((b.1 || k1) || k2) || k3) || k4) | 46 => v = .bool ((((b.1 || k1) || k2) || k3) || k4) | 47 => ((((b.1 || k1) || k2) || k3) || k4) = false → v = .int .i64 more | 48 => ((((b.1 || k1) || k2) || k3) || k4) = false → v = .bool k5 | 49 => v = .bool (((((b.1 || k1) || k2) || k3) || k4) || k5) | 50 => v = .bool (((((b.1 || k1) || k2) || k3) || k4) || k5) | 51 => (((((b.1 || k1) || k2) || k3) || k4) || k5) = false → v = .int .i64 more | 52 => (((((b.1 || k1) || k2) || k3) || k4) || k5) = false → v = .bool k6 | 53 => v = .bool ((((((b.1 || k1) || k2) || k3) || k4) || k5) || k6) | 54 => v = .bool ((((((b.1 || k1) || k2) || k3) || k4) || k5) || k6) | 55 => ((((((b.1 || k1) || k2) || k3) || k4) || k5) || k6) = false → v = .slice A ds.length c | 56 => ((((((b.1 || k1) || k2) || k3) || k4) || k5) || k6) = false → v = .int .i64 n | 57 => ((((((b.1 || k1) || k2) || k3) || k4) || k5) || k6) = false → v = .int .i64 scope | 58 => ((((((b.1 || k1) || k2) || k3) || k4) || k5) || k6) = false → v = .int .i64 self | 59 => ((((((b.1 || k1) || k2) || k3) || k4) || k5) || k6) = false → v = .agg #[.int .i64 t.kind, .int .i64 t.num, .int .i64 t.at_, .slice A1 t.levels.length c1, .slice A2 t.kids.length c2] | 60 => ((((((b.1 || k1) || k2) || k3) || k4) || k5) || k6) = false → v = .bool (pB (RightP ds n scope self t)) | 61 => ((((((b.1 || k1) || k2) || k3) || k4) || k5) || k6) = false → v = .bool k7 | 62 => v = .bool (((((((b.1 || k1) || k2) || k3) || k4) || k5) || k6) || k7) | _ => True) b s W' x := by
    intro b s W W' x hx9 h
    exact (by revert h; split <;> first | exact id | exact (fun h => SlDecl_ext hx9 h) | exact (fun h e => by obtain ⟨g, h1, h2, h3⟩ := h e; exact ⟨g, h1, h2, (hx9.block g (Array.getElem?_eq_some_iff.1 h3).1).trans h3⟩) | exact (fun h e => by obtain ⟨news, h1, h2⟩ := h e; exact ⟨news, ownsRow_ext h1 hx9, h2⟩) | exact (fun ⟨g, h1, h2⟩ => ⟨g, h1, (hx9.block g (Array.getElem?_eq_some_iff.1 h2).1).trans h2⟩))
  have HMON := hid hmon
  clear hmon
  refine wp_region_ghost (fun (b : Bool × Bool) s W v => match s with | 21 => b.2 = false → ∃ g, v = .slice (some ⟨g, 0, none⟩) 0 0 ∧ w1.heap.size ≤ g ∧ W.heap[g]? = some (.cells #[] 34 (0, 0)) | 22 => v = .slice A ds.length c | 23 => b.2 = false → ∃ news, W.ownsRow w1.heap.size 34 16 v ds.length news ∧ (∀ i x, ds[i]? = some x → ∃ cs, RDecl w x cs ∧ cs.length = 16 ∧ ∀ j u, cs[j]? = some u → news[i * 16 + j]? = some u) | 24 => v = .slice B bs.length cB | 25 => SlDecl W (ds ++ bs) v | 26 => v = .agg #[.int .i64 t.kind, .int .i64 t.num, .int .i64 t.at_, .slice A1 t.levels.length c1, .slice A2 t.kids.length c2] | 27 => v = .agg #[.int .i64 a.kind, .int .i64 a.num, .int .i64 a.at_, .slice A3 a.levels.length c3, .slice A4 a.kids.length c4] | 28 => ∃ g, v = .slice (some ⟨g, 0, none⟩) 2 2 ∧ W.heap[g]? = some (.cells #[.int .i64 t.kind, .int .i64 t.num, .int .i64 t.at_, .slice A1 t.levels.length c1, .slice A2 t.kids.length c2, .int .i64 a.kind, .int .i64 a.num, .int .i64 a.at_, .slice A3 a.levels.length c3, .slice A4 a.kids.length c4] 27 (0, 0)) | 29 => v = .bool b.1 | 30 => v = .bool b.1 | 31 => b.1 = false → v = .int .i64 scope | 32 => b.1 = false → v = .bool k1 | 33 => v = .bool (b.1 || k1) | 34 => v = .bool (b.1 || k1) | 35 => (b.1 || k1) = false → v = .int .i64 scope | 36 => (b.1 || k1) = false → v = .bool k2 | 37 => v = .bool ((b.1 || k1) || k2) | 38 => v = .bool ((b.1 || k1) || k2) | 39 => ((b.1 || k1) || k2) = false → v = .int .i64 n | 40 => ((b.1 || k1) || k2) = false → v = .bool k3 | 41 => v = .bool (((b.1 || k1) || k2) || k3) | 42 => v = .bool (((b.1 || k1) || k2) || k3) | 43 => (((b.1 || k1) || k2) || k3) = false → v = .int .i64 self | 44 => (((b.1 || k1) || k2) || k3) = false → v = .bool k4 | 45 => v = .bool ((((b.1 || k1) || k2) || k3) || k4) | 46 => v = .bool ((((b.1 || k1) || k2) || k3) || k4) | 47 => ((((b.1 || k1) || k2) || k3) || k4) = false → v = .int .i64 more | 48 => ((((b.1 || k1) || k2) || k3) || k4) = false → v = .bool k5 | 49 => v = .bool (((((b.1 || k1) || k2) || k3) || k4) || k5) | 50 => v = .bool (((((b.1 || k1) || k2) || k3) || k4) || k5) | 51 => (((((b.1 || k1) || k2) || k3) || k4) || k5) = false → v = .int .i64 more | 52 => (((((b.1 || k1) || k2) || k3) || k4) || k5) = false → v = .bool k6 | 53 => v = .bool ((((((b.1 || k1) || k2) || k3) || k4) || k5) || k6) | 54 => v = .bool ((((((b.1 || k1) || k2) || k3) || k4) || k5) || k6) | 55 => ((((((b.1 || k1) || k2) || k3) || k4) || k5) || k6) = false → v = .slice A ds.length c | 56 => ((((((b.1 || k1) || k2) || k3) || k4) || k5) || k6) = false → v = .int .i64 n | 57 => ((((((b.1 || k1) || k2) || k3) || k4) || k5) || k6) = false → v = .int .i64 scope | 58 => ((((((b.1 || k1) || k2) || k3) || k4) || k5) || k6) = false → v = .int .i64 self | 59 => ((((((b.1 || k1) || k2) || k3) || k4) || k5) || k6) = false → v = .agg #[.int .i64 t.kind, .int .i64 t.num, .int .i64 t.at_, .slice A1 t.levels.length c1, .slice A2 t.kids.length c2] | 60 => ((((((b.1 || k1) || k2) || k3) || k4) || k5) || k6) = false → v = .bool (pB (RightP ds n scope self t)) | 61 => ((((((b.1 || k1) || k2) || k3) || k4) || k5) || k6) = false → v = .bool k7 | 62 => v = .bool (((((((b.1 || k1) || k2) || k3) || k4) || k5) || k6) || k7) | _ => True) false 8 29 [9, 10, 11, 12, 13, 14, 15, 16, 17, 18, 19, 20, 21, 22, 23, 24, 25, 26, 27, 28, 29, 30, 31, 32, 33, 34, 35, 36, 37, 38, 39, 40, 41] 4 [2, 0] [true, true, true, true, true, true, true, true, false, true, true, true, true, true, true, true, true, true, true, true, true, true, true, true, true, true, true, true, true, true, true, true, true, true, true, true, true, true, true, true, true, true] _ (by kernel_rfl) (by kernel_rfl) (by rfl) rfl rfl (by kernel_rfl) (by kernel_rfl) (by kernel_rfl) (of_decide_eq_true (by kernel_rfl)) (by kernel_rfl) ?_ ?_ ?_ ?_
  · intro i o d ho hd hni hip x x' ph W v h
    have hi42 : i < 42 := (Array.getElem?_eq_some_iff.1 ho).1
    have hi8 : i = 0 ∨ i = 1 ∨ i = 2 ∨ i = 3 ∨ i = 4 ∨ i = 5 ∨ i = 6 ∨ i = 7 := by
      simp only [List.contains_eq_mem, List.mem_cons, List.not_mem_nil, or_false, decide_eq_false_iff_not] at hni
      omega
    rcases hi8 with rfl | rfl | rfl | rfl | rfl | rfl | rfl | rfl <;> (have e := Option.some.inj ho; subst e; have e2 := Option.some.inj hd; subst e2; exact h)
  · refine ⟨?_, ?_, ?_, ?_, ?_, ?_, ?_, ?_, ?_, ?_, ?_, ?_, ?_, ?_, ?_, ?_, ?_, ?_, ?_, ?_, ?_, ?_, ?_, ?_, ?_, ?_, ?_, ?_, ?_, ?_, ?_, ?_, ?_, ?_, ?_, ?_, ?_, ?_, ?_, ?_, ?_, trivial⟩
    · intro b a9 W hpre hx hdf hsz hg hi K hK
      refine step_free rfl ?_
      simp [Oper.wp, Oper.upon, execOp, Act.eval, go_sem]
      exact hK b.2 _ _ (.inl rfl) (hx.tr ((Ext.rf _).al _)) (fun s x _ h => HMON.out b s _ _ x ((Ext.rf _).al _) h) (fun d' h => by cases h; exact (fun _ => ⟨_, rfl, hx.size, heap_alloc_new W _⟩))
    · intro b a9 W hpre hx hdf hsz hg hi K hK
      refine step_free rfl ?_
      have t0 : a9.tmps.getD 0 undef = .slice A ds.length c := hi 0 (by kernel_rfl)
      have u0 := t0
      rw [Array.getD_eq_getD_getElem?] at u0
      simp [Oper.wp, Oper.upon, execOp, Act.eval, go_sem, t0, u0]
      exact hK b.2 _ _ (.inl rfl) (hx.tr (Ext.rf _)) (fun s x _ h => HMON.out b s _ _ x (Ext.rf _) h) (fun d' h => by cases h; exact rfl)
    · intro b a9 W hpre hx hdf hsz hg hi K hK
      refine step_free rfl ?_
      have t22 : a9.tmps.getD 22 undef = .slice A ds.length c := hg 22 (by kernel_rfl)
      have u22 := t22
      rw [Array.getD_eq_getD_getElem?] at u22
      have hph : b.2 = false := hpre (.inl (by kernel_rfl))
      obtain ⟨g, t21, hg1, hg2⟩ := (show b.2 = false → ∃ g, a9.tmps.getD 21 undef = .slice (some ⟨g, 0, none⟩) 0 0 ∧ w1.heap.size ≤ g ∧ W.heap[g]? = some (.cells #[] 34 (0, 0)) from hg 21 (by kernel_rfl)) hph
      obtain ⟨i0, hi0, hz0, hz1, hz2⟩ := info_parts info_decl
      refine wp_append_first (R := fun _ => RDecl w) (bytes := 256) (fun y cs h => rdecl_ones h) (.tmp 21) (.tmp 22) 39 rfl 34 i0 _ Tryd.underlying39 hi0 hz0 hz1 hz2 rfl (by decide) (by decide) g w1.heap.size t21 hg2 hg1 ds A c t22 (Hr1.out.fix (HX1.out.tr hx)) (by have := Hlen.out; omega) (fun v' w' news hown hrd hxx => ?_)
      exact hK b.2 _ _ (.inl rfl) (hx.tr hxx) (fun s x _ h => HMON.out b s _ _ x hxx h) (fun d' h => by cases h; exact (fun _ => ⟨news, hown, hrd⟩))
    · intro b a9 W hpre hx hdf hsz hg hi K hK
      refine step_free rfl ?_
      have t1 : a9.tmps.getD 1 undef = .slice B bs.length cB := hi 1 (by kernel_rfl)
      have u1 := t1
      rw [Array.getD_eq_getD_getElem?] at u1
      simp [Oper.wp, Oper.upon, execOp, Act.eval, go_sem, t1, u1]
      exact hK b.2 _ _ (.inl rfl) (hx.tr (Ext.rf _)) (fun s x _ h => HMON.out b s _ _ x (Ext.rf _) h) (fun d' h => by cases h; exact rfl)
    · intro b a9 W hpre hx hdf hsz hg hi K hK
      refine step_free rfl ?_
      have t24 : a9.tmps.getD 24 undef = .slice B bs.length cB := hg 24 (by kernel_rfl)
      have u24 := t24
      rw [Array.getD_eq_getD_getElem?] at u24
      have hph : b.2 = false := hpre (.inr rfl)
      obtain ⟨news, hown, hrd⟩ := (show b.2 = false → ∃ news, W.ownsRow w1.heap.size 34 16 (a9.tmps.getD 23 undef) ds.length news ∧ (∀ i x, ds[i]? = some x → ∃ cs, RDecl w x cs ∧ cs.length = 16 ∧ ∀ j u, cs[j]? = some u → news[i * 16 + j]? = some u) from hg 23 (by kernel_rfl)) hph
      obtain ⟨i0, hi0, hz0, hz1, hz2⟩ := info_parts info_decl
      refine wp_append_all (R := fun _ => RDecl w) (bytes := 256) (fun y cs h => rdecl_ones h) (.tmp 23) (.tmp 24) 39 rfl w1.heap.size 34 i0 _ Tryd.underlying39 hi0 hz0 hz1 hz2 rfl (by decide) (by decide) (a9.tmps.getD 23 undef) ds.length news rfl hown bs B cB t24 (Hr2.out.fix (HX1.out.tr hx)) (by have := Hlen.out; omega) (by omega) hx.size (fun v' w' news2 hown2 hrd2 hgr => ?_)
      have hx9 : Ext w1 w' := grown_ext hx hgr (fun k hk => (hown.lt k hk).1)
      have hxw : Ext w w' := HX1.out.tr hx9
      refine hK true _ _ (.inr rfl) hx9 ?_ (fun d' h => by cases h; exact sl_both (w := w) hxw hown2 hown.1 hrd hrd2 (by have := Hlen.out; unfold LIM; omega))
      intro s x hne h
      revert h
      split
      all_goals first | exact id | exact (fun _ h => by cases h) | exact absurd rfl hne | skip
      rintro ⟨g, h1, h2⟩
      refine ⟨g, h1, grown_heap hgr h2 (fun e => ?_)⟩
      rcases hown.2 with ⟨h3, _⟩ | ⟨g', cap, cur, h3, _, h4, _⟩
      · rw [h3] at e; cases e
      · rw [h3] at e; cases e; rw [h2] at h4; cases h4
    · intro b a9 W hpre hx hdf hsz hg hi K hK
      refine step_free rfl ?_
      have t13 : a9.tmps.getD 13 undef = .pointer (some ⟨w.heap.size, 0, none⟩) := hi 13 (by kernel_rfl)
      have u13 := t13
      rw [Array.getD_eq_getD_getElem?] at u13
      refine wp_load_mid 27 (.tmp 13) rfl w.heap.size 0 t13 [.int .i64 t.kind, .int .i64 t.num, .int .i64 t.at_, .slice A1 t.levels.length c1, .slice A2 t.kids.length c2] _ (HT0.out.ext hx) hu5 rfl hi5 ?_
      exact hK b.2 _ _ (.inl rfl) (hx.tr (Ext.rf _)) (fun s x _ h => HMON.out b s _ _ x (Ext.rf _) h) (fun d' h => by cases h; exact rfl)
    · intro b a9 W hpre hx hdf hsz hg hi K hK
      refine step_free rfl ?_
      have t14 : a9.tmps.getD 14 undef = .pointer (some ⟨w.heap.size + 1, 0, none⟩) := hi 14 (by kernel_rfl)
      have u14 := t14
      rw [Array.getD_eq_getD_getElem?] at u14
      refine wp_load_mid 27 (.tmp 14) rfl (w.heap.size + 1) 0 t14 [.int .i64 a.kind, .int .i64 a.num, .int .i64 a.at_, .slice A3 a.levels.length c3, .slice A4 a.kids.length c4] _ (HT1.out.ext hx) hu5 rfl hi5 ?_
      exact hK b.2 _ _ (.inl rfl) (hx.tr (Ext.rf _)) (fun s x _ h => HMON.out b s _ _ x (Ext.rf _) h) (fun d' h => by cases h; exact rfl)
    · intro b a9 W hpre hx hdf hsz hg hi K hK
      refine step_free rfl ?_
      have t26 : a9.tmps.getD 26 undef = .agg #[.int .i64 t.kind, .int .i64 t.num, .int .i64 t.at_, .slice A1 t.levels.length c1, .slice A2 t.kids.length c2] := hg 26 (by kernel_rfl)
      have u26 := t26
      rw [Array.getD_eq_getD_getElem?] at u26
      have t27 : a9.tmps.getD 27 undef = .agg #[.int .i64 a.kind, .int .i64 a.num, .int .i64 a.at_, .slice A3 a.levels.length c3, .slice A4 a.kids.length c4] := hg 27 (by kernel_rfl)
      have u27 := t27
      rw [Array.getD_eq_getD_getElem?] at u27
      simp [Oper.wp, Oper.upon, execOp, Act.eval, go_sem, t26, u26, t27, u27]
      exact hK b.2 _ _ (.inl rfl) (hx.tr ((Ext.rf _).al _)) (fun s x _ h => HMON.out b s _ _ x ((Ext.rf _).al _) h) (fun d' h => by cases h; exact ⟨_, rfl, heap_alloc_new W _⟩)
    · intro b a9 W hpre hx hdf hsz hg hi K hK
      refine step_free rfl ?_
      have t29 : a9.tmps.getD 29 undef = .bool b.1 := hg 29 (by kernel_rfl)
      have u29 := t29
      rw [Array.getD_eq_getD_getElem?] at u29
      simp [Oper.wp, Oper.upon, execOp, Act.eval, go_sem, t29, u29]
      exact hK b.2 _ _ (.inl rfl) (hx.tr (Ext.rf _)) (fun s x _ h => HMON.out b s _ _ x (Ext.rf _) h) (fun d' h => by cases h; exact rfl)
    · intro b a9 W hpre hx hdf hsz hg hi K hK
      have G30 : a9.tmps.getD 30 undef = .bool b.1 := hg 30 (by kernel_rfl)
      cases hE : (b.1 : Bool)
      rotate_left
      · rw [hE] at G30
        exact step_guard rfl rfl (by have hz : a9.tmps.size = 135 := hsz; omega) G30 (fun h => by cases h) (fun _ => hK b.2 _ _ (.inl rfl) (hx.tr (Ext.rf _)) (fun s x _ h => HMON.out b s _ _ x (Ext.rf _) h) (fun d' h => by cases h; exact (fun h => by rw [hE] at h; cases h)))
      rw [hE] at G30
      refine step_guard rfl rfl (by have hz : a9.tmps.size = 135 := hsz; omega) G30 (fun _ => ?_) (fun h => absurd rfl h)
      have t3 : a9.tmps.getD 3 undef = .int .i64 scope := hi 3 (by kernel_rfl)
      have u3 := t3
      rw [Array.getD_eq_getD_getElem?] at u3
      simp [Oper.wp, Oper.upon, execOp, Act.eval, go_sem, t3, u3]
      exact hK b.2 _ _ (.inl rfl) (hx.tr (Ext.rf _)) (fun s x _ h => HMON.out b s _ _ x (Ext.rf _) h) (fun d' h => by cases h; exact (fun _ => rfl))
    · intro b a9 W hpre hx hdf hsz hg hi K hK
      have G30 : a9.tmps.getD 30 undef = .bool b.1 := hg 30 (by kernel_rfl)
      cases hE : (b.1 : Bool)
      rotate_left
      · rw [hE] at G30
        exact step_guard rfl rfl (by have hz : a9.tmps.size = 135 := hsz; omega) G30 (fun h => by cases h) (fun _ => hK b.2 _ _ (.inl rfl) (hx.tr (Ext.rf _)) (fun s x _ h => HMON.out b s _ _ x (Ext.rf _) h) (fun d' h => by cases h; exact (fun h => by rw [hE] at h; cases h)))
      rw [hE] at G30
      refine step_guard rfl rfl (by have hz : a9.tmps.size = 135 := hsz; omega) G30 (fun _ => ?_) (fun h => absurd rfl h)
      have t31 : a9.tmps.getD 31 undef = .int .i64 scope := (show b.1 = false → a9.tmps.getD 31 undef = .int .i64 scope from hg 31 (by kernel_rfl)) hE
      have u31 := t31
      rw [Array.getD_eq_getD_getElem?] at u31
      simp [Oper.wp, Oper.upon, execOp, Act.eval, go_sem, t31, u31]
      rw [← HK1.out]
      exact hK b.2 _ _ (.inl rfl) (hx.tr (Ext.rf _)) (fun s x _ h => HMON.out b s _ _ x (Ext.rf _) h) (fun d' h => by cases h; exact (fun _ => rfl))
    · intro b a9 W hpre hx hdf hsz hg hi K hK
      refine step_free rfl ?_
      have t30 : a9.tmps.getD 30 undef = .bool b.1 := hg 30 (by kernel_rfl)
      have u30 := t30
      rw [Array.getD_eq_getD_getElem?] at u30
      cases hE : (b.1 : Bool)
      rotate_left
      · rw [hE] at t30 u30
        simp [Oper.wp, Oper.upon, execOp, Act.eval, go_sem, t30, u30]
        exact hK b.2 _ _ (.inl rfl) (hx.tr (Ext.rf _)) (fun s x _ h => HMON.out b s _ _ x (Ext.rf _) h) (fun d' h => by cases h; exact (by rw [hE]; rfl))
      rw [hE] at t30 u30
      have t32 : a9.tmps.getD 32 undef = .bool k1 := (show b.1 = false → a9.tmps.getD 32 undef = .bool k1 from hg 32 (by kernel_rfl)) hE
      have u32 := t32
      rw [Array.getD_eq_getD_getElem?] at u32
      simp [Oper.wp, Oper.upon, execOp, Act.eval, go_sem, t30, u30, t32, u32]
      exact hK b.2 _ _ (.inl rfl) (hx.tr (Ext.rf _)) (fun s x _ h => HMON.out b s _ _ x (Ext.rf _) h) (fun d' h => by cases h; exact (by rw [hE]; simp))
    · intro b a9 W hpre hx hdf hsz hg hi K hK
      refine step_free rfl ?_
      have t33 : a9.tmps.getD 33 undef = .bool (b.1 || k1) := hg 33 (by kernel_rfl)
      have u33 := t33
      rw [Array.getD_eq_getD_getElem?] at u33
      simp [Oper.wp, Oper.upon, execOp, Act.eval, go_sem, t33, u33]
      exact hK b.2 _ _ (.inl rfl) (hx.tr (Ext.rf _)) (fun s x _ h => HMON.out b s _ _ x (Ext.rf _) h) (fun d' h => by cases h; exact rfl)
    · intro b a9 W hpre hx hdf hsz hg hi K hK
      have G34 : a9.tmps.getD 34 undef = .bool (b.1 || k1) := hg 34 (by kernel_rfl)
      cases hE : ((b.1 || k1) : Bool)
      rotate_left
      · rw [hE] at G34
        exact step_guard rfl rfl (by have hz : a9.tmps.size = 135 := hsz; omega) G34 (fun h => by cases h) (fun _ => hK b.2 _ _ (.inl rfl) (hx.tr (Ext.rf _)) (fun s x _ h => HMON.out b s _ _ x (Ext.rf _) h) (fun d' h => by cases h; exact (fun h => by rw [hE] at h; cases h)))
      rw [hE] at G34
      refine step_guard rfl rfl (by have hz : a9.tmps.size = 135 := hsz; omega) G34 (fun _ => ?_) (fun h => absurd rfl h)
      have t3 : a9.tmps.getD 3 undef = .int .i64 scope := hi 3 (by kernel_rfl)
      have u3 := t3
      rw [Array.getD_eq_getD_getElem?] at u3
      simp [Oper.wp, Oper.upon, execOp, Act.eval, go_sem, t3, u3]
      exact hK b.2 _ _ (.inl rfl) (hx.tr (Ext.rf _)) (fun s x _ h => HMON.out b s _ _ x (Ext.rf _) h) (fun d' h => by cases h; exact (fun _ => rfl))
    · intro b a9 W hpre hx hdf hsz hg hi K hK
      have G34 : a9.tmps.getD 34 undef = .bool (b.1 || k1) := hg 34 (by kernel_rfl)
      cases hE : ((b.1 || k1) : Bool)
      rotate_left
      · rw [hE] at G34
        exact step_guard rfl rfl (by have hz : a9.tmps.size = 135 := hsz; omega) G34 (fun h => by cases h) (fun _ => hK b.2 _ _ (.inl rfl) (hx.tr (Ext.rf _)) (fun s x _ h => HMON.out b s _ _ x (Ext.rf _) h) (fun d' h => by cases h; exact (fun h => by rw [hE] at h; cases h)))
      rw [hE] at G34
      refine step_guard rfl rfl (by have hz : a9.tmps.size = 135 := hsz; omega) G34 (fun _ => ?_) (fun h => absurd rfl h)
      have t35 : a9.tmps.getD 35 undef = .int .i64 scope := (show (b.1 || k1) = false → a9.tmps.getD 35 undef = .int .i64 scope from hg 35 (by kernel_rfl)) hE
      have u35 := t35
      rw [Array.getD_eq_getD_getElem?] at u35
      simp [Oper.wp, Oper.upon, execOp, Act.eval, go_sem, t35, u35]
      rw [← HK2.out]
      exact hK b.2 _ _ (.inl rfl) (hx.tr (Ext.rf _)) (fun s x _ h => HMON.out b s _ _ x (Ext.rf _) h) (fun d' h => by cases h; exact (fun _ => rfl))
    · intro b a9 W hpre hx hdf hsz hg hi K hK
      refine step_free rfl ?_
      have t34 : a9.tmps.getD 34 undef = .bool (b.1 || k1) := hg 34 (by kernel_rfl)
      have u34 := t34
      rw [Array.getD_eq_getD_getElem?] at u34
      cases hE : ((b.1 || k1) : Bool)
      rotate_left
      · rw [hE] at t34 u34
        simp [Oper.wp, Oper.upon, execOp, Act.eval, go_sem, t34, u34]
        exact hK b.2 _ _ (.inl rfl) (hx.tr (Ext.rf _)) (fun s x _ h => HMON.out b s _ _ x (Ext.rf _) h) (fun d' h => by cases h; exact (by rw [hE]; rfl))
      rw [hE] at t34 u34
      have t36 : a9.tmps.getD 36 undef = .bool k2 := (show (b.1 || k1) = false → a9.tmps.getD 36 undef = .bool k2 from hg 36 (by kernel_rfl)) hE
      have u36 := t36
      rw [Array.getD_eq_getD_getElem?] at u36
      simp [Oper.wp, Oper.upon, execOp, Act.eval, go_sem, t34, u34, t36, u36]
      exact hK b.2 _ _ (.inl rfl) (hx.tr (Ext.rf _)) (fun s x _ h => HMON.out b s _ _ x (Ext.rf _) h) (fun d' h => by cases h; exact (by rw [hE]; simp))
    · intro b a9 W hpre hx hdf hsz hg hi K hK
      refine step_free rfl ?_
      have t37 : a9.tmps.getD 37 undef = .bool ((b.1 || k1) || k2) := hg 37 (by kernel_rfl)
      have u37 := t37
      rw [Array.getD_eq_getD_getElem?] at u37
      simp [Oper.wp, Oper.upon, execOp, Act.eval, go_sem, t37, u37]
      exact hK b.2 _ _ (.inl rfl) (hx.tr (Ext.rf _)) (fun s x _ h => HMON.out b s _ _ x (Ext.rf _) h) (fun d' h => by cases h; exact rfl)
    · intro b a9 W hpre hx hdf hsz hg hi K hK
      have G38 : a9.tmps.getD 38 undef = .bool ((b.1 || k1) || k2) := hg 38 (by kernel_rfl)
      cases hE : (((b.1 || k1) || k2) : Bool)
      rotate_left
      · rw [hE] at G38
        exact step_guard rfl rfl (by have hz : a9.tmps.size = 135 := hsz; omega) G38 (fun h => by cases h) (fun _ => hK b.2 _ _ (.inl rfl) (hx.tr (Ext.rf _)) (fun s x _ h => HMON.out b s _ _ x (Ext.rf _) h) (fun d' h => by cases h; exact (fun h => by rw [hE] at h; cases h)))
      rw [hE] at G38
      refine step_guard rfl rfl (by have hz : a9.tmps.size = 135 := hsz; omega) G38 (fun _ => ?_) (fun h => absurd rfl h)
      have t2 : a9.tmps.getD 2 undef = .int .i64 n := hi 2 (by kernel_rfl)
      have u2 := t2
      rw [Array.getD_eq_getD_getElem?] at u2
      simp [Oper.wp, Oper.upon, execOp, Act.eval, go_sem, t2, u2]
      exact hK b.2 _ _ (.inl rfl) (hx.tr (Ext.rf _)) (fun s x _ h => HMON.out b s _ _ x (Ext.rf _) h) (fun d' h => by cases h; exact (fun _ => rfl))
    · intro b a9 W hpre hx hdf hsz hg hi K hK
      have G38 : a9.tmps.getD 38 undef = .bool ((b.1 || k1) || k2) := hg 38 (by kernel_rfl)
      cases hE : (((b.1 || k1) || k2) : Bool)
      rotate_left
      · rw [hE] at G38
        exact step_guard rfl rfl (by have hz : a9.tmps.size = 135 := hsz; omega) G38 (fun h => by cases h) (fun _ => hK b.2 _ _ (.inl rfl) (hx.tr (Ext.rf _)) (fun s x _ h => HMON.out b s _ _ x (Ext.rf _) h) (fun d' h => by cases h; exact (fun h => by rw [hE] at h; cases h)))
      rw [hE] at G38
      refine step_guard rfl rfl (by have hz : a9.tmps.size = 135 := hsz; omega) G38 (fun _ => ?_) (fun h => absurd rfl h)
      have t39 : a9.tmps.getD 39 undef = .int .i64 n := (show ((b.1 || k1) || k2) = false → a9.tmps.getD 39 undef = .int .i64 n from hg 39 (by kernel_rfl)) hE
      have u39 := t39
      rw [Array.getD_eq_getD_getElem?] at u39
      simp [Oper.wp, Oper.upon, execOp, Act.eval, go_sem, t39, u39]
      rw [← HK3.out]
      exact hK b.2 _ _ (.inl rfl) (hx.tr (Ext.rf _)) (fun s x _ h => HMON.out b s _ _ x (Ext.rf _) h) (fun d' h => by cases h; exact (fun _ => rfl))
    · intro b a9 W hpre hx hdf hsz hg hi K hK
      refine step_free rfl ?_
      have t38 : a9.tmps.getD 38 undef = .bool ((b.1 || k1) || k2) := hg 38 (by kernel_rfl)
      have u38 := t38
      rw [Array.getD_eq_getD_getElem?] at u38
      cases hE : (((b.1 || k1) || k2) : Bool)
      rotate_left
      · rw [hE] at t38 u38
        simp [Oper.wp, Oper.upon, execOp, Act.eval, go_sem, t38, u38]
        exact hK b.2 _ _ (.inl rfl) (hx.tr (Ext.rf _)) (fun s x _ h => HMON.out b s _ _ x (Ext.rf _) h) (fun d' h => by cases h; exact (by rw [hE]; rfl))
      rw [hE] at t38 u38
      have t40 : a9.tmps.getD 40 undef = .bool k3 := (show ((b.1 || k1) || k2) = false → a9.tmps.getD 40 undef = .bool k3 from hg 40 (by kernel_rfl)) hE
      have u40 := t40
      rw [Array.getD_eq_getD_getElem?] at u40
      simp [Oper.wp, Oper.upon, execOp, Act.eval, go_sem, t38, u38, t40, u40]
      exact hK b.2 _ _ (.inl rfl) (hx.tr (Ext.rf _)) (fun s x _ h => HMON.out b s _ _ x (Ext.rf _) h) (fun d' h => by cases h; exact (by rw [hE]; simp))
    · intro b a9 W hpre hx hdf hsz hg hi K hK
      refine step_free rfl ?_
      have t41 : a9.tmps.getD 41 undef = .bool (((b.1 || k1) || k2) || k3) := hg 41 (by kernel_rfl)
      have u41 := t41
      rw [Array.getD_eq_getD_getElem?] at u41
      simp [Oper.wp, Oper.upon, execOp, Act.eval, go_sem, t41, u41]
      exact hK b.2 _ _ (.inl rfl) (hx.tr (Ext.rf _)) (fun s x _ h => HMON.out b s _ _ x (Ext.rf _) h) (fun d' h => by cases h; exact rfl)
    · intro b a9 W hpre hx hdf hsz hg hi K hK
      have G42 : a9.tmps.getD 42 undef = .bool (((b.1 || k1) || k2) || k3) := hg 42 (by kernel_rfl)
      cases hE : ((((b.1 || k1) || k2) || k3) : Bool)
      rotate_left
      · rw [hE] at G42
        exact step_guard rfl rfl (by have hz : a9.tmps.size = 135 := hsz; omega) G42 (fun h => by cases h) (fun _ => hK b.2 _ _ (.inl rfl) (hx.tr (Ext.rf _)) (fun s x _ h => HMON.out b s _ _ x (Ext.rf _) h) (fun d' h => by cases h; exact (fun h => by rw [hE] at h; cases h)))
      rw [hE] at G42
      refine step_guard rfl rfl (by have hz : a9.tmps.size = 135 := hsz; omega) G42 (fun _ => ?_) (fun h => absurd rfl h)
      have t4 : a9.tmps.getD 4 undef = .int .i64 self := hi 4 (by kernel_rfl)
      have u4 := t4
      rw [Array.getD_eq_getD_getElem?] at u4
      simp [Oper.wp, Oper.upon, execOp, Act.eval, go_sem, t4, u4]
      exact hK b.2 _ _ (.inl rfl) (hx.tr (Ext.rf _)) (fun s x _ h => HMON.out b s _ _ x (Ext.rf _) h) (fun d' h => by cases h; exact (fun _ => rfl))
    · intro b a9 W hpre hx hdf hsz hg hi K hK
      have G42 : a9.tmps.getD 42 undef = .bool (((b.1 || k1) || k2) || k3) := hg 42 (by kernel_rfl)
      cases hE : ((((b.1 || k1) || k2) || k3) : Bool)
      rotate_left
      · rw [hE] at G42
        exact step_guard rfl rfl (by have hz : a9.tmps.size = 135 := hsz; omega) G42 (fun h => by cases h) (fun _ => hK b.2 _ _ (.inl rfl) (hx.tr (Ext.rf _)) (fun s x _ h => HMON.out b s _ _ x (Ext.rf _) h) (fun d' h => by cases h; exact (fun h => by rw [hE] at h; cases h)))
      rw [hE] at G42
      refine step_guard rfl rfl (by have hz : a9.tmps.size = 135 := hsz; omega) G42 (fun _ => ?_) (fun h => absurd rfl h)
      have t43 : a9.tmps.getD 43 undef = .int .i64 self := (show (((b.1 || k1) || k2) || k3) = false → a9.tmps.getD 43 undef = .int .i64 self from hg 43 (by kernel_rfl)) hE
      have u43 := t43
      rw [Array.getD_eq_getD_getElem?] at u43
      simp [Oper.wp, Oper.upon, execOp, Act.eval, go_sem, t43, u43]
      rw [← HK4.out]
      exact hK b.2 _ _ (.inl rfl) (hx.tr (Ext.rf _)) (fun s x _ h => HMON.out b s _ _ x (Ext.rf _) h) (fun d' h => by cases h; exact (fun _ => rfl))
    · intro b a9 W hpre hx hdf hsz hg hi K hK
      refine step_free rfl ?_
      have t42 : a9.tmps.getD 42 undef = .bool (((b.1 || k1) || k2) || k3) := hg 42 (by kernel_rfl)
      have u42 := t42
      rw [Array.getD_eq_getD_getElem?] at u42
      cases hE : ((((b.1 || k1) || k2) || k3) : Bool)
      rotate_left
      · rw [hE] at t42 u42
        simp [Oper.wp, Oper.upon, execOp, Act.eval, go_sem, t42, u42]
        exact hK b.2 _ _ (.inl rfl) (hx.tr (Ext.rf _)) (fun s x _ h => HMON.out b s _ _ x (Ext.rf _) h) (fun d' h => by cases h; exact (by rw [hE]; rfl))
      rw [hE] at t42 u42
      have t44 : a9.tmps.getD 44 undef = .bool k4 := (show (((b.1 || k1) || k2) || k3) = false → a9.tmps.getD 44 undef = .bool k4 from hg 44 (by kernel_rfl)) hE
      have u44 := t44
      rw [Array.getD_eq_getD_getElem?] at u44
      simp [Oper.wp, Oper.upon, execOp, Act.eval, go_sem, t42, u42, t44, u44]
      exact hK b.2 _ _ (.inl rfl) (hx.tr (Ext.rf _)) (fun s x _ h => HMON.out b s _ _ x (Ext.rf _) h) (fun d' h => by cases h; exact (by rw [hE]; simp))
    · intro b a9 W hpre hx hdf hsz hg hi K hK
      refine step_free rfl ?_
      have t45 : a9.tmps.getD 45 undef = .bool ((((b.1 || k1) || k2) || k3) || k4) := hg 45 (by kernel_rfl)
      have u45 := t45
      rw [Array.getD_eq_getD_getElem?] at u45
      simp [Oper.wp, Oper.upon, execOp, Act.eval, go_sem, t45, u45]
      exact hK b.2 _ _ (.inl rfl) (hx.tr (Ext.rf _)) (fun s x _ h => HMON.out b s _ _ x (Ext.rf _) h) (fun d' h => by cases h; exact rfl)
    · intro b a9 W hpre hx hdf hsz hg hi K hK
      have G46 : a9.tmps.getD 46 undef = .bool ((((b.1 || k1) || k2) || k3) || k4) := hg 46 (by kernel_rfl)
      cases hE : (((((b.1 || k1) || k2) || k3) || k4) : Bool)
      rotate_left
      · rw [hE] at G46
        exact step_guard rfl rfl (by have hz : a9.tmps.size = 135 := hsz; omega) G46 (fun h => by cases h) (fun _ => hK b.2 _ _ (.inl rfl) (hx.tr (Ext.rf _)) (fun s x _ h => HMON.out b s _ _ x (Ext.rf _) h) (fun d' h => by cases h; exact (fun h => by rw [hE] at h; cases h)))
      rw [hE] at G46
      refine step_guard rfl rfl (by have hz : a9.tmps.size = 135 := hsz; omega) G46 (fun _ => ?_) (fun h => absurd rfl h)
      have t7 : a9.tmps.getD 7 undef = .int .i64 more := hi 7 (by kernel_rfl)
      have u7 := t7
      rw [Array.getD_eq_getD_getElem?] at u7
      simp [Oper.wp, Oper.upon, execOp, Act.eval, go_sem, t7, u7]
      exact hK b.2 _ _ (.inl rfl) (hx.tr (Ext.rf _)) (fun s x _ h => HMON.out b s _ _ x (Ext.rf _) h) (fun d' h => by cases h; exact (fun _ => rfl))
    · intro b a9 W hpre hx hdf hsz hg hi K hK
      have G46 : a9.tmps.getD 46 undef = .bool ((((b.1 || k1) || k2) || k3) || k4) := hg 46 (by kernel_rfl)
      cases hE : (((((b.1 || k1) || k2) || k3) || k4) : Bool)
      rotate_left
      · rw [hE] at G46
        exact step_guard rfl rfl (by have hz : a9.tmps.size = 135 := hsz; omega) G46 (fun h => by cases h) (fun _ => hK b.2 _ _ (.inl rfl) (hx.tr (Ext.rf _)) (fun s x _ h => HMON.out b s _ _ x (Ext.rf _) h) (fun d' h => by cases h; exact (fun h => by rw [hE] at h; cases h)))
      rw [hE] at G46
      refine step_guard rfl rfl (by have hz : a9.tmps.size = 135 := hsz; omega) G46 (fun _ => ?_) (fun h => absurd rfl h)
      have t47 : a9.tmps.getD 47 undef = .int .i64 more := (show ((((b.1 || k1) || k2) || k3) || k4) = false → a9.tmps.getD 47 undef = .int .i64 more from hg 47 (by kernel_rfl)) hE
      have u47 := t47
      rw [Array.getD_eq_getD_getElem?] at u47
      simp [Oper.wp, Oper.upon, execOp, Act.eval, go_sem, t47, u47]
      rw [← HK5.out]
      exact hK b.2 _ _ (.inl rfl) (hx.tr (Ext.rf _)) (fun s x _ h => HMON.out b s _ _ x (Ext.rf _) h) (fun d' h => by cases h; exact (fun _ => rfl))
    · intro b a9 W hpre hx hdf hsz hg hi K hK
      refine step_free rfl ?_
      have t46 : a9.tmps.getD 46 undef = .bool ((((b.1 || k1) || k2) || k3) || k4) := hg 46 (by kernel_rfl)
      have u46 := t46
      rw [Array.getD_eq_getD_getElem?] at u46
      cases hE : (((((b.1 || k1) || k2) || k3) || k4) : Bool)
      rotate_left
      · rw [hE] at t46 u46
        simp [Oper.wp, Oper.upon, execOp, Act.eval, go_sem, t46, u46]
        exact hK b.2 _ _ (.inl rfl) (hx.tr (Ext.rf _)) (fun s x _ h => HMON.out b s _ _ x (Ext.rf _) h) (fun d' h => by cases h; exact (by rw [hE]; rfl))
      rw [hE] at t46 u46
      have t48 : a9.tmps.getD 48 undef = .bool k5 := (show ((((b.1 || k1) || k2) || k3) || k4) = false → a9.tmps.getD 48 undef = .bool k5 from hg 48 (by kernel_rfl)) hE
      have u48 := t48
      rw [Array.getD_eq_getD_getElem?] at u48
      simp [Oper.wp, Oper.upon, execOp, Act.eval, go_sem, t46, u46, t48, u48]
      exact hK b.2 _ _ (.inl rfl) (hx.tr (Ext.rf _)) (fun s x _ h => HMON.out b s _ _ x (Ext.rf _) h) (fun d' h => by cases h; exact (by rw [hE]; simp))
    · intro b a9 W hpre hx hdf hsz hg hi K hK
      refine step_free rfl ?_
      have t49 : a9.tmps.getD 49 undef = .bool (((((b.1 || k1) || k2) || k3) || k4) || k5) := hg 49 (by kernel_rfl)
      have u49 := t49
      rw [Array.getD_eq_getD_getElem?] at u49
      simp [Oper.wp, Oper.upon, execOp, Act.eval, go_sem, t49, u49]
      exact hK b.2 _ _ (.inl rfl) (hx.tr (Ext.rf _)) (fun s x _ h => HMON.out b s _ _ x (Ext.rf _) h) (fun d' h => by cases h; exact rfl)
    · intro b a9 W hpre hx hdf hsz hg hi K hK
      have G50 : a9.tmps.getD 50 undef = .bool (((((b.1 || k1) || k2) || k3) || k4) || k5) := hg 50 (by kernel_rfl)
      cases hE : ((((((b.1 || k1) || k2) || k3) || k4) || k5) : Bool)
      rotate_left
      · rw [hE] at G50
        exact step_guard rfl rfl (by have hz : a9.tmps.size = 135 := hsz; omega) G50 (fun h => by cases h) (fun _ => hK b.2 _ _ (.inl rfl) (hx.tr (Ext.rf _)) (fun s x _ h => HMON.out b s _ _ x (Ext.rf _) h) (fun d' h => by cases h; exact (fun h => by rw [hE] at h; cases h)))
      rw [hE] at G50
      refine step_guard rfl rfl (by have hz : a9.tmps.size = 135 := hsz; omega) G50 (fun _ => ?_) (fun h => absurd rfl h)
      have t7 : a9.tmps.getD 7 undef = .int .i64 more := hi 7 (by kernel_rfl)
      have u7 := t7
      rw [Array.getD_eq_getD_getElem?] at u7
      simp [Oper.wp, Oper.upon, execOp, Act.eval, go_sem, t7, u7]
      exact hK b.2 _ _ (.inl rfl) (hx.tr (Ext.rf _)) (fun s x _ h => HMON.out b s _ _ x (Ext.rf _) h) (fun d' h => by cases h; exact (fun _ => rfl))
    · intro b a9 W hpre hx hdf hsz hg hi K hK
      have G50 : a9.tmps.getD 50 undef = .bool (((((b.1 || k1) || k2) || k3) || k4) || k5) := hg 50 (by kernel_rfl)
      cases hE : ((((((b.1 || k1) || k2) || k3) || k4) || k5) : Bool)
      rotate_left
      · rw [hE] at G50
        exact step_guard rfl rfl (by have hz : a9.tmps.size = 135 := hsz; omega) G50 (fun h => by cases h) (fun _ => hK b.2 _ _ (.inl rfl) (hx.tr (Ext.rf _)) (fun s x _ h => HMON.out b s _ _ x (Ext.rf _) h) (fun d' h => by cases h; exact (fun h => by rw [hE] at h; cases h)))
      rw [hE] at G50
      refine step_guard rfl rfl (by have hz : a9.tmps.size = 135 := hsz; omega) G50 (fun _ => ?_) (fun h => absurd rfl h)
      have t51 : a9.tmps.getD 51 undef = .int .i64 more := (show (((((b.1 || k1) || k2) || k3) || k4) || k5) = false → a9.tmps.getD 51 undef = .int .i64 more from hg 51 (by kernel_rfl)) hE
      have u51 := t51
      rw [Array.getD_eq_getD_getElem?] at u51
      simp [Oper.wp, Oper.upon, execOp, Act.eval, go_sem, t51, u51]
      rw [← HK6.out]
      exact hK b.2 _ _ (.inl rfl) (hx.tr (Ext.rf _)) (fun s x _ h => HMON.out b s _ _ x (Ext.rf _) h) (fun d' h => by cases h; exact (fun _ => rfl))
    · intro b a9 W hpre hx hdf hsz hg hi K hK
      refine step_free rfl ?_
      have t50 : a9.tmps.getD 50 undef = .bool (((((b.1 || k1) || k2) || k3) || k4) || k5) := hg 50 (by kernel_rfl)
      have u50 := t50
      rw [Array.getD_eq_getD_getElem?] at u50
      cases hE : ((((((b.1 || k1) || k2) || k3) || k4) || k5) : Bool)
      rotate_left
      · rw [hE] at t50 u50
        simp [Oper.wp, Oper.upon, execOp, Act.eval, go_sem, t50, u50]
        exact hK b.2 _ _ (.inl rfl) (hx.tr (Ext.rf _)) (fun s x _ h => HMON.out b s _ _ x (Ext.rf _) h) (fun d' h => by cases h; exact (by rw [hE]; rfl))
      rw [hE] at t50 u50
      have t52 : a9.tmps.getD 52 undef = .bool k6 := (show (((((b.1 || k1) || k2) || k3) || k4) || k5) = false → a9.tmps.getD 52 undef = .bool k6 from hg 52 (by kernel_rfl)) hE
      have u52 := t52
      rw [Array.getD_eq_getD_getElem?] at u52
      simp [Oper.wp, Oper.upon, execOp, Act.eval, go_sem, t50, u50, t52, u52]
      exact hK b.2 _ _ (.inl rfl) (hx.tr (Ext.rf _)) (fun s x _ h => HMON.out b s _ _ x (Ext.rf _) h) (fun d' h => by cases h; exact (by rw [hE]; simp))
    · intro b a9 W hpre hx hdf hsz hg hi K hK
      refine step_free rfl ?_
      have t53 : a9.tmps.getD 53 undef = .bool ((((((b.1 || k1) || k2) || k3) || k4) || k5) || k6) := hg 53 (by kernel_rfl)
      have u53 := t53
      rw [Array.getD_eq_getD_getElem?] at u53
      simp [Oper.wp, Oper.upon, execOp, Act.eval, go_sem, t53, u53]
      exact hK b.2 _ _ (.inl rfl) (hx.tr (Ext.rf _)) (fun s x _ h => HMON.out b s _ _ x (Ext.rf _) h) (fun d' h => by cases h; exact rfl)
    · intro b a9 W hpre hx hdf hsz hg hi K hK
      have G54 : a9.tmps.getD 54 undef = .bool ((((((b.1 || k1) || k2) || k3) || k4) || k5) || k6) := hg 54 (by kernel_rfl)
      cases hE : (((((((b.1 || k1) || k2) || k3) || k4) || k5) || k6) : Bool)
      rotate_left
      · rw [hE] at G54
        exact step_guard rfl rfl (by have hz : a9.tmps.size = 135 := hsz; omega) G54 (fun h => by cases h) (fun _ => hK b.2 _ _ (.inl rfl) (hx.tr (Ext.rf _)) (fun s x _ h => HMON.out b s _ _ x (Ext.rf _) h) (fun d' h => by cases h; exact (fun h => by rw [hE] at h; cases h)))
      rw [hE] at G54
      refine step_guard rfl rfl (by have hz : a9.tmps.size = 135 := hsz; omega) G54 (fun _ => ?_) (fun h => absurd rfl h)
      have t0 : a9.tmps.getD 0 undef = .slice A ds.length c := hi 0 (by kernel_rfl)
      have u0 := t0
      rw [Array.getD_eq_getD_getElem?] at u0
      simp [Oper.wp, Oper.upon, execOp, Act.eval, go_sem, t0, u0]
      exact hK b.2 _ _ (.inl rfl) (hx.tr (Ext.rf _)) (fun s x _ h => HMON.out b s _ _ x (Ext.rf _) h) (fun d' h => by cases h; exact (fun _ => rfl))
    · intro b a9 W hpre hx hdf hsz hg hi K hK
      have G54 : a9.tmps.getD 54 undef = .bool ((((((b.1 || k1) || k2) || k3) || k4) || k5) || k6) := hg 54 (by kernel_rfl)
      cases hE : (((((((b.1 || k1) || k2) || k3) || k4) || k5) || k6) : Bool)
      rotate_left
      · rw [hE] at G54
        exact step_guard rfl rfl (by have hz : a9.tmps.size = 135 := hsz; omega) G54 (fun h => by cases h) (fun _ => hK b.2 _ _ (.inl rfl) (hx.tr (Ext.rf _)) (fun s x _ h => HMON.out b s _ _ x (Ext.rf _) h) (fun d' h => by cases h; exact (fun h => by rw [hE] at h; cases h)))
      rw [hE] at G54
      refine step_guard rfl rfl (by have hz : a9.tmps.size = 135 := hsz; omega) G54 (fun _ => ?_) (fun h => absurd rfl h)
      have t2 : a9.tmps.getD 2 undef = .int .i64 n := hi 2 (by kernel_rfl)
      have u2 := t2
      rw [Array.getD_eq_getD_getElem?] at u2
      simp [Oper.wp, Oper.upon, execOp, Act.eval, go_sem, t2, u2]
      exact hK b.2 _ _ (.inl rfl) (hx.tr (Ext.rf _)) (fun s x _ h => HMON.out b s _ _ x (Ext.rf _) h) (fun d' h => by cases h; exact (fun _ => rfl))
    · intro b a9 W hpre hx hdf hsz hg hi K hK
      have G54 : a9.tmps.getD 54 undef = .bool ((((((b.1 || k1) || k2) || k3) || k4) || k5) || k6) := hg 54 (by kernel_rfl)
      cases hE : (((((((b.1 || k1) || k2) || k3) || k4) || k5) || k6) : Bool)
      rotate_left
      · rw [hE] at G54
        exact step_guard rfl rfl (by have hz : a9.tmps.size = 135 := hsz; omega) G54 (fun h => by cases h) (fun _ => hK b.2 _ _ (.inl rfl) (hx.tr (Ext.rf _)) (fun s x _ h => HMON.out b s _ _ x (Ext.rf _) h) (fun d' h => by cases h; exact (fun h => by rw [hE] at h; cases h)))
      rw [hE] at G54
      refine step_guard rfl rfl (by have hz : a9.tmps.size = 135 := hsz; omega) G54 (fun _ => ?_) (fun h => absurd rfl h)
      have t3 : a9.tmps.getD 3 undef = .int .i64 scope := hi 3 (by kernel_rfl)
      have u3 := t3
      rw [Array.getD_eq_getD_getElem?] at u3
      simp [Oper.wp, Oper.upon, execOp, Act.eval, go_sem, t3, u3]
      exact hK b.2 _ _ (.inl rfl) (hx.tr (Ext.rf _)) (fun s x _ h => HMON.out b s _ _ x (Ext.rf _) h) (fun d' h => by cases h; exact (fun _ => rfl))
    · intro b a9 W hpre hx hdf hsz hg hi K hK
      have G54 : a9.tmps.getD 54 undef = .bool ((((((b.1 || k1) || k2) || k3) || k4) || k5) || k6) := hg 54 (by kernel_rfl)
      cases hE : (((((((b.1 || k1) || k2) || k3) || k4) || k5) || k6) : Bool)
      rotate_left
      · rw [hE] at G54
        exact step_guard rfl rfl (by have hz : a9.tmps.size = 135 := hsz; omega) G54 (fun h => by cases h) (fun _ => hK b.2 _ _ (.inl rfl) (hx.tr (Ext.rf _)) (fun s x _ h => HMON.out b s _ _ x (Ext.rf _) h) (fun d' h => by cases h; exact (fun h => by rw [hE] at h; cases h)))
      rw [hE] at G54
      refine step_guard rfl rfl (by have hz : a9.tmps.size = 135 := hsz; omega) G54 (fun _ => ?_) (fun h => absurd rfl h)
      have t4 : a9.tmps.getD 4 undef = .int .i64 self := hi 4 (by kernel_rfl)
      have u4 := t4
      rw [Array.getD_eq_getD_getElem?] at u4
      simp [Oper.wp, Oper.upon, execOp, Act.eval, go_sem, t4, u4]
      exact hK b.2 _ _ (.inl rfl) (hx.tr (Ext.rf _)) (fun s x _ h => HMON.out b s _ _ x (Ext.rf _) h) (fun d' h => by cases h; exact (fun _ => rfl))
    · intro b a9 W hpre hx hdf hsz hg hi K hK
      have G54 : a9.tmps.getD 54 undef = .bool ((((((b.1 || k1) || k2) || k3) || k4) || k5) || k6) := hg 54 (by kernel_rfl)
      cases hE : (((((((b.1 || k1) || k2) || k3) || k4) || k5) || k6) : Bool)
      rotate_left
      · rw [hE] at G54
        exact step_guard rfl rfl (by have hz : a9.tmps.size = 135 := hsz; omega) G54 (fun h => by cases h) (fun _ => hK b.2 _ _ (.inl rfl) (hx.tr (Ext.rf _)) (fun s x _ h => HMON.out b s _ _ x (Ext.rf _) h) (fun d' h => by cases h; exact (fun h => by rw [hE] at h; cases h)))
      rw [hE] at G54
      refine step_guard rfl rfl (by have hz : a9.tmps.size = 135 := hsz; omega) G54 (fun _ => ?_) (fun h => absurd rfl h)
      have t13 : a9.tmps.getD 13 undef = .pointer (some ⟨w.heap.size, 0, none⟩) := hi 13 (by kernel_rfl)
      have u13 := t13
      rw [Array.getD_eq_getD_getElem?] at u13
      refine wp_load_mid 27 (.tmp 13) rfl w.heap.size 0 t13 [.int .i64 t.kind, .int .i64 t.num, .int .i64 t.at_, .slice A1 t.levels.length c1, .slice A2 t.kids.length c2] _ (HT0.out.ext hx) hu5 rfl hi5 ?_
      exact hK b.2 _ _ (.inl rfl) (hx.tr (Ext.rf _)) (fun s x _ h => HMON.out b s _ _ x (Ext.rf _) h) (fun d' h => by cases h; exact (fun _ => rfl))
    · intro b a9 W hpre hx hdf hsz hg hi K hK
      have G54 : a9.tmps.getD 54 undef = .bool ((((((b.1 || k1) || k2) || k3) || k4) || k5) || k6) := hg 54 (by kernel_rfl)
      cases hE : (((((((b.1 || k1) || k2) || k3) || k4) || k5) || k6) : Bool)
      rotate_left
      · rw [hE] at G54
        exact step_guard rfl rfl (by have hz : a9.tmps.size = 135 := hsz; omega) G54 (fun h => by cases h) (fun _ => hK b.2 _ _ (.inl rfl) (hx.tr (Ext.rf _)) (fun s x _ h => HMON.out b s _ _ x (Ext.rf _) h) (fun d' h => by cases h; exact (fun h => by rw [hE] at h; cases h)))
      rw [hE] at G54
      refine step_guard rfl rfl (by have hz : a9.tmps.size = 135 := hsz; omega) G54 (fun _ => ?_) (fun h => absurd rfl h)
      have t55 : a9.tmps.getD 55 undef = .slice A ds.length c := (show ((((((b.1 || k1) || k2) || k3) || k4) || k5) || k6) = false → a9.tmps.getD 55 undef = .slice A ds.length c from hg 55 (by kernel_rfl)) hE
      have u55 := t55
      rw [Array.getD_eq_getD_getElem?] at u55
      have t56 : a9.tmps.getD 56 undef = .int .i64 n := (show ((((((b.1 || k1) || k2) || k3) || k4) || k5) || k6) = false → a9.tmps.getD 56 undef = .int .i64 n from hg 56 (by kernel_rfl)) hE
      have u56 := t56
      rw [Array.getD_eq_getD_getElem?] at u56
      have t57 : a9.tmps.getD 57 undef = .int .i64 scope := (show ((((((b.1 || k1) || k2) || k3) || k4) || k5) || k6) = false → a9.tmps.getD 57 undef = .int .i64 scope from hg 57 (by kernel_rfl)) hE
      have u57 := t57
      rw [Array.getD_eq_getD_getElem?] at u57
      have t58 : a9.tmps.getD 58 undef = .int .i64 self := (show ((((((b.1 || k1) || k2) || k3) || k4) || k5) || k6) = false → a9.tmps.getD 58 undef = .int .i64 self from hg 58 (by kernel_rfl)) hE
      have u58 := t58
      rw [Array.getD_eq_getD_getElem?] at u58
      have t59 : a9.tmps.getD 59 undef = .agg #[.int .i64 t.kind, .int .i64 t.num, .int .i64 t.at_, .slice A1 t.levels.length c1, .slice A2 t.kids.length c2] := (show ((((((b.1 || k1) || k2) || k3) || k4) || k5) || k6) = false → a9.tmps.getD 59 undef = .agg #[.int .i64 t.kind, .int .i64 t.num, .int .i64 t.at_, .slice A1 t.levels.length c1, .slice A2 t.kids.length c2] from hg 59 (by kernel_rfl)) hE
      have u59 := t59
      rw [Array.getD_eq_getD_getElem?] at u59
      simp [Oper.wp, Oper.upon, execOp, Act.eval, go_sem, t55, u55, t56, u56, t57, u57, t58, u58, t59, u59]
      refine (srcRight_any ds n scope self _ t [.int .i64 t.kind, .int .i64 t.num, .int .i64 t.at_, .slice A1 t.levels.length c1, .slice A2 t.kids.length c2] _ (HKd.out.ext (HX1.out.tr hx)) (Hd.out.ext mono_decl (HX1.out.tr hx)) (mono_term _ _ _ _ (HX1.out.tr hx) HR.out)).mono ?_
      intro e w' h
      obtain ⟨rfl, hb⟩ := told_pB3 h
      exact hK b.2 _ _ (.inl rfl) (hx.tr hb) (fun s x _ h => HMON.out b s _ _ x hb h) (fun d' h => by cases h; exact (fun _ => rfl))
    · intro b a9 W hpre hx hdf hsz hg hi K hK
      have G54 : a9.tmps.getD 54 undef = .bool ((((((b.1 || k1) || k2) || k3) || k4) || k5) || k6) := hg 54 (by kernel_rfl)
      cases hE : (((((((b.1 || k1) || k2) || k3) || k4) || k5) || k6) : Bool)
      rotate_left
      · rw [hE] at G54
        exact step_guard rfl rfl (by have hz : a9.tmps.size = 135 := hsz; omega) G54 (fun h => by cases h) (fun _ => hK b.2 _ _ (.inl rfl) (hx.tr (Ext.rf _)) (fun s x _ h => HMON.out b s _ _ x (Ext.rf _) h) (fun d' h => by cases h; exact (fun h => by rw [hE] at h; cases h)))
      rw [hE] at G54
      refine step_guard rfl rfl (by have hz : a9.tmps.size = 135 := hsz; omega) G54 (fun _ => ?_) (fun h => absurd rfl h)
      have t60 : a9.tmps.getD 60 undef = .bool (pB (RightP ds n scope self t)) := (show ((((((b.1 || k1) || k2) || k3) || k4) || k5) || k6) = false → a9.tmps.getD 60 undef = .bool (pB (RightP ds n scope self t)) from hg 60 (by kernel_rfl)) hE
      have u60 := t60
      rw [Array.getD_eq_getD_getElem?] at u60
      simp [Oper.wp, Oper.upon, execOp, Act.eval, go_sem, t60, u60]
      rw [← HK7.out]
      exact hK b.2 _ _ (.inl rfl) (hx.tr (Ext.rf _)) (fun s x _ h => HMON.out b s _ _ x (Ext.rf _) h) (fun d' h => by cases h; exact (fun _ => rfl))
    · intro b a9 W hpre hx hdf hsz hg hi K hK
      refine step_free rfl ?_
      have t54 : a9.tmps.getD 54 undef = .bool ((((((b.1 || k1) || k2) || k3) || k4) || k5) || k6) := hg 54 (by kernel_rfl)
      have u54 := t54
      rw [Array.getD_eq_getD_getElem?] at u54
      cases hE : (((((((b.1 || k1) || k2) || k3) || k4) || k5) || k6) : Bool)
      rotate_left
      · rw [hE] at t54 u54
        simp [Oper.wp, Oper.upon, execOp, Act.eval, go_sem, t54, u54]
        exact hK b.2 _ _ (.inl rfl) (hx.tr (Ext.rf _)) (fun s x _ h => HMON.out b s _ _ x (Ext.rf _) h) (fun d' h => by cases h; exact (by rw [hE]; rfl))
      rw [hE] at t54 u54
      have t61 : a9.tmps.getD 61 undef = .bool k7 := (show ((((((b.1 || k1) || k2) || k3) || k4) || k5) || k6) = false → a9.tmps.getD 61 undef = .bool k7 from hg 61 (by kernel_rfl)) hE
      have u61 := t61
      rw [Array.getD_eq_getD_getElem?] at u61
      simp [Oper.wp, Oper.upon, execOp, Act.eval, go_sem, t54, u54, t61, u61]
      exact hK b.2 _ _ (.inl rfl) (hx.tr (Ext.rf _)) (fun s x _ h => HMON.out b s _ _ x (Ext.rf _) h) (fun d' h => by cases h; exact (by rw [hE]; simp))
  · intro b a9 W hx hdf hsz hg hi K hK
    have h25 := (show SlDecl W (ds ++ bs) (a9.tmps.getD 25 undef) from hg 25 (by kernel_rfl))
    obtain ⟨Aq, cq, t25, -⟩ := id h25
    have u25 := t25
    rw [Array.getD_eq_getD_getElem?] at u25
    rw [t25] at h25
    obtain ⟨g28, t28, hg28⟩ := (show ∃ g, a9.tmps.getD 28 undef = .slice (some ⟨g, 0, none⟩) 2 2 ∧ W.heap[g]? = some (.cells #[.int .i64 t.kind, .int .i64 t.num, .int .i64 t.at_, .slice A1 t.levels.length c1, .slice A2 t.kids.length c2, .int .i64 a.kind, .int .i64 a.num, .int .i64 a.at_, .slice A3 a.levels.length c3, .slice A4 a.kids.length c4] 27 (0, 0)) from hg 28 (by kernel_rfl))
    have u28 := t28
    rw [Array.getD_eq_getD_getElem?] at u28
    simp [Oper.wp, Oper.upon, execOp, Act.eval, go_sem, t25, u25, t28, u28]
    have h25' : SlDecl W (ds ++ bs) (.slice Aq (ds.length + bs.length) cq) := by rw [← List.length_append]; exact h25
    refine (great_any (ds ++ bs) [t, a] _ _ W h25' (sl_pair (HX1.out.tr hx) HR.out HRa.out hg28)).mono ?_
    rintro e w' ⟨hb, x, rfl⟩
    exact hK x _ _ (hx.tr hb) (fun s y h => HMON.out (x, b.2) s _ _ y hb h) rfl
  · rintro b ⟨T3, D3⟩ W hx hdf hsz0 hg hi
    have t62 : T3.getD 62 undef = .bool (((((((b.1 || k1) || k2) || k3) || k4) || k5) || k6) || k7) := hg 62 (by kernel_rfl)
    obtain ⟨f, hf, hT⟩ := frame_slots T3 135 hsz0
    have f62 := (hf 62).symm.trans t62
    have f0 : f 0 = .slice A ds.length c := (hf 0).symm.trans (hi 0 (by kernel_rfl))
    have f1 : f 1 = .slice B bs.length cB := (hf 1).symm.trans (hi 1 (by kernel_rfl))
    have f2 : f 2 = .int .i64 n := (hf 2).symm.trans (hi 2 (by kernel_rfl))
    have f3 : f 3 = .int .i64 scope := (hf 3).symm.trans (hi 3 (by kernel_rfl))
    have f4 : f 4 = .int .i64 self := (hf 4).symm.trans (hi 4 (by kernel_rfl))
    have f7 : f 7 = .int .i64 more := (hf 7).symm.trans (hi 7 (by kernel_rfl))
    have f13 : f 13 = .pointer (some ⟨w.heap.size, 0, none⟩) := (hf 13).symm.trans (hi 13 (by kernel_rfl))
    have f14 : f 14 = .pointer (some ⟨w.heap.size + 1, 0, none⟩) := (hf 14).symm.trans (hi 14 (by kernel_rfl))
    have f16 : f 16 = .bool false := (hf 16).symm.trans (hi 16 (by kernel_rfl))
    have hD : D3 = [] := hdf
    have HX2 := hid (HX1.out.tr hx)
    have HT2 := hid (HT0.out.ext hx)
    have HU2 := hid (HT1.out.ext hx)
    have hz2 : w.heap.size + 2 ≤ W.heap.size := by have := hx.size; omega
    clear hf hi hg hsz0 hdf t62 hx HX1 HT0 HT1 HMON hz1
    subst hT hD
    simp only [slots, Nat.reduceAdd, f62, f0, f1, f2, f3, f4, f7, f13, f14, f16]
    cases hE : ((((((((b.1 || k1) || k2) || k3) || k4) || k5) || k6) || k7) : Bool)
    rotate_left
    · go_wp2_with fail
      go_ret
      exact ⟨rfl, HX2.out⟩
    simp only [Bool.or_eq_false_iff] at hE
    obtain ⟨⟨⟨⟨⟨⟨⟨-, e1⟩, e2⟩, e3⟩, e4⟩, e5⟩, e6⟩, e7⟩ := hE
    have hs0 : 0 ≤ scope := by have := HK1.out; rw [e1] at this; simpa using this.symm
    have hs1 : scope ≤ 100 := by have := HK2.out; rw [e2] at this; simpa using this.symm
    have hn1 : n ≤ 1000 := by have := HK3.out; rw [e3] at this; simpa using this.symm
    have hse1 : self ≤ 1000 := by have := HK4.out; rw [e4] at this; simpa using this.symm
    have hm0 : 0 ≤ more := by have := HK5.out; rw [e5] at this; simpa using this.symm
    have hm1 : more ≤ 100 := by have := HK6.out; rw [e6] at this; simpa using this.symm
    have hRP : RightP ds n scope self t := pB_true (by have := HK7.out; rw [e7] at this; simpa using this.symm)
    have hn0 : -9223372036854775808 ≤ n := HN.out.1
    have hse0 : -9223372036854775808 ≤ self := HSe.out.1
    have HRP := hid hRP
    clear hRP HK1 HK2 HK3 HK4 HK5 HK6 HK7 e1 e2 e3 e4 e5 e6 e7
    obtain ⟨i0, hi, hz0, hz1, hz2⟩ := info_parts info_decl
    have hi' := hid hi
    have hz0' := hid hz0
    have hz1' := hid hz1
    have hz2' := hid hz2
    clear hi hz0 hz1 hz2
    have Hrow1 := hid (show Row (fun _ => RDecl w) 16 256 (W.alloc (.cells #[] 34)) A ds from Hr1.out.fix (HX2.out.al _))
    go_upto_region 6 with (first | (at_builtin; refine wpList_append_all (R := fun _ => RDecl w) (sz := 16) (bytes := 256) (fun y cs h => rdecl_ones h) (by rfl) (.tmp 63) (.tmp 64) 39 (by rfl) W.heap.size 34 i0 _ Tryd.underlying39 hi'.out hz0'.out hz1'.out hz2'.out (by rfl) (by omega) (by omega) (.slice (some ⟨W.heap.size, 0, none⟩) 0 0) 0 [] (by rfl) (by exact World.ownsRow_made W #[] 0 (Nat.le_refl _) (Nat.zero_le _) rfl) ds A c (by rfl) (by exact Hrow1.out) (by have := Hlen.out; omega) (by omega) (by simp) ?_; intro v4 w4 news hown hnews hg; rw [Nat.zero_add, List.nil_append] at hown; have hx4 : Ext W w4 := grown_ext ((Ext.rf _).al _) hg (fun k h => by cases h; exact Nat.le_refl _); have Hown := hid hown; have Hnews := hid hnews; have Hx4 := hid hx4; clear hown hnews hg hx4) | (at_builtin; refine wpList_append_all (R := fun _ => RDecl w) (sz := 16) (bytes := 256) (fun y cs h => rdecl_ones h) (by rfl) (.tmp 65) (.tmp 66) 39 (by rfl) W.heap.size 34 i0 _ Tryd.underlying39 hi'.out hz0'.out hz1'.out hz2'.out (by rfl) (by omega) (by omega) v4 ds.length news (by rfl) Hown.out bs B cB (by rfl) (by exact Hr2.out.fix (HX2.out.tr Hx4.out)) (by have := Hlen.out; omega) (by omega) Hx4.out.size ?_; intro v5 w5 news2 hown2 hnews2 hg2; have Hg2 := hid hg2; have Hown2 := hid hown2; have Hnews2 := hid hnews2; clear hg2 hown2 hnews2))
    have hx5 : Ext W w5 := grown_ext Hx4.out Hg2.out (fun k hk => (Hown.out.lt k hk).1)
    have hall := sl_both (w := w) (HX2.out.tr hx5) Hown2.out Hown.out.1 Hnews.out Hnews2.out (by have := Hlen.out; unfold LIM; omega)
    obtain ⟨Aq, cq, e5, -⟩ := id hall
    subst e5
    have HAll := hid hall
    have HX5 := hid (HX2.out.tr hx5)
    have HT5 := hid (HT2.out.ext hx5)
    have HU5 := hid (HU2.out.ext hx5)
    have hz5 : w.heap.size + 2 ≤ w5.heap.size := by have := hx5.size; omega
    clear hall hx5 Hg2 Hown Hnews Hown2 Hnews2 Hx4 Hrow1 HT2 HU2 HX2 hz2
    have hall' : SlDecl w5 (ds ++ bs) (.slice Aq (ds.length + bs.length) cq) := by rw [← List.length_append]; exact HAll.out
    have HAll' := hid hall'
    clear hall' HAll
    have p0 : w5.cell? ⟨w.heap.size, 0, none⟩ = some (.int .i64 t.kind) := by simpa using HT5.out.pick 0 rfl
    have p1 : w5.cell? ⟨w.heap.size, 1, none⟩ = some (.int .i64 t.num) := by simpa using HT5.out.pick 1 rfl
    have p2 : w5.cell? ⟨w.heap.size, 2, none⟩ = some (.int .i64 t.at_) := by simpa using HT5.out.pick 2 rfl
    have p3 : w5.cell? ⟨w.heap.size, 3, none⟩ = some (.slice A1 t.levels.length c1) := by simpa using HT5.out.pick 3 rfl
    have p4 : w5.cell? ⟨w.heap.size, 4, none⟩ = some (.slice A2 t.kids.length c2) := by simpa using HT5.out.pick 4 rfl
    go_wp2_with fail
    refine (srcRight_any (ds ++ bs) (n + more) (scope + more) (self + more) _ t _ _ (HKd.out.ext HX5.out) HAll'.out (mono_term _ _ _ _ HX5.out HR.out)).mono ?_
    rintro e w6 ⟨hx6, ⟨-, rfl⟩ | ⟨hP, rfl⟩⟩
    rotate_left
    · exact absurd (rightP_up (behind_append ds bs) (by omega) (by omega) (by omega) HRP.out) hP
    clear p0 p1 p2 p3 p4
    have HX6 := hid (HX5.out.tr hx6)
    have HT6 := hid (HT5.out.ext hx6)
    have HU6 := hid (HU5.out.ext hx6)
    clear HX5 HT5 HU5 hx6 HAll'
    have p0 : w6.cell? ⟨w.heap.size, 0, none⟩ = some (.int .i64 t.kind) := by simpa using HT6.out.pick 0 rfl
    have p1 : w6.cell? ⟨w.heap.size, 1, none⟩ = some (.int .i64 t.num) := by simpa using HT6.out.pick 1 rfl
    have p2 : w6.cell? ⟨w.heap.size, 2, none⟩ = some (.int .i64 t.at_) := by simpa using HT6.out.pick 2 rfl
    have p3 : w6.cell? ⟨w.heap.size, 3, none⟩ = some (.slice A1 t.levels.length c1) := by simpa using HT6.out.pick 3 rfl
    have p4 : w6.cell? ⟨w.heap.size, 4, none⟩ = some (.slice A2 t.kids.length c2) := by simpa using HT6.out.pick 4 rfl
    go_wp2_with fail
    refine (lift_any more 0 t _ _ (HKd.out.ext HX6.out) (Nat.le_trans (right_size HRP.out.1) (by decide)) (lift_fits hm0 (by omega) HRP.out.1) (mono_term _ _ _ _ HX6.out HR.out)).mono ?_
    rintro e w7 ⟨hx7, cs7, rfl, hR7⟩
    obtain ⟨L, hL⟩ : ∃ L, L = walkT (liftS more 0) 0 t := ⟨_, rfl⟩
    rw [← hL] at hR7
    have hRL : RightP ds n (scope + more) self L := by rw [hL]; exact lift_right hm0 hm1 hs0 hs1 HRP.out
    have HRL := hid hRL
    have HR7 := hid (monoC_term _ _ _ _ (frm_sub _ _) hR7)
    obtain ⟨_, _, rfl, -, ⟨A5, c5, rfl, -⟩, ⟨A6, c6, rfl, -⟩⟩ := rterm_open hR7
    clear p0 p1 p2 p3 p4 hR7 hL hRL
    have HX7 := hid (HX6.out.tr hx7)
    have HT7 := hid (HT6.out.ext hx7)
    have HU7 := hid (HU6.out.ext hx7)
    clear HX6 HT6 HU6 hx7
    go_wp2_with fail
    refine (srcRight_any ds n (scope + more) self _ L _ _ (HKd.out.ext HX7.out) (Hd.out.ext mono_decl HX7.out) HR7.out).mono ?_
    rintro e w8 ⟨hx8, ⟨-, rfl⟩ | ⟨hP, rfl⟩⟩
    rotate_left
    · exact absurd HRL.out hP
    have HX8 := hid (HX7.out.tr hx8)
    have HT8 := hid (HT7.out.ext hx8)
    have HU8 := hid (HU7.out.ext hx8)
    clear HX7 HT7 HU7 hx8 HR7 HRL
    have p0 : w8.cell? ⟨w.heap.size, 0, none⟩ = some (.int .i64 t.kind) := by simpa using HT8.out.pick 0 rfl
    have p1 : w8.cell? ⟨w.heap.size, 1, none⟩ = some (.int .i64 t.num) := by simpa using HT8.out.pick 1 rfl
    have p2 : w8.cell? ⟨w.heap.size, 2, none⟩ = some (.int .i64 t.at_) := by simpa using HT8.out.pick 2 rfl
    have p3 : w8.cell? ⟨w.heap.size, 3, none⟩ = some (.slice A1 t.levels.length c1) := by simpa using HT8.out.pick 3 rfl
    have p4 : w8.cell? ⟨w.heap.size, 4, none⟩ = some (.slice A2 t.kids.length c2) := by simpa using HT8.out.pick 4 rfl
    go_wp2_with fail
    refine (right_any t _ _ (HKd.out.ext HX8.out) (mono_term _ _ _ _ HX8.out HR.out)).mono ?_
    rintro e w9 ⟨rfl, hx9⟩
    rw [HRP.out.1]
    clear p0 p1 p2 p3 p4
    have HX9 := hid (HX8.out.tr hx9)
    have HT9 := hid (HT8.out.ext hx9)
    have HU9 := hid (HU8.out.ext hx9)
    have hz9 : w.heap.size + 2 ≤ w9.heap.size := by have h1 := HX9.out.size; have h2 := lt_of_cell (HU9.out.pick 0 rfl); omega
    clear HX8 HT8 HU8 hx9 hz5
    go_upto_region 8 with fail
    obtain ⟨m0, hm0'⟩ : ∃ k, k = decide (scope = 0) := ⟨_, rfl⟩
    obtain ⟨m1, hm1'⟩ : ∃ k, k = !pB (RightP ds n (scope - 1) self a) := ⟨_, rfl⟩
    have HM0 := hid hm0'
    have HM1 := hid hm1'
    clear hm0' hm1'
    have hsw : IntKind.i64.wrap (scope - 1) = scope - 1 := IntWalk.i64_in _ (by omega)
    have hsb : (scope == 0) = m0 := by rw [HM0.out]; rfl
    refine wp_region_steps (fun s W v => match s with | 99 => v = .int .i64 scope | 100 => v = .bool m0 | 101 => v = .bool m0 | 102 => m0 = false → v = .slice A ds.length c | 103 => m0 = false → v = .int .i64 n | 104 => m0 = false → v = .int .i64 scope | 105 => m0 = false → v = .int .i64 (scope - 1) | 106 => m0 = false → v = .int .i64 self | 107 => m0 = false → v = .agg #[.int .i64 a.kind, .int .i64 a.num, .int .i64 a.at_, .slice A3 a.levels.length c3, .slice A4 a.kids.length c4] | 108 => m0 = false → v = .bool (pB (RightP ds n (scope - 1) self a)) | 109 => m0 = false → v = .bool m1 | 110 => v = .bool (m0 || m1) | 111 => v = .bool (m0 || m1) | 112 => (m0 || m1) = false → v = .agg #[.int .i64 t.kind, .int .i64 t.num, .int .i64 t.at_, .slice A1 t.levels.length c1, .slice A2 t.kids.length c2] | 113 => (m0 || m1) = false → ∃ z, v = .int .i64 z | 114 => (m0 || m1) = false → v = .agg #[.int .i64 a.kind, .int .i64 a.num, .int .i64 a.at_, .slice A3 a.levels.length c3, .slice A4 a.kids.length c4] | 115 => (m0 || m1) = false → ∃ z, v = .int .i64 z | 116 => (m0 || m1) = false → ∃ z, v = .int .i64 z | 117 => (m0 || m1) = false → ∃ z, v = .bool z | 118 => ∃ e : Bool, v = .bool e ∧ (e = false → (m0 || m1) = false) | _ => True) (by kernel_rfl) (by kernel_rfl) (of_decide_eq_true (by kernel_rfl)) (by kernel_rfl) (fun s W W' v _ h => h) ?_ ?_
    · refine ⟨?_, ?_, ?_, ?_, ?_, ?_, ?_, ?_, ?_, ?_, ?_, ?_, ?_, ?_, ?_, ?_, ?_, ?_, ?_, ?_, trivial⟩
      · intro a9 W hx hdf hsz hg hi K hK
        refine step_free rfl ?_
        have t3 : a9.tmps.getD 3 undef = .int .i64 scope := hi 3 (by kernel_rfl)
        have u3 := t3
        rw [Array.getD_eq_getD_getElem?] at u3
        simp [Oper.wp, Oper.upon, execOp, Act.eval, go_sem, t3, u3]
        exact hK _ _ (Ext.rf _) (fun d' h => by cases h; exact rfl)
      · intro a9 W hx hdf hsz hg hi K hK
        refine step_free rfl ?_
        have t99 : a9.tmps.getD 99 undef = .int .i64 scope := hg 99 (by kernel_rfl)
        have u99 := t99
        rw [Array.getD_eq_getD_getElem?] at u99
        simp [Oper.wp, Oper.upon, execOp, Act.eval, go_sem, t99, u99, hsb]
        exact hK _ _ (Ext.rf _) (fun d' h => by cases h; exact rfl)
      · intro a9 W hx hdf hsz hg hi K hK
        refine step_free rfl ?_
        have t100 : a9.tmps.getD 100 undef = .bool m0 := hg 100 (by kernel_rfl)
        have u100 := t100
        rw [Array.getD_eq_getD_getElem?] at u100
        simp [Oper.wp, Oper.upon, execOp, Act.eval, go_sem, t100, u100]
        exact hK _ _ (Ext.rf _) (fun d' h => by cases h; exact rfl)
      · intro a9 W hx hdf hsz hg hi K hK
        have G101 : a9.tmps.getD 101 undef = .bool m0 := hg 101 (by kernel_rfl)
        cases hE : (m0 : Bool)
        rotate_left
        · rw [hE] at G101
          exact step_guard rfl rfl (by have hz : a9.tmps.size = 135 := hsz; omega) G101 (fun h => by cases h) (fun _ => hK _ _ (Ext.rf _) (fun d' h => by cases h; exact (fun h => by rw [hE] at h; cases h)))
        rw [hE] at G101
        refine step_guard rfl rfl (by have hz : a9.tmps.size = 135 := hsz; omega) G101 (fun _ => ?_) (fun h => absurd rfl h)
        have t0 : a9.tmps.getD 0 undef = .slice A ds.length c := hi 0 (by kernel_rfl)
        have u0 := t0
        rw [Array.getD_eq_getD_getElem?] at u0
        simp [Oper.wp, Oper.upon, execOp, Act.eval, go_sem, t0, u0]
        exact hK _ _ (Ext.rf _) (fun d' h => by cases h; exact (fun _ => rfl))
      · intro a9 W hx hdf hsz hg hi K hK
        have G101 : a9.tmps.getD 101 undef = .bool m0 := hg 101 (by kernel_rfl)
        cases hE : (m0 : Bool)
        rotate_left
        · rw [hE] at G101
          exact step_guard rfl rfl (by have hz : a9.tmps.size = 135 := hsz; omega) G101 (fun h => by cases h) (fun _ => hK _ _ (Ext.rf _) (fun d' h => by cases h; exact (fun h => by rw [hE] at h; cases h)))
        rw [hE] at G101
        refine step_guard rfl rfl (by have hz : a9.tmps.size = 135 := hsz; omega) G101 (fun _ => ?_) (fun h => absurd rfl h)
        have t2 : a9.tmps.getD 2 undef = .int .i64 n := hi 2 (by kernel_rfl)
        have u2 := t2
        rw [Array.getD_eq_getD_getElem?] at u2
        simp [Oper.wp, Oper.upon, execOp, Act.eval, go_sem, t2, u2]
        exact hK _ _ (Ext.rf _) (fun d' h => by cases h; exact (fun _ => rfl))
      · intro a9 W hx hdf hsz hg hi K hK
        have G101 : a9.tmps.getD 101 undef = .bool m0 := hg 101 (by kernel_rfl)
        cases hE : (m0 : Bool)
        rotate_left
        · rw [hE] at G101
          exact step_guard rfl rfl (by have hz : a9.tmps.size = 135 := hsz; omega) G101 (fun h => by cases h) (fun _ => hK _ _ (Ext.rf _) (fun d' h => by cases h; exact (fun h => by rw [hE] at h; cases h)))
        rw [hE] at G101
        refine step_guard rfl rfl (by have hz : a9.tmps.size = 135 := hsz; omega) G101 (fun _ => ?_) (fun h => absurd rfl h)
        have t3 : a9.tmps.getD 3 undef = .int .i64 scope := hi 3 (by kernel_rfl)
        have u3 := t3
        rw [Array.getD_eq_getD_getElem?] at u3
        simp [Oper.wp, Oper.upon, execOp, Act.eval, go_sem, t3, u3]
        exact hK _ _ (Ext.rf _) (fun d' h => by cases h; exact (fun _ => rfl))
      · intro a9 W hx hdf hsz hg hi K hK
        have G101 : a9.tmps.getD 101 undef = .bool m0 := hg 101 (by kernel_rfl)
        cases hE : (m0 : Bool)
        rotate_left
        · rw [hE] at G101
          exact step_guard rfl rfl (by have hz : a9.tmps.size = 135 := hsz; omega) G101 (fun h => by cases h) (fun _ => hK _ _ (Ext.rf _) (fun d' h => by cases h; exact (fun h => by rw [hE] at h; cases h)))
        rw [hE] at G101
        refine step_guard rfl rfl (by have hz : a9.tmps.size = 135 := hsz; omega) G101 (fun _ => ?_) (fun h => absurd rfl h)
        have t104 : a9.tmps.getD 104 undef = .int .i64 scope := (show m0 = false → a9.tmps.getD 104 undef = .int .i64 scope from hg 104 (by kernel_rfl)) hE
        have u104 := t104
        rw [Array.getD_eq_getD_getElem?] at u104
        simp [Oper.wp, Oper.upon, execOp, Act.eval, go_sem, t104, u104, hsw]
        exact hK _ _ (Ext.rf _) (fun d' h => by cases h; exact (fun _ => rfl))
      · intro a9 W hx hdf hsz hg hi K hK
        have G101 : a9.tmps.getD 101 undef = .bool m0 := hg 101 (by kernel_rfl)
        cases hE : (m0 : Bool)
        rotate_left
        · rw [hE] at G101
          exact step_guard rfl rfl (by have hz : a9.tmps.size = 135 := hsz; omega) G101 (fun h => by cases h) (fun _ => hK _ _ (Ext.rf _) (fun d' h => by cases h; exact (fun h => by rw [hE] at h; cases h)))
        rw [hE] at G101
        refine step_guard rfl rfl (by have hz : a9.tmps.size = 135 := hsz; omega) G101 (fun _ => ?_) (fun h => absurd rfl h)
        have t4 : a9.tmps.getD 4 undef = .int .i64 self := hi 4 (by kernel_rfl)
        have u4 := t4
        rw [Array.getD_eq_getD_getElem?] at u4
        simp [Oper.wp, Oper.upon, execOp, Act.eval, go_sem, t4, u4]
        exact hK _ _ (Ext.rf _) (fun d' h => by cases h; exact (fun _ => rfl))
      · intro a9 W hx hdf hsz hg hi K hK
        have G101 : a9.tmps.getD 101 undef = .bool m0 := hg 101 (by kernel_rfl)
        cases hE : (m0 : Bool)
        rotate_left
        · rw [hE] at G101
          exact step_guard rfl rfl (by have hz : a9.tmps.size = 135 := hsz; omega) G101 (fun h => by cases h) (fun _ => hK _ _ (Ext.rf _) (fun d' h => by cases h; exact (fun h => by rw [hE] at h; cases h)))
        rw [hE] at G101
        refine step_guard rfl rfl (by have hz : a9.tmps.size = 135 := hsz; omega) G101 (fun _ => ?_) (fun h => absurd rfl h)
        have t14 : a9.tmps.getD 14 undef = .pointer (some ⟨w.heap.size + 1, 0, none⟩) := hi 14 (by kernel_rfl)
        have u14 := t14
        rw [Array.getD_eq_getD_getElem?] at u14
        refine wp_load_mid 27 (.tmp 14) rfl (w.heap.size + 1) 0 t14 [.int .i64 a.kind, .int .i64 a.num, .int .i64 a.at_, .slice A3 a.levels.length c3, .slice A4 a.kids.length c4] _ (HU9.out.ext hx) hu5 rfl hi5 ?_
        exact hK _ _ (Ext.rf _) (fun d' h => by cases h; exact (fun _ => rfl))
      · intro a9 W hx hdf hsz hg hi K hK
        have G101 : a9.tmps.getD 101 undef = .bool m0 := hg 101 (by kernel_rfl)
        cases hE : (m0 : Bool)
        rotate_left
        · rw [hE] at G101
          exact step_guard rfl rfl (by have hz : a9.tmps.size = 135 := hsz; omega) G101 (fun h => by cases h) (fun _ => hK _ _ (Ext.rf _) (fun d' h => by cases h; exact (fun h => by rw [hE] at h; cases h)))
        rw [hE] at G101
        refine step_guard rfl rfl (by have hz : a9.tmps.size = 135 := hsz; omega) G101 (fun _ => ?_) (fun h => absurd rfl h)
        have t102 : a9.tmps.getD 102 undef = .slice A ds.length c := (show m0 = false → a9.tmps.getD 102 undef = .slice A ds.length c from hg 102 (by kernel_rfl)) hE
        have u102 := t102
        rw [Array.getD_eq_getD_getElem?] at u102
        have t103 : a9.tmps.getD 103 undef = .int .i64 n := (show m0 = false → a9.tmps.getD 103 undef = .int .i64 n from hg 103 (by kernel_rfl)) hE
        have u103 := t103
        rw [Array.getD_eq_getD_getElem?] at u103
        have t105 : a9.tmps.getD 105 undef = .int .i64 (scope - 1) := (show m0 = false → a9.tmps.getD 105 undef = .int .i64 (scope - 1) from hg 105 (by kernel_rfl)) hE
        have u105 := t105
        rw [Array.getD_eq_getD_getElem?] at u105
        have t106 : a9.tmps.getD 106 undef = .int .i64 self := (show m0 = false → a9.tmps.getD 106 undef = .int .i64 self from hg 106 (by kernel_rfl)) hE
        have u106 := t106
        rw [Array.getD_eq_getD_getElem?] at u106
        have t107 : a9.tmps.getD 107 undef = .agg #[.int .i64 a.kind, .int .i64 a.num, .int .i64 a.at_, .slice A3 a.levels.length c3, .slice A4 a.kids.length c4] := (show m0 = false → a9.tmps.getD 107 undef = .agg #[.int .i64 a.kind, .int .i64 a.num, .int .i64 a.at_, .slice A3 a.levels.length c3, .slice A4 a.kids.length c4] from hg 107 (by kernel_rfl)) hE
        have u107 := t107
        rw [Array.getD_eq_getD_getElem?] at u107
        simp [Oper.wp, Oper.upon, execOp, Act.eval, go_sem, t102, u102, t103, u103, t105, u105, t106, u106, t107, u107]
        refine (srcRight_any ds n (scope - 1) self _ a [.int .i64 a.kind, .int .i64 a.num, .int .i64 a.at_, .slice A3 a.levels.length c3, .slice A4 a.kids.length c4] _ (HKd.out.ext (HX9.out.tr hx)) (Hd.out.ext mono_decl (HX9.out.tr hx)) (mono_term _ _ _ _ (HX9.out.tr hx) HRa.out)).mono ?_
        intro e w' h
        obtain ⟨rfl, hb⟩ := told_pB3 h
        exact hK _ _ hb (fun d' h => by cases h; exact (fun _ => rfl))
      · intro a9 W hx hdf hsz hg hi K hK
        have G101 : a9.tmps.getD 101 undef = .bool m0 := hg 101 (by kernel_rfl)
        cases hE : (m0 : Bool)
        rotate_left
        · rw [hE] at G101
          exact step_guard rfl rfl (by have hz : a9.tmps.size = 135 := hsz; omega) G101 (fun h => by cases h) (fun _ => hK _ _ (Ext.rf _) (fun d' h => by cases h; exact (fun h => by rw [hE] at h; cases h)))
        rw [hE] at G101
        refine step_guard rfl rfl (by have hz : a9.tmps.size = 135 := hsz; omega) G101 (fun _ => ?_) (fun h => absurd rfl h)
        have t108 : a9.tmps.getD 108 undef = .bool (pB (RightP ds n (scope - 1) self a)) := (show m0 = false → a9.tmps.getD 108 undef = .bool (pB (RightP ds n (scope - 1) self a)) from hg 108 (by kernel_rfl)) hE
        have u108 := t108
        rw [Array.getD_eq_getD_getElem?] at u108
        simp [Oper.wp, Oper.upon, execOp, Act.eval, go_sem, t108, u108]
        rw [← HM1.out]
        exact hK _ _ (Ext.rf _) (fun d' h => by cases h; exact (fun _ => rfl))
      · intro a9 W hx hdf hsz hg hi K hK
        refine step_free rfl ?_
        have t101 : a9.tmps.getD 101 undef = .bool m0 := hg 101 (by kernel_rfl)
        have u101 := t101
        rw [Array.getD_eq_getD_getElem?] at u101
        cases hE : (m0 : Bool)
        rotate_left
        · rw [hE] at t101 u101
          simp [Oper.wp, Oper.upon, execOp, Act.eval, go_sem, t101, u101]
          exact hK _ _ (Ext.rf _) (fun d' h => by cases h; exact (by rw [hE]; rfl))
        rw [hE] at t101 u101
        have t109 : a9.tmps.getD 109 undef = .bool m1 := (show m0 = false → a9.tmps.getD 109 undef = .bool m1 from hg 109 (by kernel_rfl)) hE
        have u109 := t109
        rw [Array.getD_eq_getD_getElem?] at u109
        simp [Oper.wp, Oper.upon, execOp, Act.eval, go_sem, t101, u101, t109, u109]
        exact hK _ _ (Ext.rf _) (fun d' h => by cases h; exact (by rw [hE]; simp))
      · intro a9 W hx hdf hsz hg hi K hK
        refine step_free rfl ?_
        have t110 : a9.tmps.getD 110 undef = .bool (m0 || m1) := hg 110 (by kernel_rfl)
        have u110 := t110
        rw [Array.getD_eq_getD_getElem?] at u110
        simp [Oper.wp, Oper.upon, execOp, Act.eval, go_sem, t110, u110]
        exact hK _ _ (Ext.rf _) (fun d' h => by cases h; exact rfl)
      · intro a9 W hx hdf hsz hg hi K hK
        have G111 : a9.tmps.getD 111 undef = .bool (m0 || m1) := hg 111 (by kernel_rfl)
        cases hE : ((m0 || m1) : Bool)
        rotate_left
        · rw [hE] at G111
          exact step_guard rfl rfl (by have hz : a9.tmps.size = 135 := hsz; omega) G111 (fun h => by cases h) (fun _ => hK _ _ (Ext.rf _) (fun d' h => by cases h; exact (fun h => by rw [hE] at h; cases h)))
        rw [hE] at G111
        refine step_guard rfl rfl (by have hz : a9.tmps.size = 135 := hsz; omega) G111 (fun _ => ?_) (fun h => absurd rfl h)
        have t13 : a9.tmps.getD 13 undef = .pointer (some ⟨w.heap.size, 0, none⟩) := hi 13 (by kernel_rfl)
        have u13 := t13
        rw [Array.getD_eq_getD_getElem?] at u13
        refine wp_load_mid 27 (.tmp 13) rfl w.heap.size 0 t13 [.int .i64 t.kind, .int .i64 t.num, .int .i64 t.at_, .slice A1 t.levels.length c1, .slice A2 t.kids.length c2] _ (HT9.out.ext hx) hu5 rfl hi5 ?_
        exact hK _ _ (Ext.rf _) (fun d' h => by cases h; exact (fun _ => rfl))
      · intro a9 W hx hdf hsz hg hi K hK
        have G111 : a9.tmps.getD 111 undef = .bool (m0 || m1) := hg 111 (by kernel_rfl)
        cases hE : ((m0 || m1) : Bool)
        rotate_left
        · rw [hE] at G111
          exact step_guard rfl rfl (by have hz : a9.tmps.size = 135 := hsz; omega) G111 (fun h => by cases h) (fun _ => hK _ _ (Ext.rf _) (fun d' h => by cases h; exact (fun h => by rw [hE] at h; cases h)))
        rw [hE] at G111
        refine step_guard rfl rfl (by have hz : a9.tmps.size = 135 := hsz; omega) G111 (fun _ => ?_) (fun h => absurd rfl h)
        have t112 : a9.tmps.getD 112 undef = .agg #[.int .i64 t.kind, .int .i64 t.num, .int .i64 t.at_, .slice A1 t.levels.length c1, .slice A2 t.kids.length c2] := (show (m0 || m1) = false → a9.tmps.getD 112 undef = .agg #[.int .i64 t.kind, .int .i64 t.num, .int .i64 t.at_, .slice A1 t.levels.length c1, .slice A2 t.kids.length c2] from hg 112 (by kernel_rfl)) hE
        have u112 := t112
        rw [Array.getD_eq_getD_getElem?] at u112
        simp [Oper.wp, Oper.upon, execOp, Act.eval, go_sem, t112, u112]
        refine (size_any t [.int .i64 t.kind, .int .i64 t.num, .int .i64 t.at_, .slice A1 t.levels.length c1, .slice A2 t.kids.length c2] _ (mono_term _ _ _ _ (HX9.out.tr hx) HR.out)).mono ?_
        rintro e w' ⟨hb, z, rfl⟩
        exact hK _ _ hb (fun d' h => by cases h; exact (fun _ => ⟨z, rfl⟩))
      · intro a9 W hx hdf hsz hg hi K hK
        have G111 : a9.tmps.getD 111 undef = .bool (m0 || m1) := hg 111 (by kernel_rfl)
        cases hE : ((m0 || m1) : Bool)
        rotate_left
        · rw [hE] at G111
          exact step_guard rfl rfl (by have hz : a9.tmps.size = 135 := hsz; omega) G111 (fun h => by cases h) (fun _ => hK _ _ (Ext.rf _) (fun d' h => by cases h; exact (fun h => by rw [hE] at h; cases h)))
        rw [hE] at G111
        refine step_guard rfl rfl (by have hz : a9.tmps.size = 135 := hsz; omega) G111 (fun _ => ?_) (fun h => absurd rfl h)
        have t14 : a9.tmps.getD 14 undef = .pointer (some ⟨w.heap.size + 1, 0, none⟩) := hi 14 (by kernel_rfl)
        have u14 := t14
        rw [Array.getD_eq_getD_getElem?] at u14
        refine wp_load_mid 27 (.tmp 14) rfl (w.heap.size + 1) 0 t14 [.int .i64 a.kind, .int .i64 a.num, .int .i64 a.at_, .slice A3 a.levels.length c3, .slice A4 a.kids.length c4] _ (HU9.out.ext hx) hu5 rfl hi5 ?_
        exact hK _ _ (Ext.rf _) (fun d' h => by cases h; exact (fun _ => rfl))
      · intro a9 W hx hdf hsz hg hi K hK
        have G111 : a9.tmps.getD 111 undef = .bool (m0 || m1) := hg 111 (by kernel_rfl)
        cases hE : ((m0 || m1) : Bool)
        rotate_left
        · rw [hE] at G111
          exact step_guard rfl rfl (by have hz : a9.tmps.size = 135 := hsz; omega) G111 (fun h => by cases h) (fun _ => hK _ _ (Ext.rf _) (fun d' h => by cases h; exact (fun h => by rw [hE] at h; cases h)))
        rw [hE] at G111
        refine step_guard rfl rfl (by have hz : a9.tmps.size = 135 := hsz; omega) G111 (fun _ => ?_) (fun h => absurd rfl h)
        have t114 : a9.tmps.getD 114 undef = .agg #[.int .i64 a.kind, .int .i64 a.num, .int .i64 a.at_, .slice A3 a.levels.length c3, .slice A4 a.kids.length c4] := (show (m0 || m1) = false → a9.tmps.getD 114 undef = .agg #[.int .i64 a.kind, .int .i64 a.num, .int .i64 a.at_, .slice A3 a.levels.length c3, .slice A4 a.kids.length c4] from hg 114 (by kernel_rfl)) hE
        have u114 := t114
        rw [Array.getD_eq_getD_getElem?] at u114
        simp [Oper.wp, Oper.upon, execOp, Act.eval, go_sem, t114, u114]
        refine (size_any a [.int .i64 a.kind, .int .i64 a.num, .int .i64 a.at_, .slice A3 a.levels.length c3, .slice A4 a.kids.length c4] _ (mono_term _ _ _ _ (HX9.out.tr hx) HRa.out)).mono ?_
        rintro e w' ⟨hb, z, rfl⟩
        exact hK _ _ hb (fun d' h => by cases h; exact (fun _ => ⟨z, rfl⟩))
      · intro a9 W hx hdf hsz hg hi K hK
        have G111 : a9.tmps.getD 111 undef = .bool (m0 || m1) := hg 111 (by kernel_rfl)
        cases hE : ((m0 || m1) : Bool)
        rotate_left
        · rw [hE] at G111
          exact step_guard rfl rfl (by have hz : a9.tmps.size = 135 := hsz; omega) G111 (fun h => by cases h) (fun _ => hK _ _ (Ext.rf _) (fun d' h => by cases h; exact (fun h => by rw [hE] at h; cases h)))
        rw [hE] at G111
        refine step_guard rfl rfl (by have hz : a9.tmps.size = 135 := hsz; omega) G111 (fun _ => ?_) (fun h => absurd rfl h)
        obtain ⟨z113, t113⟩ := (show (m0 || m1) = false → ∃ z, a9.tmps.getD 113 undef = .int .i64 z from hg 113 (by kernel_rfl)) hE
        have u113 := t113
        rw [Array.getD_eq_getD_getElem?] at u113
        obtain ⟨z115, t115⟩ := (show (m0 || m1) = false → ∃ z, a9.tmps.getD 115 undef = .int .i64 z from hg 115 (by kernel_rfl)) hE
        have u115 := t115
        rw [Array.getD_eq_getD_getElem?] at u115
        simp [Oper.wp, Oper.upon, execOp, Act.eval, go_sem, t113, u113, t115, u115]
        exact hK _ _ (Ext.rf _) (fun d' h => by cases h; exact (fun _ => ⟨_, rfl⟩))
      · intro a9 W hx hdf hsz hg hi K hK
        have G111 : a9.tmps.getD 111 undef = .bool (m0 || m1) := hg 111 (by kernel_rfl)
        cases hE : ((m0 || m1) : Bool)
        rotate_left
        · rw [hE] at G111
          exact step_guard rfl rfl (by have hz : a9.tmps.size = 135 := hsz; omega) G111 (fun h => by cases h) (fun _ => hK _ _ (Ext.rf _) (fun d' h => by cases h; exact (fun h => by rw [hE] at h; cases h)))
        rw [hE] at G111
        refine step_guard rfl rfl (by have hz : a9.tmps.size = 135 := hsz; omega) G111 (fun _ => ?_) (fun h => absurd rfl h)
        obtain ⟨z116, t116⟩ := (show (m0 || m1) = false → ∃ z, a9.tmps.getD 116 undef = .int .i64 z from hg 116 (by kernel_rfl)) hE
        have u116 := t116
        rw [Array.getD_eq_getD_getElem?] at u116
        simp [Oper.wp, Oper.upon, execOp, Act.eval, go_sem, t116, u116]
        exact hK _ _ (Ext.rf _) (fun d' h => by cases h; exact (fun _ => ⟨_, rfl⟩))
      · intro a9 W hx hdf hsz hg hi K hK
        refine step_free rfl ?_
        have t111 : a9.tmps.getD 111 undef = .bool (m0 || m1) := hg 111 (by kernel_rfl)
        have u111 := t111
        rw [Array.getD_eq_getD_getElem?] at u111
        cases hE : ((m0 || m1) : Bool)
        rotate_left
        · rw [hE] at t111 u111
          simp [Oper.wp, Oper.upon, execOp, Act.eval, go_sem, t111, u111]
          exact hK _ _ (Ext.rf _) (fun d' h => by cases h; exact ⟨true, rfl, fun h => by cases h⟩)
        rw [hE] at t111 u111
        obtain ⟨z117, t117⟩ := (show (m0 || m1) = false → ∃ z, a9.tmps.getD 117 undef = .bool z from hg 117 (by kernel_rfl)) hE
        have u117 := t117
        rw [Array.getD_eq_getD_getElem?] at u117
        simp [Oper.wp, Oper.upon, execOp, Act.eval, go_sem, t111, u111, t117, u117]
        exact hK _ _ (Ext.rf _) (fun d' h => by cases h; exact ⟨_, rfl, fun _ => hE⟩)
    · rintro ⟨T3, D3⟩ W hx hdf hsz0 hg hi
      obtain ⟨e, t118, h118⟩ := (show ∃ e : Bool, T3.getD 118 undef = .bool e ∧ (e = false → (m0 || m1) = false) from hg 118 (by kernel_rfl))
      obtain ⟨f, hf, hT⟩ := frame_slots T3 135 hsz0
      have f118 := (hf 118).symm.trans t118
      have f0 : f 0 = .slice A ds.length c := (hf 0).symm.trans (hi 0 (by kernel_rfl))
      have f2 : f 2 = .int .i64 n := (hf 2).symm.trans (hi 2 (by kernel_rfl))
      have f3 : f 3 = .int .i64 scope := (hf 3).symm.trans (hi 3 (by kernel_rfl))
      have f4 : f 4 = .int .i64 self := (hf 4).symm.trans (hi 4 (by kernel_rfl))
      have f13 : f 13 = .pointer (some ⟨w.heap.size, 0, none⟩) := (hf 13).symm.trans (hi 13 (by kernel_rfl))
      have f14 : f 14 = .pointer (some ⟨w.heap.size + 1, 0, none⟩) := (hf 14).symm.trans (hi 14 (by kernel_rfl))
      have hD : D3 = [] := hdf
      have HX2 := hid (HX9.out.tr hx)
      have HT2 := hid (HT9.out.ext hx)
      have HU2 := hid (HU9.out.ext hx)
      have hz2 : w.heap.size + 2 ≤ W.heap.size := by have := hx.size; omega
      clear hf hi hg hsz0 hdf t118 hx HX9 HT9 HU9 hz9 hsb hsw
      subst hT hD
      simp only [slots, Nat.reduceAdd, f118, f0, f2, f3, f4, f13, f14]
      cases e
      rotate_left
      · go_wp2_with fail
        go_ret
        exact ⟨rfl, HX2.out⟩
      have hE := h118 rfl
      simp only [Bool.or_eq_false_iff] at hE
      obtain ⟨e0, e1⟩ := hE
      have hsn : ¬ scope = 0 := by have := HM0.out; rw [e0] at this; simpa using this.symm
      have hs9 : 1 ≤ scope := by omega
      have hPa : RightP ds n (scope - 1) self a := pB_true (by have := HM1.out; rw [e1] at this; simpa using this.symm)
      have HPa := hid hPa
      clear hPa HM0 HM1 e0 e1 h118 hsn
      have p0 : W.cell? ⟨w.heap.size, 0, none⟩ = some (.int .i64 t.kind) := by simpa using HT2.out.pick 0 rfl
      have p1 : W.cell? ⟨w.heap.size, 1, none⟩ = some (.int .i64 t.num) := by simpa using HT2.out.pick 1 rfl
      have p2 : W.cell? ⟨w.heap.size, 2, none⟩ = some (.int .i64 t.at_) := by simpa using HT2.out.pick 2 rfl
      have p3 : W.cell? ⟨w.heap.size, 3, none⟩ = some (.slice A1 t.levels.length c1) := by simpa using HT2.out.pick 3 rfl
      have p4 : W.cell? ⟨w.heap.size, 4, none⟩ = some (.slice A2 t.kids.length c2) := by simpa using HT2.out.pick 4 rfl
      have q0 : W.cell? ⟨(w.heap.size + 1), 0, none⟩ = some (.int .i64 a.kind) := by simpa using HU2.out.pick 0 rfl
      have q1 : W.cell? ⟨(w.heap.size + 1), 1, none⟩ = some (.int .i64 a.num) := by simpa using HU2.out.pick 1 rfl
      have q2 : W.cell? ⟨(w.heap.size + 1), 2, none⟩ = some (.int .i64 a.at_) := by simpa using HU2.out.pick 2 rfl
      have q3 : W.cell? ⟨(w.heap.size + 1), 3, none⟩ = some (.slice A3 a.levels.length c3) := by simpa using HU2.out.pick 3 rfl
      have q4 : W.cell? ⟨(w.heap.size + 1), 4, none⟩ = some (.slice A4 a.kids.length c4) := by simpa using HU2.out.pick 4 rfl
      have hfit : FitsT (putPre [a]) 0 t := fits_right (fun k m b h1 h2 h3 h4 => ⟨fun n' hn' => by
        unfold putS at hn'
        split at hn'
        · split at hn'
          · cases hn'
          · cases hn'; unfold inI; simp; omega
        · cases hn'; unfold inI; omega, fun u hu => by
        simp only [List.mem_cons, List.not_mem_nil, or_false] at hu
        subst hu
        exact ⟨lift_fits h3 (by omega) HPa.out.1, Nat.le_trans (right_size HPa.out.1) (by decide)⟩⟩) HRP.out.1
      have HFit := hid hfit
      clear hfit
      go_wp2_with fail
      refine (put_any [a] t _ _ _ (HKd.out.ext (HX2.out.al _)) (Nat.le_trans (right_size HRP.out.1) (by decide)) HFit.out (mono_term _ _ _ _ (HX2.out.al _) HR.out) (sl_one (by decide) (mono_term _ _ _ _ (HX2.out.al _) HRa.out) (cells5o (by simp [go_sem]) (by simp [go_sem]) (by simp [go_sem]) (by simp [go_sem]) (by simp [go_sem])))).mono ?_
      rintro e w3 ⟨hx3, cs3, rfl, hR3⟩
      obtain ⟨L, hL⟩ : ∃ L, L = walkT (putS [a]) 0 t := ⟨_, rfl⟩
      rw [← hL] at hR3
      have HR3 := hid (monoC_term _ _ _ _ (frm_sub _ _) hR3)
      have HPut := hid (show termRight L = true → RightP ds n (scope - 1) self L by rw [hL]; exact put_right hs9 hs1 HRP.out HPa.out)
      obtain ⟨_, _, rfl, -, ⟨A5, c5, rfl, -⟩, ⟨A6, c6, rfl, -⟩⟩ := rterm_open hR3
      have HX3 := hid (HX2.out.tr (((Ext.rf _).al _).tr hx3))
      clear p0 p1 p2 p3 p4 q0 q1 q2 q3 q4 hR3 hL hx3 HX2 HT2 HU2
      go_wp2_with fail
      have hX4 : Ext w (w3.alloc (.cells #[.int .i64 L.kind, .int .i64 L.num, .int .i64 L.at_, .slice A5 L.levels.length c5, .slice A6 L.kids.length c6] 27)) := HX3.out.al _
      have HX4 := hid hX4
      clear hX4
      refine (srcRight_any ds n (scope - 1) self _ L _ _ (HKd.out.ext HX4.out) (Hd.out.ext mono_decl HX4.out) (mono_term _ _ _ _ ((Ext.rf _).al _) HR3.out)).mono ?_
      rintro e w4 ⟨hx4, ⟨hP, rfl⟩ | ⟨hP, rfl⟩⟩
      · go_wp2_with fail
        go_ret
        exact ⟨rfl, HX4.out.tr hx4⟩
      have hno : termRight L = false := by
        cases h : termRight L with
        | false => rfl
        | true => exact absurd (HPut.out h) hP
      have r0 : w4.cell? ⟨w3.heap.size, 0, none⟩ = some (.int .i64 L.kind) := hx4.cell (by simp [go_sem])
      have r1 : w4.cell? ⟨w3.heap.size, 1, none⟩ = some (.int .i64 L.num) := hx4.cell (by simp [go_sem])
      have r2 : w4.cell? ⟨w3.heap.size, 2, none⟩ = some (.int .i64 L.at_) := hx4.cell (by simp [go_sem])
      have r3 : w4.cell? ⟨w3.heap.size, 3, none⟩ = some (.slice A5 L.levels.length c5) := hx4.cell (by simp [go_sem])
      have r4 : w4.cell? ⟨w3.heap.size, 4, none⟩ = some (.slice A6 L.kids.length c6) := hx4.cell (by simp [go_sem])
      go_wp2_with fail
      refine (right_any L _ _ (HKd.out.ext (HX4.out.tr hx4)) (mono_term _ _ _ _ (((Ext.rf _).al _).tr hx4) HR3.out)).mono ?_
      rintro e w5 ⟨rfl, hx5⟩
      rw [hno]
      go_wp2_with fail
      go_ret
      exact ⟨rfl, HX4.out.tr (hx4.tr hx5)⟩
end Go.Proofs.YtjaklnabidbmiaaDoor

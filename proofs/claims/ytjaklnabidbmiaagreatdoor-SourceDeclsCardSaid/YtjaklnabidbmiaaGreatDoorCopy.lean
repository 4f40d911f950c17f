/- Walks: spandrelkit.Copy..: what they give reads as what came in, all of it new. Printed by gen_copy.py. -/
import Derived.Test.YtjaklnabidbmiaaGreatDoorLent2
import Derived.Deep.DeepAppendWide
namespace Go.Proofs.YtjaklnabidbmiaaGreatDoor
open Go.RowKit
set_option linter.unusedSimpArgs false
set_option linter.unusedVariables false
/-- A row's cells, one behind the other. -/
theorem row_cells {α : Type} {R : World → α → List Value → Prop} {sz : Nat} {w : World} {b : Nat} (hone : ∀ y cs, R w y cs → Ones sz cs) : ∀ (ys : List α) (o : Nat), (∀ i x, ys[i]? = some x → ∃ cs, R w x cs ∧ cellsAt w b (o + i * sz) cs) →
    ∃ news : List Value, news.length = ys.length * sz ∧ (∀ j u, news[j]? = some u → w.cell? ⟨b, o + j, none⟩ = some u) ∧ (∀ u ∈ news, u.oneCell' = true) ∧ ∀ i x, ys[i]? = some x → ∃ cs, R w x cs ∧ cs.length = sz ∧ ∀ j u, cs[j]? = some u → news[i * sz + j]? = some u
  | [], o, _ => ⟨[], by simp, fun j u h => (by simp at h), fun u h => (by cases h), fun i x h => (by simp at h)⟩
  | y :: ys, o, h => by
    obtain ⟨cs0, h0, h1⟩ := h 0 y rfl
    obtain ⟨hl, ho⟩ := hone _ _ h0
    obtain ⟨news, n1, n2, n3, n4⟩ := row_cells hone ys (o + sz) (fun i x hx => by
      obtain ⟨cs, k1, k2⟩ := h (i + 1) x (by simpa using hx)
      refine ⟨cs, k1, ?_⟩
      rwa [show o + sz + i * sz = o + (i + 1) * sz by rw [Nat.add_mul]; omega])
    refine ⟨cs0 ++ news, by simp [n1, hl, Nat.add_mul]; omega, fun j u hu => ?_, fun u hu => ?_, fun i x hx => ?_⟩
    · by_cases hj : j < sz
      · rw [List.getElem?_append_left (by omega)] at hu
        have := h1 j u hu
        simpa using this
      · rw [List.getElem?_append_right (by omega), hl] at hu
        have := n2 _ u hu
        rwa [show o + sz + (j - sz) = o + j by omega] at this
    · rcases List.mem_append.1 hu with h | h
      · exact ho u h
      · exact n3 u h
    · cases i with
      | zero =>
        simp at hx
        subst hx
        refine ⟨cs0, h0, hl, fun j u hu => ?_⟩
        rw [Nat.zero_mul, Nat.zero_add, List.getElem?_append_left (List.getElem?_eq_some_iff.1 hu).1]
        exact hu
      | succ i =>
        obtain ⟨cs, k1, k2, k3⟩ := n4 i x (by simpa using hx)
        refine ⟨cs, k1, k2, fun j u hu => ?_⟩
        rw [Nat.add_mul, Nat.one_mul, List.getElem?_append_right (by omega), hl, show i * sz + sz + j - sz = i * sz + j by omega]
        exact k3 j u hu
section
variable {P : Program} {ops : Array Oper} {rest : List Oper} {o : Oper} {a : Act} {Q : Exit → Act → World → Prop} {w : World}
/-- A whole row behind a row of the call's own. -/
theorem wpList_append_all {α : Type} {R : World → α → List Value → Prop} {sz bytes : Nat} (hone : ∀ y cs, R w y cs → Ones sz cs) (hgd : o.guard = none) (s x : Operand) (t : TypeId) (ho : o.op = .call { callee := .builtin .append, args := #[s, x], argTypes := #[t, t] })
    (base : Nat) (e : TypeId) (i : TypeInfo) (z : Value) (ht : P.underlying t = some (.slice e)) (hi : P.info? e = some i) (hz : i.zero = some z) (hsize : i.size = sz) (hby : i.bytes = bytes) (hzs : z.cells.size = sz) (hsz : 0 < sz) (hsb : 1 ≤ bytes)
    (v : Value) (n : Nat) (olds : List Value) (hs : a.eval s = v) (hown : w.ownsRow base e sz v n olds) (ys : List α) (A : Option Addr) (c : Nat) (hx : a.eval x = .slice A ys.length c) (hr : Row R sz bytes w A ys) (hn : (n + ys.length) * bytes ≤ 140737488355328) (hb4 : bytes ≤ 4096) (hbase : base ≤ w.heap.size)
    (h : ∀ v' w' news, w'.ownsRow base e sz v' (n + ys.length) (olds ++ news) → (∀ i x, ys[i]? = some x → ∃ cs, R w x cs ∧ cs.length = sz ∧ ∀ j u, cs[j]? = some u → news[i * sz + j]? = some u) → w.grownBy w' v.ownBlock → wpList P ops Q rest (a.put o.dst v') w') : wpList P ops Q (o :: rest) a w := by
  have hle : n + ys.length ≤ 140737488355328 := Nat.le_trans (Nat.le_mul_of_pos_right _ hsb) hn
  by_cases hne : ys = []
  · subst hne
    refine wpList_plain hgd fun K hK => ?_
    have hrun : (Builtin.append_ #[t, t] o.type #[v, .slice A 0 c]).run P w = .ok v w := by
      rcases hown.2 with ⟨rfl, _⟩ | ⟨g, cap, cur, rfl, _, hg, hc, _⟩
      · cases A <;> simp [Builtin.append_, run_underlying ht, sizeOf, typeInfo, hi, Builtin.lenOf, Builtin.firstCells, loadCells, loadCellsFrom, storeCells]
      · cases A <;> simp [Builtin.append_, run_underlying ht, sizeOf, typeInfo, hi, Builtin.lenOf, Builtin.firstCells, loadCells, loadCellsFrom, storeCells, hc]
    unfold Oper.wp execOp
    simp only [ho, resolve, invoke, builtin, Sem.run_bind, Sem.run_pure, Result.andThen_ok, List.map_toArray, List.map_cons, List.map_nil, hs, hx, List.length_nil, hrun]
    exact hK _ _ (h v w [] (by simpa using hown) (fun i x h => by simp at h) (World.grownBy.refl _ _))
  · obtain ⟨b, off, rfl, hel⟩ := hr.2 hne
    obtain ⟨news, n1, n2, n3, n4⟩ := row_cells hone ys off hel
    refine wpList_append_own_wide w hgd s x t ho base e i z sz bytes ht hi hz hsize hby hzs hsz v n olds hs hown ⟨b, off, none⟩ ys.length c news hx n1 (fun j u hu => by rw [Addr.add_lit]; exact n2 j u hu) n3 (by unfold maxLen; omega) ?_ hbase (fun v' w' h1 h2 _ => h v' w' news h1 n4 h2)
    rw [Nat.add_mul, Nat.add_mul]
    have h4' : (n + ys.length) / 4 * bytes * 4 ≤ (n + ys.length) * bytes := by
      rw [Nat.mul_right_comm]
      exact Nat.mul_le_mul_right _ (Nat.div_mul_le_self _ _)
    have h192 : 192 * bytes ≤ 786432 := by omega
    omega
end
theorem part_ones {w : World} (y : Part) (cs : List Value) (h : RPart w y cs) : Ones 2 cs := by
  obtain ⟨rfl, _⟩ := h
  exact ⟨rfl, fun v hv => by simp only [List.mem_cons, List.not_mem_nil, or_false] at hv; rcases hv with rfl | rfl <;> rfl⟩
set_option maxRecDepth 100000 in
set_option maxHeartbeats 2000000 in
theorem copyParts_any (xs : List Part) (v : Value) (w : World) (hs : Sl RPart 2 16 w xs v) : Calls Tryz.prog 69 #[v] w (GivesS (Sl RPart 2 16) xs w) := by
  obtain ⟨A, c, rfl, hc, hr⟩ := hs
  have hb := hid hr.1
  obtain ⟨i0, hi, hz0, hz1, hz2⟩ := info_parts info_part
  have hi' := hid hi
  have hz0' := hid hz0
  have hz1' := hid hz1
  have hz2' := hid hz2
  clear hi hz0 hz1 hz2
  go_enter Tryz.func69, Tryz.ntmps69
  go_wp2_with (at_builtin; refine wpList_append_all (R := RPart) (bytes := 16) part_ones (by rfl) _ _ 36 (by rfl) w.heap.size 104 i0 _ Tryz.underlying36 hi'.out hz0'.out hz1'.out hz2'.out (by rfl) (by omega) (by omega) (.slice none 0 0) 0 [] (by rfl) (World.ownsRow_nil _ _ _ _) xs A c (by rfl) hr (by rw [Nat.zero_add]; exact Nat.le_trans hb.out (by decide)) (by omega) (Nat.le_refl _) ?_; intro v2 w2 news hown hnews hg)
  rw [Nat.zero_add, List.nil_append] at hown
  have hx : Ext w w2 := grown_ext (Ext.rf w) hg (fun k h => by cases h)
  go_ret
  have hO : OwnS RPart 2 104 w.heap.size w.heap.size w2 xs v2 := ⟨news, hown, fun i x hx => hnews i x hx⟩
  exact ⟨hx, _, rfl, hO.sl monoC_part hb.out (Nat.le_refl _)⟩
theorem own_name {α : Type} {R : World → α → List Value → Prop} {sz : Nat} {ty : TypeId} {n0 base : Nat} {w : World} {xs : List α} {v : Value} (h : OwnS R sz ty n0 base w xs v) : ∃ V : Value, V = v := ⟨_, rfl⟩
theorem take_snoc {α : Type} {xs : List α} {k : Nat} (h : k < xs.length) : xs.take k ++ [xs[k]] = xs.take (k + 1) := by simp
set_option maxRecDepth 100000 in
set_option maxHeartbeats 1000000 in
theorem copyLevel_any (x : Level) (cs : List Value) (w : World) (h : RLevel w x cs) : Calls Tryz.prog 35 #[.agg cs.toArray] w (Gives RLevel x w) := by
  obtain ⟨v, rfl, hs⟩ := h
  obtain ⟨A, c, rfl, _⟩ := id hs
  go_enter Tryz.func35, Tryz.ntmps35
  go_wp2_with fail
  refine (copyParts_any x.parts _ _ (hs.ext mono_part (((Ext.rf _).al _).al _))).mono ?_
  rintro e w1 ⟨hx, v', rfl, hL⟩
  obtain ⟨b, c', rfl, hrest⟩ := id hL
  have q0 : w1.cell? ⟨w.heap.size, 0, none⟩ = some (.slice A x.parts.length c) := hx.cell (by simp [go_sem])
  have q1 : w1.cell? ⟨w.heap.size + 1, 0, none⟩ = some (.slice none 0 0) := hx.cell (by simp [go_sem])
  have z0 : w1.frozen? ⟨w.heap.size, 0, none⟩ = false := (Below.frozen hx (by simp <;> omega)).trans (by simp [go_sem])
  have z1 : w1.frozen? ⟨w.heap.size + 1, 0, none⟩ = false := (Below.frozen hx (by simp <;> omega)).trans (by simp [go_sem])
  have HL := hid hL
  have Hx := hid hx
  clear hL hrest hx
  go_wp2_with fail
  refine bodyPost_ret (v := .agg #[.slice b x.parts.length c']) (by simp [results, Tryz.results35, go_sem, q0, q1, z0, z1]) rfl ?_
  refine ⟨(((((Ext.rf _).al _).al _).tr Hx.out).st (by simp) _).st (by simp) _, [_], rfl, _, rfl, HL.out.sub monoC_part ?_⟩
  exact ((frm_set (by simp <;> omega)).tr (frm_set (by simp <;> omega))).tr (frm_le (by simp <;> omega) _)
set_option maxRecDepth 100000 in
set_option maxHeartbeats 2000000 in
theorem copyLevels_any (xs : List Level) (v : Value) (w : World) (hs : Sl RLevel 1 24 w xs v) : Calls Tryz.prog 68 #[v] w (GivesS (Sl RLevel 1 24) xs w) := by
  obtain ⟨A, c, rfl, hc, hr⟩ := hs
  have hl := hr.len_le
  have hb := hid hr.1
  obtain ⟨i0, hi, hz0, hz1, hz2⟩ := info_parts info_level
  have hi' := hid hi
  have hz0' := hid hz0
  have hz1' := hid hz1
  have hz2' := hid hz2
  clear hi hz0 hz1 hz2
  go_enter Tryz.func68, Tryz.ntmps68
  go_wp2_with fail
  go_loopw [3, 4] (fun o i wr => ∃ k : Nat, k ≤ xs.length ∧ i = .int .i64 k ∧ Ext w wr ∧ OwnS RLevel 1 38 w.heap.size w.heap.size wr (xs.take k) o) (fun _ i _ => xs.length - (intOf i).toNat)
  case atStart => exact ⟨0, by omega, rfl, Ext.rf _, OwnS.nil⟩
  case round =>
    obtain ⟨k, hk, rfl, hx, hown⟩ := hrel
    obtain ⟨wr, rfl⟩ := ext_name2 hx
    obtain ⟨vo, ho⟩ := own_name hown
    rw [← ho] at hown ⊢
    clear ho
    have Hown' := hid hown
    clear hown
    by_cases hlt : k < xs.length
    · obtain ⟨b, o, cs, rfl, hR, hcs0⟩ := hr.at_ hlt
      have HR := hid (mono_level _ _ _ _ hx hR)
      obtain ⟨vp, rfl, ⟨B1, e1, rfl, _⟩⟩ := hR
      have hcs := hcs0.ext hx
      have h0 := hcs.pick 0 rfl
      rw [Nat.add_zero] at h0
      rw [Nat.mul_one] at h0
      have hj2 : (k : Int) < (xs.length : Int) := by omega
      clear hcs hcs0 
      go_wp2_with fail
      refine (copyLevel_any xs[k] _ _ HR.out).mono ?_
      rintro e w2 ⟨hx2, cs', rfl, hL⟩
      have HL := hid hL
      obtain ⟨v1, rfl, ⟨g1, d1, rfl, _⟩⟩ := id hL
      clear hL h0
      have hkb : ((xs.take k).length + 1) * 24 ≤ LIM := Nat.le_trans (Nat.mul_le_mul_right _ (by rw [List.length_take]; omega)) hb.out
      have Hkb := hid hkb
      clear hkb
      go_wp2_with (at_builtin; refine wpList_append_one (bytes := 24) monoC_level (by rfl) _ _ 24 (by rfl) 38 i0 _ Tryz.underlying24 hi'.out hz0'.out hz1'.out hz2'.out (by rfl) (by omega) (by rfl) (by exact Hown'.out.ext monoC_level ((hx2.al _).al _)) (w2.heap.size + 1) 1 xs[k] [.slice g1 xs[k].parts.length d1] wr.heap.size (by rfl) (by exact cells1 (by simp [go_sem])) rfl (by intro u hu; simp only [List.mem_cons, List.not_mem_nil, or_false] at hu; subst hu; rfl) (by exact monoC_level _ _ _ _ (frm_ext _ (((Ext.rf _).al _).al _)) HL.out) (by exact hx.size) (by exact fun g hg => (Hown'.out.lt g hg).2) (by exact Hkb.out) (by omega) (by have := ((hx.tr hx2).al (.cells #[] 0)).size; have h9 := (hx.tr hx2).size; simp; omega) ?_; intro v3 w3 hown3 hg3)
      rw [take_snoc hlt] at hown3
      have hx3 : Ext w w3 := grown_ext (((hx.tr hx2).al _).al _) hg3 (fun g hg => (Hown'.out.lt g hg).1)
      have Hown3 := hid hown3
      clear hown3 hg3
      go_wp2_with fail
      exact ⟨⟨k + 1, by omega, by go_num, hx3, Hown3.out⟩, by simp only [intOf]; omega⟩
    · obtain rfl : k = xs.length := by omega
      rw [List.take_length] at Hown'
      go_wp2_with fail
      go_ret
      exact ⟨hx, _, rfl, Hown'.out.sl monoC_level hb.out (Nat.le_refl _)⟩
def CopyTermP (t : Term) : Prop := ∀ (cs : List Value) (w : World), RTerm w t cs → Calls Tryz.prog 33 #[.agg cs.toArray] w (Gives RTerm t w)
set_option maxRecDepth 100000 in
set_option maxHeartbeats 2000000 in
theorem copyTerms_of (xs : List Term) (v : Value) (w : World) (ih : ∀ t ∈ xs, CopyTermP t) (hs : Sl RTerm 5 72 w xs v) : Calls Tryz.prog 34 #[v] w (GivesS (Sl RTerm 5 72) xs w) := by
  obtain ⟨A, c, rfl, hc, hr⟩ := hs
  have hl := hr.len_le
  have hb := hid hr.1
  have IH := hid ih
  clear ih
  obtain ⟨i0, hi, hz0, hz1, hz2⟩ := info_parts info_term
  have hi' := hid hi
  have hz0' := hid hz0
  have hz1' := hid hz1
  have hz2' := hid hz2
  clear hi hz0 hz1 hz2
  go_enter Tryz.func34, Tryz.ntmps34
  go_wp2_with fail
  go_loopw [3, 4] (fun o i wr => ∃ k : Nat, k ≤ xs.length ∧ i = .int .i64 k ∧ Ext w wr ∧ OwnS RTerm 5 27 w.heap.size w.heap.size wr (xs.take k) o) (fun _ i _ => xs.length - (intOf i).toNat)
  case atStart => exact ⟨0, by omega, rfl, Ext.rf _, OwnS.nil⟩
  case round =>
    obtain ⟨k, hk, rfl, hx, hown⟩ := hrel
    obtain ⟨wr, rfl⟩ := ext_name2 hx
    obtain ⟨vo, ho⟩ := own_name hown
    rw [← ho] at hown ⊢
    clear ho
    have Hown' := hid hown
    clear hown
    by_cases hlt : k < xs.length
    · obtain ⟨b, o, cs, rfl, hR, hcs0⟩ := hr.at_ hlt
      have HR := hid (mono_term _ _ _ _ hx hR)
      obtain ⟨vl, vk, rfl, _, ⟨B1, e1, rfl, _⟩, ⟨B2, e2, rfl, _⟩⟩ := rterm_open hR
      have hcs := hcs0.ext hx
      have h0 := hcs.pick 0 rfl
      have h1 := hcs.pick 1 rfl
      have h2 := hcs.pick 2 rfl
      have h3 := hcs.pick 3 rfl
      have h4 := hcs.pick 4 rfl
      rw [Nat.add_zero] at h0
      have hj2 : (k : Int) < (xs.length : Int) := by omega
      clear hcs hcs0 hR
      go_wp2_with fail
      refine (IH.out xs[k] (List.getElem_mem hlt) _ _ HR.out).mono ?_
      rintro e w2 ⟨hx2, cs', rfl, hL⟩
      have HL := hid hL
      obtain ⟨vl1, vk1, rfl, _, ⟨g1, d1, rfl, _⟩, ⟨g2, d2, rfl, _⟩⟩ := rterm_open hL
      clear hL h0 h1 h2 h3 h4
      have hkb : ((xs.take k).length + 1) * 72 ≤ LIM := Nat.le_trans (Nat.mul_le_mul_right _ (by rw [List.length_take]; omega)) hb.out
      have Hkb := hid hkb
      clear hkb
      go_wp2_with (at_builtin; refine wpList_append_one (bytes := 72) monoC_term (by rfl) _ _ 25 (by rfl) 27 i0 _ Tryz.underlying25 hi'.out hz0'.out hz1'.out hz2'.out (by rfl) (by omega) (by rfl) (by exact Hown'.out.ext monoC_term ((hx2.al _).al _)) (w2.heap.size + 1) 1 xs[k] [.int .i64 xs[k].kind, .int .i64 xs[k].num, .int .i64 xs[k].at_, .slice g1 xs[k].levels.length d1, .slice g2 xs[k].kids.length d2] wr.heap.size (by rfl) (by exact cells5 (by simp [go_sem]) (by simp [go_sem]) (by simp [go_sem]) (by simp [go_sem]) (by simp [go_sem])) rfl (by intro u hu; simp only [List.mem_cons, List.not_mem_nil, or_false] at hu; rcases hu with rfl | rfl | rfl | rfl | rfl <;> rfl) (by exact monoC_term _ _ _ _ (frm_ext _ (((Ext.rf _).al _).al _)) HL.out) (by exact hx.size) (by exact fun g hg => (Hown'.out.lt g hg).2) (by exact Hkb.out) (by omega) (by have := ((hx.tr hx2).al (.cells #[] 0)).size; have h9 := (hx.tr hx2).size; simp; omega) ?_; intro v3 w3 hown3 hg3)
      rw [take_snoc hlt] at hown3
      have hx3 : Ext w w3 := grown_ext (((hx.tr hx2).al _).al _) hg3 (fun g hg => (Hown'.out.lt g hg).1)
      have Hown3 := hid hown3
      clear hown3 hg3
      go_wp2_with fail
      exact ⟨⟨k + 1, by omega, by go_num, hx3, Hown3.out⟩, by simp only [intOf]; omega⟩
    · obtain rfl : k = xs.length := by omega
      rw [List.take_length] at Hown'
      go_wp2_with fail
      go_ret
      exact ⟨hx, _, rfl, Hown'.out.sl monoC_term hb.out (Nat.le_refl _)⟩
set_option maxRecDepth 100000 in
set_option maxHeartbeats 1000000 in
theorem copyTerm_step (k n a : Int) (ls : List Level) (ks : List Term) (ih : ∀ t ∈ ks, CopyTermP t) : CopyTermP (.mk k n a ls ks) := by
  intro cs w h
  obtain ⟨vl, vk, rfl, hin, hl, hk⟩ := rterm_iff.1 h
  have IH := hid ih
  have Hin := hid hin
  clear ih h hin
  obtain ⟨A1, c1, rfl, _⟩ := id hl
  obtain ⟨A2, c2, rfl, _⟩ := id hk
  go_enter Tryz.func33, Tryz.ntmps33
  go_wp2_with fail
  refine (copyLevels_any ls _ _ (hl.ext mono_level (((Ext.rf _).al _).al _))).mono ?_
  rintro e w1 ⟨hx, v1, rfl, hL⟩
  obtain ⟨b1, d1, rfl, _⟩ := id hL
  have q : ∀ j v, (#[.int .i64 k, .int .i64 n, .int .i64 a, .slice A1 ls.length c1, .slice A2 ks.length c2] : Array Value)[j]? = some v → w1.cell? ⟨w.heap.size, j, none⟩ = some v := fun j v hv => hx.cell (by simp [go_sem]; simpa using hv)
  have q0 := q 0 _ rfl
  have q1 := q 1 _ rfl
  have q2 := q 2 _ rfl
  have q3 := q 3 _ rfl
  have q4 := q 4 _ rfl
  clear q
  have z : ∀ j, w1.frozen? ⟨w.heap.size, j, none⟩ = false := fun j => (Below.frozen hx (by simp <;> omega)).trans (by simp [go_sem])
  have z3 := z 3
  have r0 : w1.cell? ⟨w.heap.size + 1, 0, none⟩ = some (.int .i64 0) := hx.cell (by simp [go_sem])
  have r1 : w1.cell? ⟨w.heap.size + 1, 1, none⟩ = some (.int .i64 0) := hx.cell (by simp [go_sem])
  have r2 : w1.cell? ⟨w.heap.size + 1, 2, none⟩ = some (.int .i64 0) := hx.cell (by simp [go_sem])
  have r3 : w1.cell? ⟨w.heap.size + 1, 3, none⟩ = some (.slice none 0 0) := hx.cell (by simp [go_sem])
  have r4 : w1.cell? ⟨w.heap.size + 1, 4, none⟩ = some (.slice none 0 0) := hx.cell (by simp [go_sem])
  have y : ∀ j, w1.frozen? ⟨w.heap.size + 1, j, none⟩ = false := fun j => (Below.frozen hx (by simp <;> omega)).trans (by simp [go_sem])
  have Y := hid y
  have Z := hid z
  have HL := hid hL
  have hxw : Ext w w1 := (((Ext.rf w).al _).al _).tr hx
  have hsz1 : w.heap.size + 1 < w1.heap.size := by have := hx.size; simp at this; omega
  have hf1 := hid (show Sub (frm (w.heap.size + 1 + 1) w1) (frm (w.heap.size + 1 + 1) w1) from Sub.rf _)
  have Hxw := hid hxw
  clear z y hL hx hxw
  go_wp2_with fail
  have hS2 : Ext w (w1.setCell ⟨w.heap.size, 3, none⟩ (.slice b1 ls.length d1)) := Hxw.out.st (by simp) _
  refine (copyTerms_of ks _ _ IH.out (hk.ext mono_term hS2)).mono ?_
  rintro e w2 ⟨hx2, v2, rfl, hL2⟩
  obtain ⟨b2, d2, rfl, _⟩ := id hL2
  have hcell : ∀ p v, (w1.setCell ⟨w.heap.size, 3, none⟩ (.slice b1 ls.length d1)).cell? p = some v → w2.cell? p = some v := fun p v hv => hx2.cell hv
  have p0 : w2.cell? ⟨w.heap.size, 0, none⟩ = some (.int .i64 k) := hcell _ _ (by simp [go_sem, q0])
  have p1 : w2.cell? ⟨w.heap.size, 1, none⟩ = some (.int .i64 n) := hcell _ _ (by simp [go_sem, q1])
  have p2 : w2.cell? ⟨w.heap.size, 2, none⟩ = some (.int .i64 a) := hcell _ _ (by simp [go_sem, q2])
  have p3 : w2.cell? ⟨w.heap.size, 3, none⟩ = some (.slice b1 ls.length d1) := hcell _ _ (by simp [go_sem, q3])
  have p4 : w2.cell? ⟨w.heap.size, 4, none⟩ = some (.slice A2 ks.length c2) := hcell _ _ (by simp [go_sem, q4])
  have s0 : w2.cell? ⟨w.heap.size + 1, 0, none⟩ = some (.int .i64 0) := hcell _ _ (by simp [go_sem, r0])
  have s1 : w2.cell? ⟨w.heap.size + 1, 1, none⟩ = some (.int .i64 0) := hcell _ _ (by simp [go_sem, r1])
  have s2 : w2.cell? ⟨w.heap.size + 1, 2, none⟩ = some (.int .i64 0) := hcell _ _ (by simp [go_sem, r2])
  have s3 : w2.cell? ⟨w.heap.size + 1, 3, none⟩ = some (.slice none 0 0) := hcell _ _ (by simp [go_sem, r3])
  have s4 : w2.cell? ⟨w.heap.size + 1, 4, none⟩ = some (.slice none 0 0) := hcell _ _ (by simp [go_sem, r4])
  have x4 : w2.frozen? ⟨w.heap.size, 4, none⟩ = false := (Below.frozen hx2 (by simp; omega)).trans (by simp [go_sem, Z.out])
  have yy : ∀ j, w2.frozen? ⟨w.heap.size + 1, j, none⟩ = false := fun j => (Below.frozen hx2 (by simp; omega)).trans (by simp [go_sem, Y.out])
  have y0 := yy 0
  have y1 := yy 1
  have y2 := yy 2
  have y3 := yy 3
  have y4 := yy 4
  have hb2 : w.heap.size + 1 < w2.heap.size := by have := hx2.size; simp at this; omega
  have HL2 := hid hL2
  have Hx2 := hid hx2
  clear hcell yy hL2 hx2 q0 q1 q2 q3 q4 r0 r1 r2 r3 r4 z3
  go_wp2_with fail
  refine bodyPost_ret (v := .agg #[.int .i64 k, .int .i64 n, .int .i64 a, .slice b1 ls.length d1, .slice b2 ks.length d2]) (by simp [results, Tryz.results33, go_sem, p0, p1, p2, p3, p4, s0, s1, s2, s3, s4, x4, y0, y1, y2, y3, y4]) rfl ?_
  refine ⟨((((((hS2.tr Hx2.out).st (by simp) _).st (by simp) _).st (by simp) _).st (by simp) _).st (by simp) _).st (by simp) _, [_, _, _, _, _], rfl, rterm_iff.2 ⟨_, _, rfl, Hin.out, HL.out.sub monoC_level ?_, HL2.out.sub monoC_term ?_⟩⟩
  · exact ((((((((frm_set (by simp <;> omega)).tr (frm_ext _ Hx2.out)).tr (frm_set (by simp <;> omega))).tr (frm_set (by simp <;> omega))).tr (frm_set (by simp <;> omega))).tr (frm_set (by simp <;> omega))).tr (frm_set (by simp <;> omega))).tr (frm_set (by simp <;> omega))).tr (frm_le (by simp <;> omega) _)
  · exact (((((((frm_set (by simp <;> omega))).tr (frm_set (by simp <;> omega))).tr (frm_set (by simp <;> omega))).tr (frm_set (by simp <;> omega))).tr (frm_set (by simp <;> omega))).tr (frm_set (by simp <;> omega))).tr (frm_le (by simp <;> omega) _)
theorem copyTerm_any (t : Term) : CopyTermP t := Term.ind (fun k n a ls ks ih => copyTerm_step k n a ls ks ih) t
theorem copyTerms_any (xs : List Term) (v : Value) (w : World) (hs : SlTerm w xs v) : Calls Tryz.prog 34 #[v] w (GivesS SlTerm xs w) := copyTerms_of xs v w (fun t _ => copyTerm_any t) hs
set_option maxRecDepth 100000 in
set_option maxHeartbeats 1000000 in
theorem copyMember_any (x : Member) (cs : List Value) (w : World) (h : RMember w x cs) : Calls Tryz.prog 70 #[.agg cs.toArray] w (Gives RMember x w) := by
  obtain ⟨v, rfl, hs⟩ := h
  obtain ⟨A, c, rfl, _⟩ := id hs
  go_enter Tryz.func70, Tryz.ntmps70
  go_wp2_with fail
  refine (copyTerms_any x.index _ _ (hs.ext mono_term (((Ext.rf _).al _).al _))).mono ?_
  rintro e w1 ⟨hx, v', rfl, hL⟩
  obtain ⟨b, c', rfl, hrest⟩ := id hL
  have q0 : w1.cell? ⟨w.heap.size, 0, none⟩ = some (.slice A x.index.length c) := hx.cell (by simp [go_sem])
  have q1 : w1.cell? ⟨w.heap.size + 1, 0, none⟩ = some (.slice none 0 0) := hx.cell (by simp [go_sem])
  have z0 : w1.frozen? ⟨w.heap.size, 0, none⟩ = false := (Below.frozen hx (by simp <;> omega)).trans (by simp [go_sem])
  have z1 : w1.frozen? ⟨w.heap.size + 1, 0, none⟩ = false := (Below.frozen hx (by simp <;> omega)).trans (by simp [go_sem])
  have HL := hid hL
  have Hx := hid hx
  clear hL hrest hx
  go_wp2_with fail
  refine bodyPost_ret (v := .agg #[.slice b x.index.length c']) (by simp [results, Tryz.results70, go_sem, q0, q1, z0, z1]) rfl ?_
  refine ⟨(((((Ext.rf _).al _).al _).tr Hx.out).st (by simp) _).st (by simp) _, [_], rfl, _, rfl, HL.out.sub monoC_term ?_⟩
  exact ((frm_set (by simp <;> omega)).tr (frm_set (by simp <;> omega))).tr (frm_le (by simp <;> omega) _)
set_option maxRecDepth 100000 in
set_option maxHeartbeats 2000000 in
theorem copyMembers_any (xs : List Member) (v : Value) (w : World) (hs : Sl RMember 1 24 w xs v) : Calls Tryz.prog 36 #[v] w (GivesS (Sl RMember 1 24) xs w) := by
  obtain ⟨A, c, rfl, hc, hr⟩ := hs
  have hl := hr.len_le
  have hb := hid hr.1
  obtain ⟨i0, hi, hz0, hz1, hz2⟩ := info_parts info_member
  have hi' := hid hi
  have hz0' := hid hz0
  have hz1' := hid hz1
  have hz2' := hid hz2
  clear hi hz0 hz1 hz2
  go_enter Tryz.func36, Tryz.ntmps36
  go_wp2_with fail
  go_loopw [3, 4] (fun o i wr => ∃ k : Nat, k ≤ xs.length ∧ i = .int .i64 k ∧ Ext w wr ∧ OwnS RMember 1 71 w.heap.size w.heap.size wr (xs.take k) o) (fun _ i _ => xs.length - (intOf i).toNat)
  case atStart => exact ⟨0, by omega, rfl, Ext.rf _, OwnS.nil⟩
  case round =>
    obtain ⟨k, hk, rfl, hx, hown⟩ := hrel
    obtain ⟨wr, rfl⟩ := ext_name2 hx
    obtain ⟨vo, ho⟩ := own_name hown
    rw [← ho] at hown ⊢
    clear ho
    have Hown' := hid hown
    clear hown
    by_cases hlt : k < xs.length
    · obtain ⟨b, o, cs, rfl, hR, hcs0⟩ := hr.at_ hlt
      have HR := hid (mono_member _ _ _ _ hx hR)
      obtain ⟨vp, rfl, ⟨B1, e1, rfl, _⟩⟩ := hR
      have hcs := hcs0.ext hx
      have h0 := hcs.pick 0 rfl
      rw [Nat.add_zero] at h0
      rw [Nat.mul_one] at h0
      have hj2 : (k : Int) < (xs.length : Int) := by omega
      clear hcs hcs0 
      go_wp2_with fail
      refine (copyMember_any xs[k] _ _ HR.out).mono ?_
      rintro e w2 ⟨hx2, cs', rfl, hL⟩
      have HL := hid hL
      obtain ⟨v1, rfl, ⟨g1, d1, rfl, _⟩⟩ := id hL
      clear hL h0
      have hkb : ((xs.take k).length + 1) * 24 ≤ LIM := Nat.le_trans (Nat.mul_le_mul_right _ (by rw [List.length_take]; omega)) hb.out
      have Hkb := hid hkb
      clear hkb
      go_wp2_with (at_builtin; refine wpList_append_one (bytes := 24) monoC_member (by rfl) _ _ 39 (by rfl) 71 i0 _ Tryz.underlying39 hi'.out hz0'.out hz1'.out hz2'.out (by rfl) (by omega) (by rfl) (by exact Hown'.out.ext monoC_member ((hx2.al _).al _)) (w2.heap.size + 1) 1 xs[k] [.slice g1 xs[k].index.length d1] wr.heap.size (by rfl) (by exact cells1 (by simp [go_sem])) rfl (by intro u hu; simp only [List.mem_cons, List.not_mem_nil, or_false] at hu; subst hu; rfl) (by exact monoC_member _ _ _ _ (frm_ext _ (((Ext.rf _).al _).al _)) HL.out) (by exact hx.size) (by exact fun g hg => (Hown'.out.lt g hg).2) (by exact Hkb.out) (by omega) (by have := ((hx.tr hx2).al (.cells #[] 0)).size; have h9 := (hx.tr hx2).size; simp; omega) ?_; intro v3 w3 hown3 hg3)
      rw [take_snoc hlt] at hown3
      have hx3 : Ext w w3 := grown_ext (((hx.tr hx2).al _).al _) hg3 (fun g hg => (Hown'.out.lt g hg).1)
      have Hown3 := hid hown3
      clear hown3 hg3
      go_wp2_with fail
      exact ⟨⟨k + 1, by omega, by go_num, hx3, Hown3.out⟩, by simp only [intOf]; omega⟩
    · obtain rfl : k = xs.length := by omega
      rw [List.take_length] at Hown'
      go_wp2_with fail
      go_ret
      exact ⟨hx, _, rfl, Hown'.out.sl monoC_member hb.out (Nat.le_refl _)⟩
set_option maxRecDepth 100000 in
set_option maxHeartbeats 1000000 in
theorem copyCtor_any (x : Ctor) (cs : List Value) (w : World) (h : RCtor w x cs) : Calls Tryz.prog 71 #[.agg cs.toArray] w (Gives RCtor x w) := by
  obtain ⟨ct, rfl, hin, ht⟩ := h
  have Hin := hid hin
  have Ht := hid ht
  obtain ⟨vl, vk, rfl, _, ⟨A1, c1, rfl, _⟩, ⟨A2, c2, rfl, _⟩⟩ := rterm_open ht
  clear ht hin
  go_enter Tryz.func71, Tryz.ntmps71
  go_wp2_with fail
  refine (copyTerm_any x.type _ _ (mono_term _ _ _ _ (((Ext.rf _).al _).al _) Ht.out)).mono ?_
  rintro e w1 ⟨hx, cs', rfl, hL⟩
  have HL := hid hL
  obtain ⟨vl1, vk1, rfl, _, ⟨b1, d1, rfl, _⟩, ⟨b2, d2, rfl, _⟩⟩ := rterm_open hL
  have z : ∀ j, w1.frozen? ⟨w.heap.size, j, none⟩ = false := fun j => (Below.frozen hx (by simp <;> omega)).trans (by simp [go_sem])
  have y : ∀ j, w1.frozen? ⟨w.heap.size + 1, j, none⟩ = false := fun j => (Below.frozen hx (by simp <;> omega)).trans (by simp [go_sem])
  have q0 : w1.cell? ⟨w.heap.size, 0, none⟩ = some (.int .i64 x.member) := hx.cell (by simp [go_sem])
  have r0 : w1.cell? ⟨w.heap.size + 1, 0, none⟩ = some (.int .i64 0) := hx.cell (by simp [go_sem])
  have z0 := z 0
  have y0 := y 0
  have q1 : w1.cell? ⟨w.heap.size, 1, none⟩ = some (.int .i64 x.type.kind) := hx.cell (by simp [go_sem])
  have r1 : w1.cell? ⟨w.heap.size + 1, 1, none⟩ = some (.int .i64 0) := hx.cell (by simp [go_sem])
  have z1 := z 1
  have y1 := y 1
  have q2 : w1.cell? ⟨w.heap.size, 2, none⟩ = some (.int .i64 x.type.num) := hx.cell (by simp [go_sem])
  have r2 : w1.cell? ⟨w.heap.size + 1, 2, none⟩ = some (.int .i64 0) := hx.cell (by simp [go_sem])
  have z2 := z 2
  have y2 := y 2
  have q3 : w1.cell? ⟨w.heap.size, 3, none⟩ = some (.int .i64 x.type.at_) := hx.cell (by simp [go_sem])
  have r3 : w1.cell? ⟨w.heap.size + 1, 3, none⟩ = some (.int .i64 0) := hx.cell (by simp [go_sem])
  have z3 := z 3
  have y3 := y 3
  have q4 : w1.cell? ⟨w.heap.size, 4, none⟩ = some (.slice A1 x.type.levels.length c1) := hx.cell (by simp [go_sem])
  have r4 : w1.cell? ⟨w.heap.size + 1, 4, none⟩ = some (.slice none 0 0) := hx.cell (by simp [go_sem])
  have z4 := z 4
  have y4 := y 4
  have q5 : w1.cell? ⟨w.heap.size, 5, none⟩ = some (.slice A2 x.type.kids.length c2) := hx.cell (by simp [go_sem])
  have r5 : w1.cell? ⟨w.heap.size + 1, 5, none⟩ = some (.slice none 0 0) := hx.cell (by simp [go_sem])
  have z5 := z 5
  have y5 := y 5
  have hsz1 : w.heap.size + 1 < w1.heap.size := by have := hx.size; simp at this; omega
  have Hxw := hid ((((Ext.rf w).al _).al _).tr hx)
  clear z y hL hx
  go_wp2_with fail
  refine bodyPost_ret (v := .agg #[.int .i64 x.member, .int .i64 x.type.kind, .int .i64 x.type.num, .int .i64 x.type.at_, .slice b1 x.type.levels.length d1, .slice b2 x.type.kids.length d2]) (by simp [results, Tryz.results71, go_sem, q0, r0, z0, y0, q1, r1, z1, y1, q2, r2, z2, y2, q3, r3, z3, y3, q4, r4, z4, y4, q5, r5, z5, y5]) rfl ?_
  refine ⟨((((((((((Hxw.out.st (by simp) _).st (by simp) _).st (by simp) _).st (by simp) _).st (by simp) _).st (by simp) _).st (by simp) _).st (by simp) _).st (by simp) _).st (by simp) _).st (by simp) _, [_, _, _, _, _, _], rfl, _, rfl, Hin.out, monoC_term _ _ _ _ ?_ HL.out⟩
  exact ((((((((((((frm_set (by simp <;> omega))).tr (frm_set (by simp <;> omega))).tr (frm_set (by simp <;> omega))).tr (frm_set (by simp <;> omega))).tr (frm_set (by simp <;> omega))).tr (frm_set (by simp <;> omega))).tr (frm_set (by simp <;> omega))).tr (frm_set (by simp <;> omega))).tr (frm_set (by simp <;> omega))).tr (frm_set (by simp <;> omega))).tr (frm_set (by simp <;> omega))).tr (frm_le (by simp <;> omega) _)
set_option maxRecDepth 100000 in
set_option maxHeartbeats 2000000 in
theorem copyCtors_any (xs : List Ctor) (v : Value) (w : World) (hs : Sl RCtor 6 80 w xs v) : Calls Tryz.prog 37 #[v] w (GivesS (Sl RCtor 6 80) xs w) := by
  obtain ⟨A, c, rfl, hc, hr⟩ := hs
  have hl := hr.len_le
  have hb := hid hr.1
  obtain ⟨i0, hi, hz0, hz1, hz2⟩ := info_parts info_ctor
  have hi' := hid hi
  have hz0' := hid hz0
  have hz1' := hid hz1
  have hz2' := hid hz2
  clear hi hz0 hz1 hz2
  go_enter Tryz.func37, Tryz.ntmps37
  go_wp2_with fail
  go_loopw [3, 4] (fun o i wr => ∃ k : Nat, k ≤ xs.length ∧ i = .int .i64 k ∧ Ext w wr ∧ OwnS RCtor 6 74 w.heap.size w.heap.size wr (xs.take k) o) (fun _ i _ => xs.length - (intOf i).toNat)
  case atStart => exact ⟨0, by omega, rfl, Ext.rf _, OwnS.nil⟩
  case round =>
    obtain ⟨k, hk, rfl, hx, hown⟩ := hrel
    obtain ⟨wr, rfl⟩ := ext_name2 hx
    obtain ⟨vo, ho⟩ := own_name hown
    rw [← ho] at hown ⊢
    clear ho
    have Hown' := hid hown
    clear hown
    by_cases hlt : k < xs.length
    · obtain ⟨b, o, cs, rfl, hR, hcs0⟩ := hr.at_ hlt
      have HR := hid (mono_ctor _ _ _ _ hx hR)
      obtain ⟨ct, rfl, _, hct⟩ := hR
      obtain ⟨vl, vk, rfl, _, ⟨B1, e1, rfl, _⟩, ⟨B2, e2, rfl, _⟩⟩ := rterm_open hct
      have hcs := hcs0.ext hx
      have h0 := hcs.pick 0 rfl
      have h1 := hcs.pick 1 rfl
      have h2 := hcs.pick 2 rfl
      have h3 := hcs.pick 3 rfl
      have h4 := hcs.pick 4 rfl
      have h5 := hcs.pick 5 rfl
      rw [Nat.add_zero] at h0
      have hj2 : (k : Int) < (xs.length : Int) := by omega
      clear hcs hcs0 hct
      go_wp2_with fail
      refine (copyCtor_any xs[k] _ _ HR.out).mono ?_
      rintro e w2 ⟨hx2, cs', rfl, hL⟩
      have HL := hid hL
      obtain ⟨ct, rfl, _, hct1⟩ := id hL
      obtain ⟨vl1, vk1, rfl, _, ⟨g1, d1, rfl, _⟩, ⟨g2, d2, rfl, _⟩⟩ := rterm_open hct1
      clear hct1
      clear hL h0 h1 h2 h3 h4 h5
      have hkb : ((xs.take k).length + 1) * 80 ≤ LIM := Nat.le_trans (Nat.mul_le_mul_right _ (by rw [List.length_take]; omega)) hb.out
      have Hkb := hid hkb
      clear hkb
      go_wp2_with (at_builtin; refine wpList_append_one (bytes := 80) monoC_ctor (by rfl) _ _ 40 (by rfl) 74 i0 _ Tryz.underlying40 hi'.out hz0'.out hz1'.out hz2'.out (by rfl) (by omega) (by rfl) (by exact Hown'.out.ext monoC_ctor ((hx2.al _).al _)) (w2.heap.size + 1) 1 xs[k] [.int .i64 xs[k].member, .int .i64 xs[k].type.kind, .int .i64 xs[k].type.num, .int .i64 xs[k].type.at_, .slice g1 xs[k].type.levels.length d1, .slice g2 xs[k].type.kids.length d2] wr.heap.size (by rfl) (by exact cells6 (by simp [go_sem]) (by simp [go_sem]) (by simp [go_sem]) (by simp [go_sem]) (by simp [go_sem]) (by simp [go_sem])) rfl (by intro u hu; simp only [List.mem_cons, List.not_mem_nil, or_false] at hu; rcases hu with rfl | rfl | rfl | rfl | rfl | rfl <;> rfl) (by exact monoC_ctor _ _ _ _ (frm_ext _ (((Ext.rf _).al _).al _)) HL.out) (by exact hx.size) (by exact fun g hg => (Hown'.out.lt g hg).2) (by exact Hkb.out) (by omega) (by have := ((hx.tr hx2).al (.cells #[] 0)).size; have h9 := (hx.tr hx2).size; simp; omega) ?_; intro v3 w3 hown3 hg3)
      rw [take_snoc hlt] at hown3
      have hx3 : Ext w w3 := grown_ext (((hx.tr hx2).al _).al _) hg3 (fun g hg => (Hown'.out.lt g hg).1)
      have Hown3 := hid hown3
      clear hown3 hg3
      go_wp2_with fail
      exact ⟨⟨k + 1, by omega, by go_num, hx3, Hown3.out⟩, by simp only [intOf]; omega⟩
    · obtain rfl : k = xs.length := by omega
      rw [List.take_length] at Hown'
      go_wp2_with fail
      go_ret
      exact ⟨hx, _, rfl, Hown'.out.sl monoC_ctor hb.out (Nat.le_refl _)⟩
set_option maxRecDepth 100000 in
set_option maxHeartbeats 4000000 in
theorem copyDecl_any (d : Decl) (cs : List Value) (w : World) (h : RDecl w d cs) : Calls Tryz.prog 13 #[.agg cs.toArray] w (Gives RDecl d w) := by
  obtain ⟨A1, c1, A2, c2, A3, c3, A4, c4, cp, vp, cS, vS, cm, vm, cc, vc, rfl, hik, hil, ht, hb, hp, hS, hm, hc⟩ := rdecl_open h
  have Ht := hid ht
  have Hb := hid hb
  have Hp := hid hp
  have HS := hid hS
  have Hm := hid hm
  have Hc := hid hc
  have Hik := hid hik
  have Hil := hid hil
  clear ht hb hp hS hm hc h hik hil
  have hu := Tryz.underlying42
  have hi42 : (Tryz.prog.info? 42).map (·.size) = some 16 := by kernel_rfl
  go_enter Tryz.func13, Tryz.ntmps13
  go_wp2_with fail
  refine (copyTerm_any d.type _ _ (mono_term _ _ _ _ (((Ext.rf _).al _).al _) Ht.out)).mono ?_
  rintro e w1 ⟨hx1, cs1, rfl, hL1⟩
  obtain ⟨vl1, vk1, rfl, _, ⟨b1, e1, rfl, _⟩, ⟨b2, e2, rfl, _⟩⟩ := rterm_open hL1
  have q1_0 : w1.cell? ⟨w.heap.size, 0, none⟩ = some (.int .i64 d.kind) := hx1.cell (by simp [go_sem])
  have q1_1 : w1.cell? ⟨w.heap.size, 1, none⟩ = some (.int .i64 d.levels) := hx1.cell (by simp [go_sem])
  have q1_2 : w1.cell? ⟨w.heap.size, 2, none⟩ = some (.int .i64 d.type.kind) := hx1.cell (by simp [go_sem])
  have q1_3 : w1.cell? ⟨w.heap.size, 3, none⟩ = some (.int .i64 d.type.num) := hx1.cell (by simp [go_sem])
  have q1_4 : w1.cell? ⟨w.heap.size, 4, none⟩ = some (.int .i64 d.type.at_) := hx1.cell (by simp [go_sem])
  have q1_5 : w1.cell? ⟨w.heap.size, 5, none⟩ = some (.slice A1 d.type.levels.length c1) := hx1.cell (by simp [go_sem])
  have q1_6 : w1.cell? ⟨w.heap.size, 6, none⟩ = some (.slice A2 d.type.kids.length c2) := hx1.cell (by simp [go_sem])
  have q1_7 : w1.cell? ⟨w.heap.size, 7, none⟩ = some (.int .i64 d.body.kind) := hx1.cell (by simp [go_sem])
  have q1_8 : w1.cell? ⟨w.heap.size, 8, none⟩ = some (.int .i64 d.body.num) := hx1.cell (by simp [go_sem])
  have q1_9 : w1.cell? ⟨w.heap.size, 9, none⟩ = some (.int .i64 d.body.at_) := hx1.cell (by simp [go_sem])
  have q1_10 : w1.cell? ⟨w.heap.size, 10, none⟩ = some (.slice A3 d.body.levels.length c3) := hx1.cell (by simp [go_sem])
  have q1_11 : w1.cell? ⟨w.heap.size, 11, none⟩ = some (.slice A4 d.body.kids.length c4) := hx1.cell (by simp [go_sem])
  have q1_12 : w1.cell? ⟨w.heap.size, 12, none⟩ = some (.slice vp d.params.length cp) := hx1.cell (by simp [go_sem])
  have q1_13 : w1.cell? ⟨w.heap.size, 13, none⟩ = some (.slice vS d.sort.parts.length cS) := hx1.cell (by simp [go_sem])
  have q1_14 : w1.cell? ⟨w.heap.size, 14, none⟩ = some (.slice vm d.members.length cm) := hx1.cell (by simp [go_sem])
  have q1_15 : w1.cell? ⟨w.heap.size, 15, none⟩ = some (.slice vc d.ctors.length cc) := hx1.cell (by simp [go_sem])
  have z1 : ∀ j, w1.frozen? ⟨w.heap.size, j, none⟩ = false := fun j => (Below.frozen hx1 (by simp <;> omega)).trans (by simp [go_sem])
  have th1 : w1.there (w.heap.size + 1) 0 16 := there_ext hx1 (by have := there_fresh (w.alloc (.cells #[.int .i64 d.kind, .int .i64 d.levels, .int .i64 d.type.kind, .int .i64 d.type.num, .int .i64 d.type.at_, .slice A1 d.type.levels.length c1, .slice A2 d.type.kids.length c2, .int .i64 d.body.kind, .int .i64 d.body.num, .int .i64 d.body.at_, .slice A3 d.body.levels.length c3, .slice A4 d.body.kids.length c4, .slice vp d.params.length cp, .slice vS d.sort.parts.length cS, .slice vm d.members.length cm, .slice vc d.ctors.length cc] 42)) 42 #[.int .i64 0, .int .i64 0, .int .i64 0, .int .i64 0, .int .i64 0, .slice none 0 0, .slice none 0 0, .int .i64 0, .int .i64 0, .int .i64 0, .slice none 0 0, .slice none 0 0, .slice none 0 0, .slice none 0 0, .slice none 0 0, .slice none 0 0] 16 (by decide); simpa [go_sem] using this)
  have hsz1 : w.heap.size + 1 < w1.heap.size := by have := hx1.size; simp at this; omega
  have zz2 := z1 2
  have zz3 := z1 3
  have zz4 := z1 4
  have zz5 := z1 5
  have zz6 := z1 6
  have HL1 := hid (monoC_term _ _ _ _ (frm_le (m := w.heap.size + 2) (by simp <;> omega) _) hL1)
  have K1_1 := hid (Sub.rf (frm (w.heap.size + 2) w1))
  have Hx1 := hid (show Ext w w1 from (((Ext.rf _).al _).al _).tr hx1)
  have Z1 := hid z1
  have TH1 := hid th1
  clear z1 th1 hx1 hL1
  go_wp2_with fail
  clear zz2 zz3 zz4 zz5 zz6
  refine (copyTerm_any d.body _ _ (mono_term _ _ _ _ (((((Hx1.out.st (by simp) _).st (by simp) _).st (by simp) _).st (by simp) _).st (by simp) _) Hb.out)).mono ?_
  rintro e w2 ⟨hx2, cs2, rfl, hL2⟩
  obtain ⟨vl3, vk3, rfl, _, ⟨b3, e3, rfl, _⟩, ⟨b4, e4, rfl, _⟩⟩ := rterm_open hL2
  have q2_0 : w2.cell? ⟨w.heap.size, 0, none⟩ = some (.int .i64 d.kind) := hx2.cell (by simp [go_sem, q1_0, q1_1, q1_2, q1_3, q1_4, q1_5, q1_6, q1_7, q1_8, q1_9, q1_10, q1_11, q1_12, q1_13, q1_14, q1_15])
  have q2_1 : w2.cell? ⟨w.heap.size, 1, none⟩ = some (.int .i64 d.levels) := hx2.cell (by simp [go_sem, q1_0, q1_1, q1_2, q1_3, q1_4, q1_5, q1_6, q1_7, q1_8, q1_9, q1_10, q1_11, q1_12, q1_13, q1_14, q1_15])
  have q2_2 : w2.cell? ⟨w.heap.size, 2, none⟩ = some (.int .i64 d.type.kind) := hx2.cell (by simp [go_sem, q1_0, q1_1, q1_2, q1_3, q1_4, q1_5, q1_6, q1_7, q1_8, q1_9, q1_10, q1_11, q1_12, q1_13, q1_14, q1_15])
  have q2_3 : w2.cell? ⟨w.heap.size, 3, none⟩ = some (.int .i64 d.type.num) := hx2.cell (by simp [go_sem, q1_0, q1_1, q1_2, q1_3, q1_4, q1_5, q1_6, q1_7, q1_8, q1_9, q1_10, q1_11, q1_12, q1_13, q1_14, q1_15])
  have q2_4 : w2.cell? ⟨w.heap.size, 4, none⟩ = some (.int .i64 d.type.at_) := hx2.cell (by simp [go_sem, q1_0, q1_1, q1_2, q1_3, q1_4, q1_5, q1_6, q1_7, q1_8, q1_9, q1_10, q1_11, q1_12, q1_13, q1_14, q1_15])
  have q2_5 : w2.cell? ⟨w.heap.size, 5, none⟩ = some (.slice b1 d.type.levels.length e1) := hx2.cell (by simp [go_sem, q1_0, q1_1, q1_2, q1_3, q1_4, q1_5, q1_6, q1_7, q1_8, q1_9, q1_10, q1_11, q1_12, q1_13, q1_14, q1_15])
  have q2_6 : w2.cell? ⟨w.heap.size, 6, none⟩ = some (.slice b2 d.type.kids.length e2) := hx2.cell (by simp [go_sem, q1_0, q1_1, q1_2, q1_3, q1_4, q1_5, q1_6, q1_7, q1_8, q1_9, q1_10, q1_11, q1_12, q1_13, q1_14, q1_15])
  have q2_7 : w2.cell? ⟨w.heap.size, 7, none⟩ = some (.int .i64 d.body.kind) := hx2.cell (by simp [go_sem, q1_0, q1_1, q1_2, q1_3, q1_4, q1_5, q1_6, q1_7, q1_8, q1_9, q1_10, q1_11, q1_12, q1_13, q1_14, q1_15])
  have q2_8 : w2.cell? ⟨w.heap.size, 8, none⟩ = some (.int .i64 d.body.num) := hx2.cell (by simp [go_sem, q1_0, q1_1, q1_2, q1_3, q1_4, q1_5, q1_6, q1_7, q1_8, q1_9, q1_10, q1_11, q1_12, q1_13, q1_14, q1_15])
  have q2_9 : w2.cell? ⟨w.heap.size, 9, none⟩ = some (.int .i64 d.body.at_) := hx2.cell (by simp [go_sem, q1_0, q1_1, q1_2, q1_3, q1_4, q1_5, q1_6, q1_7, q1_8, q1_9, q1_10, q1_11, q1_12, q1_13, q1_14, q1_15])
  have q2_10 : w2.cell? ⟨w.heap.size, 10, none⟩ = some (.slice A3 d.body.levels.length c3) := hx2.cell (by simp [go_sem, q1_0, q1_1, q1_2, q1_3, q1_4, q1_5, q1_6, q1_7, q1_8, q1_9, q1_10, q1_11, q1_12, q1_13, q1_14, q1_15])
  have q2_11 : w2.cell? ⟨w.heap.size, 11, none⟩ = some (.slice A4 d.body.kids.length c4) := hx2.cell (by simp [go_sem, q1_0, q1_1, q1_2, q1_3, q1_4, q1_5, q1_6, q1_7, q1_8, q1_9, q1_10, q1_11, q1_12, q1_13, q1_14, q1_15])
  have q2_12 : w2.cell? ⟨w.heap.size, 12, none⟩ = some (.slice vp d.params.length cp) := hx2.cell (by simp [go_sem, q1_0, q1_1, q1_2, q1_3, q1_4, q1_5, q1_6, q1_7, q1_8, q1_9, q1_10, q1_11, q1_12, q1_13, q1_14, q1_15])
  have q2_13 : w2.cell? ⟨w.heap.size, 13, none⟩ = some (.slice vS d.sort.parts.length cS) := hx2.cell (by simp [go_sem, q1_0, q1_1, q1_2, q1_3, q1_4, q1_5, q1_6, q1_7, q1_8, q1_9, q1_10, q1_11, q1_12, q1_13, q1_14, q1_15])
  have q2_14 : w2.cell? ⟨w.heap.size, 14, none⟩ = some (.slice vm d.members.length cm) := hx2.cell (by simp [go_sem, q1_0, q1_1, q1_2, q1_3, q1_4, q1_5, q1_6, q1_7, q1_8, q1_9, q1_10, q1_11, q1_12, q1_13, q1_14, q1_15])
  have q2_15 : w2.cell? ⟨w.heap.size, 15, none⟩ = some (.slice vc d.ctors.length cc) := hx2.cell (by simp [go_sem, q1_0, q1_1, q1_2, q1_3, q1_4, q1_5, q1_6, q1_7, q1_8, q1_9, q1_10, q1_11, q1_12, q1_13, q1_14, q1_15])
  clear q1_0 q1_1 q1_2 q1_3 q1_4 q1_5 q1_6 q1_7 q1_8 q1_9 q1_10 q1_11 q1_12 q1_13 q1_14 q1_15
  have z2 : ∀ j, w2.frozen? ⟨w.heap.size, j, none⟩ = false := fun j => (Below.frozen hx2 (by simp <;> omega)).trans (by simp [go_sem, Z1.out])
  have th2 : w2.there (w.heap.size + 1) 0 16 := there_ext hx2 (there_set (by omega) (there_set (by omega) (there_set (by omega) (there_set (by omega) (there_set (by omega) TH1.out)))))
  have hsz2 : w.heap.size + 1 < w2.heap.size := by have := hx2.size; simp at this; omega
  have zz7 := z2 7
  have zz8 := z2 8
  have zz9 := z2 9
  have zz10 := z2 10
  have zz11 := z2 11
  have HL2 := hid (monoC_term _ _ _ _ (frm_le (m := w.heap.size + 2) (by simp <;> omega) _) hL2)
  have K2_2 := hid (Sub.rf (frm (w.heap.size + 2) w2))
  have K1_2 := hid (((((((K1_1.out).tr (frm_set (by omega))).tr (frm_set (by omega))).tr (frm_set (by omega))).tr (frm_set (by omega))).tr (frm_set (by omega))).tr (frm_ext _ hx2))
  clear K1_1
  have Hx2 := hid (show Ext w w2 from (((((Hx1.out.st (by simp) _).st (by simp) _).st (by simp) _).st (by simp) _).st (by simp) _).tr hx2)
  have Z2 := hid z2
  have TH2 := hid th2
  clear z2 th2 hx2 hL2 Hx1 Z1 TH1
  go_wp2_with fail
  clear zz7 zz8 zz9 zz10 zz11
  refine (copyTerms_any d.params _ _ (Hp.out.ext mono_term (((((Hx2.out.st (by simp) _).st (by simp) _).st (by simp) _).st (by simp) _).st (by simp) _))).mono ?_
  rintro e w3 ⟨hx3, v3, rfl, hL3⟩
  obtain ⟨b5, e5, rfl, _⟩ := id hL3
  have q3_0 : w3.cell? ⟨w.heap.size, 0, none⟩ = some (.int .i64 d.kind) := hx3.cell (by simp [go_sem, q2_0, q2_1, q2_2, q2_3, q2_4, q2_5, q2_6, q2_7, q2_8, q2_9, q2_10, q2_11, q2_12, q2_13, q2_14, q2_15])
  have q3_1 : w3.cell? ⟨w.heap.size, 1, none⟩ = some (.int .i64 d.levels) := hx3.cell (by simp [go_sem, q2_0, q2_1, q2_2, q2_3, q2_4, q2_5, q2_6, q2_7, q2_8, q2_9, q2_10, q2_11, q2_12, q2_13, q2_14, q2_15])
  have q3_2 : w3.cell? ⟨w.heap.size, 2, none⟩ = some (.int .i64 d.type.kind) := hx3.cell (by simp [go_sem, q2_0, q2_1, q2_2, q2_3, q2_4, q2_5, q2_6, q2_7, q2_8, q2_9, q2_10, q2_11, q2_12, q2_13, q2_14, q2_15])
  have q3_3 : w3.cell? ⟨w.heap.size, 3, none⟩ = some (.int .i64 d.type.num) := hx3.cell (by simp [go_sem, q2_0, q2_1, q2_2, q2_3, q2_4, q2_5, q2_6, q2_7, q2_8, q2_9, q2_10, q2_11, q2_12, q2_13, q2_14, q2_15])
  have q3_4 : w3.cell? ⟨w.heap.size, 4, none⟩ = some (.int .i64 d.type.at_) := hx3.cell (by simp [go_sem, q2_0, q2_1, q2_2, q2_3, q2_4, q2_5, q2_6, q2_7, q2_8, q2_9, q2_10, q2_11, q2_12, q2_13, q2_14, q2_15])
  have q3_5 : w3.cell? ⟨w.heap.size, 5, none⟩ = some (.slice b1 d.type.levels.length e1) := hx3.cell (by simp [go_sem, q2_0, q2_1, q2_2, q2_3, q2_4, q2_5, q2_6, q2_7, q2_8, q2_9, q2_10, q2_11, q2_12, q2_13, q2_14, q2_15])
  have q3_6 : w3.cell? ⟨w.heap.size, 6, none⟩ = some (.slice b2 d.type.kids.length e2) := hx3.cell (by simp [go_sem, q2_0, q2_1, q2_2, q2_3, q2_4, q2_5, q2_6, q2_7, q2_8, q2_9, q2_10, q2_11, q2_12, q2_13, q2_14, q2_15])
  have q3_7 : w3.cell? ⟨w.heap.size, 7, none⟩ = some (.int .i64 d.body.kind) := hx3.cell (by simp [go_sem, q2_0, q2_1, q2_2, q2_3, q2_4, q2_5, q2_6, q2_7, q2_8, q2_9, q2_10, q2_11, q2_12, q2_13, q2_14, q2_15])
  have q3_8 : w3.cell? ⟨w.heap.size, 8, none⟩ = some (.int .i64 d.body.num) := hx3.cell (by simp [go_sem, q2_0, q2_1, q2_2, q2_3, q2_4, q2_5, q2_6, q2_7, q2_8, q2_9, q2_10, q2_11, q2_12, q2_13, q2_14, q2_15])
  have q3_9 : w3.cell? ⟨w.heap.size, 9, none⟩ = some (.int .i64 d.body.at_) := hx3.cell (by simp [go_sem, q2_0, q2_1, q2_2, q2_3, q2_4, q2_5, q2_6, q2_7, q2_8, q2_9, q2_10, q2_11, q2_12, q2_13, q2_14, q2_15])
  have q3_10 : w3.cell? ⟨w.heap.size, 10, none⟩ = some (.slice b3 d.body.levels.length e3) := hx3.cell (by simp [go_sem, q2_0, q2_1, q2_2, q2_3, q2_4, q2_5, q2_6, q2_7, q2_8, q2_9, q2_10, q2_11, q2_12, q2_13, q2_14, q2_15])
  have q3_11 : w3.cell? ⟨w.heap.size, 11, none⟩ = some (.slice b4 d.body.kids.length e4) := hx3.cell (by simp [go_sem, q2_0, q2_1, q2_2, q2_3, q2_4, q2_5, q2_6, q2_7, q2_8, q2_9, q2_10, q2_11, q2_12, q2_13, q2_14, q2_15])
  have q3_12 : w3.cell? ⟨w.heap.size, 12, none⟩ = some (.slice vp d.params.length cp) := hx3.cell (by simp [go_sem, q2_0, q2_1, q2_2, q2_3, q2_4, q2_5, q2_6, q2_7, q2_8, q2_9, q2_10, q2_11, q2_12, q2_13, q2_14, q2_15])
  have q3_13 : w3.cell? ⟨w.heap.size, 13, none⟩ = some (.slice vS d.sort.parts.length cS) := hx3.cell (by simp [go_sem, q2_0, q2_1, q2_2, q2_3, q2_4, q2_5, q2_6, q2_7, q2_8, q2_9, q2_10, q2_11, q2_12, q2_13, q2_14, q2_15])
  have q3_14 : w3.cell? ⟨w.heap.size, 14, none⟩ = some (.slice vm d.members.length cm) := hx3.cell (by simp [go_sem, q2_0, q2_1, q2_2, q2_3, q2_4, q2_5, q2_6, q2_7, q2_8, q2_9, q2_10, q2_11, q2_12, q2_13, q2_14, q2_15])
  have q3_15 : w3.cell? ⟨w.heap.size, 15, none⟩ = some (.slice vc d.ctors.length cc) := hx3.cell (by simp [go_sem, q2_0, q2_1, q2_2, q2_3, q2_4, q2_5, q2_6, q2_7, q2_8, q2_9, q2_10, q2_11, q2_12, q2_13, q2_14, q2_15])
  clear q2_0 q2_1 q2_2 q2_3 q2_4 q2_5 q2_6 q2_7 q2_8 q2_9 q2_10 q2_11 q2_12 q2_13 q2_14 q2_15
  have z3 : ∀ j, w3.frozen? ⟨w.heap.size, j, none⟩ = false := fun j => (Below.frozen hx3 (by simp <;> omega)).trans (by simp [go_sem, Z2.out])
  have th3 : w3.there (w.heap.size + 1) 0 16 := there_ext hx3 (there_set (by omega) (there_set (by omega) (there_set (by omega) (there_set (by omega) (there_set (by omega) TH2.out)))))
  have hsz3 : w.heap.size + 1 < w3.heap.size := by have := hx3.size; simp at this; omega
  have zz12 := z3 12
  have HL3 := hid (hL3.sub monoC_term (frm_le (m := w.heap.size + 2) (by simp <;> omega) _))
  have K3_3 := hid (Sub.rf (frm (w.heap.size + 2) w3))
  have K1_3 := hid (((((((K1_2.out).tr (frm_set (by omega))).tr (frm_set (by omega))).tr (frm_set (by omega))).tr (frm_set (by omega))).tr (frm_set (by omega))).tr (frm_ext _ hx3))
  have K2_3 := hid (((((((K2_2.out).tr (frm_set (by omega))).tr (frm_set (by omega))).tr (frm_set (by omega))).tr (frm_set (by omega))).tr (frm_set (by omega))).tr (frm_ext _ hx3))
  clear K1_2 K2_2
  have Hx3 := hid (show Ext w w3 from (((((Hx2.out.st (by simp) _).st (by simp) _).st (by simp) _).st (by simp) _).st (by simp) _).tr hx3)
  have Z3 := hid z3
  have TH3 := hid th3
  clear z3 th3 hx3 hL3 Hx2 Z2 TH2
  go_wp2_with fail
  clear zz12
  refine (copyLevel_any d.sort _ _ ⟨_, rfl, HS.out.ext mono_part (Hx3.out.st (by simp) _)⟩).mono ?_
  rintro e w4 ⟨hx4, cs4, rfl, hL4⟩
  obtain ⟨v4, rfl, ⟨b6, e6, rfl, _⟩⟩ := id hL4
  have q4_0 : w4.cell? ⟨w.heap.size, 0, none⟩ = some (.int .i64 d.kind) := hx4.cell (by simp [go_sem, q3_0, q3_1, q3_2, q3_3, q3_4, q3_5, q3_6, q3_7, q3_8, q3_9, q3_10, q3_11, q3_12, q3_13, q3_14, q3_15])
  have q4_1 : w4.cell? ⟨w.heap.size, 1, none⟩ = some (.int .i64 d.levels) := hx4.cell (by simp [go_sem, q3_0, q3_1, q3_2, q3_3, q3_4, q3_5, q3_6, q3_7, q3_8, q3_9, q3_10, q3_11, q3_12, q3_13, q3_14, q3_15])
  have q4_2 : w4.cell? ⟨w.heap.size, 2, none⟩ = some (.int .i64 d.type.kind) := hx4.cell (by simp [go_sem, q3_0, q3_1, q3_2, q3_3, q3_4, q3_5, q3_6, q3_7, q3_8, q3_9, q3_10, q3_11, q3_12, q3_13, q3_14, q3_15])
  have q4_3 : w4.cell? ⟨w.heap.size, 3, none⟩ = some (.int .i64 d.type.num) := hx4.cell (by simp [go_sem, q3_0, q3_1, q3_2, q3_3, q3_4, q3_5, q3_6, q3_7, q3_8, q3_9, q3_10, q3_11, q3_12, q3_13, q3_14, q3_15])
  have q4_4 : w4.cell? ⟨w.heap.size, 4, none⟩ = some (.int .i64 d.type.at_) := hx4.cell (by simp [go_sem, q3_0, q3_1, q3_2, q3_3, q3_4, q3_5, q3_6, q3_7, q3_8, q3_9, q3_10, q3_11, q3_12, q3_13, q3_14, q3_15])
  have q4_5 : w4.cell? ⟨w.heap.size, 5, none⟩ = some (.slice b1 d.type.levels.length e1) := hx4.cell (by simp [go_sem, q3_0, q3_1, q3_2, q3_3, q3_4, q3_5, q3_6, q3_7, q3_8, q3_9, q3_10, q3_11, q3_12, q3_13, q3_14, q3_15])
  have q4_6 : w4.cell? ⟨w.heap.size, 6, none⟩ = some (.slice b2 d.type.kids.length e2) := hx4.cell (by simp [go_sem, q3_0, q3_1, q3_2, q3_3, q3_4, q3_5, q3_6, q3_7, q3_8, q3_9, q3_10, q3_11, q3_12, q3_13, q3_14, q3_15])
  have q4_7 : w4.cell? ⟨w.heap.size, 7, none⟩ = some (.int .i64 d.body.kind) := hx4.cell (by simp [go_sem, q3_0, q3_1, q3_2, q3_3, q3_4, q3_5, q3_6, q3_7, q3_8, q3_9, q3_10, q3_11, q3_12, q3_13, q3_14, q3_15])
  have q4_8 : w4.cell? ⟨w.heap.size, 8, none⟩ = some (.int .i64 d.body.num) := hx4.cell (by simp [go_sem, q3_0, q3_1, q3_2, q3_3, q3_4, q3_5, q3_6, q3_7, q3_8, q3_9, q3_10, q3_11, q3_12, q3_13, q3_14, q3_15])
  have q4_9 : w4.cell? ⟨w.heap.size, 9, none⟩ = some (.int .i64 d.body.at_) := hx4.cell (by simp [go_sem, q3_0, q3_1, q3_2, q3_3, q3_4, q3_5, q3_6, q3_7, q3_8, q3_9, q3_10, q3_11, q3_12, q3_13, q3_14, q3_15])
  have q4_10 : w4.cell? ⟨w.heap.size, 10, none⟩ = some (.slice b3 d.body.levels.length e3) := hx4.cell (by simp [go_sem, q3_0, q3_1, q3_2, q3_3, q3_4, q3_5, q3_6, q3_7, q3_8, q3_9, q3_10, q3_11, q3_12, q3_13, q3_14, q3_15])
  have q4_11 : w4.cell? ⟨w.heap.size, 11, none⟩ = some (.slice b4 d.body.kids.length e4) := hx4.cell (by simp [go_sem, q3_0, q3_1, q3_2, q3_3, q3_4, q3_5, q3_6, q3_7, q3_8, q3_9, q3_10, q3_11, q3_12, q3_13, q3_14, q3_15])
  have q4_12 : w4.cell? ⟨w.heap.size, 12, none⟩ = some (.slice b5 d.params.length e5) := hx4.cell (by simp [go_sem, q3_0, q3_1, q3_2, q3_3, q3_4, q3_5, q3_6, q3_7, q3_8, q3_9, q3_10, q3_11, q3_12, q3_13, q3_14, q3_15])
  have q4_13 : w4.cell? ⟨w.heap.size, 13, none⟩ = some (.slice vS d.sort.parts.length cS) := hx4.cell (by simp [go_sem, q3_0, q3_1, q3_2, q3_3, q3_4, q3_5, q3_6, q3_7, q3_8, q3_9, q3_10, q3_11, q3_12, q3_13, q3_14, q3_15])
  have q4_14 : w4.cell? ⟨w.heap.size, 14, none⟩ = some (.slice vm d.members.length cm) := hx4.cell (by simp [go_sem, q3_0, q3_1, q3_2, q3_3, q3_4, q3_5, q3_6, q3_7, q3_8, q3_9, q3_10, q3_11, q3_12, q3_13, q3_14, q3_15])
  have q4_15 : w4.cell? ⟨w.heap.size, 15, none⟩ = some (.slice vc d.ctors.length cc) := hx4.cell (by simp [go_sem, q3_0, q3_1, q3_2, q3_3, q3_4, q3_5, q3_6, q3_7, q3_8, q3_9, q3_10, q3_11, q3_12, q3_13, q3_14, q3_15])
  clear q3_0 q3_1 q3_2 q3_3 q3_4 q3_5 q3_6 q3_7 q3_8 q3_9 q3_10 q3_11 q3_12 q3_13 q3_14 q3_15
  have z4 : ∀ j, w4.frozen? ⟨w.heap.size, j, none⟩ = false := fun j => (Below.frozen hx4 (by simp <;> omega)).trans (by simp [go_sem, Z3.out])
  have th4 : w4.there (w.heap.size + 1) 0 16 := there_ext hx4 (there_set (by omega) TH3.out)
  have hsz4 : w.heap.size + 1 < w4.heap.size := by have := hx4.size; simp at this; omega
  have zz13 := z4 13
  have HL4 := hid (monoC_level _ _ _ _ (frm_le (m := w.heap.size + 2) (by simp <;> omega) _) hL4)
  have K4_4 := hid (Sub.rf (frm (w.heap.size + 2) w4))
  have K1_4 := hid (((K1_3.out).tr (frm_set (by omega))).tr (frm_ext _ hx4))
  have K2_4 := hid (((K2_3.out).tr (frm_set (by omega))).tr (frm_ext _ hx4))
  have K3_4 := hid (((K3_3.out).tr (frm_set (by omega))).tr (frm_ext _ hx4))
  clear K1_3 K2_3 K3_3
  have Hx4 := hid (show Ext w w4 from (Hx3.out.st (by simp) _).tr hx4)
  have Z4 := hid z4
  have TH4 := hid th4
  clear z4 th4 hx4 hL4 Hx3 Z3 TH3
  go_wp2_with fail
  clear zz13
  refine (copyMembers_any d.members _ _ (Hm.out.ext mono_member (Hx4.out.st (by simp) _))).mono ?_
  rintro e w5 ⟨hx5, v5, rfl, hL5⟩
  obtain ⟨b7, e7, rfl, _⟩ := id hL5
  have q5_0 : w5.cell? ⟨w.heap.size, 0, none⟩ = some (.int .i64 d.kind) := hx5.cell (by simp [go_sem, q4_0, q4_1, q4_2, q4_3, q4_4, q4_5, q4_6, q4_7, q4_8, q4_9, q4_10, q4_11, q4_12, q4_13, q4_14, q4_15])
  have q5_1 : w5.cell? ⟨w.heap.size, 1, none⟩ = some (.int .i64 d.levels) := hx5.cell (by simp [go_sem, q4_0, q4_1, q4_2, q4_3, q4_4, q4_5, q4_6, q4_7, q4_8, q4_9, q4_10, q4_11, q4_12, q4_13, q4_14, q4_15])
  have q5_2 : w5.cell? ⟨w.heap.size, 2, none⟩ = some (.int .i64 d.type.kind) := hx5.cell (by simp [go_sem, q4_0, q4_1, q4_2, q4_3, q4_4, q4_5, q4_6, q4_7, q4_8, q4_9, q4_10, q4_11, q4_12, q4_13, q4_14, q4_15])
  have q5_3 : w5.cell? ⟨w.heap.size, 3, none⟩ = some (.int .i64 d.type.num) := hx5.cell (by simp [go_sem, q4_0, q4_1, q4_2, q4_3, q4_4, q4_5, q4_6, q4_7, q4_8, q4_9, q4_10, q4_11, q4_12, q4_13, q4_14, q4_15])
  have q5_4 : w5.cell? ⟨w.heap.size, 4, none⟩ = some (.int .i64 d.type.at_) := hx5.cell (by simp [go_sem, q4_0, q4_1, q4_2, q4_3, q4_4, q4_5, q4_6, q4_7, q4_8, q4_9, q4_10, q4_11, q4_12, q4_13, q4_14, q4_15])
  have q5_5 : w5.cell? ⟨w.heap.size, 5, none⟩ = some (.slice b1 d.type.levels.length e1) := hx5.cell (by simp [go_sem, q4_0, q4_1, q4_2, q4_3, q4_4, q4_5, q4_6, q4_7, q4_8, q4_9, q4_10, q4_11, q4_12, q4_13, q4_14, q4_15])
  have q5_6 : w5.cell? ⟨w.heap.size, 6, none⟩ = some (.slice b2 d.type.kids.length e2) := hx5.cell (by simp [go_sem, q4_0, q4_1, q4_2, q4_3, q4_4, q4_5, q4_6, q4_7, q4_8, q4_9, q4_10, q4_11, q4_12, q4_13, q4_14, q4_15])
  have q5_7 : w5.cell? ⟨w.heap.size, 7, none⟩ = some (.int .i64 d.body.kind) := hx5.cell (by simp [go_sem, q4_0, q4_1, q4_2, q4_3, q4_4, q4_5, q4_6, q4_7, q4_8, q4_9, q4_10, q4_11, q4_12, q4_13, q4_14, q4_15])
  have q5_8 : w5.cell? ⟨w.heap.size, 8, none⟩ = some (.int .i64 d.body.num) := hx5.cell (by simp [go_sem, q4_0, q4_1, q4_2, q4_3, q4_4, q4_5, q4_6, q4_7, q4_8, q4_9, q4_10, q4_11, q4_12, q4_13, q4_14, q4_15])
  have q5_9 : w5.cell? ⟨w.heap.size, 9, none⟩ = some (.int .i64 d.body.at_) := hx5.cell (by simp [go_sem, q4_0, q4_1, q4_2, q4_3, q4_4, q4_5, q4_6, q4_7, q4_8, q4_9, q4_10, q4_11, q4_12, q4_13, q4_14, q4_15])
  have q5_10 : w5.cell? ⟨w.heap.size, 10, none⟩ = some (.slice b3 d.body.levels.length e3) := hx5.cell (by simp [go_sem, q4_0, q4_1, q4_2, q4_3, q4_4, q4_5, q4_6, q4_7, q4_8, q4_9, q4_10, q4_11, q4_12, q4_13, q4_14, q4_15])
  have q5_11 : w5.cell? ⟨w.heap.size, 11, none⟩ = some (.slice b4 d.body.kids.length e4) := hx5.cell (by simp [go_sem, q4_0, q4_1, q4_2, q4_3, q4_4, q4_5, q4_6, q4_7, q4_8, q4_9, q4_10, q4_11, q4_12, q4_13, q4_14, q4_15])
  have q5_12 : w5.cell? ⟨w.heap.size, 12, none⟩ = some (.slice b5 d.params.length e5) := hx5.cell (by simp [go_sem, q4_0, q4_1, q4_2, q4_3, q4_4, q4_5, q4_6, q4_7, q4_8, q4_9, q4_10, q4_11, q4_12, q4_13, q4_14, q4_15])
  have q5_13 : w5.cell? ⟨w.heap.size, 13, none⟩ = some (.slice b6 d.sort.parts.length e6) := hx5.cell (by simp [go_sem, q4_0, q4_1, q4_2, q4_3, q4_4, q4_5, q4_6, q4_7, q4_8, q4_9, q4_10, q4_11, q4_12, q4_13, q4_14, q4_15])
  have q5_14 : w5.cell? ⟨w.heap.size, 14, none⟩ = some (.slice vm d.members.length cm) := hx5.cell (by simp [go_sem, q4_0, q4_1, q4_2, q4_3, q4_4, q4_5, q4_6, q4_7, q4_8, q4_9, q4_10, q4_11, q4_12, q4_13, q4_14, q4_15])
  have q5_15 : w5.cell? ⟨w.heap.size, 15, none⟩ = some (.slice vc d.ctors.length cc) := hx5.cell (by simp [go_sem, q4_0, q4_1, q4_2, q4_3, q4_4, q4_5, q4_6, q4_7, q4_8, q4_9, q4_10, q4_11, q4_12, q4_13, q4_14, q4_15])
  clear q4_0 q4_1 q4_2 q4_3 q4_4 q4_5 q4_6 q4_7 q4_8 q4_9 q4_10 q4_11 q4_12 q4_13 q4_14 q4_15
  have z5 : ∀ j, w5.frozen? ⟨w.heap.size, j, none⟩ = false := fun j => (Below.frozen hx5 (by simp <;> omega)).trans (by simp [go_sem, Z4.out])
  have th5 : w5.there (w.heap.size + 1) 0 16 := there_ext hx5 (there_set (by omega) TH4.out)
  have hsz5 : w.heap.size + 1 < w5.heap.size := by have := hx5.size; simp at this; omega
  have zz14 := z5 14
  have HL5 := hid (hL5.sub monoC_member (frm_le (m := w.heap.size + 2) (by simp <;> omega) _))
  have K5_5 := hid (Sub.rf (frm (w.heap.size + 2) w5))
  have K1_5 := hid (((K1_4.out).tr (frm_set (by omega))).tr (frm_ext _ hx5))
  have K2_5 := hid (((K2_4.out).tr (frm_set (by omega))).tr (frm_ext _ hx5))
  have K3_5 := hid (((K3_4.out).tr (frm_set (by omega))).tr (frm_ext _ hx5))
  have K4_5 := hid (((K4_4.out).tr (frm_set (by omega))).tr (frm_ext _ hx5))
  clear K1_4 K2_4 K3_4 K4_4
  have Hx5 := hid (show Ext w w5 from (Hx4.out.st (by simp) _).tr hx5)
  have Z5 := hid z5
  have TH5 := hid th5
  clear z5 th5 hx5 hL5 Hx4 Z4 TH4
  go_wp2_with fail
  clear zz14
  refine (copyCtors_any d.ctors _ _ (Hc.out.ext mono_ctor (Hx5.out.st (by simp) _))).mono ?_
  rintro e w6 ⟨hx6, v6, rfl, hL6⟩
  obtain ⟨b8, e8, rfl, _⟩ := id hL6
  have q6_0 : w6.cell? ⟨w.heap.size, 0, none⟩ = some (.int .i64 d.kind) := hx6.cell (by simp [go_sem, q5_0, q5_1, q5_2, q5_3, q5_4, q5_5, q5_6, q5_7, q5_8, q5_9, q5_10, q5_11, q5_12, q5_13, q5_14, q5_15])
  have q6_1 : w6.cell? ⟨w.heap.size, 1, none⟩ = some (.int .i64 d.levels) := hx6.cell (by simp [go_sem, q5_0, q5_1, q5_2, q5_3, q5_4, q5_5, q5_6, q5_7, q5_8, q5_9, q5_10, q5_11, q5_12, q5_13, q5_14, q5_15])
  have q6_2 : w6.cell? ⟨w.heap.size, 2, none⟩ = some (.int .i64 d.type.kind) := hx6.cell (by simp [go_sem, q5_0, q5_1, q5_2, q5_3, q5_4, q5_5, q5_6, q5_7, q5_8, q5_9, q5_10, q5_11, q5_12, q5_13, q5_14, q5_15])
  have q6_3 : w6.cell? ⟨w.heap.size, 3, none⟩ = some (.int .i64 d.type.num) := hx6.cell (by simp [go_sem, q5_0, q5_1, q5_2, q5_3, q5_4, q5_5, q5_6, q5_7, q5_8, q5_9, q5_10, q5_11, q5_12, q5_13, q5_14, q5_15])
  have q6_4 : w6.cell? ⟨w.heap.size, 4, none⟩ = some (.int .i64 d.type.at_) := hx6.cell (by simp [go_sem, q5_0, q5_1, q5_2, q5_3, q5_4, q5_5, q5_6, q5_7, q5_8, q5_9, q5_10, q5_11, q5_12, q5_13, q5_14, q5_15])
  have q6_5 : w6.cell? ⟨w.heap.size, 5, none⟩ = some (.slice b1 d.type.levels.length e1) := hx6.cell (by simp [go_sem, q5_0, q5_1, q5_2, q5_3, q5_4, q5_5, q5_6, q5_7, q5_8, q5_9, q5_10, q5_11, q5_12, q5_13, q5_14, q5_15])
  have q6_6 : w6.cell? ⟨w.heap.size, 6, none⟩ = some (.slice b2 d.type.kids.length e2) := hx6.cell (by simp [go_sem, q5_0, q5_1, q5_2, q5_3, q5_4, q5_5, q5_6, q5_7, q5_8, q5_9, q5_10, q5_11, q5_12, q5_13, q5_14, q5_15])
  have q6_7 : w6.cell? ⟨w.heap.size, 7, none⟩ = some (.int .i64 d.body.kind) := hx6.cell (by simp [go_sem, q5_0, q5_1, q5_2, q5_3, q5_4, q5_5, q5_6, q5_7, q5_8, q5_9, q5_10, q5_11, q5_12, q5_13, q5_14, q5_15])
  have q6_8 : w6.cell? ⟨w.heap.size, 8, none⟩ = some (.int .i64 d.body.num) := hx6.cell (by simp [go_sem, q5_0, q5_1, q5_2, q5_3, q5_4, q5_5, q5_6, q5_7, q5_8, q5_9, q5_10, q5_11, q5_12, q5_13, q5_14, q5_15])
  have q6_9 : w6.cell? ⟨w.heap.size, 9, none⟩ = some (.int .i64 d.body.at_) := hx6.cell (by simp [go_sem, q5_0, q5_1, q5_2, q5_3, q5_4, q5_5, q5_6, q5_7, q5_8, q5_9, q5_10, q5_11, q5_12, q5_13, q5_14, q5_15])
  have q6_10 : w6.cell? ⟨w.heap.size, 10, none⟩ = some (.slice b3 d.body.levels.length e3) := hx6.cell (by simp [go_sem, q5_0, q5_1, q5_2, q5_3, q5_4, q5_5, q5_6, q5_7, q5_8, q5_9, q5_10, q5_11, q5_12, q5_13, q5_14, q5_15])
  have q6_11 : w6.cell? ⟨w.heap.size, 11, none⟩ = some (.slice b4 d.body.kids.length e4) := hx6.cell (by simp [go_sem, q5_0, q5_1, q5_2, q5_3, q5_4, q5_5, q5_6, q5_7, q5_8, q5_9, q5_10, q5_11, q5_12, q5_13, q5_14, q5_15])
  have q6_12 : w6.cell? ⟨w.heap.size, 12, none⟩ = some (.slice b5 d.params.length e5) := hx6.cell (by simp [go_sem, q5_0, q5_1, q5_2, q5_3, q5_4, q5_5, q5_6, q5_7, q5_8, q5_9, q5_10, q5_11, q5_12, q5_13, q5_14, q5_15])
  have q6_13 : w6.cell? ⟨w.heap.size, 13, none⟩ = some (.slice b6 d.sort.parts.length e6) := hx6.cell (by simp [go_sem, q5_0, q5_1, q5_2, q5_3, q5_4, q5_5, q5_6, q5_7, q5_8, q5_9, q5_10, q5_11, q5_12, q5_13, q5_14, q5_15])
  have q6_14 : w6.cell? ⟨w.heap.size, 14, none⟩ = some (.slice b7 d.members.length e7) := hx6.cell (by simp [go_sem, q5_0, q5_1, q5_2, q5_3, q5_4, q5_5, q5_6, q5_7, q5_8, q5_9, q5_10, q5_11, q5_12, q5_13, q5_14, q5_15])
  have q6_15 : w6.cell? ⟨w.heap.size, 15, none⟩ = some (.slice vc d.ctors.length cc) := hx6.cell (by simp [go_sem, q5_0, q5_1, q5_2, q5_3, q5_4, q5_5, q5_6, q5_7, q5_8, q5_9, q5_10, q5_11, q5_12, q5_13, q5_14, q5_15])
  clear q5_0 q5_1 q5_2 q5_3 q5_4 q5_5 q5_6 q5_7 q5_8 q5_9 q5_10 q5_11 q5_12 q5_13 q5_14 q5_15
  have z6 : ∀ j, w6.frozen? ⟨w.heap.size, j, none⟩ = false := fun j => (Below.frozen hx6 (by simp <;> omega)).trans (by simp [go_sem, Z5.out])
  have th6 : w6.there (w.heap.size + 1) 0 16 := there_ext hx6 (there_set (by omega) TH5.out)
  have hsz6 : w.heap.size + 1 < w6.heap.size := by have := hx6.size; simp at this; omega
  have zz15 := z6 15
  have HL6 := hid (hL6.sub monoC_ctor (frm_le (m := w.heap.size + 2) (by simp <;> omega) _))
  have K6_6 := hid (Sub.rf (frm (w.heap.size + 2) w6))
  have K1_6 := hid (((K1_5.out).tr (frm_set (by omega))).tr (frm_ext _ hx6))
  have K2_6 := hid (((K2_5.out).tr (frm_set (by omega))).tr (frm_ext _ hx6))
  have K3_6 := hid (((K3_5.out).tr (frm_set (by omega))).tr (frm_ext _ hx6))
  have K4_6 := hid (((K4_5.out).tr (frm_set (by omega))).tr (frm_ext _ hx6))
  have K5_6 := hid (((K5_5.out).tr (frm_set (by omega))).tr (frm_ext _ hx6))
  clear K1_5 K2_5 K3_5 K4_5 K5_5
  have Hx6 := hid (show Ext w w6 from (Hx5.out.st (by simp) _).tr hx6)
  have Z6 := hid z6
  have TH6 := hid th6
  clear z6 th6 hx6 hL6 Hx5 Z5 TH5
  have hrange : (w6.setCell ⟨w.heap.size, 15, none⟩ (.slice b8 d.ctors.length e8)).rangeAt w.heap.size 0 [.int .i64 d.kind, .int .i64 d.levels, .int .i64 d.type.kind, .int .i64 d.type.num, .int .i64 d.type.at_, .slice b1 d.type.levels.length e1, .slice b2 d.type.kids.length e2, .int .i64 d.body.kind, .int .i64 d.body.num, .int .i64 d.body.at_, .slice b3 d.body.levels.length e3, .slice b4 d.body.kids.length e4, .slice b5 d.params.length e5, .slice b6 d.sort.parts.length e6, .slice b7 d.members.length e7, .slice b8 d.ctors.length e8] := fun j v hv => (cells16 (by simp [go_sem, q6_0, q6_15]) (by simp [go_sem, q6_1, q6_15]) (by simp [go_sem, q6_2, q6_15]) (by simp [go_sem, q6_3, q6_15]) (by simp [go_sem, q6_4, q6_15]) (by simp [go_sem, q6_5, q6_15]) (by simp [go_sem, q6_6, q6_15]) (by simp [go_sem, q6_7, q6_15]) (by simp [go_sem, q6_8, q6_15]) (by simp [go_sem, q6_9, q6_15]) (by simp [go_sem, q6_10, q6_15]) (by simp [go_sem, q6_11, q6_15]) (by simp [go_sem, q6_12, q6_15]) (by simp [go_sem, q6_13, q6_15]) (by simp [go_sem, q6_14, q6_15]) (by simp [go_sem, q6_15, q6_15])) j v hv
  have hth : (w6.setCell ⟨w.heap.size, 15, none⟩ (.slice b8 d.ctors.length e8)).there (w.heap.size + 1) 0 16 := there_set (by omega) TH6.out
  have hone : ∀ v ∈ ([.int .i64 d.kind, .int .i64 d.levels, .int .i64 d.type.kind, .int .i64 d.type.num, .int .i64 d.type.at_, .slice b1 d.type.levels.length e1, .slice b2 d.type.kids.length e2, .int .i64 d.body.kind, .int .i64 d.body.num, .int .i64 d.body.at_, .slice b3 d.body.levels.length e3, .slice b4 d.body.kids.length e4, .slice b5 d.params.length e5, .slice b6 d.sort.parts.length e6, .slice b7 d.members.length e7, .slice b8 d.ctors.length e8] : List Value), v.oneCell' = true := (by intro u hu; simp only [List.mem_cons, List.not_mem_nil, or_false] at hu; rcases hu with rfl | rfl | rfl | rfl | rfl | rfl | rfl | rfl | rfl | rfl | rfl | rfl | rfl | rfl | rfl | rfl <;> rfl)
  have Hone := hid hone
  clear hone
  go_wp2_with (first | ((with_reducible show wpList _ _ _ (⟨_, Op.load 42 _, _, _, _, _⟩ :: _) _ _); refine wpList_load_mid (by rfl) 42 _ (by rfl) w.heap.size 0 (by rfl) [.int .i64 d.kind, .int .i64 d.levels, .int .i64 d.type.kind, .int .i64 d.type.num, .int .i64 d.type.at_, .slice b1 d.type.levels.length e1, .slice b2 d.type.kids.length e2, .int .i64 d.body.kind, .int .i64 d.body.num, .int .i64 d.body.at_, .slice b3 d.body.levels.length e3, .slice b4 d.body.kids.length e4, .slice b5 d.params.length e5, .slice b6 d.sort.parts.length e6, .slice b7 d.members.length e7, .slice b8 d.ctors.length e8] _ (by exact hrange) hu (by rfl) hi42 ?_) | ((with_reducible show wpList _ _ _ (⟨_, Op.store 42 _ _, _, _, _, _⟩ :: _) _ _); refine wpList_store_mid (by rfl) 42 _ _ (by rfl) (w.heap.size + 1) 0 #[.int .i64 d.kind, .int .i64 d.levels, .int .i64 d.type.kind, .int .i64 d.type.num, .int .i64 d.type.at_, .slice b1 d.type.levels.length e1, .slice b2 d.type.kids.length e2, .int .i64 d.body.kind, .int .i64 d.body.num, .int .i64 d.body.at_, .slice b3 d.body.levels.length e3, .slice b4 d.body.kids.length e4, .slice b5 d.params.length e5, .slice b6 d.sort.parts.length e6, .slice b7 d.members.length e7, .slice b8 d.ctors.length e8] (by rfl) (by rfl) (by exact hth) hi42 (all_oneCell_toArray Hone.out) ?_))
  refine bodyPost_ret (v := .agg #[.int .i64 d.kind, .int .i64 d.levels, .int .i64 d.type.kind, .int .i64 d.type.num, .int .i64 d.type.at_, .slice b1 d.type.levels.length e1, .slice b2 d.type.kids.length e2, .int .i64 d.body.kind, .int .i64 d.body.num, .int .i64 d.body.at_, .slice b3 d.body.levels.length e3, .slice b4 d.body.kids.length e4, .slice b5 d.params.length e5, .slice b6 d.sort.parts.length e6, .slice b7 d.members.length e7, .slice b8 d.ctors.length e8]) (results_cell_mid (by rfl) _ _ (w.heap.size + 1) [.int .i64 d.kind, .int .i64 d.levels, .int .i64 d.type.kind, .int .i64 d.type.num, .int .i64 d.type.at_, .slice b1 d.type.levels.length e1, .slice b2 d.type.kids.length e2, .int .i64 d.body.kind, .int .i64 d.body.num, .int .i64 d.body.at_, .slice b3 d.body.levels.length e3, .slice b4 d.body.kids.length e4, .slice b5 d.params.length e5, .slice b6 d.sort.parts.length e6, .slice b7 d.members.length e7, .slice b8 d.ctors.length e8] _ (by rfl) (World.rangeAt_setCells_same _ _ _ _ hth) hu (by rfl) hi42) rfl ?_
  refine ⟨((Hx6.out.st (by simp) _)).sets (by omega) _ _, _, rfl, [_, _, _, _, _], [_, _, _, _, _], _, _, _, _, rfl, ⟨Hik.out, Hil.out⟩, monoC_term _ _ _ _ ?_ HL1.out, monoC_term _ _ _ _ ?_ HL2.out, HL3.out.sub monoC_term ?_, ?_, HL5.out.sub monoC_member ?_, HL6.out.sub monoC_ctor ?_⟩
  · exact ((K1_6.out.tr (frm_set (by omega))).tr (frm_sets (by omega) _ _ _)).tr (frm_le (by omega) _)
  · exact ((K2_6.out.tr (frm_set (by omega))).tr (frm_sets (by omega) _ _ _)).tr (frm_le (by omega) _)
  · exact ((K3_6.out.tr (frm_set (by omega))).tr (frm_sets (by omega) _ _ _)).tr (frm_le (by omega) _)
  · obtain ⟨v, hv, hh⟩ := HL4.out
    cases hv
    exact hh.sub monoC_part (((K4_6.out.tr (frm_set (by omega))).tr (frm_sets (by omega) _ _ _)).tr (frm_le (by omega) _))
  · exact ((K5_6.out.tr (frm_set (by omega))).tr (frm_sets (by omega) _ _ _)).tr (frm_le (by omega) _)
  · exact ((K6_6.out.tr (frm_set (by omega))).tr (frm_sets (by omega) _ _ _)).tr (frm_le (by omega) _)
end Go.Proofs.YtjaklnabidbmiaaGreatDoor

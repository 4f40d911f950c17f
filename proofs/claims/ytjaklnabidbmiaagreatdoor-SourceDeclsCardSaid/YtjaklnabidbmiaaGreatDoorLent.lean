/- Walks: spandrelkit.Lent..: what they give reads as what came in, with marks behind each row's end, all of it new. Printed by gen_lent.py. -/
import Derived.Test.YtjaklnabidbmiaaGreatDoorLentR
namespace Go.Proofs.YtjaklnabidbmiaaGreatDoor
open Go.RowKit
set_option linter.unusedSimpArgs false
set_option linter.unusedVariables false
/-- It gives a row that reads as xs, all of it in blocks that it made. -/
def GivesS {α : Type} (S : World → List α → Value → Prop) (xs : List α) (w : World) (e : Ending) (w' : World) : Prop := Ext w w' ∧ ∃ v, e = .returned v ∧ S (frm w.heap.size w') xs v
theorem own_empty {α : Type} {R : World → α → List Value → Prop} {sz : Nat} {ty : TypeId} {n0 base : Nat} {w : World} {v : Value} (h : w.ownsRow base ty sz v 0 []) : OwnS R sz ty n0 base w ([] : List α) v := ⟨[], h, fun i x h => by simp at h⟩
theorem ext_name2 {w w' : World} (h : Ext w w') : ∃ W : World, W = w' := ⟨_, rfl⟩
theorem rlterm_open {w : World} {t : Term} {cs : List Value} (h : RLTerm w t cs) : ∃ b c b' c', cs = [.int .i64 t.kind, .int .i64 t.num, .int .i64 t.at_, .slice (some ⟨b, 0, none⟩) t.levels.length c, .slice (some ⟨b', 0, none⟩) t.kids.length c'] := by
  cases t
  obtain ⟨vl, vk, rfl, _, ⟨b, c, rfl, _⟩, ⟨b', c', rfl, _⟩⟩ := rlterm_iff.1 h
  exact ⟨b, c, b', c', rfl⟩
theorem info_part : (Tryz.prog.info? 104).map (fun i => (i.zero, i.size, i.bytes)) = some (some (.agg #[.int .i64 0, .int .i64 0]), 2, 16) := by kernel_rfl
theorem info_level : (Tryz.prog.info? 38).map (fun i => (i.zero, i.size, i.bytes)) = some (some (.agg #[.slice none 0 0]), 1, 24) := by kernel_rfl
theorem info_term : (Tryz.prog.info? 27).map (fun i => (i.zero, i.size, i.bytes)) = some (some (.agg #[.int .i64 0, .int .i64 0, .int .i64 0, .slice none 0 0, .slice none 0 0]), 5, 72) := by kernel_rfl
theorem info_member : (Tryz.prog.info? 71).map (fun i => (i.zero, i.size, i.bytes)) = some (some (.agg #[.slice none 0 0]), 1, 24) := by kernel_rfl
theorem info_ctor : (Tryz.prog.info? 74).map (fun i => (i.zero, i.size, i.bytes)) = some (some (.agg #[.int .i64 0, .int .i64 0, .int .i64 0, .int .i64 0, .slice none 0 0, .slice none 0 0]), 6, 80) := by kernel_rfl
theorem info_decl : (Tryz.prog.info? 42).map (fun i => (i.zero, i.size, i.bytes)) = some (some (.agg #[.int .i64 0, .int .i64 0, .int .i64 0, .int .i64 0, .int .i64 0, .slice none 0 0, .slice none 0 0, .int .i64 0, .int .i64 0, .int .i64 0, .slice none 0 0, .slice none 0 0, .slice none 0 0, .slice none 0 0, .slice none 0 0, .slice none 0 0]), 16, 256) := by kernel_rfl
theorem cells1 {w : World} {g : Nat} {a0 : Value} (h0 : w.cell? ⟨g, 0, none⟩ = some a0) : cellsAt w g 0 [a0] := fun j v hv => by
  match j, hv with
  | 0, hv => simp at hv; subst hv; exact h0
theorem cells6 {w : World} {g : Nat} {a0 a1 a2 a3 a4 a5 : Value} (h0 : w.cell? ⟨g, 0, none⟩ = some a0) (h1 : w.cell? ⟨g, 1, none⟩ = some a1) (h2 : w.cell? ⟨g, 2, none⟩ = some a2) (h3 : w.cell? ⟨g, 3, none⟩ = some a3) (h4 : w.cell? ⟨g, 4, none⟩ = some a4) (h5 : w.cell? ⟨g, 5, none⟩ = some a5) : cellsAt w g 0 [a0, a1, a2, a3, a4, a5] := fun j v hv => by
  match j, hv with
  | 0, hv => simp at hv; subst hv; exact h0
  | 1, hv => simp at hv; subst hv; exact h1
  | 2, hv => simp at hv; subst hv; exact h2
  | 3, hv => simp at hv; subst hv; exact h3
  | 4, hv => simp at hv; subst hv; exact h4
  | 5, hv => simp at hv; subst hv; exact h5
theorem cells16 {w : World} {g : Nat} {a0 a1 a2 a3 a4 a5 a6 a7 a8 a9 a10 a11 a12 a13 a14 a15 : Value} (h0 : w.cell? ⟨g, 0, none⟩ = some a0) (h1 : w.cell? ⟨g, 1, none⟩ = some a1) (h2 : w.cell? ⟨g, 2, none⟩ = some a2) (h3 : w.cell? ⟨g, 3, none⟩ = some a3) (h4 : w.cell? ⟨g, 4, none⟩ = some a4) (h5 : w.cell? ⟨g, 5, none⟩ = some a5) (h6 : w.cell? ⟨g, 6, none⟩ = some a6) (h7 : w.cell? ⟨g, 7, none⟩ = some a7) (h8 : w.cell? ⟨g, 8, none⟩ = some a8) (h9 : w.cell? ⟨g, 9, none⟩ = some a9) (h10 : w.cell? ⟨g, 10, none⟩ = some a10) (h11 : w.cell? ⟨g, 11, none⟩ = some a11) (h12 : w.cell? ⟨g, 12, none⟩ = some a12) (h13 : w.cell? ⟨g, 13, none⟩ = some a13) (h14 : w.cell? ⟨g, 14, none⟩ = some a14) (h15 : w.cell? ⟨g, 15, none⟩ = some a15) : cellsAt w g 0 [a0, a1, a2, a3, a4, a5, a6, a7, a8, a9, a10, a11, a12, a13, a14, a15] := fun j v hv => by
  match j, hv with
  | 0, hv => simp at hv; subst hv; exact h0
  | 1, hv => simp at hv; subst hv; exact h1
  | 2, hv => simp at hv; subst hv; exact h2
  | 3, hv => simp at hv; subst hv; exact h3
  | 4, hv => simp at hv; subst hv; exact h4
  | 5, hv => simp at hv; subst hv; exact h5
  | 6, hv => simp at hv; subst hv; exact h6
  | 7, hv => simp at hv; subst hv; exact h7
  | 8, hv => simp at hv; subst hv; exact h8
  | 9, hv => simp at hv; subst hv; exact h9
  | 10, hv => simp at hv; subst hv; exact h10
  | 11, hv => simp at hv; subst hv; exact h11
  | 12, hv => simp at hv; subst hv; exact h12
  | 13, hv => simp at hv; subst hv; exact h13
  | 14, hv => simp at hv; subst hv; exact h14
  | 15, hv => simp at hv; subst hv; exact h15
def partCells (xs : List Part) : List Value := xs.flatMap fun p => [.int .i64 p.v, .int .i64 p.p]
theorem partCells_len (xs : List Part) : (partCells xs).length = xs.length * 2 := by
  induction xs with
  | nil => rfl
  | cons x xs ih => simp only [partCells, List.flatMap_cons, List.length_append, List.length_cons, List.length_nil] at ih ⊢; omega
theorem partCells_at : ∀ (xs : List Part) (i : Nat) (p : Part), xs[i]? = some p → ∀ j u, [Value.int .i64 p.v, Value.int .i64 p.p][j]? = some u → (partCells xs)[i * 2 + j]? = some u
  | [], i, p, h => by simp at h
  | x :: xs, 0, p, h => fun j u hu => by
    simp at h; subst h
    simp only [partCells, List.flatMap_cons, Nat.zero_mul, Nat.zero_add]
    rw [List.getElem?_append_left (by have := (List.getElem?_eq_some_iff.1 hu).1; simpa using this)]
    exact hu
  | x :: xs, i + 1, p, h => fun j u hu => by
    have := partCells_at xs i p (by simpa using h) j u hu
    simp only [partCells, List.flatMap_cons] at this ⊢
    rw [List.getElem?_append_right (by simp; omega)]
    simp only [List.length_cons, List.length_nil]
    rwa [show (i + 1) * 2 + j - (0 + 1 + 1) = i * 2 + j by omega]
theorem partCells_of : ∀ (xs : List Part) (j : Nat) (u : Value), (partCells xs)[j]? = some u → ∃ p, xs[j / 2]? = some p ∧ [Value.int .i64 p.v, Value.int .i64 p.p][j % 2]? = some u
  | [], j, u, h => by simp [partCells] at h
  | x :: xs, 0, u, h => ⟨x, rfl, by simpa [partCells] using h⟩
  | x :: xs, 1, u, h => ⟨x, rfl, by simpa [partCells] using h⟩
  | x :: xs, j + 2, u, h => by
    have h' : (partCells xs)[j]? = some u := by simpa [partCells] using h
    obtain ⟨p, h1, h2⟩ := partCells_of xs j u h'
    exact ⟨p, by rw [show (j + 2) / 2 = j / 2 + 1 by omega]; simpa using h1, by rw [show (j + 2) % 2 = j % 2 by omega]; exact h2⟩
section
variable {P : Program} {ops : Array Oper} {rest : List Oper} {o : Oper} {a : Act} {Q : Exit → Act → World → Prop} {w : World}
/-- A whole row of parts behind an empty row that has room. -/
theorem wpList_append_parts (hgd : o.guard = none) (s x : Operand) (t : TypeId) (ho : o.op = .call { callee := .builtin .append, args := #[s, x], argTypes := #[t, t] })
    (base : Nat) (e : TypeId) (i : TypeInfo) (ht : P.underlying t = some (.slice e)) (hi : P.info? e = some i) (hsize : i.size = 2) (g cap : Nat)
    (hs : a.eval s = .slice (some ⟨g, 0, none⟩) 0 cap) (hown : w.ownsRow base e 2 (.slice (some ⟨g, 0, none⟩) 0 cap) 0 []) (xs : List Part) (A : Option Addr) (c : Nat) (hx : a.eval x = .slice A xs.length c) (hr : Row RPart 2 16 w A xs) (hroom : xs.length ≤ cap)
    (h : ∀ w', (∀ n0, OwnS (RL2 RPart RPart) 2 e n0 base w' (filled mkPart xs 0) (.slice (some ⟨g, 0, none⟩) xs.length cap)) → w.grownBy w' (some g) → wpList P ops Q rest (a.put o.dst (.slice (some ⟨g, 0, none⟩) xs.length cap)) w') : wpList P ops Q (o :: rest) a w := by
  have key : ∀ w', w'.ownsRow base e 2 (.slice (some ⟨g, 0, none⟩) xs.length cap) xs.length (partCells xs) → (∀ p ∈ xs, inI p.v ∧ inI p.p) → ∀ n0, OwnS (RL2 RPart RPart) 2 e n0 base w' (filled mkPart xs 0) (.slice (some ⟨g, 0, none⟩) xs.length cap) := by
    intro w' h1 hin n0
    refine ⟨partCells xs, by simpa [filled] using h1, fun i y hy => ?_⟩
    simp only [filled, List.range_zero, List.map_nil, List.append_nil, List.getElem?_map, Option.map_eq_some_iff] at hy
    obtain ⟨p, hp, rfl⟩ := hy
    have := hin p (List.mem_of_getElem? hp)
    exact ⟨_, ⟨rfl, this.1, this.2⟩, rfl, fun j u hu => partCells_at xs i p hp j u hu⟩
  by_cases hne : xs = []
  · subst hne
    refine wpList_plain hgd fun K hK => ?_
    have hrun : (Builtin.append_ #[t, t] o.type #[.slice (some ⟨g, 0, none⟩) 0 cap, .slice A 0 c]).run P w = .ok (.slice (some ⟨g, 0, none⟩) 0 cap) w := by
      cases A <;> simp [Builtin.append_, run_underlying ht, sizeOf, typeInfo, hi, Builtin.lenOf, Builtin.firstCells, loadCells, loadCellsFrom, storeCells]
    unfold Oper.wp execOp
    simp only [ho, resolve, invoke, builtin, Sem.run_bind, Sem.run_pure, Result.andThen_ok, List.map_toArray, List.map_cons, List.map_nil, hs, hx, List.length_nil, hrun]
    exact hK _ _ (h w (key w hown (fun p hp => by cases hp)) (World.grownBy.refl _ _))
  · obtain ⟨b, off, rfl, hel⟩ := hr.2 hne
    have hin : ∀ p ∈ xs, inI p.v ∧ inI p.p := fun p hp => by
      obtain ⟨i, hi', rfl⟩ := List.mem_iff_getElem.1 hp
      obtain ⟨cs, h1, _⟩ := hel i xs[i] (List.getElem?_eq_getElem hi')
      exact h1.2
    refine wpList_append_fits w hgd s x t ho base e i 2 ht hi hsize g 0 cap [] hs hown ⟨b, off, none⟩ xs.length c (partCells xs) hx (partCells_len xs) (fun j u hu => ?_) (fun u hu => ?_) (by omega) (fun w' h1 h2 => ?_)
    · obtain ⟨p, hp, hu'⟩ := partCells_of xs j u hu
      obtain ⟨cs, ⟨rfl, _⟩, h2⟩ := hel _ p hp
      have := h2 _ _ hu'
      rw [Addr.add_lit]
      rwa [show off + j / 2 * 2 + j % 2 = off + j by omega] at this
    · obtain ⟨p, _, hp⟩ := List.mem_flatMap.1 hu
      simp only [List.mem_cons, List.not_mem_nil, or_false] at hp
      rcases hp with rfl | rfl <;> rfl
    · rw [Nat.zero_add, List.nil_append] at h1
      rw [Nat.zero_add]
      exact h w' (key w' h1 hin) h2
end
set_option maxRecDepth 100000 in
set_option maxHeartbeats 2000000 in
theorem lentParts_any (xs : List Part) (v : Value) (w : World) (hs : Sl RPart 2 16 w xs v) : Calls Tryz.prog 83 #[v] w (GivesS (LSl RPart RPart mkPart 2 16) xs w) := by
  obtain ⟨A, c, rfl, hc, hr⟩ := hs
  have hl := hr.len_le
  have hb := hid hr.1
  obtain ⟨i0, hi, hz0, hz1, hz2⟩ := info_parts info_part
  have hi' := hid hi
  have hz0' := hid hz0
  have hz1' := hid hz1
  have hz2' := hid hz2
  have hbb : i0.bytes * (xs.length + 12) ≤ 281474976710656 := by rw [hz2]; have := hb.out; unfold LIM at this; omega
  have hbb' := hid hbb
  clear hi hz0 hz1 hz2 hbb
  go_enter Tryz.func83, Tryz.ntmps83
  go_wp2_with (first | ((with_reducible show wpList _ _ _ (⟨_, Op.makeSlice _ _ _, _, _, _, _⟩ :: _) _ _); refine wpList_make_own _ (by rfl) _ _ 36 (by rfl) w.heap.size 104 i0 _ 2 Tryz.underlying36 hi'.out hz0'.out hz1'.out .i64 .i64 _ (xs.length + 12) (by rfl) (by rfl) (by omega) hbb'.out (by unfold maxLen; omega) (Nat.le_refl _) ?_; intro w1 hown hgrow; have hx1 : Ext w w1 := grown_ext (Ext.rf w) hgrow (fun k h => by cases h); have Hown := hid hown; have Hgrow := hid hgrow; clear hown hgrow) | (at_builtin; refine wpList_append_parts (by rfl) _ _ 36 (by rfl) w.heap.size 104 i0 Tryz.underlying36 hi'.out hz1'.out w.heap.size (xs.length + 12) (by rfl) Hown.out xs A c (by rfl) (by exact hr.ext mono_part hx1) (by omega) ?_; intro w2 hown2 hg2))
  have hx : Ext w w2 := grown_ext hx1 hg2 (fun k h => by cases h; exact Nat.le_refl _)
  have Hown' := hid (hown2 w.heap.size)
  clear hown2 hg2 Hown Hgrow
  go_loopw [3, 4] (fun o i wv => ∃ k : Nat, k ≤ 12 ∧ i = .int .i64 k ∧ o = .slice (some ⟨w.heap.size, 0, none⟩) (xs.length + k) (xs.length + 12) ∧ Ext w wv ∧ OwnS (RL2 RPart RPart) 2 104 w.heap.size w.heap.size wv (filled mkPart xs k) (.slice (some ⟨w.heap.size, 0, none⟩) (xs.length + k) (xs.length + 12))) (fun _ i _ => 12 - (intOf i).toNat)
  case atStart => exact ⟨0, by omega, rfl, rfl, hx, Hown'.out⟩
  case round =>
    obtain ⟨k, hk, rfl, rfl, hxv, hown⟩ := hrel
    obtain ⟨wv, rfl⟩ := ext_name2 hxv
    have hgv := (hown.lt w.heap.size rfl).2
    have Hv := hid hown
    clear hown Hown'
    by_cases hlt : k < 12
    · go_wp2_with fail
      refine (markPart_any k _ (by omega)).mono ?_
      rintro e w2 ⟨hx2, cs', rfl, hL⟩
      have HL := hid hL
      obtain ⟨rfl, _⟩ := id hL
      clear hL
      have hkl : xs.length + k = (filled mkPart xs k).length := by rw [filled_len]
      have Hkl := hid hkl
      clear hkl
      go_wp2_with (at_builtin; refine wpList_append_room (monoC_rl2 monoC_part monoC_part) (by rfl) _ _ 36 (by rfl) 104 i0 Tryz.underlying36 hi'.out hz1'.out w.heap.size (xs.length + k) (xs.length + 12) (by rfl) (by exact Hv.out.ext (monoC_rl2 monoC_part monoC_part) (hx2.al _)) Hkl.out (by omega) w2.heap.size 1 (.inr (mkPart k)) [.int .i64 (mkPart k).v, .int .i64 (mkPart k).p] wv.heap.size (by rfl) (by exact cells2 (by simp [go_sem]) (by simp [go_sem])) rfl (by intro u hu; simp only [List.mem_cons, List.not_mem_nil, or_false] at hu; rcases hu with rfl | rfl <;> rfl) (by exact HL.out) (by exact hxv.size) hgv ?_; intro w3 hown3 hg3)
      rw [filled_snoc] at hown3
      have hx3 : Ext w w3 := grown_ext ((hxv.tr hx2).al _) hg3 (fun k h => by cases h; exact Nat.le_refl _)
      have Hown3 := hid hown3
      clear hown3 hg3
      go_wp2_with fail
      exact ⟨⟨k + 1, by omega, by go_num, rfl, hx3, Hown3.out⟩, by simp only [intOf]; omega⟩
    · obtain rfl : k = 12 := by omega
      go_wp2_with fail
      go_ret
      exact ⟨hxv, _, rfl, Hv.out.lent monoC_part monoC_part hb.out (Nat.le_refl _)⟩
set_option maxRecDepth 100000 in
set_option maxHeartbeats 1000000 in
theorem lentLevel_any (x : Level) (cs : List Value) (w : World) (h : RLevel w x cs) : Calls Tryz.prog 51 #[.agg cs.toArray] w (Gives RLLevel x w) := by
  obtain ⟨v, rfl, hs⟩ := h
  obtain ⟨A, c, rfl, _⟩ := id hs
  go_enter Tryz.func51, Tryz.ntmps51
  go_wp2_with fail
  refine (lentParts_any x.parts _ _ (hs.ext mono_part (((Ext.rf _).al _).al _))).mono ?_
  rintro e w1 ⟨hx, v', rfl, hL⟩
  obtain ⟨b, c', rfl, hrest⟩ := id hL
  have q0 : w1.cell? ⟨w.heap.size, 0, none⟩ = some (.slice A x.parts.length c) := hx.cell (by simp [go_sem])
  have q1 : w1.cell? ⟨w.heap.size + 1, 0, none⟩ = some (.slice none 0 0) := hx.cell (by simp [go_sem])
  have z0 : w1.frozen? ⟨w.heap.size, 0, none⟩ = false := (Below.frozen hx (by simp <;> omega)).trans (by simp [go_sem])
  have z1 : w1.frozen? ⟨w.heap.size + 1, 0, none⟩ = false := (Below.frozen hx (by simp <;> omega)).trans (by simp [go_sem])
  have HL := hid hL
  have Hx := hid hx
  clear hL hrest hx
  go_wp2_with fail
  refine bodyPost_ret (v := .agg #[.slice (some ⟨b, 0, none⟩) x.parts.length c']) (by simp [results, Tryz.results51, go_sem, q0, q1, z0, z1]) rfl ?_
  refine ⟨(((((Ext.rf _).al _).al _).tr Hx.out).st (by simp) _).st (by simp) _, [_], rfl, _, rfl, HL.out.sub monoC_part monoC_part ?_⟩
  exact ((frm_set (by simp <;> omega)).tr (frm_set (by simp <;> omega))).tr (frm_le (by simp <;> omega) _)
set_option maxRecDepth 100000 in
set_option maxHeartbeats 2000000 in
theorem lentLevels_any (xs : List Level) (v : Value) (w : World) (hs : Sl RLevel 1 24 w xs v) : Calls Tryz.prog 22 #[v] w (GivesS (LSl RLLevel RLevel mkLevel 1 24) xs w) := by
  obtain ⟨A, c, rfl, hc, hr⟩ := hs
  have hl := hr.len_le
  have hb := hid hr.1
  obtain ⟨i0, hi, hz0, hz1, hz2⟩ := info_parts info_level
  have hi' := hid hi
  have hz0' := hid hz0
  have hz1' := hid hz1
  have hz2' := hid hz2
  have hbb : i0.bytes * (xs.length + 12) ≤ 281474976710656 := by rw [hz2]; have := hb.out; unfold LIM at this; omega
  have hbb' := hid hbb
  clear hi hz0 hz1 hz2 hbb
  go_enter Tryz.func22, Tryz.ntmps22
  go_wp2_with ((with_reducible show wpList _ _ _ (⟨_, Op.makeSlice _ _ _, _, _, _, _⟩ :: _) _ _); refine wpList_make_own _ (by rfl) _ _ 24 (by rfl) w.heap.size 38 i0 _ 1 Tryz.underlying24 hi'.out hz0'.out hz1'.out .i64 .i64 _ (xs.length + 12) (by rfl) (by rfl) (by omega) hbb'.out (by unfold maxLen; omega) (Nat.le_refl _) ?_; intro w1 hown hgrow)
  have hx1 : Ext w w1 := grown_ext (Ext.rf w) hgrow (fun k h => by cases h)
  have hz1 := hown.lt w.heap.size rfl
  have Hown := hid (own_empty (R := RL2 RLLevel RLevel) (n0 := w.heap.size) hown)
  clear hown hgrow
  go_loopw [3, 4] (fun o i wr => ∃ k : Nat, k ≤ xs.length ∧ i = .int .i64 k ∧ o = .slice (some ⟨w.heap.size, 0, none⟩) k (xs.length + 12) ∧ Ext w wr ∧ OwnS (RL2 RLLevel RLevel) 1 38 w.heap.size w.heap.size wr (filled mkLevel (xs.take k) 0) (.slice (some ⟨w.heap.size, 0, none⟩) k (xs.length + 12))) (fun _ i _ => xs.length - (intOf i).toNat)
  case atStart => exact ⟨0, by omega, rfl, rfl, hx1, Hown.out⟩
  case round =>
    obtain ⟨k, hk, rfl, rfl, hx, hown⟩ := hrel
    obtain ⟨wr, rfl⟩ := ext_name2 hx
    have hgl := (hown.lt w.heap.size rfl).2
    have Hown' := hid hown
    clear hown Hown
    by_cases hlt : k < xs.length
    · obtain ⟨b, o, cs, rfl, hR, hcs0⟩ := hr.at_ hlt
      have HR := hid (mono_level _ _ _ _ hx hR)
      obtain ⟨vp, rfl, ⟨B1, e1, rfl, _⟩⟩ := hR
      have hcs := hcs0.ext hx
      have h0 := hcs.pick 0 rfl
      rw [Nat.add_zero] at h0
      rw [Nat.mul_one] at h0
      have hj2 : (k : Int) < (xs.length : Int) := by omega
      clear hcs hcs0 
      go_wp2_with fail
      refine (lentLevel_any xs[k] _ _ HR.out).mono ?_
      rintro e w2 ⟨hx2, cs', rfl, hL⟩
      have HL := hid hL
      obtain ⟨v1, rfl, ⟨g1, d1, rfl, _⟩⟩ := id hL
      clear hL h0
      have hkl : k = (filled mkLevel (xs.take k) 0).length := by rw [filled_len]; simp; omega
      have Hkl := hid hkl
      clear hkl
      go_wp2_with (at_builtin; refine wpList_append_room (monoC_rl2 monoC_llevel monoC_level) (by rfl) _ _ 24 (by rfl) 38 i0 Tryz.underlying24 hi'.out hz1'.out w.heap.size k (xs.length + 12) (by rfl) (by exact Hown'.out.ext (monoC_rl2 monoC_llevel monoC_level) ((hx2.al _).al _)) Hkl.out (by omega) (w2.heap.size + 1) 1 (.inl xs[k]) [.slice (some ⟨g1, 0, none⟩) xs[k].parts.length d1] wr.heap.size (by rfl) (by exact cells1 (by simp [go_sem])) rfl (by intro u hu; simp only [List.mem_cons, List.not_mem_nil, or_false] at hu; subst hu; rfl) (by exact monoC_llevel _ _ _ _ (frm_ext _ (((Ext.rf _).al _).al _)) HL.out) (by exact hx.size) hgl ?_; intro w3 hown3 hg3)
      rw [filled_take _ _ _ hlt] at hown3
      have hx3 : Ext w w3 := grown_ext (((hx.tr hx2).al _).al _) hg3 (fun k h => by cases h; exact Nat.le_refl _)
      have Hown3 := hid hown3
      clear hown3 hg3
      go_wp2_with fail
      exact ⟨⟨k + 1, by omega, by go_num, rfl, hx3, Hown3.out⟩, by simp only [intOf]; omega⟩
    · obtain rfl : k = xs.length := by omega
      rw [List.take_length] at Hown'
      go_wp2_with fail
      go_loopw [3, 6] (fun o i wv => ∃ k : Nat, k ≤ 12 ∧ i = .int .i64 k ∧ o = .slice (some ⟨w.heap.size, 0, none⟩) (xs.length + k) (xs.length + 12) ∧ Ext w wv ∧ OwnS (RL2 RLLevel RLevel) 1 38 w.heap.size w.heap.size wv (filled mkLevel xs k) (.slice (some ⟨w.heap.size, 0, none⟩) (xs.length + k) (xs.length + 12))) (fun _ i _ => 12 - (intOf i).toNat)
      case atStart => exact ⟨0, by omega, rfl, rfl, hx, Hown'.out⟩
      case round =>
        obtain ⟨k, hk, rfl, rfl, hxv, hown⟩ := hrel
        obtain ⟨wv, rfl⟩ := ext_name2 hxv
        have hgv := (hown.lt w.heap.size rfl).2
        have Hv := hid hown
        clear hown Hown'
        by_cases hlt : k < 12
        · go_wp2_with fail
          refine (markLevel_any k _ (by omega)).mono ?_
          rintro e w2 ⟨hx2, cs', rfl, hL⟩
          have HL := hid hL
          obtain ⟨v1, rfl, ⟨B1, e1, rfl, _⟩⟩ := id hL
          clear hL
          have hkl : xs.length + k = (filled mkLevel xs k).length := by rw [filled_len]
          have Hkl := hid hkl
          clear hkl
          go_wp2_with (at_builtin; refine wpList_append_room (monoC_rl2 monoC_llevel monoC_level) (by rfl) _ _ 24 (by rfl) 38 i0 Tryz.underlying24 hi'.out hz1'.out w.heap.size (xs.length + k) (xs.length + 12) (by rfl) (by exact Hv.out.ext (monoC_rl2 monoC_llevel monoC_level) (hx2.al _)) Hkl.out (by omega) w2.heap.size 1 (.inr (mkLevel k)) [.slice B1 (mkLevel k).parts.length e1] wv.heap.size (by rfl) (by exact cells1 (by simp [go_sem])) rfl (by intro u hu; simp only [List.mem_cons, List.not_mem_nil, or_false] at hu; subst hu; rfl) (by exact monoC_level _ _ _ _ (frm_ext _ ((Ext.rf _).al _)) HL.out) (by exact hxv.size) hgv ?_; intro w3 hown3 hg3)
          rw [filled_snoc] at hown3
          have hx3 : Ext w w3 := grown_ext ((hxv.tr hx2).al _) hg3 (fun k h => by cases h; exact Nat.le_refl _)
          have Hown3 := hid hown3
          clear hown3 hg3
          go_wp2_with fail
          exact ⟨⟨k + 1, by omega, by go_num, rfl, hx3, Hown3.out⟩, by simp only [intOf]; omega⟩
        · obtain rfl : k = 12 := by omega
          go_wp2_with fail
          go_ret
          exact ⟨hxv, _, rfl, Hv.out.lent monoC_llevel monoC_level hb.out (Nat.le_refl _)⟩
def LentTermP (t : Term) : Prop := ∀ (cs : List Value) (w : World), RTerm w t cs → Calls Tryz.prog 8 #[.agg cs.toArray] w (Gives RLTerm t w)
set_option maxRecDepth 100000 in
set_option maxHeartbeats 2000000 in
theorem lentTerms_of (xs : List Term) (v : Value) (w : World) (ih : ∀ t ∈ xs, LentTermP t) (hs : Sl RTerm 5 72 w xs v) : Calls Tryz.prog 23 #[v] w (GivesS (LSl RLTerm RTerm mkTerm 5 72) xs w) := by
  obtain ⟨A, c, rfl, hc, hr⟩ := hs
  have hl := hr.len_le
  have hb := hid hr.1
  have IH := hid ih
  clear ih
  obtain ⟨i0, hi, hz0, hz1, hz2⟩ := info_parts info_term
  have hi' := hid hi
  have hz0' := hid hz0
  have hz1' := hid hz1
  have hz2' := hid hz2
  have hbb : i0.bytes * (xs.length + 12) ≤ 281474976710656 := by rw [hz2]; have := hb.out; unfold LIM at this; omega
  have hbb' := hid hbb
  clear hi hz0 hz1 hz2 hbb
  go_enter Tryz.func23, Tryz.ntmps23
  go_wp2_with ((with_reducible show wpList _ _ _ (⟨_, Op.makeSlice _ _ _, _, _, _, _⟩ :: _) _ _); refine wpList_make_own _ (by rfl) _ _ 25 (by rfl) w.heap.size 27 i0 _ 5 Tryz.underlying25 hi'.out hz0'.out hz1'.out .i64 .i64 _ (xs.length + 12) (by rfl) (by rfl) (by omega) hbb'.out (by unfold maxLen; omega) (Nat.le_refl _) ?_; intro w1 hown hgrow)
  have hx1 : Ext w w1 := grown_ext (Ext.rf w) hgrow (fun k h => by cases h)
  have hz1 := hown.lt w.heap.size rfl
  have Hown := hid (own_empty (R := RL2 RLTerm RTerm) (n0 := w.heap.size) hown)
  clear hown hgrow
  go_loopw [3, 4] (fun o i wr => ∃ k : Nat, k ≤ xs.length ∧ i = .int .i64 k ∧ o = .slice (some ⟨w.heap.size, 0, none⟩) k (xs.length + 12) ∧ Ext w wr ∧ OwnS (RL2 RLTerm RTerm) 5 27 w.heap.size w.heap.size wr (filled mkTerm (xs.take k) 0) (.slice (some ⟨w.heap.size, 0, none⟩) k (xs.length + 12))) (fun _ i _ => xs.length - (intOf i).toNat)
  case atStart => exact ⟨0, by omega, rfl, rfl, hx1, Hown.out⟩
  case round =>
    obtain ⟨k, hk, rfl, rfl, hx, hown⟩ := hrel
    obtain ⟨wr, rfl⟩ := ext_name2 hx
    have hgl := (hown.lt w.heap.size rfl).2
    have Hown' := hid hown
    clear hown Hown
    by_cases hlt : k < xs.length
    · obtain ⟨b, o, cs, rfl, hR, hcs0⟩ := hr.at_ hlt
      have HR := hid (mono_term _ _ _ _ hx hR)
      obtain ⟨vl, vk, rfl, _, ⟨B1, e1, rfl, _⟩, ⟨B2, e2, rfl, _⟩⟩ := rterm_open hR
      have hcs := hcs0.ext hx
      have h0 := hcs.pick 0 rfl
      have h1 := hcs.pick 1 rfl
      have h2 := hcs.pick 2 rfl
      have h3 := hcs.pick 3 rfl
      have h4 := hcs.pick 4 rfl
      rw [Nat.add_zero] at h0
      have hj2 : (k : Int) < (xs.length : Int) := by omega
      clear hcs hcs0 hR
      go_wp2_with fail
      refine (IH.out xs[k] (List.getElem_mem hlt) _ _ HR.out).mono ?_
      rintro e w2 ⟨hx2, cs', rfl, hL⟩
      have HL := hid hL
      obtain ⟨g1, d1, g2, d2, rfl⟩ := rlterm_open hL
      clear hL h0 h1 h2 h3 h4
      have hkl : k = (filled mkTerm (xs.take k) 0).length := by rw [filled_len]; simp; omega
      have Hkl := hid hkl
      clear hkl
      go_wp2_with (at_builtin; refine wpList_append_room (monoC_rl2 monoC_lterm monoC_term) (by rfl) _ _ 25 (by rfl) 27 i0 Tryz.underlying25 hi'.out hz1'.out w.heap.size k (xs.length + 12) (by rfl) (by exact Hown'.out.ext (monoC_rl2 monoC_lterm monoC_term) ((hx2.al _).al _)) Hkl.out (by omega) (w2.heap.size + 1) 1 (.inl xs[k]) [.int .i64 xs[k].kind, .int .i64 xs[k].num, .int .i64 xs[k].at_, .slice (some ⟨g1, 0, none⟩) xs[k].levels.length d1, .slice (some ⟨g2, 0, none⟩) xs[k].kids.length d2] wr.heap.size (by rfl) (by exact cells5 (by simp [go_sem]) (by simp [go_sem]) (by simp [go_sem]) (by simp [go_sem]) (by simp [go_sem])) rfl (by intro u hu; simp only [List.mem_cons, List.not_mem_nil, or_false] at hu; rcases hu with rfl | rfl | rfl | rfl | rfl <;> rfl) (by exact monoC_lterm _ _ _ _ (frm_ext _ (((Ext.rf _).al _).al _)) HL.out) (by exact hx.size) hgl ?_; intro w3 hown3 hg3)
      rw [filled_take _ _ _ hlt] at hown3
      have hx3 : Ext w w3 := grown_ext (((hx.tr hx2).al _).al _) hg3 (fun k h => by cases h; exact Nat.le_refl _)
      have Hown3 := hid hown3
      clear hown3 hg3
      go_wp2_with fail
      exact ⟨⟨k + 1, by omega, by go_num, rfl, hx3, Hown3.out⟩, by simp only [intOf]; omega⟩
    · obtain rfl : k = xs.length := by omega
      rw [List.take_length] at Hown'
      go_wp2_with fail
      go_loopw [3, 6] (fun o i wv => ∃ k : Nat, k ≤ 12 ∧ i = .int .i64 k ∧ o = .slice (some ⟨w.heap.size, 0, none⟩) (xs.length + k) (xs.length + 12) ∧ Ext w wv ∧ OwnS (RL2 RLTerm RTerm) 5 27 w.heap.size w.heap.size wv (filled mkTerm xs k) (.slice (some ⟨w.heap.size, 0, none⟩) (xs.length + k) (xs.length + 12))) (fun _ i _ => 12 - (intOf i).toNat)
      case atStart => exact ⟨0, by omega, rfl, rfl, hx, Hown'.out⟩
      case round =>
        obtain ⟨k, hk, rfl, rfl, hxv, hown⟩ := hrel
        obtain ⟨wv, rfl⟩ := ext_name2 hxv
        have hgv := (hown.lt w.heap.size rfl).2
        have Hv := hid hown
        clear hown Hown'
        by_cases hlt : k < 12
        · go_wp2_with fail
          refine (markTerm_any k _ (by omega)).mono ?_
          rintro e w2 ⟨hx2, cs', rfl, hL⟩
          have HL := hid hL
          obtain ⟨vl, vk, rfl, _, ⟨B1, e1, rfl, _⟩, ⟨B2, e2, rfl, _⟩⟩ := rterm_open hL
          clear hL
          have hkl : xs.length + k = (filled mkTerm xs k).length := by rw [filled_len]
          have Hkl := hid hkl
          clear hkl
          go_wp2_with (at_builtin; refine wpList_append_room (monoC_rl2 monoC_lterm monoC_term) (by rfl) _ _ 25 (by rfl) 27 i0 Tryz.underlying25 hi'.out hz1'.out w.heap.size (xs.length + k) (xs.length + 12) (by rfl) (by exact Hv.out.ext (monoC_rl2 monoC_lterm monoC_term) (hx2.al _)) Hkl.out (by omega) w2.heap.size 1 (.inr (mkTerm k)) [.int .i64 (mkTerm k).kind, .int .i64 (mkTerm k).num, .int .i64 (mkTerm k).at_, .slice B1 (mkTerm k).levels.length e1, .slice B2 (mkTerm k).kids.length e2] wv.heap.size (by rfl) (by exact cells5 (by simp [go_sem]) (by simp [go_sem]) (by simp [go_sem]) (by simp [go_sem]) (by simp [go_sem])) rfl (by intro u hu; simp only [List.mem_cons, List.not_mem_nil, or_false] at hu; rcases hu with rfl | rfl | rfl | rfl | rfl <;> rfl) (by exact monoC_term _ _ _ _ (frm_ext _ ((Ext.rf _).al _)) HL.out) (by exact hxv.size) hgv ?_; intro w3 hown3 hg3)
          rw [filled_snoc] at hown3
          have hx3 : Ext w w3 := grown_ext ((hxv.tr hx2).al _) hg3 (fun k h => by cases h; exact Nat.le_refl _)
          have Hown3 := hid hown3
          clear hown3 hg3
          go_wp2_with fail
          exact ⟨⟨k + 1, by omega, by go_num, rfl, hx3, Hown3.out⟩, by simp only [intOf]; omega⟩
        · obtain rfl : k = 12 := by omega
          go_wp2_with fail
          go_ret
          exact ⟨hxv, _, rfl, Hv.out.lent monoC_lterm monoC_term hb.out (Nat.le_refl _)⟩
set_option maxRecDepth 100000 in
set_option maxHeartbeats 1000000 in
theorem lentTerm_step (k n a : Int) (ls : List Level) (ks : List Term) (ih : ∀ t ∈ ks, LentTermP t) : LentTermP (.mk k n a ls ks) := by
  intro cs w h
  obtain ⟨vl, vk, rfl, hin, hl, hk⟩ := rterm_iff.1 h
  have IH := hid ih
  have Hin := hid hin
  clear ih h hin
  obtain ⟨A1, c1, rfl, _⟩ := id hl
  obtain ⟨A2, c2, rfl, _⟩ := id hk
  go_enter Tryz.func8, Tryz.ntmps8
  go_wp2_with fail
  refine (lentLevels_any ls _ _ (hl.ext mono_level (((Ext.rf _).al _).al _))).mono ?_
  rintro e w1 ⟨hx, v1, rfl, hL⟩
  obtain ⟨b1, d1, rfl, _⟩ := id hL
  have q : ∀ j v, (#[.int .i64 k, .int .i64 n, .int .i64 a, .slice A1 ls.length c1, .slice A2 ks.length c2] : Array Value)[j]? = some v → w1.cell? ⟨w.heap.size, j, none⟩ = some v := fun j v hv => hx.cell (by simp [go_sem]; simpa using hv)
  have q0 := q 0 _ rfl
  have q1 := q 1 _ rfl
  have q2 := q 2 _ rfl
  have q3 := q 3 _ rfl
  have q4 := q 4 _ rfl
  clear q
  have z : ∀ j, w1.frozen? ⟨w.heap.size, j, none⟩ = false := fun j => (Below.frozen hx (by simp <;> omega)).trans (by simp [go_sem])
  have z3 := z 3
  have r0 : w1.cell? ⟨w.heap.size + 1, 0, none⟩ = some (.int .i64 0) := hx.cell (by simp [go_sem])
  have r1 : w1.cell? ⟨w.heap.size + 1, 1, none⟩ = some (.int .i64 0) := hx.cell (by simp [go_sem])
  have r2 : w1.cell? ⟨w.heap.size + 1, 2, none⟩ = some (.int .i64 0) := hx.cell (by simp [go_sem])
  have r3 : w1.cell? ⟨w.heap.size + 1, 3, none⟩ = some (.slice none 0 0) := hx.cell (by simp [go_sem])
  have r4 : w1.cell? ⟨w.heap.size + 1, 4, none⟩ = some (.slice none 0 0) := hx.cell (by simp [go_sem])
  have y : ∀ j, w1.frozen? ⟨w.heap.size + 1, j, none⟩ = false := fun j => (Below.frozen hx (by simp <;> omega)).trans (by simp [go_sem])
  have Y := hid y
  have Z := hid z
  have HL := hid hL
  have hxw : Ext w w1 := (((Ext.rf w).al _).al _).tr hx
  have hsz1 : w.heap.size + 1 < w1.heap.size := by have := hx.size; simp at this; omega
  have hf1 := hid (show Sub (frm (w.heap.size + 1 + 1) w1) (frm (w.heap.size + 1 + 1) w1) from Sub.rf _)
  have Hxw := hid hxw
  clear z y hL hx hxw
  go_wp2_with fail
  have hS2 : Ext w (w1.setCell ⟨w.heap.size, 3, none⟩ (.slice (some ⟨b1, 0, none⟩) ls.length d1)) := Hxw.out.st (by simp) _
  refine (lentTerms_of ks _ _ IH.out (hk.ext mono_term hS2)).mono ?_
  rintro e w2 ⟨hx2, v2, rfl, hL2⟩
  obtain ⟨b2, d2, rfl, _⟩ := id hL2
  have hcell : ∀ p v, (w1.setCell ⟨w.heap.size, 3, none⟩ (.slice (some ⟨b1, 0, none⟩) ls.length d1)).cell? p = some v → w2.cell? p = some v := fun p v hv => hx2.cell hv
  have p0 : w2.cell? ⟨w.heap.size, 0, none⟩ = some (.int .i64 k) := hcell _ _ (by simp [go_sem, q0])
  have p1 : w2.cell? ⟨w.heap.size, 1, none⟩ = some (.int .i64 n) := hcell _ _ (by simp [go_sem, q1])
  have p2 : w2.cell? ⟨w.heap.size, 2, none⟩ = some (.int .i64 a) := hcell _ _ (by simp [go_sem, q2])
  have p3 : w2.cell? ⟨w.heap.size, 3, none⟩ = some (.slice (some ⟨b1, 0, none⟩) ls.length d1) := hcell _ _ (by simp [go_sem, q3])
  have p4 : w2.cell? ⟨w.heap.size, 4, none⟩ = some (.slice A2 ks.length c2) := hcell _ _ (by simp [go_sem, q4])
  have s0 : w2.cell? ⟨w.heap.size + 1, 0, none⟩ = some (.int .i64 0) := hcell _ _ (by simp [go_sem, r0])
  have s1 : w2.cell? ⟨w.heap.size + 1, 1, none⟩ = some (.int .i64 0) := hcell _ _ (by simp [go_sem, r1])
  have s2 : w2.cell? ⟨w.heap.size + 1, 2, none⟩ = some (.int .i64 0) := hcell _ _ (by simp [go_sem, r2])
  have s3 : w2.cell? ⟨w.heap.size + 1, 3, none⟩ = some (.slice none 0 0) := hcell _ _ (by simp [go_sem, r3])
  have s4 : w2.cell? ⟨w.heap.size + 1, 4, none⟩ = some (.slice none 0 0) := hcell _ _ (by simp [go_sem, r4])
  have x4 : w2.frozen? ⟨w.heap.size, 4, none⟩ = false := (Below.frozen hx2 (by simp; omega)).trans (by simp [go_sem, Z.out])
  have yy : ∀ j, w2.frozen? ⟨w.heap.size + 1, j, none⟩ = false := fun j => (Below.frozen hx2 (by simp; omega)).trans (by simp [go_sem, Y.out])
  have y0 := yy 0
  have y1 := yy 1
  have y2 := yy 2
  have y3 := yy 3
  have y4 := yy 4
  have hb2 : w.heap.size + 1 < w2.heap.size := by have := hx2.size; simp at this; omega
  have HL2 := hid hL2
  have Hx2 := hid hx2
  clear hcell yy hL2 hx2 q0 q1 q2 q3 q4 r0 r1 r2 r3 r4 z3
  go_wp2_with fail
  refine bodyPost_ret (v := .agg #[.int .i64 k, .int .i64 n, .int .i64 a, .slice (some ⟨b1, 0, none⟩) ls.length d1, .slice (some ⟨b2, 0, none⟩) ks.length d2]) (by simp [results, Tryz.results8, go_sem, p0, p1, p2, p3, p4, s0, s1, s2, s3, s4, x4, y0, y1, y2, y3, y4]) rfl ?_
  refine ⟨((((((hS2.tr Hx2.out).st (by simp) _).st (by simp) _).st (by simp) _).st (by simp) _).st (by simp) _).st (by simp) _, [_, _, _, _, _], rfl, rlterm_iff.2 ⟨_, _, rfl, Hin.out, HL.out.sub monoC_llevel monoC_level ?_, HL2.out.sub monoC_lterm monoC_term ?_⟩⟩
  · exact ((((((((frm_set (by simp <;> omega)).tr (frm_ext _ Hx2.out)).tr (frm_set (by simp <;> omega))).tr (frm_set (by simp <;> omega))).tr (frm_set (by simp <;> omega))).tr (frm_set (by simp <;> omega))).tr (frm_set (by simp <;> omega))).tr (frm_set (by simp <;> omega))).tr (frm_le (by simp <;> omega) _)
  · exact (((((((frm_set (by simp <;> omega))).tr (frm_set (by simp <;> omega))).tr (frm_set (by simp <;> omega))).tr (frm_set (by simp <;> omega))).tr (frm_set (by simp <;> omega))).tr (frm_set (by simp <;> omega))).tr (frm_le (by simp <;> omega) _)
theorem lentTerm_any (t : Term) : LentTermP t := Term.ind (fun k n a ls ks ih => lentTerm_step k n a ls ks ih) t
theorem lentTerms_any (xs : List Term) (v : Value) (w : World) (hs : SlTerm w xs v) : Calls Tryz.prog 23 #[v] w (GivesS LSlTerm xs w) := lentTerms_of xs v w (fun t _ => lentTerm_any t) hs
set_option maxRecDepth 100000 in
set_option maxHeartbeats 1000000 in
theorem lentMember_any (x : Member) (cs : List Value) (w : World) (h : RMember w x cs) : Calls Tryz.prog 84 #[.agg cs.toArray] w (Gives RLMember x w) := by
  obtain ⟨v, rfl, hs⟩ := h
  obtain ⟨A, c, rfl, _⟩ := id hs
  go_enter Tryz.func84, Tryz.ntmps84
  go_wp2_with fail
  refine (lentTerms_any x.index _ _ (hs.ext mono_term (((Ext.rf _).al _).al _))).mono ?_
  rintro e w1 ⟨hx, v', rfl, hL⟩
  obtain ⟨b, c', rfl, hrest⟩ := id hL
  have q0 : w1.cell? ⟨w.heap.size, 0, none⟩ = some (.slice A x.index.length c) := hx.cell (by simp [go_sem])
  have q1 : w1.cell? ⟨w.heap.size + 1, 0, none⟩ = some (.slice none 0 0) := hx.cell (by simp [go_sem])
  have z0 : w1.frozen? ⟨w.heap.size, 0, none⟩ = false := (Below.frozen hx (by simp <;> omega)).trans (by simp [go_sem])
  have z1 : w1.frozen? ⟨w.heap.size + 1, 0, none⟩ = false := (Below.frozen hx (by simp <;> omega)).trans (by simp [go_sem])
  have HL := hid hL
  have Hx := hid hx
  clear hL hrest hx
  go_wp2_with fail
  refine bodyPost_ret (v := .agg #[.slice (some ⟨b, 0, none⟩) x.index.length c']) (by simp [results, Tryz.results84, go_sem, q0, q1, z0, z1]) rfl ?_
  refine ⟨(((((Ext.rf _).al _).al _).tr Hx.out).st (by simp) _).st (by simp) _, [_], rfl, _, rfl, HL.out.sub monoC_lterm monoC_term ?_⟩
  exact ((frm_set (by simp <;> omega)).tr (frm_set (by simp <;> omega))).tr (frm_le (by simp <;> omega) _)
set_option maxRecDepth 100000 in
set_option maxHeartbeats 2000000 in
theorem lentMembers_any (xs : List Member) (v : Value) (w : World) (hs : Sl RMember 1 24 w xs v) : Calls Tryz.prog 52 #[v] w (GivesS (LSl RLMember RMember mkMember 1 24) xs w) := by
  obtain ⟨A, c, rfl, hc, hr⟩ := hs
  have hl := hr.len_le
  have hb := hid hr.1
  obtain ⟨i0, hi, hz0, hz1, hz2⟩ := info_parts info_member
  have hi' := hid hi
  have hz0' := hid hz0
  have hz1' := hid hz1
  have hz2' := hid hz2
  have hbb : i0.bytes * (xs.length + 12) ≤ 281474976710656 := by rw [hz2]; have := hb.out; unfold LIM at this; omega
  have hbb' := hid hbb
  clear hi hz0 hz1 hz2 hbb
  go_enter Tryz.func52, Tryz.ntmps52
  go_wp2_with ((with_reducible show wpList _ _ _ (⟨_, Op.makeSlice _ _ _, _, _, _, _⟩ :: _) _ _); refine wpList_make_own _ (by rfl) _ _ 39 (by rfl) w.heap.size 71 i0 _ 1 Tryz.underlying39 hi'.out hz0'.out hz1'.out .i64 .i64 _ (xs.length + 12) (by rfl) (by rfl) (by omega) hbb'.out (by unfold maxLen; omega) (Nat.le_refl _) ?_; intro w1 hown hgrow)
  have hx1 : Ext w w1 := grown_ext (Ext.rf w) hgrow (fun k h => by cases h)
  have hz1 := hown.lt w.heap.size rfl
  have Hown := hid (own_empty (R := RL2 RLMember RMember) (n0 := w.heap.size) hown)
  clear hown hgrow
  go_loopw [3, 4] (fun o i wr => ∃ k : Nat, k ≤ xs.length ∧ i = .int .i64 k ∧ o = .slice (some ⟨w.heap.size, 0, none⟩) k (xs.length + 12) ∧ Ext w wr ∧ OwnS (RL2 RLMember RMember) 1 71 w.heap.size w.heap.size wr (filled mkMember (xs.take k) 0) (.slice (some ⟨w.heap.size, 0, none⟩) k (xs.length + 12))) (fun _ i _ => xs.length - (intOf i).toNat)
  case atStart => exact ⟨0, by omega, rfl, rfl, hx1, Hown.out⟩
  case round =>
    obtain ⟨k, hk, rfl, rfl, hx, hown⟩ := hrel
    obtain ⟨wr, rfl⟩ := ext_name2 hx
    have hgl := (hown.lt w.heap.size rfl).2
    have Hown' := hid hown
    clear hown Hown
    by_cases hlt : k < xs.length
    · obtain ⟨b, o, cs, rfl, hR, hcs0⟩ := hr.at_ hlt
      have HR := hid (mono_member _ _ _ _ hx hR)
      obtain ⟨vp, rfl, ⟨B1, e1, rfl, _⟩⟩ := hR
      have hcs := hcs0.ext hx
      have h0 := hcs.pick 0 rfl
      rw [Nat.add_zero] at h0
      rw [Nat.mul_one] at h0
      have hj2 : (k : Int) < (xs.length : Int) := by omega
      clear hcs hcs0 
      go_wp2_with fail
      refine (lentMember_any xs[k] _ _ HR.out).mono ?_
      rintro e w2 ⟨hx2, cs', rfl, hL⟩
      have HL := hid hL
      obtain ⟨v1, rfl, ⟨g1, d1, rfl, _⟩⟩ := id hL
      clear hL h0
      have hkl : k = (filled mkMember (xs.take k) 0).length := by rw [filled_len]; simp; omega
      have Hkl := hid hkl
      clear hkl
      go_wp2_with (at_builtin; refine wpList_append_room (monoC_rl2 monoC_lmember monoC_member) (by rfl) _ _ 39 (by rfl) 71 i0 Tryz.underlying39 hi'.out hz1'.out w.heap.size k (xs.length + 12) (by rfl) (by exact Hown'.out.ext (monoC_rl2 monoC_lmember monoC_member) ((hx2.al _).al _)) Hkl.out (by omega) (w2.heap.size + 1) 1 (.inl xs[k]) [.slice (some ⟨g1, 0, none⟩) xs[k].index.length d1] wr.heap.size (by rfl) (by exact cells1 (by simp [go_sem])) rfl (by intro u hu; simp only [List.mem_cons, List.not_mem_nil, or_false] at hu; subst hu; rfl) (by exact monoC_lmember _ _ _ _ (frm_ext _ (((Ext.rf _).al _).al _)) HL.out) (by exact hx.size) hgl ?_; intro w3 hown3 hg3)
      rw [filled_take _ _ _ hlt] at hown3
      have hx3 : Ext w w3 := grown_ext (((hx.tr hx2).al _).al _) hg3 (fun k h => by cases h; exact Nat.le_refl _)
      have Hown3 := hid hown3
      clear hown3 hg3
      go_wp2_with fail
      exact ⟨⟨k + 1, by omega, by go_num, rfl, hx3, Hown3.out⟩, by simp only [intOf]; omega⟩
    · obtain rfl : k = xs.length := by omega
      rw [List.take_length] at Hown'
      go_wp2_with fail
      go_loopw [3, 6] (fun o i wv => ∃ k : Nat, k ≤ 12 ∧ i = .int .i64 k ∧ o = .slice (some ⟨w.heap.size, 0, none⟩) (xs.length + k) (xs.length + 12) ∧ Ext w wv ∧ OwnS (RL2 RLMember RMember) 1 71 w.heap.size w.heap.size wv (filled mkMember xs k) (.slice (some ⟨w.heap.size, 0, none⟩) (xs.length + k) (xs.length + 12))) (fun _ i _ => 12 - (intOf i).toNat)
      case atStart => exact ⟨0, by omega, rfl, rfl, hx, Hown'.out⟩
      case round =>
        obtain ⟨k, hk, rfl, rfl, hxv, hown⟩ := hrel
        obtain ⟨wv, rfl⟩ := ext_name2 hxv
        have hgv := (hown.lt w.heap.size rfl).2
        have Hv := hid hown
        clear hown Hown'
        by_cases hlt : k < 12
        · go_wp2_with fail
          refine (markMember_any k _ (by omega)).mono ?_
          rintro e w2 ⟨hx2, cs', rfl, hL⟩
          have HL := hid hL
          obtain ⟨v1, rfl, ⟨B1, e1, rfl, _⟩⟩ := id hL
          clear hL
          have hkl : xs.length + k = (filled mkMember xs k).length := by rw [filled_len]
          have Hkl := hid hkl
          clear hkl
          go_wp2_with (at_builtin; refine wpList_append_room (monoC_rl2 monoC_lmember monoC_member) (by rfl) _ _ 39 (by rfl) 71 i0 Tryz.underlying39 hi'.out hz1'.out w.heap.size (xs.length + k) (xs.length + 12) (by rfl) (by exact Hv.out.ext (monoC_rl2 monoC_lmember monoC_member) (hx2.al _)) Hkl.out (by omega) w2.heap.size 1 (.inr (mkMember k)) [.slice B1 (mkMember k).index.length e1] wv.heap.size (by rfl) (by exact cells1 (by simp [go_sem])) rfl (by intro u hu; simp only [List.mem_cons, List.not_mem_nil, or_false] at hu; subst hu; rfl) (by exact monoC_member _ _ _ _ (frm_ext _ ((Ext.rf _).al _)) HL.out) (by exact hxv.size) hgv ?_; intro w3 hown3 hg3)
          rw [filled_snoc] at hown3
          have hx3 : Ext w w3 := grown_ext ((hxv.tr hx2).al _) hg3 (fun k h => by cases h; exact Nat.le_refl _)
          have Hown3 := hid hown3
          clear hown3 hg3
          go_wp2_with fail
          exact ⟨⟨k + 1, by omega, by go_num, rfl, hx3, Hown3.out⟩, by simp only [intOf]; omega⟩
        · obtain rfl : k = 12 := by omega
          go_wp2_with fail
          go_ret
          exact ⟨hxv, _, rfl, Hv.out.lent monoC_lmember monoC_member hb.out (Nat.le_refl _)⟩
set_option maxRecDepth 100000 in
set_option maxHeartbeats 1000000 in
theorem lentCtor_any (x : Ctor) (cs : List Value) (w : World) (h : RCtor w x cs) : Calls Tryz.prog 86 #[.agg cs.toArray] w (Gives RLCtor x w) := by
  obtain ⟨ct, rfl, hin, ht⟩ := h
  have Hin := hid hin
  have Ht := hid ht
  obtain ⟨vl, vk, rfl, _, ⟨A1, c1, rfl, _⟩, ⟨A2, c2, rfl, _⟩⟩ := rterm_open ht
  clear ht hin
  go_enter Tryz.func86, Tryz.ntmps86
  go_wp2_with fail
  refine (lentTerm_any x.type _ _ (mono_term _ _ _ _ (((Ext.rf _).al _).al _) Ht.out)).mono ?_
  rintro e w1 ⟨hx, cs', rfl, hL⟩
  have HL := hid hL
  obtain ⟨b1, d1, b2, d2, rfl⟩ := rlterm_open hL
  have z : ∀ j, w1.frozen? ⟨w.heap.size, j, none⟩ = false := fun j => (Below.frozen hx (by simp <;> omega)).trans (by simp [go_sem])
  have y : ∀ j, w1.frozen? ⟨w.heap.size + 1, j, none⟩ = false := fun j => (Below.frozen hx (by simp <;> omega)).trans (by simp [go_sem])
  have q0 : w1.cell? ⟨w.heap.size, 0, none⟩ = some (.int .i64 x.member) := hx.cell (by simp [go_sem])
  have r0 : w1.cell? ⟨w.heap.size + 1, 0, none⟩ = some (.int .i64 0) := hx.cell (by simp [go_sem])
  have z0 := z 0
  have y0 := y 0
  have q1 : w1.cell? ⟨w.heap.size, 1, none⟩ = some (.int .i64 x.type.kind) := hx.cell (by simp [go_sem])
  have r1 : w1.cell? ⟨w.heap.size + 1, 1, none⟩ = some (.int .i64 0) := hx.cell (by simp [go_sem])
  have z1 := z 1
  have y1 := y 1
  have q2 : w1.cell? ⟨w.heap.size, 2, none⟩ = some (.int .i64 x.type.num) := hx.cell (by simp [go_sem])
  have r2 : w1.cell? ⟨w.heap.size + 1, 2, none⟩ = some (.int .i64 0) := hx.cell (by simp [go_sem])
  have z2 := z 2
  have y2 := y 2
  have q3 : w1.cell? ⟨w.heap.size, 3, none⟩ = some (.int .i64 x.type.at_) := hx.cell (by simp [go_sem])
  have r3 : w1.cell? ⟨w.heap.size + 1, 3, none⟩ = some (.int .i64 0) := hx.cell (by simp [go_sem])
  have z3 := z 3
  have y3 := y 3
  have q4 : w1.cell? ⟨w.heap.size, 4, none⟩ = some (.slice A1 x.type.levels.length c1) := hx.cell (by simp [go_sem])
  have r4 : w1.cell? ⟨w.heap.size + 1, 4, none⟩ = some (.slice none 0 0) := hx.cell (by simp [go_sem])
  have z4 := z 4
  have y4 := y 4
  have q5 : w1.cell? ⟨w.heap.size, 5, none⟩ = some (.slice A2 x.type.kids.length c2) := hx.cell (by simp [go_sem])
  have r5 : w1.cell? ⟨w.heap.size + 1, 5, none⟩ = some (.slice none 0 0) := hx.cell (by simp [go_sem])
  have z5 := z 5
  have y5 := y 5
  have hsz1 : w.heap.size + 1 < w1.heap.size := by have := hx.size; simp at this; omega
  have Hxw := hid ((((Ext.rf w).al _).al _).tr hx)
  clear z y hL hx
  go_wp2_with fail
  refine bodyPost_ret (v := .agg #[.int .i64 x.member, .int .i64 x.type.kind, .int .i64 x.type.num, .int .i64 x.type.at_, .slice (some ⟨b1, 0, none⟩) x.type.levels.length d1, .slice (some ⟨b2, 0, none⟩) x.type.kids.length d2]) (by simp [results, Tryz.results86, go_sem, q0, r0, z0, y0, q1, r1, z1, y1, q2, r2, z2, y2, q3, r3, z3, y3, q4, r4, z4, y4, q5, r5, z5, y5]) rfl ?_
  refine ⟨((((((((((Hxw.out.st (by simp) _).st (by simp) _).st (by simp) _).st (by simp) _).st (by simp) _).st (by simp) _).st (by simp) _).st (by simp) _).st (by simp) _).st (by simp) _).st (by simp) _, [_, _, _, _, _, _], rfl, _, rfl, Hin.out, monoC_lterm _ _ _ _ ?_ HL.out⟩
  exact ((((((((((((frm_set (by simp <;> omega))).tr (frm_set (by simp <;> omega))).tr (frm_set (by simp <;> omega))).tr (frm_set (by simp <;> omega))).tr (frm_set (by simp <;> omega))).tr (frm_set (by simp <;> omega))).tr (frm_set (by simp <;> omega))).tr (frm_set (by simp <;> omega))).tr (frm_set (by simp <;> omega))).tr (frm_set (by simp <;> omega))).tr (frm_set (by simp <;> omega))).tr (frm_le (by simp <;> omega) _)
set_option maxRecDepth 100000 in
set_option maxHeartbeats 2000000 in
theorem lentCtors_any (xs : List Ctor) (v : Value) (w : World) (hs : Sl RCtor 6 80 w xs v) : Calls Tryz.prog 53 #[v] w (GivesS (LSl RLCtor RCtor mkCtor 6 80) xs w) := by
  obtain ⟨A, c, rfl, hc, hr⟩ := hs
  have hl := hr.len_le
  have hb := hid hr.1
  obtain ⟨i0, hi, hz0, hz1, hz2⟩ := info_parts info_ctor
  have hi' := hid hi
  have hz0' := hid hz0
  have hz1' := hid hz1
  have hz2' := hid hz2
  have hbb : i0.bytes * (xs.length + 12) ≤ 281474976710656 := by rw [hz2]; have := hb.out; unfold LIM at this; omega
  have hbb' := hid hbb
  clear hi hz0 hz1 hz2 hbb
  go_enter Tryz.func53, Tryz.ntmps53
  go_wp2_with ((with_reducible show wpList _ _ _ (⟨_, Op.makeSlice _ _ _, _, _, _, _⟩ :: _) _ _); refine wpList_make_own _ (by rfl) _ _ 40 (by rfl) w.heap.size 74 i0 _ 6 Tryz.underlying40 hi'.out hz0'.out hz1'.out .i64 .i64 _ (xs.length + 12) (by rfl) (by rfl) (by omega) hbb'.out (by unfold maxLen; omega) (Nat.le_refl _) ?_; intro w1 hown hgrow)
  have hx1 : Ext w w1 := grown_ext (Ext.rf w) hgrow (fun k h => by cases h)
  have hz1 := hown.lt w.heap.size rfl
  have Hown := hid (own_empty (R := RL2 RLCtor RCtor) (n0 := w.heap.size) hown)
  clear hown hgrow
  go_loopw [3, 4] (fun o i wr => ∃ k : Nat, k ≤ xs.length ∧ i = .int .i64 k ∧ o = .slice (some ⟨w.heap.size, 0, none⟩) k (xs.length + 12) ∧ Ext w wr ∧ OwnS (RL2 RLCtor RCtor) 6 74 w.heap.size w.heap.size wr (filled mkCtor (xs.take k) 0) (.slice (some ⟨w.heap.size, 0, none⟩) k (xs.length + 12))) (fun _ i _ => xs.length - (intOf i).toNat)
  case atStart => exact ⟨0, by omega, rfl, rfl, hx1, Hown.out⟩
  case round =>
    obtain ⟨k, hk, rfl, rfl, hx, hown⟩ := hrel
    obtain ⟨wr, rfl⟩ := ext_name2 hx
    have hgl := (hown.lt w.heap.size rfl).2
    have Hown' := hid hown
    clear hown Hown
    by_cases hlt : k < xs.length
    · obtain ⟨b, o, cs, rfl, hR, hcs0⟩ := hr.at_ hlt
      have HR := hid (mono_ctor _ _ _ _ hx hR)
      obtain ⟨ct, rfl, _, hct⟩ := hR
      obtain ⟨vl, vk, rfl, _, ⟨B1, e1, rfl, _⟩, ⟨B2, e2, rfl, _⟩⟩ := rterm_open hct
      have hcs := hcs0.ext hx
      have h0 := hcs.pick 0 rfl
      have h1 := hcs.pick 1 rfl
      have h2 := hcs.pick 2 rfl
      have h3 := hcs.pick 3 rfl
      have h4 := hcs.pick 4 rfl
      have h5 := hcs.pick 5 rfl
      rw [Nat.add_zero] at h0
      have hj2 : (k : Int) < (xs.length : Int) := by omega
      clear hcs hcs0 hct
      go_wp2_with fail
      refine (lentCtor_any xs[k] _ _ HR.out).mono ?_
      rintro e w2 ⟨hx2, cs', rfl, hL⟩
      have HL := hid hL
      obtain ⟨ct, rfl, _, hct1⟩ := id hL
      obtain ⟨g1, d1, g2, d2, rfl⟩ := rlterm_open hct1
      clear hct1
      clear hL h0 h1 h2 h3 h4 h5
      have hkl : k = (filled mkCtor (xs.take k) 0).length := by rw [filled_len]; simp; omega
      have Hkl := hid hkl
      clear hkl
      go_wp2_with (at_builtin; refine wpList_append_room (monoC_rl2 monoC_lctor monoC_ctor) (by rfl) _ _ 40 (by rfl) 74 i0 Tryz.underlying40 hi'.out hz1'.out w.heap.size k (xs.length + 12) (by rfl) (by exact Hown'.out.ext (monoC_rl2 monoC_lctor monoC_ctor) ((hx2.al _).al _)) Hkl.out (by omega) (w2.heap.size + 1) 1 (.inl xs[k]) [.int .i64 xs[k].member, .int .i64 xs[k].type.kind, .int .i64 xs[k].type.num, .int .i64 xs[k].type.at_, .slice (some ⟨g1, 0, none⟩) xs[k].type.levels.length d1, .slice (some ⟨g2, 0, none⟩) xs[k].type.kids.length d2] wr.heap.size (by rfl) (by exact cells6 (by simp [go_sem]) (by simp [go_sem]) (by simp [go_sem]) (by simp [go_sem]) (by simp [go_sem]) (by simp [go_sem])) rfl (by intro u hu; simp only [List.mem_cons, List.not_mem_nil, or_false] at hu; rcases hu with rfl | rfl | rfl | rfl | rfl | rfl <;> rfl) (by exact monoC_lctor _ _ _ _ (frm_ext _ (((Ext.rf _).al _).al _)) HL.out) (by exact hx.size) hgl ?_; intro w3 hown3 hg3)
      rw [filled_take _ _ _ hlt] at hown3
      have hx3 : Ext w w3 := grown_ext (((hx.tr hx2).al _).al _) hg3 (fun k h => by cases h; exact Nat.le_refl _)
      have Hown3 := hid hown3
      clear hown3 hg3
      go_wp2_with fail
      exact ⟨⟨k + 1, by omega, by go_num, rfl, hx3, Hown3.out⟩, by simp only [intOf]; omega⟩
    · obtain rfl : k = xs.length := by omega
      rw [List.take_length] at Hown'
      go_wp2_with fail
      go_loopw [3, 6] (fun o i wv => ∃ k : Nat, k ≤ 12 ∧ i = .int .i64 k ∧ o = .slice (some ⟨w.heap.size, 0, none⟩) (xs.length + k) (xs.length + 12) ∧ Ext w wv ∧ OwnS (RL2 RLCtor RCtor) 6 74 w.heap.size w.heap.size wv (filled mkCtor xs k) (.slice (some ⟨w.heap.size, 0, none⟩) (xs.length + k) (xs.length + 12))) (fun _ i _ => 12 - (intOf i).toNat)
      case atStart => exact ⟨0, by omega, rfl, rfl, hx, Hown'.out⟩
      case round =>
        obtain ⟨k, hk, rfl, rfl, hxv, hown⟩ := hrel
        obtain ⟨wv, rfl⟩ := ext_name2 hxv
        have hgv := (hown.lt w.heap.size rfl).2
        have Hv := hid hown
        clear hown Hown'
        by_cases hlt : k < 12
        · go_wp2_with fail
          refine (markCtor_any k _ (by omega)).mono ?_
          rintro e w2 ⟨hx2, cs', rfl, hL⟩
          have HL := hid hL
          obtain ⟨ct, rfl, _, hct1⟩ := id hL
          obtain ⟨vl, vk, rfl, _, ⟨B1, e1, rfl, _⟩, ⟨B2, e2, rfl, _⟩⟩ := rterm_open hct1
          clear hct1
          clear hL
          have hkl : xs.length + k = (filled mkCtor xs k).length := by rw [filled_len]
          have Hkl := hid hkl
          clear hkl
          go_wp2_with (at_builtin; refine wpList_append_room (monoC_rl2 monoC_lctor monoC_ctor) (by rfl) _ _ 40 (by rfl) 74 i0 Tryz.underlying40 hi'.out hz1'.out w.heap.size (xs.length + k) (xs.length + 12) (by rfl) (by exact Hv.out.ext (monoC_rl2 monoC_lctor monoC_ctor) (hx2.al _)) Hkl.out (by omega) w2.heap.size 1 (.inr (mkCtor k)) [.int .i64 (mkCtor k).member, .int .i64 (mkCtor k).type.kind, .int .i64 (mkCtor k).type.num, .int .i64 (mkCtor k).type.at_, .slice B1 (mkCtor k).type.levels.length e1, .slice B2 (mkCtor k).type.kids.length e2] wv.heap.size (by rfl) (by exact cells6 (by simp [go_sem]) (by simp [go_sem]) (by simp [go_sem]) (by simp [go_sem]) (by simp [go_sem]) (by simp [go_sem])) rfl (by intro u hu; simp only [List.mem_cons, List.not_mem_nil, or_false] at hu; rcases hu with rfl | rfl | rfl | rfl | rfl | rfl <;> rfl) (by exact monoC_ctor _ _ _ _ (frm_ext _ ((Ext.rf _).al _)) HL.out) (by exact hxv.size) hgv ?_; intro w3 hown3 hg3)
          rw [filled_snoc] at hown3
          have hx3 : Ext w w3 := grown_ext ((hxv.tr hx2).al _) hg3 (fun k h => by cases h; exact Nat.le_refl _)
          have Hown3 := hid hown3
          clear hown3 hg3
          go_wp2_with fail
          exact ⟨⟨k + 1, by omega, by go_num, rfl, hx3, Hown3.out⟩, by simp only [intOf]; omega⟩
        · obtain rfl : k = 12 := by omega
          go_wp2_with fail
          go_ret
          exact ⟨hxv, _, rfl, Hv.out.lent monoC_lctor monoC_ctor hb.out (Nat.le_refl _)⟩
end Go.Proofs.YtjaklnabidbmiaaGreatDoor

/- Rows made new; whole rows behind rows of the call's own. Printed by gen_wide.py. -/
import Derived.Test.YtjaklnabidbmiaaDoorGen2
import Derived.Test.YtjaklnabidbmiaaDoorPair
import Derived.Deep.DeepAppendWide
namespace Go.Proofs.YtjaklnabidbmiaaDoor
open Go.RowKit
set_option linter.unusedSimpArgs false
set_option linter.unusedVariables false
/-- It gives a row that reads as xs, all of it in blocks that it made. -/
def GivesS {α : Type} (S : World → List α → Value → Prop) (xs : List α) (w : World) (e : Ending) (w' : World) : Prop := Ext w w' ∧ ∃ v, e = .returned v ∧ S (frm w.heap.size w') xs v
theorem own_empty {α : Type} {R : World → α → List Value → Prop} {sz : Nat} {ty : TypeId} {n0 base : Nat} {w : World} {v : Value} (h : w.ownsRow base ty sz v 0 []) : OwnS R sz ty n0 base w ([] : List α) v := ⟨[], h, fun i x h => by simp at h⟩
theorem ext_name2 {w w' : World} (h : Ext w w') : ∃ W : World, W = w' := ⟨_, rfl⟩
theorem info_part : (Tryd.prog.info? 44).map (fun i => (i.zero, i.size, i.bytes)) = some (some (.agg #[.int .i64 0, .int .i64 0]), 2, 16) := by kernel_rfl
theorem info_level : (Tryd.prog.info? 30).map (fun i => (i.zero, i.size, i.bytes)) = some (some (.agg #[.slice none 0 0]), 1, 24) := by kernel_rfl
theorem info_term : (Tryd.prog.info? 27).map (fun i => (i.zero, i.size, i.bytes)) = some (some (.agg #[.int .i64 0, .int .i64 0, .int .i64 0, .slice none 0 0, .slice none 0 0]), 5, 72) := by kernel_rfl
theorem info_member : (Tryd.prog.info? 38).map (fun i => (i.zero, i.size, i.bytes)) = some (some (.agg #[.slice none 0 0]), 1, 24) := by kernel_rfl
theorem info_ctor : (Tryd.prog.info? 46).map (fun i => (i.zero, i.size, i.bytes)) = some (some (.agg #[.int .i64 0, .int .i64 0, .int .i64 0, .int .i64 0, .slice none 0 0, .slice none 0 0]), 6, 80) := by kernel_rfl
theorem info_decl : (Tryd.prog.info? 34).map (fun i => (i.zero, i.size, i.bytes)) = some (some (.agg #[.int .i64 0, .int .i64 0, .int .i64 0, .int .i64 0, .int .i64 0, .slice none 0 0, .slice none 0 0, .int .i64 0, .int .i64 0, .int .i64 0, .slice none 0 0, .slice none 0 0, .slice none 0 0, .slice none 0 0, .slice none 0 0, .slice none 0 0]), 16, 256) := by kernel_rfl
theorem cells1 {w : World} {g : Nat} {a0 : Value} (h0 : w.cell? ⟨g, 0, none⟩ = some a0) : cellsAt w g 0 [a0] := fun j v hv => by
  match j, hv with
  | 0, hv => simp at hv; subst hv; exact h0
theorem cells6 {w : World} {g : Nat} {a0 a1 a2 a3 a4 a5 : Value} (h0 : w.cell? ⟨g, 0, none⟩ = some a0) (h1 : w.cell? ⟨g, 1, none⟩ = some a1) (h2 : w.cell? ⟨g, 2, none⟩ = some a2) (h3 : w.cell? ⟨g, 3, none⟩ = some a3) (h4 : w.cell? ⟨g, 4, none⟩ = some a4) (h5 : w.cell? ⟨g, 5, none⟩ = some a5) : cellsAt w g 0 [a0, a1, a2, a3, a4, a5] := fun j v hv => by
  match j, hv with
  | 0, hv => simp at hv; subst hv; exact h0
  | 1, hv => simp at hv; subst hv; exact h1
  | 2, hv => simp at hv; subst hv; exact h2
  | 3, hv => simp at hv; subst hv; exact h3
  | 4, hv => simp at hv; subst hv; exact h4
  | 5, hv => simp at hv; subst hv; exact h5
theorem cells16 {w : World} {g : Nat} {a0 a1 a2 a3 a4 a5 a6 a7 a8 a9 a10 a11 a12 a13 a14 a15 : Value} (h0 : w.cell? ⟨g, 0, none⟩ = some a0) (h1 : w.cell? ⟨g, 1, none⟩ = some a1) (h2 : w.cell? ⟨g, 2, none⟩ = some a2) (h3 : w.cell? ⟨g, 3, none⟩ = some a3) (h4 : w.cell? ⟨g, 4, none⟩ = some a4) (h5 : w.cell? ⟨g, 5, none⟩ = some a5) (h6 : w.cell? ⟨g, 6, none⟩ = some a6) (h7 : w.cell? ⟨g, 7, none⟩ = some a7) (h8 : w.cell? ⟨g, 8, none⟩ = some a8) (h9 : w.cell? ⟨g, 9, none⟩ = some a9) (h10 : w.cell? ⟨g, 10, none⟩ = some a10) (h11 : w.cell? ⟨g, 11, none⟩ = some a11) (h12 : w.cell? ⟨g, 12, none⟩ = some a12) (h13 : w.cell? ⟨g, 13, none⟩ = some a13) (h14 : w.cell? ⟨g, 14, none⟩ = some a14) (h15 : w.cell? ⟨g, 15, none⟩ = some a15) : cellsAt w g 0 [a0, a1, a2, a3, a4, a5, a6, a7, a8, a9, a10, a11, a12, a13, a14, a15] := fun j v hv => by
  match j, hv with
  | 0, hv => simp at hv; subst hv; exact h0
  | 1, hv => simp at hv; subst hv; exact h1
  | 2, hv => simp at hv; subst hv; exact h2
  | 3, hv => simp at hv; subst hv; exact h3
  | 4, hv => simp at hv; subst hv; exact h4
  | 5, hv => simp at hv; subst hv; exact h5
  | 6, hv => simp at hv; subst hv; exact h6
  | 7, hv => simp at hv; subst hv; exact h7
  | 8, hv => simp at hv; subst hv; exact h8
  | 9, hv => simp at hv; subst hv; exact h9
  | 10, hv => simp at hv; subst hv; exact h10
  | 11, hv => simp at hv; subst hv; exact h11
  | 12, hv => simp at hv; subst hv; exact h12
  | 13, hv => simp at hv; subst hv; exact h13
  | 14, hv => simp at hv; subst hv; exact h14
  | 15, hv => simp at hv; subst hv; exact h15
/-- A row's cells, one behind the other. -/
theorem row_cells {α : Type} {R : World → α → List Value → Prop} {sz : Nat} {w : World} {b : Nat} (hone : ∀ y cs, R w y cs → Ones sz cs) : ∀ (ys : List α) (o : Nat), (∀ i x, ys[i]? = some x → ∃ cs, R w x cs ∧ cellsAt w b (o + i * sz) cs) →
    ∃ news : List Value, news.length = ys.length * sz ∧ (∀ j u, news[j]? = some u → w.cell? ⟨b, o + j, none⟩ = some u) ∧ (∀ u ∈ news, u.oneCell' = true) ∧ ∀ i x, ys[i]? = some x → ∃ cs, R w x cs ∧ cs.length = sz ∧ ∀ j u, cs[j]? = some u → news[i * sz + j]? = some u
  | [], o, _ => ⟨[], by simp, fun j u h => (by simp at h), fun u h => (by cases h), fun i x h => (by simp at h)⟩
  | y :: ys, o, h => by
    obtain ⟨cs0, h0, h1⟩ := h 0 y rfl
    obtain ⟨hl, ho⟩ := hone _ _ h0
    obtain ⟨news, n1, n2, n3, n4⟩ := row_cells hone ys (o + sz) (fun i x hx => by
      obtain ⟨cs, k1, k2⟩ := h (i + 1) x (by simpa using hx)
      refine ⟨cs, k1, ?_⟩
      rwa [show o + sz + i * sz = o + (i + 1) * sz by rw [Nat.add_mul]; omega])
    refine ⟨cs0 ++ news, by simp [n1, hl, Nat.add_mul]; omega, fun j u hu => ?_, fun u hu => ?_, fun i x hx => ?_⟩
    · by_cases hj : j < sz
      · rw [List.getElem?_append_left (by omega)] at hu
        have := h1 j u hu
        simpa using this
      · rw [List.getElem?_append_right (by omega), hl] at hu
        have := n2 _ u hu
        rwa [show o + sz + (j - sz) = o + j by omega] at this
    · rcases List.mem_append.1 hu with h | h
      · exact ho u h
      · exact n3 u h
    · cases i with
      | zero =>
        simp at hx
        subst hx
        refine ⟨cs0, h0, hl, fun j u hu => ?_⟩
        rw [Nat.zero_mul, Nat.zero_add, List.getElem?_append_left (List.getElem?_eq_some_iff.1 hu).1]
        exact hu
      | succ i =>
        obtain ⟨cs, k1, k2, k3⟩ := n4 i x (by simpa using hx)
        refine ⟨cs, k1, k2, fun j u hu => ?_⟩
        rw [Nat.add_mul, Nat.one_mul, List.getElem?_append_right (by omega), hl, show i * sz + sz + j - sz = i * sz + j by omega]
        exact k3 j u hu
section
variable {P : Program} {ops : Array Oper} {rest : List Oper} {o : Oper} {a : Act} {Q : Exit → Act → World → Prop} {w : World}
/-- A whole row behind a row of the call's own. -/
theorem wpList_append_all {α : Type} {R : World → α → List Value → Prop} {sz bytes : Nat} (hone : ∀ y cs, R w y cs → Ones sz cs) (hgd : o.guard = none) (s x : Operand) (t : TypeId) (ho : o.op = .call { callee := .builtin .append, args := #[s, x], argTypes := #[t, t] })
    (base : Nat) (e : TypeId) (i : TypeInfo) (z : Value) (ht : P.underlying t = some (.slice e)) (hi : P.info? e = some i) (hz : i.zero = some z) (hsize : i.size = sz) (hby : i.bytes = bytes) (hzs : z.cells.size = sz) (hsz : 0 < sz) (hsb : 1 ≤ bytes)
    (v : Value) (n : Nat) (olds : List Value) (hs : a.eval s = v) (hown : w.ownsRow base e sz v n olds) (ys : List α) (A : Option Addr) (c : Nat) (hx : a.eval x = .slice A ys.length c) (hr : Row R sz bytes w A ys) (hn : (n + ys.length) * bytes ≤ 140737488355328) (hb4 : bytes ≤ 4096) (hbase : base ≤ w.heap.size)
    (h : ∀ v' w' news, w'.ownsRow base e sz v' (n + ys.length) (olds ++ news) → (∀ i x, ys[i]? = some x → ∃ cs, R w x cs ∧ cs.length = sz ∧ ∀ j u, cs[j]? = some u → news[i * sz + j]? = some u) → w.grownBy w' v.ownBlock → wpList P ops Q rest (a.put o.dst v') w') : wpList P ops Q (o :: rest) a w := by
  have hle : n + ys.length ≤ 140737488355328 := Nat.le_trans (Nat.le_mul_of_pos_right _ hsb) hn
  by_cases hne : ys = []
  · subst hne
    refine wpList_plain hgd fun K hK => ?_
    have hrun : (Builtin.append_ #[t, t] o.type #[v, .slice A 0 c]).run P w = .ok v w := by
      rcases hown.2 with ⟨rfl, _⟩ | ⟨g, cap, cur, rfl, _, hg, hc, _⟩
      · cases A <;> simp [Builtin.append_, run_underlying ht, sizeOf, typeInfo, hi, Builtin.lenOf, Builtin.firstCells, loadCells, loadCellsFrom, storeCells]
      · cases A <;> simp [Builtin.append_, run_underlying ht, sizeOf, typeInfo, hi, Builtin.lenOf, Builtin.firstCells, loadCells, loadCellsFrom, storeCells, hc]
    unfold Oper.wp execOp
    simp only [ho, resolve, invoke, builtin, Sem.run_bind, Sem.run_pure, Result.andThen_ok, List.map_toArray, List.map_cons, List.map_nil, hs, hx, List.length_nil, hrun]
    exact hK _ _ (h v w [] (by simpa using hown) (fun i x h => by simp at h) (World.grownBy.refl _ _))
  · obtain ⟨b, off, rfl, hel⟩ := hr.2 hne
    obtain ⟨news, n1, n2, n3, n4⟩ := row_cells hone ys off hel
    refine wpList_append_own_wide w hgd s x t ho base e i z sz bytes ht hi hz hsize hby hzs hsz v n olds hs hown ⟨b, off, none⟩ ys.length c news hx n1 (fun j u hu => by rw [Addr.add_lit]; exact n2 j u hu) n3 (by unfold maxLen; omega) ?_ hbase (fun v' w' h1 h2 _ => h v' w' news h1 n4 h2)
    rw [Nat.add_mul, Nat.add_mul]
    have h4' : (n + ys.length) / 4 * bytes * 4 ≤ (n + ys.length) * bytes := by
      rw [Nat.mul_right_comm]
      exact Nat.mul_le_mul_right _ (Nat.div_mul_le_self _ _)
    have h192 : 192 * bytes ≤ 786432 := by omega
    omega
end
theorem part_ones {w : World} (y : Part) (cs : List Value) (h : RPart w y cs) : Ones 2 cs := by
  obtain ⟨rfl, _⟩ := h
  exact ⟨rfl, fun v hv => by simp only [List.mem_cons, List.not_mem_nil, or_false] at hv; rcases hv with rfl | rfl <;> rfl⟩
theorem own_name {α : Type} {R : World → α → List Value → Prop} {sz : Nat} {ty : TypeId} {n0 base : Nat} {w : World} {xs : List α} {v : Value} (h : OwnS R sz ty n0 base w xs v) : ∃ V : Value, V = v := ⟨_, rfl⟩
theorem take_snoc {α : Type} {xs : List α} {k : Nat} (h : k < xs.length) : xs.take k ++ [xs[k]] = xs.take (k + 1) := by simp
end Go.Proofs.YtjaklnabidbmiaaDoor

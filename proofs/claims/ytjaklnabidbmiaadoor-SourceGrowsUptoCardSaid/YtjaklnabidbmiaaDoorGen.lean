/- Small lemmas on structs, rows and worlds; no program is named here. -/
import Derived.Test.YtjaklnabidbmiaaDoorOwn
import Derived.Test.YtjaklnabidbmiaaDoorAgg2
namespace Go.Proofs.YtjaklnabidbmiaaDoor
open Go.RowKit
set_option linter.unusedSimpArgs false
set_option linter.unusedVariables false

theorem in0 : inI 0 := by unfold inI; omega
theorem sl_nil {α : Type} {R : World → α → List Value → Prop} {sz bytes : Nat} {w : World} : Sl R sz bytes w ([] : List α) (.slice none 0 0) := ⟨none, 0, rfl, Nat.le_refl _, by simp, fun h => absurd rfl h⟩
theorem sl_one {α : Type} {R : World → α → List Value → Prop} {sz bytes : Nat} {w : World} {g : Nat} {x : α} {cs : List Value} (hb : bytes ≤ LIM) (hR : R w x cs) (hc : cellsAt w g 0 cs) : Sl R sz bytes w [x] (.slice (some ⟨g, 0, none⟩) 1 1) :=
  ⟨_, _, rfl, Nat.le_refl _, by simpa using hb, fun _ => ⟨g, 0, rfl, fun i y hy => by
    match i, hy with
    | 0, hy => simp at hy; subst hy; exact ⟨cs, hR, by simpa using hc⟩⟩⟩
theorem rterm_no {w : World} : RTerm w noTerm [.int .i64 0, .int .i64 0, .int .i64 0, .slice none 0 0, .slice none 0 0] :=
  rterm_iff.2 ⟨_, _, rfl, ⟨by unfold inI; omega, by unfold inI; omega, by unfold inI; omega⟩, sl_nil, sl_nil⟩
/-- It gives a struct that reads as x, all of it in blocks that it made. -/
def Gives {α : Type} (R : World → α → List Value → Prop) (x : α) (w : World) (e : Ending) (w' : World) : Prop := Ext w w' ∧ ∃ cs : List Value, e = .returned (.agg cs.toArray) ∧ R (frm w.heap.size w') x cs
theorem frm_cells {n : Nat} {w : World} {b o : Nat} {cs : List Value} (hb : n ≤ b) (h : cellsAt w b o cs) : cellsAt (frm n w) b o cs := fun j v hv => only_some.2 ⟨by simpa [fromB] using hb, h j v hv⟩
theorem frm_cell {n : Nat} {w : World} {b o : Nat} {v : Value} (hb : n ≤ b) (h : w.cell? ⟨b, o, none⟩ = some v) : (frm n w).cell? ⟨b, o, none⟩ = some v := only_some.2 ⟨by simpa [fromB] using hb, h⟩
theorem cells2 {w : World} {g : Nat} {a b : Value} (h0 : w.cell? ⟨g, 0, none⟩ = some a) (h1 : w.cell? ⟨g, 1, none⟩ = some b) : cellsAt w g 0 [a, b] := fun j v hv => by
  match j, hv with
  | 0, hv => simp at hv; subst hv; exact h0
  | 1, hv => simp at hv; subst hv; exact h1
theorem cells5 {w : World} {g : Nat} {a b c d e : Value} (h0 : w.cell? ⟨g, 0, none⟩ = some a) (h1 : w.cell? ⟨g, 1, none⟩ = some b) (h2 : w.cell? ⟨g, 2, none⟩ = some c) (h3 : w.cell? ⟨g, 3, none⟩ = some d) (h4 : w.cell? ⟨g, 4, none⟩ = some e) : cellsAt w g 0 [a, b, c, d, e] := fun j v hv => by
  match j, hv with
  | 0, hv => simp at hv; subst hv; exact h0
  | 1, hv => simp at hv; subst hv; exact h1
  | 2, hv => simp at hv; subst hv; exact h2
  | 3, hv => simp at hv; subst hv; exact h3
  | 4, hv => simp at hv; subst hv; exact h4
theorem frm_set {n g j : Nat} {w : World} {u : Value} (hg : g < n) : Sub (frm n w) (frm n (w.setCell ⟨g, j, none⟩ u)) := by
  intro b o v h
  obtain ⟨h1, h2⟩ := only_some.1 h
  have hb : n ≤ b := by simpa [fromB] using h1
  refine only_some.2 ⟨h1, ?_⟩
  have e : (w.setCell ⟨g, j, none⟩ u).heap[b]? = w.heap[b]? := Below.heap_setCell w _ u b (by show b ≠ g; omega)
  unfold World.cell? at h2 ⊢
  rw [e]
  exact h2
theorem there_ext {w w' : World} (h : Ext w w') {b o n : Nat} (ht : w.there b o n) : w'.there b o n := fun j hj => by
  obtain ⟨h1, h2⟩ := ht j hj
  obtain ⟨v, hv⟩ := Option.isSome_iff_exists.1 h1
  exact ⟨by rw [h.cell hv]; rfl, (Below.frozen h (lt_of_cell hv)).trans h2⟩
theorem there_set {w : World} {g k b o n : Nat} {u : Value} (hne : b ≠ g) (ht : w.there b o n) : (w.setCell ⟨g, k, none⟩ u).there b o n := fun j hj => by
  obtain ⟨h1, h2⟩ := ht j hj
  have e : (w.setCell ⟨g, k, none⟩ u).heap[b]? = w.heap[b]? := Below.heap_setCell w _ u b hne
  unfold World.cell? at h1 ⊢
  unfold World.frozen? at h2 ⊢
  rw [e]
  exact ⟨h1, h2⟩
theorem frm_sets {n g : Nat} (hg : g < n) : ∀ (cs : List Value) (o : Nat) (w : World), Sub (frm n w) (frm n (w.setCells g o cs))
  | [], _, w => Sub.rf _
  | c :: cs, o, w => by
    rw [World.setCells]
    exact (frm_set hg).tr (frm_sets hg cs (o + 1) _)
theorem sl_two {α : Type} {R : World → α → List Value → Prop} {sz bytes : Nat} {w : World} {g : Nat} {x y : α} {cs ds : List Value} (hb : 2 * bytes ≤ LIM) (hR : R w x cs) (hS : R w y ds) (hc : cellsAt w g 0 cs) (hd : cellsAt w g sz ds) : Sl R sz bytes w [x, y] (.slice (some ⟨g, 0, none⟩) 2 2) :=
  ⟨_, _, rfl, Nat.le_refl _, hb, fun _ => ⟨g, 0, rfl, fun i z hz => by
    match i, hz with
    | 0, hz => simp at hz; subst hz; exact ⟨cs, hR, by simpa using hc⟩
    | 1, hz => simp at hz; subst hz; exact ⟨ds, hS, by simpa using hd⟩⟩⟩
theorem cells_of_block {w : World} {b t o : Nat} {C : Array Value} (h : w.heap[b]? = some (.cells C t (0, 0))) {cs : List Value} (hc : ∀ j v, cs[j]? = some v → C[o + j]? = some v) : cellsAt w b o cs := fun j v hv => by
  rw [cell_of_row w b _ C t (0, 0) h]
  exact hc j v hv
theorem sl_three {α : Type} {R : World → α → List Value → Prop} {sz bytes : Nat} {w : World} {g : Nat} {x y z : α} {cs ds es : List Value} (hb : 3 * bytes ≤ LIM) (hR : R w x cs) (hS : R w y ds) (hT : R w z es) (hc : cellsAt w g 0 cs) (hd : cellsAt w g sz ds) (he : cellsAt w g (2 * sz) es) : Sl R sz bytes w [x, y, z] (.slice (some ⟨g, 0, none⟩) 3 3) :=
  ⟨_, _, rfl, Nat.le_refl _, hb, fun _ => ⟨g, 0, rfl, fun i u hu => by
    match i, hu with
    | 0, hu => simp at hu; subst hu; exact ⟨cs, hR, by simpa using hc⟩
    | 1, hu => simp at hu; subst hu; exact ⟨ds, hS, by simpa using hd⟩
    | 2, hu => simp at hu; subst hu; exact ⟨es, hT, by simpa using he⟩⟩⟩
end Go.Proofs.YtjaklnabidbmiaaDoor

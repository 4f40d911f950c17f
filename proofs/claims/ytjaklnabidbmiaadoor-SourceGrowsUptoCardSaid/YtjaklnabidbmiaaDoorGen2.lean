/- A few cells in the midst of a block. -/
import Derived.Test.YtjaklnabidbmiaaDoorGen
namespace Go.Proofs.YtjaklnabidbmiaaDoor
open Go.RowKit
theorem cells1o {w : World} {g o : Nat} {a0 : Value} (h0 : w.cell? ⟨g, o, none⟩ = some a0) : cellsAt w g o [a0] := fun j v hv => by
  match j, hv with
  | 0, hv => simp at hv; subst hv; exact h0
theorem cells2o {w : World} {g o : Nat} {a0 a1 : Value} (h0 : w.cell? ⟨g, o, none⟩ = some a0) (h1 : w.cell? ⟨g, o + 1, none⟩ = some a1) : cellsAt w g o [a0, a1] := fun j v hv => by
  match j, hv with
  | 0, hv => simp at hv; subst hv; exact h0
  | 1, hv => simp at hv; subst hv; exact h1
theorem cells5o {w : World} {g o : Nat} {a0 a1 a2 a3 a4 : Value} (h0 : w.cell? ⟨g, o, none⟩ = some a0) (h1 : w.cell? ⟨g, o + 1, none⟩ = some a1) (h2 : w.cell? ⟨g, o + 2, none⟩ = some a2) (h3 : w.cell? ⟨g, o + 3, none⟩ = some a3) (h4 : w.cell? ⟨g, o + 4, none⟩ = some a4) : cellsAt w g o [a0, a1, a2, a3, a4] := fun j v hv => by
  match j, hv with
  | 0, hv => simp at hv; subst hv; exact h0
  | 1, hv => simp at hv; subst hv; exact h1
  | 2, hv => simp at hv; subst hv; exact h2
  | 3, hv => simp at hv; subst hv; exact h3
  | 4, hv => simp at hv; subst hv; exact h4
theorem cells6o {w : World} {g o : Nat} {a0 a1 a2 a3 a4 a5 : Value} (h0 : w.cell? ⟨g, o, none⟩ = some a0) (h1 : w.cell? ⟨g, o + 1, none⟩ = some a1) (h2 : w.cell? ⟨g, o + 2, none⟩ = some a2) (h3 : w.cell? ⟨g, o + 3, none⟩ = some a3) (h4 : w.cell? ⟨g, o + 4, none⟩ = some a4) (h5 : w.cell? ⟨g, o + 5, none⟩ = some a5) : cellsAt w g o [a0, a1, a2, a3, a4, a5] := fun j v hv => by
  match j, hv with
  | 0, hv => simp at hv; subst hv; exact h0
  | 1, hv => simp at hv; subst hv; exact h1
  | 2, hv => simp at hv; subst hv; exact h2
  | 3, hv => simp at hv; subst hv; exact h3
  | 4, hv => simp at hv; subst hv; exact h4
  | 5, hv => simp at hv; subst hv; exact h5
theorem cells16o {w : World} {g o : Nat} {a0 a1 a2 a3 a4 a5 a6 a7 a8 a9 a10 a11 a12 a13 a14 a15 : Value} (h0 : w.cell? ⟨g, o, none⟩ = some a0) (h1 : w.cell? ⟨g, o + 1, none⟩ = some a1) (h2 : w.cell? ⟨g, o + 2, none⟩ = some a2) (h3 : w.cell? ⟨g, o + 3, none⟩ = some a3) (h4 : w.cell? ⟨g, o + 4, none⟩ = some a4) (h5 : w.cell? ⟨g, o + 5, none⟩ = some a5) (h6 : w.cell? ⟨g, o + 6, none⟩ = some a6) (h7 : w.cell? ⟨g, o + 7, none⟩ = some a7) (h8 : w.cell? ⟨g, o + 8, none⟩ = some a8) (h9 : w.cell? ⟨g, o + 9, none⟩ = some a9) (h10 : w.cell? ⟨g, o + 10, none⟩ = some a10) (h11 : w.cell? ⟨g, o + 11, none⟩ = some a11) (h12 : w.cell? ⟨g, o + 12, none⟩ = some a12) (h13 : w.cell? ⟨g, o + 13, none⟩ = some a13) (h14 : w.cell? ⟨g, o + 14, none⟩ = some a14) (h15 : w.cell? ⟨g, o + 15, none⟩ = some a15) : cellsAt w g o [a0, a1, a2, a3, a4, a5, a6, a7, a8, a9, a10, a11, a12, a13, a14, a15] := fun j v hv => by
  match j, hv with
  | 0, hv => simp at hv; subst hv; exact h0
  | 1, hv => simp at hv; subst hv; exact h1
  | 2, hv => simp at hv; subst hv; exact h2
  | 3, hv => simp at hv; subst hv; exact h3
  | 4, hv => simp at hv; subst hv; exact h4
  | 5, hv => simp at hv; subst hv; exact h5
  | 6, hv => simp at hv; subst hv; exact h6
  | 7, hv => simp at hv; subst hv; exact h7
  | 8, hv => simp at hv; subst hv; exact h8
  | 9, hv => simp at hv; subst hv; exact h9
  | 10, hv => simp at hv; subst hv; exact h10
  | 11, hv => simp at hv; subst hv; exact h11
  | 12, hv => simp at hv; subst hv; exact h12
  | 13, hv => simp at hv; subst hv; exact h13
  | 14, hv => simp at hv; subst hv; exact h14
  | 15, hv => simp at hv; subst hv; exact h15
end Go.Proofs.YtjaklnabidbmiaaDoor

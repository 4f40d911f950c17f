/- Whole structs out of memory and into fresh variables. -/
import Derived.Test.YtjaklnabidbmiaaDoorMust
namespace Go.Proofs.YtjaklnabidbmiaaDoor
open Go.RowKit
set_option linter.unusedSimpArgs false
set_option linter.unusedVariables false

theorem rterm_open {w : World} {t : Term} {cs : List Value} (h : RTerm w t cs) : ∃ vl vk, cs = [.int .i64 t.kind, .int .i64 t.num, .int .i64 t.at_, vl, vk] ∧ (inI t.kind ∧ inI t.num ∧ inI t.at_) ∧ SlLevel w t.levels vl ∧ SlTerm w t.kids vk := by
  cases t
  exact rterm_iff.1 h
theorem cellsAt.pick {w : World} {b o : Nat} {cs : List Value} (h : cellsAt w b o cs) (j : Nat) {v : Value} (hv : cs[j]? = some v) : w.cell? ⟨b, o + j, none⟩ = some v := h j v hv
theorem setCells_one (l r : List Value) (W : World) (t : Nat) : ∀ (cs : List Value) (z : List Value) (p : List Value), z.length = cs.length →
    (W.alloc (.cells (p ++ z).toArray t)).setCells W.heap.size p.length cs = W.alloc (.cells (p ++ cs).toArray t)
  | [], z, p, h => by
    obtain rfl : z = [] := List.eq_nil_of_length_eq_zero h
    rfl
  | c :: cs, [], p, h => by simp at h
  | c :: cs, z :: zs, p, h => by
    have ih := setCells_one l r W t cs zs (p ++ [c]) (by simpa using h)
    have h1 : (W.alloc (.cells (p ++ z :: zs).toArray t)).setCell ⟨W.heap.size, p.length, none⟩ c = W.alloc (.cells ((p ++ [c]) ++ zs).toArray t) := by
      rw [World.setCell_alloc_at _ _ _ _ _ rfl]
      congr 2
      simp
    rw [World.setCells, h1]
    simpa using ih
theorem setCells_fresh (W : World) (t : Nat) (z : Array Value) (cs : List Value) (h : z.size = cs.length) :
    (W.alloc (.cells z t)).setCells W.heap.size 0 cs = W.alloc (.cells cs.toArray t) := by
  have := setCells_one [] [] W t cs z.toList [] (by simpa using h)
  simpa using this
theorem there_fresh (W : World) (t : Nat) (z : Array Value) (n : Nat) (h : n ≤ z.size) : (W.alloc (.cells z t)).there W.heap.size 0 n := fun j hj => by
  constructor
  · simp [go_sem, Array.getElem?_eq_getElem (show j < z.size by omega)]
  · simp [go_sem]
theorem range_fresh (W : World) (t : Nat) (cs : List Value) : (W.alloc (.cells cs.toArray t)).rangeAt W.heap.size 0 cs := fun j v hv => by
  have hj : j < cs.length := (List.getElem?_eq_some_iff.1 hv).1
  rw [List.getElem?_eq_getElem hj] at hv
  simp only [Option.some.injEq] at hv
  subst hv
  simp [go_sem, List.getElem?_eq_getElem hj]
section
variable {P : Program} {ops : Array Oper} {rest : List Oper} {op : Oper} {a : Act} {W : World} {Q : Exit → Act → World → Prop}
/-- A struct is stored into the variable that was made just before. -/
theorem wpList_store_fresh (hgd : op.guard = none) (ty : TypeId) (x y : Operand) (ho : op.op = .store ty x y) (z : Array Value) (t : Nat) (cs : List Value) (hx : a.eval x = .pointer (some ⟨W.heap.size, 0, none⟩)) (hy : a.eval y = .agg cs.toArray)
    (hz : z.size = cs.length) (hi : (P.info? ty).map (·.size) = some cs.length) (h1 : ∀ v ∈ cs, v.oneCell' = true)
    (h : wpList P ops Q rest (a.put op.dst undef) (W.alloc (.cells cs.toArray t))) : wpList P ops Q (op :: rest) a (W.alloc (.cells z t)) := by
  refine wpList_store_mid hgd ty x y ho W.heap.size 0 cs.toArray hx hy (there_fresh W t z _ (by simp [hz])) (by simpa using hi) (all_oneCell_toArray h1) ?_
  rw [setCells_fresh W t z _ (by simpa using hz)]
  simpa using h
end
theorem there_of_block {W : World} {b t : Nat} {C : Array Value} (h : W.heap[b]? = some (.cells C t (0, 0))) {n : Nat} (hn : n ≤ C.size) : W.there b 0 n := fun j hj => by
  constructor
  · rw [cell_of_row W b _ C t (0, 0) h]
    simp [Array.getElem?_eq_getElem (show j < C.size by omega)]
  · exact frozen_of_row W b _ C t h
theorem Ext.sets {w W : World} (h : Ext w W) {b : Nat} (hb : w.heap.size ≤ b) : ∀ (cs : List Value) (o : Nat), Ext w (W.setCells b o cs) := by
  intro cs
  induction cs generalizing W with
  | nil => exact fun _ => h
  | cons c cs ih => exact fun o => ih (h.st (p := ⟨b, o, none⟩) hb c) (o + 1)
theorem size_sets (b : Nat) : ∀ (cs : List Value) (o : Nat) (W : World), (W.setCells b o cs).heap.size = W.heap.size
  | [], _, _ => rfl
  | c :: cs, o, W => by rw [World.setCells, size_sets b cs]; simp [World.setCell]
/-- A result that lies in a variable. -/
theorem results_cell_mid {P : Program} {fn : Func} {p : Tmp} {ty : TypeId} (h : fn.results = #[.cell p ty]) (tmps : Array Value) (w : World) (g : Nat) (cs : List Value) (d : TypeDesc)
    (hp : tmps.getD p undef = .pointer (some ⟨g, 0, none⟩)) (hg : w.rangeAt g 0 cs)
    (hu : P.underlying ty = some d) (hd : d.isRow = true) (hi : (P.info? ty).map (·.size) = some cs.length) :
    (results fn tmps).run P w = .ok (.agg cs.toArray) w := by
  have hp' : tmps[p]?.getD undef = .pointer (some ⟨g, 0, none⟩) := by simpa using hp
  simp [results, h, hp', asAddr, run_loadVar_mid w g 0 ty cs d hg hu hd hi]
/-- Each value is one cell. -/
def Ones (n : Nat) (cs : List Value) : Prop := cs.length = n ∧ ∀ v ∈ cs, v.oneCell' = true
theorem Sl.one {α : Type} {R : World → α → List Value → Prop} {sz bytes : Nat} {w : World} {xs : List α} {v : Value} (h : Sl R sz bytes w xs v) : v.oneCell' = true := by
  obtain ⟨A, c, rfl, _⟩ := h
  rfl
theorem rterm_ones {w : World} {t : Term} {cs : List Value} (h : RTerm w t cs) : Ones 5 cs := by
  obtain ⟨vl, vk, rfl, _, h1, h2⟩ := rterm_open h
  refine ⟨rfl, fun v hv => ?_⟩
  simp only [List.mem_cons, List.not_mem_nil, or_false] at hv
  rcases hv with rfl | rfl | rfl | rfl | rfl <;> first | rfl | exact h1.one | exact h2.one
theorem rdecl_ones {w : World} {d : Decl} {cs : List Value} (h : RDecl w d cs) : Ones 16 cs := by
  obtain ⟨ct, cb, vp, vs, vm, vc, rfl, hi, h1, h2, h3, h4, h5, h6⟩ := h
  have o1 := rterm_ones h1
  have o2 := rterm_ones h2
  refine ⟨by simp [o1.1, o2.1], fun v hv => ?_⟩
  simp only [List.mem_cons, List.mem_append, List.not_mem_nil, or_false] at hv
  rcases hv with rfl | rfl | hv | hv | rfl | rfl | rfl | rfl
  · rfl
  · rfl
  · exact o1.2 _ hv
  · exact o2.2 _ hv
  · exact h3.one
  · exact h4.one
  · exact h5.one
  · exact h6.one
end Go.Proofs.YtjaklnabidbmiaaDoor

/- A struct into the variable that was made just before, its address written out. -/
import Derived.Test.YtjaklnabidbmiaaDoorAgg
namespace Go.Proofs.YtjaklnabidbmiaaDoor
open Go.RowKit
section
variable {P : Program} {ops : Array Oper} {rest : List Oper} {op : Oper} {a : Act} {W : World} {Q : Exit → Act → World → Prop}
theorem wpList_store_fresh_at (hgd : op.guard = none) (ty : TypeId) (x y : Operand) (ho : op.op = .store ty x y) (z : Array Value) (t : Nat) (cs : List Value) (g : Nat) (hx : a.eval x = .pointer (some ⟨g, 0, none⟩)) (hg : W.heap.size = g) (hy : a.eval y = .agg cs.toArray)
    (hz : z.size = cs.length) (hi : (P.info? ty).map (·.size) = some cs.length) (h1 : ∀ v ∈ cs, v.oneCell' = true)
    (h : wpList P ops Q rest (a.put op.dst undef) (W.alloc (.cells cs.toArray t))) : wpList P ops Q (op :: rest) a (W.alloc (.cells z t)) := by
  subst hg
  exact wpList_store_fresh hgd ty x y ho z t cs hx hy hz hi h1 h
end
end Go.Proofs.YtjaklnabidbmiaaDoor

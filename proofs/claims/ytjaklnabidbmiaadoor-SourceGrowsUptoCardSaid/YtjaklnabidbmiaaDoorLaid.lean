/- What the row's list of package-level variables gives: the table of kinds lies there. -/
import Derived.Test.YtjaklnabidbmiaaDoorRows
import Derived.Test.YtjaklnabidbmiaaDoorOpen
import Derived.Test.YtjaklnabidbmiaaDoorTerm
import Derived.LaidLaws
import Derived.ProofKit
namespace Go.Proofs.YtjaklnabidbmiaaDoor
open Go Go.RowKit Go.ChangeShapes Go.WideShapes Go.ChangeAt
set_option linter.unusedSimpArgs false
set_option linter.unusedVariables false
set_option maxRecDepth 100000
section
variable {H : Type} {enc : TypeId × Value → H} {w : World} {sp : Nat → Bool} {held : Bool}
theorem C_has : Tryd.prog.cellsOf 123 = 5 := by kernel_rfl
theorem C_hass : Tryd.prog.cellsOf 124 = 125 := by kernel_rfl
theorem C_bool : Tryd.prog.cellsOf 4 = 1 := by kernel_rfl
/-- One row of the table as the list has it. -/
def kd (k : Int) : DataW H := .agg [.lit (.bool (kNum k)), .lit (.bool (kAt k)), .lit (.int .i64 (kLevels k)), .lit (.int .i64 (kKids k)), .lit (.int .i64 (kBound k))]
theorem has_open {m : Nat} {l : List Value} {k : Int} {p : List MemPlace} (h : DataW.trod enc Tryd.prog w 0 sp held m 123 l = some (kd k, p)) :
    l = [.bool (kNum k), .bool (kAt k), .int .i64 (kLevels k), .int .i64 (kKids k), .int .i64 (kBound k)] := by
  obtain ⟨xs, n, rfl, hx, hlen, hxl, hf⟩ := DataW.trod_struct Tryd.underlying123 h
  rw [C_has] at hlen
  obtain ⟨a, b, c, d, e, rfl⟩ := len5 hlen
  have hxs : xs.map (·.1) = [.lit (.bool (kNum k)), .lit (.bool (kAt k)), .lit (.int .i64 (kLevels k)), .lit (.int .i64 (kKids k)), .lit (.int .i64 (kBound k))] := by
    have := congrArg Prod.fst hx
    simpa [kd] using this.symm
  have at_ : ∀ (i : Nat) (dd : DataW H), [.lit (.bool (kNum k)), .lit (.bool (kAt k)), .lit (.int .i64 (kLevels k)), .lit (.int .i64 (kKids k)), .lit (.int .i64 (kBound k))][i]? = some dd → ∃ q, xs[i]? = some (dd, q) := fun i dd hd => by
    rw [← hxs, List.getElem?_map, Option.map_eq_some_iff] at hd
    obtain ⟨⟨d', q⟩, h1, rfl⟩ := hd
    exact ⟨q, h1⟩
  obtain ⟨q0, e0⟩ := at_ 0 _ rfl
  obtain ⟨q1, e1⟩ := at_ 1 _ rfl
  obtain ⟨q2, e2⟩ := at_ 2 _ rfl
  obtain ⟨q3, e3⟩ := at_ 3 _ rfl
  obtain ⟨q4, e4⟩ := at_ 4 _ rfl
  have h0 := hf 0 _ rfl
  rw [e0] at h0
  have h1 := hf 1 _ rfl
  rw [e1] at h1
  have h2 := hf 2 _ rfl
  rw [e2] at h2
  have h3 := hf 3 _ rfl
  rw [e3] at h3
  have h4 := hf 4 _ rfl
  rw [e4] at h4
  simp only [List.getElem_toArray, List.getElem_cons_zero, List.getElem_cons_succ, C_bool, C_int, List.drop_succ_cons, List.drop_zero, List.take_succ_cons, List.take_zero] at h0 h1 h2 h3 h4
  obtain ⟨v0, f0, g0⟩ := DataW.trod_bool Tryd.underlying4 h0
  obtain ⟨v1, f1, g1⟩ := DataW.trod_bool Tryd.underlying4 h1
  obtain ⟨v2, f2, g2, _⟩ := DataW.trod_int Tryd.underlying3 h2
  obtain ⟨v3, f3, g3, _⟩ := DataW.trod_int Tryd.underlying3 h3
  obtain ⟨v4, f4, g4, _⟩ := DataW.trod_int Tryd.underlying3 h4
  simp only [Prod.mk.injEq, DataW.lit.injEq, Lit.bool.injEq, Lit.int.injEq, true_and] at g0 g1 g2 g3 g4
  simp only [List.cons.injEq, and_true] at f0 f1 f2 f3 f4
  rw [f0, f1, f2, f3, f4, g0.1, g1.1, g2.1, g3.1, g4.1]
theorem hass_open {m : Nat} {l : List Value} {p : List MemPlace} (h : DataW.trod enc Tryd.prog w 0 sp held m 124 l = some (Rows.laid_spandrel_term_kinds, p)) (k : Nat) (hk : k < 25) :
    (l.drop (k * 5)).take 5 = [.bool (kNum k), .bool (kAt k), .int .i64 (kLevels k), .int .i64 (kKids k), .int .i64 (kBound k)] := by
  have hl : (Rows.laid_spandrel_term_kinds : DataW H) = .agg ((List.range 25).map fun k : Nat => kd k) := by kernel_rfl
  obtain ⟨xs, n, rfl, hx, hlen, hxl, hf⟩ := DataW.trod_array Tryd.underlying124 h
  have hxs : xs.map (·.1) = (List.range 25).map fun k : Nat => (kd k : DataW H) := by
    have := congrArg Prod.fst hx
    rw [hl] at this
    simpa using this.symm
  have h1 := hf k hk
  rw [C_has] at h1
  have h2 : (xs.map (·.1))[k]? = some (kd k : DataW H) := by
    rw [hxs, List.getElem?_map, List.getElem?_range hk]
    rfl
  rw [List.getElem?_map, Option.map_eq_some_iff] at h2
  obtain ⟨⟨d, q⟩, h3, h4⟩ := h2
  simp only at h4
  subst h4
  rw [h3] at h1
  exact has_open h1
end
theorem kinds_of_laid {W : World} (h : laidMetH Tryd.prog [("spandrel/term.kinds", Rows.laid_spandrel_term_kinds)] W) : KindsIn W := by
  have h' : laidMet Tryd.prog [("spandrel/term.kinds", Rows.laid_spandrel_term_kinds)] W := h
  obtain ⟨ps, ⟨g, t, cs, fuel, p, q, hg, ht, hvar, hd, _, _⟩, _⟩ := h'
  obtain rfl := Option.some.inj ((show Tryd.prog.globalNamed "spandrel/term.kinds" = some 0 by kernel_rfl).symm.trans hg)
  obtain rfl := Option.some.inj ((show (Tryd.prog.globals[0]?).map (·.type) = some 124 by kernel_rfl).symm.trans ht)
  refine ⟨fun k hk j v hv => ?_⟩
  have h1 := hass_open hd k hk
  rw [World.var?_cell hg hvar, ← Array.getElem?_toList]
  rw [← h1] at hv
  have hj : j < 5 := by
    have := (List.getElem?_eq_some_iff.1 hv).1
    rw [List.length_take] at this
    omega
  rw [List.getElem?_take_of_lt hj, List.getElem?_drop] at hv
  exact hv
/-! The arguments. -/
section
variable {H : Type} {enc : TypeId × Value → H} {w : World} {base : Nat}
theorem slice_cells {t e : TypeId} {v : Value} (ht : Tryd.prog.underlying t = some (.slice e)) (hok : Value.okWide Tryd.prog w .any base t v) : v.cells.toList = [v] := by
  simp only [Value.okWide, ht, Cell.okWide] at hok
  cases v <;> first | rfl | (simp [Cell.ok, ht] at hok)
theorem struct_cells {t : TypeId} {fs : Array Field} {v : Value} (ht : Tryd.prog.underlying t = some (.struct fs)) (hok : Value.okWide Tryd.prog w .any base t v) : ∃ cs : List Value, v = .agg cs.toArray ∧ v.cells.toList = cs := by
  simp only [Value.okWide, ht] at hok
  obtain ⟨cs, rfl, _⟩ := hok
  exact ⟨cs.toList, by simp, rfl⟩
theorem arg_slice {α : Type} {S : World → List α → Value → Prop} {t e : TypeId} {v : Value} {d : DataW H} {p : List MemPlace} (ht : Tryd.prog.underlying t = some (.slice e)) (ho : ∀ n, Opens enc w n t (fun cs => ∃ (xs : List α) (v : Value), cs = [v] ∧ S w xs v))
    (hok : Value.okWide Tryd.prog w .any base t v) (h : DataW.Trod enc Tryd.prog w 0 (fun _ => true) true t v d p) (hw : (d.weights Tryd.prog t).all (· ≤ reachBytes) = true) : ∃ xs, S w xs v := by
  obtain ⟨n, h⟩ := h
  rw [slice_cells ht hok] at h
  obtain ⟨xs, v', e, hs⟩ := ho n n (Nat.le_refl _) _ _ h hw
  cases e
  exact ⟨xs, hs⟩
theorem arg_struct {α : Type} {R : World → α → List Value → Prop} {t : TypeId} {fs : Array Field} {v : Value} {d : DataW H} {p : List MemPlace} (ht : Tryd.prog.underlying t = some (.struct fs)) (ho : ∀ n, Opens enc w n t (fun cs => ∃ x : α, R w x cs))
    (hok : Value.okWide Tryd.prog w .any base t v) (h : DataW.Trod enc Tryd.prog w 0 (fun _ => true) true t v d p) (hw : (d.weights Tryd.prog t).all (· ≤ reachBytes) = true) : ∃ (x : α) (cs : List Value), v = .agg cs.toArray ∧ R w x cs := by
  obtain ⟨n, h⟩ := h
  obtain ⟨cs, e, e'⟩ := struct_cells ht hok
  rw [e'] at h
  obtain ⟨x, hx⟩ := ho n n (Nat.le_refl _) _ _ h hw
  exact ⟨x, cs, e, hx⟩
theorem below_trodAll {P : Program} (hl : laidOutB P = true) {W W' : World} (hb : Below W.heap.size W W') : ∀ {ts : List TypeId} {vs : List Value} {ds : List (DataW H)} {ps : List MemPlace}, ts.all (fun t => P.readableRec t && decide (t < P.types.size)) = true →
    DataW.TrodAll enc P W 0 (fun _ => true) true ts vs ds ps → (∀ x ∈ ps, x.block < W.heap.size) → DataW.TrodAll enc P W' 0 (fun b => decide (b < W.heap.size)) true ts vs ds ps
  | [], _, _, _, _, h, _ => by
    obtain ⟨rfl, rfl, rfl⟩ := trodAll_nil h
    exact trodAll_mk0
  | t :: ts, _, _, _, hts, h, hlt => by
    obtain ⟨v, vs, d, ds, p, q, rfl, rfl, rfl, h1, h2⟩ := trodAll_cons h
    simp only [List.all_cons, Bool.and_eq_true, decide_eq_true_eq] at hts
    exact trodAll_cons_mk (Below.trod hl hts.1.1 hts.1.2 h1 hb (fun x hx => hlt x (by simp [hx]))) (below_trodAll hl hb (by simpa using hts.2) h2 (fun x hx => hlt x (by simp [hx])))
/-- What is left of a row where the call answers true and nothing that was there has turned. -/
theorem post_of_true {s : ChangeSpec} {f : Func} {W W' : World} {args : Array Value} {ds gs : List (DataW H)} {before : List MemPlace} (hl : laidOutB Tryd.prog = true) (hv : s.vars = []) (hr : f.resultTypes = #[4])
    (hts : f.params.toList.all (fun t => Tryd.prog.readableRec t && decide (t < Tryd.prog.types.size)) = true) (hW : DataW.Whole enc Tryd.prog f.params.toList s.vars false W args.toList ds gs before)
    (hfn : (s.fn H (ds ++ gs)).results = [.lit (.bool true)] ∧ (s.fn H (ds ++ gs)).args = ds ∧ (s.fn H (ds ++ gs)).vars = []) (hx : Ext W W') :
    s.post enc Tryd.prog f false true false false W args (.bool true) W' := by
  have hlt : ∀ x ∈ before, x.block < W.heap.size := fun x hx => by simpa using hW.lt x hx
  obtain ⟨e1, e2, e3⟩ := hfn
  have hW' := hW
  obtain ⟨p, q, hA, hV, rfl, _, _⟩ := hW'
  rw [hv] at hV
  obtain ⟨rfl, rfl⟩ := trodVars_none hV
  refine ⟨ds, [], p ++ [], [], p, [], hW, ?_, ?_, ?_, hx.frame _, fun h => by cases h⟩
  · rw [e1, hr]
    exact trodAll_mk1 (shut_bool Tryd.underlying4 true)
  · rw [e2]
    exact below_trodAll hl hx hts hA (fun x hx => hlt x (by simp [hx]))
  · rw [e3, hv]
    rfl
end
end Go.Proofs.YtjaklnabidbmiaaDoor

/- The row and the card of spandrel/spandrellaw11.SourceGrows. Printed by gen_row.py. -/
import Derived.Test.YtjaklnabidbmiaaDoorCards
import Derived.Test.YtjaklnabidbmiaaDoorTie
import Derived.Test.YtjaklnabidbmiaaDoorGrows
import Derived.Test.YtjaklnabidbmiaaDoorLaid
import Derived.ProofKit
import Derived.OpenShut
import Derived.Deep.DeepHandedRow
import Derived.LaidMore
namespace Go.Proofs.YtjaklnabidbmiaaDoor.sourceGrowsUpto
open Go Go.ChangeShapes Go.WideShapes Go.ChangeAt Go.RowKit
set_option linter.unusedSimpArgs false
set_option linter.unusedVariables false
set_option maxRecDepth 100000

theorem own : ownKnob Tryd.prog.godebug = none := by kernel_rfl
theorem laidOut : laidOutB Tryd.prog = true := by kernel_rfl
/-- A reading's bulk counts at least one for each of a row's elements. -/
theorem bulk_pos {H : Type} (d : DataW H) : 1 ≤ Rows.uptoBulk d := by
  cases d with
  | lit l => cases l <;> simp only [Rows.uptoBulk] <;> omega
  | _ => simp only [Rows.uptoBulk] <;> omega
theorem bulk_all {H : Type} : ∀ l : List (DataW H), l.length ≤ Rows.uptoBulkAll l
  | [] => Nat.zero_le _
  | d :: r => by
    have h1 := bulk_pos d
    have h2 := bulk_all r
    simp only [Rows.uptoBulkAll, List.length_cons]
    omega
theorem bulk_slice {H : Type} {enc : TypeId × Value → H} {w : World} {base : Nat} {t e : TypeId} {A : Option Addr} {n c : Nat} {d : DataW H} {p : List MemPlace} (ht : Tryd.prog.underlying t = some (.slice e)) (hok : Value.okWide Tryd.prog w .any base t (.slice A n c)) (h : DataW.Trod enc Tryd.prog w 0 (fun _ => true) true t (.slice A n c) d p) : n ≤ Rows.uptoBulk d := by
  obtain ⟨m, h⟩ := h
  rw [slice_cells ht hok] at h
  rcases DataW.trod_slice ht h with ⟨e, -⟩ | ⟨a, len, cap, elems, rest, k, -, e, hx, -, -, -, hlen, -⟩
  · cases e
    exact Nat.zero_le _
  cases e
  cases hx
  have := bulk_all (elems.map (·.1))
  rw [List.length_map] at this
  simp only [Rows.uptoBulk]
  omega
theorem bulk_decls {H : Type} {enc : TypeId × Value → H} {w : World} {base : Nat} {v : Value} {xs : List Decl} {d : DataW H} {p : List MemPlace} (hok : Value.okWide Tryd.prog w .any base 39 v) (h : DataW.Trod enc Tryd.prog w 0 (fun _ => true) true 39 v d p) (hs : SlDecl w xs v) : xs.length ≤ Rows.uptoBulk d := by
  obtain ⟨A, c, rfl, -⟩ := hs
  exact bulk_slice Tryd.underlying39 hok h
theorem in_wf {n : Int} (h : (Lit.int .i64 n).wf = true) : inI n := by
  simpa [Lit.wf, inI, show IntKind.i64.min = -9223372036854775808 from rfl] using h
theorem contract (H : Type) (enc : TypeId × Value → H) (W : World) (base : Nat) (args : Array Value) (ds gs : List (DataW H)) (before : List MemPlace)
    (hval : ∀ (j : Nat) t v, Tryd.f4.params[j]? = some t → args[j]? = some v → Value.okWide Tryd.prog W .any base t v)
    (hW : DataW.Whole enc Tryd.prog Tryd.f4.params.toList Rows.sourceGrowsSpec.vars false W args.toList ds gs before)
    (hsize : (DataW.weightsEach Tryd.prog (Tryd.f4.params.toList ++ Rows.sourceGrowsSpec.plain.varTypes Tryd.prog) (ds ++ gs)).all (· ≤ reachBytes) = true)
    (hcond : Rows.uptoBulkAll (ds ++ gs) ≤ 1048576)
    (hL : laidMetH Tryd.prog Rows.sourceGrowsUptoRow.laid W) :
    Calls Tryd.prog 4 args W fun e W' => ∃ v, e = .returned v ∧ Rows.sourceGrowsSpec.post enc Tryd.prog Tryd.f4 false true false false W args v W' := by
  have hW' := hW
  obtain ⟨p, q, hA0, hV, rfl, hfz, hnd⟩ := hW
  have hA : DataW.TrodAll enc Tryd.prog W 0 (fun _ => true) true Tryd.f4.params.toList args.toList ds p := hA0
  rw [Tryd.params4] at hA hval hsize
  obtain ⟨v0, vs0, d0, ds0, p0, q0, hargs, rfl, rfl, h0, r0⟩ := trodAll_cons hA
  obtain ⟨v1, vs1, d1, ds1, p1, q1, rfl, rfl, rfl, h1, r1⟩ := trodAll_cons r0
  obtain ⟨v2, vs2, d2, ds2, p2, q2, rfl, rfl, rfl, h2, r2⟩ := trodAll_cons r1
  obtain ⟨v3, vs3, d3, ds3, p3, q3, rfl, rfl, rfl, h3, r3⟩ := trodAll_cons r2
  obtain ⟨v4, vs4, d4, ds4, p4, q4, rfl, rfl, rfl, h4, r4⟩ := trodAll_cons r3
  obtain ⟨v5, vs5, d5, ds5, p5, q5, rfl, rfl, rfl, h5, r5⟩ := trodAll_cons r4
  obtain ⟨v6, vs6, d6, ds6, p6, q6, rfl, rfl, rfl, h6, r6⟩ := trodAll_cons r5
  obtain ⟨v7, vs7, d7, ds7, p7, q7, rfl, rfl, rfl, h7, r7⟩ := trodAll_cons r6
  obtain ⟨rfl, rfl, rfl⟩ := trodAll_nil r7
  obtain rfl : args = #[v0, v1, v2, v3, v4, v5, v6, v7] := by cases args; simp_all
  obtain ⟨rfl, rfl⟩ := trodVars_none hV
  have hK : KindsIn W := kinds_of_laid hL
  obtain ⟨x0, hs0⟩ := arg_slice Tryd.underlying39 (fun n => opens_decls n) (hval 0 _ v0 rfl rfl) h0 (weightsEach_at _ _ hsize 0 _ d0 rfl rfl)
  obtain ⟨x1, hs1⟩ := arg_slice Tryd.underlying39 (fun n => opens_decls n) (hval 1 _ v1 rfl rfl) h1 (weightsEach_at _ _ hsize 1 _ d1 rfl rfl)
  obtain ⟨n2, rfl, rfl, rfl, hn2⟩ := open_int Tryd.underlying3 (hval 2 _ v2 rfl rfl) h2
  have hn2 : inI n2 := in_wf hn2
  obtain ⟨n3, rfl, rfl, rfl, hn3⟩ := open_int Tryd.underlying3 (hval 3 _ v3 rfl rfl) h3
  have hn3 : inI n3 := in_wf hn3
  obtain ⟨n4, rfl, rfl, rfl, hn4⟩ := open_int Tryd.underlying3 (hval 4 _ v4 rfl rfl) h4
  have hn4 : inI n4 := in_wf hn4
  obtain ⟨x5, cs5, rfl, hs5⟩ := arg_struct Tryd.underlying27 (fun n => opens_term n) (hval 5 _ v5 rfl rfl) h5 (weightsEach_at _ _ hsize 5 _ d5 rfl rfl)
  obtain ⟨x6, cs6, rfl, hs6⟩ := arg_struct Tryd.underlying27 (fun n => opens_term n) (hval 6 _ v6 rfl rfl) h6 (weightsEach_at _ _ hsize 6 _ d6 rfl rfl)
  obtain ⟨n7, rfl, rfl, rfl, hn7⟩ := open_int Tryd.underlying3 (hval 7 _ v7 rfl rfl) h7
  have hn7 : inI n7 := in_wf hn7
  refine (sourceGrows_any x0 x1 n2 n3 n4 x5 x6 n7 _ _ _ _ W hK hn2 hn3 hn4 hn7 hs0 hs1 hs5 hs6 (by
    have b0 := bulk_decls (hval 0 _ v0 rfl rfl) h0 hs0
    have b1 := bulk_decls (hval 1 _ v1 rfl rfl) h1 hs1
    simp only [List.cons_append, List.nil_append, Rows.uptoBulkAll] at hcond
    omega)).mono fun e W' ⟨he, hx⟩ => ?_
  subst he
  exact ⟨_, rfl, post_of_true laidOut rfl (by kernel_rfl) (by kernel_rfl) hW' ⟨rfl, rfl, rfl⟩ hx⟩

/-- A world for the witness: the settled one, the heap as the door's own run leaves it. -/
noncomputable def laidWorld (os : Os) : World := World.doorLaid Tryd.prog 200 os
abbrev args0 : Array Value := #[.slice none 0 0, .slice none 0 0, .int .i64 0, .int .i64 0, .int .i64 0, .agg #[.int .i64 0, .int .i64 0, .int .i64 0, .slice none 0 0, .slice none 0 0], .agg #[.int .i64 0, .int .i64 0, .int .i64 0, .slice none 0 0, .slice none 0 0], .int .i64 0]
theorem laid_met (os : Os) : laidMet Tryd.prog Rows.sourceGrowsUptoRow.laid ((laidWorld os).forCall (fun _ _ => 0) ⟨#[], args0, []⟩).memory := laidMet_of_run' 8 (by kernel_rfl) (by kernel_rfl)
theorem reads (os : Os) {H : Type} (enc : TypeId × Value → H) : ∃ places, DataW.whole enc Tryd.prog ((laidWorld os).forCall (fun _ _ => 0) ⟨#[], args0, []⟩).memory Tryd.f4.params.toList Rows.sourceGrowsSpec.vars false args0.toList 8 = some ([.nil, .nil, .lit (.int .i64 0), .lit (.int .i64 0), .lit (.int .i64 0), .agg [.lit (.int .i64 0), .lit (.int .i64 0), .lit (.int .i64 0), .nil, .nil], .agg [.lit (.int .i64 0), .lit (.int .i64 0), .lit (.int .i64 0), .nil, .nil], .lit (.int .i64 0)], [], places) :=
  ⟨[], by kernel_rfl⟩
theorem lifted (os : Os) (started : os.Started) (H : Type) (enc : TypeId × Value → H) (F : Stop.Interp) :
    ReturnsInHanded {} Tryd.checked os 4 .any ((Rows.OpenSpec.upto Rows.sourceGrowsSpec).preRow enc Tryd.prog Tryd.f4 Rows.sourceGrowsUptoRow.domain false Rows.sourceGrowsUptoRow.laid) (((Rows.OpenSpec.upto Rows.sourceGrowsSpec).at F).post enc Tryd.prog Tryd.f4 false true false false) := by
  obtain ⟨places, hx⟩ := reads os enc
  refine returnsInHanded_of_row (C := Tryd.checked) (s := Rows.OpenSpec.upto Rows.sourceGrowsSpec) own started (by kernel_rfl) Tryd.func4
    (witness_row_at (enc := enc) (C := Tryd.checked) false (laidWorld os) args0 rfl (by kernel_rfl) (by kernel_rfl) (by kernel_rfl)
      (OpenSpec.preRow_of_cond 8 hx (by kernel_rfl) (fun k hk => by cases hk; kernel_rfl) (by kernel_rfl) (laid_met os))) ?_
  intro W base args ds gs before hval hW _ hcond hsize hL _ _
  exact contract H enc W base args ds gs before hval hW hsize (of_decide_eq_true (hcond _ rfl)) hL
theorem said : Rows.SourceGrowsUptoSaid :=
  OpenClaim.holds_of_cond 4 Tryd.f4 rfl rfl rfl rfl rfl rfl rfl ⟨rfl, rfl, rfl, rfl, rfl⟩ rfl rfl rfl rfl rfl (by kernel_rfl) Tryd.func4 (by kernel_rfl)
    (of_decide_eq_true (by kernel_rfl)) (by unfold Func.isWrapper; first | (rw [if_pos (by decide +kernel)]; kernel_rfl) | (rw [if_neg (by decide +kernel)]; exact ⟨rfl, rfl⟩))
    (fun os started H enc _ F => by rw [OpenClaim.pre_eq_preRow]; exact lifted os started H enc F)
theorem plain (f : FuncId) (fn : Func) (hf : Tryd.pinned.checked.prog.funcNamed "spandrel/spandrellaw11.SourceGrows" = some f) (hfn : Tryd.pinned.checked.prog.funcs[f]? = some fn) :
    true = Tryd.pinned.checked.prog.looks [] ∧ ∀ (j : Nat) t, fn.params[j]? = some t → Tryd.pinned.checked.prog.wantsStandIn t = false := by
  obtain rfl : f = 4 := Option.some.inj ((show Tryd.prog.funcNamed "spandrel/spandrellaw11.SourceGrows" = some 4 by kernel_rfl).symm.trans hf) |>.symm
  obtain rfl : fn = Tryd.f4 := (Option.some.inj (Tryd.func4.symm.trans hfn)).symm
  refine ⟨by kernel_rfl, fun j t ht => ?_⟩
  rw [Tryd.params4] at ht
  have hm := Array.mem_of_getElem? ht
  simp only [List.mem_toArray, List.mem_cons, List.not_mem_nil, or_false] at hm
  rcases hm with rfl | rfl | rfl | rfl | rfl | rfl | rfl | rfl
  · exact (show Tryd.prog.wantsStandIn 39 = false by kernel_rfl)
  · exact (show Tryd.prog.wantsStandIn 39 = false by kernel_rfl)
  · exact (show Tryd.prog.wantsStandIn 3 = false by kernel_rfl)
  · exact (show Tryd.prog.wantsStandIn 3 = false by kernel_rfl)
  · exact (show Tryd.prog.wantsStandIn 3 = false by kernel_rfl)
  · exact (show Tryd.prog.wantsStandIn 27 = false by kernel_rfl)
  · exact (show Tryd.prog.wantsStandIn 27 = false by kernel_rfl)
  · exact (show Tryd.prog.wantsStandIn 3 = false by kernel_rfl)
/-- THE CARD. -/
theorem card : Rows.SourceGrowsUptoCardSaid :=
  Claim7.holds_tied_plain_at .later [] _ _ _ _ said (fun _ h => by cases h) (by kernel_rfl) (fun _ h => by cases h) sourceGrowsUpto_row_tie rfl ⟨rfl, rfl⟩ (by kernel_rfl) rfl plain (by kernel_rfl)
end Go.Proofs.YtjaklnabidbmiaaDoor.sourceGrowsUpto

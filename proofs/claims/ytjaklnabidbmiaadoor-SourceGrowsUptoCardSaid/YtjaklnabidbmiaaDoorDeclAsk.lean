/- Walks: source.walk's decl, constant, member, ctor, recursor, own, variable. -/
import Derived.Test.YtjaklnabidbmiaaDoorAgg
namespace Go.Proofs.YtjaklnabidbmiaaDoor
open Go.RowKit
set_option linter.unusedSimpArgs false
set_option linter.unusedVariables false

/-- The fields of a declaration that are asked for, out of its cells. -/
theorem rdecl_fields {w : World} {d : Decl} {cs : List Value} (h : RDecl w d cs) : cs[0]? = some (.int .i64 d.kind) ∧ cs[1]? = some (.int .i64 d.levels) ∧ inI d.kind ∧ inI d.levels ∧
    (∃ v, cs[14]? = some v ∧ SlMember w d.members v) ∧ (∃ v, cs[15]? = some v ∧ SlCtor w d.ctors v) ∧ (∃ v, cs[12]? = some v ∧ SlTerm w d.params v) ∧ (∃ v, cs[13]? = some v ∧ Sl RPart 2 16 w d.sort.parts v) := by
  obtain ⟨ct, cb, vp, vs, vm, vc, rfl, hi, h1, h2, h3, h4, h5, h6⟩ := h
  obtain ⟨a1, a2, rfl, _⟩ := rterm_open h1
  obtain ⟨a3, a4, rfl, _⟩ := rterm_open h2
  exact ⟨rfl, rfl, hi.1, hi.2, ⟨_, rfl, h5⟩, ⟨_, rfl, h6⟩, ⟨_, rfl, h3⟩, ⟨_, rfl, h4⟩⟩
/-- What decl asks. -/
def DeclOk (ds : List Decl) (num nl more : Int) : Prop := num.toNat < ds.length ∧ nl = (dAt ds num).levels + more
set_option maxRecDepth 100000 in
set_option maxHeartbeats 2000000 in
theorem decl_any (ds : List Decl) (n self scope : Int) (vd : Value) (k num a : Int) (ls : List Level) (vl vk : Value) (more : Int) (w : World) (hd : SlDecl w ds vd) (hl : SlLevel w ls vl) (h0 : 0 ≤ num) (hm : 0 ≤ more ∧ more ≤ 1) :
    Calls Tryd.prog 89 #[.agg #[vd, .int .i64 n, .int .i64 self, .int .i64 scope], .agg #[.int .i64 k, .int .i64 num, .int .i64 a, vl, vk], .int .i64 more] w fun e w' =>
      Ext w w' ∧ ((DeclOk ds num ls.length more ∧ ∃ cs : List Value, e = .returned (.agg cs.toArray) ∧ RDecl w' (dAt ds num) cs) ∨ (¬ DeclOk ds num ls.length more ∧ e = .panicked wrongs)) := by
  obtain ⟨A, c, hv, hc, hr⟩ := id hd
  obtain ⟨A1, c1, hv1, hc1, hr1⟩ := id hl
  subst hv hv1
  have hl0 := hr.len_le
  have hl1 := hr1.len_le
  obtain ⟨m, rfl⟩ := Int.eq_ofNat_of_zero_le h0
  have hdat : m < ds.length → ∀ h : m < ds.length, ds[m] = dAt ds m := fun _ h => by unfold dAt; rw [Int.toNat_natCast, getD_at _ _ h]
  by_cases h1 : m < ds.length
  · have h1' : (m : Int) < ds.length := by omega
    go_enter Tryd.func89, Tryd.ntmps89
    go_wp2_with fail
    refine (must_yes [true] _ _ (sl_bool1 (by simp [go_sem, h1'])) rfl).mono ?_
    rintro e w1 ⟨rfl, hx1⟩
    have hx : Ext w w1 := ((((Ext.rf _).al _).al _).al _).al _ |>.tr hx1
    obtain ⟨b, o, cs, rfl, hR, hcs0⟩ := hr.at_ h1
    rw [hdat h1 h1] at hR
    clear hdat
    have hcs : w1.rangeAt b (o + m * 16) cs := hcs0.ext hx
    have hon := rdecl_ones hR
    obtain ⟨f0, f1, i0, i1, _⟩ := rdecl_fields hR
    have f1' := f1
    have hu := Tryd.underlying34
    have hi34 : (Tryd.prog.info? 34).map (·.size) = some cs.length := by rw [hon.1]; kernel_rfl
    have d0 : w1.cell? ⟨w.heap.size, 0, none⟩ = some (.slice (some ⟨b, o, none⟩) ds.length c) := hx1.cell (by simp [go_sem])
    have d1 : w1.cell? ⟨w.heap.size + 1, 1, none⟩ = some (.int .i64 m) := hx1.cell (by simp [go_sem])
    have d3 : w1.cell? ⟨w.heap.size + 1, 3, none⟩ = some (.slice A1 ls.length c1) := hx1.cell (by simp [go_sem])
    have e1 := lt_of_cell d0
    have e2 := lt_of_cell d1
    clear hcs0
    have hx0 := hid hx1
    clear hx1
    by_cases h2 : (ls.length : Int) = (dAt ds m).levels + more
    · have hB : ((ls.length : Int) == wrap64 ((dAt ds m).levels + more)) = true := by
        unfold inI at i1
        rw [beq_iff_eq]
        unfold wrap64
        omega
      clear h2
      go_wp2_with (first | (refine wpList_load_mid (by rfl) 34 _ (by rfl) b (o + m * 16) (by rfl) cs _ hcs hu (by rfl) hi34 ?_) | (refine wpList_store_fresh (by rfl) 34 _ _ (by rfl) _ 34 cs (by rfl) (by rfl) (by rw [hon.1]; rfl) hi34 hon.2 ?_))
      refine (must_yes [true] _ _ (sl_bool1 ?_) rfl).mono ?_
      · simp [go_sem, hB]
      rintro e w2 ⟨rfl, hx2⟩
      have hx3 : Ext w1 w2 := (((Ext.rf _).al _).al _).tr hx2
      have hx4 := hx.tr hx3
      have hr2 : w2.rangeAt w1.heap.size 0 cs := fun j v hv => hx2.cell (by have := range_fresh w1 34 cs j v hv; simpa [go_sem] using this)
      have hth : w2.there (w.heap.size + 1 + 1) 0 cs.length := by
        obtain ⟨C, hC, hCs⟩ : ∃ C : Array Value, w2.heap[w.heap.size + 1 + 1]? = some (.cells C 34 (0, 0)) ∧ cs.length ≤ C.size := by
          refine ⟨_, (hx3.block _ ?_).trans ((hx0.out.block _ (by simp)).trans ((Below.heap_alloc _ _ _ (by simp)).trans (by simpa using heap_alloc_new ((w.alloc _).alloc _) _))), by rw [hon.1]; simp⟩
          have := hx0.out.size
          simp at this
          omega
        exact there_of_block hC hCs
      go_wp2_with (first | (refine wpList_load_mid (by rfl) 34 _ (by rfl) w1.heap.size 0 (by rfl) cs _ hr2 hu (by rfl) hi34 ?_) | (refine wpList_store_mid (by rfl) 34 _ _ (by rfl) (w.heap.size + 1 + 1) 0 cs.toArray (by rfl) (by rfl) (by simpa using hth) (by simpa using hi34) (all_oneCell_toArray hon.2) ?_))
      have hx5 : Ext w (w2.setCells (w.heap.size + 1 + 1) 0 cs) := hx4.sets (by omega) cs 0
      refine bodyPost_ret (v := .agg cs.toArray) (results_cell_mid (by rfl) _ _ (w.heap.size + 1 + 1) cs _ (by rfl) (World.rangeAt_setCells_same _ _ _ _ hth) hu (by rfl) hi34) rfl ⟨hx5, .inl ⟨⟨by simpa using h1, ?_⟩, cs, rfl, mono_decl _ _ _ _ hx5 hR⟩⟩
      unfold inI at i1
      rw [beq_iff_eq] at hB
      unfold wrap64 at hB
      omega
    · have hB : ((ls.length : Int) == wrap64 ((dAt ds m).levels + more)) = false := by
        unfold inI at i1
        rw [beq_eq_false_iff_ne]
        unfold wrap64
        omega
      have hno : ¬ DeclOk ds m ls.length more := fun ⟨_, h⟩ => h2 h
      clear h2
      go_wp2_with (first | (refine wpList_load_mid (by rfl) 34 _ (by rfl) b (o + m * 16) (by rfl) cs _ hcs hu (by rfl) hi34 ?_) | (refine wpList_store_fresh (by rfl) 34 _ _ (by rfl) _ 34 cs (by rfl) (by rfl) (by rw [hon.1]; rfl) hi34 hon.2 ?_))
      refine (must_no [false] _ _ (sl_bool1 ?_) rfl).mono ?_
      · simp [go_sem, hB]
      rintro e w2 ⟨rfl, hx2⟩
      go_wp2_with fail
      exact ⟨rfl, hx.tr ((((Ext.rf _).al _).al _).tr hx2), .inr ⟨hno, rfl⟩⟩
  · have h1' : ¬ (m : Int) < ds.length := by omega
    go_enter Tryd.func89, Tryd.ntmps89
    go_wp2_with fail
    refine (must_no [false] _ _ (sl_bool1 (by simp [go_sem, h1'])) rfl).mono ?_
    rintro e w1 ⟨rfl, hx1⟩
    go_wp2_with fail
    exact ⟨rfl, (((((Ext.rf _).al _).al _).al _).al _).tr hx1, .inr ⟨fun ⟨h, _⟩ => h1 (by simpa using h), rfl⟩⟩
end Go.Proofs.YtjaklnabidbmiaaDoor

/- Walks: term.count, term.Right. -/
import Derived.Test.YtjaklnabidbmiaaDoorTerm
namespace Go.Proofs.YtjaklnabidbmiaaDoor
open Go.RowKit
set_option linter.unusedSimpArgs false
set_option linter.unusedVariables false

/-- All that was there stays, one block apart. -/
structure ExtBut (g : Nat) (w w' : World) : Prop where
  os : w'.os = w.os
  tape : w'.tape = w.tape
  output : w'.output = w.output
  size : w.heap.size ≤ w'.heap.size
  block : ∀ k, k < w.heap.size → k ≠ g → w'.heap[k]? = w.heap[k]?
theorem ExtBut.rf (g : Nat) (w : World) : ExtBut g w w := ⟨rfl, rfl, rfl, Nat.le_refl _, fun _ _ _ => rfl⟩
theorem ExtBut.of {g : Nat} {w w' : World} (h : Ext w w') : ExtBut g w w' := ⟨h.os, h.tape, h.output, h.size, fun k hk _ => h.block k hk⟩
theorem ExtBut.tr {g : Nat} {a b c : World} (h : ExtBut g a b) (k : ExtBut g b c) : ExtBut g a c :=
  ⟨k.os.trans h.os, k.tape.trans h.tape, k.output.trans h.output, Nat.le_trans h.size k.size, fun i hi hg => (k.block i (Nat.lt_of_lt_of_le hi h.size) hg).trans (h.block i hi hg)⟩
theorem ExtBut.set (g j : Nat) (w : World) (v : Value) : ExtBut g w (w.setCell ⟨g, j, none⟩ v) := ⟨rfl, rfl, rfl, by simp [World.setCell], fun k _ hk => Below.heap_setCell w _ v k hk⟩
theorem ExtBut.below {g B : Nat} {w0 w w' : World} (hb : Below B w0 w) (hB : B ≤ g) (hs : B ≤ w.heap.size) (h : ExtBut g w w') : Below B w0 w' :=
  hb.trans ⟨h.os, h.tape, h.output, h.size, fun k hk => h.block k (by omega) (by omega)⟩
theorem ExtBut.cell {g : Nat} {w w' : World} (h : ExtBut g w w') {b o : Nat} {v : Value} (hb : b ≠ g) (hc : w.cell? ⟨b, o, none⟩ = some v) : w'.cell? ⟨b, o, none⟩ = some v := by
  have := h.block b (lt_of_cell hc) hb
  unfold World.cell? at hc ⊢
  rw [this]
  exact hc
theorem Ext.tr' {g : Nat} {w0 w w' : World} (h : Ext w0 w) (hg : w0.heap.size ≤ g) (k : ExtBut g w w') : Ext w0 w' := ExtBut.below h hg h.size k
theorem ExtBut.ext {g : Nat} {w0 w : World} (hg : w0.heap.size ≤ g) (h : ExtBut g w0 w) : Ext w0 w := ⟨h.os, h.tape, h.output, h.size, fun k hk => h.block k hk (by omega)⟩

mutual
def countT : Term → Int → Int → Bool × Int
  | .mk k n a ls ks, deep, c => if deep ≤ 400 ∧ c + 1 ≤ 20000 ∧ node (.mk k n a ls ks) = true then countK ks (deep + 1) (c + 1) else (false, c + 1)
def countK : List Term → Int → Int → Bool × Int
  | [], _, c => (true, c)
  | t :: ts, d, c => if (countT t d c).1 = true then countK ts d (countT t d c).2 else countT t d c
end
theorem countK_go (ks : List Term) : ∀ (i : Nat) (hi : i < ks.length) (d c c' : Int), countK (ks.take i) d c = (true, c') → (countT ks[i] d c').1 = true → countK (ks.take (i + 1)) d c = (true, (countT ks[i] d c').2) := by
  induction ks with
  | nil => intro i hi; exact absurd hi (by simp)
  | cons t ts ih =>
    intro i hi d c c' h1 h2
    cases i with
    | zero =>
      simp only [List.take_zero, countK, Prod.mk.injEq, true_and] at h1
      subst h1
      simp only [List.getElem_cons_zero] at h2 ⊢
      simp [countK, h2]
    | succ i =>
      simp only [List.take_succ_cons, countK] at h1 ⊢
      simp only [List.getElem_cons_succ] at h2 ⊢
      by_cases ht : (countT t d c).1 = true
      · rw [if_pos ht] at h1 ⊢
        exact ih i (by simpa using hi) _ _ _ h1 h2
      · rw [if_neg ht] at h1
        rw [h1] at ht
        exact absurd rfl ht
theorem countK_stop (ks : List Term) : ∀ (i : Nat) (hi : i < ks.length) (d c c' : Int), countK (ks.take i) d c = (true, c') → (countT ks[i] d c').1 = false → countK ks d c = countT ks[i] d c' := by
  induction ks with
  | nil => intro i hi; exact absurd hi (by simp)
  | cons t ts ih =>
    intro i hi d c c' h1 h2
    cases i with
    | zero =>
      simp only [List.take_zero, countK, Prod.mk.injEq, true_and] at h1
      subst h1
      simp only [List.getElem_cons_zero] at h2 ⊢
      simp [countK, h2]
    | succ i =>
      simp only [List.take_succ_cons, countK] at h1 ⊢
      simp only [List.getElem_cons_succ] at h2 ⊢
      by_cases ht : (countT t d c).1 = true
      · rw [if_pos ht] at h1 ⊢
        exact ih i (by simpa using hi) _ _ _ h1 h2
      · rw [if_neg ht] at h1
        rw [h1] at ht
        exact absurd rfl ht
mutual
theorem countT_range : ∀ (t : Term) (d c c' : Int), countT t d c = (true, c') → 0 ≤ c ∧ c ≤ 20000 → 0 ≤ c' ∧ c' ≤ 20000
  | .mk k n a ls ks, d, c, c', h, hc => by
    rw [countT] at h
    split at h
    · rename_i h1
      exact countK_range ks _ _ h ⟨by omega, by omega⟩
    · cases h
theorem countK_range : ∀ (ks : List Term) (d c : Int) {c' : Int}, countK ks d c = (true, c') → 0 ≤ c ∧ c ≤ 20000 → 0 ≤ c' ∧ c' ≤ 20000
  | [], d, c, c', h, hc => by simp only [countK, Prod.mk.injEq, true_and] at h; omega
  | t :: ts, d, c, c', h, hc => by
    rw [countK] at h
    split at h
    · rename_i h1
      exact countK_range ts _ _ h (countT_range t d c _ (Prod.ext h1 rfl) hc)
    · rename_i h1
      rw [h] at h1
      exact absurd rfl h1
end
/-- What the walk of a counted node says. -/
def CountP (t : Term) : Prop := ∀ (deep c : Int) (cs : List Value) (w0 w : World) (g : Nat), RTerm w0 t cs → KindsIn w0 → Below w0.heap.size w0 w → w0.heap.size ≤ g →
  w.cell? ⟨g, 0, none⟩ = some (.int .i64 c) → w.frozen? ⟨g, 0, none⟩ = false → 0 ≤ c ∧ c ≤ 20000 → 1 ≤ deep ∧ deep ≤ 401 →
  Calls Tryd.prog 39 #[.agg cs.toArray, .int .i64 deep, .pointer (some ⟨g, 0, none⟩)] w fun e w' =>
    e = .returned (.bool (countT t deep c).1) ∧ ExtBut g w w' ∧ w'.cell? ⟨g, 0, none⟩ = some (.int .i64 (countT t deep c).2) ∧ w'.frozen? ⟨g, 0, none⟩ = false
set_option maxRecDepth 100000 in
set_option maxHeartbeats 1000000 in
theorem count1_any (t : Term) (ih : CountP t) (deep c : Int) (cs : List Value) (w0 w : World) (g d p : Nat) (hR : RTerm w0 t cs) (hK : KindsIn w0) (hB : Below w0.heap.size w0 w) (hg : w0.heap.size ≤ g)
    (hc : w.cell? ⟨g, 0, none⟩ = some (.int .i64 c)) (hf : w.frozen? ⟨g, 0, none⟩ = false) (hcb : 0 ≤ c ∧ c ≤ 20000) (hdb : 1 ≤ deep ∧ deep ≤ 400)
    (hd : w.cell? ⟨d, 0, none⟩ = some (.int .i64 deep)) (hp : w.cell? ⟨p, 0, none⟩ = some (.pointer (some ⟨g, 0, none⟩))) :
    Calls Tryd.prog 61 (#[.agg cs.toArray] ++ #[.pointer (some ⟨d, 0, none⟩), .pointer (some ⟨p, 0, none⟩)]) w fun e w' =>
      e = .returned (.bool (!(countT t (deep + 1) c).1)) ∧ ExtBut g w w' ∧ w'.cell? ⟨g, 0, none⟩ = some (.int .i64 (countT t (deep + 1) c).2) ∧ w'.frozen? ⟨g, 0, none⟩ = false := by
  have hgl := lt_of_cell hc
  have hgn := ne_of_cell hc
  have hdl := lt_of_cell hd
  have hpl := lt_of_cell hp
  cases t with | mk k n a ls ks =>
  obtain ⟨vl, vk, rfl, hi⟩ := rterm_iff.1 hR
  have IH := hid (ih (deep + 1) c [.int .i64 k, .int .i64 n, .int .i64 a, vl, vk] w0)
  clear ih
  go_enter Tryd.func61, Tryd.ntmps61
  go_wp2_with fail
  refine (IH.out _ g hR hK ?_ hg ?_ ?_ hcb ?_).mono ?_
  · exact hB.alloc (by have := hB.size; omega) _
  · simp [go_sem, hc, hgl, hgn]
  · simp [go_sem, hf, hgl, hgn]
  · omega
  rintro e w1 ⟨rfl, hx, h1, h2⟩
  go_wp2
  go_ret
  exact ⟨rfl, (ExtBut.of ((Ext.rf _).al _)).tr hx, h1, h2⟩
theorem enters_count1 : Enters 61 := ⟨fun _ _ => by simp [go_sem]⟩
set_option maxRecDepth 100000 in
set_option maxHeartbeats 2000000 in
theorem count_step (k n a : Int) (ls : List Level) (ks : List Term) (ih : ∀ t ∈ ks, CountP t) : CountP (.mk k n a ls ks) := by
  intro deep c cs w0 w g hR hK hB hg hc hf hcb hdb
  have hgl := lt_of_cell hc
  have hgn := ne_of_cell hc
  have hgl1 : g < w.heap.size + 1 := by omega
  have hgl2 : g < w.heap.size + 1 + 1 := by omega
  have hgl3 : g < w.heap.size + 2 := by omega
  obtain ⟨vl, vk, rfl, hi, hl, hs⟩ := rterm_iff.1 hR
  have hmf : ∀ (fn : Fn) (first cap : Array Value) (w : World), (Instr.makeFunc fn first cap).run Tryd.prog w = .ok (.func fn first cap) w := fun _ _ _ _ => rfl
  go_enter Tryd.func39, Tryd.ntmps39
  obtain ⟨W, hW⟩ : ∃ W, W = ((((w.setCell ⟨g, 0, none⟩ (.int .i64 (c + 1))).alloc (.cells #[.int .i64 k, .int .i64 n, .int .i64 a, vl, vk] 27)).alloc (.cells #[.int .i64 deep] 3)).alloc (.cells #[.pointer (some ⟨g, 0, none⟩)] 75)) := ⟨_, rfl⟩
  have hWB : Below w0.heap.size w0 W := by
    have hz := hB.size
    rw [hW]
    have hB' := hB.setCell (p := ⟨g, 0, none⟩) hg (.int .i64 (c + 1))
    have h1 := hB'.size
    have h2 := hB'.alloc h1 (.cells #[.int .i64 k, .int .i64 n, .int .i64 a, vl, vk] 27)
    have h3 := h2.alloc h2.size (.cells #[.int .i64 deep] 3)
    exact h3.alloc h3.size _
  have hWE : ExtBut g w W := by
    rw [hW]
    exact (ExtBut.set g 0 w _).tr (.of ((((Ext.rf _).al _).al _).al _))
  have hWg : W.cell? ⟨g, 0, none⟩ = some (.int .i64 (c + 1)) := by rw [hW]; simp [go_sem, hc, hgl, hgl1, hgl2]
  have hWf : W.frozen? ⟨g, 0, none⟩ = false := by rw [hW]; simp [go_sem, hf, hgl, hgl1, hgl2]
  have hWd : W.cell? ⟨w.heap.size + 1, 0, none⟩ = some (.int .i64 deep) := by rw [hW]; simp [go_sem]
  have hWp : W.cell? ⟨w.heap.size + 2, 0, none⟩ = some (.pointer (some ⟨g, 0, none⟩)) := by rw [hW]; simp [go_sem]
  have hW4 : W.cell? ⟨w.heap.size, 4, none⟩ = some vk := by rw [hW]; simp [go_sem]
  by_cases hd4 : deep ≤ 400
  · by_cases hc2 : c + 1 ≤ 20000
    · go_wp2_with fail
      rw [← hW]
      refine (node_any k n a ls ks vl vk W (hK.ext hWB) hi.2.1 hi.2.2 (hl.ext mono_level hWB) (hs.ext mono_term hWB)).mono ?_
      rintro e w1 ⟨rfl, hx1⟩
      have hw4 := hx1.cell hW4
      cases hn : node (.mk k n a ls ks)
      · go_wp2_with fail
        go_ret
        refine ⟨ret_bool ?_, hWE.tr (.of hx1), ?_, ?_⟩
        · rw [countT, if_neg (by simp [hn])]
        · rw [hx1.cell hWg, countT, if_neg (by simp [hn])]
        · exact (Below.frozen hx1 (World.block_lt_of_cell? W _ hWg)).trans hWf
      · have hcount : countT (.mk k n a ls ks) deep c = countK ks (deep + 1) (c + 1) := by rw [countT, if_pos ⟨hd4, hc2, hn⟩]
        have HC := hid hcount
        clear hcount
        go_wp2_with fail
        refine (contains_term 61 _ ks vk w0 w1 hs (ExtBut.below hWB hg (by have := hWB.size; omega) (.of hx1))
          (fun i W' => ExtBut g W W' ∧ ∃ c', countK (ks.take i) (deep + 1) (c + 1) = (true, c') ∧ W'.cell? ⟨g, 0, none⟩ = some (.int .i64 c') ∧ W'.frozen? ⟨g, 0, none⟩ = false)
          (fun i W' => ExtBut g W W' ∧ countK ks (deep + 1) (c + 1) = (false, (countK ks (deep + 1) (c + 1)).2) ∧ W'.cell? ⟨g, 0, none⟩ = some (.int .i64 (countK ks (deep + 1) (c + 1)).2) ∧ W'.frozen? ⟨g, 0, none⟩ = false)
          enters_count1 ?_ ?_).mono ?_
        · intro i hi' cs' W' hR' hB' hJ
          obtain ⟨hJ1, c', hJ2, hJ3, hJ4⟩ := hJ
          have hcr := countK_range (ks.take i) (deep + 1) (c + 1) hJ2 ⟨by omega, by omega⟩
          refine (count1_any ks[i] (ih _ (List.getElem_mem hi')) deep c' cs' w0 W' g (w.heap.size + 1) (w.heap.size + 2) hR' hK hB' hg hJ3 hJ4 hcr ⟨by omega, hd4⟩ (hJ1.cell (by omega) hWd) (hJ1.cell (by omega) hWp)).mono ?_
          rintro e w2 ⟨rfl, hx2, hc2', hf2⟩
          refine ⟨ExtBut.below hB' hg hB'.size hx2, ?_⟩
          cases hb : (countT ks[i] (deep + 1) c').1
          · refine .inr ⟨rfl, hJ1.tr hx2, ?_, ?_, hf2⟩
            · rw [countK_stop ks i hi' _ _ c' hJ2 hb]
              exact Prod.ext hb rfl
            · rw [countK_stop ks i hi' _ _ c' hJ2 hb]
              exact hc2'
          · refine .inl ⟨rfl, hJ1.tr hx2, (countT ks[i] (deep + 1) c').2, ?_, hc2', hf2⟩
            exact countK_go ks i hi' _ _ c' hJ2 hb
        · exact ⟨.of hx1, c + 1, rfl, hx1.cell hWg, (Below.frozen hx1 (lt_of_cell hWg)).trans hWf⟩
        rintro e w2 ⟨hB2, ⟨rfl, hJ1, c', hJ2, hJ3, hJ4⟩ | ⟨i, _, rfl, hJ1, hJ2, hJ3, hJ4⟩⟩
        · rw [List.take_length] at hJ2
          go_wp2
          go_ret
          refine ⟨ret_bool ?_, hWE.tr hJ1, ?_, hJ4⟩
          · rw [HC.out, hJ2]
          · rw [HC.out, hJ2]; exact hJ3
        · go_wp2
          go_ret
          refine ⟨ret_bool ?_, hWE.tr hJ1, ?_, hJ4⟩
          · rw [HC.out, hJ2]
          · rw [HC.out]; exact hJ3
    · go_wp2_with fail
      rw [← hW]
      go_ret
      refine ⟨ret_bool ?_, hWE, ?_, hWf⟩
      · rw [countT, if_neg (by omega)]
      · rw [hWg, countT, if_neg (by omega)]
  · go_wp2_with fail
    rw [← hW]
    go_ret
    refine ⟨ret_bool ?_, hWE, ?_, hWf⟩
    · rw [countT, if_neg (by omega)]
    · rw [hWg, countT, if_neg (by omega)]
theorem count_any (t : Term) : CountP t := Term.ind (fun k n a ls ks ih => count_step k n a ls ks ih) t
def termRight (t : Term) : Bool := (countT t 1 0).1
set_option maxRecDepth 100000 in
theorem right_any (t : Term) (cs : List Value) (w : World) (hK : KindsIn w) (hR : RTerm w t cs) :
    Calls Tryd.prog 17 #[.agg cs.toArray] w fun e w' => e = .returned (.bool (termRight t)) ∧ Ext w w' := by
  have HC := hid (count_any t 1 0 cs w)
  cases t with | mk k n a ls ks =>
  obtain ⟨vl, vk, rfl, hi, hl, hs⟩ := rterm_iff.1 hR
  go_enter Tryd.func17, Tryd.ntmps17
  go_wp2_with fail
  refine (HC.out _ (w.heap.size + 1) hR hK (((Ext.rf _).al _).al _) (by omega) ?_ ?_ ⟨by omega, by omega⟩ ⟨by omega, by omega⟩).mono ?_
  · simp [go_sem]
  · simp [go_sem]
  rintro e w1 ⟨rfl, hx, _, _⟩
  go_wp2
  go_ret
  exact ⟨rfl, (((Ext.rf w).al _).al _).tr' (by simp) hx⟩
end Go.Proofs.YtjaklnabidbmiaaDoor

/- Walks: source.over's asks, row; source.bare. -/
import Derived.Test.YtjaklnabidbmiaaDoorAll2
namespace Go.Proofs.YtjaklnabidbmiaaDoor
open Go.RowKit
set_option linter.unusedSimpArgs false
set_option linter.unusedVariables false

mutual
theorem nice_of_count : ∀ (t : Term) (d : Nat) (deep c c' : Int), countT t deep c = (true, c') → deep = 401 - (d : Int) → Nice d t
  | .mk k n a ls ks, d, deep, c, c', h, hd => by
    rw [countT] at h
    split at h
    · rename_i h1
      obtain ⟨d, rfl⟩ : ∃ e, d = e + 1 := ⟨d - 1, by omega⟩
      have hn : NodeOk k n a ls.length ks.length := by
        have := h1.2.2
        simp only [node, Bool.and_eq_true, decide_eq_true_eq] at this
        exact this.1
      exact ⟨hn.2.1.1, nice_of_countK ks d (deep + 1) (c + 1) h (by omega)⟩
    · cases h
theorem nice_of_countK : ∀ (ks : List Term) (d : Nat) (deep c : Int) {c' : Int}, countK ks deep c = (true, c') → deep = 401 - (d : Int) → ∀ x ∈ ks, Nice d x
  | [], _, _, _, _, _, _ => fun _ hx => nomatch hx
  | t :: ts, d, deep, c, c', h, hd => by
    rw [countK] at h
    split at h
    · rename_i h1
      have h2 := nice_of_count t d deep c _ (Prod.ext h1 rfl) hd
      have h3 := nice_of_countK ts d deep _ h hd
      intro x hx
      rcases List.mem_cons.1 hx with rfl | hx
      · exact h2
      · exact h3 x hx
    · rename_i h1
      rw [h] at h1
      exact absurd rfl h1
end
theorem nice_of_right {t : Term} (h : termRight t = true) : Nice 400 t := nice_of_count t 400 1 0 _ (Prod.ext h rfl) rfl

def clampS (scope : Int) : Int := min (max scope 0) 1099511627776
/-- A source term is right. -/
def RightP (ds : List Decl) (n scope self : Int) (t : Term) : Prop := termRight t = true ∧ SrcOk ds n self t (clampS scope)
set_option maxRecDepth 100000 in
theorem asks_any (ds : List Decl) (n scope self : Int) (vd : Value) (t : Term) (cs : List Value) (w : World) (hK : KindsIn w) (hd : SlDecl w ds vd) (hR : RTerm w t cs) :
    Calls Tryd.prog 24 #[.agg #[vd, .int .i64 n, .int .i64 self], .int .i64 scope, .agg cs.toArray] w fun e w' => Ext w w' ∧ ((RightP ds n scope self t ∧ e = .returned (.tuple #[])) ∨ (¬ RightP ds n scope self t ∧ e = .panicked wrongs)) := by
  have hRt := right_any t cs
  have hAll := all_any 400 t
  have HR := hid hRt
  have HA := hid hAll
  clear hRt hAll
  obtain ⟨vl, vk, hcs, hi, hl, hsk⟩ := rterm_open hR
  subst hcs
  go_enter Tryd.func24, Tryd.ntmps24
  go_wp2_with fail
  refine (HR.out _ (hK.ext (((Ext.rf _).al _).al _)) (mono_term _ _ _ _ (((Ext.rf _).al _).al _) hR)).mono ?_
  rintro e w1 ⟨rfl, hx1⟩
  have hx : Ext w w1 := (((Ext.rf _).al _).al _).tr hx1
  cases hr : termRight t
  · go_wp2_with fail
    refine (must_no [false] _ _ (sl_bool1 (by simp [go_sem])) rfl).mono ?_
    rintro e w2 ⟨rfl, hx2⟩
    go_wp2_with fail
    exact ⟨rfl, hx.tr (((Ext.rf _).al _).tr hx2), .inr ⟨fun h => by simp [h.1] at hr, rfl⟩⟩
  · go_wp2_with fail
    refine (must_yes [true] _ _ (sl_bool1 (by simp [go_sem])) rfl).mono ?_
    rintro e w2 ⟨rfl, hx2⟩
    have hx12 : Ext w1 w2 := ((Ext.rf _).al _).tr hx2
    have b0 : w2.cell? ⟨w.heap.size, 0, none⟩ = some vd := hx12.cell (hx1.cell (by simp [go_sem]))
    have b1 : w2.cell? ⟨w.heap.size, 1, none⟩ = some (.int .i64 n) := hx12.cell (hx1.cell (by simp [go_sem]))
    have b2 : w2.cell? ⟨w.heap.size, 2, none⟩ = some (.int .i64 self) := hx12.cell (hx1.cell (by simp [go_sem]))
    have t0 : w2.cell? ⟨w.heap.size + 1, 0, none⟩ = some (.int .i64 t.kind) := hx12.cell (hx1.cell (by simp [go_sem]))
    have t1 : w2.cell? ⟨w.heap.size + 1, 1, none⟩ = some (.int .i64 t.num) := hx12.cell (hx1.cell (by simp [go_sem]))
    have t2 : w2.cell? ⟨w.heap.size + 1, 2, none⟩ = some (.int .i64 t.at_) := hx12.cell (hx1.cell (by simp [go_sem]))
    have t3 : w2.cell? ⟨w.heap.size + 1, 3, none⟩ = some vl := hx12.cell (hx1.cell (by simp [go_sem]))
    have t4 : w2.cell? ⟨w.heap.size + 1, 4, none⟩ = some vk := hx12.cell (hx1.cell (by simp [go_sem]))
    have hx02 := hx.tr hx12
    clear hx1 hx2
    have fin : ∀ X : Int, X = clampS scope → Calls Tryd.prog 46 #[.agg #[vd, .int .i64 n, .int .i64 self, .int .i64 X], .agg #[.int .i64 t.kind, .int .i64 t.num, .int .i64 t.at_, vl, vk]] w2 fun e w' => Ext w2 w' ∧ ((RightP ds n scope self t ∧ e = .returned (.tuple #[])) ∨ (¬ RightP ds n scope self t ∧ e = .panicked wrongs)) := by
      intro X hX
      refine (HA.out (nice_of_right hr) ds n self X vd _ w2 (by rw [hX]; unfold clampS; omega) (by rw [hX]; unfold clampS; omega) (hK.ext hx02) (hd.ext mono_decl hx02) (mono_term _ _ _ _ hx02 hR)).mono ?_
      rintro e w' ⟨hx3, ⟨h1, rfl⟩ | ⟨h1, rfl⟩⟩
      · exact ⟨hx3, .inl ⟨⟨hr, hX ▸ h1⟩, rfl⟩⟩
      · exact ⟨hx3, .inr ⟨fun h => h1 (hX ▸ h.2), rfl⟩⟩
    have FIN := hid fin
    clear fin
    go_wp2_with fail
    all_goals
      refine (FIN.out _ (by unfold clampS; omega)).mono ?_
      rintro e w3 ⟨hx3, ⟨h1, rfl⟩ | ⟨h1, rfl⟩⟩
      · go_wp2_with fail
        go_end0
        exact ⟨hx02.tr hx3, .inl ⟨h1, rfl⟩⟩
      · go_wp2_with fail
        exact ⟨rfl, hx02.tr hx3, .inr ⟨h1, rfl⟩⟩
/-- Rows: each below those ahead. -/
def RowP (ds : List Decl) (n scope self : Int) (l : List Term) : Prop := ∀ (i : Nat) (h : i < l.length), RightP ds n (scope + i) self l[i]
set_option maxRecDepth 100000 in
set_option maxHeartbeats 1000000 in
theorem row_any (ds : List Decl) (n scope self : Int) (vd : Value) (l : List Term) (v : Value) (w : World) (hK : KindsIn w) (hd : SlDecl w ds vd) (hs : SlTerm w l v) (hsc : 0 ≤ scope ∧ scope ≤ 140737488351232) :
    Calls Tryd.prog 53 #[.agg #[vd, .int .i64 n, .int .i64 self], .int .i64 scope, v] w fun e w' => Ext w w' ∧ ((RowP ds n scope self l ∧ e = .returned (.tuple #[])) ∨ (¬ RowP ds n scope self l ∧ e = .panicked wrongs)) := by
  obtain ⟨A0, c0, hv0, hc0, hr0⟩ := id hd
  obtain ⟨A, c, rfl, hc, hr⟩ := hs
  subst hv0
  have hln := hr.len_le
  go_enter Tryd.func53, Tryd.ntmps53
  go_wp2_with fail
  go_loopw [10] (fun i wr => ∃ j : Nat, j ≤ l.length ∧ i = .int .i64 j ∧ Ext (w.alloc (.cells #[.slice A0 ds.length c0, .int .i64 n, .int .i64 self] 59)) wr ∧ ∀ (x : Nat) (h : x < l.length), x < j → RightP ds n (scope + x) self l[x]) (fun i _ => l.length - (intOf i).toNat)
  case atStart => exact ⟨0, by omega, rfl, Ext.rf _, fun x _ h => absurd h (by omega)⟩
  case round =>
    rename_i wr
    obtain ⟨j, hj, rfl, hxr, hq⟩ := hrel
    have hx0r := ((Ext.rf w).al _).tr hxr
    by_cases hlt : j < l.length
    · obtain ⟨b, o, cs, rfl, hRj, hcs0⟩ := hr.at_ hlt
      have hcs : wr.rangeAt b (o + j * 5) cs := hcs0.ext hx0r
      have hon := rterm_ones hRj
      have hu := Tryd.underlying27
      have hi27 : (Tryd.prog.info? 27).map (·.size) = some cs.length := by rw [hon.1]; kernel_rfl
      have r0 : wr.cell? ⟨w.heap.size, 0, none⟩ = some (.slice A0 ds.length c0) := hxr.cell (by simp [go_sem])
      have r1 : wr.cell? ⟨w.heap.size, 1, none⟩ = some (.int .i64 n) := hxr.cell (by simp [go_sem])
      have r2 : wr.cell? ⟨w.heap.size, 2, none⟩ = some (.int .i64 self) := hxr.cell (by simp [go_sem])
      have e1 := lt_of_cell r0
      have hs2 : scope + (j : Int) ≤ 9223372036854775807 := by omega
      clear hcs0
      go_wp2_with (first | (refine wpList_load_mid (by rfl) 27 _ (by rfl) b (o + j * 5) (by rfl) cs _ hcs hu (by rfl) hi27 ?_) | (refine wpList_store_fresh (by rfl) 27 _ _ (by rfl) _ 27 cs (by rfl) (by rfl) (by rw [hon.1]; rfl) hi27 hon.2 ?_) | (refine wpList_load_mid (by rfl) 27 _ (by rfl) wr.heap.size 0 (by rfl) cs _ (range_fresh wr 27 cs) hu (by rfl) hi27 ?_))
      refine (asks_any ds n (scope + j) self _ l[j] cs _ (hK.ext (hx0r.al _)) (hd.ext mono_decl (hx0r.al _)) (mono_term _ _ _ _ (hx0r.al _) hRj)).mono ?_
      rintro e w6 ⟨hx6, ⟨hsub, rfl⟩ | ⟨hsub, rfl⟩⟩
      · go_wp2_with fail
        refine ⟨⟨j + 1, by omega, by go_num, hxr.tr (((Ext.rf _).al _).tr hx6), fun x h1 h2 => ?_⟩, by simp only [intOf]; omega⟩
        by_cases h3 : x < j
        · exact hq x h1 h3
        · obtain rfl : x = j := by omega
          exact hsub
      · go_wp2_with fail
        exact ⟨rfl, hx0r.tr (((Ext.rf _).al _).tr hx6), .inr ⟨fun h => hsub (h j hlt), rfl⟩⟩
    · obtain rfl : j = l.length := by omega
      go_wp2_with fail
      go_end0
      exact ⟨hx0r, .inl ⟨fun x h => hq x h h, rfl⟩⟩
end Go.Proofs.YtjaklnabidbmiaaDoor

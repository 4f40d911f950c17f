/- Walks: spandrelref11.Right, row: they tell RightP, RowP. -/
import Derived.Test.YtjaklnabidbmiaaDoorRefEl
namespace Go.Proofs.YtjaklnabidbmiaaDoor
open Go.RowKit
set_option linter.unusedSimpArgs false
set_option linter.unusedVariables false

theorem badHead_iff (ds : List Decl) (scope self k nu a nl dp : Int) (hk : 1 ≤ k ∧ k ≤ 24) (hnu : 0 ≤ nu ∧ nu ≤ 1048576) (h0 : 0 ≤ dp) :
    badHead ds scope self k nu a nl dp = false ↔ (AskOk ds self (clampS scope + dp) k nu a nl ∨ (¬ hasAsk k ∧ k ≤ 7)) := by
  rw [srcHead_iff ds self _ k nu a nl hk]
  unfold badHead namedB clampS
  simp only [Bool.not_eq_false', Bool.and_eq_true, decide_eq_true_eq, Bool.not_eq_true', Bool.and_eq_false_iff, decide_eq_false_iff_not]
  refine and_congr_right fun _ => ?_
  omega
mutual
theorem rsT_iff (ds : List Decl) (n scope self : Int) : ∀ (t : Term) (deep dp : Int), OkT t deep → 0 ≤ dp → (rsT ds n scope self t dp = true ↔ SrcOk ds n self t (clampS scope + dp))
  | .mk k nu a ls ks, deep, dp, hok, h0 => by
    have h1 := badHead_iff ds scope self k nu a ls.length dp hok.2.1.1.1 hok.2.1.1.2.1 h0
    have h2 := rsK_iff ds n scope self k ks 0 (deep + 1) dp hok.2.2 h0
    rw [rsT, SrcOk, ← h1, ← h2]
    simp only [Bool.and_eq_true, Bool.not_eq_true', List.all_eq_true]
theorem rsK_iff (ds : List Decl) (n scope self k : Int) : ∀ (ks : List Term) (i deep dp : Int), OkK ks deep → 0 ≤ dp → (rsK ds n scope self k i ks dp = true ↔ SrcKids ds n self k i ks (clampS scope + dp))
  | [], i, deep, dp, _, _ => by simp [rsK, SrcKids]
  | t :: ts, i, deep, dp, hok, h0 => by
    have h1 := rsT_iff ds n scope self t deep (dp + (if binds k i = true then 1 else 0)) hok.1 (by split <;> omega)
    have h2 := rsK_iff ds n scope self k ts (i + 1) deep dp hok.2 h0
    rw [rsK, SrcKids, Bool.and_eq_true, h1, h2, Int.add_assoc]
end
theorem ok_of_right {t : Term} (h : termRight t = true) : OkT t 1 := by
  have e : (countT t 1 0).1 = true := h
  rcases countT_iff t 1 0 (by omega) with h1 | h1
  · exact h1.2.2.1
  · rw [h1.1] at e; cases e
/-- Whether it is right, told by a truth. -/
def Tells (P : Prop) (w : World) (e : Ending) (w' : World) : Prop := Ext w w' ∧ ((P ∧ e = .returned (.bool true)) ∨ (¬ P ∧ e = .returned (.bool false)))
set_option maxRecDepth 100000 in
theorem refElRight_any (ds : List Decl) (n scope self : Int) (vd : Value) (t : Term) (cs : List Value) (w : World) (hd : SlDecl w ds vd) (hR : RTerm w t cs) :
    Calls Tryd.prog 9 #[vd, .int .i64 n, .int .i64 scope, .int .i64 self, .agg cs.toArray] w (Tells (RightP ds n scope self t) w) := by
  have HT := hid (refRight_any t cs)
  have HS := hid (refSrc_any ds n scope self vd t 1 0 cs)
  have HI := hid (fun h => rsT_iff ds n scope self t 1 0 h (by omega))
  have hR0 := hid hR
  have hd0 := hid hd
  obtain ⟨vl, vk, rfl, -, ⟨A1, c1, rfl, -⟩, ⟨A2, c2, rfl, -⟩⟩ := rterm_open hR
  obtain ⟨A0, c0, rfl, -⟩ := hd
  clear hR
  go_enter Tryd.func9, Tryd.ntmps9
  go_wp2_with fail
  have hxb : Ext w _ := (Ext.rf w).al (.cells #[.int .i64 t.kind, .int .i64 t.num, .int .i64 t.at_, .slice A1 t.levels.length c1, .slice A2 t.kids.length c2] 27)
  refine (HT.out _ (mono_term _ _ _ _ hxb hR0.out)).mono ?_
  rintro e w1 ⟨rfl, hx1⟩
  have hx := hxb.tr hx1
  have q0 : w1.cell? ⟨w.heap.size, 0, none⟩ = some (.int .i64 t.kind) := hx1.cell (by simp [go_sem])
  have q1 : w1.cell? ⟨w.heap.size, 1, none⟩ = some (.int .i64 t.num) := hx1.cell (by simp [go_sem])
  have q2 : w1.cell? ⟨w.heap.size, 2, none⟩ = some (.int .i64 t.at_) := hx1.cell (by simp [go_sem])
  have q3 : w1.cell? ⟨w.heap.size, 3, none⟩ = some (.slice A1 t.levels.length c1) := hx1.cell (by simp [go_sem])
  have q4 : w1.cell? ⟨w.heap.size, 4, none⟩ = some (.slice A2 t.kids.length c2) := hx1.cell (by simp [go_sem])
  cases hr : termRight t
  · have hno : ¬ RightP ds n scope self t := fun h => by rw [RightP, hr] at h; exact absurd h.1 (by decide)
    clear hr
    go_wp2_with fail
    go_ret
    exact ⟨hx, .inr ⟨hno, rfl⟩⟩
  · have hok := hid (ok_of_right hr)
    have hr' := hid hr
    clear hr
    go_wp2_with fail
    refine (HS.out _ hok.out (by omega) (by omega) (hd0.out.ext mono_decl hx) (mono_term _ _ _ _ hx hR0.out)).mono ?_
    rintro e w2 ⟨rfl, hx2⟩
    go_wp2_with fail
    go_ret
    have hi := HI.out hok.out
    rw [Int.add_zero] at hi
    refine ⟨hx.tr hx2, ?_⟩
    cases hb : rsT ds n scope self t 0
    · exact .inr ⟨fun h => by (rw [hi.2 h.2] at hb; cases hb), rfl⟩
    · exact .inl ⟨⟨hr'.out, hi.1 hb⟩, rfl⟩
set_option maxRecDepth 100000 in
set_option maxHeartbeats 1000000 in
theorem refElRow_any (ds : List Decl) (n scope : Int) (vd : Value) (l : List Term) (v : Value) (w : World) (hd : SlDecl w ds vd) (hs : SlTerm w l v) (hsc : 0 ≤ scope ∧ scope ≤ 140737488351232) :
    Calls Tryd.prog 54 #[vd, .int .i64 n, .int .i64 scope, v] w (Tells (RowP ds n scope 0 l) w) := by
  obtain ⟨A0, c0, hv0, -⟩ := id hd
  obtain ⟨A, c, rfl, hc, hr⟩ := hs
  have hd0 := hid hd
  clear hd
  subst hv0
  have hln := hr.len_le
  go_enter Tryd.func54, Tryd.ntmps54
  go_wp2_with fail
  go_loopw [9] (fun i wr => ∃ j : Nat, j ≤ l.length ∧ i = .int .i64 j ∧ Ext w wr ∧ ∀ (x : Nat) (h : x < l.length), x < j → RightP ds n (scope + x) 0 l[x]) (fun i _ => l.length - (intOf i).toNat)
  case atStart => exact ⟨0, by omega, rfl, Ext.rf _, fun x _ h => absurd h (by omega)⟩
  case round =>
    rename_i wr
    obtain ⟨j, hj, rfl, hxr, hq⟩ := hrel
    by_cases hlt : j < l.length
    · obtain ⟨b, o, cs, rfl, hRj, hcs0⟩ := hr.at_ hlt
      have hcs := hcs0.ext hxr
      have hon := rterm_ones hRj
      have hu := Tryd.underlying27
      have hi27 : (Tryd.prog.info? 27).map (·.size) = some cs.length := by rw [hon.1]; kernel_rfl
      have hs2 : scope + (j : Int) ≤ 9223372036854775807 := by omega
      have hq' := hid hq
      clear hcs0 hq
      go_wp2_with ((with_reducible show wpList _ _ _ (⟨_, Op.load 27 _, _, _, _, _⟩ :: _) _ _); refine wpList_load_mid (by rfl) 27 _ (by rfl) b (o + j * 5) (by rfl) cs _ hcs hu (by rfl) hi27 ?_)
      refine (refElRight_any ds n (scope + j) 0 _ l[j] cs _ (hd0.out.ext mono_decl hxr) (mono_term _ _ _ _ hxr hRj)).mono ?_
      rintro e w6 ⟨hx6, ⟨hsub, rfl⟩ | ⟨hsub, rfl⟩⟩
      · go_wp2_with fail
        refine ⟨⟨j + 1, by omega, by go_num, hxr.tr hx6, fun x h1 h2 => ?_⟩, by simp only [intOf]; omega⟩
        by_cases h3 : x < j
        · exact hq'.out x h1 h3
        · obtain rfl : x = j := by omega
          exact hsub
      · go_wp2_with fail
        go_ret
        exact ⟨hxr.tr hx6, .inr ⟨fun h => hsub (h j hlt), rfl⟩⟩
    · obtain rfl : j = l.length := by omega
      go_wp2_with fail
      go_ret
      exact ⟨hxr, .inl ⟨fun x h => hq x h h, rfl⟩⟩
end Go.Proofs.YtjaklnabidbmiaaDoor

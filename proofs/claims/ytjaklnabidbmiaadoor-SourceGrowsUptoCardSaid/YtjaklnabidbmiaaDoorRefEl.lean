/- Walks: spandrelref02.Right; spandrelref11.right, Right, row: they tell what the program's do. -/
import Derived.Test.YtjaklnabidbmiaaDoorRef3
import Derived.Test.YtjaklnabidbmiaaDoorNamed
namespace Go.Proofs.YtjaklnabidbmiaaDoor
open Go.RowKit
set_option linter.unusedSimpArgs false
set_option linter.unusedVariables false

theorem refP_any (t : Term) : RefP t := Term.ind (fun k n a l ks ih => ref_step k n a l ks ih) t
set_option maxRecDepth 100000 in
theorem refRight_any (t : Term) (cs : List Value) (w : World) (hR : RTerm w t cs) :
    Calls Tryd.prog 25 #[.agg cs.toArray] w fun e w' => e = .returned (.bool (termRight t)) ∧ Ext w w' := by
  have HC := hid (refP_any t 1 cs)
  have HE := hid (refT_right t)
  cases t with | mk k n a ls ks =>
  obtain ⟨vl, vk, rfl, hi, hl, hs⟩ := rterm_iff.1 hR
  go_enter Tryd.func25, Tryd.ntmps25
  go_wp2_with fail
  refine (HC.out _ (mono_term _ _ _ _ ((Ext.rf _).al _) hR) (by omega)).mono ?_
  rintro e w1 ⟨rfl, hx⟩
  go_wp2
  go_ret
  exact ⟨ret_bool HE.out, ((Ext.rf _).al _).tr hx⟩

/-- A node is none there, or a variable that is not there. -/
def badHead (ds : List Decl) (scope self k nu a nl dp : Int) : Bool := !(namedB ds self k nu a nl && !(decide (k = 1) && (decide (dp ≤ nu) && decide (scope ≤ nu - dp))))
mutual
/-- What the document's right computes. -/
def rsT (ds : List Decl) (n scope self : Int) : Term → Int → Bool
  | .mk k nu a ls ks, dp => !badHead ds scope self k nu a ls.length dp && ((ls.all fun l => levelRight l n) && rsK ds n scope self k 0 ks dp)
def rsK (ds : List Decl) (n scope self k : Int) : Int → List Term → Int → Bool
  | _, [], _ => true
  | i, t :: ts, dp => rsT ds n scope self t (dp + (if binds k i = true then 1 else 0)) && rsK ds n scope self k (i + 1) ts dp
end
theorem rsK_drop (ds : List Decl) (n scope self k dp : Int) (ks : List Term) (j : Nat) (h : j < ks.length) :
    rsK ds n scope self k j (ks.drop j) dp = (rsT ds n scope self ks[j] (dp + (if binds k j = true then 1 else 0)) && rsK ds n scope self k (j + 1 : Nat) (ks.drop (j + 1)) dp) := by
  rw [List.drop_eq_getElem_cons h, rsK]
  rfl
theorem okK_at : ∀ (ks : List Term) (d : Int), OkK ks d → ∀ (j : Nat) (h : j < ks.length), OkT ks[j] d
  | t :: ts, d, h, 0, _ => h.1
  | t :: ts, d, h, j + 1, hj => okK_at ts d h.2 j (by simpa using hj)
def RefSrcP (ds : List Decl) (n scope self : Int) (vd : Value) (t : Term) : Prop := ∀ (deep dp : Int) (cs : List Value) (w : World), OkT t deep → 0 ≤ dp → dp ≤ deep → SlDecl w ds vd → RTerm w t cs →
  Calls Tryd.prog 26 #[vd, .int .i64 n, .int .i64 scope, .int .i64 self, .agg cs.toArray, .int .i64 dp] w fun e w' => e = .returned (.bool (rsT ds n scope self t dp)) ∧ Ext w w'
set_option maxRecDepth 100000 in
set_option maxHeartbeats 2000000 in
theorem refSrc_step (ds : List Decl) (n scope self : Int) (vd : Value) (k nu a : Int) (ls : List Level) (ks : List Term) (ih : ∀ t ∈ ks, RefSrcP ds n scope self vd t) : RefSrcP ds n scope self vd (.mk k nu a ls ks) := by
  intro deep dp cs w hok h0 hdd hd hR
  obtain ⟨hdeep, ⟨hnode, -⟩, hkids⟩ := hok
  obtain ⟨hk, hnu, ha, -⟩ := hnode
  obtain ⟨vl, vk, rfl, hi, hl, hs⟩ := rterm_iff.1 hR
  obtain ⟨A0, c0, hv0, hc0, hr0⟩ := id hd
  obtain ⟨A1, c1, hv1, hc1, hr1⟩ := id hl
  obtain ⟨A2, c2, hv2, hc2, hr2⟩ := id hs
  have hl0 := hid hl
  have hs0 := hid hs
  have hd0 := hid hd
  clear hl hs hd hr0
  subst hv0 hv1 hv2
  have hl1 := hr1.len_le
  have hl2 := hr2.len_le
  have hsub : IntKind.i64.wrap (nu - dp) = nu - dp := IntWalk.i64_in _ (by omega)
  go_enter Tryd.func26, Tryd.ntmps26
  have hxb : Ext w _ := (Ext.rf w).al (.cells #[.int .i64 k, .int .i64 nu, .int .i64 a, .slice A1 ls.length c1, .slice A2 ks.length c2] 27)
  have Hxb := hid hxb
  clear hxb
  go_upto_region 1 with fail
  go_cut [39] (fun c wx => c = .bool (badHead ds scope self k nu a ls.length dp) ∧ Ext (w.alloc (.cells #[.int .i64 k, .int .i64 nu, .int .i64 a, .slice A1 ls.length c1, .slice A2 ks.length c2] 27)) wx)
  case first =>
    go_wp2_with fail
    refine (named_any ds self _ k nu a ls _ _ _ (hd0.out.ext mono_decl Hxb.out) (hl0.out.ext mono_level Hxb.out) (by omega) hk).mono ?_
    rintro e w1 ⟨rfl, hx1⟩
    have q0 : w1.cell? ⟨w.heap.size, 0, none⟩ = some (.int .i64 k) := hx1.cell (by simp [go_sem])
    have q1 : w1.cell? ⟨w.heap.size, 1, none⟩ = some (.int .i64 nu) := hx1.cell (by simp [go_sem])
    cases hnm : namedB ds self k nu a ls.length
    · go_wp2_with fail
      go_meet
      exact ⟨congrArg Value.bool (by simp [badHead, hnm]), hx1⟩
    · by_cases h1 : k = 1
      · subst h1
        by_cases h2 : dp ≤ nu
        · go_wp2_with fail
          go_meet
          exact ⟨congrArg Value.bool (by simp [badHead, hnm, h2]), hx1⟩
        · go_wp2_with fail
          go_meet
          exact ⟨congrArg Value.bool (by simp [badHead, hnm]; omega), hx1⟩
      · have h1' : (k == 1) = false := by simpa using h1
        go_wp2_with fail
        go_meet
        exact ⟨congrArg Value.bool (by simp [badHead, hnm, h1]), hx1⟩
  case rest =>
    obtain ⟨rfl, hx1⟩ := hcut
    have q0 : wc.cell? ⟨w.heap.size, 0, none⟩ = some (.int .i64 k) := hx1.cell (by simp [go_sem])
    have q3 : wc.cell? ⟨w.heap.size, 3, none⟩ = some (.slice A1 ls.length c1) := hx1.cell (by simp [go_sem])
    have q4 : wc.cell? ⟨w.heap.size, 4, none⟩ = some (.slice A2 ks.length c2) := hx1.cell (by simp [go_sem])
    have hx := Hxb.out.tr hx1
    cases hv : badHead ds scope self k nu a ls.length dp
    rotate_left
    · have hno : rsT ds n scope self (.mk k nu a ls ks) dp = false := by rw [rsT, hv]; rfl
      have Hno := hid hno
      clear hno hv
      go_wp2_with fail
      go_ret
      exact ⟨ret_bool Hno.out.symm, hx⟩
    have hgo : rsT ds n scope self (.mk k nu a ls ks) dp = ((ls.all fun l => levelRight l n) && rsK ds n scope self k 0 ks dp) := by rw [rsT, hv]; rfl
    have Hgo := hid hgo
    clear hgo hv hx1
    go_wp2_with fail
    go_loopw [13] (fun i wr => ∃ j : Nat, j ≤ ls.length ∧ i = .int .i64 j ∧ Ext wc wr ∧ ∀ (x : Nat) (h : x < ls.length), x < j → levelRight ls[x] n = true) (fun i _ => ls.length - (intOf i).toNat)
    case atStart => exact ⟨0, by omega, rfl, Ext.rf _, fun x _ h => absurd h (by omega)⟩
    case round =>
      rename_i wr
      obtain ⟨j, hj, rfl, hxr, hq⟩ := hrel
      have Hq := hid hq
      clear hq
      have r0 := hxr.cell q0
      have r3 := hxr.cell q3
      have r4 := hxr.cell q4
      by_cases hlt : j < ls.length
      · obtain ⟨b, o, cs, rfl, ⟨v, rfl, hsp⟩, hcs0⟩ := hr1.at_ hlt
        have hcs := (hcs0.ext (hx.tr hxr)).at0
        have g0 : ls[j]? = some ls[j] := List.getElem?_eq_getElem hlt
        rw [Nat.mul_one] at hcs
        have hsp' := hid (hsp.ext mono_part (hx.tr hxr))
        clear hcs0 hsp
        go_wp2_with fail
        refine (refLevel_any ls[j] n _ _ hsp'.out).mono ?_
        rintro e w5 ⟨rfl, hx5⟩
        cases hlv : levelRight ls[j] n
        · have hno : rsT ds n scope self (.mk k nu a ls ks) dp = false := by
            have : (ls.all fun l => levelRight l n) = false := List.all_eq_false.2 ⟨ls[j], List.getElem_mem hlt, by rw [hlv]; decide⟩
            rw [Hgo.out, this, Bool.false_and]
          have Hno := hid hno
          clear hno
          go_wp2_with fail
          go_ret
          exact ⟨ret_bool Hno.out.symm, hx.tr (hxr.tr hx5)⟩
        · go_wp2_with fail
          refine ⟨⟨j + 1, by omega, by go_num, hxr.tr hx5, fun x h1 h2 => ?_⟩, by simp only [intOf]; omega⟩
          by_cases h3 : x < j
          · exact Hq.out x h1 h3
          · obtain rfl : x = j := by omega
            exact hlv
      · obtain rfl : j = ls.length := by omega
        have hall : (ls.all fun l => levelRight l n) = true := List.all_eq_true.2 fun l hl => by
          obtain ⟨i, hi', rfl⟩ := List.mem_iff_getElem.1 hl
          exact Hq.out i hi' hi'
        have hval : rsT ds n scope self (.mk k nu a ls ks) dp = rsK ds n scope self k 0 ks dp := by rw [Hgo.out, hall, Bool.true_and]
        have HV := hid hval
        clear hval hall Hq Hgo
        have hxw := hx.tr hxr
        go_wp2_with fail
        go_loopw [14] (fun i wv => ∃ j : Nat, j ≤ ks.length ∧ i = .int .i64 j ∧ Ext wr wv ∧ rsT ds n scope self (.mk k nu a ls ks) dp = rsK ds n scope self k j (ks.drop j) dp) (fun i _ => ks.length - (intOf i).toNat)
        case atStart => exact ⟨0, by omega, rfl, Ext.rf _, HV.out⟩
        case round =>
          rename_i wv
          obtain ⟨j, hj, rfl, hxv, hval⟩ := hrel
          have Hval := hid hval
          clear hval HV
          have p0 := hxv.cell r0
          have p4 := hxv.cell r4
          have hx0 := hxw.tr hxv
          by_cases hlt : j < ks.length
          · obtain ⟨b, o, cs, rfl, hRj, hcs0⟩ := hr2.at_ hlt
            have IH := hid (ih ks[j] (List.getElem_mem hlt))
            have hok := hid (okK_at ks _ hkids j hlt)
            clear ih
            have hcs := hcs0.ext hx0
            have hon := rterm_ones hRj
            have hu := Tryd.underlying27
            have hi27 : (Tryd.prog.info? 27).map (·.size) = some cs.length := by rw [hon.1]; kernel_rfl
            have hdw : dp + 1 ≤ 9223372036854775807 := by omega
            have hds := hid (rsK_drop ds n scope self k dp ks j hlt)
            clear hcs0
            go_wp2_with fail
            refine (refBinds_any k j _).mono ?_
            rintro e w5 ⟨rfl, rfl⟩
            cases hbk : binds k j
            · have hbk' := hid hbk
              clear hbk
              go_wp2_with ((with_reducible show wpList _ _ _ (⟨_, Op.load 27 _, _, _, _, _⟩ :: _) _ _); refine wpList_load_mid (by rfl) 27 _ (by rfl) b (o + j * 5) (by rfl) cs _ hcs hu (by rfl) hi27 ?_)
              refine (IH.out (deep + 1) dp cs _ hok.out (by omega) (by omega) (hd0.out.ext mono_decl hx0) (mono_term _ _ _ _ hx0 hRj)).mono ?_
              rintro e w6 ⟨rfl, hx6⟩
              have hv6 := hds.out
              rw [hbk'.out, if_neg (by decide), Int.add_zero] at hv6
              have HV6 := hid hv6
              clear hv6
              cases hr : rsT ds n scope self ks[j] dp
              · have hno : rsT ds n scope self (.mk k nu a ls ks) dp = false := by rw [Hval.out, HV6.out, hr, Bool.false_and]
                have Hno := hid hno
                clear hno
                go_wp2_with fail
                go_ret
                exact ⟨ret_bool Hno.out.symm, hx0.tr hx6⟩
              · have hyes : rsT ds n scope self (.mk k nu a ls ks) dp = rsK ds n scope self k (j + 1 : Nat) (ks.drop (j + 1)) dp := by rw [Hval.out, HV6.out, hr, Bool.true_and]
                have Hyes := hid hyes
                clear hyes
                go_wp2_with fail
                exact ⟨⟨j + 1, by omega, by go_num, hxv.tr hx6, Hyes.out⟩, by simp only [intOf]; omega⟩
            · have hbk' := hid hbk
              clear hbk
              go_wp2_with ((with_reducible show wpList _ _ _ (⟨_, Op.load 27 _, _, _, _, _⟩ :: _) _ _); refine wpList_load_mid (by rfl) 27 _ (by rfl) b (o + j * 5) (by rfl) cs _ hcs hu (by rfl) hi27 ?_)
              refine (IH.out (deep + 1) (dp + 1) cs _ hok.out (by omega) (by omega) (hd0.out.ext mono_decl hx0) (mono_term _ _ _ _ hx0 hRj)).mono ?_
              rintro e w6 ⟨rfl, hx6⟩
              have hv6 := hds.out
              rw [hbk'.out, if_pos rfl] at hv6
              have HV6 := hid hv6
              clear hv6
              cases hr : rsT ds n scope self ks[j] (dp + 1)
              · have hno : rsT ds n scope self (.mk k nu a ls ks) dp = false := by rw [Hval.out, HV6.out, hr, Bool.false_and]
                have Hno := hid hno
                clear hno
                go_wp2_with fail
                go_ret
                exact ⟨ret_bool Hno.out.symm, hx0.tr hx6⟩
              · have hyes : rsT ds n scope self (.mk k nu a ls ks) dp = rsK ds n scope self k (j + 1 : Nat) (ks.drop (j + 1)) dp := by rw [Hval.out, HV6.out, hr, Bool.true_and]
                have Hyes := hid hyes
                clear hyes
                go_wp2_with fail
                exact ⟨⟨j + 1, by omega, by go_num, hxv.tr hx6, Hyes.out⟩, by simp only [intOf]; omega⟩
          · obtain rfl : j = ks.length := by omega
            have hfin : rsT ds n scope self (.mk k nu a ls ks) dp = true := by rw [Hval.out, List.drop_length, rsK]
            have HF := hid hfin
            clear hfin
            go_wp2_with fail
            go_ret
            exact ⟨ret_bool HF.out.symm, hx0⟩
theorem refSrc_any (ds : List Decl) (n scope self : Int) (vd : Value) (t : Term) : RefSrcP ds n scope self vd t := Term.ind (fun k nu a ls ks ih => refSrc_step ds n scope self vd k nu a ls ks ih) t
end Go.Proofs.YtjaklnabidbmiaaDoor

/- Walk: spandrelref02.right, Right. -/
import Derived.Test.YtjaklnabidbmiaaDoorRefPlain
namespace Go.Proofs.YtjaklnabidbmiaaDoor
open Go.RowKit
set_option linter.unusedSimpArgs false
set_option linter.unusedVariables false

def RefP (t : Term) : Prop := ∀ (deep : Int) (cs : List Value) (w : World), RTerm w t cs → 0 ≤ deep ∧ deep ≤ 401 →
  Calls Tryd.prog 47 #[.agg cs.toArray, .int .i64 deep] w fun e w' => e = .returned (.int .i64 (refT t deep)) ∧ Ext w w'
set_option maxRecDepth 100000 in
set_option maxHeartbeats 2000000 in
theorem ref_step (k n a : Int) (ls : List Level) (ks : List Term) (ih : ∀ t ∈ ks, RefP t) : RefP (.mk k n a ls ks) := by
  intro deep cs w hR hdb
  obtain ⟨vl, vk, rfl, hi, hl, hs⟩ := rterm_iff.1 hR
  obtain ⟨A1, c1, hv1, hc1, hr1⟩ := id hl
  obtain ⟨A2, c2, hv2, hc2, hr2⟩ := id hs
  have hl0 := hid hl
  have hs0 := hid hs
  clear hl hs
  subst hv1 hv2
  have hl1 := hr1.len_le
  have hl2 := hr2.len_le
  by_cases hd : deep ≤ 400
  · have hd' : ¬ 400 < deep := by omega
    go_enter Tryd.func47, Tryd.ntmps47
    go_wp2_with fail
    refine (refKind_any k n a ls ks _ _ _ (hl0.out.ext mono_level ((Ext.rf _).al _)) (hs0.out.ext mono_term ((Ext.rf _).al _))).mono ?_
    rintro e w1 ⟨rfl, hx1⟩
    have hx := ((Ext.rf w).al (.cells #[.int .i64 k, .int .i64 n, .int .i64 a, .slice A1 ls.length c1, .slice A2 ks.length c2] 27)).tr hx1
    have q3 : w1.cell? ⟨w.heap.size, 3, none⟩ = some (.slice A1 ls.length c1) := hx1.cell (by simp [go_sem])
    have q4 : w1.cell? ⟨w.heap.size, 4, none⟩ = some (.slice A2 ks.length c2) := hx1.cell (by simp [go_sem])
    cases hok : decide (RefOk k n a ls.length ks.length)
    · have hno : refT (.mk k n a ls ks) deep = -1 := by rw [refT, if_neg (fun h => of_decide_eq_false hok h.2.1)]
      have Hno := hid hno
      clear hno hok
      go_wp2_with fail
      go_ret
      exact ⟨ret_int Hno.out.symm, hx⟩
    have hok' := hid (of_decide_eq_true hok)
    clear hok
    go_wp2_with fail
    go_loopw [5] (fun i wr => ∃ j : Nat, j ≤ ls.length ∧ i = .int .i64 j ∧ Ext w1 wr ∧ ∀ (x : Nat) (h : x < ls.length), x < j → levelRight ls[x] 9 = true) (fun i _ => ls.length - (intOf i).toNat)
    case atStart => exact ⟨0, by omega, rfl, Ext.rf _, fun x _ h => absurd h (by omega)⟩
    case round =>
      rename_i wr
      obtain ⟨j, hj, rfl, hxr, hq⟩ := hrel
      have Hq := hid hq
      clear hq
      have r3 := hxr.cell q3
      have r4 := hxr.cell q4
      by_cases hlt : j < ls.length
      · obtain ⟨b, o, cs, rfl, ⟨v, rfl, hsp⟩, hcs0⟩ := hr1.at_ hlt
        have hcs := (hcs0.ext (hx.tr hxr)).at0
        have g0 : ls[j]? = some ls[j] := List.getElem?_eq_getElem hlt
        rw [Nat.mul_one] at hcs
        have hsp' := hid (hsp.ext mono_part (hx.tr hxr))
        clear hcs0 hsp
        go_wp2_with fail
        refine (refLevel_any ls[j] 9 _ _ hsp'.out).mono ?_
        rintro e w5 ⟨rfl, hx5⟩
        cases hlv : levelRight ls[j] 9
        · have hno : refT (.mk k n a ls ks) deep = -1 := by
            rw [refT, if_neg (fun h => by
              have := List.all_eq_true.1 h.2.2 ls[j] (List.getElem_mem hlt)
              rw [hlv] at this
              cases this)]
          have Hno := hid hno
          clear hno
          go_wp2_with fail
          go_ret
          exact ⟨ret_int Hno.out.symm, hx.tr (hxr.tr hx5)⟩
        · go_wp2_with fail
          refine ⟨⟨j + 1, by omega, by go_num, hxr.tr hx5, fun x h1 h2 => ?_⟩, by simp only [intOf]; omega⟩
          by_cases h3 : x < j
          · exact Hq.out x h1 h3
          · obtain rfl : x = j := by omega
            exact hlv
      · obtain rfl : j = ls.length := by omega
        have hall : (ls.all fun l => levelRight l 9) = true := List.all_eq_true.2 fun l hl => by
          obtain ⟨i, hi', rfl⟩ := List.mem_iff_getElem.1 hl
          exact Hq.out i hi' hi'
        have hval : refT (.mk k n a ls ks) deep = refK ks (deep + 1) 1 := by rw [refT, if_pos ⟨hd, hok'.out, hall⟩]
        have HV := hid hval
        clear hval hall Hq
        have hxw := hx.tr hxr
        go_wp2_with fail
        go_loopw [6, 7] (fun nn i wv => ∃ (j : Nat) (c : Int), j ≤ ks.length ∧ i = .int .i64 j ∧ nn = .int .i64 c ∧ Ext wr wv ∧ (1 ≤ c ∧ c ≤ 20000) ∧ refK ks (deep + 1) 1 = refK (ks.drop j) (deep + 1) c) (fun _ i _ => ks.length - (intOf i).toNat)
        case atStart => exact ⟨0, 1, by omega, rfl, rfl, Ext.rf _, by omega, rfl⟩
        case round =>
          rename_i wv
          obtain ⟨j, c, hj, rfl, rfl, hxv, hcb, hval⟩ := hrel
          have Hval := hid hval
          clear hval
          have p4 := hxv.cell r4
          have hx0 := hxw.tr hxv
          by_cases hlt : j < ks.length
          · obtain ⟨b, o, cs, rfl, hRj, hcs0⟩ := hr2.at_ hlt
            have IH := hid (ih ks[j] (List.getElem_mem hlt) (deep + 1) cs)
            clear ih
            have hcs := hcs0.ext hx0
            have hon := rterm_ones hRj
            have hu := Tryd.underlying27
            have hi27 : (Tryd.prog.info? 27).map (·.size) = some cs.length := by rw [hon.1]; kernel_rfl
            have hdw : IntKind.i64.wrap (deep + 1) = deep + 1 := IntWalk.i64_in _ (by omega)
            clear hcs0
            go_wp2_with (refine wpList_load_mid (by rfl) 27 _ (by rfl) b (o + j * 5) (by rfl) cs _ hcs hu (by rfl) hi27 ?_)
            refine (IH.out _ (mono_term _ _ _ _ hx0 hRj) (by omega)).mono ?_
            rintro e w6 ⟨rfl, hx6⟩
            have hr20 : refT ks[j] (deep + 1) ≤ 20000 ∧ -1 ≤ refT ks[j] (deep + 1) := by
              have := sizeT_pos ks[j]
              rcases refT_iff ks[j] (deep + 1) with h | h <;> omega
            have hstep : refK (ks.drop j) (deep + 1) c = if refT ks[j] (deep + 1) < 0 ∨ c + refT ks[j] (deep + 1) > 20000 then -1 else refK (ks.drop (j + 1)) (deep + 1) (c + refT ks[j] (deep + 1)) := by
              rw [List.drop_eq_getElem_cons hlt, refK]
            have HS := hid hstep
            clear hstep
            have hxe := hx0.tr hx6
            generalize refT ks[j] (deep + 1) = r at *
            have hwr : IntKind.i64.wrap (c + r) = c + r := IntWalk.i64_in _ (by omega)
            by_cases hr0 : r < 0
            · have hfin : refT (.mk k n a ls ks) deep = -1 := by rw [HV.out, Hval.out, HS.out, if_pos (.inl hr0)]
              have HF := hid hfin
              clear hfin
              go_wp2_with fail
              go_ret
              exact ⟨ret_int HF.out.symm, hxe⟩
            · by_cases hc2 : 20000 < c + r
              · have hfin : refT (.mk k n a ls ks) deep = -1 := by rw [HV.out, Hval.out, HS.out, if_pos (.inr hc2)]
                have HF := hid hfin
                clear hfin
                go_wp2_with fail
                go_ret
                exact ⟨ret_int HF.out.symm, hxe⟩
              · have hnx : refK ks (deep + 1) 1 = refK (ks.drop (j + 1)) (deep + 1) (c + r) := by rw [Hval.out, HS.out, if_neg (by omega)]
                have HN := hid hnx
                clear hnx
                go_wp2_with fail
                exact ⟨⟨j + 1, c + r, by omega, by go_num, rfl, hxv.tr hx6, by omega, HN.out⟩, by simp only [intOf]; omega⟩
          · obtain rfl : j = ks.length := by omega
            have hfin : refT (.mk k n a ls ks) deep = c := by rw [HV.out, Hval.out, List.drop_length, refK]
            have HF := hid hfin
            clear hfin
            go_wp2_with fail
            go_ret
            exact ⟨ret_int HF.out.symm, hx0⟩
  · have hd' : 400 < deep := by omega
    have hno : refT (.mk k n a ls ks) deep = -1 := by rw [refT, if_neg (fun h => hd h.1)]
    have Hno := hid hno
    clear hno
    go_enter Tryd.func47, Tryd.ntmps47
    go_wp2_with fail
    go_ret
    exact ⟨ret_int Hno.out.symm, (Ext.rf _).al _⟩
end Go.Proofs.YtjaklnabidbmiaaDoor

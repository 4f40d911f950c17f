/- Walks: spandrelkit.Same.. of two that read as the same: they say yes. Printed by gen_same.py. -/
import Derived.Test.YtjaklnabidbmiaaGreatDoorMark
import Derived.Deep.QuietTactic
import Derived.BigQuiet
import Derived.Deep.RegionHeld3
namespace Go.Proofs.YtjaklnabidbmiaaGreatDoor
open Go.RowKit
set_option linter.unusedSimpArgs false
set_option linter.unusedVariables false

theorem Ext.drN' {w W : World} (h : Ext w W) (n : Nat) : Ext w (W.drewN n) := ⟨h.os, h.tape, h.output, h.size, h.block⟩
theorem ext_name' {w w' : World} (h : Ext w w') : ∃ W : World, W = w' := ⟨_, rfl⟩
set_option maxRecDepth 100000 in
set_option maxHeartbeats 1000000 in
theorem sameParts_any (xs : List Part) (va vb : Value) (w : World) (ha : Sl RPart 2 16 w xs va) (hb : Sl RPart 2 16 w xs vb) :
    Calls Tryz.prog 76 #[va, vb] w fun e w' => e = .returned (.bool true) ∧ Ext w w' := by
  obtain ⟨A, c, rfl, hc, hr⟩ := ha
  obtain ⟨A', c', rfl, hc', hr'⟩ := hb
  have hl := hr.len_le
  go_enter Tryz.func76, Tryz.ntmps76
  go_wp2_with fail
  go_loopw [5] (fun i wr => ∃ k : Nat, k ≤ xs.length ∧ i = .int .i64 k ∧ Ext w wr) (fun i _ => xs.length - (intOf i).toNat)
  case atStart => exact ⟨0, by omega, rfl, Ext.rf _⟩
  case round =>
    obtain ⟨k, hk, rfl, hx⟩ := hrel
    obtain ⟨wr, rfl⟩ := ext_name' hx
    by_cases hlt : k < xs.length
    · obtain ⟨b, o, cs, rfl, hR, hcs0⟩ := hr.at_ hlt
      obtain ⟨b', o', cs', rfl, hR', hcs0'⟩ := hr'.at_ hlt
      have hcs := hcs0.ext hx
      have hcs' := hcs0'.ext hx
      have hj2 : (k : Int) < (xs.length : Int) := by omega
      clear hcs0 hcs0' hr hr'
      obtain ⟨rfl, _⟩ := hR
      obtain ⟨rfl, _⟩ := hR'
      have h0 := hcs.at0
      have h1 := hcs.at1
      have k0 := hcs'.at0
      have k1 := hcs'.at1
      clear hcs hcs'
      go_wp2_with fail
      go_quiet (fail)
      go_wp2_with fail
      exact ⟨⟨k + 1, by omega, by go_num, hx.drN' _⟩, by simp only [intOf]; omega⟩
    · obtain rfl : k = xs.length := by omega
      go_wp2_with fail
      go_ret
      exact ⟨rfl, hx⟩
set_option maxRecDepth 100000 in
theorem sameLevel_any (x : Level) (ca cb : List Value) (w : World) (ha : RLevel w x ca) (hb : RLevel w x cb) : Calls Tryz.prog 45 #[.agg ca.toArray, .agg cb.toArray] w fun e w' => e = .returned (.bool true) ∧ Ext w w' := by
  obtain ⟨v, rfl, hs⟩ := ha
  obtain ⟨v', rfl, hs'⟩ := hb
  go_enter Tryz.func45, Tryz.ntmps45
  go_wp2_with fail
  refine (sameParts_any x.parts _ _ _ (hs.ext mono_part (((Ext.rf _).al _).al _)) (hs'.ext mono_part (((Ext.rf _).al _).al _))).mono ?_
  rintro e w' ⟨rfl, hx⟩
  go_wp2_with fail
  go_ret
  exact ⟨rfl, (((Ext.rf _).al _).al _).tr hx⟩
set_option maxRecDepth 100000 in
set_option maxHeartbeats 1000000 in
theorem sameLevels_any (xs : List Level) (va vb : Value) (w : World) (ha : Sl RLevel 1 24 w xs va) (hb : Sl RLevel 1 24 w xs vb) :
    Calls Tryz.prog 67 #[va, vb] w fun e w' => e = .returned (.bool true) ∧ Ext w w' := by
  obtain ⟨A, c, rfl, hc, hr⟩ := ha
  obtain ⟨A', c', rfl, hc', hr'⟩ := hb
  have hl := hr.len_le
  go_enter Tryz.func67, Tryz.ntmps67
  go_wp2_with fail
  go_loopw [5] (fun i wr => ∃ k : Nat, k ≤ xs.length ∧ i = .int .i64 k ∧ Ext w wr) (fun i _ => xs.length - (intOf i).toNat)
  case atStart => exact ⟨0, by omega, rfl, Ext.rf _⟩
  case round =>
    obtain ⟨k, hk, rfl, hx⟩ := hrel
    obtain ⟨wr, rfl⟩ := ext_name' hx
    by_cases hlt : k < xs.length
    · obtain ⟨b, o, cs, rfl, hR, hcs0⟩ := hr.at_ hlt
      obtain ⟨b', o', cs', rfl, hR', hcs0'⟩ := hr'.at_ hlt
      have hcs := hcs0.ext hx
      have hcs' := hcs0'.ext hx
      have hj2 : (k : Int) < (xs.length : Int) := by omega
      clear hcs0 hcs0' hr hr'
      have hRa := hid hR
      have hRb := hid hR'
      obtain ⟨v, rfl, ⟨B1, e1, rfl, _⟩⟩ := hR
      obtain ⟨v', rfl, ⟨B2, e2, rfl, _⟩⟩ := hR'
      have h0 := hcs.at0
      have k0 := hcs'.at0
      rw [Nat.mul_one] at h0 k0
      clear hcs hcs'
      go_wp2_with fail
      go_region_held3 (fun w' => w'.cell? ⟨b, o + k, none⟩ = some (.slice B1 xs[k].parts.length e1) ∧ w'.cell? ⟨b', o' + k, none⟩ = some (.slice B2 xs[k].parts.length e2)) (first | (exact ⟨h0, k0⟩) | (exact ⟨hb.cell h0, hb.cell k0⟩)) ((go_at_call 45; refine (sameLevel_any xs[k] _ _ _ (by exact mono_level _ _ _ _ hx.dr hRa.out) (by exact mono_level _ _ _ _ hx.dr hRb.out)).mono ?_; rintro e w' ⟨rfl, hb⟩))
      go_wp2_with fail
      exact ⟨⟨k + 1, by omega, by go_num, hx.dr.tr hb⟩, by simp only [intOf]; omega⟩
    · obtain rfl : k = xs.length := by omega
      go_wp2_with fail
      go_ret
      exact ⟨rfl, hx⟩
def SameTermP (t : Term) : Prop := ∀ (ca cb : List Value) (w : World), RTerm w t ca → RTerm w t cb → Calls Tryz.prog 30 #[.agg ca.toArray, .agg cb.toArray] w fun e w' => e = .returned (.bool true) ∧ Ext w w'
set_option maxRecDepth 100000 in
set_option maxHeartbeats 1000000 in
theorem sameTerms_of (xs : List Term) (va vb : Value) (w : World) (ih : ∀ t ∈ xs, SameTermP t) (ha : Sl RTerm 5 72 w xs va) (hb : Sl RTerm 5 72 w xs vb) :
    Calls Tryz.prog 44 #[va, vb] w fun e w' => e = .returned (.bool true) ∧ Ext w w' := by
  obtain ⟨A, c, rfl, hc, hr⟩ := ha
  obtain ⟨A', c', rfl, hc', hr'⟩ := hb
  have hl := hr.len_le
  have IH := hid ih
  clear ih
  go_enter Tryz.func44, Tryz.ntmps44
  go_wp2_with fail
  go_loopw [5] (fun i wr => ∃ k : Nat, k ≤ xs.length ∧ i = .int .i64 k ∧ Ext w wr) (fun i _ => xs.length - (intOf i).toNat)
  case atStart => exact ⟨0, by omega, rfl, Ext.rf _⟩
  case round =>
    obtain ⟨k, hk, rfl, hx⟩ := hrel
    obtain ⟨wr, rfl⟩ := ext_name' hx
    by_cases hlt : k < xs.length
    · obtain ⟨b, o, cs, rfl, hR, hcs0⟩ := hr.at_ hlt
      obtain ⟨b', o', cs', rfl, hR', hcs0'⟩ := hr'.at_ hlt
      have hcs := hcs0.ext hx
      have hcs' := hcs0'.ext hx
      have hj2 : (k : Int) < (xs.length : Int) := by omega
      clear hcs0 hcs0' hr hr'
      have hRa := hid hR
      have hRb := hid hR'
      obtain ⟨vl1, vk1, rfl, _, ⟨B1, e1, rfl, _⟩, ⟨B2, e2, rfl, _⟩⟩ := rterm_open hR
      obtain ⟨vl2, vk2, rfl, _, ⟨B3, e3, rfl, _⟩, ⟨B4, e4, rfl, _⟩⟩ := rterm_open hR'
      have h0 := hcs.at0
      have h1 := hcs.at1
      have h2 := hcs.at2
      have h3 := hcs.at3
      have h4 := hcs.at4
      have k0 := hcs'.at0
      have k1 := hcs'.at1
      have k2 := hcs'.at2
      have k3 := hcs'.at3
      have k4 := hcs'.at4
      clear hcs hcs' hR hR'
      go_wp2_with fail
      go_region_held3 (fun w' => w'.cell? ⟨b, o + k * 5, none⟩ = some (.int .i64 xs[k].kind) ∧ w'.cell? ⟨b, o + k * 5 + 1, none⟩ = some (.int .i64 xs[k].num) ∧ w'.cell? ⟨b, o + k * 5 + 2, none⟩ = some (.int .i64 xs[k].at_) ∧ w'.cell? ⟨b, o + k * 5 + 3, none⟩ = some (.slice B1 xs[k].levels.length e1) ∧ w'.cell? ⟨b, o + k * 5 + 4, none⟩ = some (.slice B2 xs[k].kids.length e2) ∧ w'.cell? ⟨b', o' + k * 5, none⟩ = some (.int .i64 xs[k].kind) ∧ w'.cell? ⟨b', o' + k * 5 + 1, none⟩ = some (.int .i64 xs[k].num) ∧ w'.cell? ⟨b', o' + k * 5 + 2, none⟩ = some (.int .i64 xs[k].at_) ∧ w'.cell? ⟨b', o' + k * 5 + 3, none⟩ = some (.slice B3 xs[k].levels.length e3) ∧ w'.cell? ⟨b', o' + k * 5 + 4, none⟩ = some (.slice B4 xs[k].kids.length e4)) (first | (exact ⟨h0, h1, h2, h3, h4, k0, k1, k2, k3, k4⟩) | (exact ⟨hb.cell h0, hb.cell h1, hb.cell h2, hb.cell h3, hb.cell h4, hb.cell k0, hb.cell k1, hb.cell k2, hb.cell k3, hb.cell k4⟩)) ((go_at_call 30; refine (IH.out xs[k] (List.getElem_mem hlt) _ _ _ (by exact mono_term _ _ _ _ hx.dr hRa.out) (by exact mono_term _ _ _ _ hx.dr hRb.out)).mono ?_; rintro e w' ⟨rfl, hb⟩))
      go_wp2_with fail
      exact ⟨⟨k + 1, by omega, by go_num, hx.dr.tr hb⟩, by simp only [intOf]; omega⟩
    · obtain rfl : k = xs.length := by omega
      go_wp2_with fail
      go_ret
      exact ⟨rfl, hx⟩
set_option maxRecDepth 100000 in
theorem sameTerm_step (k n a : Int) (ls : List Level) (ks : List Term) (ih : ∀ t ∈ ks, SameTermP t) : SameTermP (.mk k n a ls ks) := by
  intro ca cb w ha hb
  have IH := hid ih
  clear ih
  obtain ⟨vl, vk, rfl, _, hl, hs⟩ := rterm_iff.1 ha
  obtain ⟨vl', vk', rfl, _, hl', hs'⟩ := rterm_iff.1 hb
  have hx0 : Ext w ((w.alloc (.cells #[.int .i64 k, .int .i64 n, .int .i64 a, vl, vk] 27)).alloc (.cells #[.int .i64 k, .int .i64 n, .int .i64 a, vl', vk'] 27)) := ((Ext.rf _).al _).al _
  have HX := hid hx0
  clear hx0
  go_enter Tryz.func30, Tryz.ntmps30
  go_wp2_with fail
  refine (sameLevels_any ls _ _ _ (hl.ext mono_level HX.out) (hl'.ext mono_level HX.out)).mono ?_
  rintro e w1 ⟨rfl, hx⟩
  have q4 : w1.cell? ⟨w.heap.size, 4, none⟩ = some vk := hx.cell (by simp [go_sem])
  have r4 : w1.cell? ⟨w.heap.size + 1, 4, none⟩ = some vk' := hx.cell (by simp [go_sem])
  have hx1 := hid (HX.out.tr hx)
  go_wp2_with fail
  refine (sameTerms_of ks _ _ _ IH.out (hs.ext mono_term hx1.out) (hs'.ext mono_term hx1.out)).mono ?_
  rintro e w2 ⟨rfl, hx2⟩
  go_wp2_with fail
  go_ret
  exact ⟨rfl, hx1.out.tr hx2⟩
theorem sameTerm_any (t : Term) : SameTermP t := Term.ind (fun k n a l ks ih => sameTerm_step k n a l ks ih) t
theorem sameTerms_any (xs : List Term) (va vb : Value) (w : World) (ha : SlTerm w xs va) (hb : SlTerm w xs vb) : Calls Tryz.prog 44 #[va, vb] w fun e w' => e = .returned (.bool true) ∧ Ext w w' :=
  sameTerms_of xs va vb w (fun t _ => sameTerm_any t) ha hb
set_option maxRecDepth 100000 in
theorem sameMember_any (x : Member) (ca cb : List Value) (w : World) (ha : RMember w x ca) (hb : RMember w x cb) : Calls Tryz.prog 77 #[.agg ca.toArray, .agg cb.toArray] w fun e w' => e = .returned (.bool true) ∧ Ext w w' := by
  obtain ⟨v, rfl, hs⟩ := ha
  obtain ⟨v', rfl, hs'⟩ := hb
  go_enter Tryz.func77, Tryz.ntmps77
  go_wp2_with fail
  refine (sameTerms_any x.index _ _ _ (hs.ext mono_term (((Ext.rf _).al _).al _)) (hs'.ext mono_term (((Ext.rf _).al _).al _))).mono ?_
  rintro e w' ⟨rfl, hx⟩
  go_wp2_with fail
  go_ret
  exact ⟨rfl, (((Ext.rf _).al _).al _).tr hx⟩
set_option maxRecDepth 100000 in
set_option maxHeartbeats 1000000 in
theorem sameMembers_any (xs : List Member) (va vb : Value) (w : World) (ha : Sl RMember 1 24 w xs va) (hb : Sl RMember 1 24 w xs vb) :
    Calls Tryz.prog 46 #[va, vb] w fun e w' => e = .returned (.bool true) ∧ Ext w w' := by
  obtain ⟨A, c, rfl, hc, hr⟩ := ha
  obtain ⟨A', c', rfl, hc', hr'⟩ := hb
  have hl := hr.len_le
  go_enter Tryz.func46, Tryz.ntmps46
  go_wp2_with fail
  go_loopw [5] (fun i wr => ∃ k : Nat, k ≤ xs.length ∧ i = .int .i64 k ∧ Ext w wr) (fun i _ => xs.length - (intOf i).toNat)
  case atStart => exact ⟨0, by omega, rfl, Ext.rf _⟩
  case round =>
    obtain ⟨k, hk, rfl, hx⟩ := hrel
    obtain ⟨wr, rfl⟩ := ext_name' hx
    by_cases hlt : k < xs.length
    · obtain ⟨b, o, cs, rfl, hR, hcs0⟩ := hr.at_ hlt
      obtain ⟨b', o', cs', rfl, hR', hcs0'⟩ := hr'.at_ hlt
      have hcs := hcs0.ext hx
      have hcs' := hcs0'.ext hx
      have hj2 : (k : Int) < (xs.length : Int) := by omega
      clear hcs0 hcs0' hr hr'
      have hRa := hid hR
      have hRb := hid hR'
      obtain ⟨v, rfl, ⟨B1, e1, rfl, _⟩⟩ := hR
      obtain ⟨v', rfl, ⟨B2, e2, rfl, _⟩⟩ := hR'
      have h0 := hcs.at0
      have k0 := hcs'.at0
      rw [Nat.mul_one] at h0 k0
      clear hcs hcs'
      go_wp2_with fail
      go_region_held3 (fun w' => w'.cell? ⟨b, o + k, none⟩ = some (.slice B1 xs[k].index.length e1) ∧ w'.cell? ⟨b', o' + k, none⟩ = some (.slice B2 xs[k].index.length e2)) (first | (exact ⟨h0, k0⟩) | (exact ⟨hb.cell h0, hb.cell k0⟩)) ((go_at_call 77; refine (sameMember_any xs[k] _ _ _ (by exact mono_member _ _ _ _ hx.dr hRa.out) (by exact mono_member _ _ _ _ hx.dr hRb.out)).mono ?_; rintro e w' ⟨rfl, hb⟩))
      go_wp2_with fail
      exact ⟨⟨k + 1, by omega, by go_num, hx.dr.tr hb⟩, by simp only [intOf]; omega⟩
    · obtain rfl : k = xs.length := by omega
      go_wp2_with fail
      go_ret
      exact ⟨rfl, hx⟩
set_option maxRecDepth 100000 in
theorem sameCtor_any (x : Ctor) (ca cb : List Value) (w : World) (ha : RCtor w x ca) (hb : RCtor w x cb) : Calls Tryz.prog 78 #[.agg ca.toArray, .agg cb.toArray] w fun e w' => e = .returned (.bool true) ∧ Ext w w' := by
  obtain ⟨ct, rfl, _, ht⟩ := ha
  obtain ⟨ct', rfl, _, ht'⟩ := hb
  have HT := hid ht
  have HT' := hid ht'
  obtain ⟨vl, vk, rfl, _⟩ := rterm_open ht
  obtain ⟨vl', vk', rfl, _⟩ := rterm_open ht'
  clear ht ht'
  go_enter Tryz.func78, Tryz.ntmps78
  go_wp2_with fail
  refine (sameTerm_any x.type _ _ _ (mono_term _ _ _ _ (((Ext.rf _).al _).al _) HT.out) (mono_term _ _ _ _ (((Ext.rf _).al _).al _) HT'.out)).mono ?_
  rintro e w' ⟨rfl, hx⟩
  go_wp2_with fail
  go_ret
  exact ⟨rfl, (((Ext.rf _).al _).al _).tr hx⟩
set_option maxRecDepth 100000 in
set_option maxHeartbeats 1000000 in
theorem sameCtors_any (xs : List Ctor) (va vb : Value) (w : World) (ha : Sl RCtor 6 80 w xs va) (hb : Sl RCtor 6 80 w xs vb) :
    Calls Tryz.prog 47 #[va, vb] w fun e w' => e = .returned (.bool true) ∧ Ext w w' := by
  obtain ⟨A, c, rfl, hc, hr⟩ := ha
  obtain ⟨A', c', rfl, hc', hr'⟩ := hb
  have hl := hr.len_le
  go_enter Tryz.func47, Tryz.ntmps47
  go_wp2_with fail
  go_loopw [5] (fun i wr => ∃ k : Nat, k ≤ xs.length ∧ i = .int .i64 k ∧ Ext w wr) (fun i _ => xs.length - (intOf i).toNat)
  case atStart => exact ⟨0, by omega, rfl, Ext.rf _⟩
  case round =>
    obtain ⟨k, hk, rfl, hx⟩ := hrel
    obtain ⟨wr, rfl⟩ := ext_name' hx
    by_cases hlt : k < xs.length
    · obtain ⟨b, o, cs, rfl, hR, hcs0⟩ := hr.at_ hlt
      obtain ⟨b', o', cs', rfl, hR', hcs0'⟩ := hr'.at_ hlt
      have hcs := hcs0.ext hx
      have hcs' := hcs0'.ext hx
      have hj2 : (k : Int) < (xs.length : Int) := by omega
      clear hcs0 hcs0' hr hr'
      have hRa := hid hR
      have hRb := hid hR'
      obtain ⟨ct, rfl, _, ht⟩ := hR
      obtain ⟨ct', rfl, _, ht'⟩ := hR'
      obtain ⟨vl1, vk1, rfl, _, ⟨B1, e1, rfl, _⟩, ⟨B2, e2, rfl, _⟩⟩ := rterm_open ht
      obtain ⟨vl2, vk2, rfl, _, ⟨B3, e3, rfl, _⟩, ⟨B4, e4, rfl, _⟩⟩ := rterm_open ht'
      have h0 := hcs.pick 0 rfl
      have k0 := hcs'.pick 0 rfl
      have h1 := hcs.pick 1 rfl
      have k1 := hcs'.pick 1 rfl
      have h2 := hcs.pick 2 rfl
      have k2 := hcs'.pick 2 rfl
      have h3 := hcs.pick 3 rfl
      have k3 := hcs'.pick 3 rfl
      have h4 := hcs.pick 4 rfl
      have k4 := hcs'.pick 4 rfl
      have h5 := hcs.pick 5 rfl
      have k5 := hcs'.pick 5 rfl
      rw [Nat.add_zero] at h0 k0
      clear hcs hcs' ht ht'
      go_wp2_with fail
      go_region_held3 (fun w' => w'.cell? ⟨b, o + k * 6, none⟩ = some (.int .i64 xs[k].member) ∧ w'.cell? ⟨b, o + k * 6 + 1, none⟩ = some (.int .i64 xs[k].type.kind) ∧ w'.cell? ⟨b, o + k * 6 + 2, none⟩ = some (.int .i64 xs[k].type.num) ∧ w'.cell? ⟨b, o + k * 6 + 3, none⟩ = some (.int .i64 xs[k].type.at_) ∧ w'.cell? ⟨b, o + k * 6 + 4, none⟩ = some (.slice B1 xs[k].type.levels.length e1) ∧ w'.cell? ⟨b, o + k * 6 + 5, none⟩ = some (.slice B2 xs[k].type.kids.length e2) ∧ w'.cell? ⟨b', o' + k * 6, none⟩ = some (.int .i64 xs[k].member) ∧ w'.cell? ⟨b', o' + k * 6 + 1, none⟩ = some (.int .i64 xs[k].type.kind) ∧ w'.cell? ⟨b', o' + k * 6 + 2, none⟩ = some (.int .i64 xs[k].type.num) ∧ w'.cell? ⟨b', o' + k * 6 + 3, none⟩ = some (.int .i64 xs[k].type.at_) ∧ w'.cell? ⟨b', o' + k * 6 + 4, none⟩ = some (.slice B3 xs[k].type.levels.length e3) ∧ w'.cell? ⟨b', o' + k * 6 + 5, none⟩ = some (.slice B4 xs[k].type.kids.length e4)) (first | (exact ⟨h0, h1, h2, h3, h4, h5, k0, k1, k2, k3, k4, k5⟩) | (exact ⟨hb.cell h0, hb.cell h1, hb.cell h2, hb.cell h3, hb.cell h4, hb.cell h5, hb.cell k0, hb.cell k1, hb.cell k2, hb.cell k3, hb.cell k4, hb.cell k5⟩)) ((go_at_call 78; refine (sameCtor_any xs[k] _ _ _ (by exact mono_ctor _ _ _ _ hx.dr hRa.out) (by exact mono_ctor _ _ _ _ hx.dr hRb.out)).mono ?_; rintro e w' ⟨rfl, hb⟩))
      go_wp2_with fail
      exact ⟨⟨k + 1, by omega, by go_num, hx.dr.tr hb⟩, by simp only [intOf]; omega⟩
    · obtain rfl : k = xs.length := by omega
      go_wp2_with fail
      go_ret
      exact ⟨rfl, hx⟩
end Go.Proofs.YtjaklnabidbmiaaGreatDoor

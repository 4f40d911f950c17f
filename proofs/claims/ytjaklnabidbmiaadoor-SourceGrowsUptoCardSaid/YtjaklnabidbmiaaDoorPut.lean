/- Walks: term.Put, term.Size. Printed by gen_put.py. -/
import Derived.Test.YtjaklnabidbmiaaDoorGrowQ
import Derived.Test.YtjaklnabidbmiaaDoorTele
import Derived.Test.YtjaklnabidbmiaaDoorSizes
import Derived.IntWalk
namespace Go.Proofs.YtjaklnabidbmiaaDoor
open Go.RowKit
set_option linter.unusedSimpArgs false
set_option linter.unusedVariables false
def putPre (xs : List Term) (k n b : Int) : Prop := (∀ n', putS xs k n b = .num n' → inI n') ∧ ∀ u ∈ xs, FitsT (liftPre b 0) 0 u ∧ tsize u ≤ BIG
theorem enters_put1 : Enters 40 := ⟨fun _ _ => by simp [go_sem]⟩
theorem putS_no {xs : List Term} {k n b : Int} (h : ¬ (k = 1 ∧ b ≤ n)) : putS xs k n b = .num n := by unfold putS; rw [if_neg h]
theorem putS_less {xs : List Term} {n b : Int} (h : b ≤ n) (h2 : ¬ (n - b < xs.length)) : putS xs 1 n b = .num (n - xs.length) := by unfold putS; rw [if_pos ⟨rfl, h⟩, if_neg h2]
theorem putS_over {xs : List Term} {n b : Int} {j : Nat} (h : b ≤ n) (hj : (j : Int) = xs.length - 1 - (n - b)) (hl : j < xs.length) : putS xs 1 n b = .over (walkT (liftS b 0) 0 xs[j]) := by
  unfold putS
  rw [if_pos ⟨rfl, h⟩, if_pos (by omega)]
  rw [show xs.length - 1 - (n - b).toNat = j by omega, List.getD_eq_getElem?_getD, List.getElem?_eq_getElem hl]
  rfl
set_option maxRecDepth 100000 in
set_option maxHeartbeats 4000000 in
theorem put1_any (xs : List Term) (gb : Nat) (Ab : Option Addr) (cb : Nat) (w0 : World) (hK0 : KindsIn w0) (hgb : w0.cell? ⟨gb, 0, none⟩ = some (.slice Ab xs.length cb)) (hby : SlTerm w0 xs (.slice Ab xs.length cb)) :
    TurnOk 40 #[.pointer (some ⟨gb, 0, none⟩)] (putPre xs) (putS xs) w0 := by
  intro b k n a ls vl Ak nk ck w hx0 hb hin hpre hl
  have hu5 := Tryd.underlying27
  have hi5 : (Tryd.prog.info? 27).map (·.size) = some 5 := by kernel_rfl
  have hlen : xs.length ≤ 140737488351232 := by have := hby.room; unfold LIM at this; omega
  obtain ⟨Al, cl, rfl, -⟩ := id hl
  have HIN := hid hin
  have HPre := hid hpre
  have HL := hid hl
  have HBY := hid hby
  have hin1 : -9223372036854775808 ≤ n := hin.2.1.1
  have hin2 : n ≤ 9223372036854775807 := hin.2.1.2
  obtain ⟨Kf, hKf⟩ : ∃ K : Nat, K = 40 := ⟨_, rfl⟩
  obtain ⟨cf, hcf⟩ : ∃ c : Array Value, c = #[.pointer (some ⟨gb, 0, none⟩)] := ⟨_, rfl⟩
  show Calls Tryd.prog 40 #[.agg #[.int .i64 b, .func (.func 40) #[] #[.pointer (some ⟨gb, 0, none⟩)]], .agg #[.int .i64 k, .int .i64 n, .int .i64 a, .slice Al ls.length cl, .slice Ak nk ck], .pointer (some ⟨gb, 0, none⟩)] w (fun e w' => TurnPost (putS xs k n b) k a ls (.slice Ak nk ck) w e w')
  rw [← hcf]
  have hv : ∀ (x : Nat), x = 40 → Value.func (.func 40) #[] cf = Value.func (.func x) #[] cf := fun x h => by rw [h]
  rw [hv Kf hKf]
  clear hv hKf hcf hin hpre hl hby
  have HT0 := hid (show (((w.alloc (.cells #[.int .i64 b, .func (.func Kf) #[] cf] 70)).alloc (.cells #[.int .i64 k, .int .i64 n, .int .i64 a, .slice Al ls.length cl, .slice Ak nk ck] 27)).alloc (.cells #[.int .i64 0, .int .i64 0, .int .i64 0, .slice none 0 0, .slice none 0 0] 27)).there (w.heap.size + 2) 0 5 by have := there_fresh ((w.alloc (.cells #[.int .i64 b, .func (.func Kf) #[] cf] 70)).alloc (.cells #[.int .i64 k, .int .i64 n, .int .i64 a, .slice Al ls.length cl, .slice Ak nk ck] 27)) 27 #[.int .i64 0, .int .i64 0, .int .i64 0, .slice none 0 0, .slice none 0 0] 5 (Nat.le_refl _); simpa using this)
  by_cases hk : k = 1
  rotate_left
  · have HE := hid (putS_no (xs := xs) (k := k) (n := n) (b := b) (fun h => hk h.1))
    have hk2 : (k != 1) = true := by simpa using hk
    go_enter Tryd.func40, Tryd.ntmps40
    go_wp2_with fail
    refine (means_any b n _ hb HIN.out.2.1).mono ?_
    rintro e w1 ⟨hx1, x, rfl, hx⟩
    have HT1 := hid (there_ext hx1 HT0.out)
    have X1 := hid (((((Ext.rf w).al _).al _).al _).tr hx1)
    have b0 : w1.cell? ⟨w.heap.size + 1, 0, none⟩ = some (.int .i64 k) := hx1.cell (by simp [go_sem])
    have b1 : w1.cell? ⟨w.heap.size + 1, 1, none⟩ = some (.int .i64 n) := hx1.cell (by simp [go_sem])
    have b2 : w1.cell? ⟨w.heap.size + 1, 2, none⟩ = some (.int .i64 a) := hx1.cell (by simp [go_sem])
    have b3 : w1.cell? ⟨w.heap.size + 1, 3, none⟩ = some (.slice Al ls.length cl) := hx1.cell (by simp [go_sem])
    have b4 : w1.cell? ⟨w.heap.size + 1, 4, none⟩ = some (.slice Ak nk ck) := hx1.cell (by simp [go_sem])
    have z1 : w1.frozen? ⟨w.heap.size + 1, 1, none⟩ = false := (Below.frozen hx1 (by simp <;> omega)).trans (by simp [go_sem])
    have f0 : w1.cell? ⟨gb, 0, none⟩ = some (.slice Ab xs.length cb) := X1.out.cell (hx0.cell hgb)
    have hz1 : w.heap.size + 3 ≤ w1.heap.size := by have := hx1.size; simpa using this
    have Hmx := hid hx
    clear hx HT0
    go_wp2_with fail
    have hXs : Ext w w1 := X1.out
    have hTs : w1.there (w.heap.size + 2) 0 5 := HT1.out
    have hZs : w.heap.size + 3 ≤ w1.heap.size := by exact hz1
    obtain ⟨W2, hW2⟩ : ∃ W2, W2 = w1 := ⟨_, rfl⟩
    rw [← hW2] at hXs hTs hZs ⊢
    have HTs := hid hTs
    have HXs := hid hXs
    clear hTs hXs b0 b1 b2 b3 b4 z1 f0 hx1
    refine (termOwn_any k n a ls _ Ak nk ck W2 (HL.out.ext mono_level HXs.out)).mono ?_
    rintro e w2 ⟨hx2, vl2, rfl, hL2⟩
    obtain ⟨A2, c2, rfl, -⟩ := id hL2
    have HT2 := hid (there_ext hx2 HTs.out)
    have HL2 := hid hL2
    have Hx2 := hid hx2
    have hon := hid (show ∀ v ∈ ([.int .i64 k, .int .i64 n, .int .i64 a, .slice A2 ls.length c2, .slice Ak nk ck] : List Value), v.oneCell' = true from fun u hu => by
      simp only [List.mem_cons, List.not_mem_nil, or_false] at hu
      rcases hu with rfl | rfl | rfl | rfl | rfl <;> rfl)
    clear hL2 hx2
    go_wp2_with ((with_reducible show wpList _ _ _ (⟨_, Op.store 27 _ _, _, _, _, _⟩ :: _) _ _); refine wpList_store_mid (by rfl) 27 _ _ (by rfl) (w.heap.size + 2) 0 #[.int .i64 k, .int .i64 n, .int .i64 a, .slice A2 ls.length c2, .slice Ak nk ck] (by rfl) (by rfl) (by exact HT2.out) hi5 (all_oneCell_toArray hon.out) ?_)
    refine bodyPost_ret (v := .tuple #[.agg #[.int .i64 k, .int .i64 n, .int .i64 a, .slice A2 ls.length c2, .slice Ak nk ck], .bool false]) (results_cell_slot (by rfl) _ _ (w.heap.size + 2) [.int .i64 k, .int .i64 n, .int .i64 a, .slice A2 ls.length c2, .slice Ak nk ck] _ (.bool false) (by rfl) (by rfl) (World.rangeAt_setCells_same _ _ _ _ HT2.out) hu5 (by rfl) hi5) rfl ?_
    refine ⟨Ext.sets (HXs.out.tr Hx2.out) (by omega) _ _, ?_⟩
    rw [HE.out]
    exact ⟨HPre.out.1 _ HE.out, A2, c2, rfl, HL2.out.sub monoC_level ((frm_sets (by omega) _ _ _).tr (frm_le (by omega) _))⟩
  subst hk
  by_cases hb2 : b ≤ n
  rotate_left
  · have hb2' := hb2
    have HE := hid (putS_no (xs := xs) (k := 1) (n := n) (b := b) (fun h => hb2 h.2))
    have hb3 : n < b := by omega
    have hb4 : decide (b ≤ n) = false := by simpa using hb3
    go_enter Tryd.func40, Tryd.ntmps40
    go_wp2_with fail
    refine (means_any b n _ hb HIN.out.2.1).mono ?_
    rintro e w1 ⟨hx1, x, rfl, hx⟩
    have HT1 := hid (there_ext hx1 HT0.out)
    have X1 := hid (((((Ext.rf w).al _).al _).al _).tr hx1)
    have b0 : w1.cell? ⟨w.heap.size + 1, 0, none⟩ = some (.int .i64 1) := hx1.cell (by simp [go_sem])
    have b1 : w1.cell? ⟨w.heap.size + 1, 1, none⟩ = some (.int .i64 n) := hx1.cell (by simp [go_sem])
    have b2 : w1.cell? ⟨w.heap.size + 1, 2, none⟩ = some (.int .i64 a) := hx1.cell (by simp [go_sem])
    have b3 : w1.cell? ⟨w.heap.size + 1, 3, none⟩ = some (.slice Al ls.length cl) := hx1.cell (by simp [go_sem])
    have b4 : w1.cell? ⟨w.heap.size + 1, 4, none⟩ = some (.slice Ak nk ck) := hx1.cell (by simp [go_sem])
    have z1 : w1.frozen? ⟨w.heap.size + 1, 1, none⟩ = false := (Below.frozen hx1 (by simp <;> omega)).trans (by simp [go_sem])
    have f0 : w1.cell? ⟨gb, 0, none⟩ = some (.slice Ab xs.length cb) := X1.out.cell (hx0.cell hgb)
    have hz1 : w.heap.size + 3 ≤ w1.heap.size := by have := hx1.size; simpa using this
    have Hmx := hid hx
    clear hx HT0
    go_wp2_with fail
    have hXs : Ext w w1 := X1.out
    have hTs : w1.there (w.heap.size + 2) 0 5 := HT1.out
    have hZs : w.heap.size + 3 ≤ w1.heap.size := by exact hz1
    obtain ⟨W2, hW2⟩ : ∃ W2, W2 = w1 := ⟨_, rfl⟩
    rw [← hW2] at hXs hTs hZs ⊢
    have HTs := hid hTs
    have HXs := hid hXs
    clear hTs hXs b0 b1 b2 b3 b4 z1 f0 hx1
    refine (termOwn_any 1 n a ls _ Ak nk ck W2 (HL.out.ext mono_level HXs.out)).mono ?_
    rintro e w2 ⟨hx2, vl2, rfl, hL2⟩
    obtain ⟨A2, c2, rfl, -⟩ := id hL2
    have HT2 := hid (there_ext hx2 HTs.out)
    have HL2 := hid hL2
    have Hx2 := hid hx2
    have hon := hid (show ∀ v ∈ ([.int .i64 1, .int .i64 n, .int .i64 a, .slice A2 ls.length c2, .slice Ak nk ck] : List Value), v.oneCell' = true from fun u hu => by
      simp only [List.mem_cons, List.not_mem_nil, or_false] at hu
      rcases hu with rfl | rfl | rfl | rfl | rfl <;> rfl)
    clear hL2 hx2
    go_wp2_with ((with_reducible show wpList _ _ _ (⟨_, Op.store 27 _ _, _, _, _, _⟩ :: _) _ _); refine wpList_store_mid (by rfl) 27 _ _ (by rfl) (w.heap.size + 2) 0 #[.int .i64 1, .int .i64 n, .int .i64 a, .slice A2 ls.length c2, .slice Ak nk ck] (by rfl) (by rfl) (by exact HT2.out) hi5 (all_oneCell_toArray hon.out) ?_)
    refine bodyPost_ret (v := .tuple #[.agg #[.int .i64 1, .int .i64 n, .int .i64 a, .slice A2 ls.length c2, .slice Ak nk ck], .bool false]) (results_cell_slot (by rfl) _ _ (w.heap.size + 2) [.int .i64 1, .int .i64 n, .int .i64 a, .slice A2 ls.length c2, .slice Ak nk ck] _ (.bool false) (by rfl) (by rfl) (World.rangeAt_setCells_same _ _ _ _ HT2.out) hu5 (by rfl) hi5) rfl ?_
    refine ⟨Ext.sets (HXs.out.tr Hx2.out) (by omega) _ _, ?_⟩
    rw [HE.out]
    exact ⟨HPre.out.1 _ HE.out, A2, c2, rfl, HL2.out.sub monoC_level ((frm_sets (by omega) _ _ _).tr (frm_le (by omega) _))⟩
  by_cases hlt : n - b < xs.length
  rotate_left
  · have hlt' := hlt
    have HE := hid (putS_less hb2 hlt)
    have hb5 : (xs.length : Int) ≤ n - b := by omega
    have hb4 : decide (b ≤ n) = true := by simpa using hb2
    have hs1 : -9223372036854775808 ≤ n - (xs.length : Int) := by omega
    have hs2 : n - (xs.length : Int) ≤ 9223372036854775807 := by omega
    go_enter Tryd.func40, Tryd.ntmps40
    go_wp2_with fail
    refine (means_any b n _ hb HIN.out.2.1).mono ?_
    rintro e w1 ⟨hx1, x, rfl, hx⟩
    have HT1 := hid (there_ext hx1 HT0.out)
    have X1 := hid (((((Ext.rf w).al _).al _).al _).tr hx1)
    have b0 : w1.cell? ⟨w.heap.size + 1, 0, none⟩ = some (.int .i64 1) := hx1.cell (by simp [go_sem])
    have b1 : w1.cell? ⟨w.heap.size + 1, 1, none⟩ = some (.int .i64 n) := hx1.cell (by simp [go_sem])
    have b2 : w1.cell? ⟨w.heap.size + 1, 2, none⟩ = some (.int .i64 a) := hx1.cell (by simp [go_sem])
    have b3 : w1.cell? ⟨w.heap.size + 1, 3, none⟩ = some (.slice Al ls.length cl) := hx1.cell (by simp [go_sem])
    have b4 : w1.cell? ⟨w.heap.size + 1, 4, none⟩ = some (.slice Ak nk ck) := hx1.cell (by simp [go_sem])
    have z1 : w1.frozen? ⟨w.heap.size + 1, 1, none⟩ = false := (Below.frozen hx1 (by simp <;> omega)).trans (by simp [go_sem])
    have f0 : w1.cell? ⟨gb, 0, none⟩ = some (.slice Ab xs.length cb) := X1.out.cell (hx0.cell hgb)
    have hz1 : w.heap.size + 3 ≤ w1.heap.size := by have := hx1.size; simpa using this
    have Hmx := hid hx
    clear hx HT0
    obtain rfl : x = n - b := Hmx.out hb2
    have hb6 : decide (n - b < (xs.length : Int)) = false := by simpa using hb5
    go_wp2_with fail
    have hXs : Ext w (w1.setCell ⟨w.heap.size + 1, 1, none⟩ (.int .i64 (n - xs.length))) := X1.out.st (by show w.heap.size ≤ w.heap.size + 1; omega) _
    have hTs : (w1.setCell ⟨w.heap.size + 1, 1, none⟩ (.int .i64 (n - xs.length))).there (w.heap.size + 2) 0 5 := there_set (by omega) HT1.out
    have hZs : w.heap.size + 3 ≤ (w1.setCell ⟨w.heap.size + 1, 1, none⟩ (.int .i64 (n - xs.length))).heap.size := by simpa [World.setCell] using hz1
    generalize (w1.setCell ⟨w.heap.size + 1, 1, none⟩ (.int .i64 (n - xs.length))) = W2 at hXs hTs hZs ⊢
    have HTs := hid hTs
    have HXs := hid hXs
    clear hTs hXs b0 b1 b2 b3 b4 z1 f0 hx1
    refine (termOwn_any 1 (n - xs.length) a ls _ Ak nk ck W2 (HL.out.ext mono_level HXs.out)).mono ?_
    rintro e w2 ⟨hx2, vl2, rfl, hL2⟩
    obtain ⟨A2, c2, rfl, -⟩ := id hL2
    have HT2 := hid (there_ext hx2 HTs.out)
    have HL2 := hid hL2
    have Hx2 := hid hx2
    have hon := hid (show ∀ v ∈ ([.int .i64 1, .int .i64 (n - xs.length), .int .i64 a, .slice A2 ls.length c2, .slice Ak nk ck] : List Value), v.oneCell' = true from fun u hu => by
      simp only [List.mem_cons, List.not_mem_nil, or_false] at hu
      rcases hu with rfl | rfl | rfl | rfl | rfl <;> rfl)
    clear hL2 hx2
    go_wp2_with ((with_reducible show wpList _ _ _ (⟨_, Op.store 27 _ _, _, _, _, _⟩ :: _) _ _); refine wpList_store_mid (by rfl) 27 _ _ (by rfl) (w.heap.size + 2) 0 #[.int .i64 1, .int .i64 (n - xs.length), .int .i64 a, .slice A2 ls.length c2, .slice Ak nk ck] (by rfl) (by rfl) (by exact HT2.out) hi5 (all_oneCell_toArray hon.out) ?_)
    refine bodyPost_ret (v := .tuple #[.agg #[.int .i64 1, .int .i64 (n - xs.length), .int .i64 a, .slice A2 ls.length c2, .slice Ak nk ck], .bool false]) (results_cell_slot (by rfl) _ _ (w.heap.size + 2) [.int .i64 1, .int .i64 (n - xs.length), .int .i64 a, .slice A2 ls.length c2, .slice Ak nk ck] _ (.bool false) (by rfl) (by rfl) (World.rangeAt_setCells_same _ _ _ _ HT2.out) hu5 (by rfl) hi5) rfl ?_
    refine ⟨Ext.sets (HXs.out.tr Hx2.out) (by omega) _ _, ?_⟩
    rw [HE.out]
    exact ⟨HPre.out.1 _ HE.out, A2, c2, rfl, HL2.out.sub monoC_level ((frm_sets (by omega) _ _ _).tr (frm_le (by omega) _))⟩
  · have hlt' := hlt
    obtain ⟨j, hj⟩ : ∃ j : Nat, (j : Int) = xs.length - 1 - (n - b) := ⟨(xs.length - 1 - (n - b) : Int).toNat, by omega⟩
    have hjl : j < xs.length := by omega
    have HE := hid (putS_over hb2 hj hjl)
    have hb4 : decide (b ≤ n) = true := by simpa using hb2
    go_enter Tryd.func40, Tryd.ntmps40
    go_wp2_with fail
    refine (means_any b n _ hb HIN.out.2.1).mono ?_
    rintro e w1 ⟨hx1, x, rfl, hx⟩
    have HT1 := hid (there_ext hx1 HT0.out)
    have X1 := hid (((((Ext.rf w).al _).al _).al _).tr hx1)
    have b0 : w1.cell? ⟨w.heap.size + 1, 0, none⟩ = some (.int .i64 1) := hx1.cell (by simp [go_sem])
    have b1 : w1.cell? ⟨w.heap.size + 1, 1, none⟩ = some (.int .i64 n) := hx1.cell (by simp [go_sem])
    have b2 : w1.cell? ⟨w.heap.size + 1, 2, none⟩ = some (.int .i64 a) := hx1.cell (by simp [go_sem])
    have b3 : w1.cell? ⟨w.heap.size + 1, 3, none⟩ = some (.slice Al ls.length cl) := hx1.cell (by simp [go_sem])
    have b4 : w1.cell? ⟨w.heap.size + 1, 4, none⟩ = some (.slice Ak nk ck) := hx1.cell (by simp [go_sem])
    have z1 : w1.frozen? ⟨w.heap.size + 1, 1, none⟩ = false := (Below.frozen hx1 (by simp <;> omega)).trans (by simp [go_sem])
    have f0 : w1.cell? ⟨gb, 0, none⟩ = some (.slice Ab xs.length cb) := X1.out.cell (hx0.cell hgb)
    have hz1 : w.heap.size + 3 ≤ w1.heap.size := by have := hx1.size; simpa using this
    have Hmx := hid hx
    clear hx HT0
    obtain rfl : x = n - b := Hmx.out hb2
    have hb6 : decide (n - b < (xs.length : Int)) = true := by simpa using hlt
    go_upto_region 5 with fail
    clear b0 b1 b2 b3 b4 z1
    obtain ⟨x, hx⟩ : ∃ x, x = n - b := ⟨_, rfl⟩
    rw [← hx] at hj ⊢
    have HX1 := hid (hx0.tr X1.out)
    have q2 : w1.cell? ⟨gb, 0, none⟩ = some (.slice Ab xs.length cb) := f0
    have qb : w1.cell? ⟨w.heap.size, 0, none⟩ = some (.int .i64 b) := hx1.cell (by simp [go_sem])
    obtain ⟨bb, ob, cs, rfl, hRj, hcj⟩ := (show ∃ bb ob cs, Ab = some ⟨bb, ob, none⟩ ∧ RTerm w0 xs[j] cs ∧ cellsAt w0 bb (ob + j * 5) cs by obtain ⟨A', c', e', -, hr'⟩ := HBY.out; cases e'; exact hr'.at_ hjl)
    obtain ⟨_, _, rfl, -, ⟨A1, c1, rfl, -⟩, ⟨A2, c2, rfl, -⟩⟩ := rterm_open hRj
    have HCJ := hid (hcj.ext HX1.out)
    have HRJ := hid (mono_term _ _ _ _ HX1.out hRj)
    have HFJ := hid (HPre.out.2 xs[j] (List.getElem_mem hjl))
    have HKX := hid (hK0.ext HX1.out)
    obtain ⟨Y, hY⟩ : ∃ Y, Y = walkT (liftS b 0) 0 xs[j] := ⟨_, rfl⟩
    have HYe := hid hY
    have hs1 : IntKind.i64.wrap ((xs.length : Int) - 1) = (xs.length : Int) - 1 := IntWalk.i64_in _ (by omega)
    have hs2 : IntKind.i64.wrap ((xs.length : Int) - 1 - x) = (j : Int) := by rw [IntWalk.i64_in _ (by omega)]; omega
    have hjI : (j : Int) < xs.length := by omega
    clear hRj hcj hY hx f0 hx1 Hmx
    refine wp_region_turn (fun s W v => match s with | 36 => v = .slice (some ⟨bb, ob, none⟩) xs.length cb | 37 => v = .slice (some ⟨bb, ob, none⟩) xs.length cb | 38 => v = .int .i64 xs.length | 39 => v = .int .i64 ((xs.length : Int) - 1) | 40 => v = .int .i64 x | 41 => v = .int .i64 j | 42 => v = .pointer (some ⟨bb, ob + j * 5, none⟩) | 43 => v = .agg #[.int .i64 xs[j].kind, .int .i64 xs[j].num, .int .i64 xs[j].at_, .slice A1 xs[j].levels.length c1, .slice A2 xs[j].kids.length c2] | 44 => v = .pointer (some ⟨w.heap.size, 0, none⟩) | 45 => v = .pointer (some ⟨w.heap.size, 0, none⟩) | 46 => v = .int .i64 b | 47 => ∃ A3 c3 A4 c4, v = .agg #[.int .i64 Y.kind, .int .i64 Y.num, .int .i64 Y.at_, .slice A3 Y.levels.length c3, .slice A4 Y.kids.length c4] ∧ RTerm (frm (w.heap.size + 3) W) Y [.int .i64 Y.kind, .int .i64 Y.num, .int .i64 Y.at_, .slice A3 Y.levels.length c3, .slice A4 Y.kids.length c4] | 6 => v = .bool true | _ => True) (fun W => ∃ A3 c3 A4 c4, cellsAt W (w.heap.size + 2) 0 [.int .i64 Y.kind, .int .i64 Y.num, .int .i64 Y.at_, .slice A3 Y.levels.length c3, .slice A4 Y.kids.length c4] ∧ RTerm (frm (w.heap.size + 3) W) Y [.int .i64 Y.kind, .int .i64 Y.num, .int .i64 Y.at_, .slice A3 Y.levels.length c3, .slice A4 Y.kids.length c4] ∧ Ext w W) 12 [13] [true, true, true, true, true, true, true, true, true, true, true, true, false, false] _ (by kernel_rfl) (by kernel_rfl) (by rfl) rfl rfl (by decide) (by kernel_rfl) (by kernel_rfl) (of_decide_eq_true (by kernel_rfl)) (by kernel_rfl) (by intro s W W' v hx h; revert h; split <;> first | exact id | exact fun ⟨A, c, A', c', e, hr⟩ => ⟨A, c, A', c', e, monoC_term _ _ _ _ (frm_ext _ hx) hr⟩) (by intro i hi o d ho hd; simp only [List.mem_cons, List.not_mem_nil, or_false] at hi; rcases hi with rfl <;> (have e := Option.some.inj ho; subst e; have e2 := Option.some.inj hd; subst e2; exact fun _ _ _ h => h)) (by intro i hi o ho; simp only [List.mem_cons, List.not_mem_nil, or_false] at hi; rcases hi with rfl <;> (have e := Option.some.inj ho; subst e; rfl)) ?_ ?_ ?_ ?_
    · refine ⟨?_, ?_, ?_, ?_, ?_, ?_, ?_, ?_, ?_, ?_, ?_, ?_, trivial⟩
      · intro a W hx hdf hsz hg hi K hK
        refine step_free rfl ?_
        have t2 : a.tmps.getD 2 undef = .pointer (some ⟨gb, 0, none⟩) := hi 2 (by kernel_rfl)
        have u2 := t2
        rw [Array.getD_eq_getD_getElem?] at u2
        have q := hx.cell q2
        simp [Oper.wp, Oper.upon, execOp, Act.eval, go_sem, t2, u2, q]
        exact hK _ _ (Ext.rf _) (fun d' h => by cases h; exact rfl)
      · intro a W hx hdf hsz hg hi K hK
        refine step_free rfl ?_
        have t2 : a.tmps.getD 2 undef = .pointer (some ⟨gb, 0, none⟩) := hi 2 (by kernel_rfl)
        have u2 := t2
        rw [Array.getD_eq_getD_getElem?] at u2
        have q := hx.cell q2
        simp [Oper.wp, Oper.upon, execOp, Act.eval, go_sem, t2, u2, q]
        exact hK _ _ (Ext.rf _) (fun d' h => by cases h; exact rfl)
      · intro a W hx hdf hsz hg hi K hK
        refine step_free rfl ?_
        have t37 : a.tmps.getD 37 undef = .slice (some ⟨bb, ob, none⟩) xs.length cb := hg 37 (by kernel_rfl)
        have u37 := t37
        rw [Array.getD_eq_getD_getElem?] at u37
        simp [Oper.wp, Oper.upon, execOp, Act.eval, go_sem, t37, u37]
        exact hK _ _ (Ext.rf _) (fun d' h => by cases h; exact rfl)
      · intro a W hx hdf hsz hg hi K hK
        refine step_free rfl ?_
        have t38 : a.tmps.getD 38 undef = .int .i64 xs.length := hg 38 (by kernel_rfl)
        have u38 := t38
        rw [Array.getD_eq_getD_getElem?] at u38
        simp [Oper.wp, Oper.upon, execOp, Act.eval, go_sem, t38, u38, hs1]
        exact hK _ _ (Ext.rf _) (fun d' h => by cases h; exact rfl)
      · intro a W hx hdf hsz hg hi K hK
        refine step_free rfl ?_
        have t7 : a.tmps.getD 7 undef = .int .i64 x := hi 7 (by kernel_rfl)
        have u7 := t7
        rw [Array.getD_eq_getD_getElem?] at u7
        simp [Oper.wp, Oper.upon, execOp, Act.eval, go_sem, t7, u7]
        exact hK _ _ (Ext.rf _) (fun d' h => by cases h; exact rfl)
      · intro a W hx hdf hsz hg hi K hK
        refine step_free rfl ?_
        have t39 : a.tmps.getD 39 undef = .int .i64 ((xs.length : Int) - 1) := hg 39 (by kernel_rfl)
        have t40 : a.tmps.getD 40 undef = .int .i64 x := hg 40 (by kernel_rfl)
        have u39 := t39
        rw [Array.getD_eq_getD_getElem?] at u39
        have u40 := t40
        rw [Array.getD_eq_getD_getElem?] at u40
        simp [Oper.wp, Oper.upon, execOp, Act.eval, go_sem, t39, u39, t40, u40, hs2]
        exact hK _ _ (Ext.rf _) (fun d' h => by cases h; exact rfl)
      · intro a W hx hdf hsz hg hi K hK
        refine step_free rfl ?_
        have t36 : a.tmps.getD 36 undef = .slice (some ⟨bb, ob, none⟩) xs.length cb := hg 36 (by kernel_rfl)
        have t41 : a.tmps.getD 41 undef = .int .i64 j := hg 41 (by kernel_rfl)
        have u36 := t36
        rw [Array.getD_eq_getD_getElem?] at u36
        have u41 := t41
        rw [Array.getD_eq_getD_getElem?] at u41
        simp [Oper.wp, Oper.upon, execOp, Act.eval, go_sem, t36, u36, t41, u41, hjI]
        exact hK _ _ (Ext.rf _) (fun d' h => by cases h; exact rfl)
      · intro a W hx hdf hsz hg hi K hK
        refine step_free rfl ?_
        have t42 : a.tmps.getD 42 undef = .pointer (some ⟨bb, ob + j * 5, none⟩) := hg 42 (by kernel_rfl)
        have u42 := t42
        rw [Array.getD_eq_getD_getElem?] at u42
        refine wp_load_mid 27 (.tmp 42) rfl bb (ob + j * 5) t42 [.int .i64 xs[j].kind, .int .i64 xs[j].num, .int .i64 xs[j].at_, .slice A1 xs[j].levels.length c1, .slice A2 xs[j].kids.length c2] _ (HCJ.out.ext hx) hu5 rfl hi5 ?_
        exact hK _ _ (Ext.rf _) (fun d' h => by cases h; exact rfl)
      · intro a W hx hdf hsz hg hi K hK
        refine step_free rfl ?_
        have t3 : a.tmps.getD 3 undef = .pointer (some ⟨w.heap.size, 0, none⟩) := hi 3 (by kernel_rfl)
        have u3 := t3
        rw [Array.getD_eq_getD_getElem?] at u3
        simp [Oper.wp, Oper.upon, execOp, Act.eval, go_sem, t3, u3]
        exact hK _ _ (Ext.rf _) (fun d' h => by cases h; exact rfl)
      · intro a W hx hdf hsz hg hi K hK
        refine step_free rfl ?_
        have t44 : a.tmps.getD 44 undef = .pointer (some ⟨w.heap.size, 0, none⟩) := hg 44 (by kernel_rfl)
        have u44 := t44
        rw [Array.getD_eq_getD_getElem?] at u44
        simp [Oper.wp, Oper.upon, execOp, Act.eval, go_sem, t44, u44]
        exact hK _ _ (Ext.rf _) (fun d' h => by cases h; exact rfl)
      · intro a W hx hdf hsz hg hi K hK
        refine step_free rfl ?_
        have t45 : a.tmps.getD 45 undef = .pointer (some ⟨w.heap.size, 0, none⟩) := hg 45 (by kernel_rfl)
        have u45 := t45
        rw [Array.getD_eq_getD_getElem?] at u45
        have q := hx.cell qb
        simp [Oper.wp, Oper.upon, execOp, Act.eval, go_sem, t45, u45, q]
        exact hK _ _ (Ext.rf _) (fun d' h => by cases h; exact rfl)
      · intro a W hx hdf hsz hg hi K hK
        refine step_free rfl ?_
        have t43 : a.tmps.getD 43 undef = .agg #[.int .i64 xs[j].kind, .int .i64 xs[j].num, .int .i64 xs[j].at_, .slice A1 xs[j].levels.length c1, .slice A2 xs[j].kids.length c2] := hg 43 (by kernel_rfl)
        have t46 : a.tmps.getD 46 undef = .int .i64 b := hg 46 (by kernel_rfl)
        have u43 := t43
        rw [Array.getD_eq_getD_getElem?] at u43
        have u46 := t46
        rw [Array.getD_eq_getD_getElem?] at u46
        simp [Oper.wp, Oper.upon, execOp, Act.eval, go_sem, t43, u43, t46, u46]
        refine (lift_any b 0 xs[j] [.int .i64 xs[j].kind, .int .i64 xs[j].num, .int .i64 xs[j].at_, .slice A1 xs[j].levels.length c1, .slice A2 xs[j].kids.length c2] _ (HKX.out.ext hx) HFJ.out.2 HFJ.out.1 (mono_term _ _ _ _ hx HRJ.out)).mono ?_
        rintro e w' ⟨hb, cs', rfl, hR⟩
        rw [← HYe.out] at hR
        obtain ⟨_, _, rfl, -, ⟨A3, c3, rfl, -⟩, ⟨A4, c4, rfl, -⟩⟩ := rterm_open hR
        exact hK _ _ hb (fun d' h => by cases h; exact ⟨A3, c3, A4, c4, rfl, monoC_term _ _ _ _ (frm_le (by have := hx.size; omega) _) hR⟩)
    · intro i hi o ho a W hsz hi9 K hK
      simp only [List.mem_cons, List.not_mem_nil, or_false] at hi
      rcases hi with rfl
      · have e := Option.some.inj ho
        subst e
        simp [Oper.wp, Oper.upon, execOp, Act.eval, go_sem]
        exact hK _ (fun d' h => by cases h; exact rfl)
    · intro a W hx hdf hsz hg hi K hK
      have t5 : a.tmps.getD 5 undef = .pointer (some ⟨w.heap.size + 2, 0, none⟩) := hi 5 (by kernel_rfl)
      have u5 := t5
      rw [Array.getD_eq_getD_getElem?] at u5
      obtain ⟨A3, c3, A4, c4, t47, hR47⟩ := (show ∃ A3 c3 A4 c4, a.tmps.getD 47 undef = .agg #[.int .i64 Y.kind, .int .i64 Y.num, .int .i64 Y.at_, .slice A3 Y.levels.length c3, .slice A4 Y.kids.length c4] ∧ RTerm (frm (w.heap.size + 3) W) Y [.int .i64 Y.kind, .int .i64 Y.num, .int .i64 Y.at_, .slice A3 Y.levels.length c3, .slice A4 Y.kids.length c4] from hg 47 (by kernel_rfl))
      have hon := hid (show ∀ v ∈ ([.int .i64 Y.kind, .int .i64 Y.num, .int .i64 Y.at_, .slice A3 Y.levels.length c3, .slice A4 Y.kids.length c4] : List Value), v.oneCell' = true from fun u hu => by
        simp only [List.mem_cons, List.not_mem_nil, or_false] at hu
        rcases hu with rfl | rfl | rfl | rfl | rfl <;> rfl)
      have hth := there_ext hx HT1.out
      refine wp_store_mid 27 _ _ rfl (w.heap.size + 2) 0 #[.int .i64 Y.kind, .int .i64 Y.num, .int .i64 Y.at_, .slice A3 Y.levels.length c3, .slice A4 Y.kids.length c4] t5 t47 (by exact hth) hi5 (all_oneCell_toArray hon.out) ?_
      exact hK _ _ ⟨A3, c3, A4, c4, World.rangeAt_setCells_same _ _ _ _ hth, monoC_term _ _ _ _ (frm_sets (by omega) _ _ _) hR47, (X1.out.tr hx).sets (by omega) _ _⟩
    · rintro ⟨T3, D3⟩ W hdf hsz0 hT9 hg hi
      have t6 : T3.getD 6 undef = .bool true := hg 13 (by simp) _ 6 rfl rfl
      have t5 : T3.getD 5 undef = .pointer (some ⟨w.heap.size + 2, 0, none⟩) := hi 5 (by kernel_rfl)
      obtain ⟨A3, c3, A4, c4, hc9, hR9, hx9⟩ := hT9
      obtain ⟨f, hf, hT⟩ := frame_slots T3 50 hsz0
      have f5 := (hf 5).symm.trans t5
      have f6 := (hf 6).symm.trans t6
      have hD : D3 = [] := hdf
      have Hc9 := hid hc9
      have HR9 := hid hR9
      have Hx9 := hid hx9
      clear hf hi hg hsz0 hdf t5 t6 hc9 hR9 hx9
      subst hT hD
      simp only [slots, Nat.reduceAdd, f5, f6]
      go_wp2_with fail
      refine bodyPost_ret (v := .tuple #[.agg #[.int .i64 Y.kind, .int .i64 Y.num, .int .i64 Y.at_, .slice A3 Y.levels.length c3, .slice A4 Y.kids.length c4], .bool true]) (results_cell_slot (by rfl) _ _ (w.heap.size + 2) [.int .i64 Y.kind, .int .i64 Y.num, .int .i64 Y.at_, .slice A3 Y.levels.length c3, .slice A4 Y.kids.length c4] _ (.bool true) (by rfl) (by rfl) Hc9.out hu5 (by rfl) hi5) rfl ?_
      refine ⟨Hx9.out, ?_⟩
      rw [HE.out, ← HYe.out]
      exact ⟨_, rfl, monoC_term _ _ _ _ (frm_le (by omega) _) HR9.out⟩
set_option maxRecDepth 100000 in
set_option maxHeartbeats 2000000 in
theorem put_any (xs : List Term) (t : Term) (v : Value) (cs : List Value) (w : World) (hK : KindsIn w) (hsz : tsize t ≤ BIG) (hfit : FitsT (putPre xs) 0 t) (hR : RTerm w t cs) (hs : SlTerm w xs v) :
    Calls Tryd.prog 19 #[.agg cs.toArray, v] w (Gives RTerm (walkT (putS xs) 0 t) w) := by
  have hu5 := Tryd.underlying27
  have hi5 : (Tryd.prog.info? 27).map (·.size) = some 5 := by kernel_rfl
  have hmf : ∀ (fn : Fn) (first cap : Array Value) (w : World), (Instr.makeFunc fn first cap).run Tryd.prog w = .ok (.func fn first cap) w := fun _ _ _ _ => rfl
  obtain ⟨vl, vk, rfl, -, ⟨A1, c1, rfl, -⟩, ⟨A2, c2, rfl, -⟩⟩ := rterm_open hR
  obtain ⟨Ab, cb, rfl, -⟩ := id hs
  have HR := hid hR
  have HF := hid hfit
  obtain ⟨Y, hY⟩ : ∃ Y, Y = walkT (putS xs) 0 t := ⟨_, rfl⟩
  rw [← hY]
  have HY := hid hY
  have hxl : Ext w (((w.alloc (.cells #[.int .i64 t.kind, .int .i64 t.num, .int .i64 t.at_, .slice A1 t.levels.length c1, .slice A2 t.kids.length c2] 27)).alloc (.cells #[.slice Ab xs.length cb] 25)).alloc (.cells #[.int .i64 0, .int .i64 0, .int .i64 0, .slice none 0 0, .slice none 0 0] 27)) := (((Ext.rf _).al _).al _).al _
  have HT0 := hid (show (((w.alloc (.cells #[.int .i64 t.kind, .int .i64 t.num, .int .i64 t.at_, .slice A1 t.levels.length c1, .slice A2 t.kids.length c2] 27)).alloc (.cells #[.slice Ab xs.length cb] 25)).alloc (.cells #[.int .i64 0, .int .i64 0, .int .i64 0, .slice none 0 0, .slice none 0 0] 27)).there (w.heap.size + 2) 0 5 by have := there_fresh ((w.alloc (.cells #[.int .i64 t.kind, .int .i64 t.num, .int .i64 t.at_, .slice A1 t.levels.length c1, .slice A2 t.kids.length c2] 27)).alloc (.cells #[.slice Ab xs.length cb] 25)) 27 #[.int .i64 0, .int .i64 0, .int .i64 0, .slice none 0 0, .slice none 0 0] 5 (Nat.le_refl _); simpa using this)
  have HC := hid (fun (Wx : World) (hWx : Wx = (((w.alloc (.cells #[.int .i64 t.kind, .int .i64 t.num, .int .i64 t.at_, .slice A1 t.levels.length c1, .slice A2 t.kids.length c2] 27)).alloc (.cells #[.slice Ab xs.length cb] 25)).alloc (.cells #[.int .i64 0, .int .i64 0, .int .i64 0, .slice none 0 0, .slice none 0 0] 27))) => walkTerm_any 40 #[.pointer (some ⟨w.heap.size + 1, 0, none⟩)] (putPre xs) (putS xs) Wx enters_put1 (put1_any xs (w.heap.size + 1) Ab cb Wx (by rw [hWx]; exact hK.ext hxl) (by rw [hWx]; simp [go_sem]) (by rw [hWx]; exact hs.ext mono_term hxl)) (by rw [hWx]; exact hK.ext hxl) t 0 [.int .i64 t.kind, .int .i64 t.num, .int .i64 t.at_, .slice A1 t.levels.length c1, .slice A2 t.kids.length c2] Wx (Ext.rf _) ⟨Int.le_refl _, by have h9 : tsize t ≤ 1152921504606846976 := hsz; omega⟩ hfit (by rw [hWx]; exact mono_term _ _ _ _ hxl hR))
  have Hxl := hid hxl
  clear hR hfit hY hxl hs
  go_enter Tryd.func19, Tryd.ntmps19
  go_wp2_with fail
  refine (HC.out _ rfl).mono ?_
  rintro e w1 ⟨hx1, cs', rfl, hR1⟩
  rw [← HY.out] at hR1
  obtain ⟨_, _, rfl, -, ⟨A3, c3, rfl, -⟩, ⟨A4, c4, rfl, -⟩⟩ := rterm_open hR1
  have HT1 := hid (there_ext hx1 HT0.out)
  have HR1 := hid hR1
  have Hx1 := hid hx1
  clear HT0 hR1 hx1
  have hon := hid (show ∀ v ∈ ([.int .i64 Y.kind, .int .i64 Y.num, .int .i64 Y.at_, .slice A3 Y.levels.length c3, .slice A4 Y.kids.length c4] : List Value), v.oneCell' = true from fun u hu => by
    simp only [List.mem_cons, List.not_mem_nil, or_false] at hu
    rcases hu with rfl | rfl | rfl | rfl | rfl <;> rfl)
  go_wp2_with ((with_reducible show wpList _ _ _ (⟨_, Op.store 27 _ _, _, _, _, _⟩ :: _) _ _); refine wpList_store_mid (by rfl) 27 _ _ (by rfl) (w.heap.size + 2) 0 #[.int .i64 Y.kind, .int .i64 Y.num, .int .i64 Y.at_, .slice A3 Y.levels.length c3, .slice A4 Y.kids.length c4] (by rfl) (by rfl) (by exact HT1.out) hi5 (all_oneCell_toArray hon.out) ?_)
  refine bodyPost_ret (v := .agg #[.int .i64 Y.kind, .int .i64 Y.num, .int .i64 Y.at_, .slice A3 Y.levels.length c3, .slice A4 Y.kids.length c4]) (results_cell_mid (by rfl) _ _ (w.heap.size + 2) [.int .i64 Y.kind, .int .i64 Y.num, .int .i64 Y.at_, .slice A3 Y.levels.length c3, .slice A4 Y.kids.length c4] _ (by rfl) (World.rangeAt_setCells_same _ _ _ _ HT1.out) hu5 (by rfl) hi5) rfl ?_
  refine ⟨Ext.sets (Hxl.out.tr Hx1.out) (by omega) _ _, _, rfl, monoC_term _ _ _ _ ?_ HR1.out⟩
  have hfz : (((w.alloc (.cells #[.int .i64 t.kind, .int .i64 t.num, .int .i64 t.at_, .slice A1 t.levels.length c1, .slice A2 t.kids.length c2] 27)).alloc (.cells #[.slice Ab xs.length cb] 25)).alloc (.cells #[.int .i64 0, .int .i64 0, .int .i64 0, .slice none 0 0, .slice none 0 0] 27)).heap.size = w.heap.size + 3 := by simp
  rw [hfz]
  exact (frm_sets (by omega) _ _ _).tr (frm_le (by omega) _)
def SizeP (t : Term) : Prop := ∀ (cs : List Value) (w : World), RTerm w t cs → Calls Tryd.prog 18 #[.agg cs.toArray] w (SomeI w)
set_option maxRecDepth 100000 in
set_option maxHeartbeats 1000000 in
theorem size_step (k n a : Int) (ls : List Level) (ks : List Term) (ih : ∀ t ∈ ks, SizeP t) : SizeP (.mk k n a ls ks) := by
  intro cs w hR
  obtain ⟨vl, vk, rfl, hin, hl, A, c, rfl, hck, hr⟩ := rterm_iff.1 hR
  obtain ⟨A0, c0, rfl, -⟩ := id hl
  have hlen := hr.len_le
  have IH := hid ih
  clear ih hR hl
  go_enter Tryd.func18, Tryd.ntmps18
  go_wp2_with fail
  go_loopw [3, 9] (fun m i wr => ∃ (j : Nat) (z : Int), j ≤ ks.length ∧ m = .int .i64 z ∧ i = .int .i64 j ∧ Ext w wr) (fun _ i _ => ks.length - (intOf i).toNat)
  case atStart => exact ⟨0, 1, by omega, rfl, rfl, (Ext.rf _).al _⟩
  case round =>
    obtain ⟨j, z, hj, rfl, rfl, hxr⟩ := hrel
    obtain ⟨wr, rfl⟩ := ext_name2 hxr
    by_cases hlt : j < ks.length
    · obtain ⟨b, o, cs, rfl, hRj, hcs0⟩ := hr.at_ hlt
      obtain ⟨_, _, rfl, -, ⟨A1, c1, rfl, -⟩, ⟨A2, c2, rfl, -⟩⟩ := rterm_open hRj
      have hcs := hcs0.ext hxr
      have e0 := hcs.at0
      have e1 := hcs.at1
      have e2 := hcs.at2
      have e3 := hcs.at3
      have e4 := hcs.at4
      have hjI : (j : Int) < ks.length := by omega
      have HRj := hid (mono_term _ _ _ _ (hxr.al (.cells #[.int .i64 ks[j].kind, .int .i64 ks[j].num, .int .i64 ks[j].at_, .slice A1 ks[j].levels.length c1, .slice A2 ks[j].kids.length c2] 27)) hRj)
      clear hcs hcs0 hRj
      go_wp2_with fail
      refine (IH.out ks[j] (List.getElem_mem hlt) _ _ HRj.out).mono ?_
      rintro e w2 ⟨hx2, m2, rfl⟩
      clear e0 e1 e2 e3 e4
      go_wp2_with fail
      exact ⟨⟨j + 1, _, by omega, rfl, by go_num, hxr.tr (((Ext.rf _).al _).tr hx2)⟩, by simp only [intOf]; omega⟩
    · obtain rfl : j = ks.length := by omega
      go_wp2_with fail
      go_ret
      exact ⟨hxr, _, rfl⟩
theorem size_any (t : Term) : SizeP t := Term.ind (fun k n a ls ks ih => size_step k n a ls ks ih) t
end Go.Proofs.YtjaklnabidbmiaaDoor

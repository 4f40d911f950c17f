/- Walks: term.Lift. Printed by gen_lift4.py. -/
import Derived.Test.YtjaklnabidbmiaaDoorLift3
namespace Go.Proofs.YtjaklnabidbmiaaDoor
open Go.RowKit
set_option linter.unusedSimpArgs false
set_option linter.unusedVariables false
/-- A result in a variable, and one beside it. -/
theorem results_cell_slot {P : Program} {fn : Func} {p s : Tmp} {ty : TypeId} (h : fn.results = #[.cell p ty, .tmp s]) (tmps : Array Value) (w : World) (g : Nat) (cs : List Value) (d : TypeDesc) (v : Value)
    (hp : tmps.getD p undef = .pointer (some ⟨g, 0, none⟩)) (hs : tmps.getD s undef = v) (hg : w.rangeAt g 0 cs)
    (hu : P.underlying ty = some d) (hd : d.isRow = true) (hi : (P.info? ty).map (·.size) = some cs.length) :
    (results fn tmps).run P w = .ok (.tuple #[.agg cs.toArray, v]) w := by
  have hp' : tmps[p]?.getD undef = .pointer (some ⟨g, 0, none⟩) := by simpa using hp
  have hs' : tmps[s]?.getD undef = v := by simpa using hs
  simp [results, h, hp', hs', asAddr, run_loadVar_mid w g 0 ty cs d hg hu hd hi]
def liftN (m fr k n b : Int) : Int := if k = 1 ∧ b ≤ n ∧ fr ≤ n - b then n + m else n
def liftS (m fr : Int) (k n b : Int) : Turned := .num (liftN m fr k n b)
def liftPre (m fr : Int) (k n b : Int) : Prop := inI (liftN m fr k n b)
theorem enters_lift1 : Enters 35 := ⟨fun _ _ => by simp [go_sem]⟩
theorem turned_le {t : Turned} {k a : Int} {ls : List Level} {vk : Value} {w : World} {e : Ending} {w' : World} : True := trivial
set_option maxRecDepth 100000 in
set_option maxHeartbeats 2000000 in
theorem lift1_any (m fr : Int) (gf gn : Nat) (w0 : World) (hgf : w0.cell? ⟨gf, 0, none⟩ = some (.int .i64 fr)) (hgn : w0.cell? ⟨gn, 0, none⟩ = some (.int .i64 m)) :
    TurnOk 35 #[.pointer (some ⟨gf, 0, none⟩), .pointer (some ⟨gn, 0, none⟩)] (liftPre m fr) (liftS m fr) w0 := by
  intro b k n a ls vl Ak nk ck w hx0 hb hin hpre hl
  have hu5 := Tryd.underlying27
  have hi5 : (Tryd.prog.info? 27).map (·.size) = some 5 := by kernel_rfl
  obtain ⟨Al, cl, rfl, -⟩ := id hl
  have HIN := hid hin
  have HPre := hid hpre
  have HL := hid hl
  obtain ⟨Kf, hKf⟩ : ∃ K : Nat, K = 35 := ⟨_, rfl⟩
  obtain ⟨cf, hcf⟩ : ∃ c : Array Value, c = #[.pointer (some ⟨gf, 0, none⟩), .pointer (some ⟨gn, 0, none⟩)] := ⟨_, rfl⟩
  show Calls Tryd.prog 35 #[.agg #[.int .i64 b, .func (.func 35) #[] #[.pointer (some ⟨gf, 0, none⟩), .pointer (some ⟨gn, 0, none⟩)]], .agg #[.int .i64 k, .int .i64 n, .int .i64 a, .slice Al ls.length cl, .slice Ak nk ck], .pointer (some ⟨gf, 0, none⟩), .pointer (some ⟨gn, 0, none⟩)] w _
  rw [← hcf]
  have hv : ∀ (x : Nat), x = 35 → Value.func (.func 35) #[] cf = Value.func (.func x) #[] cf := fun x h => by rw [h]
  rw [hv Kf hKf]
  clear hv hKf hcf hin hpre hl
  have HT0 := hid (show (((w.alloc (.cells #[.int .i64 b, .func (.func Kf) #[] cf] 70)).alloc (.cells #[.int .i64 k, .int .i64 n, .int .i64 a, .slice Al ls.length cl, .slice Ak nk ck] 27)).alloc (.cells #[.int .i64 0, .int .i64 0, .int .i64 0, .slice none 0 0, .slice none 0 0] 27)).there (w.heap.size + 2) 0 5 by have := there_fresh ((w.alloc (.cells #[.int .i64 b, .func (.func Kf) #[] cf] 70)).alloc (.cells #[.int .i64 k, .int .i64 n, .int .i64 a, .slice Al ls.length cl, .slice Ak nk ck] 27)) 27 #[.int .i64 0, .int .i64 0, .int .i64 0, .slice none 0 0, .slice none 0 0] 5 (Nat.le_refl _); simpa using this)
  by_cases hk : k = 1
  · subst hk
    by_cases hb2 : b ≤ n
    · by_cases hf : fr ≤ n - b
      · have hm1 := hid (show inI (n + m) by have := HPre.out; unfold liftPre liftN at this; rwa [if_pos ⟨rfl, hb2, hf⟩] at this)
        have hm2 : -9223372036854775808 ≤ n + m := hm1.out.1
        have hm3 : n + m ≤ 9223372036854775807 := hm1.out.2
        have HE := hid (show liftN m fr 1 n b = (n + m) from if_pos ⟨rfl, hb2, hf⟩)
        go_enter Tryd.func35, Tryd.ntmps35
        go_wp2_with fail
        refine (means_any b n _ hb HIN.out.2.1).mono ?_
        rintro e w1 ⟨hx1, x, rfl, hx⟩
        have HT1 := hid (there_ext hx1 HT0.out)
        have X1 := hid (((((Ext.rf w).al _).al _).al _).tr hx1)
        have b0 : w1.cell? ⟨w.heap.size + 1, 0, none⟩ = some (.int .i64 1) := hx1.cell (by simp [go_sem])
        have b1 : w1.cell? ⟨w.heap.size + 1, 1, none⟩ = some (.int .i64 n) := hx1.cell (by simp [go_sem])
        have b2 : w1.cell? ⟨w.heap.size + 1, 2, none⟩ = some (.int .i64 a) := hx1.cell (by simp [go_sem])
        have b3 : w1.cell? ⟨w.heap.size + 1, 3, none⟩ = some (.slice Al ls.length cl) := hx1.cell (by simp [go_sem])
        have b4 : w1.cell? ⟨w.heap.size + 1, 4, none⟩ = some (.slice Ak nk ck) := hx1.cell (by simp [go_sem])
        have z1 : w1.frozen? ⟨w.heap.size + 1, 1, none⟩ = false := (Below.frozen hx1 (by simp <;> omega)).trans (by simp [go_sem])
        have f0 : w1.cell? ⟨gf, 0, none⟩ = some (.int .i64 fr) := X1.out.cell (hx0.cell hgf)
        have n0 : w1.cell? ⟨gn, 0, none⟩ = some (.int .i64 m) := X1.out.cell (hx0.cell hgn)
        have hz1 : w.heap.size + 3 ≤ w1.heap.size := by have := hx1.size; simpa using this
        obtain rfl : x = n - b := hx (by omega)
        have hdb := hid hx
        clear hx hx1 HT0
        go_wp2_with fail
        have hXs : Ext w (w1.setCell ⟨w.heap.size + 1, 1, none⟩ (.int .i64 (n + m))) := X1.out.st (by show w.heap.size ≤ w.heap.size + 1; omega) _
        have hTs : (w1.setCell ⟨w.heap.size + 1, 1, none⟩ (.int .i64 (n + m))).there (w.heap.size + 2) 0 5 := there_set (by omega) HT1.out
        have hZs : w.heap.size + 3 ≤ (w1.setCell ⟨w.heap.size + 1, 1, none⟩ (.int .i64 (n + m))).heap.size := by simpa [World.setCell] using hz1
        generalize (w1.setCell ⟨w.heap.size + 1, 1, none⟩ (.int .i64 (n + m))) = W2 at hXs hTs hZs ⊢
        have HTs := hid hTs
        have HXs := hid hXs
        clear hTs hXs b0 b1 b2 b3 b4 z1 f0 n0
        refine (termOwn_any 1 (n + m) a ls _ Ak nk ck W2 (HL.out.ext mono_level HXs.out)).mono ?_
        rintro e w2 ⟨hx2, vl2, rfl, hL2⟩
        obtain ⟨A2, c2, rfl, -⟩ := id hL2
        have HT2 := hid (there_ext hx2 HTs.out)
        have HL2 := hid hL2
        have Hx2 := hid hx2
        have hon := hid (show ∀ v ∈ ([.int .i64 1, .int .i64 (n + m), .int .i64 a, .slice A2 ls.length c2, .slice Ak nk ck] : List Value), v.oneCell' = true from fun u hu => by
          simp only [List.mem_cons, List.not_mem_nil, or_false] at hu
          rcases hu with rfl | rfl | rfl | rfl | rfl <;> rfl)
        clear hL2 hx2
        go_wp2_with ((with_reducible show wpList _ _ _ (⟨_, Op.store 27 _ _, _, _, _, _⟩ :: _) _ _); refine wpList_store_mid (by rfl) 27 _ _ (by rfl) (w.heap.size + 2) 0 #[.int .i64 1, .int .i64 (n + m), .int .i64 a, .slice A2 ls.length c2, .slice Ak nk ck] (by rfl) (by rfl) (by exact HT2.out) hi5 (all_oneCell_toArray hon.out) ?_)
        refine bodyPost_ret (v := .tuple #[.agg #[.int .i64 1, .int .i64 (n + m), .int .i64 a, .slice A2 ls.length c2, .slice Ak nk ck], .bool false]) (results_cell_slot (by rfl) _ _ (w.heap.size + 2) [.int .i64 1, .int .i64 (n + m), .int .i64 a, .slice A2 ls.length c2, .slice Ak nk ck] _ (.bool false) (by rfl) (by rfl) (World.rangeAt_setCells_same _ _ _ _ HT2.out) hu5 (by rfl) hi5) rfl ?_
        refine ⟨Ext.sets (HXs.out.tr Hx2.out) (by omega) _ _, ?_⟩
        show inI (liftN m fr 1 n b) ∧ ∃ A c, _ = Ending.returned (.tuple #[.agg #[.int .i64 1, .int .i64 (liftN m fr 1 n b), .int .i64 a, .slice A ls.length c, .slice Ak nk ck], .bool false]) ∧ _
        rw [HE.out]
        refine ⟨by have := HPre.out; unfold liftPre at this; rwa [HE.out] at this, A2, c2, rfl, ?_⟩
        exact HL2.out.sub monoC_level ((frm_sets (by omega) _ _ _).tr (frm_le (by omega) _))
      · have hf2 : n - b < fr := by omega
        -- hb2 : b ≤ n
        have HE := hid (show liftN m fr 1 n b = n from if_neg (fun h => hf h.2.2))
        go_enter Tryd.func35, Tryd.ntmps35
        go_wp2_with fail
        refine (means_any b n _ hb HIN.out.2.1).mono ?_
        rintro e w1 ⟨hx1, x, rfl, hx⟩
        have HT1 := hid (there_ext hx1 HT0.out)
        have X1 := hid (((((Ext.rf w).al _).al _).al _).tr hx1)
        have b0 : w1.cell? ⟨w.heap.size + 1, 0, none⟩ = some (.int .i64 1) := hx1.cell (by simp [go_sem])
        have b1 : w1.cell? ⟨w.heap.size + 1, 1, none⟩ = some (.int .i64 n) := hx1.cell (by simp [go_sem])
        have b2 : w1.cell? ⟨w.heap.size + 1, 2, none⟩ = some (.int .i64 a) := hx1.cell (by simp [go_sem])
        have b3 : w1.cell? ⟨w.heap.size + 1, 3, none⟩ = some (.slice Al ls.length cl) := hx1.cell (by simp [go_sem])
        have b4 : w1.cell? ⟨w.heap.size + 1, 4, none⟩ = some (.slice Ak nk ck) := hx1.cell (by simp [go_sem])
        have z1 : w1.frozen? ⟨w.heap.size + 1, 1, none⟩ = false := (Below.frozen hx1 (by simp <;> omega)).trans (by simp [go_sem])
        have f0 : w1.cell? ⟨gf, 0, none⟩ = some (.int .i64 fr) := X1.out.cell (hx0.cell hgf)
        have n0 : w1.cell? ⟨gn, 0, none⟩ = some (.int .i64 m) := X1.out.cell (hx0.cell hgn)
        have hz1 : w.heap.size + 3 ≤ w1.heap.size := by have := hx1.size; simpa using this
        obtain rfl : x = n - b := hx (by omega)
        have hdb := hid hx
        clear hx hx1 HT0
        go_wp2_with fail
        have hXs : Ext w w1 := X1.out
        have hTs : w1.there (w.heap.size + 2) 0 5 := HT1.out
        have hZs : w.heap.size + 3 ≤ w1.heap.size := by exact hz1
        obtain ⟨W2, hW2⟩ : ∃ W2, W2 = w1 := ⟨_, rfl⟩
        rw [← hW2] at hXs hTs hZs ⊢
        have HTs := hid hTs
        have HXs := hid hXs
        clear hTs hXs b0 b1 b2 b3 b4 z1 f0 n0
        refine (termOwn_any 1 n a ls _ Ak nk ck W2 (HL.out.ext mono_level HXs.out)).mono ?_
        rintro e w2 ⟨hx2, vl2, rfl, hL2⟩
        obtain ⟨A2, c2, rfl, -⟩ := id hL2
        have HT2 := hid (there_ext hx2 HTs.out)
        have HL2 := hid hL2
        have Hx2 := hid hx2
        have hon := hid (show ∀ v ∈ ([.int .i64 1, .int .i64 n, .int .i64 a, .slice A2 ls.length c2, .slice Ak nk ck] : List Value), v.oneCell' = true from fun u hu => by
          simp only [List.mem_cons, List.not_mem_nil, or_false] at hu
          rcases hu with rfl | rfl | rfl | rfl | rfl <;> rfl)
        clear hL2 hx2
        go_wp2_with ((with_reducible show wpList _ _ _ (⟨_, Op.store 27 _ _, _, _, _, _⟩ :: _) _ _); refine wpList_store_mid (by rfl) 27 _ _ (by rfl) (w.heap.size + 2) 0 #[.int .i64 1, .int .i64 n, .int .i64 a, .slice A2 ls.length c2, .slice Ak nk ck] (by rfl) (by rfl) (by exact HT2.out) hi5 (all_oneCell_toArray hon.out) ?_)
        refine bodyPost_ret (v := .tuple #[.agg #[.int .i64 1, .int .i64 n, .int .i64 a, .slice A2 ls.length c2, .slice Ak nk ck], .bool false]) (results_cell_slot (by rfl) _ _ (w.heap.size + 2) [.int .i64 1, .int .i64 n, .int .i64 a, .slice A2 ls.length c2, .slice Ak nk ck] _ (.bool false) (by rfl) (by rfl) (World.rangeAt_setCells_same _ _ _ _ HT2.out) hu5 (by rfl) hi5) rfl ?_
        refine ⟨Ext.sets (HXs.out.tr Hx2.out) (by omega) _ _, ?_⟩
        show inI (liftN m fr 1 n b) ∧ ∃ A c, _ = Ending.returned (.tuple #[.agg #[.int .i64 1, .int .i64 (liftN m fr 1 n b), .int .i64 a, .slice A ls.length c, .slice Ak nk ck], .bool false]) ∧ _
        rw [HE.out]
        refine ⟨by have := HPre.out; unfold liftPre at this; rwa [HE.out] at this, A2, c2, rfl, ?_⟩
        exact HL2.out.sub monoC_level ((frm_sets (by omega) _ _ _).tr (frm_le (by omega) _))
    · have hb3 : n < b := by omega
      have HE := hid (show liftN m fr 1 n b = n from if_neg (fun h => hb2 h.2.1))
      go_enter Tryd.func35, Tryd.ntmps35
      go_wp2_with fail
      refine (means_any b n _ hb HIN.out.2.1).mono ?_
      rintro e w1 ⟨hx1, x, rfl, hx⟩
      have HT1 := hid (there_ext hx1 HT0.out)
      have X1 := hid (((((Ext.rf w).al _).al _).al _).tr hx1)
      have b0 : w1.cell? ⟨w.heap.size + 1, 0, none⟩ = some (.int .i64 1) := hx1.cell (by simp [go_sem])
      have b1 : w1.cell? ⟨w.heap.size + 1, 1, none⟩ = some (.int .i64 n) := hx1.cell (by simp [go_sem])
      have b2 : w1.cell? ⟨w.heap.size + 1, 2, none⟩ = some (.int .i64 a) := hx1.cell (by simp [go_sem])
      have b3 : w1.cell? ⟨w.heap.size + 1, 3, none⟩ = some (.slice Al ls.length cl) := hx1.cell (by simp [go_sem])
      have b4 : w1.cell? ⟨w.heap.size + 1, 4, none⟩ = some (.slice Ak nk ck) := hx1.cell (by simp [go_sem])
      have z1 : w1.frozen? ⟨w.heap.size + 1, 1, none⟩ = false := (Below.frozen hx1 (by simp <;> omega)).trans (by simp [go_sem])
      have f0 : w1.cell? ⟨gf, 0, none⟩ = some (.int .i64 fr) := X1.out.cell (hx0.cell hgf)
      have n0 : w1.cell? ⟨gn, 0, none⟩ = some (.int .i64 m) := X1.out.cell (hx0.cell hgn)
      have hz1 : w.heap.size + 3 ≤ w1.heap.size := by have := hx1.size; simpa using this
      have hdb := hid hx
      clear hx hx1 HT0
      go_wp2_with fail
      have hXs : Ext w w1 := X1.out
      have hTs : w1.there (w.heap.size + 2) 0 5 := HT1.out
      have hZs : w.heap.size + 3 ≤ w1.heap.size := by exact hz1
      obtain ⟨W2, hW2⟩ : ∃ W2, W2 = w1 := ⟨_, rfl⟩
      rw [← hW2] at hXs hTs hZs ⊢
      have HTs := hid hTs
      have HXs := hid hXs
      clear hTs hXs b0 b1 b2 b3 b4 z1 f0 n0
      refine (termOwn_any 1 n a ls _ Ak nk ck W2 (HL.out.ext mono_level HXs.out)).mono ?_
      rintro e w2 ⟨hx2, vl2, rfl, hL2⟩
      obtain ⟨A2, c2, rfl, -⟩ := id hL2
      have HT2 := hid (there_ext hx2 HTs.out)
      have HL2 := hid hL2
      have Hx2 := hid hx2
      have hon := hid (show ∀ v ∈ ([.int .i64 1, .int .i64 n, .int .i64 a, .slice A2 ls.length c2, .slice Ak nk ck] : List Value), v.oneCell' = true from fun u hu => by
        simp only [List.mem_cons, List.not_mem_nil, or_false] at hu
        rcases hu with rfl | rfl | rfl | rfl | rfl <;> rfl)
      clear hL2 hx2
      go_wp2_with ((with_reducible show wpList _ _ _ (⟨_, Op.store 27 _ _, _, _, _, _⟩ :: _) _ _); refine wpList_store_mid (by rfl) 27 _ _ (by rfl) (w.heap.size + 2) 0 #[.int .i64 1, .int .i64 n, .int .i64 a, .slice A2 ls.length c2, .slice Ak nk ck] (by rfl) (by rfl) (by exact HT2.out) hi5 (all_oneCell_toArray hon.out) ?_)
      refine bodyPost_ret (v := .tuple #[.agg #[.int .i64 1, .int .i64 n, .int .i64 a, .slice A2 ls.length c2, .slice Ak nk ck], .bool false]) (results_cell_slot (by rfl) _ _ (w.heap.size + 2) [.int .i64 1, .int .i64 n, .int .i64 a, .slice A2 ls.length c2, .slice Ak nk ck] _ (.bool false) (by rfl) (by rfl) (World.rangeAt_setCells_same _ _ _ _ HT2.out) hu5 (by rfl) hi5) rfl ?_
      refine ⟨Ext.sets (HXs.out.tr Hx2.out) (by omega) _ _, ?_⟩
      show inI (liftN m fr 1 n b) ∧ ∃ A c, _ = Ending.returned (.tuple #[.agg #[.int .i64 1, .int .i64 (liftN m fr 1 n b), .int .i64 a, .slice A ls.length c, .slice Ak nk ck], .bool false]) ∧ _
      rw [HE.out]
      refine ⟨by have := HPre.out; unfold liftPre at this; rwa [HE.out] at this, A2, c2, rfl, ?_⟩
      exact HL2.out.sub monoC_level ((frm_sets (by omega) _ _ _).tr (frm_le (by omega) _))
  · have hk2 : (k == 1) = false := by simpa using hk
    have hk3 : decide (k = 1) = false := by simpa using hk
    have HE := hid (show liftN m fr k n b = n from if_neg (fun h => hk h.1))
    go_enter Tryd.func35, Tryd.ntmps35
    go_wp2_with fail
    refine (means_any b n _ hb HIN.out.2.1).mono ?_
    rintro e w1 ⟨hx1, x, rfl, hx⟩
    have HT1 := hid (there_ext hx1 HT0.out)
    have X1 := hid (((((Ext.rf w).al _).al _).al _).tr hx1)
    have b0 : w1.cell? ⟨w.heap.size + 1, 0, none⟩ = some (.int .i64 k) := hx1.cell (by simp [go_sem])
    have b1 : w1.cell? ⟨w.heap.size + 1, 1, none⟩ = some (.int .i64 n) := hx1.cell (by simp [go_sem])
    have b2 : w1.cell? ⟨w.heap.size + 1, 2, none⟩ = some (.int .i64 a) := hx1.cell (by simp [go_sem])
    have b3 : w1.cell? ⟨w.heap.size + 1, 3, none⟩ = some (.slice Al ls.length cl) := hx1.cell (by simp [go_sem])
    have b4 : w1.cell? ⟨w.heap.size + 1, 4, none⟩ = some (.slice Ak nk ck) := hx1.cell (by simp [go_sem])
    have z1 : w1.frozen? ⟨w.heap.size + 1, 1, none⟩ = false := (Below.frozen hx1 (by simp <;> omega)).trans (by simp [go_sem])
    have f0 : w1.cell? ⟨gf, 0, none⟩ = some (.int .i64 fr) := X1.out.cell (hx0.cell hgf)
    have n0 : w1.cell? ⟨gn, 0, none⟩ = some (.int .i64 m) := X1.out.cell (hx0.cell hgn)
    have hz1 : w.heap.size + 3 ≤ w1.heap.size := by have := hx1.size; simpa using this
    have hdb := hid hx
    clear hx hx1 HT0
    go_wp2_with fail
    have hXs : Ext w w1 := X1.out
    have hTs : w1.there (w.heap.size + 2) 0 5 := HT1.out
    have hZs : w.heap.size + 3 ≤ w1.heap.size := by exact hz1
    obtain ⟨W2, hW2⟩ : ∃ W2, W2 = w1 := ⟨_, rfl⟩
    rw [← hW2] at hXs hTs hZs ⊢
    have HTs := hid hTs
    have HXs := hid hXs
    clear hTs hXs b0 b1 b2 b3 b4 z1 f0 n0
    refine (termOwn_any k n a ls _ Ak nk ck W2 (HL.out.ext mono_level HXs.out)).mono ?_
    rintro e w2 ⟨hx2, vl2, rfl, hL2⟩
    obtain ⟨A2, c2, rfl, -⟩ := id hL2
    have HT2 := hid (there_ext hx2 HTs.out)
    have HL2 := hid hL2
    have Hx2 := hid hx2
    have hon := hid (show ∀ v ∈ ([.int .i64 k, .int .i64 n, .int .i64 a, .slice A2 ls.length c2, .slice Ak nk ck] : List Value), v.oneCell' = true from fun u hu => by
      simp only [List.mem_cons, List.not_mem_nil, or_false] at hu
      rcases hu with rfl | rfl | rfl | rfl | rfl <;> rfl)
    clear hL2 hx2
    go_wp2_with ((with_reducible show wpList _ _ _ (⟨_, Op.store 27 _ _, _, _, _, _⟩ :: _) _ _); refine wpList_store_mid (by rfl) 27 _ _ (by rfl) (w.heap.size + 2) 0 #[.int .i64 k, .int .i64 n, .int .i64 a, .slice A2 ls.length c2, .slice Ak nk ck] (by rfl) (by rfl) (by exact HT2.out) hi5 (all_oneCell_toArray hon.out) ?_)
    refine bodyPost_ret (v := .tuple #[.agg #[.int .i64 k, .int .i64 n, .int .i64 a, .slice A2 ls.length c2, .slice Ak nk ck], .bool false]) (results_cell_slot (by rfl) _ _ (w.heap.size + 2) [.int .i64 k, .int .i64 n, .int .i64 a, .slice A2 ls.length c2, .slice Ak nk ck] _ (.bool false) (by rfl) (by rfl) (World.rangeAt_setCells_same _ _ _ _ HT2.out) hu5 (by rfl) hi5) rfl ?_
    refine ⟨Ext.sets (HXs.out.tr Hx2.out) (by omega) _ _, ?_⟩
    show inI (liftN m fr k n b) ∧ ∃ A c, _ = Ending.returned (.tuple #[.agg #[.int .i64 k, .int .i64 (liftN m fr k n b), .int .i64 a, .slice A ls.length c, .slice Ak nk ck], .bool false]) ∧ _
    rw [HE.out]
    refine ⟨by have := HPre.out; unfold liftPre at this; rwa [HE.out] at this, A2, c2, rfl, ?_⟩
    exact HL2.out.sub monoC_level ((frm_sets (by omega) _ _ _).tr (frm_le (by omega) _))
set_option maxRecDepth 100000 in
set_option maxHeartbeats 2000000 in
theorem lift_any (m fr : Int) (t : Term) (cs : List Value) (w : World) (hK : KindsIn w) (hsz : tsize t ≤ 1152921504606846976) (hfit : FitsT (liftPre m fr) 0 t) (hR : RTerm w t cs) :
    Calls Tryd.prog 16 #[.agg cs.toArray, .int .i64 m, .int .i64 fr] w (Gives RTerm (walkT (liftS m fr) 0 t) w) := by
  have hu5 := Tryd.underlying27
  have hi5 : (Tryd.prog.info? 27).map (·.size) = some 5 := by kernel_rfl
  have hmf : ∀ (fn : Fn) (first cap : Array Value) (w : World), (Instr.makeFunc fn first cap).run Tryd.prog w = .ok (.func fn first cap) w := fun _ _ _ _ => rfl
  obtain ⟨vl, vk, rfl, -, ⟨A1, c1, rfl, -⟩, ⟨A2, c2, rfl, -⟩⟩ := rterm_open hR
  have HR := hid hR
  have HF := hid hfit
  obtain ⟨Y, hY⟩ : ∃ Y, Y = walkT (liftS m fr) 0 t := ⟨_, rfl⟩
  rw [← hY]
  have HY := hid hY
  have hxl : Ext w ((((w.alloc (.cells #[.int .i64 t.kind, .int .i64 t.num, .int .i64 t.at_, .slice A1 t.levels.length c1, .slice A2 t.kids.length c2] 27)).alloc (.cells #[.int .i64 m] 3)).alloc (.cells #[.int .i64 fr] 3)).alloc (.cells #[.int .i64 0, .int .i64 0, .int .i64 0, .slice none 0 0, .slice none 0 0] 27)) := ((((Ext.rf _).al _).al _).al _).al _
  have HT0 := hid (show ((((w.alloc (.cells #[.int .i64 t.kind, .int .i64 t.num, .int .i64 t.at_, .slice A1 t.levels.length c1, .slice A2 t.kids.length c2] 27)).alloc (.cells #[.int .i64 m] 3)).alloc (.cells #[.int .i64 fr] 3)).alloc (.cells #[.int .i64 0, .int .i64 0, .int .i64 0, .slice none 0 0, .slice none 0 0] 27)).there (w.heap.size + 3) 0 5 by have := there_fresh (((w.alloc (.cells #[.int .i64 t.kind, .int .i64 t.num, .int .i64 t.at_, .slice A1 t.levels.length c1, .slice A2 t.kids.length c2] 27)).alloc (.cells #[.int .i64 m] 3)).alloc (.cells #[.int .i64 fr] 3)) 27 #[.int .i64 0, .int .i64 0, .int .i64 0, .slice none 0 0, .slice none 0 0] 5 (Nat.le_refl _); simpa using this)
  have HC := hid (fun (Wx : World) (hWx : Wx = ((((w.alloc (.cells #[.int .i64 t.kind, .int .i64 t.num, .int .i64 t.at_, .slice A1 t.levels.length c1, .slice A2 t.kids.length c2] 27)).alloc (.cells #[.int .i64 m] 3)).alloc (.cells #[.int .i64 fr] 3)).alloc (.cells #[.int .i64 0, .int .i64 0, .int .i64 0, .slice none 0 0, .slice none 0 0] 27))) => walkTerm_any 35 #[.pointer (some ⟨w.heap.size + 2, 0, none⟩), .pointer (some ⟨w.heap.size + 1, 0, none⟩)] (liftPre m fr) (liftS m fr) Wx enters_lift1 (lift1_any m fr (w.heap.size + 2) (w.heap.size + 1) Wx (by rw [hWx]; simp [go_sem]) (by rw [hWx]; simp [go_sem])) (by rw [hWx]; exact hK.ext hxl) t 0 [.int .i64 t.kind, .int .i64 t.num, .int .i64 t.at_, .slice A1 t.levels.length c1, .slice A2 t.kids.length c2] Wx (Ext.rf _) ⟨Int.le_refl _, by omega⟩ hfit (by rw [hWx]; exact mono_term _ _ _ _ hxl hR))
  have Hxl := hid hxl
  clear hR hfit hY hxl
  go_enter Tryd.func16, Tryd.ntmps16
  go_wp2_with fail
  refine (HC.out _ rfl).mono ?_
  rintro e w1 ⟨hx1, cs', rfl, hR1⟩
  rw [← HY.out] at hR1
  obtain ⟨_, _, rfl, -, ⟨A3, c3, rfl, -⟩, ⟨A4, c4, rfl, -⟩⟩ := rterm_open hR1
  have HT1 := hid (there_ext hx1 HT0.out)
  have HR1 := hid hR1
  have Hx1 := hid hx1
  clear HT0 hR1 hx1
  have hon := hid (show ∀ v ∈ ([.int .i64 Y.kind, .int .i64 Y.num, .int .i64 Y.at_, .slice A3 Y.levels.length c3, .slice A4 Y.kids.length c4] : List Value), v.oneCell' = true from fun u hu => by
    simp only [List.mem_cons, List.not_mem_nil, or_false] at hu
    rcases hu with rfl | rfl | rfl | rfl | rfl <;> rfl)
  go_wp2_with ((with_reducible show wpList _ _ _ (⟨_, Op.store 27 _ _, _, _, _, _⟩ :: _) _ _); refine wpList_store_mid (by rfl) 27 _ _ (by rfl) (w.heap.size + 3) 0 #[.int .i64 Y.kind, .int .i64 Y.num, .int .i64 Y.at_, .slice A3 Y.levels.length c3, .slice A4 Y.kids.length c4] (by rfl) (by rfl) (by exact HT1.out) hi5 (all_oneCell_toArray hon.out) ?_)
  refine bodyPost_ret (v := .agg #[.int .i64 Y.kind, .int .i64 Y.num, .int .i64 Y.at_, .slice A3 Y.levels.length c3, .slice A4 Y.kids.length c4]) (results_cell_mid (by rfl) _ _ (w.heap.size + 3) [.int .i64 Y.kind, .int .i64 Y.num, .int .i64 Y.at_, .slice A3 Y.levels.length c3, .slice A4 Y.kids.length c4] _ (by rfl) (World.rangeAt_setCells_same _ _ _ _ HT1.out) hu5 (by rfl) hi5) rfl ?_
  refine ⟨Ext.sets (Hxl.out.tr Hx1.out) (by omega) _ _, _, rfl, monoC_term _ _ _ _ ?_ HR1.out⟩
  have hfz : ((((w.alloc (.cells #[.int .i64 t.kind, .int .i64 t.num, .int .i64 t.at_, .slice A1 t.levels.length c1, .slice A2 t.kids.length c2] 27)).alloc (.cells #[.int .i64 m] 3)).alloc (.cells #[.int .i64 fr] 3)).alloc (.cells #[.int .i64 0, .int .i64 0, .int .i64 0, .slice none 0 0, .slice none 0 0] 27)).heap.size = w.heap.size + 4 := by simp
  rw [hfz]
  exact (frm_sets (by omega) _ _ _).tr (frm_le (by omega) _)
/-- Nothing lifted: the term as it is. -/
theorem fits_zero {fr : Int} : ∀ (t : Term) {w : World} {cs : List Value} (b : Int), RTerm w t cs → FitsT (liftPre 0 fr) b t := by
  intro t
  refine Term.ind (P := fun t => ∀ {w : World} {cs : List Value} (b : Int), RTerm w t cs → FitsT (liftPre 0 fr) b t) ?_ t
  intro k n a ls ks ih w cs b h
  obtain ⟨vl, vk, rfl, hi, -, A, c, rfl, -, hb, hk⟩ := rterm_iff.1 h
  refine ⟨?_, fitsK_of fun x hx b' => ?_⟩
  · unfold liftPre liftN
    rw [Int.add_zero, ite_self]
    exact hi.2.1
  · by_cases hne : ks = []
    · subst hne; cases hx
    · obtain ⟨bl, o, _, hel⟩ := hk hne
      obtain ⟨i, hi'⟩ := List.mem_iff_getElem?.1 hx
      obtain ⟨cs, h1, _⟩ := hel i x hi'
      exact ih x hx b' h1
mutual
theorem walk_zero (fr : Int) : ∀ (t : Term) (b : Int), walkT (liftS 0 fr) b t = t
  | .mk k n a ls ks, b => by
    rw [walkT, liftS, liftN]
    simp only [Int.add_zero, ite_self]
    rw [walkK_zero fr k ks b 0]
theorem walkK_zero (fr k : Int) : ∀ (ks : List Term) (b i : Int), walkK (liftS 0 fr) k b i ks = ks
  | [], _, _ => by rw [walkK]
  | t :: ts, b, i => by rw [walkK, walk_zero fr t, walkK_zero fr k ts]
end
/-- A term in memory of its own. -/
theorem lift0_any (fr : Int) (t : Term) (cs : List Value) (w : World) (hK : KindsIn w) (hsz : tsize t ≤ 1152921504606846976) (hR : RTerm w t cs) :
    Calls Tryd.prog 16 #[.agg cs.toArray, .int .i64 0, .int .i64 fr] w (Gives RTerm t w) := by
  have := lift_any 0 fr t cs w hK hsz (fits_zero t 0 hR) hR
  rwa [walk_zero] at this
end Go.Proofs.YtjaklnabidbmiaaDoor

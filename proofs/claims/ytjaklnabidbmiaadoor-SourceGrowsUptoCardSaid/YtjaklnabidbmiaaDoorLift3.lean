/- Walk: package term's walk.term, over any turn. Printed by gen_lift2.py. -/
import Derived.Test.YtjaklnabidbmiaaDoorLift2
import Derived.Test.YtjaklnabidbmiaaDoorOwn2
import Derived.Test.YtjaklnabidbmiaaDoorTwo
namespace Go.Proofs.YtjaklnabidbmiaaDoor
open Go.RowKit
set_option linter.unusedSimpArgs false
set_option linter.unusedVariables false
/-- What becomes of a node: a term in its place, or a number. -/
inductive Turned where
  | over (t : Term)
  | num (n : Int)
mutual
def walkT (σ : Int → Int → Int → Turned) : Int → Term → Term
  | b, .mk k n a ls ks => match σ k n b with
    | .over t => t
    | .num n' => .mk k n' a ls (walkK σ k b 0 ks)
def walkK (σ : Int → Int → Int → Turned) (k : Int) : Int → Int → List Term → List Term
  | _, _, [] => []
  | b, i, t :: ts => walkT σ (b + if binds k i = true then 1 else 0) t :: walkK σ k b (i + 1) ts
end
theorem walkK_len (σ : Int → Int → Int → Turned) (k b : Int) : ∀ (ks : List Term) (i : Int), (walkK σ k b i ks).length = ks.length
  | [], _ => by simp [walkK]
  | t :: ts, i => by simp [walkK, walkK_len σ k b ts (i + 1)]
theorem walkK_get (σ : Int → Int → Int → Turned) (k b : Int) : ∀ (ks : List Term) (i : Int) (j : Nat) (h : j < (walkK σ k b i ks).length) (h' : j < ks.length), (walkK σ k b i ks)[j] = walkT σ (b + if binds k (i + j) = true then 1 else 0) ks[j]
  | [], _, j, h, h' => absurd h' (by simp)
  | t :: ts, i, 0, h, h' => by simp [walkK]
  | t :: ts, i, j + 1, h, h' => by
    have := walkK_get σ k b ts (i + 1) j (by simpa [walkK] using h) (by simpa using h')
    simp only [walkK, List.getElem_cons_succ]
    rw [this]
    simp only [Int.natCast_add, Int.natCast_one]
    rw [show i + 1 + (j : Int) = i + (j + 1) by omega]
mutual
/-- How many nodes. -/
def tsize : Term → Nat
  | .mk _ _ _ _ ks => 1 + tsizes ks
def tsizes : List Term → Nat
  | [] => 0
  | t :: ts => tsize t + tsizes ts
end
mutual
/-- What a turn asks of each node. -/
def FitsT (Pre : Int → Int → Int → Prop) : Int → Term → Prop
  | b, .mk k n _ _ ks => Pre k n b ∧ FitsK Pre k b 0 ks
def FitsK (Pre : Int → Int → Int → Prop) (k : Int) : Int → Int → List Term → Prop
  | _, _, [] => True
  | b, i, t :: ts => FitsT Pre (b + if binds k i = true then 1 else 0) t ∧ FitsK Pre k b (i + 1) ts
end
theorem fitsK_get {Pre : Int → Int → Int → Prop} {k b : Int} : ∀ {ks : List Term} {i : Int}, FitsK Pre k b i ks → ∀ (j : Nat) (h : j < ks.length), FitsT Pre (b + if binds k (i + j) = true then 1 else 0) ks[j]
  | [], _, _, j, h => absurd h (by simp)
  | t :: ts, i, hf, 0, h => by simpa using hf.1
  | t :: ts, i, hf, j + 1, h => by
    have := fitsK_get hf.2 j (by simpa using h)
    simp only [List.getElem_cons_succ, Int.natCast_add, Int.natCast_one]
    rwa [show i + 1 + (j : Int) = i + (j + 1) by omega] at this
theorem fitsK_of {Pre : Int → Int → Int → Prop} {k b : Int} : ∀ {ks : List Term} {i : Int}, (∀ t ∈ ks, ∀ b', FitsT Pre b' t) → FitsK Pre k b i ks
  | [], _, _ => trivial
  | t :: ts, i, h => ⟨h t (List.mem_cons_self ..) _, fitsK_of (fun x hx => h x (List.mem_cons_of_mem _ hx))⟩
theorem tsize_mem : ∀ (ks : List Term) (t : Term), t ∈ ks → tsize t ≤ tsizes ks
  | [], _, h => nomatch h
  | x :: xs, t, h => by
    rw [tsizes]
    rcases List.mem_cons.1 h with rfl | h
    · omega
    · have := tsize_mem xs t h; omega
theorem tsize_pos : ∀ t : Term, 1 ≤ tsize t
  | .mk _ _ _ _ ks => by rw [tsize]; omega
/-- What a turn owes. -/
def TurnPost (t : Turned) (k a : Int) (ls : List Level) (vk : Value) (w : World) (e : Ending) (w' : World) : Prop := Ext w w' ∧ match t with
    | .over u => ∃ cs : List Value, e = .returned (.tuple #[.agg cs.toArray, .bool true]) ∧ RTerm (frm w.heap.size w') u cs
    | .num n' => inI n' ∧ ∃ A c, e = .returned (.tuple #[.agg #[.int .i64 k, .int .i64 n', .int .i64 a, .slice A ls.length c, vk], .bool false]) ∧ SlLevel (frm w.heap.size w') ls (.slice A ls.length c)
def TurnOk (K : Nat) (caps : Array Value) (Pre : Int → Int → Int → Prop) (σ : Int → Int → Int → Turned) (w0 : World) : Prop :=
  ∀ (b k n a : Int) (ls : List Level) (vl : Value) (Ak : Option Addr) (nk ck : Nat) (w : World), Ext w0 w → (0 ≤ b ∧ b ≤ 1152921504606846976) → (inI k ∧ inI n ∧ inI a) → Pre k n b → SlLevel w ls vl →
    Calls Tryd.prog K (#[.agg #[.int .i64 b, .func (.func K) #[] caps], .agg #[.int .i64 k, .int .i64 n, .int .i64 a, vl, .slice Ak nk ck]] ++ caps) w (TurnPost (σ k n b) k a ls (.slice Ak nk ck) w)
def WalkP (K : Nat) (caps : Array Value) (Pre : Int → Int → Int → Prop) (σ : Int → Int → Int → Turned) (w0 : World) (t : Term) : Prop :=
  ∀ (b : Int) (cs : List Value) (w : World), Ext w0 w → (0 ≤ b ∧ b + tsize t ≤ 1152921504606846976) → FitsT Pre b t → RTerm w t cs → Calls Tryd.prog 38 #[.agg #[.int .i64 b, .func (.func K) #[] caps], .agg cs.toArray] w (Gives RTerm (walkT σ b t) w)
theorem turned_over {t : Turned} {u : Term} (h : t = .over u) {k a : Int} {ls : List Level} {vk : Value} {w w' : World} {e : Ending} (hp : TurnPost t k a ls vk w e w') : Ext w w' ∧ ∃ cs : List Value, e = .returned (.tuple #[.agg cs.toArray, .bool true]) ∧ RTerm (frm w.heap.size w') u cs := by subst h; exact hp
theorem turned_num {t : Turned} {n' : Int} (h : t = .num n') {k a : Int} {ls : List Level} {vk : Value} {w w' : World} {e : Ending} (hp : TurnPost t k a ls vk w e w') : Ext w w' ∧ inI n' ∧ ∃ A c, e = .returned (.tuple #[.agg #[.int .i64 k, .int .i64 n', .int .i64 a, .slice A ls.length c, vk], .bool false]) ∧ SlLevel (frm w.heap.size w') ls (.slice A ls.length c) := by subst h; exact hp
theorem walkT_over {σ : Int → Int → Int → Turned} {k n a b : Int} {ls : List Level} {ks : List Term} {u : Term} (h : σ k n b = .over u) : walkT σ b (.mk k n a ls ks) = u := by rw [walkT, h]
theorem walkT_num {σ : Int → Int → Int → Turned} {k n a b n' : Int} {ls : List Level} {ks : List Term} (h : σ k n b = .num n') : walkT σ b (.mk k n a ls ks) = .mk k n' a ls (walkK σ k b 0 ks) := by rw [walkT, h]
set_option maxRecDepth 100000 in
set_option maxHeartbeats 4000000 in
theorem walkTerm_step (Kf : Nat) (caps : Array Value) (Pre : Int → Int → Int → Prop) (σ : Int → Int → Int → Turned) (w0 : World) (hEn : Enters Kf) (hT : TurnOk Kf caps Pre σ w0) (hK0 : KindsIn w0) (k n a : Int) (ls : List Level) (ks : List Term) (ih : ∀ t ∈ ks, WalkP Kf caps Pre σ w0 t) : WalkP Kf caps Pre σ w0 (.mk k n a ls ks) := by
  intro b cs w hx0 hb hfit hR
  have hu5 := Tryd.underlying27
  have hi5 : (Tryd.prog.info? 27).map (·.size) = some 5 := by kernel_rfl
  obtain ⟨vl, vk, rfl, hin, hl, hs⟩ := rterm_iff.1 hR
  obtain ⟨Al, cl, rfl, -⟩ := id hl
  obtain ⟨Ak, ck, rfl, hck, hr⟩ := hs
  have hlen := hr.len_le
  have hlim := hid hr.1
  have hEn' := hEn.out
  have hsz : ∀ t ∈ ks, (tsize t : Int) + 1 ≤ tsize (.mk k n a ls ks) := fun t ht => by have := tsize_mem ks t ht; rw [tsize]; omega
  have hpos := tsize_pos (.mk k n a ls ks)
  have HSZ := hid hsz
  have HB := hid hb
  have HIN := hid hin
  have HTu := hid (hT b k n a ls (.slice Al ls.length cl) Ak ks.length ck)
  have IH := hid ih
  rw [FitsT] at hfit
  have HFit := hid hfit
  have HT0 := hid (show (((w.alloc (.cells #[.int .i64 b, .func (.func Kf) #[] caps] 70)).alloc (.cells #[.int .i64 k, .int .i64 n, .int .i64 a, .slice Al ls.length cl, .slice Ak ks.length ck] 27)).alloc (.cells #[.int .i64 0, .int .i64 0, .int .i64 0, .slice none 0 0, .slice none 0 0] 27)).there (w.heap.size + 2) 0 5 by have := there_fresh ((w.alloc (.cells #[.int .i64 b, .func (.func Kf) #[] caps] 70)).alloc (.cells #[.int .i64 k, .int .i64 n, .int .i64 a, .slice Al ls.length cl, .slice Ak ks.length ck] 27)) 27 #[.int .i64 0, .int .i64 0, .int .i64 0, .slice none 0 0, .slice none 0 0] 5 (Nat.le_refl _); simpa using this)
  have hb1 : 0 ≤ b := hb.1
  have hbm : b ≤ 1152921504606846976 := by omega
  clear hR hT hsz hb hin ih hfit
  go_enter Tryd.func38, Tryd.ntmps38
  go_wp2_with fail
  refine (HTu.out _ (hx0.tr ((((Ext.rf _).al _).al _).al _)) ⟨hb1, hbm⟩ HIN.out HFit.out.1 (hl.ext mono_level ((((Ext.rf _).al _).al _).al _))).mono ?_
  intro e w1 hp
  have hr0 : ∀ j v, [.int .i64 b, .func (.func Kf) #[] caps][j]? = some v → w.cell? ⟨w.heap.size, j, none⟩ = some v ∨ True := fun _ _ _ => .inr trivial
  cases hσ : σ k n b with
  | over u =>
    obtain ⟨hx1, cs', rfl, hRu⟩ := turned_over hσ hp
    obtain ⟨vl1, vk1, rfl, -, ⟨A1, c1, rfl, -⟩, ⟨A2, c2, rfl, -⟩⟩ := rterm_open hRu
    have HRu := hid hRu
    have Hx1 := hid hx1
    have HT1 := hid (there_ext (hx1.al (.cells #[.int .i64 u.kind, .int .i64 u.num, .int .i64 u.at_, .slice A1 u.levels.length c1, .slice A2 u.kids.length c2] 27)) (there_ext (Ext.rf _) HT0.out))
    clear hRu hx1 HT0 hp
    have hon := hid (show ∀ v ∈ ([.int .i64 u.kind, .int .i64 u.num, .int .i64 u.at_, .slice A1 u.levels.length c1, .slice A2 u.kids.length c2] : List Value), v.oneCell' = true from fun u hu => by
      simp only [List.mem_cons, List.not_mem_nil, or_false] at hu
      rcases hu with rfl | rfl | rfl | rfl | rfl <;> rfl)
    go_wp2_with ((with_reducible show wpList _ _ _ (⟨_, Op.store 27 _ _, _, _, _, _⟩ :: _) _ _); refine wpList_store_mid (by rfl) 27 _ _ (by rfl) (w.heap.size + 2) 0 #[.int .i64 u.kind, .int .i64 u.num, .int .i64 u.at_, .slice A1 u.levels.length c1, .slice A2 u.kids.length c2] (by rfl) (by rfl) (by exact HT1.out) hi5 (all_oneCell_toArray hon.out) ?_)
    refine bodyPost_ret (v := .agg #[.int .i64 u.kind, .int .i64 u.num, .int .i64 u.at_, .slice A1 u.levels.length c1, .slice A2 u.kids.length c2]) (results_cell_mid (by rfl) _ _ (w.heap.size + 2) [.int .i64 u.kind, .int .i64 u.num, .int .i64 u.at_, .slice A1 u.levels.length c1, .slice A2 u.kids.length c2] _ (by rfl) (World.rangeAt_setCells_same _ _ _ _ HT1.out) hu5 (by rfl) hi5) rfl ?_
    refine ⟨Ext.sets (Ext.al (((((Ext.rf _).al _).al _).al _).tr Hx1.out) _) (by omega) _ _, _, rfl, ?_⟩
    rw [walkT_over hσ]
    refine monoC_term _ _ _ _ ?_ HRu.out
    have hfz : ((((w.alloc (.cells #[.int .i64 b, .func (.func Kf) #[] caps] 70)).alloc (.cells #[.int .i64 k, .int .i64 n, .int .i64 a, .slice Al ls.length cl, .slice Ak ks.length ck] 27)).alloc (.cells #[.int .i64 0, .int .i64 0, .int .i64 0, .slice none 0 0, .slice none 0 0] 27))).heap.size = w.heap.size + 3 := by simp
    rw [hfz]
    exact ((frm_ext _ ((Ext.rf _).al _)).tr (frm_sets (by omega) _ _ _)).tr (frm_le (by omega) _)
  | num n2 =>
    obtain ⟨hx1, hn2, A1, c1, rfl, hL1⟩ := turned_num hσ hp
    have HL1 := hid hL1
    have Hx1 := hid hx1
    clear hL1 hx1 hp
    have q0 : w1.cell? ⟨w.heap.size, 0, none⟩ = some (.int .i64 b) := Hx1.out.cell (by simp [go_sem])
    have q1 : w1.cell? ⟨w.heap.size, 1, none⟩ = some (.func (.func Kf) #[] caps) := Hx1.out.cell (by simp [go_sem])
    have p0 : w1.cell? ⟨w.heap.size + 1, 0, none⟩ = some (.int .i64 k) := Hx1.out.cell (by simp [go_sem])
    have TH1 := hid (there_ext Hx1.out HT0.out)
    have X1 := hid (((((Ext.rf w).al _).al _).al _).tr Hx1.out)
    clear HT0
    go_wp2_with fail
    have hc5 : cellsAt (w1.alloc (.cells #[.int .i64 k, .int .i64 n2, .int .i64 a, .slice A1 ls.length c1, .slice none 0 0] 27)) w1.heap.size 0 [.int .i64 k, .int .i64 n2, .int .i64 a, .slice A1 ls.length c1, .slice none 0 0] := cells5o (by simp [go_sem]) (by simp [go_sem]) (by simp [go_sem]) (by simp [go_sem]) (by simp [go_sem])
    have ht5 : (w1.alloc (.cells #[.int .i64 k, .int .i64 n2, .int .i64 a, .slice A1 ls.length c1, .slice none 0 0] 27)).there w1.heap.size 0 5 := there_fresh w1 _ _ 5 (Nat.le_refl _)
    have hx5 : Ext w1 (w1.alloc (.cells #[.int .i64 k, .int .i64 n2, .int .i64 a, .slice A1 ls.length c1, .slice none 0 0] 27)) := (Ext.rf _).al _
    have hz5 : w1.heap.size < (w1.alloc (.cells #[.int .i64 k, .int .i64 n2, .int .i64 a, .slice A1 ls.length c1, .slice none 0 0] 27)).heap.size := by simp
    have hz1 : w.heap.size + 3 ≤ w1.heap.size := by have := Hx1.out.size; simpa using this
    generalize w1.alloc (.cells #[.int .i64 k, .int .i64 n2, .int .i64 a, .slice A1 ls.length c1, .slice none 0 0] 27) = W2 at hc5 ht5 hx5 hz5 ⊢
    generalize hg5 : w1.heap.size = g5 at hc5 ht5 hz5 hz1 ⊢
    go_loopw [25] (fun i wr => ∃ (j : Nat) (vo : Value), j ≤ ks.length ∧ i = .int .i64 j ∧ Ext w1 wr ∧ cellsAt wr g5 0 [.int .i64 k, .int .i64 n2, .int .i64 a, .slice A1 ls.length c1, vo] ∧ wr.there g5 0 5 ∧ g5 < wr.heap.size ∧ OwnS RTerm 5 27 (g5 + 1) (g5 + 1) wr ((walkK σ k b 0 ks).take j) vo) (fun i _ => ks.length - (intOf i).toNat)
    case atStart => exact ⟨0, _, by omega, rfl, hx5, hc5, ht5, hz5, OwnS.nil⟩
    case round =>
      obtain ⟨j, vo, hj, rfl, hxr, hcr, htr, hzr, hown⟩ := hrel
      obtain ⟨wr, rfl⟩ := ext_name2 hxr
      obtain ⟨Ao, co, rfl, hco⟩ := hown.val
      have hlo : ((walkK σ k b 0 ks).take j).length = j := by rw [List.length_take, walkK_len]; omega
      rw [hlo] at hcr hown
      by_cases hlt : j < ks.length
      · obtain ⟨bk, ok, cs, rfl, hRj, hcs0⟩ := hr.at_ hlt
        obtain ⟨vlj, vkj, rfl, -, ⟨A3, c3, rfl, -⟩, ⟨A4, c4, rfl, -⟩⟩ := rterm_open hRj
        have hcs := hcs0.ext (X1.out.tr hxr)
        have e0 := hcs.at0
        have e1 := hcs.at1
        have e2 := hcs.at2
        have e3 := hcs.at3
        have e4 := hcs.at4
        have hjI : (j : Int) < ks.length := by omega
        have r0 := hxr.cell q0
        have r1 := hxr.cell q1
        have s0 := hxr.cell p0
        have c54 : wr.cell? ⟨g5, 4, none⟩ = some (.slice Ao j co) := by simpa using hcr.pick 4 rfl
        have hRj' := hid (mono_term _ _ _ _ (X1.out.tr hxr) hRj)
        have Hxr := hid hxr
        have Hcr := hid hcr
        have Htr := hid htr
        have Hown := hid hown
        have hlo' := hid hlo
        clear hxr hcr htr hown hlo hcs0 hcs hRj hc5 ht5 hx5 q0 q1 p0 hco
        go_upto_region 9 with fail
        clear e0 e1 e2 e3 e4
        have hxm : Ext wr (wr.alloc (.cells #[.int .i64 ks[j].kind, .int .i64 ks[j].num, .int .i64 ks[j].at_, .slice A3 ks[j].levels.length c3, .slice A4 ks[j].kids.length c4] 27)) := (Ext.rf _).al _
        have hcm : cellsAt (wr.alloc (.cells #[.int .i64 ks[j].kind, .int .i64 ks[j].num, .int .i64 ks[j].at_, .slice A3 ks[j].levels.length c3, .slice A4 ks[j].kids.length c4] 27)) wr.heap.size 0 [.int .i64 ks[j].kind, .int .i64 ks[j].num, .int .i64 ks[j].at_, .slice A3 ks[j].levels.length c3, .slice A4 ks[j].kids.length c4] := cells5o (by simp [go_sem]) (by simp [go_sem]) (by simp [go_sem]) (by simp [go_sem]) (by simp [go_sem])
        generalize hWm : (wr.alloc (.cells #[.int .i64 ks[j].kind, .int .i64 ks[j].num, .int .i64 ks[j].at_, .slice A3 ks[j].levels.length c3, .slice A4 ks[j].kids.length c4] 27)) = Wm at hxm hcm ⊢
        obtain ⟨g9, hg9⟩ : ∃ g, g = wr.heap.size := ⟨_, rfl⟩
        rw [← hg9] at hcm ⊢
        obtain ⟨b2, hb2⟩ : ∃ x, x = b + if binds k j = true then 1 else 0 := ⟨_, rfl⟩
        obtain ⟨Y, hY⟩ : ∃ Y, Y = walkT σ b2 ks[j] := ⟨_, rfl⟩
        have hbb2 : 0 ≤ b2 ∧ b2 + tsize ks[j] ≤ 1152921504606846976 := by have h1 := HSZ.out ks[j] (List.getElem_mem hlt); have h2 := HB.out; rw [hb2]; split <;> omega
        have hTk : (walkK σ k b 0 ks).take j ++ [Y] = (walkK σ k b 0 ks).take (j + 1) := by rw [← take_snoc (by rw [walkK_len]; exact hlt), walkK_get σ k b ks 0 j (by rw [walkK_len]; exact hlt) hlt, hY, hb2, Int.zero_add]
        have HTk := hid hTk
        have HF2 := hid (show FitsT Pre b2 ks[j] by have := fitsK_get HFit.out.2 j hlt; rw [Int.zero_add] at this; rw [hb2]; exact this)
        have HB2 := hid hbb2
        have HYe := hid hY
        have HXM := hid (hx0.tr ((X1.out.tr Hxr.out).tr hxm))
        have HX1m := hid (Hxr.out.tr hxm)
        have HCM := hid hcm
        have HRm := hid (mono_term _ _ _ _ hxm hRj'.out)
        have HOm := hid (Hown.out.ext monoC_term hxm)
        have HTm := hid (there_ext hxm Htr.out)
        have HC5m := hid (Hcr.out.ext hxm)
        have c54m := hxm.cell c54
        have r0m := hxm.cell r0
        have r1m := hxm.cell r1
        have s0m := hxm.cell s0
        have hlim2 := hid (show ((walkK σ k b 0 ks).take j).length * 72 + 72 ≤ LIM by have := hlim.out; have h2 := hlo'.out; rw [h2]; omega)
        obtain ⟨m, hm⟩ : ∃ m, m = Wm.heap.size := ⟨_, rfl⟩
        have hgm : g5 < m := by have := hxm.size; omega
        have hKm := hid (hK0.ext HXM.out)
        have HB2e := hid hb2
        clear hY hb2 hbb2 hTk hcm hWm c54 r0 r1 s0 hg9 Hown Htr Hcr hRj'
        refine wp_region_two (fun s W v => match s with | 30 => v = .pointer (some ⟨g5, 4, none⟩) | 31 => v = .slice Ao j co | 32 => v = .agg #[.int .i64 b, .func (.func Kf) #[] caps] | 33 => v = .pointer (some ⟨w.heap.size + 1, 0, none⟩) | 34 => v = .int .i64 k | 35 => v = .int .i64 j | 36 => v = .agg #[.int .i64 b2, .func (.func Kf) #[] caps] | 37 => v = .agg #[.int .i64 ks[j].kind, .int .i64 ks[j].num, .int .i64 ks[j].at_, .slice A3 ks[j].levels.length c3, .slice A4 ks[j].kids.length c4] | 38 => ∃ A5 c5 A6 c6, v = .agg #[.int .i64 Y.kind, .int .i64 Y.num, .int .i64 Y.at_, .slice A5 Y.levels.length c5, .slice A6 Y.kids.length c6] ∧ RTerm (frm m W) Y [.int .i64 Y.kind, .int .i64 Y.num, .int .i64 Y.at_, .slice A5 Y.levels.length c5, .slice A6 Y.kids.length c6] | 39 => ∃ g A5 c5 A6 c6, v = .slice (some ⟨g, 0, none⟩) 1 1 ∧ RTerm (frm m W) Y [.int .i64 Y.kind, .int .i64 Y.num, .int .i64 Y.at_, .slice A5 Y.levels.length c5, .slice A6 Y.kids.length c6] ∧ cellsAt W g 0 [.int .i64 Y.kind, .int .i64 Y.num, .int .i64 Y.at_, .slice A5 Y.levels.length c5, .slice A6 Y.kids.length c6] | 41 => v = .pointer (some ⟨g5, 4, none⟩) | _ => True) (fun W v => OwnS RTerm 5 27 (g5 + 1) (g5 + 1) W ((walkK σ k b 0 ks).take (j + 1)) v ∧ Ext w1 W ∧ cellsAt W g5 0 [.int .i64 k, .int .i64 n2, .int .i64 a, .slice A1 ls.length c1, .slice Ao j co] ∧ W.there g5 0 5 ∧ g5 < W.heap.size) 12 10 40 [11] [true, true, true, true, true, true, true, true, true, true, false, false, false] _ _ (by kernel_rfl) (by kernel_rfl) (by kernel_rfl) (by rfl) rfl rfl (by rfl) rfl rfl (by omega) (by decide) (by kernel_rfl) (by kernel_rfl) (by kernel_rfl) (of_decide_eq_true (by kernel_rfl)) (by kernel_rfl) (by intro s W W' v hx h; revert h; split <;> first | exact id | exact fun ⟨A5, c5, A6, c6, e, hr⟩ => ⟨A5, c5, A6, c6, e, monoC_term _ _ _ _ (frm_ext _ hx) hr⟩ | exact fun ⟨g, A5, c5, A6, c6, e, hr, hc⟩ => ⟨g, A5, c5, A6, c6, e, monoC_term _ _ _ _ (frm_ext _ hx) hr, hc.ext hx⟩) (by intro i hi o d ho hd; simp only [List.mem_cons, List.not_mem_nil, or_false] at hi; rcases hi with rfl <;> (have e := Option.some.inj ho; subst e; have e2 := Option.some.inj hd; subst e2; exact fun _ _ _ h => h)) (by intro i hi o ho; simp only [List.mem_cons, List.not_mem_nil, or_false] at hi; rcases hi with rfl <;> (have e := Option.some.inj ho; subst e; rfl)) ?_ ?_ ?_ ?_
        · refine ⟨?_, ?_, ?_, ?_, ?_, ?_, ?_, ?_, ?_, ?_, trivial⟩
          · intro a W hx hdf hsz hg hi K hK
            refine step_free rfl ?_
            have t5 : a.tmps.getD 5 undef = .pointer (some ⟨g5, 0, none⟩) := hi 5 (by kernel_rfl)
            have u5 := t5
            rw [Array.getD_eq_getD_getElem?] at u5
            simp [Oper.wp, Oper.upon, execOp, Act.eval, go_sem, t5, u5, hjI]
            exact hK _ _ (Ext.rf _) (fun d' h => by cases h; exact rfl)
          · intro a W hx hdf hsz hg hi K hK
            refine step_free rfl ?_
            have t30 : a.tmps.getD 30 undef = .pointer (some ⟨g5, 4, none⟩) := hg 30 (by kernel_rfl)
            have u30 := t30
            rw [Array.getD_eq_getD_getElem?] at u30
            have q := hx.cell c54m
            simp [Oper.wp, Oper.upon, execOp, Act.eval, go_sem, t30, u30, q]
            exact hK _ _ (Ext.rf _) (fun d' h => by cases h; exact rfl)
          · intro a W hx hdf hsz hg hi K hK
            refine step_free rfl ?_
            have t2 : a.tmps.getD 2 undef = .pointer (some ⟨w.heap.size, 0, none⟩) := hi 2 (by kernel_rfl)
            have u2 := t2
            rw [Array.getD_eq_getD_getElem?] at u2
            have q0 := hx.cell r0m
            have q1 := hx.cell r1m
            simp [Oper.wp, Oper.upon, execOp, Act.eval, go_sem, t2, u2, q0, q1]
            exact hK _ _ (Ext.rf _) (fun d' h => by cases h; exact rfl)
          · intro a W hx hdf hsz hg hi K hK
            refine step_free rfl ?_
            have t3 : a.tmps.getD 3 undef = .pointer (some ⟨w.heap.size + 1, 0, none⟩) := hi 3 (by kernel_rfl)
            have u3 := t3
            rw [Array.getD_eq_getD_getElem?] at u3
            simp [Oper.wp, Oper.upon, execOp, Act.eval, go_sem, t3, u3, hjI]
            exact hK _ _ (Ext.rf _) (fun d' h => by cases h; exact rfl)
          · intro a W hx hdf hsz hg hi K hK
            refine step_free rfl ?_
            have t33 : a.tmps.getD 33 undef = .pointer (some ⟨w.heap.size + 1, 0, none⟩) := hg 33 (by kernel_rfl)
            have u33 := t33
            rw [Array.getD_eq_getD_getElem?] at u33
            have q := hx.cell s0m
            simp [Oper.wp, Oper.upon, execOp, Act.eval, go_sem, t33, u33, q]
            exact hK _ _ (Ext.rf _) (fun d' h => by cases h; exact rfl)
          · intro a W hx hdf hsz hg hi K hK
            refine step_free rfl ?_
            have t8 : a.tmps.getD 8 undef = .int .i64 j := hi 8 (by kernel_rfl)
            have u8 := t8
            rw [Array.getD_eq_getD_getElem?] at u8
            simp [Oper.wp, Oper.upon, execOp, Act.eval, go_sem, t8, u8, hjI]
            exact hK _ _ (Ext.rf _) (fun d' h => by cases h; exact rfl)
          · intro a W hx hdf hsz hg hi K hK
            refine step_free rfl ?_
            have t32 : a.tmps.getD 32 undef = .agg #[.int .i64 b, .func (.func Kf) #[] caps] := hg 32 (by kernel_rfl)
            have t34 : a.tmps.getD 34 undef = .int .i64 k := hg 34 (by kernel_rfl)
            have t35 : a.tmps.getD 35 undef = .int .i64 j := hg 35 (by kernel_rfl)
            have u32 := t32
            rw [Array.getD_eq_getD_getElem?] at u32
            have u34 := t34
            rw [Array.getD_eq_getD_getElem?] at u34
            have u35 := t35
            rw [Array.getD_eq_getD_getElem?] at u35
            simp [Oper.wp, Oper.upon, execOp, Act.eval, go_sem, t32, u32, t34, u34, t35, u35]
            have hb9 := HB2e.out
            refine (below_any b k j Kf caps _ (hKm.out.ext hx) ⟨hb1, hbm⟩).mono ?_
            rintro e w' ⟨hb, rfl⟩
            rw [← hb9]
            exact hK _ _ hb (fun d' h => by cases h; exact rfl)
          · intro a W hx hdf hsz hg hi K hK
            refine step_free rfl ?_
            have t9 : a.tmps.getD 9 undef = .pointer (some ⟨g9, 0, none⟩) := hi 9 (by kernel_rfl)
            have u9 := t9
            rw [Array.getD_eq_getD_getElem?] at u9
            refine wp_load_mid 27 (.tmp 9) rfl g9 0 t9 [.int .i64 ks[j].kind, .int .i64 ks[j].num, .int .i64 ks[j].at_, .slice A3 ks[j].levels.length c3, .slice A4 ks[j].kids.length c4] _ (HCM.out.ext hx) hu5 rfl hi5 ?_
            exact hK _ _ (Ext.rf _) (fun d' h => by cases h; exact rfl)
          · intro a W hx hdf hsz hg hi K hK
            refine step_free rfl ?_
            have t36 : a.tmps.getD 36 undef = .agg #[.int .i64 b2, .func (.func Kf) #[] caps] := hg 36 (by kernel_rfl)
            have t37 : a.tmps.getD 37 undef = .agg #[.int .i64 ks[j].kind, .int .i64 ks[j].num, .int .i64 ks[j].at_, .slice A3 ks[j].levels.length c3, .slice A4 ks[j].kids.length c4] := hg 37 (by kernel_rfl)
            have u36 := t36
            rw [Array.getD_eq_getD_getElem?] at u36
            have u37 := t37
            rw [Array.getD_eq_getD_getElem?] at u37
            simp [Oper.wp, Oper.upon, execOp, Act.eval, go_sem, t36, u36, t37, u37]
            refine (IH.out ks[j] (List.getElem_mem hlt) b2 [.int .i64 ks[j].kind, .int .i64 ks[j].num, .int .i64 ks[j].at_, .slice A3 ks[j].levels.length c3, .slice A4 ks[j].kids.length c4] _ (HXM.out.tr hx) HB2.out HF2.out (mono_term _ _ _ _ hx HRm.out)).mono ?_
            rintro e w' ⟨hb, cs', rfl, hR⟩
            rw [← HYe.out] at hR
            obtain ⟨_, _, rfl, -, ⟨A5, c5, rfl, -⟩, ⟨A6, c6, rfl, -⟩⟩ := rterm_open hR
            exact hK _ _ hb (fun d' h => by cases h; exact ⟨A5, c5, A6, c6, rfl, monoC_term _ _ _ _ (frm_le (by have := hx.size; omega) _) hR⟩)
          · intro a W hx hdf hsz hg hi K hK
            refine step_free rfl ?_
            obtain ⟨A5, c5, A6, c6, t38, hRy⟩ := (show ∃ A5 c5 A6 c6, a.tmps.getD 38 undef = .agg #[.int .i64 Y.kind, .int .i64 Y.num, .int .i64 Y.at_, .slice A5 Y.levels.length c5, .slice A6 Y.kids.length c6] ∧ RTerm (frm m W) Y [.int .i64 Y.kind, .int .i64 Y.num, .int .i64 Y.at_, .slice A5 Y.levels.length c5, .slice A6 Y.kids.length c6] from hg 38 (by kernel_rfl))
            have u38 := t38
            rw [Array.getD_eq_getD_getElem?] at u38
            simp [Oper.wp, Oper.upon, execOp, Act.eval, go_sem, t38, u38]
            exact hK _ _ ((Ext.rf _).al _) (fun d' h => by cases h; exact ⟨_, A5, c5, A6, c6, rfl, monoC_term _ _ _ _ (frm_ext _ ((Ext.rf _).al _)) hRy, cells5o (by simp [go_sem]) (by simp [go_sem]) (by simp [go_sem]) (by simp [go_sem]) (by simp [go_sem])⟩)
        · intro i hi o ho a W hsz hi9 K hK
          simp only [List.mem_cons, List.not_mem_nil, or_false] at hi
          rcases hi with rfl
          · have e := Option.some.inj ho
            subst e
            have t5 : a.tmps.getD 5 undef = .pointer (some ⟨g5, 0, none⟩) := hi9 5 (by kernel_rfl)
            have u5 := t5
            rw [Array.getD_eq_getD_getElem?] at u5
            simp [Oper.wp, Oper.upon, execOp, Act.eval, go_sem, t5, u5, hjI]
            exact hK _ (fun d' h => by cases h; exact rfl)
        · intro a W hx hdf hsz hg hi K hK
          have t31 : a.tmps.getD 31 undef = .slice Ao j co := hg 31 (by kernel_rfl)
          have u31 := t31
          rw [Array.getD_eq_getD_getElem?] at u31
          obtain ⟨gb, A5, c5, A6, c6, t39, hRy, hcy⟩ := (show ∃ g A5 c5 A6 c6, a.tmps.getD 39 undef = .slice (some ⟨g, 0, none⟩) 1 1 ∧ RTerm (frm m W) Y [.int .i64 Y.kind, .int .i64 Y.num, .int .i64 Y.at_, .slice A5 Y.levels.length c5, .slice A6 Y.kids.length c6] ∧ cellsAt W g 0 [.int .i64 Y.kind, .int .i64 Y.num, .int .i64 Y.at_, .slice A5 Y.levels.length c5, .slice A6 Y.kids.length c6] from hg 39 (by kernel_rfl))
          obtain ⟨i0, hi0, hz0, hz1, hz2⟩ := info_parts info_term
          have hOx := HOm.out.ext monoC_term hx
          refine wp_append_one monoC_term (.tmp 31) (.tmp 39) 25 rfl 27 i0 _ Tryd.underlying25 hi0 hz0 hz1 hz2 rfl (by decide) t31 hOx gb 1 Y [.int .i64 Y.kind, .int .i64 Y.num, .int .i64 Y.at_, .slice A5 Y.levels.length c5, .slice A6 Y.kids.length c6] m t39 hcy rfl (by intro u hu; simp only [List.mem_cons, List.not_mem_nil, or_false] at hu; rcases hu with rfl | rfl | rfl | rfl | rfl <;> rfl) hRy (by omega) (fun k' hk' => by have := (HOm.out.lt k' hk').2; omega) (by have := hlim2.out; omega) (by omega) (by have := hx.size; omega) (fun v' w' hO hgr => hK _ _ ⟨?_, ?_, ?_, ?_, ?_⟩)
          · rw [← HTk.out]; exact hO
          · exact grown_ext (HX1m.out.tr hx) hgr (fun k' hk' => by have := (hOx.lt k' hk').1; omega)
          · exact grown_cells hgr (fun e => by have := (hOx.lt g5 e).1; omega) (HC5m.out.ext hx)
          · exact grown_there hgr (fun e => by have := (hOx.lt g5 e).1; omega) (there_ext hx HTm.out)
          · have h1 := hx.size; have h2 := hgr.size; omega
        · rintro ⟨T3, D3⟩ W hdf hsz0 hT9 hg hi
          have t41 : T3.getD 41 undef = .pointer (some ⟨g5, 4, none⟩) := hg 11 (by simp) _ 41 rfl rfl
          obtain ⟨v40, t40⟩ : ∃ v, T3.getD 40 undef = v := ⟨_, rfl⟩
          obtain ⟨hO, hx9, hc9, ht9, hz9⟩ := (show OwnS RTerm 5 27 (g5 + 1) (g5 + 1) W ((walkK σ k b 0 ks).take (j + 1)) v40 ∧ Ext w1 W ∧ cellsAt W g5 0 [.int .i64 k, .int .i64 n2, .int .i64 a, .slice A1 ls.length c1, .slice Ao j co] ∧ W.there g5 0 5 ∧ g5 < W.heap.size from t40 ▸ hT9)
          obtain ⟨A9, c9, rfl, -⟩ := hO.val
          have hl9 : ((walkK σ k b 0 ks).take (j + 1)).length = j + 1 := by rw [List.length_take, walkK_len]; omega
          rw [hl9] at hO t40
          have q9 : W.cell? ⟨g5, 4, none⟩ = some (.slice Ao j co) := by simpa using hc9.pick 4 rfl
          have z9 := (ht9 4 (by omega)).2
          rw [Nat.zero_add] at z9
          have HO := hid hO
          have Hx9 := hid hx9
          have Hc9 := hid hc9
          have Ht9 := hid ht9
          clear hO hx9 hc9 ht9 hT9
          obtain ⟨f', hf', hT⟩ := frame_mix [false, false, false, false, false, false, false, false, false, false, false, false, false, false, false, false, false, false, false, false, false, false, false, false, false, false, false, false, false, false, true, true, true, true, true, true, true, true, true, true, true, true, false, false] (dstsOfOps _) T3 _ 44 (by rfl) hsz0 (by kernel_rfl) hi
          have g40 := (hf' 40).symm.trans t40
          have g41 := (hf' 41).symm.trans t41
          have hD : D3 = [] := hdf
          clear hf' hi hg hsz0 hdf
          subst hT hD
          simp only [List.toList_toArray, mix, Nat.reduceAdd, g40, g41]
          simp [Oper.wp, Oper.upon, execOp, Act.eval, go_sem, q9, z9]
          have hx10 := Hx9.out.st (p := ⟨g5, 4, none⟩) (by show w1.heap.size ≤ g5; omega) (.slice A9 (j + 1) c9)
          have hc10 : cellsAt (W.setCell ⟨g5, 4, none⟩ (.slice A9 (j + 1) c9)) g5 0 [.int .i64 k, .int .i64 n2, .int .i64 a, .slice A1 ls.length c1, .slice A9 (j + 1) c9] := by
            have := cells_set1 (j := 4) (v := .slice A9 (j + 1) c9) Hc9.out (by simp)
            simpa using this
          have ht10 : (W.setCell ⟨g5, 4, none⟩ (.slice A9 (j + 1) c9)).there g5 0 5 := World.there_setCells Ht9.out g5 4 [.slice A9 (j + 1) c9]
          have hz10 : g5 < (W.setCell ⟨g5, 4, none⟩ (.slice A9 (j + 1) c9)).heap.size := by simpa [World.setCell] using hz9
          have ho10 := HO.out.low (k := 4) (u := .slice A9 (j + 1) c9) monoC_term (show g5 < g5 + 1 by omega) (show g5 < g5 + 1 by omega)
          generalize W.setCell ⟨g5, 4, none⟩ (.slice A9 (j + 1) c9) = W9 at hx10 hc10 ht10 hz10 ho10 ⊢
          clear q9 z9 HO Hx9 Hc9 Ht9 c54m r0m r1m s0m
          go_wp2_with fail
          exact ⟨⟨j + 1, .slice A9 (j + 1) c9, by omega, by go_num, hx10, hc10, ht10, hz10, ho10⟩, by simp only [intOf]; omega⟩
      · obtain rfl : j = ks.length := by omega
        have hcx := hcr
        rw [hlo] at hlo
        have hfull : (walkK σ k b 0 ks).take ks.length = walkK σ k b 0 ks := List.take_of_length_le (by rw [walkK_len]; exact Nat.le_refl _)
        rw [hfull] at hown
        have d0 : wr.cell? ⟨g5, 0, none⟩ = some (.int .i64 k) := by simpa using hcr.pick 0 rfl
        have d1 : wr.cell? ⟨g5, 1, none⟩ = some (.int .i64 n2) := by simpa using hcr.pick 1 rfl
        have d2 : wr.cell? ⟨g5, 2, none⟩ = some (.int .i64 a) := by simpa using hcr.pick 2 rfl
        have d3 : wr.cell? ⟨g5, 3, none⟩ = some (.slice A1 ls.length c1) := by simpa using hcr.pick 3 rfl
        have d4 : wr.cell? ⟨g5, 4, none⟩ = some (.slice Ao ks.length co) := by simpa using hcr.pick 4 rfl
        have HTr := hid (there_ext hxr TH1.out)
        have Hxr := hid hxr
        have Hown := hid hown
        clear hxr hcr hcx htr hown hlo hc5 ht5 hx5 hfull q0 q1 p0 hco
        have hon := hid (show ∀ v ∈ ([.int .i64 k, .int .i64 n2, .int .i64 a, .slice A1 ls.length c1, .slice Ao ks.length co] : List Value), v.oneCell' = true from fun u hu => by
          simp only [List.mem_cons, List.not_mem_nil, or_false] at hu
          rcases hu with rfl | rfl | rfl | rfl | rfl <;> rfl)
        go_wp2_with ((with_reducible show wpList _ _ _ (⟨_, Op.store 27 _ _, _, _, _, _⟩ :: _) _ _); refine wpList_store_mid (by rfl) 27 _ _ (by rfl) (w.heap.size + 2) 0 #[.int .i64 k, .int .i64 n2, .int .i64 a, .slice A1 ls.length c1, .slice Ao ks.length co] (by rfl) (by rfl) (by exact HTr.out) hi5 (all_oneCell_toArray hon.out) ?_)
        refine bodyPost_ret (v := .agg #[.int .i64 k, .int .i64 n2, .int .i64 a, .slice A1 ls.length c1, .slice Ao ks.length co]) (results_cell_mid (by rfl) _ _ (w.heap.size + 2) [.int .i64 k, .int .i64 n2, .int .i64 a, .slice A1 ls.length c1, .slice Ao ks.length co] _ (by rfl) (World.rangeAt_setCells_same _ _ _ _ HTr.out) hu5 (by rfl) hi5) rfl ?_
        refine ⟨Ext.sets (X1.out.tr Hxr.out) (by omega) _ _, _, rfl, ?_⟩
        rw [walkT_num hσ]
        have hO := Hown.out.sl (bytes := 72) monoC_term (by rw [walkK_len]; exact hlim.out) (Nat.le_refl _)
        refine rterm_iff.2 ⟨_, _, rfl, ⟨HIN.out.1, hn2, HIN.out.2.2⟩, ?_, ?_⟩
        · have hfz : ((((w.alloc (.cells #[.int .i64 b, .func (.func Kf) #[] caps] 70)).alloc (.cells #[.int .i64 k, .int .i64 n, .int .i64 a, .slice Al ls.length cl, .slice Ak ks.length ck] 27)).alloc (.cells #[.int .i64 0, .int .i64 0, .int .i64 0, .slice none 0 0, .slice none 0 0] 27))).heap.size = w.heap.size + 3 := by simp
          have hL := HL1.out
          rw [hfz] at hL
          exact hL.sub monoC_level (((frm_ext _ Hxr.out).tr (frm_sets (by omega) _ _ _)).tr (frm_le (by omega) _))
        · exact hO.sub monoC_term ((frm_sets (by omega) _ _ _).tr (frm_le (by omega) _))
theorem walkTerm_any (Kf : Nat) (caps : Array Value) (Pre : Int → Int → Int → Prop) (σ : Int → Int → Int → Turned) (w0 : World) (hEn : Enters Kf) (hT : TurnOk Kf caps Pre σ w0) (hK0 : KindsIn w0) (t : Term) : WalkP Kf caps Pre σ w0 t :=
  Term.ind (P := WalkP Kf caps Pre σ w0) (fun k n a ls ks ih => walkTerm_step Kf caps Pre σ w0 hEn hT hK0 k n a ls ks ih) t
end Go.Proofs.YtjaklnabidbmiaaDoor

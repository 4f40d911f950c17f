/- Plain laws of lifting and putting: right terms lifted are right; right terms put in right terms are so where they are terms at all. -/
import Derived.Test.YtjaklnabidbmiaaDoorGrowP
import Derived.Test.YtjaklnabidbmiaaDoorLift4
namespace Go.Proofs.YtjaklnabidbmiaaDoor
open Go.RowKit
set_option linter.unusedSimpArgs false
set_option linter.unusedVariables false
mutual
theorem fits_count {Pre : Int → Int → Int → Prop} (hP : ∀ k n b, 0 ≤ n → n ≤ 1048576 → 0 ≤ b → b ≤ 400 → Pre k n b) : ∀ (t : Term) (d c c' b : Int), countT t d c = (true, c') → 0 ≤ b → b < d → FitsT Pre b t
  | .mk k n a ls ks, d, c, c', b, h, h0, hb => by
    rw [countT] at h
    split at h
    · rename_i h1
      have hn : NodeOk k n a ls.length ks.length := by
        have := h1.2.2
        simp only [node, Bool.and_eq_true, decide_eq_true_eq] at this
        exact this.1
      rw [FitsT]
      exact ⟨hP _ _ _ hn.2.1.1 hn.2.1.2 h0 (by omega), fits_counts hP ks k (d + 1) (c + 1) c' b 0 h h0 (by omega)⟩
    · cases h
theorem fits_counts {Pre : Int → Int → Int → Prop} (hP : ∀ k n b, 0 ≤ n → n ≤ 1048576 → 0 ≤ b → b ≤ 400 → Pre k n b) : ∀ (ks : List Term) (k d c c' b i : Int), countK ks d c = (true, c') → 0 ≤ b → b + 1 < d → FitsK Pre k b i ks
  | [], _, _, _, _, _, _, _, _, _ => trivial
  | t :: ts, k, d, c, c', b, i, h, h0, hb => by
    rw [countK] at h
    cases hp : countT t d c with
    | mk b1 c1 =>
      rw [hp] at h
      cases b1 with
      | false => cases h
      | true =>
        rw [FitsK]
        exact ⟨fits_count hP t d c c1 _ hp (by split <;> omega) (by split <;> omega), fits_counts hP ts k d c1 c' b (i + 1) h h0 hb⟩
end
theorem fits_right {Pre : Int → Int → Int → Prop} (hP : ∀ k n b, 0 ≤ n → n ≤ 1048576 → 0 ≤ b → b ≤ 400 → Pre k n b) {t : Term} (h : termRight t = true) : FitsT Pre 0 t :=
  fits_count hP t 1 0 _ 0 (Prod.ext h rfl) (Int.le_refl _) (by omega)
theorem lift_fits {m fr : Int} (h0 : 0 ≤ m) (h1 : m ≤ 1099511627776) {t : Term} (h : termRight t = true) : FitsT (liftPre m fr) 0 t := by
  refine fits_right (fun k n b hn hn2 _ _ => ?_) h
  unfold liftPre liftN inI
  split <;> omega
theorem node_lift {k n n' a : Int} {ls : List Level} {ks ks' : List Term} (hl : ks'.length = ks.length) (hn : n' = n ∨ (k = 1 ∧ 0 ≤ n' ∧ n' ≤ 1048576)) (h : node (.mk k n a ls ks) = true) : node (.mk k n' a ls ks') = true := by
  unfold node at h ⊢
  rw [Bool.and_eq_true] at h ⊢
  have h1 : NodeOk k n a ls.length ks.length := of_decide_eq_true h.1
  refine ⟨decide_eq_true ?_, h.2⟩
  show NodeOk k n' a ls.length ks'.length
  rw [hl]
  rcases hn with rfl | ⟨rfl, h0, h2⟩
  · exact h1
  · obtain ⟨h1', h2', h3, h4, h5, h6, h7, h8⟩ := h1
    exact ⟨h1', ⟨h0, h2⟩, h3, h4, .inr (by decide), h6, h7, h8⟩
mutual
theorem lift_count {ds : List Decl} {n self m : Int} (hm0 : 0 ≤ m) (hm : m ≤ 1000) : ∀ (t : Term) (d c c' b s : Int), countT t d c = (true, c') → SrcOk ds n self t s → s ≤ 1000 + d → countT (walkT (liftS m 0) b t) d c = (true, c')
  | .mk k nu a ls ks, d, c, c', b, s, h, hs, hsd => by
    rw [countT] at h
    split at h
    · rename_i h1
      rw [SrcOk] at hs
      have hnk : NodeOk k nu a ls.length ks.length := by
        have := h1.2.2
        simp only [node, Bool.and_eq_true, decide_eq_true_eq] at this
        exact this.1
      have hw : walkT (liftS m 0) b (.mk k nu a ls ks) = .mk k (liftN m 0 k nu b) a ls (walkK (liftS m 0) k b 0 ks) := walkT_num rfl
      have hnode : node (.mk k (liftN m 0 k nu b) a ls (walkK (liftS m 0) k b 0 ks)) = true := by
        refine node_lift (walkK_len _ _ _ _ _) ?_ h1.2.2
        unfold liftN
        split
        · rename_i hk
          refine .inr ⟨hk.1, ?_, ?_⟩
          · have := hnk.2.1.1; omega
          · rcases hs.1 with h2 | h2
            · rcases h2 with ⟨_, h3⟩ | ⟨h3, _⟩ | ⟨h3, _⟩ | ⟨h3, _⟩ | ⟨h3, _⟩ | ⟨h3, _⟩ <;> omega
            · exact absurd (Or.inl hk.1) h2.1
        · exact .inl rfl
      rw [hw, countT, if_pos ⟨h1.1, h1.2.1, hnode⟩]
      exact lift_counts hm0 hm ks k (d + 1) (c + 1) c' b 0 s h hs.2.2 (by omega)
    · cases h
theorem lift_counts {ds : List Decl} {n self m : Int} (hm0 : 0 ≤ m) (hm : m ≤ 1000) : ∀ (ks : List Term) (k d c c' b i s : Int), countK ks d c = (true, c') → SrcKids ds n self k i ks s → s + 1 ≤ 1000 + d → countK (walkK (liftS m 0) k b i ks) d c = (true, c')
  | [], k, d, c, c', b, i, s, h, _, _ => by rw [walkK]; exact h
  | t :: ts, k, d, c, c', b, i, s, h, hs, hsd => by
    rw [countK] at h
    rw [SrcKids] at hs
    cases hp : countT t d c with
    | mk b1 c1 =>
      rw [hp] at h
      cases b1 with
      | false => cases h
      | true =>
        have h2 := lift_count hm0 hm t d c c1 (b + if binds k i = true then 1 else 0) _ hp hs.1 (by split <;> omega)
        rw [walkK, countK, h2]
        exact lift_counts hm0 hm ts k d c1 c' b (i + 1) s h hs.2 hsd
end
mutual
theorem lift_ok {ds : List Decl} {n self m : Int} (hm0 : 0 ≤ m) : ∀ (t : Term) (b s : Int), SrcOk ds n self t s → SrcOk ds n self (walkT (liftS m 0) b t) (s + m)
  | .mk k nu a ls ks, b, s, h => by
    have hw : walkT (liftS m 0) b (.mk k nu a ls ks) = .mk k (liftN m 0 k nu b) a ls (walkK (liftS m 0) k b 0 ks) := walkT_num rfl
    rw [SrcOk] at h
    rw [hw, SrcOk]
    refine ⟨?_, h.2.1, lift_oks hm0 ks k b 0 s h.2.2⟩
    rcases h.1 with h1 | h1
    · left
      unfold liftN
      split
      · rename_i hk
        rcases h1 with ⟨_, h3⟩ | ⟨h3, _⟩ | ⟨h3, _⟩ | ⟨h3, _⟩ | ⟨h3, _⟩ | ⟨h3, _⟩
        · exact .inl ⟨hk.1, by omega⟩
        all_goals omega
      · exact askOk_up (.rf _) (Int.le_refl _) (by omega) h1
    · exact .inr h1
theorem lift_oks {ds : List Decl} {n self m : Int} (hm0 : 0 ≤ m) : ∀ (ks : List Term) (k b i s : Int), SrcKids ds n self k i ks s → SrcKids ds n self k i (walkK (liftS m 0) k b i ks) (s + m)
  | [], _, _, _, _, _ => by rw [walkK, SrcKids]; trivial
  | t :: ts, k, b, i, s, h => by
    rw [SrcKids] at h
    rw [walkK, SrcKids]
    refine ⟨?_, lift_oks hm0 ts k b (i + 1) s h.2⟩
    have := lift_ok hm0 t (b + if binds k i = true then 1 else 0) _ h.1
    rwa [show s + m + (if binds k i = true then 1 else 0) = s + (if binds k i = true then 1 else 0) + m by omega]
end
theorem lift_right {ds : List Decl} {n s self m : Int} {t : Term} (hm0 : 0 ≤ m) (hm : m ≤ 100) (hs0 : 0 ≤ s) (hs : s ≤ 100) (h : RightP ds n s self t) : RightP ds n (s + m) self (walkT (liftS m 0) 0 t) := by
  have h2 := h.2
  rw [clampS_small hs0 (by omega)] at h2
  refine ⟨?_, ?_⟩
  · have := lift_count hm0 (by omega) t 1 0 _ 0 s (Prod.ext h.1 rfl) h2 (by omega)
    unfold termRight
    rw [this]
  · rw [clampS_small (by omega) (by omega)]
    exact lift_ok hm0 t 0 s h2
/-! Putting. -/
def putS (by_ : List Term) (k n b : Int) : Turned :=
  if k = 1 ∧ b ≤ n then (if n - b < by_.length then .over (walkT (liftS b 0) 0 (by_.getD (by_.length - 1 - (n - b).toNat) noTerm)) else .num (n - by_.length)) else .num n
mutual
theorem put_ok {ds : List Decl} {n self s : Int} (hs : 0 ≤ s) {a : Term} (ha : SrcOk ds n self a s) : ∀ (t : Term) (b : Int), 0 ≤ b → SrcOk ds n self t (s + 1 + b) → SrcOk ds n self (walkT (putS [a]) b t) (s + b)
  | .mk k nu at_ ls ks, b, hb, h => by
    rw [SrcOk] at h
    by_cases h1 : k = 1 ∧ b ≤ nu
    · by_cases h2 : nu - b < 1
      · have e : putS [a] k nu b = .over (walkT (liftS b 0) 0 a) := by
          unfold putS
          rw [if_pos h1, if_pos (by simpa using h2)]
          have : (nu - b).toNat = 0 := by omega
          simp [this]
        rw [walkT_over e]
        exact lift_ok hb a 0 s ha
      · have e : putS [a] k nu b = .num (nu - 1) := by
          unfold putS
          rw [if_pos h1, if_neg (by simpa using h2)]
          simp
        rw [walkT_num e, SrcOk]
        refine ⟨?_, h.2.1, put_oks hs ha ks k b 0 hb h.2.2⟩
        rcases h.1 with h3 | h3
        · rcases h3 with ⟨_, h3⟩ | ⟨h3, _⟩ | ⟨h3, _⟩ | ⟨h3, _⟩ | ⟨h3, _⟩ | ⟨h3, _⟩
          · exact .inl (.inl ⟨h1.1, by omega⟩)
          all_goals omega
        · exact .inr h3
    · have e : putS [a] k nu b = .num nu := by unfold putS; rw [if_neg h1]
      rw [walkT_num e, SrcOk]
      refine ⟨?_, h.2.1, put_oks hs ha ks k b 0 hb h.2.2⟩
      rcases h.1 with h3 | h3
      · left
        rcases h3 with ⟨h4, h3⟩ | h3
        · exact .inl ⟨h4, by omega⟩
        · exact .inr h3
      · exact .inr h3
theorem put_oks {ds : List Decl} {n self s : Int} (hs : 0 ≤ s) {a : Term} (ha : SrcOk ds n self a s) : ∀ (ks : List Term) (k b i : Int), 0 ≤ b → SrcKids ds n self k i ks (s + 1 + b) → SrcKids ds n self k i (walkK (putS [a]) k b i ks) (s + b)
  | [], _, _, _, _, _ => by rw [walkK, SrcKids]; trivial
  | t :: ts, k, b, i, hb, h => by
    rw [SrcKids] at h
    rw [walkK, SrcKids]
    refine ⟨?_, put_oks hs ha ts k b (i + 1) hb h.2⟩
    have := put_ok hs ha t (b + if binds k i = true then 1 else 0) (by split <;> omega) (by
      have h1 := h.1
      rwa [show s + 1 + b + (if binds k i = true then 1 else 0) = s + 1 + (b + if binds k i = true then 1 else 0) by omega] at h1)
    rwa [show s + b + (if binds k i = true then 1 else 0) = s + (b + if binds k i = true then 1 else 0) by omega]
end
theorem put_right {ds : List Decl} {n s self : Int} {t a : Term} (hs0 : 1 ≤ s) (hs : s ≤ 100) (h : RightP ds n s self t) (ha : RightP ds n (s - 1) self a) (hr : termRight (walkT (putS [a]) 0 t) = true) : RightP ds n (s - 1) self (walkT (putS [a]) 0 t) := by
  have h2 := h.2
  have ha2 := ha.2
  rw [clampS_small (by omega) (by omega)] at h2 ha2
  refine ⟨hr, ?_⟩
  rw [clampS_small (by omega) (by omega)]
  have := put_ok (s := s - 1) (by omega) ha2 t 0 (Int.le_refl _) (by rwa [show s - 1 + 1 + 0 = s by omega])
  rwa [Int.add_zero] at this
end Go.Proofs.YtjaklnabidbmiaaDoor

/- Plain: the document's count of nodes and the program's agree. -/
import Derived.Test.YtjaklnabidbmiaaDoorRef2
namespace Go.Proofs.YtjaklnabidbmiaaDoor

mutual
def refT : Term → Int → Int
  | .mk k n a ls ks, deep => if deep ≤ 400 ∧ RefOk k n a ls.length ks.length ∧ (ls.all fun l => levelRight l 9) = true then refK ks (deep + 1) 1 else -1
def refK : List Term → Int → Int → Int
  | [], _, n => n
  | t :: ts, d, n => if refT t d < 0 ∨ n + refT t d > 20000 then -1 else refK ts d (n + refT t d)
end
mutual
def sizeT : Term → Int
  | .mk _ _ _ _ ks => 1 + sizeK ks
def sizeK : List Term → Int
  | [] => 0
  | t :: ts => sizeT t + sizeK ts
end
mutual
theorem sizeT_pos : ∀ t : Term, 1 ≤ sizeT t
  | .mk _ _ _ _ ks => by rw [sizeT]; have := sizeK_len ks; omega
theorem sizeK_len : ∀ ks : List Term, (ks.length : Int) ≤ sizeK ks
  | [] => by simp [sizeK]
  | t :: ts => by
    rw [sizeK]
    have h1 := sizeT_pos t
    have h2 := sizeK_len ts
    simp only [List.length_cons]
    omega
end
mutual
def OkT : Term → Int → Prop
  | .mk k n a ls ks, deep => deep ≤ 400 ∧ (NodeOk k n a ls.length ks.length ∧ (ls.all fun l => levelRight l 9) = true) ∧ OkK ks (deep + 1)
def OkK : List Term → Int → Prop
  | [], _ => True
  | t :: ts, d => OkT t d ∧ OkK ts d
end
mutual
theorem refT_iff : ∀ (t : Term) (d : Int), (refT t d = sizeT t ∧ OkT t d ∧ sizeT t ≤ 20000) ∨ (refT t d = -1 ∧ ¬ (OkT t d ∧ sizeT t ≤ 20000))
  | .mk k n a ls ks, d => by
    rw [refT, sizeT, OkT]
    have hlen := sizeK_len ks
    split
    · rename_i h
      rcases refK_iff ks (d + 1) 1 (by omega) with ⟨h1, h2, h3⟩ | ⟨h1, h2⟩
      · exact .inl ⟨h1, ⟨h.1, ⟨h.2.1.1, h.2.2⟩, h2⟩, h3⟩
      · exact .inr ⟨h1, fun h' => h2 ⟨h'.1.2.2, h'.2⟩⟩
    · rename_i h
      refine .inr ⟨rfl, fun h' => h ⟨h'.1.1, ⟨h'.1.2.1.1, fun hk => ?_⟩, h'.1.2.1.2⟩⟩
      have := h'.1.2.1.1.2.2.2.1
      subst hk
      simp [kKids] at this
      omega
theorem refK_iff : ∀ (ks : List Term) (d n : Int), 1 ≤ n ∧ n ≤ 20000 → (refK ks d n = n + sizeK ks ∧ OkK ks d ∧ n + sizeK ks ≤ 20000) ∨ (refK ks d n = -1 ∧ ¬ (OkK ks d ∧ n + sizeK ks ≤ 20000))
  | [], d, n, hn => .inl ⟨by simp [refK, sizeK], trivial, by simp [sizeK]; omega⟩
  | t :: ts, d, n, hn => by
    rw [refK, sizeK, OkK]
    have hlen := sizeK_len ts
    have hp := sizeT_pos t
    rcases refT_iff t d with ⟨h1, h2, h3⟩ | ⟨h1, h2⟩
    · rw [h1]
      split
      · rename_i h
        exact .inr ⟨rfl, fun h' => by omega⟩
      · rename_i h
        rcases refK_iff ts d (n + sizeT t) (by omega) with ⟨k1, k2, k3⟩ | ⟨k1, k2⟩
        · exact .inl ⟨by omega, ⟨h2, k2⟩, by omega⟩
        · exact .inr ⟨k1, fun h' => k2 ⟨h'.1.2, by omega⟩⟩
    · rw [h1, if_pos (.inl (by decide))]
      exact .inr ⟨rfl, fun h' => h2 ⟨h'.1.1, by omega⟩⟩
end
mutual
theorem countT_iff : ∀ (t : Term) (d c : Int), 0 ≤ c → ((countT t d c).1 = true ∧ (countT t d c).2 = c + sizeT t ∧ OkT t d ∧ c + sizeT t ≤ 20000) ∨ ((countT t d c).1 = false ∧ ¬ (OkT t d ∧ c + sizeT t ≤ 20000))
  | .mk k n a ls ks, d, c, hc => by
    rw [countT, sizeT, OkT]
    have hlen := sizeK_len ks
    have hnode : node (.mk k n a ls ks) = true ↔ NodeOk k n a ls.length ks.length ∧ (ls.all fun l => levelRight l 9) = true := by
      simp only [node, Bool.and_eq_true, decide_eq_true_eq]
      exact Iff.rfl
    split
    · rename_i h
      rcases countK_iff ks (d + 1) (c + 1) (by omega) h.2.1 with ⟨h1, h2, h3, h4⟩ | ⟨h1, h2⟩
      · exact .inl ⟨h1, by omega, ⟨h.1, hnode.1 h.2.2, h3⟩, by omega⟩
      · exact .inr ⟨h1, fun h' => h2 ⟨h'.1.2.2, by omega⟩⟩
    · rename_i h
      exact .inr ⟨rfl, fun h' => h ⟨h'.1.1, by omega, hnode.2 h'.1.2.1⟩⟩
theorem countK_iff : ∀ (ks : List Term) (d c : Int), 0 ≤ c → c ≤ 20000 → ((countK ks d c).1 = true ∧ (countK ks d c).2 = c + sizeK ks ∧ OkK ks d ∧ c + sizeK ks ≤ 20000) ∨ ((countK ks d c).1 = false ∧ ¬ (OkK ks d ∧ c + sizeK ks ≤ 20000))
  | [], d, c, hc, hc2 => .inl ⟨by simp [countK], by simp [countK, sizeK], trivial, by simp [sizeK]; omega⟩
  | t :: ts, d, c, hc, hc2 => by
    rw [countK, sizeK, OkK]
    have hlen := sizeK_len ts
    have hp := sizeT_pos t
    rcases countT_iff t d c hc with ⟨h1, h2, h3, h4⟩ | ⟨h1, h2⟩
    · rw [if_pos h1, h2]
      rcases countK_iff ts d (c + sizeT t) (by omega) h4 with ⟨k1, k2, k3, k4⟩ | ⟨k1, k2⟩
      · exact .inl ⟨k1, by omega, ⟨h3, k3⟩, by omega⟩
      · exact .inr ⟨k1, fun h' => k2 ⟨h'.1.2, by omega⟩⟩
    · rw [if_neg (by rw [h1]; decide)]
      exact .inr ⟨h1, fun h' => h2 ⟨h'.1.1, by omega⟩⟩
end
/-- The document's Right of terms is the program's. -/
theorem refT_right (t : Term) : decide (0 < refT t 1) = termRight t := by
  rw [Bool.eq_iff_iff, decide_eq_true_iff]
  have hp := sizeT_pos t
  have e : termRight t = (countT t 1 0).1 := rfl
  rw [e]
  rcases refT_iff t 1 with ⟨h1, h2, h3⟩ | ⟨h1, h2⟩ <;> rcases countT_iff t 1 0 (by omega) with ⟨k1, k2, k3, k4⟩ | ⟨k1, k2⟩
  · simp [h1, k1]; omega
  · exact absurd ⟨h2, by omega⟩ k2
  · exact absurd ⟨k3, by omega⟩ h2
  · simp [h1, k1]
end Go.Proofs.YtjaklnabidbmiaaDoor

/- Plain laws of source terms: right terms are small; what is right stays so over more; types above a term. -/
import Derived.Test.YtjaklnabidbmiaaDoorDecl
import Derived.Test.YtjaklnabidbmiaaDoorLift3
namespace Go.Proofs.YtjaklnabidbmiaaDoor
open Go.RowKit
set_option linter.unusedSimpArgs false
set_option linter.unusedVariables false
mutual
theorem count_size : ∀ (t : Term) (d c c' : Int), countT t d c = (true, c') → c' = c + tsize t ∧ c' ≤ 20000
  | .mk k n a ls ks, d, c, c', h => by
    rw [countT] at h
    split at h
    · rename_i h1
      have := count_sizes ks (d + 1) (c + 1) c' h h1.2.1
      rw [tsize]
      omega
    · cases h
theorem count_sizes : ∀ (ks : List Term) (d c c' : Int), countK ks d c = (true, c') → c ≤ 20000 → c' = c + tsizes ks ∧ c' ≤ 20000
  | [], d, c, c', h, hc => by
    rw [countK] at h
    cases h
    rw [tsizes]
    omega
  | t :: ts, d, c, c', h, hc => by
    rw [countK] at h
    cases hp : countT t d c with
    | mk b1 c1 =>
      rw [hp] at h
      cases b1 with
      | false => cases h
      | true =>
        have h2 := count_size t d c c1 hp
        have h3 := count_sizes ts d c1 c' h h2.2
        rw [tsizes]
        omega
end
theorem right_size {t : Term} (h : termRight t = true) : tsize t ≤ 20000 := by
  have := count_size t 1 0 _ (Prod.ext h rfl)
  omega
/-! More levels, more declarations, more variables, more members. -/
theorem levelRight_up {l : Level} {n n' : Int} (hn : n ≤ n') (h : levelRight l n = true) : levelRight l n' = true := by
  unfold levelRight at h ⊢
  simp only [Bool.and_eq_true, Bool.not_eq_true', List.any_eq_false] at h ⊢
  refine ⟨h.1, fun p hp => ?_⟩
  have := h.2 p hp
  revert this
  unfold badPart
  simp
  omega
/-- Declarations behind others. -/
def Behind (ds ds' : List Decl) : Prop := ∀ i, i < ds.length → i < ds'.length ∧ ds'.getD i noDecl = ds.getD i noDecl
theorem Behind.rf (ds : List Decl) : Behind ds ds := fun i h => ⟨h, rfl⟩
theorem behind_append (ds more : List Decl) : Behind ds (ds ++ more) := fun i h => ⟨by simp; omega, by simp [List.getElem?_append_left h]⟩
theorem declOk_up {ds ds' : List Decl} (hb : Behind ds ds') {num nl more : Int} (h : DeclOk ds num nl more) : DeclOk ds' num nl more ∧ dAt ds' num = dAt ds num := by
  obtain ⟨h1, h2⟩ := h
  obtain ⟨h3, h4⟩ := hb _ h1
  have e : dAt ds' num = dAt ds num := h4
  exact ⟨⟨h3, by rw [e]; exact h2⟩, e⟩
theorem askOk_up {ds ds' : List Decl} (hb : Behind ds ds') {self self' s s' k num a nl : Int} (hs : self ≤ self') (hsc : s ≤ s') (h : AskOk ds self s k num a nl) : AskOk ds' self' s' k num a nl := by
  rcases h with ⟨h, h1⟩ | ⟨h, h1, h2⟩ | ⟨h, h1, h2, h3⟩ | ⟨h, h1, h2, h3⟩ | ⟨h, h1, h2, h3⟩ | ⟨h, h1⟩
  · exact .inl ⟨h, by omega⟩
  · obtain ⟨k1, e⟩ := declOk_up hb h1
    exact .inr (.inl ⟨h, k1, by rw [e]; exact h2⟩)
  · obtain ⟨k1, e⟩ := declOk_up hb h1
    exact .inr (.inr (.inl ⟨h, k1, by rw [e]; exact h2, by rw [e]; exact h3⟩))
  · obtain ⟨k1, e⟩ := declOk_up hb h1
    exact .inr (.inr (.inr (.inl ⟨h, k1, by rw [e]; exact h2, by rw [e]; exact h3⟩)))
  · obtain ⟨k1, e⟩ := declOk_up hb h1
    exact .inr (.inr (.inr (.inr (.inl ⟨h, k1, by rw [e]; exact h2, by rw [e]; exact h3⟩))))
  · exact .inr (.inr (.inr (.inr (.inr ⟨h, by omega⟩))))
mutual
theorem srcOk_up {ds ds' : List Decl} (hb : Behind ds ds') {n n' self self' : Int} (hn : n ≤ n') (hs : self ≤ self') : ∀ (t : Term) (s s' : Int), s ≤ s' → SrcOk ds n self t s → SrcOk ds' n' self' t s'
  | .mk k nu a ls ks, s, s', hsc, h => by
    rw [SrcOk] at h ⊢
    refine ⟨?_, fun l hl => levelRight_up hn (h.2.1 l hl), srcKids_up hb hn hs k ks 0 s s' hsc h.2.2⟩
    rcases h.1 with h1 | h1
    · exact .inl (askOk_up hb hs hsc h1)
    · exact .inr h1
theorem srcKids_up {ds ds' : List Decl} (hb : Behind ds ds') {n n' self self' : Int} (hn : n ≤ n') (hs : self ≤ self') (k : Int) : ∀ (ks : List Term) (i s s' : Int), s ≤ s' → SrcKids ds n self k i ks s → SrcKids ds' n' self' k i ks s'
  | [], _, _, _, _, _ => by rw [SrcKids]; trivial
  | t :: ts, i, s, s', hsc, h => by
    rw [SrcKids] at h ⊢
    exact ⟨srcOk_up hb hn hs t _ _ (by omega) h.1, srcKids_up hb hn hs k ts (i + 1) s s' hsc h.2⟩
end
theorem clampS_up {s s' : Int} (h : s ≤ s') : clampS s ≤ clampS s' := by unfold clampS; omega
theorem rightP_up {ds ds' : List Decl} (hb : Behind ds ds') {n n' s s' self self' : Int} (hn : n ≤ n') (hsc : s ≤ s') (hs : self ≤ self') {t : Term} (h : RightP ds n s self t) : RightP ds' n' s' self' t :=
  ⟨h.1, srcOk_up hb hn hs t _ _ (clampS_up hsc) h.2⟩
/-! Types above a term. -/
theorem clampS_small {s : Int} (h : 0 ≤ s) (h2 : s ≤ 1099511627776) : clampS s = s := by unfold clampS; omega
theorem pi_ok {ds : List Decl} {n self s : Int} {a b : Term} (ha : SrcOk ds n self a s) (hb : SrcOk ds n self b (s + 1)) : SrcOk ds n self (.mk 4 0 0 [] [a, b]) s := by
  rw [SrcOk]
  refine ⟨.inr ⟨by unfold hasAsk; omega, by omega⟩, (fun l hl => nomatch hl), ?_⟩
  rw [SrcKids, SrcKids, SrcKids]
  refine ⟨?_, ?_, trivial⟩
  · rw [show binds 4 0 = false by decide]; simpa using ha
  · rw [show binds 4 (0 + 1) = true by decide]; simpa using hb
theorem pis_ok {ds : List Decl} {n self : Int} (b : Term) : ∀ (row : List Term) (s : Int), (∀ (i : Nat) (h : i < row.length), SrcOk ds n self row[i] (s + i)) → SrcOk ds n self b (s + row.length) → SrcOk ds n self (row.foldr (fun a x => .mk 4 0 0 [] [a, x]) b) s
  | [], s, _, hb => by simpa using hb
  | a :: row, s, h, hb => by
    refine pi_ok (by have h0 := h 0 (by simp); rw [List.getElem_cons_zero, show s + ((0 : Nat) : Int) = s by omega] at h0; exact h0) (pis_ok b row (s + 1) (fun i hi => ?_) ?_)
    · have := h (i + 1) (by simpa using hi)
      simp only [List.getElem_cons_succ, Int.natCast_add, Int.natCast_one] at this
      rwa [show s + ((i : Int) + 1) = s + 1 + i by omega] at this
    · simp only [List.length_cons, Int.natCast_add, Int.natCast_one] at hb
      rwa [show s + ((row.length : Int) + 1) = s + 1 + row.length by omega] at hb
theorem rowP_ok {ds : List Decl} {n s self : Int} {row : List Term} (h0 : 0 ≤ s) (h1 : s ≤ 1000) (hl : row.length ≤ 1000) (h : RowP ds n s self row) (i : Nat) (hi : i < row.length) : SrcOk ds n self row[i] (s + i) := by
  have := (h i hi).2
  rwa [clampS_small (by omega) (by omega)] at this
theorem sort_ok {ds : List Decl} {n self s : Int} {l : Level} (h : levelRight l n = true) : SrcOk ds n self (.mk 2 0 0 [l] []) s := by
  rw [SrcOk]
  refine ⟨.inr ⟨by unfold hasAsk; omega, by omega⟩, fun l' hl => by simp at hl; subst hl; exact h, ?_⟩
  rw [SrcKids]; trivial
/-- A member's type, closed by its block's params. -/
def memberT (d : Decl) (m : Member) : Term := d.params.foldr (fun a x => .mk 4 0 0 [] [a, x]) (m.index.foldr (fun a x => .mk 4 0 0 [] [a, x]) (.mk 2 0 0 [d.sort] []))
def ctorT (d : Decl) (c : Ctor) : Term := d.params.foldr (fun a x => .mk 4 0 0 [] [a, x]) c.type
theorem block_head {d : Decl} (h : HeadOk d) : d.params.length ≤ 6 ∧ levelRight d.sort d.levels = true := by
  unfold HeadOk headBits at h
  simp at h
  exact ⟨by omega, h.2.1⟩
theorem member_right {ds : List Decl} {d : Decl} (h : DeclP ds d) (hk : d.kind = 3) (i : Nat) (hi : i < d.members.length) (hr : termRight (memberT d d.members[i]) = true) : RightP ds d.levels 0 0 (memberT d d.members[i]) := by
  rcases h.2 with ⟨_, hb⟩ | ⟨h3, _⟩
  · obtain ⟨h1, h2, h3, h4⟩ := hb
    obtain ⟨k1, k2⟩ := block_head h1
    obtain ⟨m1, m2⟩ := h3 i hi
    refine ⟨hr, pis_ok _ _ _ (fun j hj => ?_) (pis_ok _ _ _ (fun j hj => ?_) (sort_ok k2))⟩
    · have := rowP_ok (by omega) (by omega) (by omega) h2 j hj
      rwa [show clampS 0 = 0 by decide]
    · rw [show clampS 0 = 0 by decide, Int.zero_add]
      exact rowP_ok (by omega) (by omega) (by omega) m2 j hj
  · exact absurd hk h3
theorem ctor_right {ds : List Decl} {d : Decl} (h : DeclP ds d) (hk : d.kind = 3) (i : Nat) (hi : i < d.ctors.length) :
    (termRight (ctorT d d.ctors[i]) = true → RightP ds d.levels 0 d.members.length (ctorT d d.ctors[i])) ∧ d.ctors[i].member < d.members.length := by
  rcases h.2 with ⟨_, hb⟩ | ⟨h3, _⟩
  · obtain ⟨h1, h2, h3, h4⟩ := hb
    obtain ⟨k1, k2⟩ := block_head h1
    obtain ⟨m1, m2⟩ := h4 i hi
    refine ⟨fun hr => ⟨hr, pis_ok _ _ _ (fun j hj => ?_) ?_⟩, m1.2⟩
    · have := rowP_ok (by omega) (by omega) (by omega) h2 j hj
      rw [show clampS 0 = 0 by decide]
      exact srcOk_up (.rf _) (Int.le_refl _) (by omega) _ _ _ (Int.le_refl _) this
    · have := m2.2
      rw [clampS_small (by omega) (by omega)] at this
      rw [show clampS 0 = 0 by decide, Int.zero_add]
      exact this
  · exact absurd hk h3
/-- The sizes of what a right block has. -/
theorem block_sizes {ds : List Decl} {d : Decl} (h : DeclP ds d) (hk : d.kind = 3) : (∀ t ∈ d.params, tsize t ≤ 20000) ∧ (∀ (i : Nat) (hi : i < d.members.length), ∀ t ∈ d.members[i].index, tsize t ≤ 20000) ∧ (∀ (i : Nat) (hi : i < d.ctors.length), tsize d.ctors[i].type ≤ 20000) ∧ d.params.length ≤ 6 ∧ ∀ (i : Nat) (hi : i < d.members.length), d.members[i].index.length ≤ 6 := by
  rcases h.2 with ⟨_, hb⟩ | ⟨h3, _⟩
  · obtain ⟨h1, h2, h3, h4⟩ := hb
    have row : ∀ {n s self : Int} {l : List Term}, RowP ds n s self l → ∀ t ∈ l, tsize t ≤ 20000 := fun hr t ht => by
      obtain ⟨j, hj, rfl⟩ := List.getElem_of_mem ht
      exact right_size (hr j hj).1
    exact ⟨row h2, fun i hi => row (h3 i hi).2, fun i hi => right_size (h4 i hi).2.1, (block_head h1).1, fun i hi => (h3 i hi).1⟩
  · exact absurd hk h3
theorem pis_size (b : Term) : ∀ (row : List Term) (m : Nat), (∀ t ∈ row, tsize t ≤ m) → tsize (row.foldr (fun a x => .mk 4 0 0 [] [a, x]) b) ≤ row.length * (m + 1) + tsize b
  | [], m, _ => by simp
  | a :: row, m, h => by
    have h1 := pis_size b row m (fun t ht => h t (List.mem_cons_of_mem _ ht))
    have h2 := h a (List.mem_cons_self ..)
    simp only [List.foldr_cons, tsize, tsizes, List.length_cons, Nat.add_mul, Nat.one_mul]
    omega
/-- A definition is right as an axiom. -/
theorem axiom_right {ds : List Decl} {d : Decl} (h : DeclP ds d) (hk : d.kind ≠ 3) : DeclP ds { noDecl with kind := 1, levels := d.levels, type := d.type } ∧ (d.kind = 1 ∨ d.kind = 2) := by
  rcases h.2 with ⟨h3, _⟩ | ⟨_, _, h3, h4⟩
  · exact absurd h3 hk
  · refine ⟨⟨h.1, .inr ⟨by simp, ⟨rfl, rfl, rfl, rfl⟩, h3, .inl ⟨rfl, rfl, rfl, rfl, rfl, rfl⟩⟩⟩, ?_⟩
    rcases h4 with h4 | h4
    · exact .inl h4.1
    · exact .inr h4.1
end Go.Proofs.YtjaklnabidbmiaaDoor

/- Rows with marks behind their ends, and what they hold: plain definitions and lemmas. -/
import Derived.Test.YtjaklnabidbmiaaGreatDoorMark
namespace Go.Proofs.YtjaklnabidbmiaaGreatDoor
open Go.RowKit
set_option linter.unusedSimpArgs false
set_option linter.unusedVariables false

/-- A slice that reads as xs (R), with twelve marks (M) in its spare room. -/
def LSl {α : Type} (R M : World → α → List Value → Prop) (mk : Int → α) (sz bytes : Nat) (w : World) (xs : List α) (v : Value) : Prop :=
  ∃ b c, v = .slice (some ⟨b, 0, none⟩) xs.length c ∧ xs.length + 12 ≤ c ∧ xs.length * bytes ≤ LIM ∧
    (∀ i x, xs[i]? = some x → ∃ cs, R w x cs ∧ cellsAt w b (i * sz) cs) ∧ ∀ i : Nat, i < 12 → ∃ cs, M w (mk i) cs ∧ cellsAt w b ((xs.length + i) * sz) cs
def RLLevel (w : World) (l : Level) (cs : List Value) : Prop := ∃ v, cs = [v] ∧ LSl RPart RPart mkPart 2 16 w l.parts v
mutual
def RLTerm (w : World) : Term → List Value → Prop
  | .mk k n a ls ks, cs => ∃ vl b c, cs = [.int .i64 k, .int .i64 n, .int .i64 a, vl, .slice (some ⟨b, 0, none⟩) ks.length c] ∧ (inI k ∧ inI n ∧ inI a) ∧ LSl RLLevel RLevel mkLevel 1 24 w ls vl ∧
      ks.length + 12 ≤ c ∧ ks.length * 72 ≤ LIM ∧ RLKids w b 0 ks ∧ ∀ i : Nat, i < 12 → ∃ cs, RTerm w (mkTerm i) cs ∧ cellsAt w b ((ks.length + i) * 5) cs
def RLKids (w : World) (b : Nat) : Nat → List Term → Prop
  | _, [] => True
  | o, t :: ts => (∃ cs, RLTerm w t cs ∧ cellsAt w b o cs) ∧ RLKids w b (o + 5) ts
end
theorem rlkids_iff {w : World} {b : Nat} : ∀ {ks : List Term} {o : Nat}, RLKids w b o ks ↔ ∀ i x, ks[i]? = some x → ∃ cs, RLTerm w x cs ∧ cellsAt w b (o + i * 5) cs
  | [], o => by simp [RLKids]
  | t :: ts, o => by
    rw [RLKids, rlkids_iff]
    constructor
    · rintro ⟨h0, h1⟩ i x hx
      cases i with
      | zero => simp at hx; subst hx; simpa using h0
      | succ i =>
        have := h1 i x (by simpa using hx)
        rwa [show o + 5 + i * 5 = o + (i + 1) * 5 by omega] at this
    · intro h
      refine ⟨by simpa using h 0 t (by simp), fun i x hx => ?_⟩
      have := h (i + 1) x (by simpa using hx)
      rwa [show o + (i + 1) * 5 = o + 5 + i * 5 by omega] at this
abbrev LSlTerm := LSl RLTerm RTerm mkTerm 5 72
abbrev LSlLevel := LSl RLLevel RLevel mkLevel 1 24
theorem rlterm_iff {w : World} {k n a : Int} {ls : List Level} {ks : List Term} {cs : List Value} :
    RLTerm w (.mk k n a ls ks) cs ↔ ∃ vl vk, cs = [.int .i64 k, .int .i64 n, .int .i64 a, vl, vk] ∧ (inI k ∧ inI n ∧ inI a) ∧ LSlLevel w ls vl ∧ LSlTerm w ks vk := by
  rw [RLTerm]
  constructor
  · rintro ⟨vl, b, c, rfl, h, hl, hc, hb, hk, hm⟩
    refine ⟨vl, _, rfl, h, hl, b, c, rfl, hc, hb, fun i x hx => ?_, hm⟩
    have := rlkids_iff.1 hk i x hx
    rwa [Nat.zero_add] at this
  · rintro ⟨vl, vk, rfl, h, hl, b, c, rfl, hc, hb, hk, hm⟩
    refine ⟨vl, b, c, rfl, h, hl, hc, hb, rlkids_iff.2 fun i x hx => ?_, hm⟩
    rw [Nat.zero_add]
    exact hk i x hx
def RLMember (w : World) (m : Member) (cs : List Value) : Prop := ∃ v, cs = [v] ∧ LSlTerm w m.index v
def RLCtor (w : World) (c : Ctor) (cs : List Value) : Prop := ∃ ct, cs = .int .i64 c.member :: ct ∧ inI c.member ∧ RLTerm w c.type ct
abbrev LSlMember := LSl RLMember RMember mkMember 1 24
abbrev LSlCtor := LSl RLCtor RCtor mkCtor 6 80
def RLDecl (w : World) (d : Decl) (cs : List Value) : Prop :=
  ∃ ct cb vp vs vm vc, cs = .int .i64 d.kind :: .int .i64 d.levels :: (ct ++ (cb ++ [vp, vs, vm, vc])) ∧ (inI d.kind ∧ inI d.levels) ∧ RLTerm w d.type ct ∧ RLTerm w d.body cb ∧
    LSlTerm w d.params vp ∧ LSl RPart RPart mkPart 2 16 w d.sort.parts vs ∧ LSlMember w d.members vm ∧ LSlCtor w d.ctors vc
abbrev LSlDecl := LSl RLDecl RDecl mkDecl 16 256

/-! They stay, and they read as what they are. -/
section
variable {α : Type} {R M : World → α → List Value → Prop} {mk : Int → α} {sz bytes : Nat} {w w' : World} {xs : List α} {v : Value}
theorem LSl.sub (hR : MonoC R) (hM : MonoC M) (h : Sub w w') (hl : LSl R M mk sz bytes w xs v) : LSl R M mk sz bytes w' xs v := by
  obtain ⟨b, c, e, h1, h2, h3, h4⟩ := hl
  exact ⟨b, c, e, h1, h2, fun i x hx => let ⟨cs, k1, k2⟩ := h3 i x hx; ⟨cs, hR _ _ _ _ h k1, k2.sub h⟩, fun i hi => let ⟨cs, k1, k2⟩ := h4 i hi; ⟨cs, hM _ _ _ _ h k1, k2.sub h⟩⟩
theorem LSl.sl {R' : World → α → List Value → Prop} (hRR : ∀ x cs, x ∈ xs → R w x cs → R' w x cs) (hl : LSl R M mk sz bytes w xs v) : Sl R' sz bytes w xs v := by
  obtain ⟨b, c, e, h1, h2, h3, h4⟩ := hl
  refine ⟨_, c, e, by omega, h2, fun _ => ⟨b, 0, rfl, fun i x hx => ?_⟩⟩
  obtain ⟨cs, k1, k2⟩ := h3 i x hx
  exact ⟨cs, hRR _ _ (List.mem_of_getElem? hx) k1, by rwa [Nat.zero_add]⟩
end
theorem monoC_llevel : MonoC RLLevel := fun _ _ _ _ h ⟨v, e, hs⟩ => ⟨v, e, hs.sub monoC_part monoC_part h⟩
theorem monoC_lterm : MonoC RLTerm := by
  intro w w' t
  revert w w'
  refine Term.ind (P := fun t => ∀ (w w' : World) (cs : List Value), Sub w w' → RLTerm w t cs → RLTerm w' t cs) ?_ t
  intro k n a l ks ih w w' cs h hr
  obtain ⟨vl, vk, rfl, hi, hl, b, c, rfl, hc, hb, hk, hm⟩ := rlterm_iff.1 hr
  refine rlterm_iff.2 ⟨vl, _, rfl, hi, hl.sub monoC_llevel monoC_level h, b, c, rfl, hc, hb, fun i x hx => ?_, fun i hi => ?_⟩
  · obtain ⟨cs, h1, h2⟩ := hk i x hx
    exact ⟨cs, ih x (List.mem_of_getElem? hx) _ _ _ h h1, h2.sub h⟩
  · obtain ⟨cs, h1, h2⟩ := hm i hi
    exact ⟨cs, monoC_term _ _ _ _ h h1, h2.sub h⟩
theorem monoC_lmember : MonoC RLMember := fun _ _ _ _ h ⟨v, e, hs⟩ => ⟨v, e, hs.sub monoC_lterm monoC_term h⟩
theorem monoC_lctor : MonoC RLCtor := fun _ _ _ _ h ⟨ct, e, hi, hs⟩ => ⟨ct, e, hi, monoC_lterm _ _ _ _ h hs⟩
theorem monoC_ldecl : MonoC RLDecl := fun _ _ _ _ h ⟨ct, cb, vp, vs, vm, vc, e, hi, h1, h2, h3, h4, h5, h6⟩ =>
  ⟨ct, cb, vp, vs, vm, vc, e, hi, monoC_lterm _ _ _ _ h h1, monoC_lterm _ _ _ _ h h2, h3.sub monoC_lterm monoC_term h, h4.sub monoC_part monoC_part h, h5.sub monoC_lmember monoC_member h, h6.sub monoC_lctor monoC_ctor h⟩
theorem rl_level {w : World} {l : Level} {cs : List Value} (h : RLLevel w l cs) : RLevel w l cs := let ⟨v, e, hs⟩ := h; ⟨v, e, hs.sl fun _ _ _ h => h⟩
theorem rl_term {w : World} (t : Term) : ∀ {cs : List Value}, RLTerm w t cs → RTerm w t cs := by
  refine Term.ind (P := fun t => ∀ {cs : List Value}, RLTerm w t cs → RTerm w t cs) ?_ t
  intro k n a l ks ih cs hr
  obtain ⟨vl, vk, rfl, hi, hl, hk⟩ := rlterm_iff.1 hr
  exact rterm_iff.2 ⟨vl, vk, rfl, hi, hl.sl fun _ _ _ h => rl_level h, hk.sl fun x cs hx h => ih x hx h⟩
theorem rl_member {w : World} {m : Member} {cs : List Value} (h : RLMember w m cs) : RMember w m cs := let ⟨v, e, hs⟩ := h; ⟨v, e, hs.sl fun x _ _ h => rl_term x h⟩
theorem rl_ctor {w : World} {c : Ctor} {cs : List Value} (h : RLCtor w c cs) : RCtor w c cs := let ⟨ct, e, hi, hs⟩ := h; ⟨ct, e, hi, rl_term _ hs⟩
theorem rl_decl {w : World} {d : Decl} {cs : List Value} (h : RLDecl w d cs) : RDecl w d cs :=
  let ⟨ct, cb, vp, vs, vm, vc, e, hi, h1, h2, h3, h4, h5, h6⟩ := h
  ⟨ct, cb, vp, vs, vm, vc, e, hi, rl_term _ h1, rl_term _ h2, h3.sl fun x _ _ h => rl_term x h, h4.sl fun _ _ _ h => h, h5.sl fun _ _ _ h => rl_member h, h6.sl fun _ _ _ h => rl_ctor h⟩
theorem lsl_terms {w : World} {xs : List Term} {v : Value} (h : LSlTerm w xs v) : SlTerm w xs v := h.sl fun x _ _ h => rl_term x h
theorem lsl_decls {w : World} {xs : List Decl} {v : Value} (h : LSlDecl w xs v) : SlDecl w xs v := h.sl fun _ _ _ h => rl_decl h

/-- Elements of a row that is being filled: those that came, then the marks. -/
def RL2 {α : Type} (R M : World → α → List Value → Prop) (w : World) : α ⊕ α → List Value → Prop
  | .inl x, cs => R w x cs
  | .inr x, cs => M w x cs
theorem monoC_rl2 {α : Type} {R M : World → α → List Value → Prop} (hR : MonoC R) (hM : MonoC M) : MonoC (RL2 R M) := by
  intro w w' x cs h hx
  cases x
  · exact hR _ _ _ _ h hx
  · exact hM _ _ _ _ h hx
/-- So many that came, so many marks. -/
def filled {α : Type} (mk : Int → α) (xs : List α) (k : Nat) : List (α ⊕ α) := xs.map .inl ++ (List.range k).map fun i : Nat => .inr (mk i)
theorem filled_len {α : Type} (mk : Int → α) (xs : List α) (k : Nat) : (filled mk xs k).length = xs.length + k := by simp [filled]
theorem filled_snoc {α : Type} (mk : Int → α) (xs : List α) (k : Nat) : filled mk xs k ++ [.inr (mk k)] = filled mk xs (k + 1) := by simp [filled, List.range_succ]
theorem filled_take {α : Type} (mk : Int → α) (xs : List α) (k : Nat) (h : k < xs.length) : filled mk (xs.take k) 0 ++ [.inl xs[k]] = filled mk (xs.take (k + 1)) 0 := by
  rw [List.take_succ_eq_append_getElem h]
  simp only [filled, List.map_append, List.map_cons, List.map_nil, List.range_zero, List.append_nil]
/-- A filled row, cut to its length. -/
theorem OwnS.lent {α : Type} {R M : World → α → List Value → Prop} {mk : Int → α} (hR : MonoC R) (hM : MonoC M) {sz bytes n0 base : Nat} {ty : TypeId} {w : World} {xs : List α} {g cap : Nat}
    (h : OwnS (RL2 R M) sz ty n0 base w (filled mk xs 12) (.slice (some ⟨g, 0, none⟩) (xs.length + 12) cap)) (hb : xs.length * bytes ≤ LIM) (hn : n0 ≤ base) : LSl R M mk sz bytes (frm n0 w) xs (.slice (some ⟨g, 0, none⟩) xs.length cap) := by
  obtain ⟨cells, h1, h2⟩ := h
  rcases h1.2 with ⟨he, _⟩ | ⟨g', cap', cur, he, hg, hgg, hc, hm, hs, htake⟩
  · cases he
  simp only [Value.slice.injEq, Option.some.injEq, Addr.mk.injEq, and_true] at he
  obtain ⟨rfl, _, rfl⟩ := he
  rw [filled_len] at hc
  have hcell : ∀ i (y : α ⊕ α), (filled mk xs 12)[i]? = some y → ∃ cs, RL2 R M (frm n0 w) y cs ∧ cellsAt (frm n0 w) g (i * sz) cs := by
    intro i y hy
    obtain ⟨cs, h3, h4, h5⟩ := h2 i y hy
    refine ⟨cs, monoC_rl2 hR hM _ _ _ _ (only_le (fun b hb => by simp only [butB_iff] at hb; simpa [fromB] using hb.1) w) h3, fun j u hu => ?_⟩
    refine only_some.2 ⟨by simp [fromB]; omega, ?_⟩
    have h6 := h1.cells (g := g) rfl (i * sz + j) u (h5 j u hu)
    rw [Addr.add_lit, Nat.zero_add] at h6
    exact h6
  refine ⟨g, cap, rfl, hc, hb, fun i x hx => ?_, fun i hi => ?_⟩
  · have hlt := (List.getElem?_eq_some_iff.1 hx).1
    have := hcell i (.inl x) (by rw [filled, List.getElem?_append_left (by simpa using hlt)]; simp [hx])
    exact this
  · have := hcell (xs.length + i) (.inr (mk i)) (by rw [filled, List.getElem?_append_right (by simp)]; simp [hi])
    exact this
end Go.Proofs.YtjaklnabidbmiaaGreatDoor

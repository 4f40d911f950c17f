/- What comes in reads as terms, declarations. -/
import Derived.Test.YtjaklnabidbmiaaDoorProg
import Derived.Test.YtjaklnabidbmiaaDoorRep
import Derived.Deep.Slices
import Derived.Deep.Fields
import Derived.ChangeSame
import Derived.Carry
import Derived.OpenShut
import Derived.OpenVars
namespace Go.Proofs.YtjaklnabidbmiaaDoor
open Go Go.RowKit Go.ChangeShapes Go.WideShapes
set_option linter.unusedSimpArgs false
set_option linter.unusedVariables false
section
variable {H : Type} {enc : TypeId × Value → H} {w : World}

/-- Whatever is read with so much fuel is as R says. -/
def Opens (enc : TypeId × Value → H) (w : World) (n : Nat) (t : TypeId) (R : List Value → Prop) : Prop :=
  ∀ m, m ≤ n → ∀ cs x, DataW.trod enc Tryd.prog w 0 (fun _ => true) true m t cs = some x → (x.1.weights Tryd.prog t).all (· ≤ reachBytes) = true → R cs
theorem Opens.le {n m : Nat} {t : TypeId} {R : List Value → Prop} (h : Opens enc w n t R) (hm : m ≤ n) : Opens enc w m t R := fun k hk => h k (by omega)
theorem opens_int {n : Nat} {t : TypeId} (ht : Tryd.prog.underlying t = some (.int .i64)) : Opens enc w n t (fun cs => ∃ k, cs = [.int .i64 k] ∧ inI k) := by
  intro m _ cs x h _
  obtain ⟨k, rfl, _, hw⟩ := DataW.trod_int ht h
  refine ⟨k, rfl, ?_⟩
  exact bounds_i64 hw
theorem all_append {l r : List Nat} {p : Nat → Bool} (h : (l ++ r).all p = true) : l.all p = true ∧ r.all p = true := by simpa using h
theorem weightsAll_at {e : TypeId} {p : Nat → Bool} : ∀ (l : List (DataW H)), (DataW.weightsAll Tryd.prog e l).all p = true → ∀ (i : Nat) (d : DataW H), l[i]? = some d → (d.weights Tryd.prog e).all p = true
  | [], _, i, d, h => by simp at h
  | d0 :: r, h, 0, d, hd => by
    simp at hd; subst hd
    rw [DataW.weightsAll] at h
    exact (all_append h).1
  | d0 :: r, h, i + 1, d, hd => by
    rw [DataW.weightsAll] at h
    exact weightsAll_at r (all_append h).2 i d (by simpa using hd)
theorem weightsEach_at {p : Nat → Bool} : ∀ (ts : List TypeId) (l : List (DataW H)), (DataW.weightsEach Tryd.prog ts l).all p = true → ∀ (i : Nat) (t : TypeId) (d : DataW H), ts[i]? = some t → l[i]? = some d → (d.weights Tryd.prog t).all p = true
  | [], _, _, i, t, d, h, _ => by simp at h
  | _ :: _, [], _, i, t, d, _, h => by simp at h
  | t0 :: ts, d0 :: r, h, 0, t, d, ht, hd => by
    simp at ht hd; subst ht hd
    rw [DataW.weightsEach] at h
    exact (all_append h).1
  | t0 :: ts, d0 :: r, h, i + 1, t, d, ht, hd => by
    rw [DataW.weightsEach] at h
    exact weightsEach_at ts r (all_append h).2 i t d (by simpa using ht) (by simpa using hd)
theorem opens_slice {α : Type} {n : Nat} {t e : TypeId} {sz bytes : Nat} {R : World → α → List Value → Prop} (ht : Tryd.prog.underlying t = some (.slice e)) (hsz : Tryd.prog.cellsOf e = sz) (h0 : 0 < sz) (hby : Tryd.prog.bytesOf e = bytes)
    (h : Opens enc w n e (fun cs => ∃ a : α, R w a cs)) : Opens enc w (n + 1) t (fun cs => ∃ (xs : List α) (v : Value), cs = [v] ∧ Sl R sz bytes w xs v) := by
  intro m hm cs x hx hw
  rcases DataW.trod_slice ht hx with ⟨rfl, rfl⟩ | ⟨a, len, cap, elems, rest, k, rfl, rfl, rfl, hb, hl, hml, hlen, hel, _⟩
  · exact ⟨[], _, rfl, none, 0, rfl, Nat.le_refl _, by simp, fun hne => absurd rfl hne⟩
  · rw [DataW.weights, ht] at hw
    simp only [List.all_cons, Bool.and_eq_true, decide_eq_true_eq, List.length_map] at hw
    obtain ⟨hw1, hw2⟩ := hw
    have hw3 := (all_append hw2).1
    have key : ∀ i, i < len → ∃ (y : α) (cs' : List Value), R w y cs' ∧ cs'.length = sz ∧ ∀ j, j < sz → w.cell? (a.add (i * sz + j)) = cs'[j]? := by
      intro i hi
      have h1 := hel i hi
      rw [List.getElem?_eq_getElem (by omega)] at h1
      obtain ⟨cs', h2, h3⟩ := Option.bind_eq_some_iff.1 h1
      obtain ⟨_, h4, h5⟩ := World.cells?_some h2
      rw [hsz] at h4 h5
      have h6 := weightsAll_at _ hw3 i (elems[i]'(by omega)).1 (by rw [List.getElem?_map, List.getElem?_eq_getElem (by omega)]; rfl)
      obtain ⟨y, hy⟩ := h k (by omega) cs' _ h3 h6
      exact ⟨y, cs', hy, h4, fun j hj => by rw [← h5 j hj, Go.Deep.add_add]⟩
    let f : Fin len → α := fun i => Classical.choose (key i.1 i.2)
    have hf : ∀ i : Fin len, ∃ cs', R w (f i) cs' ∧ cs'.length = sz ∧ ∀ j, j < sz → w.cell? (a.add (i.1 * sz + j)) = cs'[j]? := fun i => Classical.choose_spec (key i.1 i.2)
    have hl2 : (List.ofFn f).length = len := by simp
    refine ⟨List.ofFn f, _, rfl, some a, cap, by rw [hl2], by omega, ?_, fun hne => ?_⟩
    · rw [hl2]
      rw [hby] at hw1
      have : len * bytes ≤ (elems.length + rest.length) * bytes := Nat.mul_le_mul_right _ (by omega)
      unfold LIM
      unfold reachBytes at hw1
      omega
    · have hpos : 0 < len := by
        rcases Nat.eq_zero_or_pos len with h | h
        · exfalso; apply hne; apply List.eq_nil_of_length_eq_zero; omega
        · exact h
      have hspot : a.spot = none := by
        obtain ⟨cs', _, h4, h5⟩ := hf ⟨0, hpos⟩
        have h6 := h5 0 h0
        rw [List.getElem?_eq_getElem (by omega)] at h6
        simp only [Nat.zero_mul, Nat.zero_add] at h6
        have e : a.add 0 = a := by simp [Addr.add]
        rw [e] at h6
        cases hsp : a.spot with
        | none => rfl
        | some s => unfold World.cell? at h6; rw [hsp] at h6; revert h6; split <;> simp
      obtain ⟨b, o, s⟩ := a
      simp only at hspot
      subst hspot
      refine ⟨b, o, rfl, fun i y hy => ?_⟩
      have hi : i < len := by have := (List.getElem?_eq_some_iff.1 hy).1; omega
      rw [List.getElem?_ofFn] at hy
      simp only [hi, dite_true, Option.some.injEq] at hy
      obtain ⟨cs', h3, h4, h5⟩ := hf ⟨i, hi⟩
      rw [hy] at h3
      refine ⟨cs', h3, fun j v hv => ?_⟩
      have hj : j < sz := by have := (List.getElem?_eq_some_iff.1 hv).1; omega
      have h6 := h5 j hj
      rw [Addr.add_lit, hv] at h6
      rw [Nat.add_assoc]
      exact h6
/-- A struct, field by field. -/
theorem opens_struct {n : Nat} {t : TypeId} {fs : Array Field} {R : List Value → Prop} (ht : Tryd.prog.underlying t = some (.struct fs))
    (h : ∀ m, m ≤ n → ∀ cs : List Value, cs.length = Tryd.prog.cellsOf t →
      (∀ (i : Nat) (f : Field), fs[i]? = some f → ∃ x, DataW.trod enc Tryd.prog w 0 (fun _ => true) true m f.type ((cs.drop f.offset).take (Tryd.prog.cellsOf f.type)) = some x ∧ (x.1.weights Tryd.prog f.type).all (· ≤ reachBytes) = true) → R cs) :
    Opens enc w (n + 1) t R := by
  intro m hm cs x hx hw
  obtain ⟨xs, k, rfl, rfl, hlen, hxl, hf⟩ := DataW.trod_struct ht hx
  rw [DataW.weights, ht] at hw
  simp only at hw
  refine h k (by omega) cs hlen fun i f hi => ?_
  have hlt : i < fs.size := (Array.getElem?_eq_some_iff.1 hi).1
  have h1 := hf i f hi
  rw [List.getElem?_eq_getElem (by omega)] at h1
  exact ⟨_, h1, weightsEach_at _ _ hw i f.type _ (by simp [hi]) (by rw [List.getElem?_map, List.getElem?_eq_getElem (by omega)]; rfl)⟩
theorem len2 {l : List Value} (h : l.length = 2) : ∃ a b, l = [a, b] := match l, h with | [a, b], _ => ⟨a, b, rfl⟩
theorem len1 {l : List Value} (h : l.length = 1) : ∃ a, l = [a] := match l, h with | [a], _ => ⟨a, rfl⟩
theorem len5 {l : List Value} (h : l.length = 5) : ∃ a b c d e, l = [a, b, c, d, e] := match l, h with | [a, b, c, d, e], _ => ⟨a, b, c, d, e, rfl⟩
theorem len6 {l : List Value} (h : l.length = 6) : ∃ a r, l = a :: r ∧ r.length = 5 := match l, h with | [a, b, c, d, e, f], _ => ⟨a, _, rfl, rfl⟩
theorem C_int : Tryd.prog.cellsOf 3 = 1 := by kernel_rfl
theorem C_kind : Tryd.prog.cellsOf 23 = 1 := by kernel_rfl
theorem C_dkind : Tryd.prog.cellsOf 22 = 1 := by kernel_rfl
theorem C_part : Tryd.prog.cellsOf 44 = 2 := by kernel_rfl
theorem C_parts : Tryd.prog.cellsOf 28 = 1 := by kernel_rfl
theorem C_level : Tryd.prog.cellsOf 30 = 1 := by kernel_rfl
theorem C_levels : Tryd.prog.cellsOf 24 = 1 := by kernel_rfl
theorem C_term : Tryd.prog.cellsOf 27 = 5 := by kernel_rfl
theorem C_terms : Tryd.prog.cellsOf 25 = 1 := by kernel_rfl
theorem C_member : Tryd.prog.cellsOf 38 = 1 := by kernel_rfl
theorem C_members : Tryd.prog.cellsOf 31 = 1 := by kernel_rfl
theorem C_ctor : Tryd.prog.cellsOf 46 = 6 := by kernel_rfl
theorem C_ctors : Tryd.prog.cellsOf 32 = 1 := by kernel_rfl
theorem C_decl : Tryd.prog.cellsOf 34 = 16 := by kernel_rfl
theorem B_part : Tryd.prog.bytesOf 44 = 16 := by kernel_rfl
theorem B_level : Tryd.prog.bytesOf 30 = 24 := by kernel_rfl
theorem B_term : Tryd.prog.bytesOf 27 = 72 := by kernel_rfl
theorem B_member : Tryd.prog.bytesOf 38 = 24 := by kernel_rfl
theorem B_ctor : Tryd.prog.bytesOf 46 = 80 := by kernel_rfl
theorem B_decl : Tryd.prog.bytesOf 34 = 256 := by kernel_rfl
theorem opens_part (n : Nat) : Opens enc w n 44 (fun cs => ∃ p : Part, RPart w p cs) := by
  refine Opens.le (n := n + 1) (opens_struct Tryd.underlying44 ?_) (by omega)
  intro m _ cs hl h
  rw [C_part] at hl
  obtain ⟨a, b, rfl⟩ := len2 hl
  obtain ⟨x0, h0, w0⟩ := h 0 _ rfl
  simp only [List.getElem_toArray, List.getElem_cons_zero, List.getElem_cons_succ] at h0 w0
  rw [C_int] at h0
  obtain ⟨k, e0, i0⟩ := opens_int (n := m) Tryd.underlying3 m (Nat.le_refl _) _ _ h0 w0
  simp only [List.drop_succ_cons, List.drop_zero, List.take_succ_cons, List.take_zero, List.cons.injEq, and_true] at e0
  subst e0
  obtain ⟨x1, h1, w1⟩ := h 1 _ rfl
  simp only [List.getElem_toArray, List.getElem_cons_zero, List.getElem_cons_succ] at h1 w1
  rw [C_int] at h1
  obtain ⟨l, e1, i1⟩ := opens_int (n := m) Tryd.underlying3 m (Nat.le_refl _) _ _ h1 w1
  simp only [List.drop_succ_cons, List.drop_zero, List.take_succ_cons, List.take_zero, List.cons.injEq, and_true] at e1
  subst e1
  exact ⟨⟨k, l⟩, rfl, i0, i1⟩
theorem opens_parts (n : Nat) : Opens enc w n 28 (fun cs => ∃ (xs : List Part) (v : Value), cs = [v] ∧ Sl RPart 2 16 w xs v) :=
  Opens.le (opens_slice Tryd.underlying28 C_part (by omega) B_part (opens_part n)) (by omega)
theorem opens_level (n : Nat) : Opens enc w n 30 (fun cs => ∃ l : Level, RLevel w l cs) := by
  refine Opens.le (n := n + 1) (opens_struct Tryd.underlying30 ?_) (by omega)
  intro m _ cs hl h
  rw [C_level] at hl
  obtain ⟨a, rfl⟩ := len1 hl
  obtain ⟨x0, h0, w0⟩ := h 0 _ rfl
  simp only [List.getElem_toArray, List.getElem_cons_zero, List.getElem_cons_succ] at h0 w0
  rw [C_parts] at h0
  obtain ⟨xs, v, e0, s0⟩ := opens_parts m m (Nat.le_refl _) _ _ h0 w0
  simp only [List.drop_succ_cons, List.drop_zero, List.take_succ_cons, List.take_zero, List.cons.injEq, and_true] at e0
  subst e0
  exact ⟨⟨xs⟩, _, rfl, s0⟩
theorem opens_levels (n : Nat) : Opens enc w n 24 (fun cs => ∃ (xs : List Level) (v : Value), cs = [v] ∧ SlLevel w xs v) :=
  Opens.le (opens_slice Tryd.underlying24 C_level (by omega) B_level (opens_level n)) (by omega)
theorem opens_term : ∀ (n : Nat), Opens enc w n 27 (fun cs => ∃ t : Term, RTerm w t cs)
  | 0 => fun m hm cs x hx _ => by
    obtain rfl : m = 0 := by omega
    simp [DataW.trod] at hx
  | n + 1 => by
    have ih := opens_term n
    have ihs : Opens enc w (n + 1) 25 (fun cs => ∃ (xs : List Term) (v : Value), cs = [v] ∧ SlTerm w xs v) := opens_slice Tryd.underlying25 C_term (by omega) B_term ih
    refine opens_struct Tryd.underlying27 ?_
    intro m hm cs hl h
    rw [C_term] at hl
    obtain ⟨a, b, c, d, e, rfl⟩ := len5 hl
    obtain ⟨x0, h0, w0⟩ := h 0 _ rfl
    simp only [List.getElem_toArray, List.getElem_cons_zero, List.getElem_cons_succ] at h0 w0
    rw [C_kind] at h0
    obtain ⟨k, e0, i0⟩ := opens_int (n := m) Tryd.underlying23 m (Nat.le_refl _) _ _ h0 w0
    simp only [List.drop_succ_cons, List.drop_zero, List.take_succ_cons, List.take_zero, List.cons.injEq, and_true] at e0
    subst e0
    obtain ⟨x1, h1, w1⟩ := h 1 _ rfl
    simp only [List.getElem_toArray, List.getElem_cons_zero, List.getElem_cons_succ] at h1 w1
    rw [C_int] at h1
    obtain ⟨nu, e1, i1⟩ := opens_int (n := m) Tryd.underlying3 m (Nat.le_refl _) _ _ h1 w1
    simp only [List.drop_succ_cons, List.drop_zero, List.take_succ_cons, List.take_zero, List.cons.injEq, and_true] at e1
    subst e1
    obtain ⟨x2, h2, w2⟩ := h 2 _ rfl
    simp only [List.getElem_toArray, List.getElem_cons_zero, List.getElem_cons_succ] at h2 w2
    rw [C_int] at h2
    obtain ⟨at_, e2, i2⟩ := opens_int (n := m) Tryd.underlying3 m (Nat.le_refl _) _ _ h2 w2
    simp only [List.drop_succ_cons, List.drop_zero, List.take_succ_cons, List.take_zero, List.cons.injEq, and_true] at e2
    subst e2
    obtain ⟨x3, h3, w3⟩ := h 3 _ rfl
    simp only [List.getElem_toArray, List.getElem_cons_zero, List.getElem_cons_succ] at h3 w3
    rw [C_levels] at h3
    obtain ⟨ls, vl, e3, s3⟩ := opens_levels m m (Nat.le_refl _) _ _ h3 w3
    simp only [List.drop_succ_cons, List.drop_zero, List.take_succ_cons, List.take_zero, List.cons.injEq, and_true] at e3
    subst e3
    obtain ⟨x4, h4, w4⟩ := h 4 _ rfl
    simp only [List.getElem_toArray, List.getElem_cons_zero, List.getElem_cons_succ] at h4 w4
    rw [C_terms] at h4
    obtain ⟨ks, vk, e4, s4⟩ := Opens.le ihs (m := m) (by omega) m (Nat.le_refl _) _ _ h4 w4
    simp only [List.drop_succ_cons, List.drop_zero, List.take_succ_cons, List.take_zero, List.cons.injEq, and_true] at e4
    subst e4
    exact ⟨.mk k nu at_ ls ks, rterm_iff.2 ⟨_, _, rfl, ⟨i0, i1, i2⟩, s3, s4⟩⟩
theorem opens_terms (n : Nat) : Opens enc w n 25 (fun cs => ∃ (xs : List Term) (v : Value), cs = [v] ∧ SlTerm w xs v) :=
  Opens.le (opens_slice Tryd.underlying25 C_term (by omega) B_term (opens_term n)) (by omega)
theorem opens_member (n : Nat) : Opens enc w n 38 (fun cs => ∃ l : Member, RMember w l cs) := by
  refine Opens.le (n := n + 1) (opens_struct Tryd.underlying38 ?_) (by omega)
  intro m _ cs hl h
  rw [C_member] at hl
  obtain ⟨a, rfl⟩ := len1 hl
  obtain ⟨x0, h0, w0⟩ := h 0 _ rfl
  simp only [List.getElem_toArray, List.getElem_cons_zero, List.getElem_cons_succ] at h0 w0
  rw [C_terms] at h0
  obtain ⟨xs, v, e0, s0⟩ := opens_terms m m (Nat.le_refl _) _ _ h0 w0
  simp only [List.drop_succ_cons, List.drop_zero, List.take_succ_cons, List.take_zero, List.cons.injEq, and_true] at e0
  subst e0
  exact ⟨⟨xs⟩, _, rfl, s0⟩
theorem opens_members (n : Nat) : Opens enc w n 31 (fun cs => ∃ (xs : List Member) (v : Value), cs = [v] ∧ SlMember w xs v) :=
  Opens.le (opens_slice Tryd.underlying31 C_member (by omega) B_member (opens_member n)) (by omega)
theorem opens_ctor (n : Nat) : Opens enc w n 46 (fun cs => ∃ l : Ctor, RCtor w l cs) := by
  refine Opens.le (n := n + 1) (opens_struct Tryd.underlying46 ?_) (by omega)
  intro m _ cs hl h
  rw [C_ctor] at hl
  obtain ⟨a, r, rfl, hr⟩ := len6 hl
  obtain ⟨x0, h0, w0⟩ := h 0 _ rfl
  simp only [List.getElem_toArray, List.getElem_cons_zero, List.getElem_cons_succ] at h0 w0
  rw [C_int] at h0
  obtain ⟨k, e0, i0⟩ := opens_int (n := m) Tryd.underlying3 m (Nat.le_refl _) _ _ h0 w0
  simp only [List.drop_succ_cons, List.drop_zero, List.take_succ_cons, List.take_zero, List.cons.injEq, and_true] at e0
  subst e0
  obtain ⟨x1, h1, w1⟩ := h 1 _ rfl
  simp only [List.getElem_toArray, List.getElem_cons_zero, List.getElem_cons_succ] at h1 w1
  rw [C_term] at h1
  obtain ⟨t, ht⟩ := opens_term m m (Nat.le_refl _) _ _ h1 w1
  simp only [List.drop_succ_cons, List.drop_zero] at ht
  rw [List.take_of_length_le (by omega)] at ht
  exact ⟨⟨k, t⟩, r, rfl, i0, ht⟩
theorem opens_ctors (n : Nat) : Opens enc w n 32 (fun cs => ∃ (xs : List Ctor) (v : Value), cs = [v] ∧ SlCtor w xs v) :=
  Opens.le (opens_slice Tryd.underlying32 C_ctor (by omega) B_ctor (opens_ctor n)) (by omega)
theorem split16 {l : List Value} (h : l.length = 16) : ∃ a b ct cb p s m c, l = a :: b :: (ct ++ (cb ++ [p, s, m, c])) ∧ ct.length = 5 ∧ cb.length = 5 :=
  match l, h with
  | [a, b, c0, c1, c2, c3, c4, d0, d1, d2, d3, d4, p, s, m, c], _ => ⟨a, b, [c0, c1, c2, c3, c4], [d0, d1, d2, d3, d4], p, s, m, c, rfl, rfl, rfl⟩
theorem opens_decl (n : Nat) : Opens enc w n 34 (fun cs => ∃ d : Decl, RDecl w d cs) := by
  refine Opens.le (n := n + 1) (opens_struct Tryd.underlying34 ?_) (by omega)
  intro m _ cs hl h
  rw [C_decl] at hl
  obtain ⟨a, b, ct, cb, p, s, mm, c, rfl, hct, hcb⟩ := split16 hl
  obtain ⟨x0, h0, w0⟩ := h 0 _ rfl
  simp only [List.getElem_toArray, List.getElem_cons_zero, List.getElem_cons_succ] at h0 w0
  rw [C_dkind] at h0
  obtain ⟨k, e0, i0⟩ := opens_int (n := m) Tryd.underlying22 m (Nat.le_refl _) _ _ h0 w0
  simp only [List.drop_succ_cons, List.drop_zero, List.take_succ_cons, List.take_zero, List.cons.injEq, and_true] at e0
  subst e0
  obtain ⟨x1, h1, w1⟩ := h 1 _ rfl
  simp only [List.getElem_toArray, List.getElem_cons_zero, List.getElem_cons_succ] at h1 w1
  rw [C_int] at h1
  obtain ⟨lv, e1, i1⟩ := opens_int (n := m) Tryd.underlying3 m (Nat.le_refl _) _ _ h1 w1
  simp only [List.drop_succ_cons, List.drop_zero, List.take_succ_cons, List.take_zero, List.cons.injEq, and_true] at e1
  subst e1
  obtain ⟨x2, h2, w2⟩ := h 2 _ rfl
  simp only [List.getElem_toArray, List.getElem_cons_zero, List.getElem_cons_succ] at h2 w2
  rw [C_term] at h2
  obtain ⟨ty, hty⟩ := opens_term m m (Nat.le_refl _) _ _ h2 w2
  simp only [List.drop_succ_cons, List.drop_zero] at hty
  rw [List.take_append_of_le_length (by omega), List.take_of_length_le (by omega)] at hty
  obtain ⟨x3, h3, w3⟩ := h 3 _ rfl
  simp only [List.getElem_toArray, List.getElem_cons_zero, List.getElem_cons_succ] at h3 w3
  rw [C_term] at h3
  obtain ⟨bo, hbo⟩ := opens_term m m (Nat.le_refl _) _ _ h3 w3
  simp only [List.drop_succ_cons] at hbo
  rw [show List.drop 5 (ct ++ (cb ++ [p, s, mm, c])) = cb ++ [p, s, mm, c] by rw [List.drop_append_of_le_length (by omega), List.drop_of_length_le (by omega)]; rfl, List.take_append_of_le_length (by omega), List.take_of_length_le (by omega)] at hbo
  have hd : ∀ j, List.drop (10 + j) (ct ++ (cb ++ [p, s, mm, c])) = List.drop j [p, s, mm, c] := fun j => by
    rw [← List.append_assoc, show 10 + j = (ct ++ cb).length + j by simp [hct, hcb], List.drop_append]
    simp
  obtain ⟨x4, h4, w4⟩ := h 4 _ rfl
  simp only [List.getElem_toArray, List.getElem_cons_zero, List.getElem_cons_succ] at h4 w4
  rw [C_terms] at h4
  simp only [List.drop_succ_cons] at h4
  rw [hd 0] at h4
  obtain ⟨ps, vp, e4, s4⟩ := opens_terms m m (Nat.le_refl _) _ _ h4 w4
  simp only [List.drop_succ_cons, List.drop_zero, List.take_succ_cons, List.take_zero, List.cons.injEq, and_true] at e4
  subst e4
  obtain ⟨x5, h5, w5⟩ := h 5 _ rfl
  simp only [List.getElem_toArray, List.getElem_cons_zero, List.getElem_cons_succ] at h5 w5
  rw [C_level] at h5
  simp only [List.drop_succ_cons] at h5
  rw [hd 1] at h5
  obtain ⟨so, vs, es, ss⟩ := opens_level m m (Nat.le_refl _) _ _ h5 w5
  simp only [List.drop_succ_cons, List.drop_zero, List.take_succ_cons, List.take_zero, List.cons.injEq, and_true] at es
  subst es
  obtain ⟨x6, h6, w6⟩ := h 6 _ rfl
  simp only [List.getElem_toArray, List.getElem_cons_zero, List.getElem_cons_succ] at h6 w6
  rw [C_members] at h6
  simp only [List.drop_succ_cons] at h6
  rw [hd 2] at h6
  obtain ⟨ms, vm, e6, s6⟩ := opens_members m m (Nat.le_refl _) _ _ h6 w6
  simp only [List.drop_succ_cons, List.drop_zero, List.take_succ_cons, List.take_zero, List.cons.injEq, and_true] at e6
  subst e6
  obtain ⟨x7, h7, w7⟩ := h 7 _ rfl
  simp only [List.getElem_toArray, List.getElem_cons_zero, List.getElem_cons_succ] at h7 w7
  rw [C_ctors] at h7
  simp only [List.drop_succ_cons] at h7
  rw [hd 3] at h7
  obtain ⟨cts, vc, e7, s7⟩ := opens_ctors m m (Nat.le_refl _) _ _ h7 w7
  simp only [List.drop_succ_cons, List.drop_zero, List.take_succ_cons, List.take_zero, List.cons.injEq, and_true] at e7
  subst e7
  exact ⟨⟨k, lv, ty, bo, ps, so, ms, cts⟩, ct, cb, _, _, _, _, rfl, ⟨i0, i1⟩, hty, hbo, s4, ss, s6, s7⟩
theorem opens_decls (n : Nat) : Opens enc w n 39 (fun cs => ∃ (xs : List Decl) (v : Value), cs = [v] ∧ SlDecl w xs v) :=
  Opens.le (opens_slice Tryd.underlying39 C_decl (by omega) B_decl (opens_decl n)) (by omega)
end
end Go.Proofs.YtjaklnabidbmiaaDoor

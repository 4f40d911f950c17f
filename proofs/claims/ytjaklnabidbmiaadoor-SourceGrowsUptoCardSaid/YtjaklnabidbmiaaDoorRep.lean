/- What terms, declarations and their rows look like in memory when they are read: plain definitions and lemmas; no program is named here. -/
import Derived.WalkKit
import Derived.Deep.RegionHeld3
namespace Go.Proofs.YtjaklnabidbmiaaDoor
open Go.RowKit

structure Part where
  v : Int
  p : Int
  deriving DecidableEq
structure Level where
  parts : List Part
  deriving DecidableEq
inductive Term where
  | mk (kind num at_ : Int) (levels : List Level) (kids : List Term)
structure Member where
  index : List Term
structure Ctor where
  member : Int
  type : Term
structure Decl where
  kind : Int
  levels : Int
  type : Term
  body : Term
  params : List Term
  sort : Level
  members : List Member
  ctors : List Ctor
/-- Nothing: of terms, of declarations. -/
def noTerm : Term := .mk 0 0 0 [] []
def noDecl : Decl := ⟨0, 0, noTerm, noTerm, [], ⟨[]⟩, [], []⟩
/-- The declaration of a number. -/
def dAt (ds : List Decl) (num : Int) : Decl := ds.getD num.toNat noDecl
namespace Term
def kind : Term → Int | mk k _ _ _ _ => k
def num : Term → Int | mk _ n _ _ _ => n
def at_ : Term → Int | mk _ _ a _ _ => a
def levels : Term → List Level | mk _ _ _ l _ => l
def kids : Term → List Term | mk _ _ _ _ k => k
@[simp] theorem kind_mk (k n a l ks) : (mk k n a l ks).kind = k := rfl
@[simp] theorem num_mk (k n a l ks) : (mk k n a l ks).num = n := rfl
@[simp] theorem at_mk (k n a l ks) : (mk k n a l ks).at_ = a := rfl
@[simp] theorem levels_mk (k n a l ks) : (mk k n a l ks).levels = l := rfl
@[simp] theorem kids_mk (k n a l ks) : (mk k n a l ks).kids = ks := rfl
/-- Induction: whatever holds of a term if it holds of all its kids. -/
theorem ind {P : Term → Prop} (h : ∀ k n a l ks, (∀ t ∈ ks, P t) → P (mk k n a l ks)) (t : Term) : P t :=
  Term.rec (motive_1 := P) (motive_2 := fun ks => ∀ t ∈ ks, P t) (fun k n a l ks ih => h k n a l ks ih) (fun _ ht => nomatch ht)
    (fun _ _ h0 h1 t ht => (List.mem_cons.1 ht).elim (fun e => e ▸ h0) (h1 t)) t
end Term

/-- The greatest room that a row that is read takes, in bytes. -/
abbrev LIM : Nat := 140737488351232
def inI (n : Int) : Prop := -9223372036854775808 ≤ n ∧ n ≤ 9223372036854775807

/-- The cells cs lie in block b from o on. -/
def cellsAt (w : World) (b o : Nat) (cs : List Value) : Prop := ∀ j v, cs[j]? = some v → w.cell? ⟨b, o + j, none⟩ = some v

/-- A row of elements, sz cells each (bytes: what one takes), lies at A. -/
def Row {α : Type} (R : World → α → List Value → Prop) (sz bytes : Nat) (w : World) (A : Option Addr) (xs : List α) : Prop :=
  xs.length * bytes ≤ LIM ∧ (xs ≠ [] → ∃ b o, A = some ⟨b, o, none⟩ ∧ ∀ i x, xs[i]? = some x → ∃ cs, R w x cs ∧ cellsAt w b (o + i * sz) cs)

/-- A value that is a slice: a row and its room. -/
def Sl {α : Type} (R : World → α → List Value → Prop) (sz bytes : Nat) (w : World) (xs : List α) (v : Value) : Prop :=
  ∃ A c, v = .slice A xs.length c ∧ xs.length ≤ c ∧ Row R sz bytes w A xs

def RInt (_ : World) (n : Int) (cs : List Value) : Prop := cs = [.int .i64 n] ∧ inI n
def RBool (_ : World) (b : Bool) (cs : List Value) : Prop := cs = [.bool b]
def RPart (_ : World) (p : Part) (cs : List Value) : Prop := cs = [.int .i64 p.v, .int .i64 p.p] ∧ inI p.v ∧ inI p.p
def RLevel (w : World) (l : Level) (cs : List Value) : Prop := ∃ v, cs = [v] ∧ Sl RPart 2 16 w l.parts v
mutual
def RTerm (w : World) : Term → List Value → Prop
  | .mk k n a ls ks, cs => ∃ vl A c, cs = [.int .i64 k, .int .i64 n, .int .i64 a, vl, .slice A ks.length c] ∧ (inI k ∧ inI n ∧ inI a) ∧ Sl RLevel 1 24 w ls vl ∧
      ks.length ≤ c ∧ ks.length * 72 ≤ LIM ∧ (ks ≠ [] → ∃ b o, A = some ⟨b, o, none⟩ ∧ RKids w b o ks)
def RKids (w : World) (b : Nat) : Nat → List Term → Prop
  | _, [] => True
  | o, t :: ts => (∃ cs, RTerm w t cs ∧ cellsAt w b o cs) ∧ RKids w b (o + 5) ts
end
theorem rkids_iff {w : World} {b : Nat} : ∀ {ks : List Term} {o : Nat}, RKids w b o ks ↔ ∀ i x, ks[i]? = some x → ∃ cs, RTerm w x cs ∧ cellsAt w b (o + i * 5) cs
  | [], o => by simp [RKids]
  | t :: ts, o => by
    rw [RKids, rkids_iff]
    constructor
    · rintro ⟨h0, h1⟩ i x hx
      cases i with
      | zero => simp at hx; subst hx; simpa using h0
      | succ i =>
        have := h1 i x (by simpa using hx)
        rwa [show o + 5 + i * 5 = o + (i + 1) * 5 by omega] at this
    · intro h
      refine ⟨by simpa using h 0 t (by simp), fun i x hx => ?_⟩
      have := h (i + 1) x (by simpa using hx)
      rwa [show o + (i + 1) * 5 = o + 5 + i * 5 by omega] at this
abbrev SlTerm := Sl RTerm 5 72
abbrev SlLevel := Sl RLevel 1 24
theorem rterm_iff {w : World} {k n a : Int} {ls : List Level} {ks : List Term} {cs : List Value} :
    RTerm w (.mk k n a ls ks) cs ↔ ∃ vl vk, cs = [.int .i64 k, .int .i64 n, .int .i64 a, vl, vk] ∧ (inI k ∧ inI n ∧ inI a) ∧ SlLevel w ls vl ∧ SlTerm w ks vk := by
  rw [RTerm]
  constructor
  · rintro ⟨vl, A, c, rfl, h, hl, hc, hb, hk⟩
    exact ⟨vl, _, rfl, h, hl, A, c, rfl, hc, hb, fun hne => let ⟨b, o, e, h⟩ := hk hne; ⟨b, o, e, rkids_iff.1 h⟩⟩
  · rintro ⟨vl, vk, rfl, h, hl, A, c, rfl, hc, hb, hk⟩
    exact ⟨vl, A, c, rfl, h, hl, hc, hb, fun hne => let ⟨b, o, e, h⟩ := hk hne; ⟨b, o, e, rkids_iff.2 h⟩⟩
def RMember (w : World) (m : Member) (cs : List Value) : Prop := ∃ v, cs = [v] ∧ SlTerm w m.index v
def RCtor (w : World) (c : Ctor) (cs : List Value) : Prop := ∃ ct, cs = .int .i64 c.member :: ct ∧ inI c.member ∧ RTerm w c.type ct
abbrev SlMember := Sl RMember 1 24
abbrev SlCtor := Sl RCtor 6 80
def RDecl (w : World) (d : Decl) (cs : List Value) : Prop :=
  ∃ ct cb vp vs vm vc, cs = .int .i64 d.kind :: .int .i64 d.levels :: (ct ++ (cb ++ [vp, vs, vm, vc])) ∧ (inI d.kind ∧ inI d.levels) ∧ RTerm w d.type ct ∧ RTerm w d.body cb ∧
    SlTerm w d.params vp ∧ Sl RPart 2 16 w d.sort.parts vs ∧ SlMember w d.members vm ∧ SlCtor w d.ctors vc
abbrev SlDecl := Sl RDecl 16 256

/-! What was there stays. -/
/-- Nothing that was there has turned. -/
abbrev Ext (w w' : World) : Prop := Below w.heap.size w w'
theorem Ext.cell {w w' : World} (h : Ext w w') {a : Addr} {v : Value} (hc : w.cell? a = some v) : w'.cell? a = some v := (Below.cell h (World.block_lt_of_cell? w a hc)).trans hc
theorem Ext.tr {a b c : World} (h : Ext a b) (k : Ext b c) : Ext a c := h.trans (k.mono h.size)
theorem Ext.rf (w : World) : Ext w w := Below.refl _ _
theorem Ext.al {w W : World} (h : Ext w W) (o : Obj) : Ext w (W.alloc o) := Below.alloc h h.size o
theorem Ext.dr {w W : World} (h : Ext w W) : Ext w W.drew := Below.drew h
theorem Ext.st {w W : World} (h : Ext w W) {p : Addr} (hp : w.heap.size ≤ p.block) (u : Value) : Ext w (W.setCell p u) := Below.setCell h hp u
theorem cellsAt.ext {w w' : World} (h : Ext w w') {b o : Nat} {cs : List Value} (hc : cellsAt w b o cs) : cellsAt w' b o cs := fun j v hv => h.cell (hc j v hv)
/-- What is said of elements stays with what is there. -/
def Mono {α : Type} (R : World → α → List Value → Prop) : Prop := ∀ (w w' : World) (x : α) (cs : List Value), Ext w w' → R w x cs → R w' x cs
theorem Row.ext {α : Type} {R : World → α → List Value → Prop} (hm : Mono R) {sz bytes : Nat} {w w' : World} (h : Ext w w') {A : Option Addr} {xs : List α} (hr : Row R sz bytes w A xs) : Row R sz bytes w' A xs :=
  ⟨hr.1, fun hne => let ⟨b, o, e, hx⟩ := hr.2 hne; ⟨b, o, e, fun i x hi => let ⟨cs, h1, h2⟩ := hx i x hi; ⟨cs, hm _ _ _ _ h h1, h2.ext h⟩⟩⟩
theorem Sl.ext {α : Type} {R : World → α → List Value → Prop} (hm : Mono R) {sz bytes : Nat} {w w' : World} (h : Ext w w') {xs : List α} {v : Value} (hr : Sl R sz bytes w xs v) : Sl R sz bytes w' xs v :=
  let ⟨A, c, e, hc, hr⟩ := hr; ⟨A, c, e, hc, hr.ext hm h⟩
theorem mono_int : Mono RInt := fun _ _ _ _ _ h => h
theorem mono_part : Mono RPart := fun _ _ _ _ _ h => h
theorem mono_level : Mono RLevel := fun _ _ _ _ h ⟨v, e, hs⟩ => ⟨v, e, hs.ext mono_part h⟩
theorem mono_term : Mono RTerm := by
  intro w w' t
  revert w w'
  refine Term.ind (P := fun t => ∀ (w w' : World) (cs : List Value), Ext w w' → RTerm w t cs → RTerm w' t cs) ?_ t
  intro k n a l ks ih w w' cs h hr
  obtain ⟨vl, vk, rfl, hi, hl, A, c, rfl, hc, hb, hk⟩ := rterm_iff.1 hr
  refine rterm_iff.2 ⟨vl, _, rfl, hi, hl.ext mono_level h, A, c, rfl, hc, hb, fun hne => ?_⟩
  obtain ⟨b, o, e, hx⟩ := hk hne
  exact ⟨b, o, e, fun i x hi => let ⟨cs, h1, h2⟩ := hx i x hi; ⟨cs, ih x (List.mem_of_getElem? hi) _ _ _ h h1, h2.ext h⟩⟩
theorem mono_member : Mono RMember := fun _ _ _ _ h ⟨v, e, hs⟩ => ⟨v, e, hs.ext mono_term h⟩
theorem mono_ctor : Mono RCtor := fun _ _ _ _ h ⟨ct, e, hi, hs⟩ => ⟨ct, e, hi, mono_term _ _ _ _ h hs⟩
theorem mono_decl : Mono RDecl := fun _ _ _ _ h ⟨ct, cb, vp, vs, vm, vc, e, hi, h1, h2, h3, h4, h5, h6⟩ =>
  ⟨ct, cb, vp, vs, vm, vc, e, hi, mono_term _ _ _ _ h h1, mono_term _ _ _ _ h h2, h3.ext mono_term h, h4.ext mono_part h, h5.ext mono_member h, h6.ext mono_ctor h⟩

theorem lt_of_cell {w : World} {b o : Nat} {v : Value} (h : w.cell? ⟨b, o, none⟩ = some v) : b < w.heap.size := World.block_lt_of_cell? w _ h
theorem ne_of_cell {w : World} {b o : Nat} {v : Value} (h : w.cell? ⟨b, o, none⟩ = some v) : w.heap.size ≠ b := World.new_ne w _ h
theorem hid {p : Prop} (h : p) : Hid p := h
theorem ret_bool {a b : Bool} (h : a = b) : Ending.returned (.bool a) = .returned (.bool b) := by rw [h]
theorem ret_int {k : IntKind} {a b : Int} (h : a = b) : Ending.returned (.int k a) = .returned (.int k b) := by rw [h]
theorem sl_int2 {w : World} {g : Nat} {n a : Int} (hn : inI n) (ha : inI a) (h0 : w.cell? ⟨g, 0, none⟩ = some (.int .i64 n)) (h1 : w.cell? ⟨g, 1, none⟩ = some (.int .i64 a)) : Sl RInt 1 8 w [n, a] (.slice (some ⟨g, 0, none⟩) 2 2) :=
  ⟨_, _, rfl, Nat.le_refl _, (show 2 * 8 ≤ 140737488351232 by decide), fun _ => ⟨g, 0, rfl, fun i x hx => by
    match i, hx with
    | 0, hx => simp at hx; subst hx; exact ⟨_, ⟨rfl, hn⟩, fun j v hv => by match j, hv with | 0, hv => simp at hv; subst hv; simpa using h0⟩
    | 1, hx => simp at hx; subst hx; exact ⟨_, ⟨rfl, ha⟩, fun j v hv => by match j, hv with | 0, hv => simp at hv; subst hv; simpa using h1⟩⟩⟩
/-! Reading: the element i of a row. -/
theorem Row.at_ {α : Type} {R : World → α → List Value → Prop} {sz bytes : Nat} {w : World} {A : Option Addr} {xs : List α} (hr : Row R sz bytes w A xs) {i : Nat} (hi : i < xs.length) :
    ∃ b o cs, A = some ⟨b, o, none⟩ ∧ R w xs[i] cs ∧ cellsAt w b (o + i * sz) cs :=
  let ⟨b, o, e, hx⟩ := hr.2 (by intro h; rw [h] at hi; exact absurd hi (by simp)); let ⟨cs, h1, h2⟩ := hx i xs[i] (List.getElem?_eq_getElem hi); ⟨b, o, cs, e, h1, h2⟩
theorem Row.len_le {α : Type} {R : World → α → List Value → Prop} {sz bytes : Nat} {w : World} {A : Option Addr} {xs : List α} (hr : Row R sz (bytes + 1) w A xs) : xs.length ≤ 140737488351232 :=
  Nat.le_trans (Nat.le_mul_of_pos_right _ (Nat.succ_pos _)) hr.1
theorem cellsAt.at0 {w : World} {b o : Nat} {v : Value} {cs : List Value} (h : cellsAt w b o (v :: cs)) : w.cell? ⟨b, o, none⟩ = some v := by simpa using h 0 v rfl
theorem cellsAt.at1 {w : World} {b o : Nat} {v u : Value} {cs : List Value} (h : cellsAt w b o (u :: v :: cs)) : w.cell? ⟨b, o + 1, none⟩ = some v := h 1 v rfl
theorem cellsAt.at2 {w : World} {b o : Nat} {v u x : Value} {cs : List Value} (h : cellsAt w b o (u :: x :: v :: cs)) : w.cell? ⟨b, o + 2, none⟩ = some v := h 2 v rfl
theorem cellsAt.at3 {w : World} {b o : Nat} {v u x y : Value} {cs : List Value} (h : cellsAt w b o (u :: x :: y :: v :: cs)) : w.cell? ⟨b, o + 3, none⟩ = some v := h 3 v rfl
theorem cellsAt.at4 {w : World} {b o : Nat} {v u x y z : Value} {cs : List Value} (h : cellsAt w b o (u :: x :: y :: z :: v :: cs)) : w.cell? ⟨b, o + 4, none⟩ = some v := h 4 v rfl
theorem bcell {W w1 : World} (hb : Below W.heap.size W w1) : (∀ b o, b < W.heap.size → w1.cell? ⟨b, o, none⟩ = W.cell? ⟨b, o, none⟩) ∧ (∀ b o, b < W.heap.size → w1.frozen? ⟨b, o, none⟩ = W.frozen? ⟨b, o, none⟩) :=
  ⟨fun b o h => hb.cell (p := ⟨b, o, none⟩) h, fun b o h => hb.frozen (p := ⟨b, o, none⟩) h⟩
end Go.Proofs.YtjaklnabidbmiaaDoor

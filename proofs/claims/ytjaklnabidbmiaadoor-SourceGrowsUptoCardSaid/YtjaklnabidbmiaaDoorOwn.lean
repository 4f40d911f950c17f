/- Rows that a call makes itself and appends to: what they hold reads as a list; what is new lies apart from what was. No program is named here. -/
import Derived.Test.YtjaklnabidbmiaaDoorRep
import Derived.Laws.AppendOwn
import Derived.OwnWalk
namespace Go.Proofs.YtjaklnabidbmiaaDoor
open Go.RowKit
set_option linter.unusedSimpArgs false
set_option linter.unusedVariables false

/-! Reading hangs on cells alone. -/
/-- All that is read in w is read in w'. -/
def Sub (w w' : World) : Prop := ∀ b o v, w.cell? ⟨b, o, none⟩ = some v → w'.cell? ⟨b, o, none⟩ = some v
theorem Sub.rf (w : World) : Sub w w := fun _ _ _ h => h
theorem Sub.tr {a b c : World} (h : Sub a b) (k : Sub b c) : Sub a c := fun _ _ _ x => k _ _ _ (h _ _ _ x)
theorem Ext.sub {w w' : World} (h : Ext w w') : Sub w w' := fun _ _ _ x => h.cell x
theorem cellsAt.sub {w w' : World} (h : Sub w w') {b o : Nat} {cs : List Value} (hc : cellsAt w b o cs) : cellsAt w' b o cs := fun j v hv => h _ _ _ (hc j v hv)
def MonoC {α : Type} (R : World → α → List Value → Prop) : Prop := ∀ (w w' : World) (x : α) (cs : List Value), Sub w w' → R w x cs → R w' x cs
theorem Row.sub {α : Type} {R : World → α → List Value → Prop} (hm : MonoC R) {sz bytes : Nat} {w w' : World} (h : Sub w w') {A : Option Addr} {xs : List α} (hr : Row R sz bytes w A xs) : Row R sz bytes w' A xs :=
  ⟨hr.1, fun hne => let ⟨b, o, e, hx⟩ := hr.2 hne; ⟨b, o, e, fun i x hi => let ⟨cs, h1, h2⟩ := hx i x hi; ⟨cs, hm _ _ _ _ h h1, h2.sub h⟩⟩⟩
theorem Sl.sub {α : Type} {R : World → α → List Value → Prop} (hm : MonoC R) {sz bytes : Nat} {w w' : World} (h : Sub w w') {xs : List α} {v : Value} (hr : Sl R sz bytes w xs v) : Sl R sz bytes w' xs v :=
  let ⟨A, c, e, hc, hr⟩ := hr; ⟨A, c, e, hc, hr.sub hm h⟩
theorem monoC_int : MonoC RInt := fun _ _ _ _ _ h => h
theorem monoC_bool : MonoC RBool := fun _ _ _ _ _ h => h
theorem monoC_part : MonoC RPart := fun _ _ _ _ _ h => h
theorem monoC_level : MonoC RLevel := fun _ _ _ _ h ⟨v, e, hs⟩ => ⟨v, e, hs.sub monoC_part h⟩
theorem monoC_term : MonoC RTerm := by
  intro w w' t
  revert w w'
  refine Term.ind (P := fun t => ∀ (w w' : World) (cs : List Value), Sub w w' → RTerm w t cs → RTerm w' t cs) ?_ t
  intro k n a l ks ih w w' cs h hr
  obtain ⟨vl, vk, rfl, hi, hl, A, c, rfl, hc, hb, hk⟩ := rterm_iff.1 hr
  refine rterm_iff.2 ⟨vl, _, rfl, hi, hl.sub monoC_level h, A, c, rfl, hc, hb, fun hne => ?_⟩
  obtain ⟨b, o, e, hx⟩ := hk hne
  exact ⟨b, o, e, fun i x hi => let ⟨cs, h1, h2⟩ := hx i x hi; ⟨cs, ih x (List.mem_of_getElem? hi) _ _ _ h h1, h2.sub h⟩⟩
theorem monoC_member : MonoC RMember := fun _ _ _ _ h ⟨v, e, hs⟩ => ⟨v, e, hs.sub monoC_term h⟩
theorem monoC_ctor : MonoC RCtor := fun _ _ _ _ h ⟨ct, e, hi, hs⟩ => ⟨ct, e, hi, monoC_term _ _ _ _ h hs⟩
theorem monoC_decl : MonoC RDecl := fun _ _ _ _ h ⟨ct, cb, vp, vs, vm, vc, e, hi, h1, h2, h3, h4, h5, h6⟩ =>
  ⟨ct, cb, vp, vs, vm, vc, e, hi, monoC_term _ _ _ _ h h1, monoC_term _ _ _ _ h h2, h3.sub monoC_term h, h4.sub monoC_part h, h5.sub monoC_member h, h6.sub monoC_ctor h⟩

/-! A world of which only some blocks are read. -/
def only (S : Nat → Bool) (w : World) : World := { w with heap := w.heap.mapIdx fun i o => if S i = true then o else .cells #[] 0 (0, 0) }
theorem only_cell (S : Nat → Bool) (w : World) (b o : Nat) : (only S w).cell? ⟨b, o, none⟩ = if S b = true then w.cell? ⟨b, o, none⟩ else none := by
  unfold World.cell? only
  simp only [Array.getElem?_mapIdx]
  cases h : w.heap[b]? with
  | none => simp
  | some x => by_cases hs : S b = true <;> simp [hs]
theorem only_some {S : Nat → Bool} {w : World} {b o : Nat} {v : Value} : (only S w).cell? ⟨b, o, none⟩ = some v ↔ S b = true ∧ w.cell? ⟨b, o, none⟩ = some v := by
  rw [only_cell]
  split <;> simp_all
theorem only_sub (S : Nat → Bool) (w : World) : Sub (only S w) w := fun _ _ _ h => (only_some.1 h).2
theorem only_le {S T : Nat → Bool} (h : ∀ b, S b = true → T b = true) (w : World) : Sub (only S w) (only T w) := fun _ _ _ x => only_some.2 ⟨h _ (only_some.1 x).1, (only_some.1 x).2⟩
/-- The blocks from n on. -/
def fromB (n : Nat) : Nat → Bool := fun b => decide (n ≤ b)
abbrev frm (n : Nat) (w : World) : World := only (fromB n) w
theorem frm_zero (w : World) : Sub w (frm 0 w) := fun _ _ _ h => only_some.2 ⟨by simp [fromB], h⟩
theorem frm_sub (n : Nat) (w : World) : Sub (frm n w) w := only_sub _ _
theorem frm_le {m n : Nat} (h : m ≤ n) (w : World) : Sub (frm n w) (frm m w) := only_le (fun b hb => by simp only [fromB, decide_eq_true_eq] at *; omega) w
theorem only_ext (S : Nat → Bool) {w w' : World} (h : Sub w w') : Sub (only S w) (only S w') := fun _ _ _ x => only_some.2 ⟨(only_some.1 x).1, h _ _ _ (only_some.1 x).2⟩
theorem frm_ext (n : Nat) {w w' : World} (h : Ext w w') : Sub (frm n w) (frm n w') := only_ext _ h.sub

/-- All blocks from n0 on, but one. -/
def butB (n0 : Nat) (k : Option Nat) : Nat → Bool := fun b => decide (n0 ≤ b) && decide (k ≠ some b)
theorem butB_iff {n0 : Nat} {k : Option Nat} {b : Nat} : butB n0 k b = true ↔ n0 ≤ b ∧ k ≠ some b := by simp [butB]
theorem grown_sub {w w' : World} {row : Option Nat} (hg : w.grownBy w' row) (n0 : Nat) : Sub (only (butB n0 row) w) (only (butB n0 row) w') := by
  intro b o v h
  obtain ⟨h1, h2⟩ := only_some.1 h
  refine only_some.2 ⟨h1, ?_⟩
  exact hg.cell h2 (fun e => (butB_iff.1 h1).2 e.symm)
theorem Ext.grown {w w' : World} (h : Ext w w') : w.grownBy w' none := ⟨h.os, h.tape, h.output, h.size, fun k hk _ => h.block k hk⟩
theorem grown_ext {w0 w w' : World} {row : Option Nat} (h : Ext w0 w) (hg : w.grownBy w' row) (hrow : ∀ k, row = some k → w0.heap.size ≤ k) : Ext w0 w' :=
  ⟨hg.os.trans h.os, hg.tape.trans h.tape, hg.output.trans h.output, Nat.le_trans h.size hg.size, fun k hk => (hg.block k (Nat.lt_of_lt_of_le hk h.size) (fun e => by have := hrow k e.symm; omega)).trans (h.block k hk)⟩

/-- v is a row of the call's own, in blocks from base on, its elements, in blocks from n0 on, read as xs, and none of them hangs on the row itself. -/
def OwnS {α : Type} (R : World → α → List Value → Prop) (sz : Nat) (ty : TypeId) (n0 base : Nat) (w : World) (xs : List α) (v : Value) : Prop :=
  ∃ cells, w.ownsRow base ty sz v xs.length cells ∧ ∀ i x, xs[i]? = some x → ∃ cs, R (only (butB n0 v.ownBlock) w) x cs ∧ cs.length = sz ∧ ∀ j u, cs[j]? = some u → cells[i * sz + j]? = some u
section
variable {α : Type} {R : World → α → List Value → Prop} {sz : Nat} {ty : TypeId} {n0 base : Nat} {w : World} {xs : List α} {v : Value}
theorem OwnS.nil : OwnS R sz ty n0 base w ([] : List α) (.slice none 0 0) := ⟨[], World.ownsRow_nil _ _ _ _, fun i x h => by simp at h⟩
theorem OwnS.made (w : World) (cur : Array Value) (cap : Nat) (hb : base ≤ w.heap.size) (hm : cap ≤ maxLen) (hs : cur.size = cap * sz) :
    OwnS R sz ty n0 base (w.alloc (.cells cur ty)) ([] : List α) (.slice (some ⟨w.heap.size, 0, none⟩) 0 cap) :=
  ⟨[], World.ownsRow_made w cur cap hb hm hs, fun i x h => by simp at h⟩
theorem OwnS.lt (h : OwnS R sz ty n0 base w xs v) : ∀ k, v.ownBlock = some k → base ≤ k ∧ k < w.heap.size := let ⟨_, h, _⟩ := h; h.lt
theorem OwnS.val (h : OwnS R sz ty n0 base w xs v) : ∃ A c, v = .slice A xs.length c ∧ xs.length ≤ c := by
  obtain ⟨cells, h, _⟩ := h
  rcases h.2 with ⟨rfl, hn⟩ | ⟨g, cap, cur, rfl, _, _, hc, _⟩
  · exact ⟨none, 0, by rw [hn], by omega⟩
  · exact ⟨_, _, rfl, hc⟩
theorem OwnS.kept {w' : World} {row : Option Nat} (hR : MonoC R) (h : OwnS R sz ty n0 base w xs v) (hg : w.grownBy w' row) (hne : row = none) : OwnS R sz ty n0 base w' xs v := by
  subst hne
  obtain ⟨cells, h1, h2⟩ := h
  refine ⟨cells, h1.kept hg (by cases v.ownBlock <;> simp), fun i x hx => ?_⟩
  obtain ⟨cs, h3, h4, h5⟩ := h2 i x hx
  refine ⟨cs, hR _ _ _ _ (only_ext _ ?_) h3, h4, h5⟩
  intro b o u hc
  exact hg.cell hc (by simp)
theorem OwnS.ext {w' : World} (hR : MonoC R) (h : OwnS R sz ty n0 base w xs v) (hx : Ext w w') : OwnS R sz ty n0 base w' xs v := h.kept hR hx.grown rfl
/-- It reads as a slice. -/
theorem OwnS.sl (hR : MonoC R) (h : OwnS R sz ty n0 base w xs v) {bytes : Nat} (hb : xs.length * bytes ≤ LIM) (hn : n0 ≤ base) : Sl R sz bytes (frm n0 w) xs v := by
  obtain ⟨cells, h1, h2⟩ := h
  rcases h1.2 with ⟨rfl, hz⟩ | ⟨g, cap, cur, rfl, hg, hgg, hc, hm, hs, htake⟩
  · obtain rfl : xs = [] := List.eq_nil_of_length_eq_zero hz
    exact ⟨none, 0, rfl, Nat.le_refl _, by simp, fun hne => absurd rfl hne⟩
  · refine ⟨_, _, rfl, hc, hb, fun _ => ⟨g, 0, rfl, fun i x hx => ?_⟩⟩
    obtain ⟨cs, h3, h4, h5⟩ := h2 i x hx
    refine ⟨cs, hR _ _ _ _ (only_le (fun b hb => by simp only [butB_iff] at hb; simpa [fromB] using hb.1) w) h3, fun j u hu => ?_⟩
    refine only_some.2 ⟨by simp [fromB]; omega, ?_⟩
    have h6 := h1.cells (g := g) rfl (i * sz + j) u (h5 j u hu)
    rw [Addr.add_lit, ← Nat.add_assoc] at h6
    exact h6
/-- One more, wherever it goes. -/
theorem OwnS.snoc {v' : Value} {w' : World} {cs : List Value} {y : α} {m : Nat} (hR : MonoC R) (h : OwnS R sz ty n0 base w xs v) (hcs : cs.length = sz) (hy : R (frm m w) y cs) (hm0 : n0 ≤ m) (hm : ∀ k, v.ownBlock = some k → k < m)
    {cells : List Value} (hc : w.ownsRow base ty sz v xs.length cells) (hc0 : ∀ i x, xs[i]? = some x → ∃ cs, R (only (butB n0 v.ownBlock) w) x cs ∧ cs.length = sz ∧ ∀ j u, cs[j]? = some u → cells[i * sz + j]? = some u)
    (h1 : w'.ownsRow base ty sz v' (xs.length + 1) (cells ++ cs)) (hg : w.grownBy w' v.ownBlock) (hblk : v'.ownBlock = v.ownBlock ∨ ∀ k, v'.ownBlock = some k → w.heap.size ≤ k) : OwnS R sz ty n0 base w' (xs ++ [y]) v' := by
  have hlen : cells.length = xs.length * sz := hc.1
  refine ⟨cells ++ cs, by simpa using h1, fun i x hx => ?_⟩
  have hsub : Sub (only (butB n0 v.ownBlock) w) (only (butB n0 v'.ownBlock) w') := by
    rcases hblk with e | e
    · rw [e]; exact grown_sub hg n0
    · intro b o u hu
      obtain ⟨k1, k2⟩ := only_some.1 hu
      have hb := butB_iff.1 k1
      refine only_some.2 ⟨butB_iff.2 ⟨hb.1, fun e' => ?_⟩, hg.cell k2 (fun e => hb.2 e.symm)⟩
      have := e b e'
      have h9 : b < w.heap.size := World.block_lt_of_cell? w _ k2
      omega
  by_cases hi : i < xs.length
  · rw [List.getElem?_append_left hi] at hx
    obtain ⟨cs', h3, h4, h5⟩ := hc0 i x hx
    refine ⟨cs', hR _ _ _ _ hsub h3, h4, fun j u hu => ?_⟩
    have h6 := h5 j u hu
    rw [List.getElem?_append_left ((List.getElem?_eq_some_iff.1 h6).1)]
    exact h6
  · have hi' : i = xs.length := by
      have := (List.getElem?_eq_some_iff.1 hx).1
      simp at this
      omega
    subst hi'
    simp at hx
    subst hx
    refine ⟨cs, hR _ _ _ _ (Sub.tr ?_ hsub) hy, hcs, fun j u hu => ?_⟩
    · refine only_le (fun b hb => ?_) w
      simp only [fromB, decide_eq_true_eq] at hb
      exact butB_iff.2 ⟨by omega, fun e => by have := hm b e; omega⟩
    · rw [List.getElem?_append_right (by omega), hlen, show xs.length * sz + j - xs.length * sz = j by omega]
      exact hu
end

theorem ownsRow_base {w w' : World} {base : Nat} {e : TypeId} {size : Nat} {v : Value} {n : Nat} {xs : List Value} (hb : base ≤ w.heap.size) (h : w'.ownsRow w.heap.size e size v n xs) : w'.ownsRow base e size v n xs := by
  refine ⟨h.1, ?_⟩
  rcases h.2 with h | ⟨g, cap, cur, h1, h2, h3⟩
  · exact .inl h
  · exact .inr ⟨g, cap, cur, h1, Nat.le_trans hb h2, h3⟩
section
variable {P : Program} {ops : Array Oper} {rest : List Oper} {o : Oper} {a : Act} {Q : Exit → Act → World → Prop}
variable {α : Type} {R : World → α → List Value → Prop} {sz bytes : Nat} {n0 base : Nat} {w : World} {xs : List α} {v : Value}
/-- 'append(out, y)' to a row of the call's own. -/
theorem wpList_append_one (hR : MonoC R) (hgd : o.guard = none) (s x : Operand) (t : TypeId)
    (ho : o.op = .call { callee := .builtin .append, args := #[s, x], argTypes := #[t, t] })
    (e : TypeId) (i : TypeInfo) (z : Value) (ht : P.underlying t = some (.slice e)) (hi : P.info? e = some i) (hz : i.zero = some z)
    (hsize : i.size = sz) (hby : i.bytes = bytes) (hzs : z.cells.size = sz) (hsz : 0 < sz)
    (hs : a.eval s = v) (hown : OwnS R sz e n0 base w xs v) (g c : Nat) (y : α) (cs : List Value) (m : Nat)
    (hx : a.eval x = .slice (some ⟨g, 0, none⟩) 1 c) (hcs : cellsAt w g 0 cs) (hl : cs.length = sz) (h1 : ∀ u ∈ cs, u.oneCell' = true)
    (hy : R (frm m w) y cs) (hm0 : n0 ≤ m) (hm : ∀ k, v.ownBlock = some k → k < m)
    (hbytes : (xs.length + 1) * bytes ≤ LIM) (hbb : 1 ≤ bytes) (hbase : base ≤ w.heap.size)
    (h : ∀ v' w', OwnS R sz e n0 base w' (xs ++ [y]) v' → w.grownBy w' v.ownBlock → wpList P ops Q rest (a.put o.dst v') w') : wpList P ops Q (o :: rest) a w := by
  obtain ⟨cells, hc, hc0⟩ := id hown
  have hle : xs.length + 1 ≤ LIM := Nat.le_trans (Nat.le_mul_of_pos_right _ hbb) hbytes
  refine wpList_plain hgd fun K hK => ?_
  have hadd : ∀ j u, cs[j]? = some u → w.cell? ((⟨g, 0, none⟩ : Addr).add j) = some u := fun j u hu => by
    rw [Addr.add_lit]; exact hcs j u hu
  rcases hc.2 with ⟨rfl, hn⟩ | ⟨gb, cap, cur, rfl, hbg, hg, hnc, hcm, hcs', htake⟩
  · refine wp_append_own w s x t ho w.heap.size e i z sz bytes ht hi hz hsize hby hzs hsz _ xs.length cells hs ⟨hc.1, .inl ⟨rfl, hn⟩⟩ ⟨g, 0, none⟩ 1 c cs hx (by simpa using hl) hadd h1 (by unfold maxLen; unfold LIM at hle; omega) (by unfold LIM at hbytes; omega) (Nat.le_refl _) ?_
    intro v' w' h2 h3 h4
    refine hK _ _ (h v' w' (hown.snoc hR hl hy hm0 hm hc hc0 (ownsRow_base hbase h2) h3 ?_) h3)
    exact .inr fun k hk => (h2.lt k hk).1
  · by_cases hroom : xs.length + 1 ≤ cap
    · obtain ⟨w', hrun, r1, r2⟩ := run_append_fits (P := P) w base t o.type e i sz ht hi hsize gb xs.length cap cells hc ⟨g, 0, none⟩ 1 c cs (by simpa using hl) hadd h1 hroom
      unfold Oper.wp execOp
      simp only [ho, resolve, invoke, builtin, Sem.run_bind, Sem.run_pure, Result.andThen_ok, List.map_toArray, List.map_cons, List.map_nil, hs, hx, hrun]
      exact hK _ _ (h _ w' (hown.snoc hR hl hy hm0 hm hc hc0 r1 r2 (.inl rfl)) r2)
    · have holds : ∀ j u, cells[j]? = some u → w.cell? ((⟨gb, 0, none⟩ : Addr).add j) = some u := hc.cells (g := gb) rfl
      have hrun := run_append_grow (P := P) w t o.type e i z ht hi hz ⟨gb, 0, none⟩ xs.length cap cells (by rw [hsize]; exact hc.1) holds ⟨g, 0, none⟩ 1 c cs (by rw [hsize]; simpa using hl) hadd (by omega) (by unfold LIM at hle; omega) (growslice_fits (by omega) (by rw [hby]; unfold LIM at hbytes; omega))
      have hge := grownCap_ge w (xs.length + 1) cap e
      have hcm' : grownCap w (xs.length + 1) cap e ≤ maxLen := grownCap_le_maxLen w (xs.length + 1) cap e (by unfold maxLen; unfold LIM at hle; omega)
      have hlen : (cells ++ cs).length = (xs.length + 1) * sz := by rw [List.length_append, hc.1, hl, Nat.add_mul, Nat.one_mul]
      have h2 : (w.drew.alloc (.cells (cells.toArray ++ cs.toArray ++ Builtin.zeroCells z.cells (grownCap w (xs.length + 1) cap e - (xs.length + 1))) e)).ownsRow w.heap.size e sz
          (.slice (some ⟨w.heap.size, 0, none⟩) (xs.length + 1) (grownCap w (xs.length + 1) cap e)) (xs.length + 1) (cells ++ cs) := by
        refine ⟨hlen, .inr ⟨w.heap.size, _, _, rfl, Nat.le_refl _, heap_alloc_new w.drew _, hge, hcm', ?_, ?_⟩⟩
        · simp only [Array.size_append, List.size_toArray, size_zeroCells, hzs, hc.1, hl]
          rw [show xs.length * sz + sz = (xs.length + 1) * sz by rw [Nat.add_mul, Nat.one_mul], ← Nat.add_mul]
          congr 1
          omega
        · simp only [Array.toList_append, List.append_assoc]
          rw [← List.append_assoc, ← hlen]
          exact List.take_left
      have h3 : w.grownBy (w.drew.alloc (.cells (cells.toArray ++ cs.toArray ++ Builtin.zeroCells z.cells (grownCap w (xs.length + 1) cap e - (xs.length + 1))) e)) (Value.ownBlock (.slice (some ⟨gb, 0, none⟩) xs.length cap)) :=
        ⟨rfl, rfl, rfl, by simp, fun k hk _ => heap_alloc_old w.drew _ hk⟩
      unfold Oper.wp execOp
      simp only [ho, resolve, invoke, builtin, Sem.run_bind, Sem.run_pure, Result.andThen_ok, List.map_toArray, List.map_cons, List.map_nil, hs, hx, hrun]
      exact hK _ _ (h _ _ (hown.snoc hR hl hy hm0 hm hc hc0 (ownsRow_base hbase h2) h3 (.inr fun k hk => (h2.lt k hk).1)) h3)
/-- 'append(out, y)' where there is room: the row stays where it is. -/
theorem wpList_append_room (hR : MonoC R) (hgd : o.guard = none) (s x : Operand) (t : TypeId)
    (ho : o.op = .call { callee := .builtin .append, args := #[s, x], argTypes := #[t, t] })
    (e : TypeId) (i : TypeInfo) (ht : P.underlying t = some (.slice e)) (hi : P.info? e = some i)
    (hsize : i.size = sz) (gb k cap : Nat)
    (hs : a.eval s = .slice (some ⟨gb, 0, none⟩) k cap) (hown : OwnS R sz e n0 base w xs (.slice (some ⟨gb, 0, none⟩) k cap)) (hk : k = xs.length) (hroom : k + 1 ≤ cap) (g c : Nat) (y : α) (cs : List Value) (m : Nat)
    (hx : a.eval x = .slice (some ⟨g, 0, none⟩) 1 c) (hcs : cellsAt w g 0 cs) (hl : cs.length = sz) (h1 : ∀ u ∈ cs, u.oneCell' = true)
    (hy : R (frm m w) y cs) (hm0 : n0 ≤ m) (hm : gb < m)
    (h : ∀ w', OwnS R sz e n0 base w' (xs ++ [y]) (.slice (some ⟨gb, 0, none⟩) (k + 1) cap) → w.grownBy w' (some gb) → wpList P ops Q rest (a.put o.dst (.slice (some ⟨gb, 0, none⟩) (k + 1) cap)) w') : wpList P ops Q (o :: rest) a w := by
  subst hk
  obtain ⟨cells, hc, hc0⟩ := id hown
  refine wpList_plain hgd fun K hK => ?_
  have hadd : ∀ j u, cs[j]? = some u → w.cell? ((⟨g, 0, none⟩ : Addr).add j) = some u := fun j u hu => by
    rw [Addr.add_lit]; exact hcs j u hu
  obtain ⟨w', hrun, r1, r2⟩ := run_append_fits (P := P) w base t o.type e i sz ht hi hsize gb xs.length cap cells hc ⟨g, 0, none⟩ 1 c cs (by simpa using hl) hadd h1 hroom
  unfold Oper.wp execOp
  simp only [ho, resolve, invoke, builtin, Sem.run_bind, Sem.run_pure, Result.andThen_ok, List.map_toArray, List.map_cons, List.map_nil, hs, hx, hrun]
  exact hK _ _ (h w' (hown.snoc hR hl hy hm0 (fun k' hk' => by simp only [Value.ownBlock, Option.some.injEq] at hk'; omega) hc hc0 r1 r2 (.inl rfl)) r2)
end
end Go.Proofs.YtjaklnabidbmiaaDoor

/- A region that draws its order, of which one operation's answer is not known ahead (a ghost): what waits for it may speak of it; and each operation may turn what is there, as long as it keeps what is told. -/
import Derived.Test.YtjaklnabidbmiaaDoorTwo
import Derived.Test.YtjaklnabidbmiaaDoorWide
import Derived.Deep.RegionLawGrows
namespace Go.Proofs.YtjaklnabidbmiaaDoor
open Go.RowKit
set_option linter.unusedSimpArgs false
set_option linter.unusedVariables false
section
variable {P : Program} {o : Oper} {a : Act} {K : Act → World → Prop} {Q : Exit → Act → World → Prop} {w : World}
/-- A whole row behind an empty one without room: nothing that was there turns. -/
theorem wp_append_first {α : Type} {R : World → α → List Value → Prop} {sz bytes : Nat} (hone : ∀ y cs, R w y cs → Ones sz cs) (s x : Operand) (t : TypeId) (ho : o.op = .call { callee := .builtin .append, args := #[s, x], argTypes := #[t, t] })
    (e : TypeId) (i : TypeInfo) (z : Value) (ht : P.underlying t = some (.slice e)) (hi : P.info? e = some i) (hz : i.zero = some z) (hsize : i.size = sz) (hby : i.bytes = bytes) (hzs : z.cells.size = sz) (hsz : 0 < sz) (hsb : 1 ≤ bytes)
    (g base : Nat) (hs : a.eval s = .slice (some ⟨g, 0, none⟩) 0 0) (hg : w.heap[g]? = some (.cells #[] e (0, 0))) (hb : base ≤ g) (ys : List α) (A : Option Addr) (c : Nat) (hx : a.eval x = .slice A ys.length c) (hr : Row R sz bytes w A ys) (hn : ys.length * bytes ≤ 140737488355328)
    (h : ∀ v' w' news, w'.ownsRow base e sz v' ys.length news → (∀ i x, ys[i]? = some x → ∃ cs, R w x cs ∧ cs.length = sz ∧ ∀ j u, cs[j]? = some u → news[i * sz + j]? = some u) → Ext w w' → K (a.put o.dst v') w') : o.wp P a w K Q := by
  have hle : ys.length ≤ 140737488355328 := Nat.le_trans (Nat.le_mul_of_pos_right _ hsb) hn
  have hgl : g < w.heap.size := (Array.getElem?_eq_some_iff.1 hg).1
  by_cases hne : ys = []
  · subst hne
    have hrun : (Builtin.append_ #[t, t] o.type #[.slice (some ⟨g, 0, none⟩) 0 0, .slice A 0 c]).run P w = .ok (.slice (some ⟨g, 0, none⟩) 0 0) w := by
      cases A <;> simp [Builtin.append_, run_underlying ht, sizeOf, typeInfo, hi, Builtin.lenOf, Builtin.firstCells, loadCells, loadCellsFrom, storeCells]
    unfold Oper.wp execOp
    simp only [ho, resolve, invoke, builtin, Sem.run_bind, Sem.run_pure, Result.andThen_ok, List.map_toArray, List.map_cons, List.map_nil, hs, hx, List.length_nil, hrun]
    exact h _ w [] ⟨by simp, .inr ⟨g, 0, #[], rfl, hb, hg, Nat.le_refl _, Nat.zero_le _, by simp, by simp⟩⟩ (fun i x h => by simp at h) (Ext.rf w)
  · obtain ⟨b, off, rfl, hel⟩ := hr.2 hne
    obtain ⟨news, n1, n2, n3, n4⟩ := row_cells hone ys off hel
    have hpos : 0 < ys.length := List.length_pos_iff.2 hne
    obtain ⟨v', w', hrun, r1, r2⟩ := run_append_arg_grows (P := P) w t o.type e i z sz bytes ht hi hz hsize hby hzs hsz ⟨g, 0, none⟩ 0 0 [] (by simp) (fun j u hu => by simp at hu) ⟨b, off, none⟩ ys.length c news n1 (fun j u hu => by rw [Addr.add_lit]; exact n2 j u hu) (by omega) (by unfold maxLen; omega) (by rw [Nat.zero_add]; exact hn)
    rw [Nat.zero_add, List.nil_append] at r1
    unfold Oper.wp execOp
    simp only [ho, resolve, invoke, builtin, Sem.run_bind, Sem.run_pure, Result.andThen_ok, List.map_toArray, List.map_cons, List.map_nil, hs, hx, hrun]
    refine h v' w' news ?_ n4 (grown_ext (Ext.rf w) r2 (fun k hk => by cases hk))
    refine ⟨r1.1, ?_⟩
    rcases r1.2 with h1 | ⟨g', cap, cur, h1, h2, h3⟩
    · exact .inl h1
    · exact .inr ⟨g', cap, cur, h1, by omega, h3⟩
/-- A whole row behind a row of the call's own. -/
theorem wp_append_all {α : Type} {R : World → α → List Value → Prop} {sz bytes : Nat} (hone : ∀ y cs, R w y cs → Ones sz cs) (s x : Operand) (t : TypeId) (ho : o.op = .call { callee := .builtin .append, args := #[s, x], argTypes := #[t, t] })
    (base : Nat) (e : TypeId) (i : TypeInfo) (z : Value) (ht : P.underlying t = some (.slice e)) (hi : P.info? e = some i) (hz : i.zero = some z) (hsize : i.size = sz) (hby : i.bytes = bytes) (hzs : z.cells.size = sz) (hsz : 0 < sz) (hsb : 1 ≤ bytes)
    (v : Value) (n : Nat) (olds : List Value) (hs : a.eval s = v) (hown : w.ownsRow base e sz v n olds) (ys : List α) (A : Option Addr) (c : Nat) (hx : a.eval x = .slice A ys.length c) (hr : Row R sz bytes w A ys) (hn : (n + ys.length) * bytes ≤ 140737488355328) (hb4 : bytes ≤ 4096) (hbase : base ≤ w.heap.size)
    (h : ∀ v' w' news, w'.ownsRow base e sz v' (n + ys.length) (olds ++ news) → (∀ i x, ys[i]? = some x → ∃ cs, R w x cs ∧ cs.length = sz ∧ ∀ j u, cs[j]? = some u → news[i * sz + j]? = some u) → w.grownBy w' v.ownBlock → K (a.put o.dst v') w') : o.wp P a w K Q := by
  have hK : ∀ a w, K a w → K a w := fun _ _ x => x
  have hle : n + ys.length ≤ 140737488355328 := Nat.le_trans (Nat.le_mul_of_pos_right _ hsb) hn
  by_cases hne : ys = []
  · subst hne
    have hrun : (Builtin.append_ #[t, t] o.type #[v, .slice A 0 c]).run P w = .ok v w := by
      rcases hown.2 with ⟨rfl, _⟩ | ⟨g, cap, cur, rfl, _, hg, hc, _⟩
      · cases A <;> simp [Builtin.append_, run_underlying ht, sizeOf, typeInfo, hi, Builtin.lenOf, Builtin.firstCells, loadCells, loadCellsFrom, storeCells]
      · cases A <;> simp [Builtin.append_, run_underlying ht, sizeOf, typeInfo, hi, Builtin.lenOf, Builtin.firstCells, loadCells, loadCellsFrom, storeCells, hc]
    unfold Oper.wp execOp
    simp only [ho, resolve, invoke, builtin, Sem.run_bind, Sem.run_pure, Result.andThen_ok, List.map_toArray, List.map_cons, List.map_nil, hs, hx, List.length_nil, hrun]
    exact hK _ _ (h v w [] (by simpa using hown) (fun i x h => by simp at h) (World.grownBy.refl _ _))
  · obtain ⟨b, off, rfl, hel⟩ := hr.2 hne
    obtain ⟨news, n1, n2, n3, n4⟩ := row_cells hone ys off hel
    refine wp_append_own_wide w s x t ho base e i z sz bytes ht hi hz hsize hby hzs hsz v n olds hs hown ⟨b, off, none⟩ ys.length c news hx n1 (fun j u hu => by rw [Addr.add_lit]; exact n2 j u hu) n3 (by unfold maxLen; omega) ?_ hbase (fun v' w' h1 h2 _ => h v' w' news h1 n4 h2)
    rw [Nat.add_mul, Nat.add_mul]
    have h4' : (n + ys.length) / 4 * bytes * 4 ≤ (n + ys.length) * bytes := by
      rw [Nat.mul_right_comm]
      exact Nat.mul_le_mul_right _ (Nat.div_mul_le_self _ _)
    have h192 : 192 * bytes ≤ 786432 := by omega
    omega
end
section
variable {P : Program} {ops : Array Oper} {Q : Exit → Act → World → Prop} {γ : Type}
structure StandsG (ops : Array Oper) (G : γ × Bool → Nat → World → Value → Prop) (a0 : Act) (W0 : World) (L : Array Bool) (b : γ × Bool) (a : Act) (w : World) : Prop where
  ext : Ext W0 w
  defers : a.defers = a0.defers
  size : a.tmps.size = a0.tmps.size
  fact : ∀ i o d, ops[i]? = some o → L.getD i false = true → o.dst = some d → G b d w (a.tmps.getD d undef)
  rest : ∀ s, (dstsOfOps ops).contains s = false → a.tmps.getD s undef = a0.tmps.getD s undef
def StepOkG (P : Program) (ops : Array Oper) (Q : Exit → Act → World → Prop) (G : γ × Bool → Nat → World → Value → Prop) (a0 : Act) (W0 : World) (pp : Nat) (pre : List Nat) (i : Nat) (o : Oper) : Prop :=
  ∀ (b : γ × Bool) a w, ((pre.contains i = true ∨ i = pp) → b.2 = false) → Ext W0 w → a.defers = a0.defers → a.tmps.size = a0.tmps.size → (∀ s, canRead ops i s = true → G b s w (a.tmps.getD s undef)) →
    (∀ s, (dstsOfOps ops).contains s = false → a.tmps.getD s undef = a0.tmps.getD s undef) →
    ∀ K : Act → World → Prop, (∀ ph v w', (ph = b.2 ∨ i = pp) → Ext W0 w' → (∀ s x, o.dst ≠ some s → G b s w x → G (b.1, ph) s w' x) → (∀ d, o.dst = some d → G (b.1, ph) d w' v) → K (a.put o.dst v) w') → if Region.wanted o (yielded ops a.tmps) = true then o.wp P a w K Q else K (a.put o.dst undef) w
def StepsSelG (P : Program) (ops : Array Oper) (Q : Exit → Act → World → Prop) (G : γ × Bool → Nat → World → Value → Prop) (a0 : Act) (W0 : World) (pp : Nat) (pre : List Nat) : List Bool → Nat → List Oper → Prop
  | true :: m, i, o :: l => StepOkG P ops Q G a0 W0 pp pre i o ∧ StepsSelG P ops Q G a0 W0 pp pre m (i + 1) l
  | false :: m, i, _ :: l => StepsSelG P ops Q G a0 W0 pp pre m (i + 1) l
  | _, _, _ => True
theorem stepsSelG_at {G : γ × Bool → Nat → World → Value → Prop} {a0 : Act} {W0 : World} {pp : Nat} {pre : List Nat} : ∀ (m : List Bool) (l : List Oper) (k i : Nat) (o : Oper), StepsSelG P ops Q G a0 W0 pp pre m k l → l[i]? = some o → m[i]? = some true → StepOkG P ops Q G a0 W0 pp pre (k + i) o
  | _, [], _, _, _, _, h, _ => by simp at h
  | [], _ :: _, _, _, _, _, _, h => by simp at h
  | true :: m, o' :: l, k, 0, o, h, ho, _ => by
    simp at ho
    subst ho
    exact h.1
  | false :: m, o' :: l, k, 0, o, h, ho, hm => by simp at hm
  | true :: m, o' :: l, k, i + 1, o, h, ho, hm => by
    have := stepsSelG_at m l (k + 1) i o h.2 (by simpa using ho) (by simpa using hm)
    rwa [show k + (i + 1) = k + 1 + i by omega]
  | false :: m, o' :: l, k, i + 1, o, h, ho, hm => by
    have := stepsSelG_at m l (k + 1) i o h (by simpa using ho) (by simpa using hm)
    rwa [show k + (i + 1) = k + 1 + i by omega]
theorem waits_lt (hf : fitOps ops = true) {i j : Nat} (h : j ∈ waits ops i) : j < i := by
  unfold waits at h
  cases ho : ops[i]? with
  | none => simp [ho] at h
  | some o =>
    rw [ho] at h
    obtain ⟨e, he, rfl⟩ := List.mem_map.1 h
    exact fit_after hf ho e (Array.mem_toList_iff.1 (List.mem_filter.1 he).1)
theorem behind_ran {L : Array Bool} (hf : fitOps ops = true) (hc : Closed ops L) (pg : Nat) (nf : List Nat) (hnf : nf.all (fun i => (waits ops i).any (fun k => (k == pg) || nf.contains k)) = true) : ∀ j, j ∈ nf → L.getD j false = true → L.getD pg false = true := by
  intro j
  induction j using Nat.strongRecOn with
  | _ j ih =>
    intro hj hL
    have h1 := List.all_eq_true.1 hnf j hj
    obtain ⟨k, hk, h2⟩ := List.any_eq_true.1 h1
    have hLk := hc j hL k hk
    rw [Bool.or_eq_true] at h2
    rcases h2 with h2 | h2
    · rw [← eq_of_beq h2]; exact hLk
    · exact ih k (waits_lt hf hk) (List.contains_iff_mem.1 h2) hLk
theorem wp_region_ghost {id : Nat} (G : γ × Bool → Nat → World → Value → Prop) (x0 : γ) (pg dg : Nat) (nf : List Nat) (pp : Nat) (pre : List Nat) (mask : List Bool) (oG : Oper) {a0 : Act} {W0 : World} (hP : P.follows .mixedOrders = true) (hf : fitOps ops = true)
    (hg : ops[pg]? = some oG) (hgd : oG.dst = some dg) (hgg : oG.guard = none)
    (hmask : (List.range ops.size).all (fun i => (mask[i]? == some true) || decide (i = pg)) = true)
    (hnf : nf.all (fun i => (waits ops i).any (fun k => (k == pg) || nf.contains k)) = true)
    (hpre : chain ops [pp] pre = true) (hn : (dstsOfOps ops).Nodup) (hd : (dstsOfOps ops).all (fun d => decide (d < a0.tmps.size)) = true)
    (hind : ∀ i o d, ops[i]? = some o → o.dst = some d → nf.contains i = false → i ≠ pg → ∀ x x' ph w v, G (x, ph) d w v → G (x', ph) d w v)
    (hstep : StepsSelG P ops Q G a0 W0 pp pre mask 0 ops.toList)
    (hghost : ∀ (b : γ × Bool) a w, Ext W0 w → a.defers = a0.defers → a.tmps.size = a0.tmps.size → (∀ s, canRead ops pg s = true → G b s w (a.tmps.getD s undef)) →
      (∀ s, (dstsOfOps ops).contains s = false → a.tmps.getD s undef = a0.tmps.getD s undef) →
      ∀ K : Act → World → Prop, (∀ x v w', Ext W0 w' → (∀ s y, G (x, b.2) s w y → G (x, b.2) s w' y) → G (x, b.2) dg w' v → K (a.put (some dg) v) w') → oG.wp P a w K Q)
    (hend : ∀ b a w, Ext W0 w → a.defers = a0.defers → a.tmps.size = a0.tmps.size → (∀ d, (dstsOfOps ops).contains d = true → G b d w (a.tmps.getD d undef)) →
      (∀ s, (dstsOfOps ops).contains s = false → a.tmps.getD s undef = a0.tmps.getD s undef) → Q .normal a w) :
    (Code.region id ops true).wp P Q a0 W0 := by
  have hdst : ∀ (i : Nat) (o : Oper) (d : Nat), ops[i]? = some o → o.dst = some d → d < a0.tmps.size := fun i o d ho h => of_decide_eq_true (List.all_eq_true.1 hd d (mem_dsts ho h))
  refine wp_region_inv (fun L a w => Closed ops L ∧ ∃ b, StandsG ops G a0 W0 L b a w ∧ (b.2 = true → L.getD pp false = true)) hP hf ?_ ?_ ?_
  · have hl : ∀ i, (Array.replicate ops.size false).getD i false = false := fun i => by
      rw [Array.getD_eq_getD_getElem?, Array.getElem?_replicate]
      split <;> rfl
    exact ⟨fun i h => by (rw [hl] at h; cases h), (x0, false), ⟨(Ext.rf W0).dr, rfl, rfl, fun i o d _ h => by (rw [hl] at h; cases h), fun _ _ => rfl⟩, fun h => by cases h⟩
  · rintro i o L a w ho hLs hi hafter ⟨hcl, b, I, Iph⟩ K hK
    have him : i < ops.size := (Array.getElem?_eq_some_iff.1 ho).1
    have hw := waits_run ho hafter
    have hcl' := closed_set hcl hw
    have hread : ∀ s, canRead ops i s = true → G b s w (a.tmps.getD s undef) := by
      intro s hc
      unfold canRead at hc
      rw [ho] at hc
      simp only [Array.any_eq_true] at hc
      obtain ⟨ei, hei, hb⟩ := hc
      have he := Array.getElem_mem hei
      generalize o.after[ei] = e at he hb
      simp only [Bool.and_eq_true] at hb
      obtain ⟨hb1, hb2⟩ := hb
      cases hp : ops[e.on]? with
      | none => simp [hp] at hb2
      | some p =>
        simp only [hp, beq_iff_eq] at hb2
        exact I.fact e.on p s hp (hafter e he hb1) hb2
    have hon : (L.setIfInBounds i true).getD i false = true := by
      rw [Array.getD_eq_getD_getElem?, Array.getElem?_setIfInBounds_self]
      have : i < L.size := by omega
      simp [this]
    have fin : ∀ (b' : γ × Bool) v w', (b'.2 = b.2 ∨ i = pp) → Ext W0 w' → (∀ j oj d, ops[j]? = some oj → L.getD j false = true → oj.dst = some d → G b' d w' (a.tmps.getD d undef)) → (∀ d, o.dst = some d → G b' d w' v) → K (a.put o.dst v) w' := by
      intro b' v w' hph hx hold hv
      refine hK _ _ ⟨hcl', b', ⟨hx, ?_, ?_, ?_, ?_⟩, fun h => ?_⟩
      · cases h : o.dst <;> simp [Act.put, I.defers]
      · cases h : o.dst <;> simp [Act.put, I.size]
      · intro j oj d hj hl hdj
        by_cases hij : j = i
        · subst hij
          rw [ho] at hj
          cases hj
          rw [hdj, put_at (by rw [I.size]; exact hdst _ _ _ ho hdj), if_pos rfl]
          exact hv d hdj
        · rw [ran (fun e => hij e.symm)] at hl
          have hF := hold j oj d hj hl hdj
          cases h : o.dst with
          | none => exact hF
          | some d2 =>
            have hne : d ≠ d2 := fun e => hij (dst_one hn hj ho hdj (by rw [h, e]))
            rw [put_at (by rw [I.size]; exact hdst _ _ _ ho h), if_neg hne]
            exact hF
      · intro s hs'
        cases h : o.dst with
        | none => exact I.rest s hs'
        | some d2 =>
          have hne : s ≠ d2 := fun e => by
            have := List.contains_iff_mem.2 (mem_dsts ho h)
            rw [← e, hs'] at this
            cases this
          rw [put_at (by rw [I.size]; exact hdst _ _ _ ho h), if_neg hne]
          exact I.rest s hs'
      · by_cases hpp : i = pp
        · rw [← hpp]; exact hon
        · rw [ran hpp]
          exact Iph ((hph.resolve_right hpp).symm.trans h)
    by_cases hip : i = pg
    · subst hip
      rw [hg] at ho
      cases ho
      refine step_free hgg ?_
      refine hghost b a w I.ext I.defers I.size hread I.rest K (fun x v w' hx hkeep hv => ?_)
      rw [← hgd]
      refine fin (x, b.2) v w' (.inl rfl) hx (fun j oj d hj hl hdj => ?_) (fun d h => by rw [hgd] at h; cases h; exact hv)
      have hji : j ≠ i := fun e => by subst e; rw [hi] at hl; cases hl
      have hjn : nf.contains j = false := by
        cases h : nf.contains j with
        | false => rfl
        | true => rw [behind_ran hf hcl i nf hnf j (List.contains_iff_mem.1 h) hl] at hi; cases hi
      exact hkeep _ _ (hind j oj d hj hdj hjn hji b.1 x b.2 w _ (I.fact j oj d hj hl hdj))
    · have hmk : mask[i]? = some true := by
        have h9 := List.all_eq_true.1 hmask i (List.mem_range.2 him)
        rw [Bool.or_eq_true] at h9
        rcases h9 with h9 | h9
        · exact eq_of_beq h9
        · exact absurd (of_decide_eq_true h9) hip
      have hs := stepsSelG_at mask ops.toList 0 i o hstep (by simpa using ho) hmk
      rw [Nat.zero_add] at hs
      have hpb : (pre.contains i = true ∨ i = pp) → b.2 = false := fun hc => by
        cases hb : b.2 with
        | false => rfl
        | true =>
          have h1 := Iph hb
          rcases hc with hc | hc
          rotate_left
          · rw [hc, h1] at hi; cases hi
          have h2 := chain_ran pp hcl (hcl pp h1) pre [pp] (fun c hc => .inl (by simpa using hc)) hpre i (List.contains_iff_mem.1 hc)
          rw [hi] at h2
          cases h2
      exact hs b a w hpb I.ext I.defers I.size hread I.rest K (fun ph v w' hph hx hkeep hv => fin (b.1, ph) v w' hph hx (fun j oj d hj hl hdj => hkeep _ _ (fun e => by have := dst_one hn hj ho hdj e; subst this; rw [hi] at hl; cases hl) (I.fact j oj d hj hl hdj)) hv)
  · rintro L a w hLs hall ⟨_, b, I, _⟩
    refine hend b a w I.ext I.defers I.size (fun d hc => ?_) I.rest
    obtain ⟨o', ho', hd'⟩ := List.mem_filterMap.1 (List.contains_iff_mem.1 hc)
    obtain ⟨j, hj, he⟩ := List.mem_iff_getElem.1 ho'
    have hj' : ops[j]? = some o' := by
      rw [← he]
      simp at hj
      simp [hj]
    exact I.fact j o' d hj' (hall j (Array.getElem?_eq_some_iff.1 hj').1) hd'
end
end Go.Proofs.YtjaklnabidbmiaaDoor

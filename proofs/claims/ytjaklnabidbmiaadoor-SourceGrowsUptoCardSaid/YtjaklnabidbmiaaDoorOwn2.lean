/- The law of one append to a row of the call's own, for one operation of a region. Printed by gen_own2.py. -/
import Derived.Test.YtjaklnabidbmiaaDoorWide
namespace Go.Proofs.YtjaklnabidbmiaaDoor
open Go.RowKit
set_option linter.unusedSimpArgs false
set_option linter.unusedVariables false
section
variable {P : Program} {o : Oper} {a : Act} {Q : Exit → Act → World → Prop} {K : Act → World → Prop}
variable {α : Type} {R : World → α → List Value → Prop} {sz bytes : Nat} {n0 base : Nat} {w : World} {xs : List α} {v : Value}
/-- 'append(out, y)' to a row of the call's own. -/
theorem wp_append_one (hR : MonoC R) (s x : Operand) (t : TypeId)
    (ho : o.op = .call { callee := .builtin .append, args := #[s, x], argTypes := #[t, t] })
    (e : TypeId) (i : TypeInfo) (z : Value) (ht : P.underlying t = some (.slice e)) (hi : P.info? e = some i) (hz : i.zero = some z)
    (hsize : i.size = sz) (hby : i.bytes = bytes) (hzs : z.cells.size = sz) (hsz : 0 < sz)
    (hs : a.eval s = v) (hown : OwnS R sz e n0 base w xs v) (g c : Nat) (y : α) (cs : List Value) (m : Nat)
    (hx : a.eval x = .slice (some ⟨g, 0, none⟩) 1 c) (hcs : cellsAt w g 0 cs) (hl : cs.length = sz) (h1 : ∀ u ∈ cs, u.oneCell' = true)
    (hy : R (frm m w) y cs) (hm0 : n0 ≤ m) (hm : ∀ k, v.ownBlock = some k → k < m)
    (hbytes : (xs.length + 1) * bytes ≤ LIM) (hbb : 1 ≤ bytes) (hbase : base ≤ w.heap.size)
    (h : ∀ v' w', OwnS R sz e n0 base w' (xs ++ [y]) v' → w.grownBy w' v.ownBlock → K (a.put o.dst v') w') : o.wp P a w K Q := by
  have hK : ∀ a w, K a w → K a w := fun _ _ x => x
  obtain ⟨cells, hc, hc0⟩ := id hown
  have hle : xs.length + 1 ≤ LIM := Nat.le_trans (Nat.le_mul_of_pos_right _ hbb) hbytes
  have hadd : ∀ j u, cs[j]? = some u → w.cell? ((⟨g, 0, none⟩ : Addr).add j) = some u := fun j u hu => by
    rw [Addr.add_lit]; exact hcs j u hu
  rcases hc.2 with ⟨rfl, hn⟩ | ⟨gb, cap, cur, rfl, hbg, hg, hnc, hcm, hcs', htake⟩
  · refine wp_append_own w s x t ho w.heap.size e i z sz bytes ht hi hz hsize hby hzs hsz _ xs.length cells hs ⟨hc.1, .inl ⟨rfl, hn⟩⟩ ⟨g, 0, none⟩ 1 c cs hx (by simpa using hl) hadd h1 (by unfold maxLen; unfold LIM at hle; omega) (by unfold LIM at hbytes; omega) (Nat.le_refl _) ?_
    intro v' w' h2 h3 h4
    refine hK _ _ (h v' w' (hown.snoc hR hl hy hm0 hm hc hc0 (ownsRow_base hbase h2) h3 ?_) h3)
    exact .inr fun k hk => (h2.lt k hk).1
  · by_cases hroom : xs.length + 1 ≤ cap
    · obtain ⟨w', hrun, r1, r2⟩ := run_append_fits (P := P) w base t o.type e i sz ht hi hsize gb xs.length cap cells hc ⟨g, 0, none⟩ 1 c cs (by simpa using hl) hadd h1 hroom
      unfold Oper.wp execOp
      simp only [ho, resolve, invoke, builtin, Sem.run_bind, Sem.run_pure, Result.andThen_ok, List.map_toArray, List.map_cons, List.map_nil, hs, hx, hrun]
      exact hK _ _ (h _ w' (hown.snoc hR hl hy hm0 hm hc hc0 r1 r2 (.inl rfl)) r2)
    · have holds : ∀ j u, cells[j]? = some u → w.cell? ((⟨gb, 0, none⟩ : Addr).add j) = some u := hc.cells (g := gb) rfl
      have hrun := run_append_grow (P := P) w t o.type e i z ht hi hz ⟨gb, 0, none⟩ xs.length cap cells (by rw [hsize]; exact hc.1) holds ⟨g, 0, none⟩ 1 c cs (by rw [hsize]; simpa using hl) hadd (by omega) (by unfold LIM at hle; omega) (growslice_fits (by omega) (by rw [hby]; unfold LIM at hbytes; omega))
      have hge := grownCap_ge w (xs.length + 1) cap e
      have hcm' : grownCap w (xs.length + 1) cap e ≤ maxLen := grownCap_le_maxLen w (xs.length + 1) cap e (by unfold maxLen; unfold LIM at hle; omega)
      have hlen : (cells ++ cs).length = (xs.length + 1) * sz := by rw [List.length_append, hc.1, hl, Nat.add_mul, Nat.one_mul]
      have h2 : (w.drew.alloc (.cells (cells.toArray ++ cs.toArray ++ Builtin.zeroCells z.cells (grownCap w (xs.length + 1) cap e - (xs.length + 1))) e)).ownsRow w.heap.size e sz
          (.slice (some ⟨w.heap.size, 0, none⟩) (xs.length + 1) (grownCap w (xs.length + 1) cap e)) (xs.length + 1) (cells ++ cs) := by
        refine ⟨hlen, .inr ⟨w.heap.size, _, _, rfl, Nat.le_refl _, heap_alloc_new w.drew _, hge, hcm', ?_, ?_⟩⟩
        · simp only [Array.size_append, List.size_toArray, size_zeroCells, hzs, hc.1, hl]
          rw [show xs.length * sz + sz = (xs.length + 1) * sz by rw [Nat.add_mul, Nat.one_mul], ← Nat.add_mul]
          congr 1
          omega
        · simp only [Array.toList_append, List.append_assoc]
          rw [← List.append_assoc, ← hlen]
          exact List.take_left
      have h3 : w.grownBy (w.drew.alloc (.cells (cells.toArray ++ cs.toArray ++ Builtin.zeroCells z.cells (grownCap w (xs.length + 1) cap e - (xs.length + 1))) e)) (Value.ownBlock (.slice (some ⟨gb, 0, none⟩) xs.length cap)) :=
        ⟨rfl, rfl, rfl, by simp, fun k hk _ => heap_alloc_old w.drew _ hk⟩
      unfold Oper.wp execOp
      simp only [ho, resolve, invoke, builtin, Sem.run_bind, Sem.run_pure, Result.andThen_ok, List.map_toArray, List.map_cons, List.map_nil, hs, hx, hrun]
      exact hK _ _ (h _ _ (hown.snoc hR hl hy hm0 hm hc hc0 (ownsRow_base hbase h2) h3 (.inr fun k hk => (h2.lt k hk).1)) h3)
end
section
variable {α : Type} {R : World → α → List Value → Prop} {sz : Nat} {ty : TypeId} {n0 base : Nat} {w w' : World} {xs : List α} {v : Value}
/-- A store ahead of all that it holds leaves it as it is. -/
theorem OwnS.low (hR : MonoC R) (h : OwnS R sz ty n0 base w xs v) {b k : Nat} {u : Value} (hb : b < n0) (hb2 : b < base) : OwnS R sz ty n0 base (w.setCell ⟨b, k, none⟩ u) xs v := by
  obtain ⟨cells, h1, h2⟩ := h
  have hg : w.grownBy (w.setCell ⟨b, k, none⟩ u) (some b) := ⟨rfl, rfl, rfl, by simp [World.setCell], fun i _ hi => Below.heap_setCell w _ u i (fun e => hi (by rw [e]))⟩
  refine ⟨cells, h1.kept hg ?_, fun i x hx => ?_⟩
  · cases hv : v.ownBlock with
    | none => simp
    | some g => have := (h1.lt g hv).1; exact .inr (fun e => by cases e; omega)
  · obtain ⟨cs, h3, h4, h5⟩ := h2 i x hx
    refine ⟨cs, hR _ _ _ _ (fun b' o' v' h => ?_) h3, h4, h5⟩
    obtain ⟨k1, k2⟩ := only_some.1 h
    have hne : b ≠ b' := fun e => by have := (butB_iff.1 k1).1; omega
    exact only_some.2 ⟨k1, (World.cell?_setCell_far w _ _ _ hne).trans k2⟩
end
theorem grown_there {w w' : World} {row : Option Nat} (hg : w.grownBy w' row) {b o n : Nat} (hne : row ≠ some b) (h : w.there b o n) : w'.there b o n := fun j hj => by
  obtain ⟨h1, h2⟩ := h j hj
  obtain ⟨v, hv⟩ := Option.isSome_iff_exists.1 h1
  have hb := lt_of_cell hv
  have e := hg.block b hb (fun e => hne e.symm)
  unfold World.cell? at h1 ⊢
  unfold World.frozen? at h2 ⊢
  rw [e]
  exact ⟨h1, h2⟩
theorem grown_cells {w w' : World} {row : Option Nat} (hg : w.grownBy w' row) {b o : Nat} {cs : List Value} (hne : row ≠ some b) (h : cellsAt w b o cs) : cellsAt w' b o cs := fun j u hu => hg.cell (h j u hu) (fun e => hne e.symm)
end Go.Proofs.YtjaklnabidbmiaaDoor

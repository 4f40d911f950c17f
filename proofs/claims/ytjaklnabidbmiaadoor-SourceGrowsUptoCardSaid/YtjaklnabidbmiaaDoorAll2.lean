/- Walks: source.walk's all. Printed by gen_all.py. -/
import Derived.Test.YtjaklnabidbmiaaDoorAll
namespace Go.Proofs.YtjaklnabidbmiaaDoor
open Go.RowKit
set_option linter.unusedSimpArgs false
set_option linter.unusedVariables false

mutual
/-- Is a term right over some declarations, with so many variables? -/
def SrcOk (ds : List Decl) (n self : Int) : Term → Int → Prop
  | .mk k nu a ls ks, s => (AskOk ds self s k nu a ls.length ∨ (¬ hasAsk k ∧ k ≤ 7)) ∧ (∀ l ∈ ls, levelRight l n = true) ∧ SrcKids ds n self k 0 ks s
def SrcKids (ds : List Decl) (n self : Int) (k : Int) : Int → List Term → Int → Prop
  | _, [], _ => True
  | i, t :: ts, s => SrcOk ds n self t (s + (if binds k i = true then 1 else 0)) ∧ SrcKids ds n self k (i + 1) ts s
end
theorem srcKids_iff (ds : List Decl) (n self k s : Int) : ∀ (ks : List Term) (i : Int), SrcKids ds n self k i ks s ↔ ∀ (j : Nat) (h : j < ks.length), SrcOk ds n self ks[j] (s + (if binds k (i + j) = true then 1 else 0))
  | [], i => by simp [SrcKids]
  | t :: ts, i => by
    rw [SrcKids, srcKids_iff ds n self k s ts (i + 1)]
    constructor
    · rintro ⟨h0, h1⟩ j hj
      cases j with
      | zero => simpa using h0
      | succ j =>
        have := h1 j (by simpa using hj)
        rw [show i + 1 + (j : Int) = i + ((j + 1 : Nat) : Int) by omega] at this
        simpa using this
    · intro h
      refine ⟨by have := h 0 (by simp); rwa [List.getElem_cons_zero, show i + ((0 : Nat) : Int) = i by omega] at this, fun j hj => ?_⟩
      have := h (j + 1) (by simpa using hj)
      rw [show i + ((j + 1 : Nat) : Int) = i + 1 + (j : Int) by omega] at this
      simpa using this
/-- Not deeper than so, and no number below 0. -/
def Nice : Nat → Term → Prop
  | 0, _ => False
  | d + 1, t => 0 ≤ t.num ∧ ∀ x ∈ t.kids, Nice d x
theorem enters_all1 : Enters 71 := ⟨fun _ _ => by simp [go_sem]⟩
theorem all1_any (l : Level) (cs : List Value) (n : Int) (g : Nat) (w : World) (hR : RLevel w l cs) (hg : w.cell? ⟨g, 1, none⟩ = some (.int .i64 n)) :
    Calls Tryd.prog 71 (#[.agg cs.toArray] ++ #[.pointer (some ⟨g, 0, none⟩)]) w fun e w' => e = .returned (.bool (!levelRight l n)) ∧ Ext w w' := by
  obtain ⟨vc, rfl, hs⟩ := hR
  have h1 := lt_of_cell hg
  go_enter Tryd.func71, Tryd.ntmps71
  go_wp2_with fail
  refine (levelRight_any l n vc _ (hs.ext mono_part ((Ext.rf _).al _))).mono ?_
  rintro e w2 ⟨rfl, hx3⟩
  go_wp2
  go_ret
  exact ⟨rfl, ((Ext.rf _).al _).tr hx3⟩
/-- What the walk of a term says. -/
def AllP (d : Nat) : Prop := ∀ (t : Term), Nice d t → ∀ (ds : List Decl) (n self scope : Int) (vd : Value) (cs : List Value) (w : World), 0 ≤ scope → scope + d ≤ 1125899906842624 → KindsIn w → SlDecl w ds vd → RTerm w t cs →
  Calls Tryd.prog 46 #[.agg #[vd, .int .i64 n, .int .i64 self, .int .i64 scope], .agg cs.toArray] w fun e w' => Ext w w' ∧ ((SrcOk ds n self t scope ∧ e = .returned (.tuple #[])) ∨ (¬ SrcOk ds n self t scope ∧ e = .panicked wrongs))
set_option maxRecDepth 100000 in
set_option maxHeartbeats 4000000 in
theorem all_step (d : Nat) (ih : AllP d) : AllP (d + 1) := by
  intro t ht ds n self scope vd cs w hs0 hs1 hK hd hR
  cases t with | mk k num a ls ks =>
  obtain ⟨hnum, hkids⟩ := ht
  simp only [Term.num_mk, Term.kids_mk] at hnum hkids
  obtain ⟨vl, vk, rfl, hi, hl, hsk⟩ := rterm_iff.1 hR
  have IH := hid ih
  clear ih
  have hmf : ∀ (fn : Fn) (first cap : Array Value) (w : World), (Instr.makeFunc fn first cap).run Tryd.prog w = .ok (.func fn first cap) w := fun _ _ _ _ => rfl
  have hmm := @run_makeMap Tryd.prog
  have m0 : (Instr.mapUpdate 107 (.map (some (w.heap.size + 1 + 1))) (.int .i64 1) (.func (.func 64) #[.agg #[vd, .int .i64 n, .int .i64 self, .int .i64 scope]] #[])).run Tryd.prog (((w.alloc (.cells #[vd, .int .i64 n, .int .i64 self, .int .i64 scope] 87)).alloc (.cells #[.int .i64 k, .int .i64 num, .int .i64 a, vl, vk] 27)).alloc (.map #[] 0)) = .ok () (((w.alloc (.cells #[vd, .int .i64 n, .int .i64 self, .int .i64 scope] 87)).alloc (.cells #[.int .i64 k, .int .i64 num, .int .i64 a, vl, vk] 27)).alloc (.map #[⟨.int .i64 1, .func (.func 64) #[.agg #[vd, .int .i64 n, .int .i64 self, .int .i64 scope]] #[], 0⟩] 1)) :=
    run_insert_fresh 107 23 88 Tryd.underlying107 Tryd.underlying23 _ _ #[] 0 1 _ (by simp) rfl
  have m1 : (Instr.mapUpdate 107 (.map (some (w.heap.size + 1 + 1))) (.int .i64 3) (.func (.func 65) #[.agg #[vd, .int .i64 n, .int .i64 self, .int .i64 scope]] #[])).run Tryd.prog (((w.alloc (.cells #[vd, .int .i64 n, .int .i64 self, .int .i64 scope] 87)).alloc (.cells #[.int .i64 k, .int .i64 num, .int .i64 a, vl, vk] 27)).alloc (.map #[⟨.int .i64 1, .func (.func 64) #[.agg #[vd, .int .i64 n, .int .i64 self, .int .i64 scope]] #[], 0⟩] 1)) = .ok () (((w.alloc (.cells #[vd, .int .i64 n, .int .i64 self, .int .i64 scope] 87)).alloc (.cells #[.int .i64 k, .int .i64 num, .int .i64 a, vl, vk] 27)).alloc (.map #[⟨.int .i64 1, .func (.func 64) #[.agg #[vd, .int .i64 n, .int .i64 self, .int .i64 scope]] #[], 0⟩, ⟨.int .i64 3, .func (.func 65) #[.agg #[vd, .int .i64 n, .int .i64 self, .int .i64 scope]] #[], 1⟩] 2)) :=
    run_insert_fresh 107 23 88 Tryd.underlying107 Tryd.underlying23 _ _ #[⟨.int .i64 1, .func (.func 64) #[.agg #[vd, .int .i64 n, .int .i64 self, .int .i64 scope]] #[], 0⟩] 1 3 _ (by simp) rfl
  have m2 : (Instr.mapUpdate 107 (.map (some (w.heap.size + 1 + 1))) (.int .i64 8) (.func (.func 66) #[.agg #[vd, .int .i64 n, .int .i64 self, .int .i64 scope]] #[])).run Tryd.prog (((w.alloc (.cells #[vd, .int .i64 n, .int .i64 self, .int .i64 scope] 87)).alloc (.cells #[.int .i64 k, .int .i64 num, .int .i64 a, vl, vk] 27)).alloc (.map #[⟨.int .i64 1, .func (.func 64) #[.agg #[vd, .int .i64 n, .int .i64 self, .int .i64 scope]] #[], 0⟩, ⟨.int .i64 3, .func (.func 65) #[.agg #[vd, .int .i64 n, .int .i64 self, .int .i64 scope]] #[], 1⟩] 2)) = .ok () (((w.alloc (.cells #[vd, .int .i64 n, .int .i64 self, .int .i64 scope] 87)).alloc (.cells #[.int .i64 k, .int .i64 num, .int .i64 a, vl, vk] 27)).alloc (.map #[⟨.int .i64 1, .func (.func 64) #[.agg #[vd, .int .i64 n, .int .i64 self, .int .i64 scope]] #[], 0⟩, ⟨.int .i64 3, .func (.func 65) #[.agg #[vd, .int .i64 n, .int .i64 self, .int .i64 scope]] #[], 1⟩, ⟨.int .i64 8, .func (.func 66) #[.agg #[vd, .int .i64 n, .int .i64 self, .int .i64 scope]] #[], 2⟩] 3)) :=
    run_insert_fresh 107 23 88 Tryd.underlying107 Tryd.underlying23 _ _ #[⟨.int .i64 1, .func (.func 64) #[.agg #[vd, .int .i64 n, .int .i64 self, .int .i64 scope]] #[], 0⟩, ⟨.int .i64 3, .func (.func 65) #[.agg #[vd, .int .i64 n, .int .i64 self, .int .i64 scope]] #[], 1⟩] 2 8 _ (by simp) rfl
  have m3 : (Instr.mapUpdate 107 (.map (some (w.heap.size + 1 + 1))) (.int .i64 9) (.func (.func 67) #[.agg #[vd, .int .i64 n, .int .i64 self, .int .i64 scope]] #[])).run Tryd.prog (((w.alloc (.cells #[vd, .int .i64 n, .int .i64 self, .int .i64 scope] 87)).alloc (.cells #[.int .i64 k, .int .i64 num, .int .i64 a, vl, vk] 27)).alloc (.map #[⟨.int .i64 1, .func (.func 64) #[.agg #[vd, .int .i64 n, .int .i64 self, .int .i64 scope]] #[], 0⟩, ⟨.int .i64 3, .func (.func 65) #[.agg #[vd, .int .i64 n, .int .i64 self, .int .i64 scope]] #[], 1⟩, ⟨.int .i64 8, .func (.func 66) #[.agg #[vd, .int .i64 n, .int .i64 self, .int .i64 scope]] #[], 2⟩] 3)) = .ok () (((w.alloc (.cells #[vd, .int .i64 n, .int .i64 self, .int .i64 scope] 87)).alloc (.cells #[.int .i64 k, .int .i64 num, .int .i64 a, vl, vk] 27)).alloc (.map #[⟨.int .i64 1, .func (.func 64) #[.agg #[vd, .int .i64 n, .int .i64 self, .int .i64 scope]] #[], 0⟩, ⟨.int .i64 3, .func (.func 65) #[.agg #[vd, .int .i64 n, .int .i64 self, .int .i64 scope]] #[], 1⟩, ⟨.int .i64 8, .func (.func 66) #[.agg #[vd, .int .i64 n, .int .i64 self, .int .i64 scope]] #[], 2⟩, ⟨.int .i64 9, .func (.func 67) #[.agg #[vd, .int .i64 n, .int .i64 self, .int .i64 scope]] #[], 3⟩] 4)) :=
    run_insert_fresh 107 23 88 Tryd.underlying107 Tryd.underlying23 _ _ #[⟨.int .i64 1, .func (.func 64) #[.agg #[vd, .int .i64 n, .int .i64 self, .int .i64 scope]] #[], 0⟩, ⟨.int .i64 3, .func (.func 65) #[.agg #[vd, .int .i64 n, .int .i64 self, .int .i64 scope]] #[], 1⟩, ⟨.int .i64 8, .func (.func 66) #[.agg #[vd, .int .i64 n, .int .i64 self, .int .i64 scope]] #[], 2⟩] 3 9 _ (by simp) rfl
  have m4 : (Instr.mapUpdate 107 (.map (some (w.heap.size + 1 + 1))) (.int .i64 10) (.func (.func 68) #[.agg #[vd, .int .i64 n, .int .i64 self, .int .i64 scope]] #[])).run Tryd.prog (((w.alloc (.cells #[vd, .int .i64 n, .int .i64 self, .int .i64 scope] 87)).alloc (.cells #[.int .i64 k, .int .i64 num, .int .i64 a, vl, vk] 27)).alloc (.map #[⟨.int .i64 1, .func (.func 64) #[.agg #[vd, .int .i64 n, .int .i64 self, .int .i64 scope]] #[], 0⟩, ⟨.int .i64 3, .func (.func 65) #[.agg #[vd, .int .i64 n, .int .i64 self, .int .i64 scope]] #[], 1⟩, ⟨.int .i64 8, .func (.func 66) #[.agg #[vd, .int .i64 n, .int .i64 self, .int .i64 scope]] #[], 2⟩, ⟨.int .i64 9, .func (.func 67) #[.agg #[vd, .int .i64 n, .int .i64 self, .int .i64 scope]] #[], 3⟩] 4)) = .ok () (((w.alloc (.cells #[vd, .int .i64 n, .int .i64 self, .int .i64 scope] 87)).alloc (.cells #[.int .i64 k, .int .i64 num, .int .i64 a, vl, vk] 27)).alloc (.map #[⟨.int .i64 1, .func (.func 64) #[.agg #[vd, .int .i64 n, .int .i64 self, .int .i64 scope]] #[], 0⟩, ⟨.int .i64 3, .func (.func 65) #[.agg #[vd, .int .i64 n, .int .i64 self, .int .i64 scope]] #[], 1⟩, ⟨.int .i64 8, .func (.func 66) #[.agg #[vd, .int .i64 n, .int .i64 self, .int .i64 scope]] #[], 2⟩, ⟨.int .i64 9, .func (.func 67) #[.agg #[vd, .int .i64 n, .int .i64 self, .int .i64 scope]] #[], 3⟩, ⟨.int .i64 10, .func (.func 68) #[.agg #[vd, .int .i64 n, .int .i64 self, .int .i64 scope]] #[], 4⟩] 5)) :=
    run_insert_fresh 107 23 88 Tryd.underlying107 Tryd.underlying23 _ _ #[⟨.int .i64 1, .func (.func 64) #[.agg #[vd, .int .i64 n, .int .i64 self, .int .i64 scope]] #[], 0⟩, ⟨.int .i64 3, .func (.func 65) #[.agg #[vd, .int .i64 n, .int .i64 self, .int .i64 scope]] #[], 1⟩, ⟨.int .i64 8, .func (.func 66) #[.agg #[vd, .int .i64 n, .int .i64 self, .int .i64 scope]] #[], 2⟩, ⟨.int .i64 9, .func (.func 67) #[.agg #[vd, .int .i64 n, .int .i64 self, .int .i64 scope]] #[], 3⟩] 4 10 _ (by simp) rfl
  have m5 : (Instr.mapUpdate 107 (.map (some (w.heap.size + 1 + 1))) (.int .i64 11) (.func (.func 69) #[.agg #[vd, .int .i64 n, .int .i64 self, .int .i64 scope]] #[])).run Tryd.prog (((w.alloc (.cells #[vd, .int .i64 n, .int .i64 self, .int .i64 scope] 87)).alloc (.cells #[.int .i64 k, .int .i64 num, .int .i64 a, vl, vk] 27)).alloc (.map #[⟨.int .i64 1, .func (.func 64) #[.agg #[vd, .int .i64 n, .int .i64 self, .int .i64 scope]] #[], 0⟩, ⟨.int .i64 3, .func (.func 65) #[.agg #[vd, .int .i64 n, .int .i64 self, .int .i64 scope]] #[], 1⟩, ⟨.int .i64 8, .func (.func 66) #[.agg #[vd, .int .i64 n, .int .i64 self, .int .i64 scope]] #[], 2⟩, ⟨.int .i64 9, .func (.func 67) #[.agg #[vd, .int .i64 n, .int .i64 self, .int .i64 scope]] #[], 3⟩, ⟨.int .i64 10, .func (.func 68) #[.agg #[vd, .int .i64 n, .int .i64 self, .int .i64 scope]] #[], 4⟩] 5)) = .ok () (((w.alloc (.cells #[vd, .int .i64 n, .int .i64 self, .int .i64 scope] 87)).alloc (.cells #[.int .i64 k, .int .i64 num, .int .i64 a, vl, vk] 27)).alloc (.map #[⟨.int .i64 1, .func (.func 64) #[.agg #[vd, .int .i64 n, .int .i64 self, .int .i64 scope]] #[], 0⟩, ⟨.int .i64 3, .func (.func 65) #[.agg #[vd, .int .i64 n, .int .i64 self, .int .i64 scope]] #[], 1⟩, ⟨.int .i64 8, .func (.func 66) #[.agg #[vd, .int .i64 n, .int .i64 self, .int .i64 scope]] #[], 2⟩, ⟨.int .i64 9, .func (.func 67) #[.agg #[vd, .int .i64 n, .int .i64 self, .int .i64 scope]] #[], 3⟩, ⟨.int .i64 10, .func (.func 68) #[.agg #[vd, .int .i64 n, .int .i64 self, .int .i64 scope]] #[], 4⟩, ⟨.int .i64 11, .func (.func 69) #[.agg #[vd, .int .i64 n, .int .i64 self, .int .i64 scope]] #[], 5⟩] 6)) :=
    run_insert_fresh 107 23 88 Tryd.underlying107 Tryd.underlying23 _ _ #[⟨.int .i64 1, .func (.func 64) #[.agg #[vd, .int .i64 n, .int .i64 self, .int .i64 scope]] #[], 0⟩, ⟨.int .i64 3, .func (.func 65) #[.agg #[vd, .int .i64 n, .int .i64 self, .int .i64 scope]] #[], 1⟩, ⟨.int .i64 8, .func (.func 66) #[.agg #[vd, .int .i64 n, .int .i64 self, .int .i64 scope]] #[], 2⟩, ⟨.int .i64 9, .func (.func 67) #[.agg #[vd, .int .i64 n, .int .i64 self, .int .i64 scope]] #[], 3⟩, ⟨.int .i64 10, .func (.func 68) #[.agg #[vd, .int .i64 n, .int .i64 self, .int .i64 scope]] #[], 4⟩] 5 11 _ (by simp) rfl
  have hz : ∀ w, (zeroValue 88).run Tryd.prog w = .ok .nilFunc w := fun w => by simp [go_sem]
  have hlk := fun o hn => run_lookup_fresh (P := Tryd.prog) 107 23 88 Tryd.underlying107 Tryd.underlying23 .nilFunc hz ((w.alloc (.cells #[vd, .int .i64 n, .int .i64 self, .int .i64 scope] 87)).alloc (.cells #[.int .i64 k, .int .i64 num, .int .i64 a, vl, vk] 27)) (w.heap.size + 1 + 1) #[⟨.int .i64 1, .func (.func 64) #[.agg #[vd, .int .i64 n, .int .i64 self, .int .i64 scope]] #[], 0⟩, ⟨.int .i64 3, .func (.func 65) #[.agg #[vd, .int .i64 n, .int .i64 self, .int .i64 scope]] #[], 1⟩, ⟨.int .i64 8, .func (.func 66) #[.agg #[vd, .int .i64 n, .int .i64 self, .int .i64 scope]] #[], 2⟩, ⟨.int .i64 9, .func (.func 67) #[.agg #[vd, .int .i64 n, .int .i64 self, .int .i64 scope]] #[], 3⟩, ⟨.int .i64 10, .func (.func 68) #[.agg #[vd, .int .i64 n, .int .i64 self, .int .i64 scope]] #[], 4⟩, ⟨.int .i64 11, .func (.func 69) #[.agg #[vd, .int .i64 n, .int .i64 self, .int .i64 scope]] #[], 5⟩] 6 k o (by simp) hn
  by_cases hh : hasAsk k
  · obtain ⟨i, K, hfind, hen, hcon⟩ := find_yes ds n self scope vd k num a hh
    have hlook := hlk _ hfind
    have hen' := hen.out
    have HCON := hid hcon
    clear hlk hfind hcon
    go_enter Tryd.func46, Tryd.ntmps46
    go_wp2_with fail
    refine (must_yes [true] _ _ (sl_bool1 (by simp [go_sem])) rfl).mono ?_
    rintro e w1 ⟨rfl, hx1⟩
    have t0' : w1.cell? ⟨w.heap.size + 1, 0, none⟩ = some (.int .i64 k) := hx1.cell (by simp [go_sem])
    have t1' : w1.cell? ⟨w.heap.size + 1, 1, none⟩ = some (.int .i64 num) := hx1.cell (by simp [go_sem])
    have t2' : w1.cell? ⟨w.heap.size + 1, 2, none⟩ = some (.int .i64 a) := hx1.cell (by simp [go_sem])
    have t3' : w1.cell? ⟨w.heap.size + 1, 3, none⟩ = some vl := hx1.cell (by simp [go_sem])
    have t4' : w1.cell? ⟨w.heap.size + 1, 4, none⟩ = some vk := hx1.cell (by simp [go_sem])
    have hxv : Ext w w1 := ((((Ext.rf _).al _).al _).al _).al _ |>.tr hx1
    go_wp2_with fail
    refine (HCON.out ls vl vk w1 (hd.ext mono_decl hxv) (hl.ext mono_level hxv) hnum).mono ?_
    rintro e w2 ⟨hx2', ⟨hok, rfl⟩ | ⟨hno, rfl⟩⟩
    · have hOk : AskOk ds self scope k num a ls.length ∨ (¬ hasAsk k ∧ k ≤ 7) := .inl hok
      clear t0' t1' t2' t3' t4' hen' HCON
      have b0 : w2.cell? ⟨w.heap.size, 0, none⟩ = some vd := hx2'.cell (hx1.cell (by simp [go_sem]))
      have b1 : w2.cell? ⟨w.heap.size, 1, none⟩ = some (.int .i64 n) := hx2'.cell (hx1.cell (by simp [go_sem]))
      have b2 : w2.cell? ⟨w.heap.size, 2, none⟩ = some (.int .i64 self) := hx2'.cell (hx1.cell (by simp [go_sem]))
      have b3 : w2.cell? ⟨w.heap.size, 3, none⟩ = some (.int .i64 scope) := hx2'.cell (hx1.cell (by simp [go_sem]))
      have t0 : w2.cell? ⟨w.heap.size + 1, 0, none⟩ = some (.int .i64 k) := hx2'.cell (hx1.cell (by simp [go_sem]))
      have t3 : w2.cell? ⟨w.heap.size + 1, 3, none⟩ = some vl := hx2'.cell (hx1.cell (by simp [go_sem]))
      have t4 : w2.cell? ⟨w.heap.size + 1, 4, none⟩ = some vk := hx2'.cell (hx1.cell (by simp [go_sem]))
      have hxw : Ext w w2 := ((((Ext.rf _).al _).al _).al _).al _ |>.tr (hx1.tr hx2')
      clear hx1 hx2' m0 m1 m2 m3 m4 m5 hmm hlook
      go_wp2_with fail
      refine (contains_level_pure 71 _ (fun l => !levelRight l n) ls _ _ (hl.ext mono_level hxw) enters_all1 ?_).mono ?_
      · intro x cs W _ hR hW
        exact all1_any x cs n w.heap.size W hR (hW.cell b1)
      rintro e w3 ⟨rfl, hx3⟩
      cases hlv : ls.any fun l => !levelRight l n
      · go_wp2_with fail
        refine (must_yes [true] _ _ (sl_bool1 (by simp [go_sem])) rfl).mono ?_
        rintro e w4 ⟨rfl, hx4⟩
        have hx34 : Ext w3 w4 := ((Ext.rf _).al _).tr hx4
        have hx24 : Ext w2 w4 := hx3.tr hx34
        have hx04 : Ext w w4 := hxw.tr hx24
        have B0 := hx24.cell b0
        have B1 := hx24.cell b1
        have B2 := hx24.cell b2
        have B3 := hx24.cell b3
        have T0 := hx24.cell t0
        have T4 := hx24.cell t4
        clear b0 b1 b2 b3 t0 t3 t4 hx4 hx34
        have hLv : ∀ l ∈ ls, levelRight l n = true := fun l hl => by
          have := List.any_eq_false.1 hlv l hl
          simpa using this
        clear hlv
        obtain ⟨A0, c0, hv0, hc0, hr0⟩ := id hd
        obtain ⟨A2, c2, hv2, hc2, hr2⟩ := id hsk
        subst hv0 hv2
        have hln := hr2.len_le
        go_wp2_with fail
        go_loopw [51] (fun i wr => ∃ j : Nat, j ≤ ks.length ∧ i = .int .i64 j ∧ Ext w4 wr ∧ ∀ (x : Nat) (h : x < ks.length), x < j → SrcOk ds n self ks[x] (scope + (if binds k (0 + x) = true then 1 else 0))) (fun i _ => ks.length - (intOf i).toNat)
        case atStart => exact ⟨0, by omega, rfl, Ext.rf _, fun x _ h => absurd h (by omega)⟩
        case round =>
          rename_i wr
          obtain ⟨j, hj, rfl, hxr, hq⟩ := hrel
          have hx0r := hx04.tr hxr
          by_cases hlt : j < ks.length
          · obtain ⟨b, o, cs, rfl, hRj, hcs0⟩ := hr2.at_ hlt
            have hcs : wr.rangeAt b (o + j * 5) cs := hcs0.ext hx0r
            have hon := rterm_ones hRj
            have hu := Tryd.underlying27
            have hi27 : (Tryd.prog.info? 27).map (·.size) = some cs.length := by rw [hon.1]; kernel_rfl
            have r0 := hxr.cell B0
            have r1 := hxr.cell B1
            have r2 := hxr.cell B2
            have r3 := hxr.cell B3
            have s0 := hxr.cell T0
            have e1 := lt_of_cell r0
            have e2 := lt_of_cell s0
            have e3 : w.heap.size < wr.heap.size + 1 := by omega
            have e4 : w.heap.size + 1 < wr.heap.size + 1 := by omega
            have hs2 : scope + 1 ≤ 9223372036854775807 := by omega
            clear hcs0
            go_wp2_with (first | (refine wpList_load_mid (by rfl) 27 _ (by rfl) b (o + j * 5) (by rfl) cs _ hcs hu (by rfl) hi27 ?_) | (refine wpList_store_fresh (by rfl) 27 _ _ (by rfl) _ 27 cs (by rfl) (by rfl) (by rw [hon.1]; rfl) hi27 hon.2 ?_))
            refine (binds_any k j _ (hK.ext ((hx0r.al _).al _))).mono ?_
            rintro e w5 ⟨rfl, rfl⟩
            cases hbk : binds k j
            · have hbk' := hid hbk
              clear hbk
              go_wp2_with (refine wpList_load_mid (by rfl) 27 _ (by rfl) wr.heap.size 0 (by rfl) cs _ (fun j v hv => by have := range_fresh wr 27 cs j v hv; simpa [go_sem] using this) hu (by rfl) hi27 ?_)
              refine (IH.out ks[j] (hkids _ (List.getElem_mem hlt)) ds n self scope (.slice A0 ds.length c0) cs _ (by omega) (by omega) (hK.ext ((hx0r.al _).al _)) (hd.ext mono_decl ((hx0r.al _).al _)) (mono_term _ _ _ _ ((hx0r.al _).al _) hRj)).mono ?_
              rintro e w6 ⟨hx6, ⟨hsub, rfl⟩ | ⟨hsub, rfl⟩⟩
              · have hx7 : Ext wr w6 := ((Ext.rf _).al _).al _ |>.tr hx6
                go_wp2_with fail
                refine ⟨⟨j + 1, by omega, by go_num, hxr.tr hx7, fun x h1 h2 => ?_⟩, by simp only [intOf]; omega⟩
                by_cases h3 : x < j
                · exact hq x h1 h3
                · obtain rfl : x = j := by omega
                  rw [show (0 : Int) + (x : Int) = x by omega, hbk'.out]
                  simpa using hsub
              · have hx7 : Ext wr w6 := ((Ext.rf _).al _).al _ |>.tr hx6
                go_wp2_with fail
                refine ⟨rfl, hx0r.tr hx7, .inr ⟨fun h => hsub ?_, rfl⟩⟩
                have h1 := (srcKids_iff ds n self k scope ks 0).1 h.2.2 j hlt
                rw [show (0 : Int) + (j : Int) = j by omega, hbk'.out] at h1
                simpa using h1
            · have hbk' := hid hbk
              clear hbk
              go_wp2_with (refine wpList_load_mid (by rfl) 27 _ (by rfl) wr.heap.size 0 (by rfl) cs _ (fun j v hv => by have := range_fresh wr 27 cs j v hv; simpa [go_sem] using this) hu (by rfl) hi27 ?_)
              refine (IH.out ks[j] (hkids _ (List.getElem_mem hlt)) ds n self (scope + 1) (.slice A0 ds.length c0) cs _ (by omega) (by omega) (hK.ext ((hx0r.al _).al _)) (hd.ext mono_decl ((hx0r.al _).al _)) (mono_term _ _ _ _ ((hx0r.al _).al _) hRj)).mono ?_
              rintro e w6 ⟨hx6, ⟨hsub, rfl⟩ | ⟨hsub, rfl⟩⟩
              · have hx7 : Ext wr w6 := ((Ext.rf _).al _).al _ |>.tr hx6
                go_wp2_with fail
                refine ⟨⟨j + 1, by omega, by go_num, hxr.tr hx7, fun x h1 h2 => ?_⟩, by simp only [intOf]; omega⟩
                by_cases h3 : x < j
                · exact hq x h1 h3
                · obtain rfl : x = j := by omega
                  rw [show (0 : Int) + (x : Int) = x by omega, hbk'.out]
                  simpa using hsub
              · have hx7 : Ext wr w6 := ((Ext.rf _).al _).al _ |>.tr hx6
                go_wp2_with fail
                refine ⟨rfl, hx0r.tr hx7, .inr ⟨fun h => hsub ?_, rfl⟩⟩
                have h1 := (srcKids_iff ds n self k scope ks 0).1 h.2.2 j hlt
                rw [show (0 : Int) + (j : Int) = j by omega, hbk'.out] at h1
                simpa using h1
          · obtain rfl : j = ks.length := by omega
            go_wp2_with fail
            go_end0
            exact ⟨hx0r, .inl ⟨⟨hOk, hLv, (srcKids_iff ds n self k scope ks 0).2 fun x h => hq x h h⟩, rfl⟩⟩
      · go_wp2_with fail
        refine (must_no [false] _ _ (sl_bool1 (by simp [go_sem])) rfl).mono ?_
        rintro e w4 ⟨rfl, hx4⟩
        go_wp2_with fail
        refine ⟨rfl, hxw.tr (hx3.tr (((Ext.rf _).al _).tr hx4)), .inr ⟨fun h => ?_, rfl⟩⟩
        obtain ⟨l, hl1, hl2⟩ := List.any_eq_true.1 hlv
        simp [h.2.1 l hl1] at hl2
    · go_wp2_with fail
      refine ⟨rfl, hxv.tr hx2', .inr ⟨fun h => ?_, rfl⟩⟩
      rcases h.1 with h | ⟨h, _⟩
      · exact hno h
      · exact h hh
  · have hlook := hlk _ (find_no _ k hh)
    clear hlk
    by_cases hk7 : k ≤ 7
    · have hOk : AskOk ds self scope k num a ls.length ∨ (¬ hasAsk k ∧ k ≤ 7) := .inr ⟨hh, hk7⟩
      go_enter Tryd.func46, Tryd.ntmps46
      go_wp2_with fail
      refine (must_yes [true] _ _ (sl_bool1 (by simp [go_sem])) rfl).mono ?_
      rintro e w2 ⟨rfl, hx1⟩
      have hx2' := Ext.rf w2
      have b0 : w2.cell? ⟨w.heap.size, 0, none⟩ = some vd := hx2'.cell (hx1.cell (by simp [go_sem]))
      have b1 : w2.cell? ⟨w.heap.size, 1, none⟩ = some (.int .i64 n) := hx2'.cell (hx1.cell (by simp [go_sem]))
      have b2 : w2.cell? ⟨w.heap.size, 2, none⟩ = some (.int .i64 self) := hx2'.cell (hx1.cell (by simp [go_sem]))
      have b3 : w2.cell? ⟨w.heap.size, 3, none⟩ = some (.int .i64 scope) := hx2'.cell (hx1.cell (by simp [go_sem]))
      have t0 : w2.cell? ⟨w.heap.size + 1, 0, none⟩ = some (.int .i64 k) := hx2'.cell (hx1.cell (by simp [go_sem]))
      have t3 : w2.cell? ⟨w.heap.size + 1, 3, none⟩ = some vl := hx2'.cell (hx1.cell (by simp [go_sem]))
      have t4 : w2.cell? ⟨w.heap.size + 1, 4, none⟩ = some vk := hx2'.cell (hx1.cell (by simp [go_sem]))
      have hxw : Ext w w2 := ((((Ext.rf _).al _).al _).al _).al _ |>.tr (hx1.tr hx2')
      clear hx1 hx2' m0 m1 m2 m3 m4 m5 hmm hlook
      go_wp2_with fail
      refine (contains_level_pure 71 _ (fun l => !levelRight l n) ls _ _ (hl.ext mono_level hxw) enters_all1 ?_).mono ?_
      · intro x cs W _ hR hW
        exact all1_any x cs n w.heap.size W hR (hW.cell b1)
      rintro e w3 ⟨rfl, hx3⟩
      cases hlv : ls.any fun l => !levelRight l n
      · go_wp2_with fail
        refine (must_yes [true] _ _ (sl_bool1 (by simp [go_sem])) rfl).mono ?_
        rintro e w4 ⟨rfl, hx4⟩
        have hx34 : Ext w3 w4 := ((Ext.rf _).al _).tr hx4
        have hx24 : Ext w2 w4 := hx3.tr hx34
        have hx04 : Ext w w4 := hxw.tr hx24
        have B0 := hx24.cell b0
        have B1 := hx24.cell b1
        have B2 := hx24.cell b2
        have B3 := hx24.cell b3
        have T0 := hx24.cell t0
        have T4 := hx24.cell t4
        clear b0 b1 b2 b3 t0 t3 t4 hx4 hx34
        have hLv : ∀ l ∈ ls, levelRight l n = true := fun l hl => by
          have := List.any_eq_false.1 hlv l hl
          simpa using this
        clear hlv
        obtain ⟨A0, c0, hv0, hc0, hr0⟩ := id hd
        obtain ⟨A2, c2, hv2, hc2, hr2⟩ := id hsk
        subst hv0 hv2
        have hln := hr2.len_le
        go_wp2_with fail
        go_loopw [51] (fun i wr => ∃ j : Nat, j ≤ ks.length ∧ i = .int .i64 j ∧ Ext w4 wr ∧ ∀ (x : Nat) (h : x < ks.length), x < j → SrcOk ds n self ks[x] (scope + (if binds k (0 + x) = true then 1 else 0))) (fun i _ => ks.length - (intOf i).toNat)
        case atStart => exact ⟨0, by omega, rfl, Ext.rf _, fun x _ h => absurd h (by omega)⟩
        case round =>
          rename_i wr
          obtain ⟨j, hj, rfl, hxr, hq⟩ := hrel
          have hx0r := hx04.tr hxr
          by_cases hlt : j < ks.length
          · obtain ⟨b, o, cs, rfl, hRj, hcs0⟩ := hr2.at_ hlt
            have hcs : wr.rangeAt b (o + j * 5) cs := hcs0.ext hx0r
            have hon := rterm_ones hRj
            have hu := Tryd.underlying27
            have hi27 : (Tryd.prog.info? 27).map (·.size) = some cs.length := by rw [hon.1]; kernel_rfl
            have r0 := hxr.cell B0
            have r1 := hxr.cell B1
            have r2 := hxr.cell B2
            have r3 := hxr.cell B3
            have s0 := hxr.cell T0
            have e1 := lt_of_cell r0
            have e2 := lt_of_cell s0
            have e3 : w.heap.size < wr.heap.size + 1 := by omega
            have e4 : w.heap.size + 1 < wr.heap.size + 1 := by omega
            have hs2 : scope + 1 ≤ 9223372036854775807 := by omega
            clear hcs0
            go_wp2_with (first | (refine wpList_load_mid (by rfl) 27 _ (by rfl) b (o + j * 5) (by rfl) cs _ hcs hu (by rfl) hi27 ?_) | (refine wpList_store_fresh (by rfl) 27 _ _ (by rfl) _ 27 cs (by rfl) (by rfl) (by rw [hon.1]; rfl) hi27 hon.2 ?_))
            refine (binds_any k j _ (hK.ext ((hx0r.al _).al _))).mono ?_
            rintro e w5 ⟨rfl, rfl⟩
            cases hbk : binds k j
            · have hbk' := hid hbk
              clear hbk
              go_wp2_with (refine wpList_load_mid (by rfl) 27 _ (by rfl) wr.heap.size 0 (by rfl) cs _ (fun j v hv => by have := range_fresh wr 27 cs j v hv; simpa [go_sem] using this) hu (by rfl) hi27 ?_)
              refine (IH.out ks[j] (hkids _ (List.getElem_mem hlt)) ds n self scope (.slice A0 ds.length c0) cs _ (by omega) (by omega) (hK.ext ((hx0r.al _).al _)) (hd.ext mono_decl ((hx0r.al _).al _)) (mono_term _ _ _ _ ((hx0r.al _).al _) hRj)).mono ?_
              rintro e w6 ⟨hx6, ⟨hsub, rfl⟩ | ⟨hsub, rfl⟩⟩
              · have hx7 : Ext wr w6 := ((Ext.rf _).al _).al _ |>.tr hx6
                go_wp2_with fail
                refine ⟨⟨j + 1, by omega, by go_num, hxr.tr hx7, fun x h1 h2 => ?_⟩, by simp only [intOf]; omega⟩
                by_cases h3 : x < j
                · exact hq x h1 h3
                · obtain rfl : x = j := by omega
                  rw [show (0 : Int) + (x : Int) = x by omega, hbk'.out]
                  simpa using hsub
              · have hx7 : Ext wr w6 := ((Ext.rf _).al _).al _ |>.tr hx6
                go_wp2_with fail
                refine ⟨rfl, hx0r.tr hx7, .inr ⟨fun h => hsub ?_, rfl⟩⟩
                have h1 := (srcKids_iff ds n self k scope ks 0).1 h.2.2 j hlt
                rw [show (0 : Int) + (j : Int) = j by omega, hbk'.out] at h1
                simpa using h1
            · have hbk' := hid hbk
              clear hbk
              go_wp2_with (refine wpList_load_mid (by rfl) 27 _ (by rfl) wr.heap.size 0 (by rfl) cs _ (fun j v hv => by have := range_fresh wr 27 cs j v hv; simpa [go_sem] using this) hu (by rfl) hi27 ?_)
              refine (IH.out ks[j] (hkids _ (List.getElem_mem hlt)) ds n self (scope + 1) (.slice A0 ds.length c0) cs _ (by omega) (by omega) (hK.ext ((hx0r.al _).al _)) (hd.ext mono_decl ((hx0r.al _).al _)) (mono_term _ _ _ _ ((hx0r.al _).al _) hRj)).mono ?_
              rintro e w6 ⟨hx6, ⟨hsub, rfl⟩ | ⟨hsub, rfl⟩⟩
              · have hx7 : Ext wr w6 := ((Ext.rf _).al _).al _ |>.tr hx6
                go_wp2_with fail
                refine ⟨⟨j + 1, by omega, by go_num, hxr.tr hx7, fun x h1 h2 => ?_⟩, by simp only [intOf]; omega⟩
                by_cases h3 : x < j
                · exact hq x h1 h3
                · obtain rfl : x = j := by omega
                  rw [show (0 : Int) + (x : Int) = x by omega, hbk'.out]
                  simpa using hsub
              · have hx7 : Ext wr w6 := ((Ext.rf _).al _).al _ |>.tr hx6
                go_wp2_with fail
                refine ⟨rfl, hx0r.tr hx7, .inr ⟨fun h => hsub ?_, rfl⟩⟩
                have h1 := (srcKids_iff ds n self k scope ks 0).1 h.2.2 j hlt
                rw [show (0 : Int) + (j : Int) = j by omega, hbk'.out] at h1
                simpa using h1
          · obtain rfl : j = ks.length := by omega
            go_wp2_with fail
            go_end0
            exact ⟨hx0r, .inl ⟨⟨hOk, hLv, (srcKids_iff ds n self k scope ks 0).2 fun x h => hq x h h⟩, rfl⟩⟩
      · go_wp2_with fail
        refine (must_no [false] _ _ (sl_bool1 (by simp [go_sem])) rfl).mono ?_
        rintro e w4 ⟨rfl, hx4⟩
        go_wp2_with fail
        refine ⟨rfl, hxw.tr (hx3.tr (((Ext.rf _).al _).tr hx4)), .inr ⟨fun h => ?_, rfl⟩⟩
        obtain ⟨l, hl1, hl2⟩ := List.any_eq_true.1 hlv
        simp [h.2.1 l hl1] at hl2
    · go_enter Tryd.func46, Tryd.ntmps46
      go_wp2_with fail
      refine (must_no [false] _ _ (sl_bool1 (by simp [go_sem])) rfl).mono ?_
      rintro e w2 ⟨rfl, hx1⟩
      go_wp2_with fail
      refine ⟨rfl, ((((Ext.rf _).al _).al _).al _).al _ |>.tr hx1, .inr ⟨fun h => ?_, rfl⟩⟩
      rcases h.1 with h | ⟨_, h⟩
      · exact hh (by unfold AskOk at h; unfold hasAsk; rcases h with h | h | h | h | h | h <;> simp [h.1])
      · omega
theorem all_any : ∀ d, AllP d
  | 0 => fun _ h => h.elim
  | d + 1 => all_step d (all_any d)
end Go.Proofs.YtjaklnabidbmiaaDoor

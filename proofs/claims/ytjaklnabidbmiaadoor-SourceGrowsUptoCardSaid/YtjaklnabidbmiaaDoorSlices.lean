/- Contracts of the library's slices.IndexFunc and slices.ContainsFunc at the types that are wanted: whatever the function handed in does, as long as what is read stays. Printed by gen_slices.py. -/
import Derived.Test.YtjaklnabidbmiaaDoorProg
import Derived.Test.YtjaklnabidbmiaaDoorRep
import Derived.WalkSpells
import Derived.WalkLawsBesides
namespace Go.Proofs.YtjaklnabidbmiaaDoor
open Go.RowKit
/-- A call of function K enters it. -/
structure Enters (K : Nat) : Prop where
  out : ∀ args w, Sem.run Tryd.prog (callFunc K args) w = .ok (.enter K args) w

/-- What the function that is handed in owes: at each element that is read. -/
def Asks_part (K : Nat) (caps : Array Value) (l : List Part) (w0 : World) (J JX : Nat → World → Prop) : Prop :=
  ∀ i (hi : i < l.length) cs W, RPart w0 l[i] cs → Below w0.heap.size w0 W → J i W → Calls Tryd.prog K (#[.agg cs.toArray] ++ caps) W fun e W' =>
    Below w0.heap.size w0 W' ∧ ((e = .returned (.bool false) ∧ J (i + 1) W') ∨ (e = .returned (.bool true) ∧ JX i W'))
set_option maxRecDepth 100000 in
set_option maxHeartbeats 400000 in
theorem index_part (K : Nat) (caps : Array Value) (l : List Part) (v : Value) (w0 w : World) (hs : Sl RPart 2 16 w0 l v) (hB : Below w0.heap.size w0 w) (J JX : Nat → World → Prop) (hK : Enters K) (hf : Asks_part K caps l w0 J JX) (h0 : J 0 w) :
    Calls Tryd.prog 92 #[v, .func (.func K) #[] caps] w fun e w' => Below w0.heap.size w0 w' ∧ ((e = .returned (.int .i64 (-1)) ∧ J l.length w') ∨ ∃ i : Nat, i < l.length ∧ e = .returned (.int .i64 i) ∧ JX i w') := by
  obtain ⟨A, c, rfl, hc, hr⟩ := hs
  have hl := hr.len_le
  have hK' := hK.out
  go_enter Tryd.func92, Tryd.ntmps92
  go_wp2_with fail
  go_loopw [5, 8] (fun _ i wr => ∃ k : Nat, k ≤ l.length ∧ i = .int .i64 k ∧ Below w0.heap.size w0 wr ∧ J k wr) (fun _ i _ => l.length - (intOf i).toNat)
  case atStart => exact ⟨0, by omega, rfl, hB, h0⟩
  case round =>
    rename_i wr
    obtain ⟨k, hk, rfl, hx, hj⟩ := hrel
    by_cases hlt : k < l.length
    · obtain ⟨b, o, cs, rfl, hR, hcs0⟩ := hr.at_ hlt
      have hcs := hcs0.ext hx
      clear hcs0
      have hcall := hf k hlt cs wr hR hx hj
      obtain ⟨rfl, _⟩ := hR
      have h0 := hcs.at0
      have h1 := hcs.at1
      clear hcs
      have HC := hid hcall
      clear hcall
      go_wp2_with fail
      refine HC.out.mono ?_
      rintro e w' ⟨hx', ⟨rfl, hj'⟩ | ⟨rfl, hj'⟩⟩
      · go_wp2_with fail
        exact ⟨⟨k + 1, by omega, by go_num, hx', hj'⟩, by simp only [intOf]; omega⟩
      · go_wp2_with fail
        go_ret
        exact ⟨hx', .inr ⟨k, hlt, rfl, hj'⟩⟩
    · obtain rfl : k = l.length := by omega
      go_wp2_with fail
      go_ret
      exact ⟨hx, .inl ⟨rfl, hj⟩⟩
theorem contains_part (K : Nat) (caps : Array Value) (l : List Part) (v : Value) (w0 w : World) (hs : Sl RPart 2 16 w0 l v) (hB : Below w0.heap.size w0 w) (J JX : Nat → World → Prop) (hK : Enters K) (hf : Asks_part K caps l w0 J JX) (h0 : J 0 w) :
    Calls Tryd.prog 79 #[v, .func (.func K) #[] caps] w fun e w' => Below w0.heap.size w0 w' ∧ ((e = .returned (.bool false) ∧ J l.length w') ∨ ∃ i : Nat, i < l.length ∧ e = .returned (.bool true) ∧ JX i w') := by
  have hcall := index_part K caps l v w0 w hs hB J JX hK hf h0
  obtain ⟨A, c, rfl, hc, hr⟩ := hs
  clear hf h0
  have HC := hid hcall
  clear hcall
  go_enter Tryd.func79, Tryd.ntmps79
  go_wp2_with fail
  refine HC.out.mono ?_
  rintro e w' ⟨hx', ⟨rfl, hj'⟩ | ⟨i, hi, rfl, hj'⟩⟩
  · go_wp2_with fail
    go_ret
    exact ⟨hx', .inl ⟨rfl, hj'⟩⟩
  · go_wp2_with fail
    go_ret
    first | exact ⟨hx', .inr ⟨i, hi, rfl, hj'⟩⟩ | exact ⟨hx', .inr ⟨i, hi, ret_bool (by simp), hj'⟩⟩
/-- The same of a function that only tells something of each element. -/
theorem contains_part_pure (K : Nat) (caps : Array Value) (p : Part → Bool) (l : List Part) (v : Value) (w : World) (hs : Sl RPart 2 16 w l v) (hK : Enters K)
    (hf : ∀ x cs W, x ∈ l → RPart W x cs → Ext w W → Calls Tryd.prog K (#[.agg cs.toArray] ++ caps) W fun e W' => e = .returned (.bool (p x)) ∧ Ext W W') :
    Calls Tryd.prog 79 #[v, .func (.func K) #[] caps] w fun e w' => e = .returned (.bool (l.any p)) ∧ Ext w w' := by
  refine (contains_part K caps l v w w hs (Ext.rf _) (fun n _ => ∀ i (h : i < l.length), i < n → p l[i] = false) (fun i _ => ∃ h : i < l.length, p l[i] = true) hK ?_ (fun _ _ h => absurd h (by omega))).mono ?_
  · intro i hi cs W hR hB hJ
    refine (hf l[i] cs W (List.getElem_mem hi) (mono_part _ _ _ _ hB hR) hB).mono ?_
    rintro e W' ⟨rfl, hx⟩
    refine ⟨Ext.tr hB hx, ?_⟩
    cases hp : p l[i]
    · exact .inl ⟨rfl, fun j h1 h2 => by
        by_cases h3 : j < i
        · exact hJ j h1 h3
        · obtain rfl : j = i := by omega
          exact hp⟩
    · exact .inr ⟨rfl, hi, hp⟩
  · rintro e w' ⟨hB, ⟨rfl, hJ⟩ | ⟨i, _, rfl, h, hp⟩⟩
    · refine ⟨ret_bool (Eq.symm ?_), hB⟩
      rw [List.any_eq_false]
      intro x hx
      obtain ⟨j, h1, rfl⟩ := List.getElem_of_mem hx
      rw [hJ j h1 h1]
      simp
    · exact ⟨ret_bool (List.any_eq_true.2 ⟨_, List.getElem_mem h, hp⟩).symm, hB⟩

/-- What the function that is handed in owes: at each element that is read. -/
def Asks_level (K : Nat) (caps : Array Value) (l : List Level) (w0 : World) (J JX : Nat → World → Prop) : Prop :=
  ∀ i (hi : i < l.length) cs W, RLevel w0 l[i] cs → Below w0.heap.size w0 W → J i W → Calls Tryd.prog K (#[.agg cs.toArray] ++ caps) W fun e W' =>
    Below w0.heap.size w0 W' ∧ ((e = .returned (.bool false) ∧ J (i + 1) W') ∨ (e = .returned (.bool true) ∧ JX i W'))
set_option maxRecDepth 100000 in
set_option maxHeartbeats 400000 in
theorem index_level (K : Nat) (caps : Array Value) (l : List Level) (v : Value) (w0 w : World) (hs : Sl RLevel 1 24 w0 l v) (hB : Below w0.heap.size w0 w) (J JX : Nat → World → Prop) (hK : Enters K) (hf : Asks_level K caps l w0 J JX) (h0 : J 0 w) :
    Calls Tryd.prog 90 #[v, .func (.func K) #[] caps] w fun e w' => Below w0.heap.size w0 w' ∧ ((e = .returned (.int .i64 (-1)) ∧ J l.length w') ∨ ∃ i : Nat, i < l.length ∧ e = .returned (.int .i64 i) ∧ JX i w') := by
  obtain ⟨A, c, rfl, hc, hr⟩ := hs
  have hl := hr.len_le
  have hK' := hK.out
  go_enter Tryd.func90, Tryd.ntmps90
  go_wp2_with fail
  go_loopw [5, 8] (fun _ i wr => ∃ k : Nat, k ≤ l.length ∧ i = .int .i64 k ∧ Below w0.heap.size w0 wr ∧ J k wr) (fun _ i _ => l.length - (intOf i).toNat)
  case atStart => exact ⟨0, by omega, rfl, hB, h0⟩
  case round =>
    rename_i wr
    obtain ⟨k, hk, rfl, hx, hj⟩ := hrel
    by_cases hlt : k < l.length
    · obtain ⟨b, o, cs, rfl, hR, hcs0⟩ := hr.at_ hlt
      have hcs := hcs0.ext hx
      clear hcs0
      have hcall := hf k hlt cs wr hR hx hj
      obtain ⟨vc, rfl, _⟩ := hR
      have h0 := hcs.at0
      rw [Nat.mul_one] at h0
      clear hcs
      have HC := hid hcall
      clear hcall
      go_wp2_with fail
      refine HC.out.mono ?_
      rintro e w' ⟨hx', ⟨rfl, hj'⟩ | ⟨rfl, hj'⟩⟩
      · go_wp2_with fail
        exact ⟨⟨k + 1, by omega, by go_num, hx', hj'⟩, by simp only [intOf]; omega⟩
      · go_wp2_with fail
        go_ret
        exact ⟨hx', .inr ⟨k, hlt, rfl, hj'⟩⟩
    · obtain rfl : k = l.length := by omega
      go_wp2_with fail
      go_ret
      exact ⟨hx, .inl ⟨rfl, hj⟩⟩
theorem contains_level (K : Nat) (caps : Array Value) (l : List Level) (v : Value) (w0 w : World) (hs : Sl RLevel 1 24 w0 l v) (hB : Below w0.heap.size w0 w) (J JX : Nat → World → Prop) (hK : Enters K) (hf : Asks_level K caps l w0 J JX) (h0 : J 0 w) :
    Calls Tryd.prog 70 #[v, .func (.func K) #[] caps] w fun e w' => Below w0.heap.size w0 w' ∧ ((e = .returned (.bool false) ∧ J l.length w') ∨ ∃ i : Nat, i < l.length ∧ e = .returned (.bool true) ∧ JX i w') := by
  have hcall := index_level K caps l v w0 w hs hB J JX hK hf h0
  obtain ⟨A, c, rfl, hc, hr⟩ := hs
  clear hf h0
  have HC := hid hcall
  clear hcall
  go_enter Tryd.func70, Tryd.ntmps70
  go_wp2_with fail
  refine HC.out.mono ?_
  rintro e w' ⟨hx', ⟨rfl, hj'⟩ | ⟨i, hi, rfl, hj'⟩⟩
  · go_wp2_with fail
    go_ret
    exact ⟨hx', .inl ⟨rfl, hj'⟩⟩
  · go_wp2_with fail
    go_ret
    first | exact ⟨hx', .inr ⟨i, hi, rfl, hj'⟩⟩ | exact ⟨hx', .inr ⟨i, hi, ret_bool (by simp), hj'⟩⟩
/-- The same of a function that only tells something of each element. -/
theorem contains_level_pure (K : Nat) (caps : Array Value) (p : Level → Bool) (l : List Level) (v : Value) (w : World) (hs : Sl RLevel 1 24 w l v) (hK : Enters K)
    (hf : ∀ x cs W, x ∈ l → RLevel W x cs → Ext w W → Calls Tryd.prog K (#[.agg cs.toArray] ++ caps) W fun e W' => e = .returned (.bool (p x)) ∧ Ext W W') :
    Calls Tryd.prog 70 #[v, .func (.func K) #[] caps] w fun e w' => e = .returned (.bool (l.any p)) ∧ Ext w w' := by
  refine (contains_level K caps l v w w hs (Ext.rf _) (fun n _ => ∀ i (h : i < l.length), i < n → p l[i] = false) (fun i _ => ∃ h : i < l.length, p l[i] = true) hK ?_ (fun _ _ h => absurd h (by omega))).mono ?_
  · intro i hi cs W hR hB hJ
    refine (hf l[i] cs W (List.getElem_mem hi) (mono_level _ _ _ _ hB hR) hB).mono ?_
    rintro e W' ⟨rfl, hx⟩
    refine ⟨Ext.tr hB hx, ?_⟩
    cases hp : p l[i]
    · exact .inl ⟨rfl, fun j h1 h2 => by
        by_cases h3 : j < i
        · exact hJ j h1 h3
        · obtain rfl : j = i := by omega
          exact hp⟩
    · exact .inr ⟨rfl, hi, hp⟩
  · rintro e w' ⟨hB, ⟨rfl, hJ⟩ | ⟨i, _, rfl, h, hp⟩⟩
    · refine ⟨ret_bool (Eq.symm ?_), hB⟩
      rw [List.any_eq_false]
      intro x hx
      obtain ⟨j, h1, rfl⟩ := List.getElem_of_mem hx
      rw [hJ j h1 h1]
      simp
    · exact ⟨ret_bool (List.any_eq_true.2 ⟨_, List.getElem_mem h, hp⟩).symm, hB⟩

/-- What the function that is handed in owes: at each element that is read. -/
def Asks_term (K : Nat) (caps : Array Value) (l : List Term) (w0 : World) (J JX : Nat → World → Prop) : Prop :=
  ∀ i (hi : i < l.length) cs W, RTerm w0 l[i] cs → Below w0.heap.size w0 W → J i W → Calls Tryd.prog K (#[.agg cs.toArray] ++ caps) W fun e W' =>
    Below w0.heap.size w0 W' ∧ ((e = .returned (.bool false) ∧ J (i + 1) W') ∨ (e = .returned (.bool true) ∧ JX i W'))
set_option maxRecDepth 100000 in
set_option maxHeartbeats 400000 in
theorem index_term (K : Nat) (caps : Array Value) (l : List Term) (v : Value) (w0 w : World) (hs : Sl RTerm 5 72 w0 l v) (hB : Below w0.heap.size w0 w) (J JX : Nat → World → Prop) (hK : Enters K) (hf : Asks_term K caps l w0 J JX) (h0 : J 0 w) :
    Calls Tryd.prog 87 #[v, .func (.func K) #[] caps] w fun e w' => Below w0.heap.size w0 w' ∧ ((e = .returned (.int .i64 (-1)) ∧ J l.length w') ∨ ∃ i : Nat, i < l.length ∧ e = .returned (.int .i64 i) ∧ JX i w') := by
  obtain ⟨A, c, rfl, hc, hr⟩ := hs
  have hl := hr.len_le
  have hK' := hK.out
  go_enter Tryd.func87, Tryd.ntmps87
  go_wp2_with fail
  go_loopw [5, 8] (fun _ i wr => ∃ k : Nat, k ≤ l.length ∧ i = .int .i64 k ∧ Below w0.heap.size w0 wr ∧ J k wr) (fun _ i _ => l.length - (intOf i).toNat)
  case atStart => exact ⟨0, by omega, rfl, hB, h0⟩
  case round =>
    rename_i wr
    obtain ⟨k, hk, rfl, hx, hj⟩ := hrel
    by_cases hlt : k < l.length
    · obtain ⟨b, o, cs, rfl, hR, hcs0⟩ := hr.at_ hlt
      have hcs := hcs0.ext hx
      clear hcs0
      have hcall := hf k hlt cs wr hR hx hj
      generalize l[k] = t at hR hcall
      cases t
      obtain ⟨vl, vk, rfl, _⟩ := rterm_iff.1 hR
      have h0 := hcs.at0
      have h1 := hcs.at1
      have h2 := hcs.at2
      have h3 := hcs.at3
      have h4 := hcs.at4
      clear hcs hR
      have HC := hid hcall
      clear hcall
      go_wp2_with fail
      refine HC.out.mono ?_
      rintro e w' ⟨hx', ⟨rfl, hj'⟩ | ⟨rfl, hj'⟩⟩
      · go_wp2_with fail
        exact ⟨⟨k + 1, by omega, by go_num, hx', hj'⟩, by simp only [intOf]; omega⟩
      · go_wp2_with fail
        go_ret
        exact ⟨hx', .inr ⟨k, hlt, rfl, hj'⟩⟩
    · obtain rfl : k = l.length := by omega
      go_wp2_with fail
      go_ret
      exact ⟨hx, .inl ⟨rfl, hj⟩⟩
theorem contains_term (K : Nat) (caps : Array Value) (l : List Term) (v : Value) (w0 w : World) (hs : Sl RTerm 5 72 w0 l v) (hB : Below w0.heap.size w0 w) (J JX : Nat → World → Prop) (hK : Enters K) (hf : Asks_term K caps l w0 J JX) (h0 : J 0 w) :
    Calls Tryd.prog 60 #[v, .func (.func K) #[] caps] w fun e w' => Below w0.heap.size w0 w' ∧ ((e = .returned (.bool false) ∧ J l.length w') ∨ ∃ i : Nat, i < l.length ∧ e = .returned (.bool true) ∧ JX i w') := by
  have hcall := index_term K caps l v w0 w hs hB J JX hK hf h0
  obtain ⟨A, c, rfl, hc, hr⟩ := hs
  clear hf h0
  have HC := hid hcall
  clear hcall
  go_enter Tryd.func60, Tryd.ntmps60
  go_wp2_with fail
  refine HC.out.mono ?_
  rintro e w' ⟨hx', ⟨rfl, hj'⟩ | ⟨i, hi, rfl, hj'⟩⟩
  · go_wp2_with fail
    go_ret
    exact ⟨hx', .inl ⟨rfl, hj'⟩⟩
  · go_wp2_with fail
    go_ret
    first | exact ⟨hx', .inr ⟨i, hi, rfl, hj'⟩⟩ | exact ⟨hx', .inr ⟨i, hi, ret_bool (by simp), hj'⟩⟩
/-- The same of a function that only tells something of each element. -/
theorem contains_term_pure (K : Nat) (caps : Array Value) (p : Term → Bool) (l : List Term) (v : Value) (w : World) (hs : Sl RTerm 5 72 w l v) (hK : Enters K)
    (hf : ∀ x cs W, x ∈ l → RTerm W x cs → Ext w W → Calls Tryd.prog K (#[.agg cs.toArray] ++ caps) W fun e W' => e = .returned (.bool (p x)) ∧ Ext W W') :
    Calls Tryd.prog 60 #[v, .func (.func K) #[] caps] w fun e w' => e = .returned (.bool (l.any p)) ∧ Ext w w' := by
  refine (contains_term K caps l v w w hs (Ext.rf _) (fun n _ => ∀ i (h : i < l.length), i < n → p l[i] = false) (fun i _ => ∃ h : i < l.length, p l[i] = true) hK ?_ (fun _ _ h => absurd h (by omega))).mono ?_
  · intro i hi cs W hR hB hJ
    refine (hf l[i] cs W (List.getElem_mem hi) (mono_term _ _ _ _ hB hR) hB).mono ?_
    rintro e W' ⟨rfl, hx⟩
    refine ⟨Ext.tr hB hx, ?_⟩
    cases hp : p l[i]
    · exact .inl ⟨rfl, fun j h1 h2 => by
        by_cases h3 : j < i
        · exact hJ j h1 h3
        · obtain rfl : j = i := by omega
          exact hp⟩
    · exact .inr ⟨rfl, hi, hp⟩
  · rintro e w' ⟨hB, ⟨rfl, hJ⟩ | ⟨i, _, rfl, h, hp⟩⟩
    · refine ⟨ret_bool (Eq.symm ?_), hB⟩
      rw [List.any_eq_false]
      intro x hx
      obtain ⟨j, h1, rfl⟩ := List.getElem_of_mem hx
      rw [hJ j h1 h1]
      simp
    · exact ⟨ret_bool (List.any_eq_true.2 ⟨_, List.getElem_mem h, hp⟩).symm, hB⟩

/-- What the function that is handed in owes: at each element that is read. -/
def Asks_int (K : Nat) (caps : Array Value) (l : List Int) (w0 : World) (J JX : Nat → World → Prop) : Prop :=
  ∀ i (hi : i < l.length) cs W, RInt w0 l[i] cs → Below w0.heap.size w0 W → J i W → Calls Tryd.prog K (#[.int .i64 l[i]] ++ caps) W fun e W' =>
    Below w0.heap.size w0 W' ∧ ((e = .returned (.bool false) ∧ J (i + 1) W') ∨ (e = .returned (.bool true) ∧ JX i W'))
set_option maxRecDepth 100000 in
set_option maxHeartbeats 400000 in
theorem index_int (K : Nat) (caps : Array Value) (l : List Int) (v : Value) (w0 w : World) (hs : Sl RInt 1 8 w0 l v) (hB : Below w0.heap.size w0 w) (J JX : Nat → World → Prop) (hK : Enters K) (hf : Asks_int K caps l w0 J JX) (h0 : J 0 w) :
    Calls Tryd.prog 95 #[v, .func (.func K) #[] caps] w fun e w' => Below w0.heap.size w0 w' ∧ ((e = .returned (.int .i64 (-1)) ∧ J l.length w') ∨ ∃ i : Nat, i < l.length ∧ e = .returned (.int .i64 i) ∧ JX i w') := by
  obtain ⟨A, c, rfl, hc, hr⟩ := hs
  have hl := hr.len_le
  have hK' := hK.out
  go_enter Tryd.func95, Tryd.ntmps95
  go_wp2_with fail
  go_loopw [5, 8] (fun _ i wr => ∃ k : Nat, k ≤ l.length ∧ i = .int .i64 k ∧ Below w0.heap.size w0 wr ∧ J k wr) (fun _ i _ => l.length - (intOf i).toNat)
  case atStart => exact ⟨0, by omega, rfl, hB, h0⟩
  case round =>
    rename_i wr
    obtain ⟨k, hk, rfl, hx, hj⟩ := hrel
    by_cases hlt : k < l.length
    · obtain ⟨b, o, cs, rfl, hR, hcs0⟩ := hr.at_ hlt
      have hcs := hcs0.ext hx
      clear hcs0
      have hcall := hf k hlt cs wr hR hx hj
      obtain ⟨rfl, _⟩ := hR
      have h0 := hcs.at0
      rw [Nat.mul_one] at h0
      clear hcs
      have HC := hid hcall
      clear hcall
      go_wp2_with fail
      refine HC.out.mono ?_
      rintro e w' ⟨hx', ⟨rfl, hj'⟩ | ⟨rfl, hj'⟩⟩
      · go_wp2_with fail
        exact ⟨⟨k + 1, by omega, by go_num, hx', hj'⟩, by simp only [intOf]; omega⟩
      · go_wp2_with fail
        go_ret
        exact ⟨hx', .inr ⟨k, hlt, rfl, hj'⟩⟩
    · obtain rfl : k = l.length := by omega
      go_wp2_with fail
      go_ret
      exact ⟨hx, .inl ⟨rfl, hj⟩⟩
theorem contains_int (K : Nat) (caps : Array Value) (l : List Int) (v : Value) (w0 w : World) (hs : Sl RInt 1 8 w0 l v) (hB : Below w0.heap.size w0 w) (J JX : Nat → World → Prop) (hK : Enters K) (hf : Asks_int K caps l w0 J JX) (h0 : J 0 w) :
    Calls Tryd.prog 93 #[v, .func (.func K) #[] caps] w fun e w' => Below w0.heap.size w0 w' ∧ ((e = .returned (.bool false) ∧ J l.length w') ∨ ∃ i : Nat, i < l.length ∧ e = .returned (.bool true) ∧ JX i w') := by
  have hcall := index_int K caps l v w0 w hs hB J JX hK hf h0
  obtain ⟨A, c, rfl, hc, hr⟩ := hs
  clear hf h0
  have HC := hid hcall
  clear hcall
  go_enter Tryd.func93, Tryd.ntmps93
  go_wp2_with fail
  refine HC.out.mono ?_
  rintro e w' ⟨hx', ⟨rfl, hj'⟩ | ⟨i, hi, rfl, hj'⟩⟩
  · go_wp2_with fail
    go_ret
    exact ⟨hx', .inl ⟨rfl, hj'⟩⟩
  · go_wp2_with fail
    go_ret
    first | exact ⟨hx', .inr ⟨i, hi, rfl, hj'⟩⟩ | exact ⟨hx', .inr ⟨i, hi, ret_bool (by simp), hj'⟩⟩
/-- The same of a function that only tells something of each element. -/
theorem contains_int_pure (K : Nat) (caps : Array Value) (p : Int → Bool) (l : List Int) (v : Value) (w : World) (hs : Sl RInt 1 8 w l v) (hK : Enters K)
    (hf : ∀ x cs W, x ∈ l → RInt W x cs → Ext w W → Calls Tryd.prog K (#[.int .i64 x] ++ caps) W fun e W' => e = .returned (.bool (p x)) ∧ Ext W W') :
    Calls Tryd.prog 93 #[v, .func (.func K) #[] caps] w fun e w' => e = .returned (.bool (l.any p)) ∧ Ext w w' := by
  refine (contains_int K caps l v w w hs (Ext.rf _) (fun n _ => ∀ i (h : i < l.length), i < n → p l[i] = false) (fun i _ => ∃ h : i < l.length, p l[i] = true) hK ?_ (fun _ _ h => absurd h (by omega))).mono ?_
  · intro i hi cs W hR hB hJ
    refine (hf l[i] cs W (List.getElem_mem hi) (mono_int _ _ _ _ hB hR) hB).mono ?_
    rintro e W' ⟨rfl, hx⟩
    refine ⟨Ext.tr hB hx, ?_⟩
    cases hp : p l[i]
    · exact .inl ⟨rfl, fun j h1 h2 => by
        by_cases h3 : j < i
        · exact hJ j h1 h3
        · obtain rfl : j = i := by omega
          exact hp⟩
    · exact .inr ⟨rfl, hi, hp⟩
  · rintro e w' ⟨hB, ⟨rfl, hJ⟩ | ⟨i, _, rfl, h, hp⟩⟩
    · refine ⟨ret_bool (Eq.symm ?_), hB⟩
      rw [List.any_eq_false]
      intro x hx
      obtain ⟨j, h1, rfl⟩ := List.getElem_of_mem hx
      rw [hJ j h1 h1]
      simp
    · exact ⟨ret_bool (List.any_eq_true.2 ⟨_, List.getElem_mem h, hp⟩).symm, hB⟩

end Go.Proofs.YtjaklnabidbmiaaDoor

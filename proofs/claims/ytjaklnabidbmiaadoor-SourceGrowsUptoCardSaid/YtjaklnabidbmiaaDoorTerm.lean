/- Walks: package term's table of kinds, Binds, within, node. -/
import Derived.Test.YtjaklnabidbmiaaDoorLev2
import Derived.BigQuiet
import Derived.Deep.CutBlock
import Derived.Deep.DeepCutAuto
namespace Go.Proofs.YtjaklnabidbmiaaDoor
open Go.RowKit
set_option linter.unusedSimpArgs false
set_option linter.unusedVariables false

/-! The table of kinds, as its own initialiser lays it. -/
def kNum (k : Int) : Bool := k == 1 || k == 3 || k == 8 || k == 9 || k == 10 || k == 22 || k == 23
def kAt (k : Int) : Bool := k == 8 || k == 9 || k == 10 || k == 11 || k == 23 || k == 24
def kLevels (k : Int) : Int := if k = 2 then 1 else if k = 3 ∨ k = 8 ∨ k = 9 ∨ k = 10 then -1 else 0
def kKids (k : Int) : Int :=
  if k = 4 ∨ k = 5 ∨ k = 6 ∨ k = 12 ∨ k = 13 ∨ k = 16 ∨ k = 17 ∨ k = 24 then 2 else if k = 7 ∨ k = 19 then 3 else if k = 14 ∨ k = 15 then 1 else if k = 18 then 5 else if k = 21 then 6 else 0
def kBound (k : Int) : Int := if k = 0 then 0 else if k = 4 ∨ k = 5 ∨ k = 12 ∨ k = 16 ∨ k = 18 then 1 else if k = 7 then 2 else -1
/-- What the table's variable holds. -/
structure KindsIn (w : World) : Prop where
  out : ∀ k : Nat, k < 25 → cellsAt w 0 (k * 5) [.bool (kNum k), .bool (kAt k), .int .i64 (kLevels k), .int .i64 (kKids k), .int .i64 (kBound k)]
theorem KindsIn.ext {w w' : World} (h : Ext w w') (hk : KindsIn w) : KindsIn w' := ⟨fun k hk' => (hk.out k hk').ext h⟩
theorem KindsIn.pos {w : World} (hk : KindsIn w) : 0 < w.heap.size := World.block_lt_of_cell? w _ ((hk.out 0 (by omega)).at0)

theorem kKids_range (k : Int) : 0 ≤ kKids k ∧ kKids k ≤ 6 := by unfold kKids; split <;> (try split) <;> (try split) <;> (try split) <;> (try split) <;> omega
theorem kLevels_range (k : Int) : -1 ≤ kLevels k ∧ kLevels k ≤ 1 := by unfold kLevels; split <;> (try split) <;> omega
def binds (k kid : Int) : Bool := decide (0 < k) && decide (k < 25) && decide (0 ≤ kid) && decide (kBound k = kid)
theorem binds_any (k kid : Int) (w : World) (hk : KindsIn w) :
    Calls Tryd.prog 72 #[.int .i64 k, .int .i64 kid] w fun e w' => e = .returned (.bool (binds k kid)) ∧ w' = w := by
  by_cases h0 : 0 < k
  · by_cases h1 : k < 25
    · by_cases h2 : 0 ≤ kid
      · obtain ⟨n, rfl⟩ := Int.eq_ofNat_of_zero_le (show 0 ≤ k by omega)
        have hc := (hk.out n (by omega)).at4
        go_enter Tryd.func72, Tryd.ntmps72
        go_wp2
        go_ret
        exact ⟨ret_bool (by simp only [binds, decide_eq_true h0, decide_eq_true h1, decide_eq_true h2, Bool.true_and]; rfl), rfl⟩
      · go_enter Tryd.func72, Tryd.ntmps72
        go_wp2
        go_ret
        exact ⟨ret_bool (by simp [binds]; omega), rfl⟩
    · go_enter Tryd.func72, Tryd.ntmps72
      go_wp2
      go_ret
      exact ⟨ret_bool (by simp [binds]; omega), rfl⟩
  · go_enter Tryd.func72, Tryd.ntmps72
    go_wp2
    go_ret
    exact ⟨ret_bool (by simp [binds]; omega), rfl⟩
def badNum (n : Int) : Bool := decide (n < 0) || decide (1048576 < n)
theorem enters_within1 : Enters 94 := ⟨fun _ _ => by simp [go_sem]⟩
theorem within1_any (n : Int) (w : World) : Calls Tryd.prog 94 #[.int .i64 n] w fun e w' => e = .returned (.bool (badNum n)) ∧ w' = w := by
  go_enter Tryd.func94, Tryd.ntmps94
  go_wp2
  all_goals go_ret
  all_goals refine ⟨ret_bool (Eq.symm ?_), rfl⟩
  all_goals unfold badNum
  all_goals first | rfl | (simp [*]; done) | (simp; omega)
theorem within_any (l : List Int) (v : Value) (w : World) (hs : Sl RInt 1 8 w l v) :
    Calls Tryd.prog 85 #[v] w fun e w' => e = .returned (.bool (!l.any badNum)) ∧ Ext w w' := by
  go_enter Tryd.func85, Tryd.ntmps85
  go_wp2_with fail
  refine (contains_int_pure 94 _ badNum l v _ hs enters_within1 ?_).mono ?_
  · intro x cs W _ hR hW
    refine (within1_any x W).mono ?_
    rintro e w' ⟨rfl, rfl⟩
    exact ⟨rfl, Ext.rf _⟩
  rintro e w2 ⟨rfl, hx3⟩
  go_wp2
  go_ret
  exact ⟨rfl, hx3⟩

/-- Has a node what its kind has, its levels apart? -/
def NodeOk (k n a nl nk : Int) : Prop :=
  (1 ≤ k ∧ k ≤ 24) ∧ (0 ≤ n ∧ n ≤ 1048576) ∧ (0 ≤ a ∧ a ≤ 1048576) ∧ nk = kKids k + (if k = 24 then a else 0) ∧ (n = 0 ∨ kNum k = true) ∧ (a = 0 ∨ kAt k = true) ∧
    (kLevels k < 0 ∨ nl = kLevels k) ∧ nl ≤ (if k = 10 then 10 else 8)
instance (k n a nl nk : Int) : Decidable (NodeOk k n a nl nk) := by unfold NodeOk; infer_instance
/-- Is a node of its kind? -/
def node (t : Term) : Bool := decide (NodeOk t.kind t.num t.at_ t.levels.length t.kids.length) && t.levels.all fun l => levelRight l 9
theorem node_no {k n a : Int} {ls : List Level} {ks : List Term} (h : ¬ NodeOk k n a ls.length ks.length) : node (.mk k n a ls ks) = false := by simp [node, h]
theorem node_yes {k n a : Int} {ls : List Level} {ks : List Term} (h : NodeOk k n a ls.length ks.length) : node (.mk k n a ls ks) = !(ls.any fun l => !levelRight l 9) := by
  have : ls.any (fun l => !levelRight l 9) = !ls.all fun l => levelRight l 9 := by rw [List.not_all_eq_any_not]
  simp [node, h, this]
theorem enters_node1 : Enters 86 := ⟨fun _ _ => by simp [go_sem]⟩
theorem node1_any (l : Level) (cs : List Value) (w : World) (hR : RLevel w l cs) : Calls Tryd.prog 86 #[.agg cs.toArray] w fun e w' => e = .returned (.bool (!levelRight l 9)) ∧ Ext w w' := by
  obtain ⟨vc, rfl, hs⟩ := hR
  go_enter Tryd.func86, Tryd.ntmps86
  go_wp2_with fail
  refine (levelRight_any l 9 vc _ (hs.ext mono_part ((Ext.rf _).al _))).mono ?_
  rintro e w2 ⟨rfl, hx3⟩
  go_wp2
  go_ret
  exact ⟨rfl, ((Ext.rf _).al _).tr hx3⟩
set_option maxRecDepth 100000 in
set_option maxHeartbeats 4000000 in
theorem node_any (k n a : Int) (ls : List Level) (ks : List Term) (vl vk : Value) (w : World) (hk : KindsIn w) (hn : inI n) (ha : inI a) (hl : SlLevel w ls vl) (hs : SlTerm w ks vk) :
    Calls Tryd.prog 59 #[.agg #[.int .i64 k, .int .i64 n, .int .i64 a, vl, vk]] w fun e w' => e = .returned (.bool (node (.mk k n a ls ks))) ∧ Ext w w' := by
  obtain ⟨A1, c1, hv1, hc1, hr1⟩ := id hl
  obtain ⟨A2, c2, hv2, hc2, hr2⟩ := id hs
  subst hv1 hv2
  have hl1 := hr1.len_le
  have hl2 := hr2.len_le
  have hmf : ∀ (fn : Fn) (first cap : Array Value) (w : World), (Instr.makeFunc fn first cap).run Tryd.prog w = .ok (.func fn first cap) w := fun _ _ _ _ => rfl
  by_cases hk1 : k < 1
  · go_enter Tryd.func59, Tryd.ntmps59
    go_wp2_with fail
    go_ret
    exact ⟨ret_bool (node_no (by unfold NodeOk; omega)).symm, (Ext.rf _).al _⟩
  by_cases hk2 : 24 < k
  · go_enter Tryd.func59, Tryd.ntmps59
    go_wp2_with fail
    go_ret
    exact ⟨ret_bool (node_no (by unfold NodeOk; omega)).symm, (Ext.rf _).al _⟩
  obtain ⟨m, rfl⟩ := Int.eq_ofNat_of_zero_le (show 0 ≤ k by omega)
  go_enter Tryd.func59, Tryd.ntmps59
  go_wp2_with fail
  refine (within_any [n, a] _ _ (sl_int2 hn ha (by simp [go_sem]) (by simp [go_sem]))).mono ?_
  rintro e w1 ⟨rfl, hx1⟩
  have hx2 : Ext w w1 := (((Ext.rf _).al _).al _).tr hx1
  have hbox : ∀ j v, (#[.int .i64 m, .int .i64 n, .int .i64 a, .slice A1 ls.length c1, .slice A2 ks.length c2] : Array Value)[j]? = some v → w1.cell? ⟨w.heap.size, j, none⟩ = some v := fun j v hv => hx1.cell (by simp [go_sem]; simpa using hv)
  have b0 := hbox 0 _ rfl
  have b1 := hbox 1 _ rfl
  have b2 := hbox 2 _ rfl
  have b3 := hbox 3 _ rfl
  have b4 := hbox 4 _ rfl
  clear hbox
  have hgl := World.block_lt_of_cell? w1 _ b0
  have hne := World.new_ne w1 _ b0
  cases hb : [n, a].any badNum
  · have hb' : 0 ≤ n ∧ n ≤ 1048576 ∧ 0 ≤ a ∧ a ≤ 1048576 := by simp [badNum] at hb; omega
    have hkc := (hk.ext hx2).out m (by omega)
    have q0 := hkc.at0
    have q1 := hkc.at1
    have q2 := hkc.at2
    have q3 := hkc.at3
    have q4 := hkc.at4
    have r1 := kKids_range m
    have r2 := kLevels_range m
    clear hkc
    go_upto_block 0 with fail
    go_cut [0, 4] (fun _ most wc => most = .int .i64 (if (m : Int) = 10 then 10 else 8) ∧ Ext w wc ∧ cellsAt wc w.heap.size 0 [.int .i64 m, .int .i64 n, .int .i64 a, .slice A1 ls.length c1, .slice A2 ks.length c2] ∧
      cellsAt wc w1.heap.size 0 [.bool (kNum m), .bool (kAt m), .int .i64 (kLevels m), .int .i64 (kKids m + (if (m : Int) = 24 then a else 0)), .int .i64 (kBound m)])
    case first =>
      have hlt1 : w.heap.size < w1.heap.size := hgl
      go_wp2_with fail
      all_goals go_meet
      all_goals
        have hw1 := hx2.size
        refine ⟨?_, by first | exact hx2.al _ | exact (hx2.al _).st (by simp; omega) _, ?_, ?_⟩
        · first | (rw [if_pos (by simp_all)]; done) | (rw [if_neg (by simp_all; done)]; done) | (rw [if_neg (by intro h; simp_all)])
        · intro j v hv
          match j, hv with
          | 0, hv => simp at hv; subst hv; simp [go_sem, b0, hgl, hne]
          | 1, hv => simp at hv; subst hv; simp [go_sem, b1, hgl, hne]
          | 2, hv => simp at hv; subst hv; simp [go_sem, b2, hgl, hne]
          | 3, hv => simp at hv; subst hv; simp [go_sem, b3, hgl, hne]
          | 4, hv => simp at hv; subst hv; simp [go_sem, b4, hgl, hne]
        · intro j v hv
          match j, hv with
          | 0, hv => simp at hv; subst hv; simp [go_sem]
          | 1, hv => simp at hv; subst hv; simp [go_sem]
          | 2, hv => simp at hv; subst hv; simp [go_sem]
          | 3, hv => simp at hv; subst hv; simp_all [go_sem]
          | 4, hv => simp at hv; subst hv; simp [go_sem]
    case rest =>
      obtain ⟨rfl, hxc, hb1, hb2⟩ := hcut
      clear b0 b1 b2 b3 b4 q0 q1 q2 q3 q4
      have b1 := hb1.at1
      have b2 := hb1.at2
      have b3 := hb1.at3
      have b4 := hb1.at4
      have q0 := hb2.at0
      have q1 := hb2.at1
      have q2 := hb2.at2
      have q3 := hb2.at3
      have hM : Hid (∀ M : Int, M = (if (m : Int) = 10 then 10 else 8) → ∀ K : Int, K = kKids m + (if (m : Int) = 24 then a else 0) → (NodeOk m n a ls.length ks.length ↔ (ks.length : Int) = K ∧ (n = 0 ∨ kNum m = true) ∧ (a = 0 ∨ kAt m = true) ∧ (kLevels m < 0 ∨ (ls.length : Int) = kLevels m) ∧ (ls.length : Int) ≤ M)) := by
        intro M hM K hK
        unfold NodeOk
        rw [hM, hK]
        constructor
        · rintro ⟨_, _, _, h1, h2, h3, h4, h5⟩
          exact ⟨h1, h2, h3, h4, h5⟩
        · rintro ⟨h1, h2, h3, h4, h5⟩
          exact ⟨by omega, by omega, by omega, h1, h2, h3, h4, h5⟩
      generalize hMM : (if (m : Int) = 10 then (10 : Int) else 8) = M at *
      generalize hKK : kKids m + (if (m : Int) = 24 then a else 0) = K at *
      have hok := hM.out M rfl K rfl
      clear hM hMM hKK hb1 hb2
      have HOK := hid hok
      clear hok
      go_upto_region 9 with fail
      go_cut [85] (fun c wx => c = .bool (!decide (NodeOk m n a ls.length ks.length)) ∧ wx = wc)
      case first =>
        go_wp2_with fail
        all_goals go_meet
        all_goals refine ⟨congrArg Value.bool (Eq.symm ?_), rfl⟩
        all_goals have hok := HOK.out
        all_goals clear HOK
        all_goals grind
      case rest =>
        obtain ⟨rfl, rfl⟩ := hcut
        clear HOK b1 b2 b4 q0 q1 q2 q3
        cases hd : (!decide (NodeOk m n a ls.length ks.length))
        · have hok : NodeOk m n a ls.length ks.length := by simpa using hd
          clear hd
          go_wp2_with fail
          refine (contains_level_pure 86 #[] (fun l => !levelRight l 9) ls _ _ (hl.ext mono_level hxc) enters_node1 ?_).mono ?_
          · intro x cs W _ hR _
            exact node1_any x cs W hR
          rintro e w2 ⟨rfl, hx3⟩
          go_wp2
          go_ret
          exact ⟨ret_bool (node_yes hok).symm, hxc.tr hx3⟩
        · have hok : ¬ NodeOk m n a ls.length ks.length := by simpa using hd
          clear hd
          go_wp2_with fail
          go_ret
          exact ⟨ret_bool (node_no hok).symm, hxc⟩
  · go_wp2_with fail
    go_ret
    exact ⟨ret_bool (node_no (by unfold NodeOk; simp [badNum] at hb; omega)).symm, hx2⟩
end Go.Proofs.YtjaklnabidbmiaaDoor

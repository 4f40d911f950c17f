/- Walk: spandrelref11.named. -/
import Derived.Test.YtjaklnabidbmiaaDoorDecl
import Derived.Test.YtjaklnabidbmiaaDoorAgg2
namespace Go.Proofs.YtjaklnabidbmiaaDoor
open Go.RowKit
set_option linter.unusedSimpArgs false
set_option linter.unusedVariables false

/-- Is what a node names there? -/
def NamedP (ds : List Decl) (self k num a nl : Int) : Prop :=
  (k = 11 ∧ a < self) ∨ (k = 3 ∧ constantOk ds num a nl) ∨ (k = 8 ∧ memberOk ds num a nl) ∨ (k = 9 ∧ ctorOk ds num a nl) ∨ (k = 10 ∧ recursorOk ds num a nl) ∨ ((1 ≤ k ∧ k ≤ 7) ∧ k ≠ 3)
instance (ds : List Decl) (num nl more : Int) : Decidable (DeclOk ds num nl more) := by unfold DeclOk; infer_instance
instance (ds : List Decl) (num a nl : Int) : Decidable (constantOk ds num a nl) := by unfold constantOk; infer_instance
instance (ds : List Decl) (num a nl : Int) : Decidable (memberOk ds num a nl) := by unfold memberOk; infer_instance
instance (ds : List Decl) (num a nl : Int) : Decidable (ctorOk ds num a nl) := by unfold ctorOk; infer_instance
instance (ds : List Decl) (num a nl : Int) : Decidable (recursorOk ds num a nl) := by unfold recursorOk; infer_instance
instance (ds : List Decl) (self k num a nl : Int) : Decidable (NamedP ds self k num a nl) := by unfold NamedP; infer_instance
def namedB (ds : List Decl) (self k num a nl : Int) : Bool := decide (NamedP ds self k num a nl)
theorem srcHead_iff (ds : List Decl) (self scope k num a nl : Int) (hk : 1 ≤ k ∧ k ≤ 24) :
    (AskOk ds self scope k num a nl ∨ (¬ hasAsk k ∧ k ≤ 7)) ↔ NamedP ds self k num a nl ∧ ¬ (k = 1 ∧ scope ≤ num) := by
  unfold AskOk hasAsk NamedP
  constructor
  · rintro (h | h)
    · rcases h with h | h | h | h | h | h
      · exact ⟨.inr (.inr (.inr (.inr (.inr (by omega))))), by omega⟩
      · exact ⟨.inr (.inl h), by omega⟩
      · exact ⟨.inr (.inr (.inl h)), by omega⟩
      · exact ⟨.inr (.inr (.inr (.inl h))), by omega⟩
      · exact ⟨.inr (.inr (.inr (.inr (.inl h)))), by omega⟩
      · exact ⟨.inl h, by omega⟩
    · exact ⟨.inr (.inr (.inr (.inr (.inr (by omega))))), by omega⟩
  · rintro ⟨h, h1⟩
    rcases h with h | h | h | h | h | h
    · exact .inl (.inr (.inr (.inr (.inr (.inr h)))))
    · exact .inl (.inr (.inl h))
    · exact .inl (.inr (.inr (.inl h)))
    · exact .inl (.inr (.inr (.inr (.inl h))))
    · exact .inl (.inr (.inr (.inr (.inr (.inl h)))))
    · by_cases hk1 : k = 1
      · exact .inl (.inl ⟨hk1, by omega⟩)
      · exact .inr (by omega)

set_option maxRecDepth 100000 in
set_option maxHeartbeats 1000000 in
theorem named_3 (d : Decl) (ds : List Decl) (self : Int) (b o c : Nat) (m : Nat) (a : Int) (ls : List Level) (A1 : Option Addr) (c1 : Nat) (vk : Value) (w : World) (cs : List Value) (hon : Ones 16 cs) (h1 : m < ds.length) (hl0 : ds.length ≤ 140737488351232) (hl1 : ls.length ≤ 140737488351232)
    (l3 : d.members.length ≤ 140737488351232) (l4 : d.ctors.length ≤ 140737488351232) (hil : inI d.levels)
    (f0 : cs[0]? = some (.int .i64 d.kind)) (f1 : cs[1]? = some (.int .i64 d.levels)) (f14 : ∃ vm cm, cs[14]? = some (.slice vm d.members.length cm)) (f15 : ∃ vc cc, cs[15]? = some (.slice vc d.ctors.length cc)) (hcs : cellsAt w b (o + m * 16) cs) :
    Calls Tryd.prog 48 #[.slice (some ⟨b, o, none⟩) ds.length c, .int .i64 self, .agg #[.int .i64 3, .int .i64 m, .int .i64 a, .slice A1 ls.length c1, vk]] w fun e w' => e = .returned (.bool (((d.kind == 1) || (d.kind == 2)) && ((ls.length : Int) == d.levels))) ∧ Ext w w' := by
  obtain ⟨vm, cm, f14⟩ := f14
  obtain ⟨vc, cc, f15⟩ := f15
  have hu := Tryd.underlying34
  have hi34 : (Tryd.prog.info? 34).map (·.size) = some cs.length := by rw [hon.1]; kernel_rfl
  unfold inI at hil
  have hxE : Ext w ((w.alloc (.cells #[.int .i64 3, .int .i64 m, .int .i64 a, .slice A1 ls.length c1, vk] 27)).alloc (.cells cs.toArray 34)) := ((Ext.rf _).al _).al _
  have HX := hid hxE
  clear hxE
  have hcs2 : (w.alloc (.cells #[.int .i64 3, .int .i64 m, .int .i64 a, .slice A1 ls.length c1, vk] 27)).rangeAt b (o + m * 16) cs := fun j v hv => ((Ext.rf w).al _).cell (hcs j v hv)
  clear hcs
  go_enter Tryd.func48, Tryd.ntmps48
  go_wp2_with (first | ((with_reducible show wpList _ _ _ (⟨_, Op.load 34 _, _, _, _, _⟩ :: _) _ _); refine wpList_load_mid (by rfl) 34 _ (by rfl) b (o + m * 16) (by rfl) cs _ (by exact hcs2) hu (by rfl) hi34 ?_) | ((with_reducible show wpList _ _ _ (⟨_, Op.store 34 _ _, _, _, _, _⟩ :: _) _ _); refine wpList_store_fresh_at (by rfl) 34 _ _ (by rfl) _ 34 cs (w.heap.size + 1) (by rfl) (by simp) (by rfl) (by rw [hon.1]; rfl) hi34 hon.2 ?_))
  all_goals go_ret
  all_goals refine ⟨ret_bool (Eq.symm ?_), HX.out⟩
  all_goals clear HX hcs2 hi34 hu hon f0 f1 f14 f15 hl0 hl1 l3 l4 hil h1
  all_goals simp [*]
set_option maxRecDepth 100000 in
set_option maxHeartbeats 1000000 in
theorem named_8 (d : Decl) (ds : List Decl) (self : Int) (b o c : Nat) (m : Nat) (a : Int) (ls : List Level) (A1 : Option Addr) (c1 : Nat) (vk : Value) (w : World) (cs : List Value) (hon : Ones 16 cs) (h1 : m < ds.length) (hl0 : ds.length ≤ 140737488351232) (hl1 : ls.length ≤ 140737488351232)
    (l3 : d.members.length ≤ 140737488351232) (l4 : d.ctors.length ≤ 140737488351232) (hil : inI d.levels)
    (f0 : cs[0]? = some (.int .i64 d.kind)) (f1 : cs[1]? = some (.int .i64 d.levels)) (f14 : ∃ vm cm, cs[14]? = some (.slice vm d.members.length cm)) (f15 : ∃ vc cc, cs[15]? = some (.slice vc d.ctors.length cc)) (hcs : cellsAt w b (o + m * 16) cs) :
    Calls Tryd.prog 48 #[.slice (some ⟨b, o, none⟩) ds.length c, .int .i64 self, .agg #[.int .i64 8, .int .i64 m, .int .i64 a, .slice A1 ls.length c1, vk]] w fun e w' => e = .returned (.bool ((d.kind == 3) && ((ls.length : Int) == d.levels) && decide (a < d.members.length))) ∧ Ext w w' := by
  obtain ⟨vm, cm, f14⟩ := f14
  obtain ⟨vc, cc, f15⟩ := f15
  have hu := Tryd.underlying34
  have hi34 : (Tryd.prog.info? 34).map (·.size) = some cs.length := by rw [hon.1]; kernel_rfl
  unfold inI at hil
  have hxE : Ext w ((w.alloc (.cells #[.int .i64 8, .int .i64 m, .int .i64 a, .slice A1 ls.length c1, vk] 27)).alloc (.cells cs.toArray 34)) := ((Ext.rf _).al _).al _
  have HX := hid hxE
  clear hxE
  have hcs2 : (w.alloc (.cells #[.int .i64 8, .int .i64 m, .int .i64 a, .slice A1 ls.length c1, vk] 27)).rangeAt b (o + m * 16) cs := fun j v hv => ((Ext.rf w).al _).cell (hcs j v hv)
  clear hcs
  by_cases hkd : d.kind = 3
  · have k1 : (d.kind == 3) = true := by simpa using hkd
    clear hkd
    cases k2 : ((ls.length : Int) == d.levels)
    · go_enter Tryd.func48, Tryd.ntmps48
      go_wp2_with (first | ((with_reducible show wpList _ _ _ (⟨_, Op.load 34 _, _, _, _, _⟩ :: _) _ _); refine wpList_load_mid (by rfl) 34 _ (by rfl) b (o + m * 16) (by rfl) cs _ (by exact hcs2) hu (by rfl) hi34 ?_) | ((with_reducible show wpList _ _ _ (⟨_, Op.store 34 _ _, _, _, _, _⟩ :: _) _ _); refine wpList_store_fresh_at (by rfl) 34 _ _ (by rfl) _ 34 cs (w.heap.size + 1) (by rfl) (by simp) (by rfl) (by rw [hon.1]; rfl) hi34 hon.2 ?_))
      all_goals go_ret
      all_goals refine ⟨ret_bool (Eq.symm ?_), HX.out⟩
      all_goals clear HX hcs2 hi34 hu hon f0 f1 f14 f15 hl0 hl1 l3 l4 hil h1
      all_goals simp [*]
    · go_enter Tryd.func48, Tryd.ntmps48
      go_wp2_with (first | ((with_reducible show wpList _ _ _ (⟨_, Op.load 34 _, _, _, _, _⟩ :: _) _ _); refine wpList_load_mid (by rfl) 34 _ (by rfl) b (o + m * 16) (by rfl) cs _ (by exact hcs2) hu (by rfl) hi34 ?_) | ((with_reducible show wpList _ _ _ (⟨_, Op.store 34 _ _, _, _, _, _⟩ :: _) _ _); refine wpList_store_fresh_at (by rfl) 34 _ _ (by rfl) _ 34 cs (w.heap.size + 1) (by rfl) (by simp) (by rfl) (by rw [hon.1]; rfl) hi34 hon.2 ?_))
      all_goals go_ret
      all_goals refine ⟨ret_bool (Eq.symm ?_), HX.out⟩
      all_goals clear HX hcs2 hi34 hu hon f0 f1 f14 f15 hl0 hl1 l3 l4 hil h1
      all_goals simp [*]
  · have k1 : (d.kind == 3) = false := by simpa using hkd
    clear hkd
    go_enter Tryd.func48, Tryd.ntmps48
    go_wp2_with (first | ((with_reducible show wpList _ _ _ (⟨_, Op.load 34 _, _, _, _, _⟩ :: _) _ _); refine wpList_load_mid (by rfl) 34 _ (by rfl) b (o + m * 16) (by rfl) cs _ (by exact hcs2) hu (by rfl) hi34 ?_) | ((with_reducible show wpList _ _ _ (⟨_, Op.store 34 _ _, _, _, _, _⟩ :: _) _ _); refine wpList_store_fresh_at (by rfl) 34 _ _ (by rfl) _ 34 cs (w.heap.size + 1) (by rfl) (by simp) (by rfl) (by rw [hon.1]; rfl) hi34 hon.2 ?_))
    all_goals go_ret
    all_goals refine ⟨ret_bool (Eq.symm ?_), HX.out⟩
    all_goals clear HX hcs2 hi34 hu hon f0 f1 f14 f15 hl0 hl1 l3 l4 hil h1
    all_goals simp [*]
set_option maxRecDepth 100000 in
set_option maxHeartbeats 1000000 in
theorem named_9 (d : Decl) (ds : List Decl) (self : Int) (b o c : Nat) (m : Nat) (a : Int) (ls : List Level) (A1 : Option Addr) (c1 : Nat) (vk : Value) (w : World) (cs : List Value) (hon : Ones 16 cs) (h1 : m < ds.length) (hl0 : ds.length ≤ 140737488351232) (hl1 : ls.length ≤ 140737488351232)
    (l3 : d.members.length ≤ 140737488351232) (l4 : d.ctors.length ≤ 140737488351232) (hil : inI d.levels)
    (f0 : cs[0]? = some (.int .i64 d.kind)) (f1 : cs[1]? = some (.int .i64 d.levels)) (f14 : ∃ vm cm, cs[14]? = some (.slice vm d.members.length cm)) (f15 : ∃ vc cc, cs[15]? = some (.slice vc d.ctors.length cc)) (hcs : cellsAt w b (o + m * 16) cs) :
    Calls Tryd.prog 48 #[.slice (some ⟨b, o, none⟩) ds.length c, .int .i64 self, .agg #[.int .i64 9, .int .i64 m, .int .i64 a, .slice A1 ls.length c1, vk]] w fun e w' => e = .returned (.bool ((d.kind == 3) && ((ls.length : Int) == d.levels) && decide (a < d.ctors.length))) ∧ Ext w w' := by
  obtain ⟨vm, cm, f14⟩ := f14
  obtain ⟨vc, cc, f15⟩ := f15
  have hu := Tryd.underlying34
  have hi34 : (Tryd.prog.info? 34).map (·.size) = some cs.length := by rw [hon.1]; kernel_rfl
  unfold inI at hil
  have hxE : Ext w ((w.alloc (.cells #[.int .i64 9, .int .i64 m, .int .i64 a, .slice A1 ls.length c1, vk] 27)).alloc (.cells cs.toArray 34)) := ((Ext.rf _).al _).al _
  have HX := hid hxE
  clear hxE
  have hcs2 : (w.alloc (.cells #[.int .i64 9, .int .i64 m, .int .i64 a, .slice A1 ls.length c1, vk] 27)).rangeAt b (o + m * 16) cs := fun j v hv => ((Ext.rf w).al _).cell (hcs j v hv)
  clear hcs
  by_cases hkd : d.kind = 3
  · have k1 : (d.kind == 3) = true := by simpa using hkd
    clear hkd
    cases k2 : ((ls.length : Int) == d.levels)
    · go_enter Tryd.func48, Tryd.ntmps48
      go_wp2_with (first | ((with_reducible show wpList _ _ _ (⟨_, Op.load 34 _, _, _, _, _⟩ :: _) _ _); refine wpList_load_mid (by rfl) 34 _ (by rfl) b (o + m * 16) (by rfl) cs _ (by exact hcs2) hu (by rfl) hi34 ?_) | ((with_reducible show wpList _ _ _ (⟨_, Op.store 34 _ _, _, _, _, _⟩ :: _) _ _); refine wpList_store_fresh_at (by rfl) 34 _ _ (by rfl) _ 34 cs (w.heap.size + 1) (by rfl) (by simp) (by rfl) (by rw [hon.1]; rfl) hi34 hon.2 ?_))
      all_goals go_ret
      all_goals refine ⟨ret_bool (Eq.symm ?_), HX.out⟩
      all_goals clear HX hcs2 hi34 hu hon f0 f1 f14 f15 hl0 hl1 l3 l4 hil h1
      all_goals simp [*]
    · go_enter Tryd.func48, Tryd.ntmps48
      go_wp2_with (first | ((with_reducible show wpList _ _ _ (⟨_, Op.load 34 _, _, _, _, _⟩ :: _) _ _); refine wpList_load_mid (by rfl) 34 _ (by rfl) b (o + m * 16) (by rfl) cs _ (by exact hcs2) hu (by rfl) hi34 ?_) | ((with_reducible show wpList _ _ _ (⟨_, Op.store 34 _ _, _, _, _, _⟩ :: _) _ _); refine wpList_store_fresh_at (by rfl) 34 _ _ (by rfl) _ 34 cs (w.heap.size + 1) (by rfl) (by simp) (by rfl) (by rw [hon.1]; rfl) hi34 hon.2 ?_))
      all_goals go_ret
      all_goals refine ⟨ret_bool (Eq.symm ?_), HX.out⟩
      all_goals clear HX hcs2 hi34 hu hon f0 f1 f14 f15 hl0 hl1 l3 l4 hil h1
      all_goals simp [*]
  · have k1 : (d.kind == 3) = false := by simpa using hkd
    clear hkd
    go_enter Tryd.func48, Tryd.ntmps48
    go_wp2_with (first | ((with_reducible show wpList _ _ _ (⟨_, Op.load 34 _, _, _, _, _⟩ :: _) _ _); refine wpList_load_mid (by rfl) 34 _ (by rfl) b (o + m * 16) (by rfl) cs _ (by exact hcs2) hu (by rfl) hi34 ?_) | ((with_reducible show wpList _ _ _ (⟨_, Op.store 34 _ _, _, _, _, _⟩ :: _) _ _); refine wpList_store_fresh_at (by rfl) 34 _ _ (by rfl) _ 34 cs (w.heap.size + 1) (by rfl) (by simp) (by rfl) (by rw [hon.1]; rfl) hi34 hon.2 ?_))
    all_goals go_ret
    all_goals refine ⟨ret_bool (Eq.symm ?_), HX.out⟩
    all_goals clear HX hcs2 hi34 hu hon f0 f1 f14 f15 hl0 hl1 l3 l4 hil h1
    all_goals simp [*]
set_option maxRecDepth 100000 in
set_option maxHeartbeats 1000000 in
theorem named_10 (d : Decl) (ds : List Decl) (self : Int) (b o c : Nat) (m : Nat) (a : Int) (ls : List Level) (A1 : Option Addr) (c1 : Nat) (vk : Value) (w : World) (cs : List Value) (hon : Ones 16 cs) (h1 : m < ds.length) (hl0 : ds.length ≤ 140737488351232) (hl1 : ls.length ≤ 140737488351232)
    (l3 : d.members.length ≤ 140737488351232) (l4 : d.ctors.length ≤ 140737488351232) (hil : inI d.levels)
    (f0 : cs[0]? = some (.int .i64 d.kind)) (f1 : cs[1]? = some (.int .i64 d.levels)) (f14 : ∃ vm cm, cs[14]? = some (.slice vm d.members.length cm)) (f15 : ∃ vc cc, cs[15]? = some (.slice vc d.ctors.length cc)) (hcs : cellsAt w b (o + m * 16) cs) :
    Calls Tryd.prog 48 #[.slice (some ⟨b, o, none⟩) ds.length c, .int .i64 self, .agg #[.int .i64 10, .int .i64 m, .int .i64 a, .slice A1 ls.length c1, vk]] w fun e w' => e = .returned (.bool ((d.kind == 3) && ((ls.length : Int) == d.levels + 1) && decide (a < d.members.length))) ∧ Ext w w' := by
  obtain ⟨vm, cm, f14⟩ := f14
  obtain ⟨vc, cc, f15⟩ := f15
  have hu := Tryd.underlying34
  have hi34 : (Tryd.prog.info? 34).map (·.size) = some cs.length := by rw [hon.1]; kernel_rfl
  unfold inI at hil
  have hxE : Ext w ((w.alloc (.cells #[.int .i64 10, .int .i64 m, .int .i64 a, .slice A1 ls.length c1, vk] 27)).alloc (.cells cs.toArray 34)) := ((Ext.rf _).al _).al _
  have HX := hid hxE
  clear hxE
  have hcs2 : (w.alloc (.cells #[.int .i64 10, .int .i64 m, .int .i64 a, .slice A1 ls.length c1, vk] 27)).rangeAt b (o + m * 16) cs := fun j v hv => ((Ext.rf w).al _).cell (hcs j v hv)
  clear hcs
  have hw : ((ls.length : Int) == wrap64 (d.levels + 1)) = ((ls.length : Int) == d.levels + 1) := by
    rw [Bool.eq_iff_iff, beq_iff_eq, beq_iff_eq]
    unfold wrap64
    omega
  have HW := hid hw
  clear hw
  by_cases hkd : d.kind = 3
  · have k1 : (d.kind == 3) = true := by simpa using hkd
    clear hkd
    cases k2 : ((ls.length : Int) == d.levels + 1)
    · have k3 := HW.out.trans k2
      go_enter Tryd.func48, Tryd.ntmps48
      go_wp2_with (first | ((with_reducible show wpList _ _ _ (⟨_, Op.load 34 _, _, _, _, _⟩ :: _) _ _); refine wpList_load_mid (by rfl) 34 _ (by rfl) b (o + m * 16) (by rfl) cs _ (by exact hcs2) hu (by rfl) hi34 ?_) | ((with_reducible show wpList _ _ _ (⟨_, Op.store 34 _ _, _, _, _, _⟩ :: _) _ _); refine wpList_store_fresh_at (by rfl) 34 _ _ (by rfl) _ 34 cs (w.heap.size + 1) (by rfl) (by simp) (by rfl) (by rw [hon.1]; rfl) hi34 hon.2 ?_))
      all_goals go_ret
      all_goals refine ⟨ret_bool (Eq.symm ?_), HX.out⟩
      all_goals (try rw [HW.out])
      all_goals clear HW
      all_goals clear HX hcs2 hi34 hu hon f0 f1 f14 f15 hl0 hl1 l3 l4 hil h1
      all_goals simp [*]
    · have k3 := HW.out.trans k2
      go_enter Tryd.func48, Tryd.ntmps48
      go_wp2_with (first | ((with_reducible show wpList _ _ _ (⟨_, Op.load 34 _, _, _, _, _⟩ :: _) _ _); refine wpList_load_mid (by rfl) 34 _ (by rfl) b (o + m * 16) (by rfl) cs _ (by exact hcs2) hu (by rfl) hi34 ?_) | ((with_reducible show wpList _ _ _ (⟨_, Op.store 34 _ _, _, _, _, _⟩ :: _) _ _); refine wpList_store_fresh_at (by rfl) 34 _ _ (by rfl) _ 34 cs (w.heap.size + 1) (by rfl) (by simp) (by rfl) (by rw [hon.1]; rfl) hi34 hon.2 ?_))
      all_goals go_ret
      all_goals refine ⟨ret_bool (Eq.symm ?_), HX.out⟩
      all_goals (try rw [HW.out])
      all_goals clear HW
      all_goals clear HX hcs2 hi34 hu hon f0 f1 f14 f15 hl0 hl1 l3 l4 hil h1
      all_goals simp [*]
  · have k1 : (d.kind == 3) = false := by simpa using hkd
    clear hkd
    go_enter Tryd.func48, Tryd.ntmps48
    go_wp2_with (first | ((with_reducible show wpList _ _ _ (⟨_, Op.load 34 _, _, _, _, _⟩ :: _) _ _); refine wpList_load_mid (by rfl) 34 _ (by rfl) b (o + m * 16) (by rfl) cs _ (by exact hcs2) hu (by rfl) hi34 ?_) | ((with_reducible show wpList _ _ _ (⟨_, Op.store 34 _ _, _, _, _, _⟩ :: _) _ _); refine wpList_store_fresh_at (by rfl) 34 _ _ (by rfl) _ 34 cs (w.heap.size + 1) (by rfl) (by simp) (by rfl) (by rw [hon.1]; rfl) hi34 hon.2 ?_))
    all_goals go_ret
    all_goals refine ⟨ret_bool (Eq.symm ?_), HX.out⟩
    all_goals (try rw [HW.out])
    all_goals clear HW
    all_goals clear HX hcs2 hi34 hu hon f0 f1 f14 f15 hl0 hl1 l3 l4 hil h1
    all_goals simp [*]
set_option maxRecDepth 100000 in
set_option maxHeartbeats 4000000 in
theorem named_any (ds : List Decl) (self : Int) (vd : Value) (k num a : Int) (ls : List Level) (vl vk : Value) (w : World) (hd : SlDecl w ds vd) (hl : SlLevel w ls vl) (h0 : 0 ≤ num) (hk : 1 ≤ k ∧ k ≤ 24) :
    Calls Tryd.prog 48 #[vd, .int .i64 self, .agg #[.int .i64 k, .int .i64 num, .int .i64 a, vl, vk]] w fun e w' => e = .returned (.bool (namedB ds self k num a ls.length)) ∧ Ext w w' := by
  obtain ⟨A, c, hv, hc, hr⟩ := id hd
  obtain ⟨A1, c1, hv1, hc1, hr1⟩ := id hl
  clear hd hl
  subst hv hv1
  have hl0 := hr.len_le
  have hl1 := hr1.len_le
  clear hr1
  by_cases hp : k = 1 ∨ k = 2 ∨ k = 4 ∨ k = 5 ∨ k = 6 ∨ k = 7
  · have hyes : namedB ds self k num a ls.length = true := decide_eq_true (.inr (.inr (.inr (.inr (.inr (by omega))))))
    have HY := hid hyes
    clear hyes
    rcases hp with rfl | rfl | rfl | rfl | rfl | rfl
    all_goals go_enter Tryd.func48, Tryd.ntmps48
    all_goals go_wp2_with fail
    all_goals go_ret
    all_goals exact ⟨ret_bool HY.out.symm, (Ext.rf _).al _⟩
  by_cases h11 : k = 11
  · subst h11
    have hyes : namedB ds self 11 num a ls.length = decide (a < self) := by
      unfold namedB NamedP
      congr 1
      simp
    have HY := hid hyes
    clear hyes hp
    go_enter Tryd.func48, Tryd.ntmps48
    go_wp2_with fail
    go_ret
    exact ⟨ret_bool HY.out.symm, (Ext.rf _).al _⟩
  by_cases h12 : 11 < k
  · have hno : namedB ds self k num a ls.length = false := decide_eq_false (by unfold NamedP; omega)
    have HN := hid hno
    have b1 : ((k : Int) == 11) = false := by simp; omega
    have b2 : ¬ k < 3 := by omega
    have b3 : 10 < k := by omega
    have b4 : ¬ k ≤ 7 := by omega
    have b5 : 1 ≤ k := by omega
    clear hno hp
    go_enter Tryd.func48, Tryd.ntmps48
    go_wp2_with fail
    go_ret
    exact ⟨ret_bool HN.out.symm, (Ext.rf _).al _⟩
  have hq : k = 3 ∨ k = 8 ∨ k = 9 ∨ k = 10 := by omega
  clear hp h11 h12 hk
  obtain ⟨m, rfl⟩ := Int.eq_ofNat_of_zero_le h0
  clear h0
  by_cases h1 : m < ds.length
  · have hdat : ds[m] = dAt ds m := by unfold dAt; rw [Int.toNat_natCast, getD_at _ _ h1]
    obtain ⟨b, o, cs, rfl, hR, hcs0⟩ := hr.at_ h1
    rw [hdat] at hR
    clear hdat hr
    have hon := rdecl_ones hR
    obtain ⟨A1', c1', A2, c2, A3, c3, A4, c4, cp, vp, cS, vS, cm, vm, cc, vc, hcs1, hik, hil, _, _, _, _, hm, hct⟩ := rdecl_open hR
    have l3 := sl_len hm
    have l4 := sl_len hct
    clear hR hm hct
    have f0 : cs[0]? = some (.int .i64 (dAt ds m).kind) := by rw [hcs1]; rfl
    have f1 : cs[1]? = some (.int .i64 (dAt ds m).levels) := by rw [hcs1]; rfl
    have f14 : ∃ vm cm, cs[14]? = some (.slice vm (dAt ds m).members.length cm) := ⟨vm, cm, by rw [hcs1]; rfl⟩
    have f15 : ∃ vc cc, cs[15]? = some (.slice vc (dAt ds m).ctors.length cc) := ⟨vc, cc, by rw [hcs1]; rfl⟩
    rcases hq with rfl | rfl | rfl | rfl
    · refine (named_3 (dAt ds m) ds self b o c m a ls A1 c1 vk w cs hon h1 hl0 hl1 l3 l4 hil f0 f1 f14 f15 hcs0).mono ?_
      rintro e w' ⟨rfl, hx⟩
      refine ⟨ret_bool (Eq.symm ?_), hx⟩
      unfold namedB NamedP constantOk memberOk ctorOk recursorOk DeclOk
      rw [Bool.eq_iff_iff]
      simp [h1]
      try grind
    · refine (named_8 (dAt ds m) ds self b o c m a ls A1 c1 vk w cs hon h1 hl0 hl1 l3 l4 hil f0 f1 f14 f15 hcs0).mono ?_
      rintro e w' ⟨rfl, hx⟩
      refine ⟨ret_bool (Eq.symm ?_), hx⟩
      unfold namedB NamedP constantOk memberOk ctorOk recursorOk DeclOk
      rw [Bool.eq_iff_iff]
      simp [h1]
      try grind
    · refine (named_9 (dAt ds m) ds self b o c m a ls A1 c1 vk w cs hon h1 hl0 hl1 l3 l4 hil f0 f1 f14 f15 hcs0).mono ?_
      rintro e w' ⟨rfl, hx⟩
      refine ⟨ret_bool (Eq.symm ?_), hx⟩
      unfold namedB NamedP constantOk memberOk ctorOk recursorOk DeclOk
      rw [Bool.eq_iff_iff]
      simp [h1]
      try grind
    · refine (named_10 (dAt ds m) ds self b o c m a ls A1 c1 vk w cs hon h1 hl0 hl1 l3 l4 hil f0 f1 f14 f15 hcs0).mono ?_
      rintro e w' ⟨rfl, hx⟩
      refine ⟨ret_bool (Eq.symm ?_), hx⟩
      unfold namedB NamedP constantOk memberOk ctorOk recursorOk DeclOk
      rw [Bool.eq_iff_iff]
      simp [h1]
      try grind
  · have hno : namedB ds self k m a ls.length = false := decide_eq_false (by
      unfold NamedP constantOk memberOk ctorOk recursorOk DeclOk
      rcases hq with rfl | rfl | rfl | rfl <;> simp [h1])
    have HN := hid hno
    have h1' : (ds.length : Int) ≤ m := by omega
    clear hno
    rcases hq with rfl | rfl | rfl | rfl
    all_goals go_enter Tryd.func48, Tryd.ntmps48
    all_goals go_wp2_with fail
    all_goals go_ret
    all_goals exact ⟨ret_bool HN.out.symm, (Ext.rf _).al _⟩
end Go.Proofs.YtjaklnabidbmiaaDoor

/- Walks: source.bare, source.over's block. -/
import Derived.Test.YtjaklnabidbmiaaDoorSrc
namespace Go.Proofs.YtjaklnabidbmiaaDoor
open Go.RowKit
set_option linter.unusedSimpArgs false
set_option linter.unusedVariables false

def Bare (t : Term) : Prop := t.kind = 0 ∧ t.num = 0 ∧ t.at_ = 0 ∧ t.levels.length = 0 ∧ t.kids.length = 0
instance (t : Term) : Decidable (Bare t) := by unfold Bare; infer_instance
set_option maxHeartbeats 1000000 in
theorem bare_any (t : Term) (cs : List Value) (w : World) (hR : RTerm w t cs) :
    Calls Tryd.prog 30 #[.agg cs.toArray] w fun e w' => e = .returned (.bool (decide (Bare t))) ∧ Ext w w' := by
  obtain ⟨vl, vk, rfl, hi, ⟨A1, c1, hv1, hc1, hr1⟩, ⟨A2, c2, hv2, hc2, hr2⟩⟩ := rterm_open hR
  subst hv1 hv2
  have hl1 := hr1.len_le
  have hl2 := hr2.len_le
  have key0 : decide (Bare t) = (t.kind == 0 && (t.num == 0 && (t.at_ == 0 && ((t.levels.length : Int) + (t.kids.length : Int) == 0)))) := by
    rw [Bool.eq_iff_iff, decide_eq_true_iff]
    unfold Bare
    simp only [Bool.and_eq_true, beq_iff_eq]
    constructor
    · rintro ⟨h1, h2, h3, h4, h5⟩
      exact ⟨h1, h2, h3, by omega⟩
    · rintro ⟨h1, h2, h3, h4⟩
      exact ⟨h1, h2, h3, by omega, by omega⟩
  have key := hid key0
  clear key0
  generalize t.kind = k at *
  generalize t.num = n at *
  generalize t.at_ = a at *
  cases h1 : (k == 0)
  · go_enter Tryd.func30, Tryd.ntmps30
    go_wp2_with fail
    go_ret
    exact ⟨ret_bool (by rw [key.out, h1]; rfl), (Ext.rf _).al _⟩
  cases h2 : (n == 0)
  · go_enter Tryd.func30, Tryd.ntmps30
    go_wp2_with fail
    go_ret
    exact ⟨ret_bool (by rw [key.out, h1, h2]; rfl), (Ext.rf _).al _⟩
  cases h3 : (a == 0)
  · go_enter Tryd.func30, Tryd.ntmps30
    go_wp2_with fail
    go_ret
    exact ⟨ret_bool (by rw [key.out, h1, h2, h3]; rfl), (Ext.rf _).al _⟩
  go_enter Tryd.func30, Tryd.ntmps30
  go_wp2_with fail
  go_ret
  exact ⟨ret_bool (by rw [key.out, h1, h2, h3]; rfl), (Ext.rf _).al _⟩

theorem assert_wrong (v : Value) (w : World) : (Instr.typeAssert (.iface 84 v) 20 84 true).run Tryd.prog w = .ok (.tuple #[v, .bool true]) w := by kernel_rfl
set_option maxRecDepth 100000 in
/-- Recover's part of held: a call's panic of 'wrong' is caught. -/
theorem held1_panicking (g : Nat) (x : Bool) (older : List PanicEntry) (w : World) (hc : w.cell? ⟨g, 0, none⟩ = some (.bool x)) (hz : w.frozen? ⟨g, 0, none⟩ = false) :
    CallsD Tryd.prog 45 #[.pointer (some ⟨g, 0, none⟩)] (.panicking ({ v := .iface 84 (.agg #[]), recovered := false } :: older)) w fun e u' w' =>
      e = .returned (.tuple #[]) ∧ u' = .panicking ({ v := .iface 84 (.agg #[]), recovered := true } :: older) ∧ w' = (w.alloc (.cells #[] 84)).setCell ⟨g, 0, none⟩ (.bool false) := by
  have hgl := lt_of_cell hc
  have hgn := ne_of_cell hc
  refine callsD_of_wpS Tryd.func45 rfl fun c₀ cs hu => ?_
  simp only [Tryd.ntmps45, List.size_toArray, List.length_cons, List.length_nil, Nat.reduceAdd, Nat.reduceSub, Array.replicate_succ, Array.replicate_zero, List.push_toArray, List.append_toArray, List.nil_append, List.cons_append]
  apply wpS_seq
  apply wpS_region
  simp [wpOpsS, go_sem, recoverD, hu, Tryd.ntmps45, Exit.thenS]
  refine wpS_of_wp (wp_mono (Q := fun e a' w' => e = .normal ∧ a'.defers = [] ∧ w' = (w.alloc (.cells #[] 84)).setCell ⟨g, 0, none⟩ (.bool false)) ?_ ?_)
  · clear hu
    have hne : ∀ W, (binOp .neq 20 (.iface 84 (.agg #[])) .nilIface).run Tryd.prog W = .ok (.bool true) W := fun W => by kernel_rfl
    have hta := assert_wrong
    go_wp2_with fail
  · rintro e a' w' ⟨rfl, hd, rfl⟩
    simp [bodyPostS, hd, results, Tryd.results45]
set_option maxRecDepth 100000 in
theorem held1_idle (p : Addr) (w : World) :
    CallsD Tryd.prog 45 #[.pointer (some p)] .returning w fun e u' w' => e = .returned (.tuple #[]) ∧ u' = .returning ∧ w' = w := by
  refine callsD_of_wpS Tryd.func45 rfl fun c₀ cs hu => ?_
  simp only [Tryd.ntmps45, List.size_toArray, List.length_cons, List.length_nil, Nat.reduceAdd, Nat.reduceSub, Array.replicate_succ, Array.replicate_zero, List.push_toArray, List.append_toArray, List.nil_append, List.cons_append]
  apply wpS_seq
  apply wpS_region
  simp [wpOpsS, go_sem, recoverD, hu, Tryd.ntmps45, Exit.thenS]
  refine wpS_of_wp (wp_mono (Q := fun e a' w' => e = .normal ∧ a'.defers = [] ∧ w' = w) ?_ ?_)
  · clear hu
    go_wp2_with fail
  · rintro e a' w' ⟨rfl, hd, rfl⟩
    cases c₀
    simp_all [bodyPostS, results, Tryd.results45]
/-- held: whether what is handed in holds, or throws 'wrong'. -/
theorem held_any (K : Nat) (caps : Array Value) (hK : Enters K) (P : Prop) (w : World)
    (hcon : ∀ W, Ext w W → Calls Tryd.prog K caps W fun e W' => Ext W W' ∧ ((P ∧ e = .returned (.tuple #[])) ∨ (¬ P ∧ e = .panicked wrongs))) :
    Calls Tryd.prog 22 #[.func (.func K) #[] caps] w fun e w' => Ext w w' ∧ ((P ∧ e = .returned (.bool true)) ∨ (¬ P ∧ e = .returned (.bool false))) := by
  have hmf : ∀ (fn : Fn) (first cap : Array Value) (w : World), (Instr.makeFunc fn first cap).run Tryd.prog w = .ok (.func fn first cap) w := fun _ _ _ _ => rfl
  have hk := hK.out
  have HC := hid hcon
  clear hcon
  go_enter_defers Tryd.func22, Tryd.ntmps22
  go_wp2_with fail
  refine (HC.out _ ((Ext.rf _).al _)).mono ?_
  have q0 : (w.alloc (.cells #[.bool false] 4)).cell? ⟨w.heap.size, 0, none⟩ = some (.bool false) := by simp [go_sem]
  have f0 : (w.alloc (.cells #[.bool false] 4)).frozen? ⟨w.heap.size, 0, none⟩ = false := by simp [go_sem]
  rintro e w1 ⟨hx1, ⟨hp, rfl⟩ | ⟨hp, rfl⟩⟩
  · have b0 := hx1.cell q0
    have b1 := (Below.frozen hx1 (lt_of_cell q0)).trans f0
    have hx : Ext w w1 := ((Ext.rf _).al _).tr hx1
    clear q0 f0
    go_wp2_with fail
    refine leaves_cons (f := 45) (args := #[.pointer (some ⟨w.heap.size, 0, none⟩)]) (by simp) (by simp [go_sem]) ?_
    refine (held1_idle ⟨w.heap.size, 0, none⟩ _).mono ?_
    rintro e u' w'' ⟨rfl, rfl, rfl⟩
    have hc := World.cell?_setCell_same' w1 (⟨w.heap.size, 0, none⟩ : Addr) (.bool true) (by rw [b0]; rfl)
    have hres : (results Tryd.f22 #[.func (.func K) #[] caps, undef, .pointer (some ⟨w.heap.size, 0, none⟩), .func (.func 45) #[] #[.pointer (some ⟨w.heap.size, 0, none⟩)], .func (.func K) #[] caps, .tuple #[]]).run Tryd.prog (w1.setCell ⟨w.heap.size, 0, none⟩ (.bool true)) = .ok (.bool true) (w1.setCell ⟨w.heap.size, 0, none⟩ (.bool true)) := by
      simp [results, Tryd.results22, go_sem, hc]
    exact ⟨_, hres, hx.st (by simp) _, .inl ⟨hp, rfl⟩⟩
  · have b0 := hx1.cell q0
    have b1 := (Below.frozen hx1 (lt_of_cell q0)).trans f0
    have hx : Ext w w1 := ((Ext.rf _).al _).tr hx1
    clear q0 f0
    go_wp2_with fail
    refine leaves_cons (f := 45) (args := #[.pointer (some ⟨w.heap.size, 0, none⟩)]) (by simp) (by simp [go_sem]) ?_
    refine (held1_panicking w.heap.size false [] _ b0 b1).mono ?_
    rintro e u' w'' ⟨rfl, rfl, rfl⟩
    have hl := lt_of_cell b0
    have hc := World.cell?_setCell_same' (w1.alloc (.cells #[] 84)) (⟨w.heap.size, 0, none⟩ : Addr) (.bool false) (by simp [go_sem, b0, hl])
    have hx2 : Ext w ((w1.alloc (.cells #[] 84)).setCell ⟨w.heap.size, 0, none⟩ (.bool false)) := (hx.al _).st (by simp) _
    simp [Leaves, settle, results, Tryd.results22, go_sem, hc]
    exact ⟨hx2, hp⟩
theorem enters_right1 : Enters 23 := ⟨fun _ _ => by simp [go_sem]⟩
set_option maxRecDepth 100000 in
theorem right1_any (ds : List Decl) (n scope self : Int) (vd : Value) (t : Term) (cs : List Value) (g : Nat) (w : World) (hK : KindsIn w) (hd : SlDecl w ds vd) (hR : RTerm w t cs)
    (h0 : w.cell? ⟨g, 0, none⟩ = some vd) (h1 : w.cell? ⟨g + 1, 0, none⟩ = some (.int .i64 n)) (h2 : w.cell? ⟨g + 2, 0, none⟩ = some (.int .i64 scope)) (h3 : w.cell? ⟨g + 3, 0, none⟩ = some (.int .i64 self)) (h4 : w.rangeAt (g + 4) 0 cs) :
    Calls Tryd.prog 23 #[.pointer (some ⟨g, 0, none⟩), .pointer (some ⟨g + 1, 0, none⟩), .pointer (some ⟨g + 3, 0, none⟩), .pointer (some ⟨g + 2, 0, none⟩), .pointer (some ⟨g + 4, 0, none⟩)] w fun e w' =>
      Ext w w' ∧ ((RightP ds n scope self t ∧ e = .returned (.tuple #[])) ∨ (¬ RightP ds n scope self t ∧ e = .panicked wrongs)) := by
  have hu := Tryd.underlying27
  have hi27 : (Tryd.prog.info? 27).map (·.size) = some cs.length := by rw [(rterm_ones hR).1]; kernel_rfl
  have H4 := hid h4
  clear h4
  obtain ⟨A0, c0, hv0, hc0, hr0⟩ := id hd
  have hd0 := hid hd
  clear hd
  subst hv0
  go_enter Tryd.func23, Tryd.ntmps23
  go_wp2_with (refine wpList_load_mid (by rfl) 27 _ (by rfl) (g + 4) 0 (by rfl) cs _ H4.out hu (by rfl) hi27 ?_)
  refine (asks_any ds n scope self _ t cs _ hK hd0.out hR).mono ?_
  rintro e w1 ⟨hx1, ⟨h, rfl⟩ | ⟨h, rfl⟩⟩
  · go_wp2_with fail
    go_end0
    exact ⟨hx1, .inl ⟨h, rfl⟩⟩
  · go_wp2_with fail
    exact ⟨rfl, hx1, .inr ⟨h, rfl⟩⟩
set_option maxRecDepth 100000 in
/-- source.Right. -/
theorem srcRight_any (ds : List Decl) (n scope self : Int) (vd : Value) (t : Term) (cs : List Value) (w : World) (hK : KindsIn w) (hd : SlDecl w ds vd) (hR : RTerm w t cs) :
    Calls Tryd.prog 8 #[vd, .int .i64 n, .int .i64 scope, .int .i64 self, .agg cs.toArray] w fun e w' =>
      Ext w w' ∧ ((RightP ds n scope self t ∧ e = .returned (.bool true)) ∨ (¬ RightP ds n scope self t ∧ e = .returned (.bool false))) := by
  obtain ⟨vl, vk, hcs, hi, ⟨A1, c1, hv1, hc1, hr1⟩, ⟨A2, c2, hv2, hc2, hr2⟩⟩ := rterm_open hR
  obtain ⟨A0, c0, hv0, hc0, hr0⟩ := id hd
  have hR0 := hid hR
  have hd0 := hid hd
  clear hR hd
  subst hcs hv0 hv1 hv2
  have hmf : ∀ (fn : Fn) (first cap : Array Value) (w : World), (Instr.makeFunc fn first cap).run Tryd.prog w = .ok (.func fn first cap) w := fun _ _ _ _ => rfl
  go_enter Tryd.func8, Tryd.ntmps8
  go_wp2_with fail
  have hE : Ext w (((((w.alloc (.cells #[.slice A0 ds.length c0] 39)).alloc (.cells #[.int .i64 n] 3)).alloc (.cells #[.int .i64 scope] 3)).alloc (.cells #[.int .i64 self] 3)).alloc (.cells #[.int .i64 t.kind, .int .i64 t.num, .int .i64 t.at_, .slice A1 t.levels.length c1, .slice A2 t.kids.length c2] 27)) := (((((Ext.rf _).al _).al _).al _).al _).al _
  refine (held_any 23 _ enters_right1 (RightP ds n scope self t) _ ?_).mono ?_
  · intro W hW
    refine right1_any ds n scope self _ t _ w.heap.size W (hK.ext (hE.tr hW)) (hd0.out.ext mono_decl (hE.tr hW)) (mono_term _ _ _ _ (hE.tr hW) hR0.out) ?_ ?_ ?_ ?_ ?_
    · exact hW.cell (by simp [go_sem])
    · exact hW.cell (by simp [go_sem])
    · exact hW.cell (by simp [go_sem])
    · exact hW.cell (by simp [go_sem])
    · intro j v hv
      refine hW.cell ?_
      have := range_fresh ((((w.alloc (.cells #[.slice A0 ds.length c0] 39)).alloc (.cells #[.int .i64 n] 3)).alloc (.cells #[.int .i64 scope] 3)).alloc (.cells #[.int .i64 self] 3)) 27 _ j v hv
      simpa [go_sem] using this
  rintro e w1 ⟨hx1, ⟨h, rfl⟩ | ⟨h, rfl⟩⟩
  · go_wp2_with fail
    go_ret
    exact ⟨hE.tr hx1, .inl ⟨h, rfl⟩⟩
  · go_wp2_with fail
    go_ret
    exact ⟨hE.tr hx1, .inr ⟨h, rfl⟩⟩
end Go.Proofs.YtjaklnabidbmiaaDoor

/- Walks: source.walk's constant, member, ctor, recursor, own, variable. Printed by gen_asks.py. -/
import Derived.Test.YtjaklnabidbmiaaDoorDeclAsk
namespace Go.Proofs.YtjaklnabidbmiaaDoor
open Go.RowKit
set_option linter.unusedSimpArgs false
set_option linter.unusedVariables false

def memberOk (ds : List Decl) (num at_ nl : Int) : Prop := DeclOk ds num nl 0 ∧ (dAt ds num).kind = 3 ∧ at_ < ((dAt ds num).members.length : Int)
set_option maxRecDepth 100000 in
set_option maxHeartbeats 2000000 in
theorem member_any (ds : List Decl) (n self scope : Int) (vd : Value) (k num a : Int) (ls : List Level) (vl vk : Value) (w : World) (hd : SlDecl w ds vd) (hl : SlLevel w ls vl) (h0 : 0 ≤ num) :
    Calls Tryd.prog 66 #[.agg #[vd, .int .i64 n, .int .i64 self, .int .i64 scope], .agg #[.int .i64 k, .int .i64 num, .int .i64 a, vl, vk]] w fun e w' =>
      Ext w w' ∧ ((memberOk ds num a ls.length ∧ e = .returned (.tuple #[])) ∨ (¬ memberOk ds num a ls.length ∧ e = .panicked wrongs)) := by
  go_enter Tryd.func66, Tryd.ntmps66
  go_wp2_with fail
  refine (decl_any ds n self scope vd k num a ls vl vk 0 _ (hd.ext mono_decl (((Ext.rf _).al _).al _)) (hl.ext mono_level (((Ext.rf _).al _).al _)) h0 (by omega)).mono ?_
  rintro e w1 ⟨hx1, ⟨h12, cs, rfl, hR⟩ | ⟨hno, rfl⟩⟩
  · have hx : Ext w w1 := (((Ext.rf _).al _).al _).tr hx1
    have b2 : w1.cell? ⟨w.heap.size + 1, 2, none⟩ = some (.int .i64 a) := hx1.cell (by simp [go_sem])
    have e1 := lt_of_cell b2
    have hon := rdecl_ones hR
    have hi34 : (Tryd.prog.info? 34).map (·.size) = some cs.length := by rw [hon.1]; kernel_rfl
    obtain ⟨f0, f1, i0, i1, ⟨vm, f14, hm⟩, ⟨vc, f15, hc⟩, _⟩ := rdecl_fields hR
    have hm0 := hid hm
    have hc0 := hid hc
    have hx0 := hid hx1
    have hR0 := hid hR
    clear hx1 hR hm hc
    generalize hdd : dAt ds num = d at *
    obtain ⟨A, c, rfl, hcm, hrm⟩ := hm0.out
    have hlm := hrm.len_le
    go_wp2_with (refine wpList_store_fresh (by rfl) 34 _ _ (by rfl) _ 34 cs (by rfl) (by rfl) (by rw [hon.1]; rfl) hi34 hon.2 ?_)
    refine (must_any [d.kind == 3, decide (a < (d.members.length : Int))] _ _ (sl_bool2 (by simp [go_sem]) (by simp [go_sem]))).mono ?_
    rintro e w2 ⟨rfl, rfl⟩
    have hx6 : Ext w ((w1.alloc (.cells cs.toArray 34)).alloc (.cells #[.bool (d.kind == 3), .bool (decide (a < (d.members.length : Int)))] 4)) := (hx.al _).al _
    cases hb : [d.kind == 3, decide (a < (d.members.length : Int))].all id
    · rw [ck_false]
      go_wp2_with fail
      refine ⟨rfl, hx6, .inr ⟨fun ⟨_, h3, h4⟩ => ?_, rfl⟩⟩
      rw [hdd] at h3 h4
      simp [h3, h4] at hb
    · rw [ck_true]
      go_wp2_with fail
      go_end0
      simp at hb
      exact ⟨hx6, .inl ⟨⟨h12, by rw [hdd]; exact hb.1, by rw [hdd]; exact hb.2⟩, rfl⟩⟩
  · go_wp2_with fail
    exact ⟨rfl, (((Ext.rf _).al _).al _).tr hx1, .inr ⟨fun h => hno h.1, rfl⟩⟩

def ctorOk (ds : List Decl) (num at_ nl : Int) : Prop := DeclOk ds num nl 0 ∧ (dAt ds num).kind = 3 ∧ at_ < ((dAt ds num).ctors.length : Int)
set_option maxRecDepth 100000 in
set_option maxHeartbeats 2000000 in
theorem ctor_any (ds : List Decl) (n self scope : Int) (vd : Value) (k num a : Int) (ls : List Level) (vl vk : Value) (w : World) (hd : SlDecl w ds vd) (hl : SlLevel w ls vl) (h0 : 0 ≤ num) :
    Calls Tryd.prog 67 #[.agg #[vd, .int .i64 n, .int .i64 self, .int .i64 scope], .agg #[.int .i64 k, .int .i64 num, .int .i64 a, vl, vk]] w fun e w' =>
      Ext w w' ∧ ((ctorOk ds num a ls.length ∧ e = .returned (.tuple #[])) ∨ (¬ ctorOk ds num a ls.length ∧ e = .panicked wrongs)) := by
  go_enter Tryd.func67, Tryd.ntmps67
  go_wp2_with fail
  refine (decl_any ds n self scope vd k num a ls vl vk 0 _ (hd.ext mono_decl (((Ext.rf _).al _).al _)) (hl.ext mono_level (((Ext.rf _).al _).al _)) h0 (by omega)).mono ?_
  rintro e w1 ⟨hx1, ⟨h12, cs, rfl, hR⟩ | ⟨hno, rfl⟩⟩
  · have hx : Ext w w1 := (((Ext.rf _).al _).al _).tr hx1
    have b2 : w1.cell? ⟨w.heap.size + 1, 2, none⟩ = some (.int .i64 a) := hx1.cell (by simp [go_sem])
    have e1 := lt_of_cell b2
    have hon := rdecl_ones hR
    have hi34 : (Tryd.prog.info? 34).map (·.size) = some cs.length := by rw [hon.1]; kernel_rfl
    obtain ⟨f0, f1, i0, i1, ⟨vm, f14, hm⟩, ⟨vc, f15, hc⟩, _⟩ := rdecl_fields hR
    have hm0 := hid hm
    have hc0 := hid hc
    have hx0 := hid hx1
    have hR0 := hid hR
    clear hx1 hR hm hc
    generalize hdd : dAt ds num = d at *
    obtain ⟨A, c, rfl, hcm, hrm⟩ := hc0.out
    have hlm := hrm.len_le
    go_wp2_with (refine wpList_store_fresh (by rfl) 34 _ _ (by rfl) _ 34 cs (by rfl) (by rfl) (by rw [hon.1]; rfl) hi34 hon.2 ?_)
    refine (must_any [d.kind == 3, decide (a < (d.ctors.length : Int))] _ _ (sl_bool2 (by simp [go_sem]) (by simp [go_sem]))).mono ?_
    rintro e w2 ⟨rfl, rfl⟩
    have hx6 : Ext w ((w1.alloc (.cells cs.toArray 34)).alloc (.cells #[.bool (d.kind == 3), .bool (decide (a < (d.ctors.length : Int)))] 4)) := (hx.al _).al _
    cases hb : [d.kind == 3, decide (a < (d.ctors.length : Int))].all id
    · rw [ck_false]
      go_wp2_with fail
      refine ⟨rfl, hx6, .inr ⟨fun ⟨_, h3, h4⟩ => ?_, rfl⟩⟩
      rw [hdd] at h3 h4
      simp [h3, h4] at hb
    · rw [ck_true]
      go_wp2_with fail
      go_end0
      simp at hb
      exact ⟨hx6, .inl ⟨⟨h12, by rw [hdd]; exact hb.1, by rw [hdd]; exact hb.2⟩, rfl⟩⟩
  · go_wp2_with fail
    exact ⟨rfl, (((Ext.rf _).al _).al _).tr hx1, .inr ⟨fun h => hno h.1, rfl⟩⟩

def recursorOk (ds : List Decl) (num at_ nl : Int) : Prop := DeclOk ds num nl 1 ∧ (dAt ds num).kind = 3 ∧ at_ < ((dAt ds num).members.length : Int)
set_option maxRecDepth 100000 in
set_option maxHeartbeats 2000000 in
theorem recursor_any (ds : List Decl) (n self scope : Int) (vd : Value) (k num a : Int) (ls : List Level) (vl vk : Value) (w : World) (hd : SlDecl w ds vd) (hl : SlLevel w ls vl) (h0 : 0 ≤ num) :
    Calls Tryd.prog 68 #[.agg #[vd, .int .i64 n, .int .i64 self, .int .i64 scope], .agg #[.int .i64 k, .int .i64 num, .int .i64 a, vl, vk]] w fun e w' =>
      Ext w w' ∧ ((recursorOk ds num a ls.length ∧ e = .returned (.tuple #[])) ∨ (¬ recursorOk ds num a ls.length ∧ e = .panicked wrongs)) := by
  go_enter Tryd.func68, Tryd.ntmps68
  go_wp2_with fail
  refine (decl_any ds n self scope vd k num a ls vl vk 1 _ (hd.ext mono_decl (((Ext.rf _).al _).al _)) (hl.ext mono_level (((Ext.rf _).al _).al _)) h0 (by omega)).mono ?_
  rintro e w1 ⟨hx1, ⟨h12, cs, rfl, hR⟩ | ⟨hno, rfl⟩⟩
  · have hx : Ext w w1 := (((Ext.rf _).al _).al _).tr hx1
    have b2 : w1.cell? ⟨w.heap.size + 1, 2, none⟩ = some (.int .i64 a) := hx1.cell (by simp [go_sem])
    have e1 := lt_of_cell b2
    have hon := rdecl_ones hR
    have hi34 : (Tryd.prog.info? 34).map (·.size) = some cs.length := by rw [hon.1]; kernel_rfl
    obtain ⟨f0, f1, i0, i1, ⟨vm, f14, hm⟩, ⟨vc, f15, hc⟩, _⟩ := rdecl_fields hR
    have hm0 := hid hm
    have hc0 := hid hc
    have hx0 := hid hx1
    have hR0 := hid hR
    clear hx1 hR hm hc
    generalize hdd : dAt ds num = d at *
    obtain ⟨A, c, rfl, hcm, hrm⟩ := hm0.out
    have hlm := hrm.len_le
    go_wp2_with (refine wpList_store_fresh (by rfl) 34 _ _ (by rfl) _ 34 cs (by rfl) (by rfl) (by rw [hon.1]; rfl) hi34 hon.2 ?_)
    refine (must_any [d.kind == 3, decide (a < (d.members.length : Int))] _ _ (sl_bool2 (by simp [go_sem]) (by simp [go_sem]))).mono ?_
    rintro e w2 ⟨rfl, rfl⟩
    have hx6 : Ext w ((w1.alloc (.cells cs.toArray 34)).alloc (.cells #[.bool (d.kind == 3), .bool (decide (a < (d.members.length : Int)))] 4)) := (hx.al _).al _
    cases hb : [d.kind == 3, decide (a < (d.members.length : Int))].all id
    · rw [ck_false]
      go_wp2_with fail
      refine ⟨rfl, hx6, .inr ⟨fun ⟨_, h3, h4⟩ => ?_, rfl⟩⟩
      rw [hdd] at h3 h4
      simp [h3, h4] at hb
    · rw [ck_true]
      go_wp2_with fail
      go_end0
      simp at hb
      exact ⟨hx6, .inl ⟨⟨h12, by rw [hdd]; exact hb.1, by rw [hdd]; exact hb.2⟩, rfl⟩⟩
  · go_wp2_with fail
    exact ⟨rfl, (((Ext.rf _).al _).al _).tr hx1, .inr ⟨fun h => hno h.1, rfl⟩⟩

def constantOk (ds : List Decl) (num at_ nl : Int) : Prop := DeclOk ds num nl 0 ∧ ((dAt ds num).kind = 1 ∨ (dAt ds num).kind = 2)
set_option maxRecDepth 100000 in
set_option maxHeartbeats 2000000 in
theorem constant_any (ds : List Decl) (n self scope : Int) (vd : Value) (k num a : Int) (ls : List Level) (vl vk : Value) (w : World) (hd : SlDecl w ds vd) (hl : SlLevel w ls vl) (h0 : 0 ≤ num) :
    Calls Tryd.prog 65 #[.agg #[vd, .int .i64 n, .int .i64 self, .int .i64 scope], .agg #[.int .i64 k, .int .i64 num, .int .i64 a, vl, vk]] w fun e w' =>
      Ext w w' ∧ ((constantOk ds num a ls.length ∧ e = .returned (.tuple #[])) ∨ (¬ constantOk ds num a ls.length ∧ e = .panicked wrongs)) := by
  go_enter Tryd.func65, Tryd.ntmps65
  go_wp2_with fail
  refine (decl_any ds n self scope vd k num a ls vl vk 0 _ (hd.ext mono_decl (((Ext.rf _).al _).al _)) (hl.ext mono_level (((Ext.rf _).al _).al _)) h0 (by omega)).mono ?_
  rintro e w1 ⟨hx1, ⟨h12, cs, rfl, hR⟩ | ⟨hno, rfl⟩⟩
  · have hx : Ext w w1 := (((Ext.rf _).al _).al _).tr hx1
    have b2 : w1.cell? ⟨w.heap.size + 1, 2, none⟩ = some (.int .i64 a) := hx1.cell (by simp [go_sem])
    have e1 := lt_of_cell b2
    have hon := rdecl_ones hR
    have hi34 : (Tryd.prog.info? 34).map (·.size) = some cs.length := by rw [hon.1]; kernel_rfl
    obtain ⟨f0, f1, i0, i1, ⟨vm, f14, hm⟩, ⟨vc, f15, hc⟩, _⟩ := rdecl_fields hR
    skip
    have hx0 := hid hx1
    have hR0 := hid hR
    clear hx1 hR hm hc
    generalize hdd : dAt ds num = d at *
    go_wp2_with (refine wpList_store_fresh (by rfl) 34 _ _ (by rfl) _ 34 cs (by rfl) (by rfl) (by rw [hon.1]; rfl) hi34 hon.2 ?_)
    all_goals first
      | (refine (must_any [d.kind == 1 || d.kind == 2] _ _ (sl_bool1 (by simp [go_sem]))).mono ?_
         rintro e w2 ⟨rfl, rfl⟩
         have hk1 : d.kind ≠ 1 := by assumption
         cases hb : [d.kind == 1 || d.kind == 2].all id
         · rw [ck_false]
           go_wp2_with fail
           refine ⟨rfl, (hx.al _).al _, .inr ⟨fun ⟨_, h3⟩ => ?_, rfl⟩⟩
           rw [hdd] at h3
           rcases h3 with h3 | h3 <;> simp [h3] at hb
         · rw [ck_true]
           go_wp2_with fail
           go_end0
           simp at hb
           exact ⟨(hx.al _).al _, .inl ⟨⟨h12, by rw [hdd]; exact hb⟩, rfl⟩⟩)
      | (refine (must_yes [true] _ _ (sl_bool1 (by simp [go_sem])) rfl).mono ?_
         rintro e w2 ⟨rfl, hx2⟩
         have hk1 : d.kind = 1 := by simp_all
         go_wp2_with fail
         go_end0
         exact ⟨((hx.al _).al _).tr hx2, .inl ⟨⟨h12, .inl (by rw [hdd]; exact hk1)⟩, rfl⟩⟩)
  · go_wp2_with fail
    exact ⟨rfl, (((Ext.rf _).al _).al _).tr hx1, .inr ⟨fun h => hno h.1, rfl⟩⟩

theorem own_any (n self scope : Int) (vd : Value) (k num a : Int) (vl vk : Value) (w : World) :
    Calls Tryd.prog 69 #[.agg #[vd, .int .i64 n, .int .i64 self, .int .i64 scope], .agg #[.int .i64 k, .int .i64 num, .int .i64 a, vl, vk]] w fun e w' => e = ck (decide (a < self)) ∧ Ext w w' := by
  go_enter Tryd.func69, Tryd.ntmps69
  go_wp2_with fail
  refine (must_any [decide (a < self)] _ _ (sl_bool1 (by simp [go_sem]))).mono ?_
  rintro e w2 ⟨rfl, rfl⟩
  cases hb : decide (a < self)
  · rw [show ck ([false].all id) = .panicked wrongs from rfl]
    go_wp2_with fail
    exact ⟨rfl, by first | (rw [hb]; rfl) | (simp at hb; simp [ck, hb, wrongs]), (((Ext.rf _).al _).al _).al _⟩
  · rw [show ck ([true].all id) = .returned (.tuple #[]) from rfl]
    go_wp2_with fail
    go_end0
    exact ⟨by first | (rw [hb]; rfl) | (simp at hb; simp [ck, hb]), (((Ext.rf _).al _).al _).al _⟩
theorem variable_any (n self scope : Int) (vd : Value) (k num a : Int) (vl vk : Value) (w : World) :
    Calls Tryd.prog 64 #[.agg #[vd, .int .i64 n, .int .i64 self, .int .i64 scope], .agg #[.int .i64 k, .int .i64 num, .int .i64 a, vl, vk]] w fun e w' => e = ck (decide (num < scope)) ∧ Ext w w' := by
  go_enter Tryd.func64, Tryd.ntmps64
  go_wp2_with fail
  refine (must_any [decide (num < scope)] _ _ (sl_bool1 (by simp [go_sem]))).mono ?_
  rintro e w2 ⟨rfl, rfl⟩
  cases hb : decide (num < scope)
  · rw [show ck ([false].all id) = .panicked wrongs from rfl]
    go_wp2_with fail
    exact ⟨rfl, by first | (rw [hb]; rfl) | (simp at hb; simp [ck, hb, wrongs]), (((Ext.rf _).al _).al _).al _⟩
  · rw [show ck ([true].all id) = .returned (.tuple #[]) from rfl]
    go_wp2_with fail
    go_end0
    exact ⟨by first | (rw [hb]; rfl) | (simp at hb; simp [ck, hb]), (((Ext.rf _).al _).al _).al _⟩
end Go.Proofs.YtjaklnabidbmiaaDoor

/- Walk: spandrellaw11.SourceRows: it answers true, and nothing that was there turns. Printed by gen_rows.py. -/
import Derived.Test.YtjaklnabidbmiaaDoorTele
import Derived.Test.YtjaklnabidbmiaaDoorVar
import Derived.Test.YtjaklnabidbmiaaDoorGrowP
import Derived.Test.YtjaklnabidbmiaaDoorSizes
import Derived.Test.YtjaklnabidbmiaaDoorAwake
namespace Go.Proofs.YtjaklnabidbmiaaDoor
open Go.RowKit
set_option linter.unusedSimpArgs false
set_option linter.unusedVariables false
theorem own_fresh {w : World} {base g : Nat} {e : TypeId} {sz : Nat} {cs : List Value} (hg : w.heap.size = g) (hb : base ≤ g) (hl : cs.length = sz) : (w.alloc (.cells cs.toArray e)).ownsRow base e sz (.slice (some ⟨g, 0, none⟩) 1 1) 1 cs := by
  subst hg
  exact ⟨by rw [Nat.one_mul]; exact hl, .inr ⟨w.heap.size, 1, cs.toArray, rfl, hb, (MapKept.heap_alloc w _).1, Nat.le_refl _, by unfold maxLen; omega, by simp [hl], by rw [Nat.one_mul]; exact List.take_of_length_le (by simp; omega)⟩⟩
/-- A row of the call's own reads as a slice. -/
theorem sl_row {α : Type} {R : World → α → List Value → Prop} {sz bytes : Nat} {w : World} {base : Nat} {e : TypeId} {v : Value} {xs : List α} {cells : List Value} (h1 : w.ownsRow base e sz v xs.length cells) (hb : xs.length * bytes ≤ LIM)
    (h2 : ∀ i x, xs[i]? = some x → ∃ cs, R w x cs ∧ ∀ j u, cs[j]? = some u → cells[i * sz + j]? = some u) : Sl R sz bytes w xs v := by
  rcases h1.2 with ⟨rfl, hz⟩ | ⟨g, cap, cur, rfl, hg, hgg, hc, hm, hs, htake⟩
  · obtain rfl : xs = [] := List.eq_nil_of_length_eq_zero hz
    exact ⟨none, 0, rfl, Nat.le_refl _, by simp, fun hne => absurd rfl hne⟩
  · refine ⟨_, _, rfl, hc, hb, fun _ => ⟨g, 0, rfl, fun i x hx => ?_⟩⟩
    obtain ⟨cs, h3, h5⟩ := h2 i x hx
    refine ⟨cs, h3, fun j u hu => ?_⟩
    have h6 := h1.cells (g := g) rfl (i * sz + j) u (h5 j u hu)
    rw [Addr.add_lit, ← Nat.add_assoc] at h6
    exact h6
theorem sl_more {w w' : World} {d : Decl} {ds : List Decl} {cs news : List Value} {v : Value} {base : Nat} {e : TypeId} (hx : Ext w w') (hR : RDecl w d cs) (hown : w'.ownsRow base e 16 v (1 + ds.length) (cs ++ news))
    (hn : ∀ i x, ds[i]? = some x → ∃ cs, RDecl w x cs ∧ cs.length = 16 ∧ ∀ j u, cs[j]? = some u → news[i * 16 + j]? = some u) (hb : (1 + ds.length) * 128 ≤ LIM) : Sl RDecl 16 128 w' (d :: ds) v := by
  have hl : cs.length = 16 := (rdecl_ones hR).1
  refine sl_row (e := e) (base := base) (cells := cs ++ news) (by rw [List.length_cons, Nat.add_comm]; exact hown) (by rw [List.length_cons, Nat.add_comm]; exact hb) (fun i x hi => ?_)
  cases i with
  | zero =>
    simp at hi
    subst hi
    refine ⟨cs, mono_decl _ _ _ _ hx hR, fun j u hu => ?_⟩
    rw [Nat.zero_mul, Nat.zero_add, List.getElem?_append_left (List.getElem?_eq_some_iff.1 hu).1]
    exact hu
  | succ i =>
    obtain ⟨cs', k1, k2, k3⟩ := hn i x (by simpa using hi)
    refine ⟨cs', mono_decl _ _ _ _ hx k1, fun j u hu => ?_⟩
    rw [List.getElem?_append_right (by omega), hl, show (i + 1) * 16 + j - 16 = i * 16 + j by omega]
    exact k3 j u hu
theorem told_pB2 {P : Prop} {w : World} {e : Ending} {w' : World} (h : Ext w w' ∧ ((P ∧ e = .returned (.bool true)) ∨ (¬ P ∧ e = .returned (.bool false)))) : (∃ b : Bool, e = .returned (.bool b) ∧ (b = true ↔ P)) ∧ Ext w w' := by
  obtain ⟨hx, ⟨h1, rfl⟩ | ⟨h1, rfl⟩⟩ := h
  · exact ⟨⟨true, rfl, by simp [h1]⟩, hx⟩
  · exact ⟨⟨false, rfl, by simp [h1]⟩, hx⟩
theorem rdecl_ax2 {w : World} {d : Decl} {A1 A2 : Option Addr} {c1 c2 : Nat} (hl : inI d.levels) (h : RTerm w d.type [.int .i64 d.type.kind, .int .i64 d.type.num, .int .i64 d.type.at_, .slice A1 d.type.levels.length c1, .slice A2 d.type.kids.length c2]) : RDecl w { noDecl with kind := 1, levels := d.levels, type := d.type } [.int .i64 1, .int .i64 d.levels, .int .i64 d.type.kind, .int .i64 d.type.num, .int .i64 d.type.at_, .slice A1 d.type.levels.length c1, .slice A2 d.type.kids.length c2, .int .i64 0, .int .i64 0, .int .i64 0, .slice none 0 0, .slice none 0 0, .slice none 0 0, .slice none 0 0, .slice none 0 0, .slice none 0 0] :=
  ⟨[_, _, _, _, _], [_, _, _, _, _], _, _, _, _, rfl, ⟨inI_small (by simp), hl⟩, h, rterm_no, sl_nil, sl_nil, sl_nil, sl_nil⟩
set_option maxRecDepth 100000 in
set_option maxHeartbeats 8000000 in
theorem sourceRows_any (ds : List Decl) (d : Decl) (vd : Value) (cs : List Value) (w : World) (hK : KindsIn w) (hd : SlDecl w ds vd) (hR : RDecl w d cs) :
    Calls Tryd.prog 5 #[vd, .agg cs.toArray] w fun e w' => e = .returned (.bool true) ∧ Ext w w' := by
  have Hd := hid hd
  have HR := hid hR
  have HKd := hid hK
  obtain ⟨A, c, rfl, -, hr⟩ := hd
  have Hr := hid hr
  have hbd := hid hr.1
  obtain ⟨A1, c1, A2, c2, A3, c3, A4, c4, cp, vp, cS, vS, cm, vm, cc, vc, rfl, hik, hil, hty, hbo, hpa, hso, hme, hct⟩ := rdecl_open hR
  have HIL := hid hil
  have HTY := hid hty
  have HPA := hid hpa
  have HSO := hid hso
  have HME := hid hme
  have HCT := hid hct
  have lenM := (show d.members.length ≤ 140737488351232 by have := hme.room; unfold LIM at this; omega)
  have lenC := (show d.ctors.length ≤ 140737488351232 by have := hct.room; unfold LIM at this; omega)
  obtain ⟨i0, hi, hz0, hz1, hz2⟩ := info_parts info_decl
  have hi' := hid hi
  have hz0' := hid hz0
  have hz1' := hid hz1
  have hz2' := hid hz2
  clear hi hz0 hz1 hz2 hR hr hil hty hbo hpa hso hme hct
  have hu := Tryd.underlying34
  have hi16 : (Tryd.prog.info? 34).map (·.size) = some 16 := by kernel_rfl
  have hu5 := Tryd.underlying27
  have hi5 : (Tryd.prog.info? 27).map (·.size) = some 5 := by kernel_rfl
  go_enter Tryd.func5, Tryd.ntmps5
  go_wp2_with fail
  refine (awake_any _ (hK.ext ((Ext.rf _).al _))).mono ?_
  rintro e w1 ⟨rfl, hx1⟩
  have HX1 := hid (((Ext.rf w).al _).tr hx1)
  have HC1 := hid (show cellsAt w1 w.heap.size 0 [.int .i64 d.kind, .int .i64 d.levels, .int .i64 d.type.kind, .int .i64 d.type.num, .int .i64 d.type.at_, .slice A1 d.type.levels.length c1, .slice A2 d.type.kids.length c2, .int .i64 d.body.kind, .int .i64 d.body.num, .int .i64 d.body.at_, .slice A3 d.body.levels.length c3, .slice A4 d.body.kids.length c4, .slice vp d.params.length cp, .slice vS d.sort.parts.length cS, .slice vm d.members.length cm, .slice vc d.ctors.length cc] from fun j u hu => hx1.cell (range_fresh w 34 [.int .i64 d.kind, .int .i64 d.levels, .int .i64 d.type.kind, .int .i64 d.type.num, .int .i64 d.type.at_, .slice A1 d.type.levels.length c1, .slice A2 d.type.kids.length c2, .int .i64 d.body.kind, .int .i64 d.body.num, .int .i64 d.body.at_, .slice A3 d.body.levels.length c3, .slice A4 d.body.kids.length c4, .slice vp d.params.length cp, .slice vS d.sort.parts.length cS, .slice vm d.members.length cm, .slice vc d.ctors.length cc] j u hu))
  have HZ1 := hid (show w.heap.size < w1.heap.size by have := hx1.size; simp at this; omega)
  clear hx1
  have hrow : Row (fun _ => RDecl w) 16 256 (w1.alloc (.cells #[.int .i64 d.kind, .int .i64 d.levels, .int .i64 d.type.kind, .int .i64 d.type.num, .int .i64 d.type.at_, .slice A1 d.type.levels.length c1, .slice A2 d.type.kids.length c2, .int .i64 d.body.kind, .int .i64 d.body.num, .int .i64 d.body.at_, .slice A3 d.body.levels.length c3, .slice A4 d.body.kids.length c4, .slice vp d.params.length cp, .slice vS d.sort.parts.length cS, .slice vm d.members.length cm, .slice vc d.ctors.length cc] 34)) A ds := ⟨Hr.out.1, fun hne => by
    obtain ⟨b, o, e, h⟩ := Hr.out.2 hne
    exact ⟨b, o, e, fun i x hx => by
      obtain ⟨cs, h1, h2⟩ := h i x hx
      exact ⟨cs, h1, h2.ext (HX1.out.al _)⟩⟩⟩
  have Hrow := hid hrow
  clear hrow
  go_wp2_with (first | ((with_reducible show wpList _ _ _ (⟨_, Op.load 34 _, _, _, _, _⟩ :: _) _ _); refine wpList_load_mid (by rfl) 34 _ (by rfl) w.heap.size 0 (by rfl) [.int .i64 d.kind, .int .i64 d.levels, .int .i64 d.type.kind, .int .i64 d.type.num, .int .i64 d.type.at_, .slice A1 d.type.levels.length c1, .slice A2 d.type.kids.length c2, .int .i64 d.body.kind, .int .i64 d.body.num, .int .i64 d.body.at_, .slice A3 d.body.levels.length c3, .slice A4 d.body.kids.length c4, .slice vp d.params.length cp, .slice vS d.sort.parts.length cS, .slice vm d.members.length cm, .slice vc d.ctors.length cc] _ (by exact HC1.out) hu (by rfl) hi16 ?_) | (at_builtin; go_loud (refine wpList_append_all (R := fun _ => RDecl w) (sz := 16) (bytes := 256) (fun y cs h => rdecl_ones h) (by rfl) _ _ 39 (by rfl) w.heap.size 34 i0 _ Tryd.underlying39 hi'.out hz0'.out hz1'.out hz2'.out (by rfl) (by omega) (by omega) (.slice (some ⟨w1.heap.size, 0, none⟩) 1 1) 1 [.int .i64 d.kind, .int .i64 d.levels, .int .i64 d.type.kind, .int .i64 d.type.num, .int .i64 d.type.at_, .slice A1 d.type.levels.length c1, .slice A2 d.type.kids.length c2, .int .i64 d.body.kind, .int .i64 d.body.num, .int .i64 d.body.at_, .slice A3 d.body.levels.length c3, .slice A4 d.body.kids.length c4, .slice vp d.params.length cp, .slice vS d.sort.parts.length cS, .slice vm d.members.length cm, .slice vc d.ctors.length cc] (by rfl) (by exact own_fresh (by simp) (by have := HZ1.out; omega) rfl) ds A c (by rfl) (by exact Hrow.out) (by have := hbd.out; unfold LIM at this; omega) (by omega) (by have := HZ1.out; simp; omega) ?_; intro v2 w2 news hown hnews hg)))
  have hx2 : Ext w w2 := grown_ext (HX1.out.al _) hg (fun k h => by cases h; have := HZ1.out; show w.heap.size ≤ w1.heap.size; omega)
  have HC2 := hid (show cellsAt w2 w.heap.size 0 [.int .i64 d.kind, .int .i64 d.levels, .int .i64 d.type.kind, .int .i64 d.type.num, .int .i64 d.type.at_, .slice A1 d.type.levels.length c1, .slice A2 d.type.kids.length c2, .int .i64 d.body.kind, .int .i64 d.body.num, .int .i64 d.body.at_, .slice A3 d.body.levels.length c3, .slice A4 d.body.kids.length c4, .slice vp d.params.length cp, .slice vS d.sort.parts.length cS, .slice vm d.members.length cm, .slice vc d.ctors.length cc] from fun j u hu => hg.cell (((Ext.rf _).al _).cell (HC1.out j u hu)) (fun e => by have := HZ1.out; simp [Value.ownBlock] at e; omega))
  have HX2' := hid hx2
  have HS := hid (sl_more hx2 HR.out hown (fun i x h => hnews i x h) (by have := hbd.out; unfold LIM at this ⊢; omega))
  clear hown hnews hg hx2 Hrow HX1 HC1 HZ1
  refine (great128_any (d :: ds) [] _ _ _ HS.out sl_nil).mono ?_
  rintro e w3 ⟨hx3, b, rfl⟩
  have HC3 := hid (HC2.out.ext hx3)
  have HX3 := hid (HX2'.out.tr hx3)
  clear hx3 HC2 HX2' HS
  cases b
  rotate_left
  · go_wp2_with fail
    go_ret
    exact ⟨rfl, HX3.out⟩
  have r0 : w3.cell? ⟨w.heap.size, 0, none⟩ = some (.int .i64 d.kind) := by simpa using HC3.out.pick 0 rfl
  have r1 : w3.cell? ⟨w.heap.size, 1, none⟩ = some (.int .i64 d.levels) := by simpa using HC3.out.pick 1 rfl
  have r2 : w3.cell? ⟨w.heap.size, 2, none⟩ = some (.int .i64 d.type.kind) := by simpa using HC3.out.pick 2 rfl
  have r3 : w3.cell? ⟨w.heap.size, 3, none⟩ = some (.int .i64 d.type.num) := by simpa using HC3.out.pick 3 rfl
  have r4 : w3.cell? ⟨w.heap.size, 4, none⟩ = some (.int .i64 d.type.at_) := by simpa using HC3.out.pick 4 rfl
  have r5 : w3.cell? ⟨w.heap.size, 5, none⟩ = some (.slice A1 d.type.levels.length c1) := by simpa using HC3.out.pick 5 rfl
  have r6 : w3.cell? ⟨w.heap.size, 6, none⟩ = some (.slice A2 d.type.kids.length c2) := by simpa using HC3.out.pick 6 rfl
  have r7 : w3.cell? ⟨w.heap.size, 7, none⟩ = some (.int .i64 d.body.kind) := by simpa using HC3.out.pick 7 rfl
  have r8 : w3.cell? ⟨w.heap.size, 8, none⟩ = some (.int .i64 d.body.num) := by simpa using HC3.out.pick 8 rfl
  have r9 : w3.cell? ⟨w.heap.size, 9, none⟩ = some (.int .i64 d.body.at_) := by simpa using HC3.out.pick 9 rfl
  have r10 : w3.cell? ⟨w.heap.size, 10, none⟩ = some (.slice A3 d.body.levels.length c3) := by simpa using HC3.out.pick 10 rfl
  have r11 : w3.cell? ⟨w.heap.size, 11, none⟩ = some (.slice A4 d.body.kids.length c4) := by simpa using HC3.out.pick 11 rfl
  have r12 : w3.cell? ⟨w.heap.size, 12, none⟩ = some (.slice vp d.params.length cp) := by simpa using HC3.out.pick 12 rfl
  have r13 : w3.cell? ⟨w.heap.size, 13, none⟩ = some (.slice vS d.sort.parts.length cS) := by simpa using HC3.out.pick 13 rfl
  have r14 : w3.cell? ⟨w.heap.size, 14, none⟩ = some (.slice vm d.members.length cm) := by simpa using HC3.out.pick 14 rfl
  have r15 : w3.cell? ⟨w.heap.size, 15, none⟩ = some (.slice vc d.ctors.length cc) := by simpa using HC3.out.pick 15 rfl
  go_wp2_with fail
  refine (srcDecl_any ds d _ _ _ (hK.ext HX3.out) (Hd.out.ext mono_decl HX3.out) (mono_decl _ _ _ _ HX3.out HR.out)).mono ?_
  rintro e w4 ⟨hx4, ⟨hP, rfl⟩ | ⟨hP, rfl⟩⟩
  rotate_left
  · go_wp2_with fail
    go_ret
    exact ⟨rfl, HX3.out.tr hx4⟩
  clear r0 r1 r2 r3 r4 r5 r6 r7 r8 r9 r10 r11 r12 r13 r14 r15
  have HP := hid hP
  have HC4 := hid (HC3.out.ext hx4)
  have HX4 := hid (HX3.out.tr hx4)
  clear hx4 HC3 HX3 hP
  have q0 : w4.cell? ⟨w.heap.size, 0, none⟩ = some (.int .i64 d.kind) := by simpa using HC4.out.pick 0 rfl
  by_cases hk3 : d.kind = 3
  rotate_left
  · have hk3' : (d.kind != 3) = true := by simpa using hk3
    obtain ⟨hax, hk12⟩ := axiom_right HP.out hk3
    have HAX := hid hax
    have q1 : w4.cell? ⟨w.heap.size, 1, none⟩ = some (.int .i64 d.levels) := by simpa using HC4.out.pick 1 rfl
    have HC4t := hid (show cellsAt w4 w.heap.size 2 [.int .i64 d.type.kind, .int .i64 d.type.num, .int .i64 d.type.at_, .slice A1 d.type.levels.length c1, .slice A2 d.type.kids.length c2] from cells5o (by simpa using HC4.out.pick 2 rfl) (by simpa using HC4.out.pick 3 rfl) (by simpa using HC4.out.pick 4 rfl) (by simpa using HC4.out.pick 5 rfl) (by simpa using HC4.out.pick 6 rfl))
    have hone := hid (show ∀ v ∈ ([.int .i64 1, .int .i64 d.levels, .int .i64 d.type.kind, .int .i64 d.type.num, .int .i64 d.type.at_, .slice A1 d.type.levels.length c1, .slice A2 d.type.kids.length c2, .int .i64 0, .int .i64 0, .int .i64 0, .slice none 0 0, .slice none 0 0, .slice none 0 0, .slice none 0 0, .slice none 0 0, .slice none 0 0] : List Value), v.oneCell' = true from fun u hu => by
      simp only [List.mem_cons, List.not_mem_nil, or_false] at hu
      rcases hu with rfl | rfl | rfl | rfl | rfl | rfl | rfl | rfl | rfl | rfl | rfl | rfl | rfl | rfl | rfl | rfl <;> rfl)
    clear hax
    have Hk12 := hid hk12
    clear hk12
    go_wp2_with (first | ((with_reducible show wpList _ _ _ (⟨_, Op.load 27 _, _, _, _, _⟩ :: _) _ _); refine wpList_load_mid (by rfl) 27 _ (by rfl) w.heap.size 2 (by rfl) [.int .i64 d.type.kind, .int .i64 d.type.num, .int .i64 d.type.at_, .slice A1 d.type.levels.length c1, .slice A2 d.type.kids.length c2] _ (by exact HC4t.out) hu5 (by rfl) hi5 ?_) | ((with_reducible show wpList _ _ _ (⟨_, Op.store 34 _ _, _, _, _, _⟩ :: _) _ _); refine wpList_store_fresh_at (by rfl) 34 _ _ (by rfl) #[.int .i64 0, .int .i64 0, .int .i64 0, .int .i64 0, .int .i64 0, .slice none 0 0, .slice none 0 0, .int .i64 0, .int .i64 0, .int .i64 0, .slice none 0 0, .slice none 0 0, .slice none 0 0, .slice none 0 0, .slice none 0 0, .slice none 0 0] 34 [.int .i64 1, .int .i64 d.levels, .int .i64 d.type.kind, .int .i64 d.type.num, .int .i64 d.type.at_, .slice A1 d.type.levels.length c1, .slice A2 d.type.kids.length c2, .int .i64 0, .int .i64 0, .int .i64 0, .slice none 0 0, .slice none 0 0, .slice none 0 0, .slice none 0 0, .slice none 0 0, .slice none 0 0] w4.heap.size (by rfl) rfl (by rfl) (by rfl) hi16 hone.out ?_) | ((with_reducible show wpList _ _ _ (⟨_, Op.load 34 _, _, _, _, _⟩ :: _) _ _); refine wpList_load_mid (by rfl) 34 _ (by rfl) w4.heap.size 0 (by rfl) [.int .i64 1, .int .i64 d.levels, .int .i64 d.type.kind, .int .i64 d.type.num, .int .i64 d.type.at_, .slice A1 d.type.levels.length c1, .slice A2 d.type.kids.length c2, .int .i64 0, .int .i64 0, .int .i64 0, .slice none 0 0, .slice none 0 0, .slice none 0 0, .slice none 0 0, .slice none 0 0, .slice none 0 0] _ (by exact range_fresh _ _ _) hu (by rfl) hi16 ?_))
    refine (srcDecl_any ds { noDecl with kind := 1, levels := d.levels, type := d.type } _ _ _ (hK.ext (HX4.out.al _)) (Hd.out.ext mono_decl (HX4.out.al _)) (rdecl_ax2 HIL.out (mono_term _ _ _ _ (HX4.out.al _) HTY.out))).mono ?_
    rintro e w5 ⟨hx5, ⟨-, rfl⟩ | ⟨h, rfl⟩⟩
    rotate_left
    · exact absurd HAX.out h
    have q0' : w5.cell? ⟨w.heap.size, 0, none⟩ = some (.int .i64 d.kind) := hx5.cell (((Ext.rf _).al _).cell q0)
    have HX5 := hid (HX4.out.tr (((Ext.rf _).al _).tr hx5))
    clear hx5
    rcases Hk12.out with hk1 | hk2
    · rw [hk1] at q0'
      go_wp2_with fail
      go_ret
      exact ⟨rfl, HX5.out⟩
    · rw [hk2] at q0'
      go_wp2_with fail
      go_ret
      exact ⟨rfl, HX5.out⟩
  · rw [hk3] at q0
    have hbs := block_sizes HP.out hk3
    have SZ := hid hbs
    have q12 : w4.cell? ⟨w.heap.size, 12, none⟩ = some (.slice vp d.params.length cp) := by simpa using HC4.out.pick 12 rfl
    have q13 : w4.cell? ⟨w.heap.size, 13, none⟩ = some (.slice vS d.sort.parts.length cS) := by simpa using HC4.out.pick 13 rfl
    have q14 : w4.cell? ⟨w.heap.size, 14, none⟩ = some (.slice vm d.members.length cm) := by simpa using HC4.out.pick 14 rfl
    have q15 : w4.cell? ⟨w.heap.size, 15, none⟩ = some (.slice vc d.ctors.length cc) := by simpa using HC4.out.pick 15 rfl
    have q1 : w4.cell? ⟨w.heap.size, 1, none⟩ = some (.int .i64 d.levels) := by simpa using HC4.out.pick 1 rfl
    have Q1 := hid q1
    have Q12 := hid q12
    have Q13 := hid q13
    have Q14 := hid q14
    have Q15 := hid q15
    have hk3'' := hid hk3
    clear hbs q1 q12 q13 q14 q15
    go_wp2_with fail
    clear q0
    go_loopw [6] (fun i wr => ∃ j : Nat, j ≤ d.members.length ∧ i = .int .i64 j ∧ Ext w4 wr) (fun i _ => d.members.length - (intOf i).toNat)
    case atStart => exact ⟨0, by omega, rfl, Ext.rf _⟩
    case round =>
      obtain ⟨j, hj, rfl, hxr⟩ := hrel
      obtain ⟨wr, rfl⟩ := ext_name2 hxr
      have q14 := hxr.cell Q14.out
      have Hxr := hid hxr
      clear hxr
      by_cases hlt : j < d.members.length
      · obtain ⟨vm0, cm0, evm, -, hrm⟩ := id HME.out
        obtain ⟨rfl, rfl⟩ : vm = vm0 ∧ cm = cm0 := by cases evm; exact ⟨rfl, rfl⟩
        obtain ⟨bm, om, cm1, rfl, ⟨vi0, rfl, hsi⟩, hcm⟩ := hrm.at_ hlt
        obtain ⟨vi, ci, rfl, -⟩ := id hsi
        have hjI : (j : Int) < d.members.length := by omega
        have hqm := HX4.out.cell hcm.at0
        rw [Nat.mul_one] at hqm
        have Hqm := hid (Hxr.out.cell hqm)
        have HSI := hid hsi
        clear hcm hrm evm hsi hqm
        have hy1 : tsize (.mk 2 0 0 [d.sort] []) ≤ BIG := by simp only [tsize, tsizes]; decide
        have hy2 : tsize (pisT d.members[j].index (.mk 2 0 0 [d.sort] [])) ≤ BIG := by
          have h1 := pis_size (.mk 2 0 0 [d.sort] []) d.members[j].index 20000 (SZ.out.2.1 j hlt)
          have h2 := SZ.out.2.2.2.2 j hlt
          have h3 : tsize (.mk 2 0 0 [d.sort] []) = 1 := by simp [tsize, tsizes]
          have h4 : d.members[j].index.length * (20000 + 1) ≤ 6 * (20000 + 1) := Nat.mul_le_mul_right _ h2
          show tsize (pisT _ _) ≤ 1152921504606846976
          unfold pisT
          omega
        have HY1 := hid hy1
        have HY2 := hid hy2
        obtain ⟨Y, hY⟩ : ∃ Y, Y = memberT d d.members[j] := ⟨_, rfl⟩
        have HYe := hid (show pisT d.params (pisT d.members[j].index (.mk 2 0 0 [d.sort] [])) = Y from hY.symm)
        have HYr := hid (show termRight Y = true → RightP ds d.levels 0 0 Y by rw [hY]; exact member_right HP.out hk3''.out j hlt)
        clear hY hy1 hy2
        go_upto_region 11 with fail
        refine wp_region_var (fun s W v => match s with | 51 => v = .pointer (some ⟨w.heap.size, 12, none⟩) | 52 => v = .slice vp d.params.length cp | 53 => v = .pointer (some ⟨w.heap.size, 14, none⟩) | 54 => v = .slice (some ⟨bm, om, none⟩) d.members.length cm | 55 => v = .int .i64 j | 56 => v = .pointer (some ⟨bm, om + j, none⟩) | 57 => v = .pointer (some ⟨bm, om + j, none⟩) | 58 => v = .slice vi d.members[j].index.length ci | 59 => v = .pointer (some ⟨w.heap.size, 13, none⟩) | 60 => v = .agg #[.slice vS d.sort.parts.length cS] | 61 => ∃ cs : List Value, v = .agg cs.toArray ∧ RTerm W (.mk 2 0 0 [d.sort] []) cs | 62 => ∃ cs : List Value, v = .agg cs.toArray ∧ RTerm W (pisT d.members[j].index (.mk 2 0 0 [d.sort] [])) cs | 63 => ∃ cs : List Value, v = .agg cs.toArray ∧ RTerm W Y cs | _ => True) 14 13 7 5 [true, true, true, true, true, true, true, true, true, true, true, true, true, false, false] _ _ (by kernel_rfl) (by kernel_rfl) (by kernel_rfl) (by rfl) rfl rfl (by rfl) rfl rfl (by decide) (by kernel_rfl) (by kernel_rfl) (of_decide_eq_true (by kernel_rfl)) (by kernel_rfl) (by intro s W W' v hx h; revert h; split <;> first | exact id | exact fun ⟨cs, e, hr⟩ => ⟨cs, e, monoC_term _ _ _ _ hx hr⟩) ?_ ?_ ?_
        · refine ⟨?_, ?_, ?_, ?_, ?_, ?_, ?_, ?_, ?_, ?_, ?_, ?_, ?_, trivial⟩
          · intro gO a W hx hs0 hgb hdf hsz hg hi K hK
            refine step_free rfl ?_
            have t3 : a.tmps.getD 3 undef = .pointer (some ⟨w.heap.size, 0, none⟩) := hi 3 (by kernel_rfl)
            have u3 := t3
            rw [Array.getD_eq_getD_getElem?] at u3
            simp [Oper.wp, Oper.upon, execOp, Act.eval, go_sem, t3, u3]
            exact hK _ _ (Ext.rf _) (fun d' h => by cases h; exact rfl)
          · intro gO a W hx hs0 hgb hdf hsz hg hi K hK
            refine step_free rfl ?_
            have t51 : a.tmps.getD 51 undef = .pointer (some ⟨w.heap.size, 12, none⟩) := hg 51 (by kernel_rfl) (by decide)
            have u51 := t51
            rw [Array.getD_eq_getD_getElem?] at u51
            have q := hx.cell (Hxr.out.cell Q12.out)
            simp [Oper.wp, Oper.upon, execOp, Act.eval, go_sem, t51, u51, q]
            exact hK _ _ (Ext.rf _) (fun d' h => by cases h; exact rfl)
          · intro gO a W hx hs0 hgb hdf hsz hg hi K hK
            refine step_free rfl ?_
            have t3 : a.tmps.getD 3 undef = .pointer (some ⟨w.heap.size, 0, none⟩) := hi 3 (by kernel_rfl)
            have u3 := t3
            rw [Array.getD_eq_getD_getElem?] at u3
            simp [Oper.wp, Oper.upon, execOp, Act.eval, go_sem, t3, u3]
            exact hK _ _ (Ext.rf _) (fun d' h => by cases h; exact rfl)
          · intro gO a W hx hs0 hgb hdf hsz hg hi K hK
            refine step_free rfl ?_
            have t53 : a.tmps.getD 53 undef = .pointer (some ⟨w.heap.size, 14, none⟩) := hg 53 (by kernel_rfl) (by decide)
            have u53 := t53
            rw [Array.getD_eq_getD_getElem?] at u53
            have q := hx.cell q14
            simp [Oper.wp, Oper.upon, execOp, Act.eval, go_sem, t53, u53, q]
            exact hK _ _ (Ext.rf _) (fun d' h => by cases h; exact rfl)
          · intro gO a W hx hs0 hgb hdf hsz hg hi K hK
            refine step_free rfl ?_
            have t6 : a.tmps.getD 6 undef = .int .i64 j := hi 6 (by kernel_rfl)
            have u6 := t6
            rw [Array.getD_eq_getD_getElem?] at u6
            simp [Oper.wp, Oper.upon, execOp, Act.eval, go_sem, t6, u6]
            exact hK _ _ (Ext.rf _) (fun d' h => by cases h; exact rfl)
          · intro gO a W hx hs0 hgb hdf hsz hg hi K hK
            refine step_free rfl ?_
            have t54 : a.tmps.getD 54 undef = .slice (some ⟨bm, om, none⟩) d.members.length cm := hg 54 (by kernel_rfl) (by decide)
            have u54 := t54
            rw [Array.getD_eq_getD_getElem?] at u54
            have t55 : a.tmps.getD 55 undef = .int .i64 j := hg 55 (by kernel_rfl) (by decide)
            have u55 := t55
            rw [Array.getD_eq_getD_getElem?] at u55
            simp [Oper.wp, Oper.upon, execOp, Act.eval, go_sem, t54, u54, t55, u55, hjI]
            exact hK _ _ (Ext.rf _) (fun d' h => by cases h; exact rfl)
          · intro gO a W hx hs0 hgb hdf hsz hg hi K hK
            refine step_free rfl ?_
            have t56 : a.tmps.getD 56 undef = .pointer (some ⟨bm, om + j, none⟩) := hg 56 (by kernel_rfl) (by decide)
            have u56 := t56
            rw [Array.getD_eq_getD_getElem?] at u56
            simp [Oper.wp, Oper.upon, execOp, Act.eval, go_sem, t56, u56]
            exact hK _ _ (Ext.rf _) (fun d' h => by cases h; exact rfl)
          · intro gO a W hx hs0 hgb hdf hsz hg hi K hK
            refine step_free rfl ?_
            have t57 : a.tmps.getD 57 undef = .pointer (some ⟨bm, om + j, none⟩) := hg 57 (by kernel_rfl) (by decide)
            have u57 := t57
            rw [Array.getD_eq_getD_getElem?] at u57
            have q := hx.cell Hqm.out
            simp [Oper.wp, Oper.upon, execOp, Act.eval, go_sem, t57, u57, q]
            exact hK _ _ (Ext.rf _) (fun d' h => by cases h; exact rfl)
          · intro gO a W hx hs0 hgb hdf hsz hg hi K hK
            refine step_free rfl ?_
            have t3 : a.tmps.getD 3 undef = .pointer (some ⟨w.heap.size, 0, none⟩) := hi 3 (by kernel_rfl)
            have u3 := t3
            rw [Array.getD_eq_getD_getElem?] at u3
            simp [Oper.wp, Oper.upon, execOp, Act.eval, go_sem, t3, u3]
            exact hK _ _ (Ext.rf _) (fun d' h => by cases h; exact rfl)
          · intro gO a W hx hs0 hgb hdf hsz hg hi K hK
            refine step_free rfl ?_
            have t59 : a.tmps.getD 59 undef = .pointer (some ⟨w.heap.size, 13, none⟩) := hg 59 (by kernel_rfl) (by decide)
            have u59 := t59
            rw [Array.getD_eq_getD_getElem?] at u59
            have q := hx.cell (Hxr.out.cell Q13.out)
            simp [Oper.wp, Oper.upon, execOp, Act.eval, go_sem, t59, u59, q]
            exact hK _ _ (Ext.rf _) (fun d' h => by cases h; exact rfl)
          · intro gO a W hx hs0 hgb hdf hsz hg hi K hK
            refine step_free rfl ?_
            have t60 : a.tmps.getD 60 undef = .agg #[.slice vS d.sort.parts.length cS] := hg 60 (by kernel_rfl) (by decide)
            have u60 := t60
            rw [Array.getD_eq_getD_getElem?] at u60
            simp [Oper.wp, Oper.upon, execOp, Act.eval, go_sem, t60, u60]
            refine (sort_any d.sort [.slice vS d.sort.parts.length cS] _ ⟨_, rfl, HSO.out.ext mono_part (HX4.out.tr (Hxr.out.tr hx))⟩).mono ?_
            rintro e w' ⟨hb, cs', rfl, hR⟩
            exact hK _ _ hb (fun d' h => by cases h; exact ⟨cs', rfl, monoC_term _ _ _ _ (but_frm (fun g hg => (hgb g hg).2)) hR⟩)
          · intro gO a W hx hs0 hgb hdf hsz hg hi K hK
            refine step_free rfl ?_
            have t58 : a.tmps.getD 58 undef = .slice vi d.members[j].index.length ci := hg 58 (by kernel_rfl) (by decide)
            have u58 := t58
            rw [Array.getD_eq_getD_getElem?] at u58
            obtain ⟨cs61, t61, h61⟩ := (show ∃ cs : List Value, a.tmps.getD 61 undef = .agg cs.toArray ∧ RTerm (but gO W) (.mk 2 0 0 [d.sort] []) cs from hg 61 (by kernel_rfl) (by decide))
            have u61 := t61
            rw [Array.getD_eq_getD_getElem?] at u61
            simp [Oper.wp, Oper.upon, execOp, Act.eval, go_sem, t58, u58, t61, u61]
            refine (pis_any d.members[j].index _ (.mk 2 0 0 [d.sort] []) cs61 _ (HKd.out.ext (HX4.out.tr (Hxr.out.tr hx))) (fun t ht => Nat.le_trans (SZ.out.2.1 j hlt t ht) (by decide)) HY1.out (HSI.out.ext mono_term (HX4.out.tr (Hxr.out.tr hx))) (monoC_term _ _ _ _ (but_sub _ _) h61)).mono ?_
            rintro e w' ⟨hb, cs', rfl, hR⟩
            exact hK _ _ hb (fun d' h => by cases h; exact ⟨cs', rfl, monoC_term _ _ _ _ (but_frm (fun g hg => (hgb g hg).2)) hR⟩)
          · intro gO a W hx hs0 hgb hdf hsz hg hi K hK
            refine step_free rfl ?_
            have t52 : a.tmps.getD 52 undef = .slice vp d.params.length cp := hg 52 (by kernel_rfl) (by decide)
            have u52 := t52
            rw [Array.getD_eq_getD_getElem?] at u52
            obtain ⟨cs62, t62, h62⟩ := (show ∃ cs : List Value, a.tmps.getD 62 undef = .agg cs.toArray ∧ RTerm (but gO W) (pisT d.members[j].index (.mk 2 0 0 [d.sort] [])) cs from hg 62 (by kernel_rfl) (by decide))
            have u62 := t62
            rw [Array.getD_eq_getD_getElem?] at u62
            simp [Oper.wp, Oper.upon, execOp, Act.eval, go_sem, t52, u52, t62, u62]
            refine (pis_any d.params _ (pisT d.members[j].index (.mk 2 0 0 [d.sort] [])) cs62 _ (HKd.out.ext (HX4.out.tr (Hxr.out.tr hx))) (fun t ht => Nat.le_trans (SZ.out.1 t ht) (by decide)) HY2.out (HPA.out.ext mono_term (HX4.out.tr (Hxr.out.tr hx))) (monoC_term _ _ _ _ (but_sub _ _) h62)).mono ?_
            rintro e w' ⟨hb, cs', rfl, hR⟩
            rw [HYe.out] at hR
            exact hK _ _ hb (fun d' h => by cases h; exact ⟨cs', rfl, monoC_term _ _ _ _ (but_frm (fun g hg => (hgb g hg).2)) hR⟩)
        · intro a W K hK
          simp [Oper.wp, Oper.upon, execOp, Act.eval, go_sem]
          exact hK _ ((Ext.rf _).al _) (by simp) (there_fresh W 27 #[.int .i64 0, .int .i64 0, .int .i64 0, .slice none 0 0, .slice none 0 0] 5 (by decide))
        · rintro ⟨T3, D3⟩ W g hx hs0 hg0 hg1 hth t7 hdf hsz0 hg hi
          obtain ⟨cs1, t63, hR1⟩ := (show ∃ cs : List Value, T3.getD 63 undef = .agg cs.toArray ∧ RTerm (but (some g) W) Y cs from hg 63 (by kernel_rfl) (by decide))
          obtain ⟨A5, c5, A6, c6, e5⟩ : ∃ A5 c5 A6 c6, cs1 = [.int .i64 Y.kind, .int .i64 Y.num, .int .i64 Y.at_, .slice A5 Y.levels.length c5, .slice A6 Y.kids.length c6] := by
            obtain ⟨_, _, rfl, -, ⟨A5, c5, rfl, -⟩, ⟨A6, c6, rfl, -⟩⟩ := rterm_open hR1
            exact ⟨A5, c5, A6, c6, rfl⟩
          subst e5
          have hon := hid (show ∀ v ∈ ([.int .i64 Y.kind, .int .i64 Y.num, .int .i64 Y.at_, .slice A5 Y.levels.length c5, .slice A6 Y.kids.length c6] : List Value), v.oneCell' = true from fun u hu => by
            simp only [List.mem_cons, List.not_mem_nil, or_false] at hu
            rcases hu with rfl | rfl | rfl | rfl | rfl <;> rfl)
          refine wp_store_mid 27 _ _ rfl g 0 #[.int .i64 Y.kind, .int .i64 Y.num, .int .i64 Y.at_, .slice A5 Y.levels.length c5, .slice A6 Y.kids.length c6] t7 t63 (by exact hth) hi5 (all_oneCell_toArray hon.out) ?_
          have hx9 : Ext w4 (W.setCells g 0 [.int .i64 Y.kind, .int .i64 Y.num, .int .i64 Y.at_, .slice A5 Y.levels.length c5, .slice A6 Y.kids.length c6]) := (Hxr.out.tr hx).sets (by have := Hxr.out.size; omega) _ _
          have hc9 : cellsAt (W.setCells g 0 [.int .i64 Y.kind, .int .i64 Y.num, .int .i64 Y.at_, .slice A5 Y.levels.length c5, .slice A6 Y.kids.length c6]) g 0 [.int .i64 Y.kind, .int .i64 Y.num, .int .i64 Y.at_, .slice A5 Y.levels.length c5, .slice A6 Y.kids.length c6] := World.rangeAt_setCells_same _ _ _ _ hth
          have hR9 : RTerm (W.setCells g 0 [.int .i64 Y.kind, .int .i64 Y.num, .int .i64 Y.at_, .slice A5 Y.levels.length c5, .slice A6 Y.kids.length c6]) Y [.int .i64 Y.kind, .int .i64 Y.num, .int .i64 Y.at_, .slice A5 Y.levels.length c5, .slice A6 Y.kids.length c6] := monoC_term _ _ _ _ ((but_sets _ _ _).tr (but_sub _ _)) hR1
          clear hs0 hg0 hg1 hth hR1
          obtain ⟨f', hf', hT⟩ := frame_mix [false, false, false, false, false, false, false, true, false, false, false, false, false, false, false, false, false, false, false, false, false, false, false, false, false, false, false, false, false, false, false, false, false, false, false, false, false, false, false, false, false, false, false, false, false, false, false, false, false, false, false, true, true, true, true, true, true, true, true, true, true, true, true, true, false, false, false, false, false, false, false, false, false, false, false, false, false, false, false, false, false, false, false, false, false, false, false, false, false, false, false, false, false, false, false, false, false, false, false, false, false, false, false, false, false, false, false, false, false, false, false, false, false, false, false] (dstsOfOps _) T3 _ 115 (by rfl) hsz0 (by kernel_rfl) hi
          have g7 := (hf' 7).symm.trans t7
          have hD : D3 = [] := hdf
          clear hf' hi hg hsz0 hdf
          subst hT hD
          simp only [List.toList_toArray, mix, Nat.reduceAdd, g7]
          simp only [List.getElem_toArray, List.getElem_cons_succ, List.getElem_cons_zero, Act.put]
          generalize W.setCells g 0 [.int .i64 Y.kind, .int .i64 Y.num, .int .i64 Y.at_, .slice A5 Y.levels.length c5, .slice A6 Y.kids.length c6] = W9 at hx9 hc9 hR9 ⊢
          have HC9 := hid hc9
          have HR9 := hid hR9
          have Hx9 := hid hx9
          clear hc9 hR9 hx9 q14 Hxr hx Hqm
          have q1 := Hx9.out.cell Q1.out
          go_wp2_with ((with_reducible show wpList _ _ _ (⟨_, Op.load 27 _, _, _, _, _⟩ :: _) _ _); refine wpList_load_mid (by rfl) 27 _ (by rfl) g 0 (by rfl) [.int .i64 Y.kind, .int .i64 Y.num, .int .i64 Y.at_, .slice A5 Y.levels.length c5, .slice A6 Y.kids.length c6] _ (by exact HC9.out) hu5 (by rfl) hi5 ?_)
          refine (srcRight_any ds d.levels 0 0 _ Y _ _ (HKd.out.ext (HX4.out.tr Hx9.out)) (Hd.out.ext mono_decl (HX4.out.tr Hx9.out)) HR9.out).mono ?_
          rintro e w5 ⟨hx5, ⟨hP5, rfl⟩ | ⟨hP5, rfl⟩⟩
          · go_wp2_with fail
            exact ⟨⟨j + 1, by omega, by go_num, Hx9.out.tr hx5⟩, by simp only [intOf]; omega⟩
          · have hno : termRight Y = false := by
              cases h : termRight Y with
              | false => rfl
              | true => exact absurd (HYr.out h) hP5
            have c0 := hx5.cell (HC9.out.pick 0 rfl)
            have c1' := hx5.cell (HC9.out.pick 1 rfl)
            have c2' := hx5.cell (HC9.out.pick 2 rfl)
            have c3' := hx5.cell (HC9.out.pick 3 rfl)
            have c4' := hx5.cell (HC9.out.pick 4 rfl)
            rw [Nat.zero_add] at c0 c1' c2' c3' c4'
            go_wp2_with fail
            refine (right_any Y _ _ (HKd.out.ext (HX4.out.tr (Hx9.out.tr hx5))) (mono_term _ _ _ _ hx5 HR9.out)).mono ?_
            rintro e w6 ⟨rfl, hx6⟩
            rw [hno]
            go_wp2_with fail
            exact ⟨⟨j + 1, by omega, by go_num, Hx9.out.tr (hx5.tr hx6)⟩, by simp only [intOf]; omega⟩
      · obtain rfl : j = d.members.length := by omega
        go_wp2_with fail
        clear q14
        go_loopw [8] (fun i wz => ∃ j : Nat, j ≤ d.ctors.length ∧ i = .int .i64 j ∧ Ext w4 wz) (fun i _ => d.ctors.length - (intOf i).toNat)
        case atStart => exact ⟨0, by omega, rfl, Hxr.out⟩
        case round =>
          clear Hxr
          obtain ⟨j, hj, rfl, hxr⟩ := hrel
          obtain ⟨wz, rfl⟩ := ext_name2 hxr
          have q15 := hxr.cell Q15.out
          have Hxr := hid hxr
          clear hxr
          by_cases hlt : j < d.ctors.length
          · obtain ⟨vc0, cc0, evc, -, hrc⟩ := id HCT.out
            obtain ⟨rfl, rfl⟩ : vc = vc0 ∧ cc = cc0 := by cases evc; exact ⟨rfl, rfl⟩
            obtain ⟨bc, oc, cct, rfl, ⟨ct, rfl, hmi, hRt⟩, hcc⟩ := hrc.at_ hlt
            obtain ⟨_, _, rfl, -, ⟨A5, c5, rfl, -⟩, ⟨A6, c6, rfl, -⟩⟩ := rterm_open hRt
            have hjI : (j : Int) < d.ctors.length := by omega
            have hcw := hcc.ext (HX4.out.tr Hxr.out)
            have Hqc := hid hcw.at0
            have HCT5 := hid (show cellsAt wz bc (oc + j * 6 + 1) [.int .i64 d.ctors[j].type.kind, .int .i64 d.ctors[j].type.num, .int .i64 d.ctors[j].type.at_, .slice A5 d.ctors[j].type.levels.length c5, .slice A6 d.ctors[j].type.kids.length c6] from cells5o (hcw 1 _ rfl) (by simpa only [Nat.add_assoc] using hcw 2 _ rfl) (by simpa only [Nat.add_assoc] using hcw 3 _ rfl) (by simpa only [Nat.add_assoc] using hcw 4 _ rfl) (by simpa only [Nat.add_assoc] using hcw 5 _ rfl))
            have HRT := hid (mono_term _ _ _ _ (HX4.out.tr Hxr.out) hRt)
            clear hcc hcw hrc evc hRt
            have HY2 := hid (show tsize d.ctors[j].type ≤ BIG from Nat.le_trans (SZ.out.2.2.1 j hlt) (by decide))
            obtain ⟨hcr, hcm⟩ := ctor_right HP.out hk3''.out j hlt
            obtain ⟨Y, hY⟩ : ∃ Y, Y = ctorT d d.ctors[j] := ⟨_, rfl⟩
            rw [← hY] at hcr
            have HYe := hid (show pisT d.params d.ctors[j].type = Y from hY.symm)
            have HYr := hid hcr
            have hcm' : decide ((d.members.length : Int) ≤ d.ctors[j].member) = false := by simpa using hcm
            clear hY hcr hcm
            go_upto_region 17 with fail
            refine wp_region_var (fun s W v => match s with | 81 => v = .pointer (some ⟨w.heap.size, 12, none⟩) | 82 => v = .slice vp d.params.length cp | 83 => v = .pointer (some ⟨w.heap.size, 15, none⟩) | 84 => v = .slice (some ⟨bc, oc, none⟩) d.ctors.length cc | 85 => v = .int .i64 j | 86 => v = .pointer (some ⟨bc, oc + j * 6, none⟩) | 87 => v = .pointer (some ⟨bc, oc + j * 6 + 1, none⟩) | 88 => v = .agg #[.int .i64 d.ctors[j].type.kind, .int .i64 d.ctors[j].type.num, .int .i64 d.ctors[j].type.at_, .slice A5 d.ctors[j].type.levels.length c5, .slice A6 d.ctors[j].type.kids.length c6] | 89 => ∃ cs : List Value, v = .agg cs.toArray ∧ RTerm W Y cs | _ => True) 10 9 9 5 [true, true, true, true, true, true, true, true, true, false, false] _ _ (by kernel_rfl) (by kernel_rfl) (by kernel_rfl) (by rfl) rfl rfl (by rfl) rfl rfl (by decide) (by kernel_rfl) (by kernel_rfl) (of_decide_eq_true (by kernel_rfl)) (by kernel_rfl) (by intro s W W' v hx h; revert h; split <;> first | exact id | exact fun ⟨cs, e, hr⟩ => ⟨cs, e, monoC_term _ _ _ _ hx hr⟩) ?_ ?_ ?_
            · refine ⟨?_, ?_, ?_, ?_, ?_, ?_, ?_, ?_, ?_, trivial⟩
              · intro gO a W hx hs0 hgb hdf hsz hg hi K hK
                refine step_free rfl ?_
                have t3 : a.tmps.getD 3 undef = .pointer (some ⟨w.heap.size, 0, none⟩) := hi 3 (by kernel_rfl)
                have u3 := t3
                rw [Array.getD_eq_getD_getElem?] at u3
                simp [Oper.wp, Oper.upon, execOp, Act.eval, go_sem, t3, u3]
                exact hK _ _ (Ext.rf _) (fun d' h => by cases h; exact rfl)
              · intro gO a W hx hs0 hgb hdf hsz hg hi K hK
                refine step_free rfl ?_
                have t81 : a.tmps.getD 81 undef = .pointer (some ⟨w.heap.size, 12, none⟩) := hg 81 (by kernel_rfl) (by decide)
                have u81 := t81
                rw [Array.getD_eq_getD_getElem?] at u81
                have q := hx.cell (Hxr.out.cell Q12.out)
                simp [Oper.wp, Oper.upon, execOp, Act.eval, go_sem, t81, u81, q]
                exact hK _ _ (Ext.rf _) (fun d' h => by cases h; exact rfl)
              · intro gO a W hx hs0 hgb hdf hsz hg hi K hK
                refine step_free rfl ?_
                have t3 : a.tmps.getD 3 undef = .pointer (some ⟨w.heap.size, 0, none⟩) := hi 3 (by kernel_rfl)
                have u3 := t3
                rw [Array.getD_eq_getD_getElem?] at u3
                simp [Oper.wp, Oper.upon, execOp, Act.eval, go_sem, t3, u3]
                exact hK _ _ (Ext.rf _) (fun d' h => by cases h; exact rfl)
              · intro gO a W hx hs0 hgb hdf hsz hg hi K hK
                refine step_free rfl ?_
                have t83 : a.tmps.getD 83 undef = .pointer (some ⟨w.heap.size, 15, none⟩) := hg 83 (by kernel_rfl) (by decide)
                have u83 := t83
                rw [Array.getD_eq_getD_getElem?] at u83
                have q := hx.cell q15
                simp [Oper.wp, Oper.upon, execOp, Act.eval, go_sem, t83, u83, q]
                exact hK _ _ (Ext.rf _) (fun d' h => by cases h; exact rfl)
              · intro gO a W hx hs0 hgb hdf hsz hg hi K hK
                refine step_free rfl ?_
                have t8 : a.tmps.getD 8 undef = .int .i64 j := hi 8 (by kernel_rfl)
                have u8 := t8
                rw [Array.getD_eq_getD_getElem?] at u8
                simp [Oper.wp, Oper.upon, execOp, Act.eval, go_sem, t8, u8]
                exact hK _ _ (Ext.rf _) (fun d' h => by cases h; exact rfl)
              · intro gO a W hx hs0 hgb hdf hsz hg hi K hK
                refine step_free rfl ?_
                have t84 : a.tmps.getD 84 undef = .slice (some ⟨bc, oc, none⟩) d.ctors.length cc := hg 84 (by kernel_rfl) (by decide)
                have u84 := t84
                rw [Array.getD_eq_getD_getElem?] at u84
                have t85 : a.tmps.getD 85 undef = .int .i64 j := hg 85 (by kernel_rfl) (by decide)
                have u85 := t85
                rw [Array.getD_eq_getD_getElem?] at u85
                simp [Oper.wp, Oper.upon, execOp, Act.eval, go_sem, t84, u84, t85, u85, hjI]
                exact hK _ _ (Ext.rf _) (fun d' h => by cases h; exact rfl)
              · intro gO a W hx hs0 hgb hdf hsz hg hi K hK
                refine step_free rfl ?_
                have t86 : a.tmps.getD 86 undef = .pointer (some ⟨bc, oc + j * 6, none⟩) := hg 86 (by kernel_rfl) (by decide)
                have u86 := t86
                rw [Array.getD_eq_getD_getElem?] at u86
                simp [Oper.wp, Oper.upon, execOp, Act.eval, go_sem, t86, u86]
                exact hK _ _ (Ext.rf _) (fun d' h => by cases h; exact rfl)
              · intro gO a W hx hs0 hgb hdf hsz hg hi K hK
                refine step_free rfl ?_
                have t87 : a.tmps.getD 87 undef = .pointer (some ⟨bc, oc + j * 6 + 1, none⟩) := hg 87 (by kernel_rfl) (by decide)
                have u87 := t87
                rw [Array.getD_eq_getD_getElem?] at u87
                refine wp_load_mid 27 (.tmp 87) rfl bc (oc + j * 6 + 1) t87 [.int .i64 d.ctors[j].type.kind, .int .i64 d.ctors[j].type.num, .int .i64 d.ctors[j].type.at_, .slice A5 d.ctors[j].type.levels.length c5, .slice A6 d.ctors[j].type.kids.length c6] _ (HCT5.out.ext hx) hu5 rfl hi5 ?_
                exact hK _ _ (Ext.rf _) (fun d' h => by cases h; exact rfl)
              · intro gO a W hx hs0 hgb hdf hsz hg hi K hK
                refine step_free rfl ?_
                have t82 : a.tmps.getD 82 undef = .slice vp d.params.length cp := hg 82 (by kernel_rfl) (by decide)
                have u82 := t82
                rw [Array.getD_eq_getD_getElem?] at u82
                have t88 : a.tmps.getD 88 undef = .agg #[.int .i64 d.ctors[j].type.kind, .int .i64 d.ctors[j].type.num, .int .i64 d.ctors[j].type.at_, .slice A5 d.ctors[j].type.levels.length c5, .slice A6 d.ctors[j].type.kids.length c6] := hg 88 (by kernel_rfl) (by decide)
                have u88 := t88
                rw [Array.getD_eq_getD_getElem?] at u88
                simp [Oper.wp, Oper.upon, execOp, Act.eval, go_sem, t82, u82, t88, u88]
                refine (pis_any d.params _ d.ctors[j].type [.int .i64 d.ctors[j].type.kind, .int .i64 d.ctors[j].type.num, .int .i64 d.ctors[j].type.at_, .slice A5 d.ctors[j].type.levels.length c5, .slice A6 d.ctors[j].type.kids.length c6] _ (HKd.out.ext (HX4.out.tr (Hxr.out.tr hx))) (fun t ht => Nat.le_trans (SZ.out.1 t ht) (by decide)) HY2.out (HPA.out.ext mono_term (HX4.out.tr (Hxr.out.tr hx))) (mono_term _ _ _ _ hx HRT.out)).mono ?_
                rintro e w' ⟨hb, cs', rfl, hR⟩
                rw [HYe.out] at hR
                exact hK _ _ hb (fun d' h => by cases h; exact ⟨cs', rfl, monoC_term _ _ _ _ (but_frm (fun g hg => (hgb g hg).2)) hR⟩)
            · intro a W K hK
              simp [Oper.wp, Oper.upon, execOp, Act.eval, go_sem]
              exact hK _ ((Ext.rf _).al _) (by simp) (there_fresh W 27 #[.int .i64 0, .int .i64 0, .int .i64 0, .slice none 0 0, .slice none 0 0] 5 (by decide))
            · rintro ⟨T3, D3⟩ W g hx hs0 hg0 hg1 hth t9 hdf hsz0 hg hi
              obtain ⟨cs1, t89, hR1⟩ := (show ∃ cs : List Value, T3.getD 89 undef = .agg cs.toArray ∧ RTerm (but (some g) W) Y cs from hg 89 (by kernel_rfl) (by decide))
              obtain ⟨A7, c7, A8, c8, e5⟩ : ∃ A7 c7 A8 c8, cs1 = [.int .i64 Y.kind, .int .i64 Y.num, .int .i64 Y.at_, .slice A7 Y.levels.length c7, .slice A8 Y.kids.length c8] := by
                obtain ⟨_, _, rfl, -, ⟨A7, c7, rfl, -⟩, ⟨A8, c8, rfl, -⟩⟩ := rterm_open hR1
                exact ⟨A7, c7, A8, c8, rfl⟩
              subst e5
              have hon := hid (show ∀ v ∈ ([.int .i64 Y.kind, .int .i64 Y.num, .int .i64 Y.at_, .slice A7 Y.levels.length c7, .slice A8 Y.kids.length c8] : List Value), v.oneCell' = true from fun u hu => by
                simp only [List.mem_cons, List.not_mem_nil, or_false] at hu
                rcases hu with rfl | rfl | rfl | rfl | rfl <;> rfl)
              refine wp_store_mid 27 _ _ rfl g 0 #[.int .i64 Y.kind, .int .i64 Y.num, .int .i64 Y.at_, .slice A7 Y.levels.length c7, .slice A8 Y.kids.length c8] t9 t89 (by exact hth) hi5 (all_oneCell_toArray hon.out) ?_
              have hx9w : Ext wz (W.setCells g 0 [.int .i64 Y.kind, .int .i64 Y.num, .int .i64 Y.at_, .slice A7 Y.levels.length c7, .slice A8 Y.kids.length c8]) := hx.sets hg0 _ _
              have hx9 : Ext w4 (W.setCells g 0 [.int .i64 Y.kind, .int .i64 Y.num, .int .i64 Y.at_, .slice A7 Y.levels.length c7, .slice A8 Y.kids.length c8]) := (Hxr.out.tr hx).sets (by have := Hxr.out.size; omega) _ _
              have hc9 : cellsAt (W.setCells g 0 [.int .i64 Y.kind, .int .i64 Y.num, .int .i64 Y.at_, .slice A7 Y.levels.length c7, .slice A8 Y.kids.length c8]) g 0 [.int .i64 Y.kind, .int .i64 Y.num, .int .i64 Y.at_, .slice A7 Y.levels.length c7, .slice A8 Y.kids.length c8] := World.rangeAt_setCells_same _ _ _ _ hth
              have hR9 : RTerm (W.setCells g 0 [.int .i64 Y.kind, .int .i64 Y.num, .int .i64 Y.at_, .slice A7 Y.levels.length c7, .slice A8 Y.kids.length c8]) Y [.int .i64 Y.kind, .int .i64 Y.num, .int .i64 Y.at_, .slice A7 Y.levels.length c7, .slice A8 Y.kids.length c8] := monoC_term _ _ _ _ ((but_sets _ _ _).tr (but_sub _ _)) hR1
              clear hs0 hg0 hg1 hth hR1
              obtain ⟨f', hf', hT⟩ := frame_mix [false, false, false, false, false, false, false, false, false, true, false, false, false, false, false, false, false, false, false, false, false, false, false, false, false, false, false, false, false, false, false, false, false, false, false, false, false, false, false, false, false, false, false, false, false, false, false, false, false, false, false, false, false, false, false, false, false, false, false, false, false, false, false, false, false, false, false, false, false, false, false, false, false, false, false, false, false, false, false, false, false, true, true, true, true, true, true, true, true, true, false, false, false, false, false, false, false, false, false, false, false, false, false, false, false, false, false, false, false, false, false, false, false, false, false] (dstsOfOps _) T3 _ 115 (by rfl) hsz0 (by kernel_rfl) hi
              have g9 := (hf' 9).symm.trans t9
              have hD : D3 = [] := hdf
              clear hf' hi hg hsz0 hdf
              subst hT hD
              simp only [List.toList_toArray, mix, Nat.reduceAdd, g9]
              simp only [List.getElem_toArray, List.getElem_cons_succ, List.getElem_cons_zero, Act.put]
              generalize W.setCells g 0 [.int .i64 Y.kind, .int .i64 Y.num, .int .i64 Y.at_, .slice A7 Y.levels.length c7, .slice A8 Y.kids.length c8] = W9 at hx9 hx9w hc9 hR9 ⊢
              have HC9 := hid hc9
              have HR9 := hid hR9
              have Hx9 := hid hx9
              clear hc9 hR9 hx9 q15 Hxr hx
              have Hx9w := hid (show Ext wz W9 from hx9w)
              clear hx9w
              have q1 := Hx9.out.cell Q1.out
              have q14 := Hx9.out.cell Q14.out
              have q15 := Hx9.out.cell Q15.out
              have Hqc9 := hid (show W9.cell? ⟨bc, oc + j * 6, none⟩ = some (.int .i64 d.ctors[j].member) from Hx9w.out.cell Hqc.out)
              clear HYe
              by_cases hRP : RightP ds d.levels 0 d.members.length Y
              · have HRP := hid hRP
                clear hRP
                go_upto_region 18 with fail
                refine wp_region_steps (fun s W v => match s with | 90 => v = .slice A ds.length c | 91 => v = .pointer (some ⟨w.heap.size, 1, none⟩) | 92 => v = .int .i64 d.levels | 93 => v = .pointer (some ⟨w.heap.size, 14, none⟩) | 94 => v = .slice vm d.members.length cm | 95 => v = .int .i64 d.members.length | 96 => v = .agg #[.int .i64 Y.kind, .int .i64 Y.num, .int .i64 Y.at_, .slice A7 Y.levels.length c7, .slice A8 Y.kids.length c8] | 97 => v = .bool true | 98 => v = .bool false | 99 => v = .bool false | 100 => v = undef | 101 => v = undef | 102 => v = .bool false | 103 => v = .bool false | 104 => v = .pointer (some ⟨w.heap.size, 15, none⟩) | 105 => v = .slice (some ⟨bc, oc, none⟩) d.ctors.length cc | 106 => v = .int .i64 j | 107 => v = .pointer (some ⟨bc, oc + j * 6, none⟩) | 108 => v = .pointer (some ⟨bc, oc + j * 6, none⟩) | 109 => v = .int .i64 d.ctors[j].member | 110 => v = .pointer (some ⟨w.heap.size, 14, none⟩) | 111 => v = .slice vm d.members.length cm | 112 => v = .int .i64 d.members.length | 113 => v = .bool false | 114 => v = .bool false | _ => True) (by kernel_rfl) (by kernel_rfl) (of_decide_eq_true (by kernel_rfl)) (by kernel_rfl) (fun s W W' v _ h => h) ?_ ?_
                · refine ⟨?_, ?_, ?_, ?_, ?_, ?_, ?_, ?_, ?_, ?_, ?_, ?_, ?_, ?_, ?_, ?_, ?_, ?_, ?_, ?_, ?_, ?_, ?_, ?_, ?_, trivial⟩
                  · intro a W hx hdf hsz hg hi K hK
                    refine step_free rfl ?_
                    have t0 : a.tmps.getD 0 undef = .slice A ds.length c := hi 0 (by kernel_rfl)
                    have u0 := t0
                    rw [Array.getD_eq_getD_getElem?] at u0
                    simp [Oper.wp, Oper.upon, execOp, Act.eval, go_sem, t0, u0]
                    exact hK _ _ (Ext.rf _) (fun d' h => by cases h; exact rfl)
                  · intro a W hx hdf hsz hg hi K hK
                    refine step_free rfl ?_
                    have t3 : a.tmps.getD 3 undef = .pointer (some ⟨w.heap.size, 0, none⟩) := hi 3 (by kernel_rfl)
                    have u3 := t3
                    rw [Array.getD_eq_getD_getElem?] at u3
                    simp [Oper.wp, Oper.upon, execOp, Act.eval, go_sem, t3, u3]
                    exact hK _ _ (Ext.rf _) (fun d' h => by cases h; exact rfl)
                  · intro a W hx hdf hsz hg hi K hK
                    refine step_free rfl ?_
                    have t91 : a.tmps.getD 91 undef = .pointer (some ⟨w.heap.size, 1, none⟩) := hg 91 (by kernel_rfl)
                    have u91 := t91
                    rw [Array.getD_eq_getD_getElem?] at u91
                    have q := hx.cell q1
                    simp [Oper.wp, Oper.upon, execOp, Act.eval, go_sem, t91, u91, q]
                    exact hK _ _ (Ext.rf _) (fun d' h => by cases h; exact rfl)
                  · intro a W hx hdf hsz hg hi K hK
                    refine step_free rfl ?_
                    have t3 : a.tmps.getD 3 undef = .pointer (some ⟨w.heap.size, 0, none⟩) := hi 3 (by kernel_rfl)
                    have u3 := t3
                    rw [Array.getD_eq_getD_getElem?] at u3
                    simp [Oper.wp, Oper.upon, execOp, Act.eval, go_sem, t3, u3]
                    exact hK _ _ (Ext.rf _) (fun d' h => by cases h; exact rfl)
                  · intro a W hx hdf hsz hg hi K hK
                    refine step_free rfl ?_
                    have t93 : a.tmps.getD 93 undef = .pointer (some ⟨w.heap.size, 14, none⟩) := hg 93 (by kernel_rfl)
                    have u93 := t93
                    rw [Array.getD_eq_getD_getElem?] at u93
                    have q := hx.cell q14
                    simp [Oper.wp, Oper.upon, execOp, Act.eval, go_sem, t93, u93, q]
                    exact hK _ _ (Ext.rf _) (fun d' h => by cases h; exact rfl)
                  · intro a W hx hdf hsz hg hi K hK
                    refine step_free rfl ?_
                    have t94 : a.tmps.getD 94 undef = .slice vm d.members.length cm := hg 94 (by kernel_rfl)
                    have u94 := t94
                    rw [Array.getD_eq_getD_getElem?] at u94
                    simp [Oper.wp, Oper.upon, execOp, Act.eval, go_sem, t94, u94]
                    exact hK _ _ (Ext.rf _) (fun d' h => by cases h; exact rfl)
                  · intro a W hx hdf hsz hg hi K hK
                    refine step_free rfl ?_
                    have t9 : a.tmps.getD 9 undef = .pointer (some ⟨g, 0, none⟩) := hi 9 (by kernel_rfl)
                    have u9 := t9
                    rw [Array.getD_eq_getD_getElem?] at u9
                    refine wp_load_mid 27 (.tmp 9) rfl g 0 t9 [.int .i64 Y.kind, .int .i64 Y.num, .int .i64 Y.at_, .slice A7 Y.levels.length c7, .slice A8 Y.kids.length c8] _ (HC9.out.ext hx) hu5 rfl hi5 ?_
                    exact hK _ _ (Ext.rf _) (fun d' h => by cases h; exact rfl)
                  · intro a W hx hdf hsz hg hi K hK
                    refine step_free rfl ?_
                    have t90 : a.tmps.getD 90 undef = .slice A ds.length c := hg 90 (by kernel_rfl)
                    have t92 : a.tmps.getD 92 undef = .int .i64 d.levels := hg 92 (by kernel_rfl)
                    have t95 : a.tmps.getD 95 undef = .int .i64 d.members.length := hg 95 (by kernel_rfl)
                    have t96 : a.tmps.getD 96 undef = .agg #[.int .i64 Y.kind, .int .i64 Y.num, .int .i64 Y.at_, .slice A7 Y.levels.length c7, .slice A8 Y.kids.length c8] := hg 96 (by kernel_rfl)
                    have u90 := t90
                    rw [Array.getD_eq_getD_getElem?] at u90
                    have u92 := t92
                    rw [Array.getD_eq_getD_getElem?] at u92
                    have u95 := t95
                    rw [Array.getD_eq_getD_getElem?] at u95
                    have u96 := t96
                    rw [Array.getD_eq_getD_getElem?] at u96
                    simp [Oper.wp, Oper.upon, execOp, Act.eval, go_sem, t90, u90, t92, u92, t95, u95, t96, u96]
                    refine (srcRight_any ds d.levels 0 d.members.length _ Y _ _ (HKd.out.ext (HX4.out.tr (Hx9.out.tr hx))) (Hd.out.ext mono_decl (HX4.out.tr (Hx9.out.tr hx))) (mono_term _ _ _ _ hx HR9.out)).mono ?_
                    rintro e w' ⟨hb, ⟨h1, rfl⟩ | ⟨h1, rfl⟩⟩
                    · exact hK _ _ hb (fun d' h => by cases h; exact rfl)
                    · exact absurd HRP.out h1
                  · intro a W hx hdf hsz hg hi K hK
                    refine step_free rfl ?_
                    have t97 : a.tmps.getD 97 undef = .bool true := hg 97 (by kernel_rfl)
                    have u97 := t97
                    rw [Array.getD_eq_getD_getElem?] at u97
                    simp [Oper.wp, Oper.upon, execOp, Act.eval, go_sem, t97, u97]
                    exact hK _ _ (Ext.rf _) (fun d' h => by cases h; exact rfl)
                  · intro a W hx hdf hsz hg hi K hK
                    refine step_free rfl ?_
                    have t98 : a.tmps.getD 98 undef = .bool false := hg 98 (by kernel_rfl)
                    have u98 := t98
                    rw [Array.getD_eq_getD_getElem?] at u98
                    simp [Oper.wp, Oper.upon, execOp, Act.eval, go_sem, t98, u98]
                    exact hK _ _ (Ext.rf _) (fun d' h => by cases h; exact rfl)
                  · intro a W hx hdf hsz hg hi K hK
                    have G99 : a.tmps.getD 99 undef = .bool false := hg 99 (by kernel_rfl)
                    exact step_guard rfl rfl (by have hz : a.tmps.size = 115 := hsz; omega) G99 (fun h => by cases h) (fun _ => hK _ _ (Ext.rf _) (fun d' h => by cases h; exact rfl))
                  · intro a W hx hdf hsz hg hi K hK
                    have G99 : a.tmps.getD 99 undef = .bool false := hg 99 (by kernel_rfl)
                    exact step_guard rfl rfl (by have hz : a.tmps.size = 115 := hsz; omega) G99 (fun h => by cases h) (fun _ => hK _ _ (Ext.rf _) (fun d' h => by cases h; exact rfl))
                  · intro a W hx hdf hsz hg hi K hK
                    refine step_free rfl ?_
                    have t99 : a.tmps.getD 99 undef = .bool false := hg 99 (by kernel_rfl)
                    have t101 : a.tmps.getD 101 undef = undef := hg 101 (by kernel_rfl)
                    have u99 := t99
                    rw [Array.getD_eq_getD_getElem?] at u99
                    have u101 := t101
                    rw [Array.getD_eq_getD_getElem?] at u101
                    simp [Oper.wp, Oper.upon, execOp, Act.eval, go_sem, t99, u99, t101, u101]
                    exact hK _ _ (Ext.rf _) (fun d' h => by cases h; exact rfl)
                  · intro a W hx hdf hsz hg hi K hK
                    refine step_free rfl ?_
                    have t102 : a.tmps.getD 102 undef = .bool false := hg 102 (by kernel_rfl)
                    have u102 := t102
                    rw [Array.getD_eq_getD_getElem?] at u102
                    simp [Oper.wp, Oper.upon, execOp, Act.eval, go_sem, t102, u102]
                    exact hK _ _ (Ext.rf _) (fun d' h => by cases h; exact rfl)
                  · intro a W hx hdf hsz hg hi K hK
                    have G103 : a.tmps.getD 103 undef = .bool false := hg 103 (by kernel_rfl)
                    refine step_guard rfl rfl (by have hz : a.tmps.size = 115 := hsz; omega) G103 (fun _ => ?_) (fun h => absurd rfl h)
                    have t3 : a.tmps.getD 3 undef = .pointer (some ⟨w.heap.size, 0, none⟩) := hi 3 (by kernel_rfl)
                    have u3 := t3
                    rw [Array.getD_eq_getD_getElem?] at u3
                    simp [Oper.wp, Oper.upon, execOp, Act.eval, go_sem, t3, u3]
                    exact hK _ _ (Ext.rf _) (fun d' h => by cases h; exact rfl)
                  · intro a W hx hdf hsz hg hi K hK
                    have G103 : a.tmps.getD 103 undef = .bool false := hg 103 (by kernel_rfl)
                    refine step_guard rfl rfl (by have hz : a.tmps.size = 115 := hsz; omega) G103 (fun _ => ?_) (fun h => absurd rfl h)
                    have t104 : a.tmps.getD 104 undef = .pointer (some ⟨w.heap.size, 15, none⟩) := hg 104 (by kernel_rfl)
                    have u104 := t104
                    rw [Array.getD_eq_getD_getElem?] at u104
                    have q := hx.cell q15
                    simp [Oper.wp, Oper.upon, execOp, Act.eval, go_sem, t104, u104, q]
                    exact hK _ _ (Ext.rf _) (fun d' h => by cases h; exact rfl)
                  · intro a W hx hdf hsz hg hi K hK
                    have G103 : a.tmps.getD 103 undef = .bool false := hg 103 (by kernel_rfl)
                    refine step_guard rfl rfl (by have hz : a.tmps.size = 115 := hsz; omega) G103 (fun _ => ?_) (fun h => absurd rfl h)
                    have t8 : a.tmps.getD 8 undef = .int .i64 j := hi 8 (by kernel_rfl)
                    have u8 := t8
                    rw [Array.getD_eq_getD_getElem?] at u8
                    simp [Oper.wp, Oper.upon, execOp, Act.eval, go_sem, t8, u8]
                    exact hK _ _ (Ext.rf _) (fun d' h => by cases h; exact rfl)
                  · intro a W hx hdf hsz hg hi K hK
                    have G103 : a.tmps.getD 103 undef = .bool false := hg 103 (by kernel_rfl)
                    refine step_guard rfl rfl (by have hz : a.tmps.size = 115 := hsz; omega) G103 (fun _ => ?_) (fun h => absurd rfl h)
                    have t105 : a.tmps.getD 105 undef = .slice (some ⟨bc, oc, none⟩) d.ctors.length cc := hg 105 (by kernel_rfl)
                    have t106 : a.tmps.getD 106 undef = .int .i64 j := hg 106 (by kernel_rfl)
                    have u105 := t105
                    rw [Array.getD_eq_getD_getElem?] at u105
                    have u106 := t106
                    rw [Array.getD_eq_getD_getElem?] at u106
                    simp [Oper.wp, Oper.upon, execOp, Act.eval, go_sem, t105, u105, t106, u106, hjI]
                    exact hK _ _ (Ext.rf _) (fun d' h => by cases h; exact rfl)
                  · intro a W hx hdf hsz hg hi K hK
                    have G103 : a.tmps.getD 103 undef = .bool false := hg 103 (by kernel_rfl)
                    refine step_guard rfl rfl (by have hz : a.tmps.size = 115 := hsz; omega) G103 (fun _ => ?_) (fun h => absurd rfl h)
                    have t107 : a.tmps.getD 107 undef = .pointer (some ⟨bc, oc + j * 6, none⟩) := hg 107 (by kernel_rfl)
                    have u107 := t107
                    rw [Array.getD_eq_getD_getElem?] at u107
                    simp [Oper.wp, Oper.upon, execOp, Act.eval, go_sem, t107, u107]
                    exact hK _ _ (Ext.rf _) (fun d' h => by cases h; exact rfl)
                  · intro a W hx hdf hsz hg hi K hK
                    have G103 : a.tmps.getD 103 undef = .bool false := hg 103 (by kernel_rfl)
                    refine step_guard rfl rfl (by have hz : a.tmps.size = 115 := hsz; omega) G103 (fun _ => ?_) (fun h => absurd rfl h)
                    have t108 : a.tmps.getD 108 undef = .pointer (some ⟨bc, oc + j * 6, none⟩) := hg 108 (by kernel_rfl)
                    have u108 := t108
                    rw [Array.getD_eq_getD_getElem?] at u108
                    have q := hx.cell Hqc9.out
                    simp [Oper.wp, Oper.upon, execOp, Act.eval, go_sem, t108, u108, q]
                    exact hK _ _ (Ext.rf _) (fun d' h => by cases h; exact rfl)
                  · intro a W hx hdf hsz hg hi K hK
                    have G103 : a.tmps.getD 103 undef = .bool false := hg 103 (by kernel_rfl)
                    refine step_guard rfl rfl (by have hz : a.tmps.size = 115 := hsz; omega) G103 (fun _ => ?_) (fun h => absurd rfl h)
                    have t3 : a.tmps.getD 3 undef = .pointer (some ⟨w.heap.size, 0, none⟩) := hi 3 (by kernel_rfl)
                    have u3 := t3
                    rw [Array.getD_eq_getD_getElem?] at u3
                    simp [Oper.wp, Oper.upon, execOp, Act.eval, go_sem, t3, u3]
                    exact hK _ _ (Ext.rf _) (fun d' h => by cases h; exact rfl)
                  · intro a W hx hdf hsz hg hi K hK
                    have G103 : a.tmps.getD 103 undef = .bool false := hg 103 (by kernel_rfl)
                    refine step_guard rfl rfl (by have hz : a.tmps.size = 115 := hsz; omega) G103 (fun _ => ?_) (fun h => absurd rfl h)
                    have t110 : a.tmps.getD 110 undef = .pointer (some ⟨w.heap.size, 14, none⟩) := hg 110 (by kernel_rfl)
                    have u110 := t110
                    rw [Array.getD_eq_getD_getElem?] at u110
                    have q := hx.cell q14
                    simp [Oper.wp, Oper.upon, execOp, Act.eval, go_sem, t110, u110, q]
                    exact hK _ _ (Ext.rf _) (fun d' h => by cases h; exact rfl)
                  · intro a W hx hdf hsz hg hi K hK
                    have G103 : a.tmps.getD 103 undef = .bool false := hg 103 (by kernel_rfl)
                    refine step_guard rfl rfl (by have hz : a.tmps.size = 115 := hsz; omega) G103 (fun _ => ?_) (fun h => absurd rfl h)
                    have t111 : a.tmps.getD 111 undef = .slice vm d.members.length cm := hg 111 (by kernel_rfl)
                    have u111 := t111
                    rw [Array.getD_eq_getD_getElem?] at u111
                    simp [Oper.wp, Oper.upon, execOp, Act.eval, go_sem, t111, u111]
                    exact hK _ _ (Ext.rf _) (fun d' h => by cases h; exact rfl)
                  · intro a W hx hdf hsz hg hi K hK
                    have G103 : a.tmps.getD 103 undef = .bool false := hg 103 (by kernel_rfl)
                    refine step_guard rfl rfl (by have hz : a.tmps.size = 115 := hsz; omega) G103 (fun _ => ?_) (fun h => absurd rfl h)
                    have t109 : a.tmps.getD 109 undef = .int .i64 d.ctors[j].member := hg 109 (by kernel_rfl)
                    have t112 : a.tmps.getD 112 undef = .int .i64 d.members.length := hg 112 (by kernel_rfl)
                    have u109 := t109
                    rw [Array.getD_eq_getD_getElem?] at u109
                    have u112 := t112
                    rw [Array.getD_eq_getD_getElem?] at u112
                    simp [Oper.wp, Oper.upon, execOp, Act.eval, go_sem, t109, u109, t112, u112, hcm']
                    exact hK _ _ (Ext.rf _) (fun d' h => by cases h; exact rfl)
                  · intro a W hx hdf hsz hg hi K hK
                    refine step_free rfl ?_
                    have t103 : a.tmps.getD 103 undef = .bool false := hg 103 (by kernel_rfl)
                    have t113 : a.tmps.getD 113 undef = .bool false := hg 113 (by kernel_rfl)
                    have u103 := t103
                    rw [Array.getD_eq_getD_getElem?] at u103
                    have u113 := t113
                    rw [Array.getD_eq_getD_getElem?] at u113
                    simp [Oper.wp, Oper.upon, execOp, Act.eval, go_sem, t103, u103, t113, u113]
                    exact hK _ _ (Ext.rf _) (fun d' h => by cases h; exact rfl)
                · rintro ⟨T4, D4⟩ W10 hx10 hdf hsz0 hg hi
                  have t114 : T4.getD 114 undef = .bool false := hg 114 (by kernel_rfl)
                  obtain ⟨f', hf', hT⟩ := frame_mix [false, false, false, false, false, false, false, false, false, false, false, false, false, false, false, false, false, false, false, false, false, false, false, false, false, false, false, false, false, false, false, false, false, false, false, false, false, false, false, false, false, false, false, false, false, false, false, false, false, false, false, false, false, false, false, false, false, false, false, false, false, false, false, false, false, false, false, false, false, false, false, false, false, false, false, false, false, false, false, false, false, false, false, false, false, false, false, false, false, false, true, true, true, true, true, true, true, true, true, true, true, true, true, true, true, true, true, true, true, true, true, true, true, true, true] (dstsOfOps _) T4 _ 115 (by rfl) hsz0 (by kernel_rfl) hi
                  have g114 := (hf' 114).symm.trans t114
                  have hD : D4 = [] := hdf
                  clear hf' hi hg hsz0 hdf
                  subst hT hD
                  simp only [List.toList_toArray, mix, Nat.reduceAdd, g114]
                  go_wp2_with fail
                  exact ⟨⟨j + 1, by omega, by go_num, Hx9.out.tr hx10⟩, by simp only [intOf]; omega⟩
              · have HNo := hid (show termRight Y = false by
                  cases h : termRight Y with
                  | false => rfl
                  | true => exact absurd (HYr.out h) hRP)
                have HRP := hid hRP
                clear hRP
                go_upto_region 18 with fail
                refine wp_region_steps (fun s W v => match s with | 90 => v = .slice A ds.length c | 91 => v = .pointer (some ⟨w.heap.size, 1, none⟩) | 92 => v = .int .i64 d.levels | 93 => v = .pointer (some ⟨w.heap.size, 14, none⟩) | 94 => v = .slice vm d.members.length cm | 95 => v = .int .i64 d.members.length | 96 => v = .agg #[.int .i64 Y.kind, .int .i64 Y.num, .int .i64 Y.at_, .slice A7 Y.levels.length c7, .slice A8 Y.kids.length c8] | 97 => v = .bool false | 98 => v = .bool true | 99 => v = .bool true | 100 => v = .agg #[.int .i64 Y.kind, .int .i64 Y.num, .int .i64 Y.at_, .slice A7 Y.levels.length c7, .slice A8 Y.kids.length c8] | 101 => v = .bool false | 102 => v = .bool false | 103 => v = .bool false | 104 => v = .pointer (some ⟨w.heap.size, 15, none⟩) | 105 => v = .slice (some ⟨bc, oc, none⟩) d.ctors.length cc | 106 => v = .int .i64 j | 107 => v = .pointer (some ⟨bc, oc + j * 6, none⟩) | 108 => v = .pointer (some ⟨bc, oc + j * 6, none⟩) | 109 => v = .int .i64 d.ctors[j].member | 110 => v = .pointer (some ⟨w.heap.size, 14, none⟩) | 111 => v = .slice vm d.members.length cm | 112 => v = .int .i64 d.members.length | 113 => v = .bool false | 114 => v = .bool false | _ => True) (by kernel_rfl) (by kernel_rfl) (of_decide_eq_true (by kernel_rfl)) (by kernel_rfl) (fun s W W' v _ h => h) ?_ ?_
                · refine ⟨?_, ?_, ?_, ?_, ?_, ?_, ?_, ?_, ?_, ?_, ?_, ?_, ?_, ?_, ?_, ?_, ?_, ?_, ?_, ?_, ?_, ?_, ?_, ?_, ?_, trivial⟩
                  · intro a W hx hdf hsz hg hi K hK
                    refine step_free rfl ?_
                    have t0 : a.tmps.getD 0 undef = .slice A ds.length c := hi 0 (by kernel_rfl)
                    have u0 := t0
                    rw [Array.getD_eq_getD_getElem?] at u0
                    simp [Oper.wp, Oper.upon, execOp, Act.eval, go_sem, t0, u0]
                    exact hK _ _ (Ext.rf _) (fun d' h => by cases h; exact rfl)
                  · intro a W hx hdf hsz hg hi K hK
                    refine step_free rfl ?_
                    have t3 : a.tmps.getD 3 undef = .pointer (some ⟨w.heap.size, 0, none⟩) := hi 3 (by kernel_rfl)
                    have u3 := t3
                    rw [Array.getD_eq_getD_getElem?] at u3
                    simp [Oper.wp, Oper.upon, execOp, Act.eval, go_sem, t3, u3]
                    exact hK _ _ (Ext.rf _) (fun d' h => by cases h; exact rfl)
                  · intro a W hx hdf hsz hg hi K hK
                    refine step_free rfl ?_
                    have t91 : a.tmps.getD 91 undef = .pointer (some ⟨w.heap.size, 1, none⟩) := hg 91 (by kernel_rfl)
                    have u91 := t91
                    rw [Array.getD_eq_getD_getElem?] at u91
                    have q := hx.cell q1
                    simp [Oper.wp, Oper.upon, execOp, Act.eval, go_sem, t91, u91, q]
                    exact hK _ _ (Ext.rf _) (fun d' h => by cases h; exact rfl)
                  · intro a W hx hdf hsz hg hi K hK
                    refine step_free rfl ?_
                    have t3 : a.tmps.getD 3 undef = .pointer (some ⟨w.heap.size, 0, none⟩) := hi 3 (by kernel_rfl)
                    have u3 := t3
                    rw [Array.getD_eq_getD_getElem?] at u3
                    simp [Oper.wp, Oper.upon, execOp, Act.eval, go_sem, t3, u3]
                    exact hK _ _ (Ext.rf _) (fun d' h => by cases h; exact rfl)
                  · intro a W hx hdf hsz hg hi K hK
                    refine step_free rfl ?_
                    have t93 : a.tmps.getD 93 undef = .pointer (some ⟨w.heap.size, 14, none⟩) := hg 93 (by kernel_rfl)
                    have u93 := t93
                    rw [Array.getD_eq_getD_getElem?] at u93
                    have q := hx.cell q14
                    simp [Oper.wp, Oper.upon, execOp, Act.eval, go_sem, t93, u93, q]
                    exact hK _ _ (Ext.rf _) (fun d' h => by cases h; exact rfl)
                  · intro a W hx hdf hsz hg hi K hK
                    refine step_free rfl ?_
                    have t94 : a.tmps.getD 94 undef = .slice vm d.members.length cm := hg 94 (by kernel_rfl)
                    have u94 := t94
                    rw [Array.getD_eq_getD_getElem?] at u94
                    simp [Oper.wp, Oper.upon, execOp, Act.eval, go_sem, t94, u94]
                    exact hK _ _ (Ext.rf _) (fun d' h => by cases h; exact rfl)
                  · intro a W hx hdf hsz hg hi K hK
                    refine step_free rfl ?_
                    have t9 : a.tmps.getD 9 undef = .pointer (some ⟨g, 0, none⟩) := hi 9 (by kernel_rfl)
                    have u9 := t9
                    rw [Array.getD_eq_getD_getElem?] at u9
                    refine wp_load_mid 27 (.tmp 9) rfl g 0 t9 [.int .i64 Y.kind, .int .i64 Y.num, .int .i64 Y.at_, .slice A7 Y.levels.length c7, .slice A8 Y.kids.length c8] _ (HC9.out.ext hx) hu5 rfl hi5 ?_
                    exact hK _ _ (Ext.rf _) (fun d' h => by cases h; exact rfl)
                  · intro a W hx hdf hsz hg hi K hK
                    refine step_free rfl ?_
                    have t90 : a.tmps.getD 90 undef = .slice A ds.length c := hg 90 (by kernel_rfl)
                    have t92 : a.tmps.getD 92 undef = .int .i64 d.levels := hg 92 (by kernel_rfl)
                    have t95 : a.tmps.getD 95 undef = .int .i64 d.members.length := hg 95 (by kernel_rfl)
                    have t96 : a.tmps.getD 96 undef = .agg #[.int .i64 Y.kind, .int .i64 Y.num, .int .i64 Y.at_, .slice A7 Y.levels.length c7, .slice A8 Y.kids.length c8] := hg 96 (by kernel_rfl)
                    have u90 := t90
                    rw [Array.getD_eq_getD_getElem?] at u90
                    have u92 := t92
                    rw [Array.getD_eq_getD_getElem?] at u92
                    have u95 := t95
                    rw [Array.getD_eq_getD_getElem?] at u95
                    have u96 := t96
                    rw [Array.getD_eq_getD_getElem?] at u96
                    simp [Oper.wp, Oper.upon, execOp, Act.eval, go_sem, t90, u90, t92, u92, t95, u95, t96, u96]
                    refine (srcRight_any ds d.levels 0 d.members.length _ Y _ _ (HKd.out.ext (HX4.out.tr (Hx9.out.tr hx))) (Hd.out.ext mono_decl (HX4.out.tr (Hx9.out.tr hx))) (mono_term _ _ _ _ hx HR9.out)).mono ?_
                    rintro e w' ⟨hb, ⟨h1, rfl⟩ | ⟨h1, rfl⟩⟩
                    · exact absurd h1 HRP.out
                    · exact hK _ _ hb (fun d' h => by cases h; exact rfl)
                  · intro a W hx hdf hsz hg hi K hK
                    refine step_free rfl ?_
                    have t97 : a.tmps.getD 97 undef = .bool false := hg 97 (by kernel_rfl)
                    have u97 := t97
                    rw [Array.getD_eq_getD_getElem?] at u97
                    simp [Oper.wp, Oper.upon, execOp, Act.eval, go_sem, t97, u97]
                    exact hK _ _ (Ext.rf _) (fun d' h => by cases h; exact rfl)
                  · intro a W hx hdf hsz hg hi K hK
                    refine step_free rfl ?_
                    have t98 : a.tmps.getD 98 undef = .bool true := hg 98 (by kernel_rfl)
                    have u98 := t98
                    rw [Array.getD_eq_getD_getElem?] at u98
                    simp [Oper.wp, Oper.upon, execOp, Act.eval, go_sem, t98, u98]
                    exact hK _ _ (Ext.rf _) (fun d' h => by cases h; exact rfl)
                  · intro a W hx hdf hsz hg hi K hK
                    have G99 : a.tmps.getD 99 undef = .bool true := hg 99 (by kernel_rfl)
                    refine step_guard rfl rfl (by have hz : a.tmps.size = 115 := hsz; omega) G99 (fun _ => ?_) (fun h => absurd rfl h)
                    have t9 : a.tmps.getD 9 undef = .pointer (some ⟨g, 0, none⟩) := hi 9 (by kernel_rfl)
                    have u9 := t9
                    rw [Array.getD_eq_getD_getElem?] at u9
                    refine wp_load_mid 27 (.tmp 9) rfl g 0 t9 [.int .i64 Y.kind, .int .i64 Y.num, .int .i64 Y.at_, .slice A7 Y.levels.length c7, .slice A8 Y.kids.length c8] _ (HC9.out.ext hx) hu5 rfl hi5 ?_
                    exact hK _ _ (Ext.rf _) (fun d' h => by cases h; exact rfl)
                  · intro a W hx hdf hsz hg hi K hK
                    have G99 : a.tmps.getD 99 undef = .bool true := hg 99 (by kernel_rfl)
                    refine step_guard rfl rfl (by have hz : a.tmps.size = 115 := hsz; omega) G99 (fun _ => ?_) (fun h => absurd rfl h)
                    have t100 : a.tmps.getD 100 undef = .agg #[.int .i64 Y.kind, .int .i64 Y.num, .int .i64 Y.at_, .slice A7 Y.levels.length c7, .slice A8 Y.kids.length c8] := hg 100 (by kernel_rfl)
                    have u100 := t100
                    rw [Array.getD_eq_getD_getElem?] at u100
                    simp [Oper.wp, Oper.upon, execOp, Act.eval, go_sem, t100, u100]
                    refine (right_any Y _ _ (HKd.out.ext (HX4.out.tr (Hx9.out.tr hx))) (mono_term _ _ _ _ hx HR9.out)).mono ?_
                    rintro e w' ⟨rfl, hb⟩
                    rw [HNo.out]
                    exact hK _ _ hb (fun d' h => by cases h; exact rfl)
                  · intro a W hx hdf hsz hg hi K hK
                    refine step_free rfl ?_
                    have t99 : a.tmps.getD 99 undef = .bool true := hg 99 (by kernel_rfl)
                    have t101 : a.tmps.getD 101 undef = .bool false := hg 101 (by kernel_rfl)
                    have u99 := t99
                    rw [Array.getD_eq_getD_getElem?] at u99
                    have u101 := t101
                    rw [Array.getD_eq_getD_getElem?] at u101
                    simp [Oper.wp, Oper.upon, execOp, Act.eval, go_sem, t99, u99, t101, u101]
                    exact hK _ _ (Ext.rf _) (fun d' h => by cases h; exact rfl)
                  · intro a W hx hdf hsz hg hi K hK
                    refine step_free rfl ?_
                    have t102 : a.tmps.getD 102 undef = .bool false := hg 102 (by kernel_rfl)
                    have u102 := t102
                    rw [Array.getD_eq_getD_getElem?] at u102
                    simp [Oper.wp, Oper.upon, execOp, Act.eval, go_sem, t102, u102]
                    exact hK _ _ (Ext.rf _) (fun d' h => by cases h; exact rfl)
                  · intro a W hx hdf hsz hg hi K hK
                    have G103 : a.tmps.getD 103 undef = .bool false := hg 103 (by kernel_rfl)
                    refine step_guard rfl rfl (by have hz : a.tmps.size = 115 := hsz; omega) G103 (fun _ => ?_) (fun h => absurd rfl h)
                    have t3 : a.tmps.getD 3 undef = .pointer (some ⟨w.heap.size, 0, none⟩) := hi 3 (by kernel_rfl)
                    have u3 := t3
                    rw [Array.getD_eq_getD_getElem?] at u3
                    simp [Oper.wp, Oper.upon, execOp, Act.eval, go_sem, t3, u3]
                    exact hK _ _ (Ext.rf _) (fun d' h => by cases h; exact rfl)
                  · intro a W hx hdf hsz hg hi K hK
                    have G103 : a.tmps.getD 103 undef = .bool false := hg 103 (by kernel_rfl)
                    refine step_guard rfl rfl (by have hz : a.tmps.size = 115 := hsz; omega) G103 (fun _ => ?_) (fun h => absurd rfl h)
                    have t104 : a.tmps.getD 104 undef = .pointer (some ⟨w.heap.size, 15, none⟩) := hg 104 (by kernel_rfl)
                    have u104 := t104
                    rw [Array.getD_eq_getD_getElem?] at u104
                    have q := hx.cell q15
                    simp [Oper.wp, Oper.upon, execOp, Act.eval, go_sem, t104, u104, q]
                    exact hK _ _ (Ext.rf _) (fun d' h => by cases h; exact rfl)
                  · intro a W hx hdf hsz hg hi K hK
                    have G103 : a.tmps.getD 103 undef = .bool false := hg 103 (by kernel_rfl)
                    refine step_guard rfl rfl (by have hz : a.tmps.size = 115 := hsz; omega) G103 (fun _ => ?_) (fun h => absurd rfl h)
                    have t8 : a.tmps.getD 8 undef = .int .i64 j := hi 8 (by kernel_rfl)
                    have u8 := t8
                    rw [Array.getD_eq_getD_getElem?] at u8
                    simp [Oper.wp, Oper.upon, execOp, Act.eval, go_sem, t8, u8]
                    exact hK _ _ (Ext.rf _) (fun d' h => by cases h; exact rfl)
                  · intro a W hx hdf hsz hg hi K hK
                    have G103 : a.tmps.getD 103 undef = .bool false := hg 103 (by kernel_rfl)
                    refine step_guard rfl rfl (by have hz : a.tmps.size = 115 := hsz; omega) G103 (fun _ => ?_) (fun h => absurd rfl h)
                    have t105 : a.tmps.getD 105 undef = .slice (some ⟨bc, oc, none⟩) d.ctors.length cc := hg 105 (by kernel_rfl)
                    have t106 : a.tmps.getD 106 undef = .int .i64 j := hg 106 (by kernel_rfl)
                    have u105 := t105
                    rw [Array.getD_eq_getD_getElem?] at u105
                    have u106 := t106
                    rw [Array.getD_eq_getD_getElem?] at u106
                    simp [Oper.wp, Oper.upon, execOp, Act.eval, go_sem, t105, u105, t106, u106, hjI]
                    exact hK _ _ (Ext.rf _) (fun d' h => by cases h; exact rfl)
                  · intro a W hx hdf hsz hg hi K hK
                    have G103 : a.tmps.getD 103 undef = .bool false := hg 103 (by kernel_rfl)
                    refine step_guard rfl rfl (by have hz : a.tmps.size = 115 := hsz; omega) G103 (fun _ => ?_) (fun h => absurd rfl h)
                    have t107 : a.tmps.getD 107 undef = .pointer (some ⟨bc, oc + j * 6, none⟩) := hg 107 (by kernel_rfl)
                    have u107 := t107
                    rw [Array.getD_eq_getD_getElem?] at u107
                    simp [Oper.wp, Oper.upon, execOp, Act.eval, go_sem, t107, u107]
                    exact hK _ _ (Ext.rf _) (fun d' h => by cases h; exact rfl)
                  · intro a W hx hdf hsz hg hi K hK
                    have G103 : a.tmps.getD 103 undef = .bool false := hg 103 (by kernel_rfl)
                    refine step_guard rfl rfl (by have hz : a.tmps.size = 115 := hsz; omega) G103 (fun _ => ?_) (fun h => absurd rfl h)
                    have t108 : a.tmps.getD 108 undef = .pointer (some ⟨bc, oc + j * 6, none⟩) := hg 108 (by kernel_rfl)
                    have u108 := t108
                    rw [Array.getD_eq_getD_getElem?] at u108
                    have q := hx.cell Hqc9.out
                    simp [Oper.wp, Oper.upon, execOp, Act.eval, go_sem, t108, u108, q]
                    exact hK _ _ (Ext.rf _) (fun d' h => by cases h; exact rfl)
                  · intro a W hx hdf hsz hg hi K hK
                    have G103 : a.tmps.getD 103 undef = .bool false := hg 103 (by kernel_rfl)
                    refine step_guard rfl rfl (by have hz : a.tmps.size = 115 := hsz; omega) G103 (fun _ => ?_) (fun h => absurd rfl h)
                    have t3 : a.tmps.getD 3 undef = .pointer (some ⟨w.heap.size, 0, none⟩) := hi 3 (by kernel_rfl)
                    have u3 := t3
                    rw [Array.getD_eq_getD_getElem?] at u3
                    simp [Oper.wp, Oper.upon, execOp, Act.eval, go_sem, t3, u3]
                    exact hK _ _ (Ext.rf _) (fun d' h => by cases h; exact rfl)
                  · intro a W hx hdf hsz hg hi K hK
                    have G103 : a.tmps.getD 103 undef = .bool false := hg 103 (by kernel_rfl)
                    refine step_guard rfl rfl (by have hz : a.tmps.size = 115 := hsz; omega) G103 (fun _ => ?_) (fun h => absurd rfl h)
                    have t110 : a.tmps.getD 110 undef = .pointer (some ⟨w.heap.size, 14, none⟩) := hg 110 (by kernel_rfl)
                    have u110 := t110
                    rw [Array.getD_eq_getD_getElem?] at u110
                    have q := hx.cell q14
                    simp [Oper.wp, Oper.upon, execOp, Act.eval, go_sem, t110, u110, q]
                    exact hK _ _ (Ext.rf _) (fun d' h => by cases h; exact rfl)
                  · intro a W hx hdf hsz hg hi K hK
                    have G103 : a.tmps.getD 103 undef = .bool false := hg 103 (by kernel_rfl)
                    refine step_guard rfl rfl (by have hz : a.tmps.size = 115 := hsz; omega) G103 (fun _ => ?_) (fun h => absurd rfl h)
                    have t111 : a.tmps.getD 111 undef = .slice vm d.members.length cm := hg 111 (by kernel_rfl)
                    have u111 := t111
                    rw [Array.getD_eq_getD_getElem?] at u111
                    simp [Oper.wp, Oper.upon, execOp, Act.eval, go_sem, t111, u111]
                    exact hK _ _ (Ext.rf _) (fun d' h => by cases h; exact rfl)
                  · intro a W hx hdf hsz hg hi K hK
                    have G103 : a.tmps.getD 103 undef = .bool false := hg 103 (by kernel_rfl)
                    refine step_guard rfl rfl (by have hz : a.tmps.size = 115 := hsz; omega) G103 (fun _ => ?_) (fun h => absurd rfl h)
                    have t109 : a.tmps.getD 109 undef = .int .i64 d.ctors[j].member := hg 109 (by kernel_rfl)
                    have t112 : a.tmps.getD 112 undef = .int .i64 d.members.length := hg 112 (by kernel_rfl)
                    have u109 := t109
                    rw [Array.getD_eq_getD_getElem?] at u109
                    have u112 := t112
                    rw [Array.getD_eq_getD_getElem?] at u112
                    simp [Oper.wp, Oper.upon, execOp, Act.eval, go_sem, t109, u109, t112, u112, hcm']
                    exact hK _ _ (Ext.rf _) (fun d' h => by cases h; exact rfl)
                  · intro a W hx hdf hsz hg hi K hK
                    refine step_free rfl ?_
                    have t103 : a.tmps.getD 103 undef = .bool false := hg 103 (by kernel_rfl)
                    have t113 : a.tmps.getD 113 undef = .bool false := hg 113 (by kernel_rfl)
                    have u103 := t103
                    rw [Array.getD_eq_getD_getElem?] at u103
                    have u113 := t113
                    rw [Array.getD_eq_getD_getElem?] at u113
                    simp [Oper.wp, Oper.upon, execOp, Act.eval, go_sem, t103, u103, t113, u113]
                    exact hK _ _ (Ext.rf _) (fun d' h => by cases h; exact rfl)
                · rintro ⟨T4, D4⟩ W10 hx10 hdf hsz0 hg hi
                  have t114 : T4.getD 114 undef = .bool false := hg 114 (by kernel_rfl)
                  obtain ⟨f', hf', hT⟩ := frame_mix [false, false, false, false, false, false, false, false, false, false, false, false, false, false, false, false, false, false, false, false, false, false, false, false, false, false, false, false, false, false, false, false, false, false, false, false, false, false, false, false, false, false, false, false, false, false, false, false, false, false, false, false, false, false, false, false, false, false, false, false, false, false, false, false, false, false, false, false, false, false, false, false, false, false, false, false, false, false, false, false, false, false, false, false, false, false, false, false, false, false, true, true, true, true, true, true, true, true, true, true, true, true, true, true, true, true, true, true, true, true, true, true, true, true, true] (dstsOfOps _) T4 _ 115 (by rfl) hsz0 (by kernel_rfl) hi
                  have g114 := (hf' 114).symm.trans t114
                  have hD : D4 = [] := hdf
                  clear hf' hi hg hsz0 hdf
                  subst hT hD
                  simp only [List.toList_toArray, mix, Nat.reduceAdd, g114]
                  go_wp2_with fail
                  exact ⟨⟨j + 1, by omega, by go_num, Hx9.out.tr hx10⟩, by simp only [intOf]; omega⟩
          · obtain rfl : j = d.ctors.length := by omega
            go_wp2_with fail
            go_ret
            exact ⟨rfl, HX4.out.tr Hxr.out⟩
end Go.Proofs.YtjaklnabidbmiaaDoor

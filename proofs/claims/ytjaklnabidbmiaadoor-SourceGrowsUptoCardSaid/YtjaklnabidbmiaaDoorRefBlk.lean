/- Walks: spandrelref11.bare, block, Decl. -/
import Derived.Test.YtjaklnabidbmiaaDoorRefEl2
import Derived.Deep.QuietTactic
import Derived.BigQuiet
namespace Go.Proofs.YtjaklnabidbmiaaDoor
open Go.RowKit
set_option linter.unusedSimpArgs false
set_option linter.unusedVariables false

set_option maxRecDepth 100000 in
theorem refBare_any (t : Term) (cs : List Value) (w : World) (hR : RTerm w t cs) :
    Calls Tryd.prog 32 #[.agg cs.toArray] w fun e w' => e = .returned (.bool (decide (Bare t))) ∧ Ext w w' := by
  obtain ⟨vl, vk, rfl, -, ⟨A1, c1, rfl, -, hr1⟩, ⟨A2, c2, rfl, -, hr2⟩⟩ := rterm_open hR
  have l1 := hr1.len_le
  have l2 := hr2.len_le
  have hb : decide (Bare t) = ((t.kind == 0) && ((t.num == 0) && ((t.at_ == 0) && (((t.levels.length : Int) == 0) && ((t.kids.length : Int) == 0))))) := by
    rw [Bool.eq_iff_iff, decide_eq_true_iff]
    unfold Bare
    simp
  have HB := hid hb
  clear hb hr1 hr2
  go_enter Tryd.func32, Tryd.ntmps32
  go_wp2_with fail
  all_goals go_ret
  all_goals refine ⟨ret_bool (Eq.symm ?_), (Ext.rf _).al _⟩
  all_goals rw [HB.out]
  all_goals clear HB l1 l2
  all_goals simp [*]

/-- The first half of what a block must be. -/
def HeadHalf (ds : List Decl) (n : Int) (d : Decl) : Prop := ((d.params.length : Int) ≤ 6 ∧ RowP ds n 0 0 d.params) ∧ levelRight d.sort n = true ∧ (1 ≤ (d.members.length : Int) ∧ (d.members.length : Int) ≤ 8) ∧ (d.ctors.length : Int) ≤ 16
theorem blockP_iff (ds : List Decl) (d : Decl) : BlockP ds d.levels 0 d ↔ HeadHalf ds d.levels d ∧ MembersOk ds d.levels 0 d ∧ CtorsOk ds d.levels d ∧ Bare d.type ∧ Bare d.body := by
  unfold BlockP HeadHalf HeadOk headBits
  simp only [List.all_cons, List.all_nil, Bool.and_true, id_eq, Bool.and_eq_true, decide_eq_true_eq]
  constructor
  · rintro ⟨⟨h1, h2, h3, h4, h5, h6, h7⟩, h8, h9, h10⟩
    exact ⟨⟨⟨h1, h8⟩, h2, ⟨by omega, h4⟩, h5⟩, h9, h10, h6, h7⟩
  · rintro ⟨⟨⟨h1, h8⟩, h2, ⟨h3, h4⟩, h5⟩, h9, h10, h6, h7⟩
    exact ⟨⟨h1, h2, by omega, h4, h5, h6, h7⟩, h8, h9, h10⟩
/-- A truth that tells the contrary of P. -/
def Nots (P : Prop) (c : Value) : Prop := (P ∧ c = .bool false) ∨ (¬ P ∧ c = .bool true)
/-- Whether P, as a truth. -/
noncomputable def pB (P : Prop) : Bool := @decide P (Classical.propDecidable P)
theorem pB_true {P : Prop} (h : pB P = true) : P := @of_decide_eq_true P (Classical.propDecidable P) h
theorem pB_false {P : Prop} (h : pB P = false) : ¬ P := @of_decide_eq_false P (Classical.propDecidable P) h
theorem pB_yes {P : Prop} (h : P) : pB P = true := @decide_eq_true P (Classical.propDecidable P) h
theorem pB_no {P : Prop} (h : ¬ P) : pB P = false := @decide_eq_false P (Classical.propDecidable P) h
theorem tells_b {P : Prop} {w : World} {e : Ending} {w' : World} (h : Tells P w e w') : e = .returned (.bool (pB P)) ∧ Ext w w' := by
  obtain ⟨hx, ⟨hp, rfl⟩ | ⟨hp, rfl⟩⟩ := h
  · exact ⟨by rw [pB_yes hp], hx⟩
  · exact ⟨by rw [pB_no hp], hx⟩
theorem Ext.drN {w W : World} (h : Ext w W) (n : Nat) : Ext w (W.drewN n) := ⟨h.os, h.tape, h.output, h.size, h.block⟩
theorem ext_name {w w' : World} (h : Ext w w') : ∃ W : World, W = w' := ⟨_, rfl⟩
theorem nots_of {P : Prop} {b c : Bool} (h : Nots P (.bool b)) (e : c = b) : Nots P (.bool c) := e ▸ h
set_option maxRecDepth 100000 in
set_option maxHeartbeats 4000000 in
theorem refBlock_any (ds : List Decl) (vd : Value) (d : Decl) (cs : List Value) (w : World) (hd : SlDecl w ds vd) (hR : RDecl w d cs) :
    Calls Tryd.prog 31 #[vd, .agg cs.toArray] w (Tells (BlockP ds d.levels 0 d) w) := by
  obtain ⟨A0, c0, hv0, -⟩ := id hd
  have hd0 := hid hd
  clear hd
  subst hv0
  obtain ⟨A1, c1, A2, c2, A3, c3, A4, c4, cp, vp, cS, vS, cm, vm, cc, vc, rfl, hik, hil, ht, hb, hp, hS, hm, hc⟩ := rdecl_open hR
  have Ht := hid ht
  have Hb := hid hb
  have Hp := hid hp
  have HS := hid hS
  have Hm := hid hm
  have Hc := hid hc
  have l1 := sl_len hp
  have l2 := sl_len hS
  have l3 := sl_len hm
  have l4 := sl_len hc
  clear ht hb hp hS hm hc hR
  have HI := hid (blockP_iff ds d)
  have hxb : Ext w _ := (Ext.rf w).al (.cells #[.int .i64 d.kind, .int .i64 d.levels, .int .i64 d.type.kind, .int .i64 d.type.num, .int .i64 d.type.at_, .slice A1 d.type.levels.length c1, .slice A2 d.type.kids.length c2, .int .i64 d.body.kind, .int .i64 d.body.num, .int .i64 d.body.at_, .slice A3 d.body.levels.length c3, .slice A4 d.body.kids.length c4, .slice vp d.params.length cp, .slice vS d.sort.parts.length cS, .slice vm d.members.length cm, .slice vc d.ctors.length cc] 34)
  have Hxb := hid hxb
  clear hxb
  go_enter Tryd.func31, Tryd.ntmps31
  go_upto_region 2 with fail
  go_cut [48] (fun c wx => Nots (HeadHalf ds d.levels d) c ∧ Ext (w.alloc (.cells #[.int .i64 d.kind, .int .i64 d.levels, .int .i64 d.type.kind, .int .i64 d.type.num, .int .i64 d.type.at_, .slice A1 d.type.levels.length c1, .slice A2 d.type.kids.length c2, .int .i64 d.body.kind, .int .i64 d.body.num, .int .i64 d.body.at_, .slice A3 d.body.levels.length c3, .slice A4 d.body.kids.length c4, .slice vp d.params.length cp, .slice vS d.sort.parts.length cS, .slice vm d.members.length cm, .slice vc d.ctors.length cc] 34)) wx)
  case first =>
    by_cases h1 : (d.params.length : Int) ≤ 6
    rotate_left
    · have hno : Nots (HeadHalf ds d.levels d) (.bool true) := .inr ⟨fun h => h1 h.1.1, rfl⟩
      have Hno := hid hno
      clear hno
      go_wp2_with fail
      go_meet
      exact ⟨Hno.out, Ext.rf _⟩
    go_wp2_with fail
    refine (refElRow_any ds d.levels 0 _ d.params _ _ (hd0.out.ext mono_decl Hxb.out) (Hp.out.ext mono_term Hxb.out) (by omega)).mono ?_
    rintro e w1 ⟨hx1, ⟨hrow, rfl⟩ | ⟨hrow, rfl⟩⟩
    rotate_left
    · have hno : Nots (HeadHalf ds d.levels d) (.bool true) := .inr ⟨fun h => hrow h.1.2, rfl⟩
      have Hno := hid hno
      clear hno
      go_wp2_with fail
      go_meet
      exact ⟨Hno.out, hx1⟩
    have hx := Hxb.out.tr hx1
    have q1 : w1.cell? ⟨w.heap.size, 1, none⟩ = some (.int .i64 d.levels) := hx1.cell (by simp [go_sem])
    have q13 : w1.cell? ⟨w.heap.size, 13, none⟩ = some (.slice vS d.sort.parts.length cS) := hx1.cell (by simp [go_sem])
    have q14 : w1.cell? ⟨w.heap.size, 14, none⟩ = some (.slice vm d.members.length cm) := hx1.cell (by simp [go_sem])
    have q15 : w1.cell? ⟨w.heap.size, 15, none⟩ = some (.slice vc d.ctors.length cc) := hx1.cell (by simp [go_sem])
    go_wp2_with fail
    refine (refLevel_any d.sort d.levels _ _ (HS.out.ext mono_part hx)).mono ?_
    rintro e w2 ⟨rfl, hx2⟩
    have r14 := hx2.cell q14
    have r15 := hx2.cell q15
    have hx12 := hid (hx1.tr hx2)
    cases hlv : levelRight d.sort d.levels
    · have hno : Nots (HeadHalf ds d.levels d) (.bool true) := .inr ⟨fun h => by (have := h.2.1; rw [hlv] at this; cases this), rfl⟩
      have Hno := hid hno
      clear hno hlv
      go_wp2_with fail
      go_meet
      exact ⟨Hno.out, hx12.out⟩
    by_cases h2 : 1 ≤ (d.members.length : Int)
    rotate_left
    · have hno : Nots (HeadHalf ds d.levels d) (.bool true) := .inr ⟨fun h => h2 h.2.2.1.1, rfl⟩
      have Hno := hid hno
      clear hno hlv
      have h2' : (d.members.length : Int) < 1 := by omega
      go_wp2_with fail
      go_meet
      exact ⟨Hno.out, hx12.out⟩
    by_cases h3 : (d.members.length : Int) ≤ 8
    rotate_left
    · have hno : Nots (HeadHalf ds d.levels d) (.bool true) := .inr ⟨fun h => h3 h.2.2.1.2, rfl⟩
      have Hno := hid hno
      clear hno hlv
      go_wp2_with fail
      go_meet
      exact ⟨Hno.out, hx12.out⟩
    by_cases h4 : (d.ctors.length : Int) ≤ 16
    · have hyes : Nots (HeadHalf ds d.levels d) (.bool false) := .inl ⟨⟨⟨h1, hrow⟩, hlv, ⟨h2, h3⟩, h4⟩, rfl⟩
      have Hyes := hid hyes
      clear hyes hlv
      go_wp2_with fail
      go_meet
      exact ⟨nots_of Hyes.out (by simp; omega), hx12.out⟩
    · have hno : Nots (HeadHalf ds d.levels d) (.bool true) := .inr ⟨fun h => h4 h.2.2.2, rfl⟩
      have Hno := hid hno
      clear hno hlv
      go_wp2_with fail
      go_meet
      exact ⟨Hno.out, hx12.out⟩
  case rest =>
    obtain ⟨⟨hh, rfl⟩ | ⟨hh, rfl⟩, hx1⟩ := hcut
    rotate_left
    · have hx := Hxb.out.tr hx1
      have hno : ¬ BlockP ds d.levels 0 d := fun h => hh (HI.out.1 h).1
      clear HI
      go_wp2_with fail
      go_ret
      exact ⟨hx, .inr ⟨hno, rfl⟩⟩
    have hx := Hxb.out.tr hx1
    have q1 : wc.cell? ⟨w.heap.size, 1, none⟩ = some (.int .i64 d.levels) := hx1.cell (by simp [go_sem])
    have q2 : wc.cell? ⟨w.heap.size, 2, none⟩ = some (.int .i64 d.type.kind) := hx1.cell (by simp [go_sem])
    have q3 : wc.cell? ⟨w.heap.size, 3, none⟩ = some (.int .i64 d.type.num) := hx1.cell (by simp [go_sem])
    have q4 : wc.cell? ⟨w.heap.size, 4, none⟩ = some (.int .i64 d.type.at_) := hx1.cell (by simp [go_sem])
    have q5 : wc.cell? ⟨w.heap.size, 5, none⟩ = some (.slice A1 d.type.levels.length c1) := hx1.cell (by simp [go_sem])
    have q6 : wc.cell? ⟨w.heap.size, 6, none⟩ = some (.slice A2 d.type.kids.length c2) := hx1.cell (by simp [go_sem])
    have q7 : wc.cell? ⟨w.heap.size, 7, none⟩ = some (.int .i64 d.body.kind) := hx1.cell (by simp [go_sem])
    have q8 : wc.cell? ⟨w.heap.size, 8, none⟩ = some (.int .i64 d.body.num) := hx1.cell (by simp [go_sem])
    have q9 : wc.cell? ⟨w.heap.size, 9, none⟩ = some (.int .i64 d.body.at_) := hx1.cell (by simp [go_sem])
    have q10 : wc.cell? ⟨w.heap.size, 10, none⟩ = some (.slice A3 d.body.levels.length c3) := hx1.cell (by simp [go_sem])
    have q11 : wc.cell? ⟨w.heap.size, 11, none⟩ = some (.slice A4 d.body.kids.length c4) := hx1.cell (by simp [go_sem])
    have q14 : wc.cell? ⟨w.heap.size, 14, none⟩ = some (.slice vm d.members.length cm) := hx1.cell (by simp [go_sem])
    have q15 : wc.cell? ⟨w.heap.size, 15, none⟩ = some (.slice vc d.ctors.length cc) := hx1.cell (by simp [go_sem])
    clear hx1
    go_wp2_with fail
    go_loopw [6] (fun i wr => ∃ j : Nat, j ≤ d.members.length ∧ i = .int .i64 j ∧ Ext wc wr ∧ ∀ (x : Nat) (h : x < d.members.length), x < j → d.members[x].index.length ≤ 6 ∧ RowP ds d.levels d.params.length 0 d.members[x].index) (fun i _ => d.members.length - (intOf i).toNat)
    case atStart => exact ⟨0, by omega, rfl, Ext.rf _, fun x _ h => absurd h (by omega)⟩
    case round =>
      obtain ⟨j, hj, rfl, hxr, hq⟩ := hrel
      obtain ⟨wr, rfl⟩ := ext_name hxr
      have Hq := hid hq
      clear hq
      have hx0 := hx.tr hxr
      have r1 := hxr.cell q1
      have r2 := hxr.cell q2
      have r3 := hxr.cell q3
      have r4 := hxr.cell q4
      have r5 := hxr.cell q5
      have r6 := hxr.cell q6
      have r7 := hxr.cell q7
      have r8 := hxr.cell q8
      have r9 := hxr.cell q9
      have r10 := hxr.cell q10
      have r11 := hxr.cell q11
      have r14 := hxr.cell q14
      have r15 := hxr.cell q15
      by_cases hlt : j < d.members.length
      · obtain ⟨Am, cmm, hvm, hcm, hrm⟩ := Hm.out
        cases hvm
        obtain ⟨b, o, cs, rfl, ⟨v, rfl, hsi⟩, hcs0⟩ := hrm.at_ hlt
        obtain ⟨Ai, ci, rfl, hci, hri⟩ := id hsi
        have li := hri.len_le
        have hcs := (hcs0.ext hx0).at0
        rw [Nat.mul_one] at hcs
        have Hsi := hid hsi
        clear hsi hcs0 hri hrm
        by_cases h6 : (d.members[j].index.length : Int) ≤ 6
        · have h6' : ¬ (6 : Int) < (d.members[j].index.length : Int) := by omega
          have h6d : decide ((6 : Int) < (d.members[j].index.length : Int)) = false := by simpa using h6'
          have hj2 : (j : Int) < (d.members.length : Int) := by omega
          go_wp2_with fail
          go_region_held3 (fun w' => w'.cell? ⟨w.heap.size, 1, none⟩ = some (.int .i64 d.levels) ∧ w'.cell? ⟨w.heap.size, 14, none⟩ = some (.slice (some ⟨b, o, none⟩) d.members.length cm) ∧ w'.cell? ⟨b, o + j, none⟩ = some (.slice Ai d.members[j].index.length ci)) (first | (exact ⟨r1, r14, hcs⟩) | (exact ⟨hb.cell r1, hb.cell r14, hb.cell hcs⟩)) ((go_at_call 54; refine (refElRow_any ds d.levels _ _ _ _ _ (by exact hd0.out.ext mono_decl hx0.dr) (by exact Hsi.out.ext mono_term hx0.dr) (by omega)).mono ?_; (rintro e w' hT; obtain ⟨rfl, hb⟩ := tells_b hT; clear hT)))
          cases hpb : pB (RowP ds d.levels d.params.length 0 d.members[j].index)
          · have hno : ¬ BlockP ds d.levels 0 d := fun h => pB_false hpb ((HI.out.1 h).2.1 j hlt).2
            have Hno := hid hno
            clear hno hpb
            go_wp2_with fail
            go_ret
            exact ⟨hx0.dr.tr hb, .inr ⟨Hno.out, rfl⟩⟩
          · have hyes := hid (pB_true hpb)
            clear hpb
            go_wp2_with fail
            refine ⟨⟨j + 1, by omega, by go_num, hxr.dr.tr hb, fun x h1 h2 => ?_⟩, by simp only [intOf]; omega⟩
            by_cases h3 : x < j
            · exact Hq.out x h1 h3
            · obtain rfl : x = j := by omega
              exact ⟨by omega, hyes.out⟩
        · have hno : ¬ BlockP ds d.levels 0 d := fun h => h6 (by have := ((HI.out.1 h).2.1 j hlt).1; omega)
          have Hno := hid hno
          have h6' : (6 : Int) < (d.members[j].index.length : Int) := by omega
          have h6d : decide ((6 : Int) < (d.members[j].index.length : Int)) = true := by simpa using h6'
          clear hno
          go_wp2_with fail
          go_quiet (fail)
          go_wp2_with fail
          go_ret
          exact ⟨hx0.drN _, .inr ⟨Hno.out, rfl⟩⟩
      · obtain rfl : j = d.members.length := by omega
        have hmem : MembersOk ds d.levels 0 d := fun x h => Hq.out x h h
        have HMem := hid hmem
        clear hmem Hq q1 q2 q3 q4 q5 q6 q7 q8 q9 q10 q11 q14 q15
        go_wp2_with fail
        go_loopw [7] (fun i wv => ∃ j : Nat, j ≤ d.ctors.length ∧ i = .int .i64 j ∧ Ext wr wv ∧ ∀ (x : Nat) (h : x < d.ctors.length), x < j → (0 ≤ d.ctors[x].member ∧ d.ctors[x].member < d.members.length) ∧ RightP ds d.levels d.params.length d.members.length d.ctors[x].type) (fun i _ => d.ctors.length - (intOf i).toNat)
        case atStart => exact ⟨0, by omega, rfl, Ext.rf _, fun x _ h => absurd h (by omega)⟩
        case round =>
          obtain ⟨j, hj, rfl, hxv, hq⟩ := hrel
          obtain ⟨wv, rfl⟩ := ext_name hxv
          have Hq := hid hq
          clear hq
          have hx1 := hx0.tr hxv
          have p1 := hxv.cell r1
          have p2 := hxv.cell r2
          have p3 := hxv.cell r3
          have p4 := hxv.cell r4
          have p5 := hxv.cell r5
          have p6 := hxv.cell r6
          have p7 := hxv.cell r7
          have p8 := hxv.cell r8
          have p9 := hxv.cell r9
          have p10 := hxv.cell r10
          have p11 := hxv.cell r11
          have p14 := hxv.cell r14
          have p15 := hxv.cell r15
          by_cases hlt : j < d.ctors.length
          · obtain ⟨Ac, ccc, hvc, hcc, hrc⟩ := Hc.out
            cases hvc
            obtain ⟨b, o, cs, rfl, ⟨ct, hcs1, him, hct⟩, hcs0⟩ := hrc.at_ hlt
            have Hct := hid hct
            obtain ⟨vl, vk, rfl, -, hk1, hk2⟩ := rterm_open hct
            obtain ⟨B1, e1, rfl, -⟩ := hk1
            obtain ⟨B2, e2, rfl, -⟩ := hk2
            have hon : Ones 6 cs := by
              subst hcs1
              refine ⟨rfl, fun v hv => ?_⟩
              simp only [List.mem_cons, List.not_mem_nil, or_false] at hv
              rcases hv with rfl | rfl | rfl | rfl | rfl | rfl <;> rfl
            have hcs2 := hcs0.ext hx1
            have hu := Tryd.underlying46
            have hi46 : (Tryd.prog.info? 46).map (·.size) = some cs.length := by rw [hon.1]; kernel_rfl
            have zg := lt_of_cell p1
            have zg1 : w.heap.size < wv.heap.size + 1 := by omega
            have f0 : cs[0]? = some (.int .i64 d.ctors[j].member) := by rw [hcs1]; rfl
            have f1 : cs[1]? = some (.int .i64 d.ctors[j].type.kind) := by rw [hcs1]; rfl
            have f2 : cs[2]? = some (.int .i64 d.ctors[j].type.num) := by rw [hcs1]; rfl
            have f3 : cs[3]? = some (.int .i64 d.ctors[j].type.at_) := by rw [hcs1]; rfl
            have f4 : cs[4]? = some (.slice B1 d.ctors[j].type.levels.length e1) := by rw [hcs1]; rfl
            have f5 : cs[5]? = some (.slice B2 d.ctors[j].type.kids.length e2) := by rw [hcs1]; rfl
            clear hcs0 hct hrc hcs1
            have hx2 := hid (hxv.al (.cells cs.toArray 46))
            by_cases h1 : 0 ≤ d.ctors[j].member
            · by_cases h2 : d.ctors[j].member < (d.members.length : Int)
              · go_wp2_with (first | ((with_reducible show wpList _ _ _ (⟨_, Op.load 46 _, _, _, _, _⟩ :: _) _ _); refine wpList_load_mid (by rfl) 46 _ (by rfl) b (o + j * 6) (by rfl) cs _ hcs2 hu (by rfl) hi46 ?_) | ((with_reducible show wpList _ _ _ (⟨_, Op.store 46 _ _, _, _, _, _⟩ :: _) _ _); refine wpList_store_fresh_at (by rfl) 46 _ _ (by rfl) _ 46 cs wv.heap.size (by rfl) (by rfl) (by rfl) (by rw [hon.1]; rfl) hi46 hon.2 ?_))
                refine (refElRight_any ds d.levels d.params.length d.members.length _ d.ctors[j].type _ _ (hd0.out.ext mono_decl (hx0.tr hx2.out)) (mono_term _ _ _ _ (hx0.tr hx2.out) Hct.out)).mono ?_
                rintro e w6 ⟨hx6, ⟨hsub, rfl⟩ | ⟨hsub, rfl⟩⟩
                · go_wp2_with fail
                  refine ⟨⟨j + 1, by omega, by go_num, hx2.out.tr hx6, fun x h3 h4 => ?_⟩, by simp only [intOf]; omega⟩
                  by_cases h5 : x < j
                  · exact Hq.out x h3 h5
                  · obtain rfl : x = j := by omega
                    exact ⟨⟨h1, h2⟩, hsub⟩
                · have hno : ¬ BlockP ds d.levels 0 d := fun h => hsub ((HI.out.1 h).2.2.1 j hlt).2
                  have Hno := hid hno
                  clear hno
                  go_wp2_with fail
                  go_ret
                  exact ⟨hx0.tr (hx2.out.tr hx6), .inr ⟨Hno.out, rfl⟩⟩
              · have hno : ¬ BlockP ds d.levels 0 d := fun h => h2 ((HI.out.1 h).2.2.1 j hlt).1.2
                have Hno := hid hno
                clear hno
                go_wp2_with (first | ((with_reducible show wpList _ _ _ (⟨_, Op.load 46 _, _, _, _, _⟩ :: _) _ _); refine wpList_load_mid (by rfl) 46 _ (by rfl) b (o + j * 6) (by rfl) cs _ hcs2 hu (by rfl) hi46 ?_) | ((with_reducible show wpList _ _ _ (⟨_, Op.store 46 _ _, _, _, _, _⟩ :: _) _ _); refine wpList_store_fresh_at (by rfl) 46 _ _ (by rfl) _ 46 cs wv.heap.size (by rfl) (by rfl) (by rfl) (by rw [hon.1]; rfl) hi46 hon.2 ?_))
                go_ret
                exact ⟨hx0.tr hx2.out, .inr ⟨Hno.out, rfl⟩⟩
            · have hno : ¬ BlockP ds d.levels 0 d := fun h => h1 ((HI.out.1 h).2.2.1 j hlt).1.1
              have Hno := hid hno
              clear hno
              have h1' : d.ctors[j].member < 0 := by omega
              go_wp2_with (first | ((with_reducible show wpList _ _ _ (⟨_, Op.load 46 _, _, _, _, _⟩ :: _) _ _); refine wpList_load_mid (by rfl) 46 _ (by rfl) b (o + j * 6) (by rfl) cs _ hcs2 hu (by rfl) hi46 ?_) | ((with_reducible show wpList _ _ _ (⟨_, Op.store 46 _ _, _, _, _, _⟩ :: _) _ _); refine wpList_store_fresh_at (by rfl) 46 _ _ (by rfl) _ 46 cs wv.heap.size (by rfl) (by rfl) (by rfl) (by rw [hon.1]; rfl) hi46 hon.2 ?_))
              go_ret
              exact ⟨hx0.tr hx2.out, .inr ⟨Hno.out, rfl⟩⟩
          · obtain rfl : j = d.ctors.length := by omega
            have hct : CtorsOk ds d.levels d := fun x h => Hq.out x h h
            have HC := hid hct
            clear hct Hq
            go_wp2_with fail
            refine (refBare_any d.type _ _ (mono_term _ _ _ _ hx1 Ht.out)).mono ?_
            rintro e w6 ⟨rfl, hx6⟩
            have s7 := hx6.cell p7
            have s8 := hx6.cell p8
            have s9 := hx6.cell p9
            have s10 := hx6.cell p10
            have s11 := hx6.cell p11
            cases hbt : decide (Bare d.type)
            · have hno : ¬ BlockP ds d.levels 0 d := fun h => of_decide_eq_false hbt (HI.out.1 h).2.2.2.1
              have Hno := hid hno
              clear hno hbt
              go_wp2_with fail
              go_ret
              exact ⟨hx1.tr hx6, .inr ⟨Hno.out, rfl⟩⟩
            · have Hbt := hid (of_decide_eq_true hbt)
              clear hbt
              go_wp2_with fail
              refine (refBare_any d.body _ _ (mono_term _ _ _ _ (hx1.tr hx6) Hb.out)).mono ?_
              rintro e w7 ⟨rfl, hx7⟩
              cases hbb : decide (Bare d.body)
              · have hno : ¬ BlockP ds d.levels 0 d := fun h => of_decide_eq_false hbb (HI.out.1 h).2.2.2.2
                have Hno := hid hno
                clear hno hbb
                go_wp2_with fail
                go_ret
                exact ⟨(hx1.tr hx6).tr hx7, .inr ⟨Hno.out, rfl⟩⟩
              · have hyes : BlockP ds d.levels 0 d := HI.out.2 ⟨hh, HMem.out, HC.out, Hbt.out, of_decide_eq_true hbb⟩
                have Hyes := hid hyes
                clear hyes hbb
                go_wp2_with fail
                go_ret
                exact ⟨(hx1.tr hx6).tr hx7, .inl ⟨Hyes.out, rfl⟩⟩

end Go.Proofs.YtjaklnabidbmiaaDoor

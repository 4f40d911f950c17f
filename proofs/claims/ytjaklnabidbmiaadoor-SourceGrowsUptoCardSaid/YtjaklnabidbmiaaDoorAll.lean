/- Walks: source.walk's all: the map of its asks. -/
import Derived.Test.YtjaklnabidbmiaaDoorAsks
import Derived.WideMake
namespace Go.Proofs.YtjaklnabidbmiaaDoor
open Go.RowKit
set_option linter.unusedSimpArgs false
set_option linter.unusedVariables false

/-- A new key goes into a map that was made just before. -/
theorem run_insert_fresh {P : Program} (t kt et : TypeId) (ht : P.underlying t = some (.map kt et)) (hk : P.underlying kt = some (.int .i64)) (W : World) (r : Nat) (es : Array MapEntry) (clock : Nat) (k : Int) (v : Value)
    (hr : r = W.heap.size) (hn : Instr.findNow (.int .i64) (.int .i64 k) es.toList 0 = some none) :
    (Instr.mapUpdate t (.map (some r)) (.int .i64 k) v).run P (W.alloc (.map es clock)) = .ok () (W.alloc (.map (es.push { key := .int .i64 k, val := v, born := clock }) (clock + 1))) := by
  subst hr
  have hg : (W.alloc (.map es clock)).heap[W.heap.size]? = some (.map es clock) := heap_alloc_new W _
  have hc : ∀ w, (Instr.checkKey false 10000 kt (.int .i64 k)).run P w = .ok () w := fun w => MapKept.run_checkKey (k := .int .i64 k) hk (by simp [MapKept.IsKey]) false 9999
  have hs : ({ W.alloc (.map es clock) with heap := (W.alloc (.map es clock)).heap.setIfInBounds W.heap.size (.map (es.push { key := .int .i64 k, val := v, born := clock }) (clock + 1)) } : World) = W.alloc (.map (es.push { key := .int .i64 k, val := v, born := clock }) (clock + 1)) := by
    show ({ W with heap := (W.heap.push _).setIfInBounds W.heap.size _ } : World) = { W with heap := W.heap.push _ }
    congr 1
    apply Array.ext_getElem?
    intro i
    rw [Array.getElem?_setIfInBounds, Array.getElem?_push, Array.getElem?_push]
    split
    · simp_all
    · rename_i h
      rw [if_neg (Ne.symm h), if_neg (Ne.symm h)]
  simp only [Instr.mapUpdate, Sem.run_bind, run_underlying ht, Result.andThen_ok, MapKept.run_getObj_map hg, hc, MapKept.run_findKey hk hn, MapKept.run_setObj_map _ hg]
  rw [hs]
theorem run_lookup_fresh {P : Program} (t kt et : TypeId) (ht : P.underlying t = some (.map kt et)) (hk : P.underlying kt = some (.int .i64)) (z : Value) (hz : ∀ w, (zeroValue et).run P w = .ok z w) (W : World) (r : Nat) (es : Array MapEntry) (clock : Nat) (k : Int) (o : Option (Nat × Value))
    (hr : r = W.heap.size) (hn : Instr.findNow (.int .i64) (.int .i64 k) es.toList 0 = some o) :
    (Instr.lookup t (.map (some r)) (.int .i64 k) true).run P (W.alloc (.map es clock)) = .ok (.tuple #[(o.map (·.2)).getD z, .bool o.isSome]) (W.alloc (.map es clock)) := by
  subst hr
  have hg : (W.alloc (.map es clock)).heap[W.heap.size]? = some (.map es clock) := heap_alloc_new W _
  have hc : ∀ e w, (Instr.checkKey e 10000 kt (.int .i64 k)).run P w = .ok () w := fun e w => MapKept.run_checkKey (k := .int .i64 k) hk (by simp [MapKept.IsKey]) e 9999
  cases o with
  | none => simp only [Instr.lookup, Sem.run_bind, run_underlying ht, Result.andThen_ok, MapKept.run_getObj_map hg, Sem.run_pure, hc, MapKept.run_findKey hk hn, hz]; rfl
  | some o => simp only [Instr.lookup, Sem.run_bind, run_underlying ht, Result.andThen_ok, MapKept.run_getObj_map hg, Sem.run_pure, hc, MapKept.run_findKey hk hn]; rfl
/-- The map of asks, as it stands when it is asked. -/
def askMap (wv : Value) : Array MapEntry := #[⟨.int .i64 1, .func (.func 64) #[wv] #[], 0⟩, ⟨.int .i64 3, .func (.func 65) #[wv] #[], 1⟩, ⟨.int .i64 8, .func (.func 66) #[wv] #[], 2⟩,
  ⟨.int .i64 9, .func (.func 67) #[wv] #[], 3⟩, ⟨.int .i64 10, .func (.func 68) #[wv] #[], 4⟩, ⟨.int .i64 11, .func (.func 69) #[wv] #[], 5⟩]
/-- What a node must be, by its kind. -/
def AskOk (ds : List Decl) (self scope k num a nl : Int) : Prop :=
  (k = 1 ∧ num < scope) ∨ (k = 3 ∧ constantOk ds num a nl) ∨ (k = 8 ∧ memberOk ds num a nl) ∨ (k = 9 ∧ ctorOk ds num a nl) ∨ (k = 10 ∧ recursorOk ds num a nl) ∨ (k = 11 ∧ a < self)
def hasAsk (k : Int) : Prop := k = 1 ∨ k = 3 ∨ k = 8 ∨ k = 9 ∨ k = 10 ∨ k = 11
theorem find_no (wv : Value) (k : Int) (h : ¬ hasAsk k) : Instr.findNow (.int .i64) (.int .i64 k) (askMap wv).toList 0 = some none := by
  unfold hasAsk at h
  have h1 : (k == 1) = false := by simp; omega
  have h2 : (k == 3) = false := by simp; omega
  have h3 : (k == 8) = false := by simp; omega
  have h4 : (k == 9) = false := by simp; omega
  have h5 : (k == 10) = false := by simp; omega
  have h6 : (k == 11) = false := by simp; omega
  simp [askMap, Instr.findNow, Instr.sameNow, h1, h2, h3, h4, h5, h6]
/-- An ask that is there: a function that tells whether the node is right. -/
theorem find_yes (ds : List Decl) (n self scope : Int) (vd : Value) (k num a : Int) (h : hasAsk k) : ∃ i K, Instr.findNow (.int .i64) (.int .i64 k) (askMap (.agg #[vd, .int .i64 n, .int .i64 self, .int .i64 scope])).toList 0 = some (some (i, .func (.func K) #[.agg #[vd, .int .i64 n, .int .i64 self, .int .i64 scope]] #[])) ∧ Enters K ∧
    ∀ (ls : List Level) (vl vk : Value) (w : World), SlDecl w ds vd → SlLevel w ls vl → 0 ≤ num → Calls Tryd.prog K #[.agg #[vd, .int .i64 n, .int .i64 self, .int .i64 scope], .agg #[.int .i64 k, .int .i64 num, .int .i64 a, vl, vk]] w fun e w' =>
      Ext w w' ∧ ((AskOk ds self scope k num a ls.length ∧ e = .returned (.tuple #[])) ∨ (¬ AskOk ds self scope k num a ls.length ∧ e = .panicked wrongs)) := by
  rcases h with rfl | rfl | rfl | rfl | rfl | rfl
  · refine ⟨0, _, rfl, ⟨fun _ _ => by simp [go_sem]⟩, fun ls vl vk w hd hl h0 => (variable_any n self scope vd 1 num a vl vk w).mono ?_⟩
    rintro e w' ⟨rfl, hx⟩
    refine ⟨hx, ?_⟩
    cases hb : decide (num < scope)
    · simp at hb
      exact .inr ⟨by unfold AskOk; omega, rfl⟩
    · simp at hb
      exact .inl ⟨.inl ⟨rfl, hb⟩, rfl⟩
  · refine ⟨1, _, rfl, ⟨fun _ _ => by simp [go_sem]⟩, fun ls vl vk w hd hl h0 => (constant_any ds n self scope vd 3 num a ls vl vk w hd hl h0).mono ?_⟩
    rintro e w' ⟨hx, ⟨h1, rfl⟩ | ⟨h1, rfl⟩⟩
    · exact ⟨hx, .inl ⟨.inr (.inl ⟨rfl, h1⟩), rfl⟩⟩
    · exact ⟨hx, .inr ⟨by simp [AskOk, h1], rfl⟩⟩
  · refine ⟨2, _, rfl, ⟨fun _ _ => by simp [go_sem]⟩, fun ls vl vk w hd hl h0 => (member_any ds n self scope vd 8 num a ls vl vk w hd hl h0).mono ?_⟩
    rintro e w' ⟨hx, ⟨h1, rfl⟩ | ⟨h1, rfl⟩⟩
    · exact ⟨hx, .inl ⟨by simp [AskOk, h1], rfl⟩⟩
    · exact ⟨hx, .inr ⟨by simp [AskOk, h1], rfl⟩⟩
  · refine ⟨3, _, rfl, ⟨fun _ _ => by simp [go_sem]⟩, fun ls vl vk w hd hl h0 => (ctor_any ds n self scope vd 9 num a ls vl vk w hd hl h0).mono ?_⟩
    rintro e w' ⟨hx, ⟨h1, rfl⟩ | ⟨h1, rfl⟩⟩
    · exact ⟨hx, .inl ⟨by simp [AskOk, h1], rfl⟩⟩
    · exact ⟨hx, .inr ⟨by simp [AskOk, h1], rfl⟩⟩
  · refine ⟨4, _, rfl, ⟨fun _ _ => by simp [go_sem]⟩, fun ls vl vk w hd hl h0 => (recursor_any ds n self scope vd 10 num a ls vl vk w hd hl h0).mono ?_⟩
    rintro e w' ⟨hx, ⟨h1, rfl⟩ | ⟨h1, rfl⟩⟩
    · exact ⟨hx, .inl ⟨by simp [AskOk, h1], rfl⟩⟩
    · exact ⟨hx, .inr ⟨by simp [AskOk, h1], rfl⟩⟩
  · refine ⟨5, _, rfl, ⟨fun _ _ => by simp [go_sem]⟩, fun ls vl vk w hd hl h0 => (own_any n self scope vd 11 num a vl vk w).mono ?_⟩
    rintro e w' ⟨rfl, hx⟩
    refine ⟨hx, ?_⟩
    cases hb : decide (a < self)
    · simp at hb
      exact .inr ⟨by unfold AskOk; omega, rfl⟩
    · simp at hb
      exact .inl ⟨by simp [AskOk, hb], rfl⟩
end Go.Proofs.YtjaklnabidbmiaaDoor

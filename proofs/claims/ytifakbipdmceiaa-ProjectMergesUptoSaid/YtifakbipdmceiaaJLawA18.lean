import Derived.Test.YtifakbipdmceiaaJLawA12
import Derived.DeepKeys4
import Derived.Maps.Keyed
import Derived.Maps.RangeWalk
set_option linter.unusedVariables false
namespace Go.Proofs.Ytifakbipdmceiaa
open Go.RowKit Go.Maps Go.WideMaps

/-! ### a map from a process's n-th invocation to where it is invoked and answered -/
theorem rowC : (111 : TypeId) < Try.prog.types.size := of_decide_eq_true (by kernel_rfl)
theorem wideC : (match Try.prog.underlying 111 with | some (.array _ _) | some (.struct _) => true | _ => false) = true := by kernel_rfl
theorem laidOutC : laidOutB Try.prog = true := by kernel_rfl
set_option maxRecDepth 100000 in
theorem lawC : Keyed Try.prog 111 := Keyed.of_law (deep_law_laid laidOutC (m := 2) (by omega) rowC (by kernel_rfl) wideC)
theorem cellsC : Try.prog.cellsOf 111 = 2 := by kernel_rfl
theorem typeC : Try.prog.keyType 111 = true := by kernel_rfl
theorem sizeC : ∃ m, Try.prog.types.size = m + 1 := ⟨Try.prog.types.size - 1, by have h : (111 : Nat) < Try.prog.types.size := rowC; omega⟩
def ck (s : ByteArray) (n : Int) : Lit := .string (keyBytes [.string s.data.toList, .int .i64 n])
/-- What can be a key. -/
def vC (s : ByteArray) (n : Int) : Prop := s.size ≤ maxLen ∧ (Lit.int .i64 n).wf = true
theorem cellsS1 : Try.prog.cellsOf 9 = 1 := by kernel_rfl
theorem cellsI1 : Try.prog.cellsOf 3 = 1 := by kernel_rfl
theorem litsC (s : ByteArray) (n : Int) (h : vC s n) : Try.prog.keyLits (Try.prog.types.size + 1) 111 [.string s, .int .i64 n] = some [.string s.data.toList, .int .i64 n] := by
  obtain ⟨m, hm⟩ := sizeC
  obtain ⟨hs', hw⟩ := h
  rw [hm]
  simp [Program.keyLits, Try.underlying111, cellsC, Try.underlying9, Try.underlying3, hs', hw, cellsS1, cellsI1]
set_option maxRecDepth 100000 in
theorem keyC (s : ByteArray) (n : Int) (h : vC s n) : keyOf Try.prog 111 (.agg #[.string s, .int .i64 n]) = some (ck s n) := by
  have hf : (Value.agg #[.string s, .int .i64 n]).formed Try.prog 111 = true := by simp [Value.formed, Try.underlying111, cellsC]
  have hc : (Value.agg #[.string s, .int .i64 n]).cells.toList = [.string s, .int .i64 n] := by simp [Value.cells]
  have := litsC s n h
  simp only [keyOf, Try.underlying111, typeC, hf, hc, this]
  rfl
set_option maxRecDepth 100000 in
theorem keyLits_inv (m : Nat) (c0 c1 : Value) (ls : List Lit) (hl : Try.prog.keyLits (m + 1 + 1) 111 [c0, c1] = some ls) : ∃ s n, c0 = .string s ∧ c1 = .int .i64 n ∧ s.size ≤ maxLen ∧ (Lit.int .i64 n).wf = true := by
  cases c0
  case string s =>
    by_cases hs : s.size ≤ maxLen
    · cases c1
      case int q n =>
        by_cases hq : q = .i64 ∧ (Lit.int .i64 n).wf = true
        · obtain ⟨rfl, hw⟩ := hq
          exact ⟨s, n, rfl, rfl, hs, hw⟩
        · exfalso
          simp [Program.keyLits, Try.underlying111, Try.underlying9, Try.underlying3, cellsC, cellsS1, cellsI1, hs, hq] at hl
      all_goals
        exfalso
        simp [Program.keyLits, Try.underlying111, Try.underlying9, Try.underlying3, cellsC, cellsS1, cellsI1, hs] at hl
    · exfalso
      simp [Program.keyLits, Try.underlying111, Try.underlying9, Try.underlying3, cellsC, cellsS1, cellsI1, hs] at hl
  all_goals
    exfalso
    simp [Program.keyLits, Try.underlying111, Try.underlying9, Try.underlying3, cellsC, cellsS1, cellsI1] at hl
set_option maxRecDepth 100000 in
theorem keyC_inv (key : Value) (kl : Lit) (h : keyOf Try.prog 111 key = some kl) : ∃ x : ByteArray × Int, key = .agg #[.string x.1, .int .i64 x.2] ∧ vC x.1 x.2 ∧ kl = ck x.1 x.2 := by
  have h' := h
  simp only [keyOf, Try.underlying111, typeC, Bool.true_and] at h
  split at h
  · rename_i hf
    obtain ⟨cs, rfl, hsz⟩ : ∃ cs, key = .agg cs ∧ cs.size = 2 := by
      cases key <;> simp [Value.formed, Try.underlying111, cellsC] at hf
      exact ⟨_, rfl, hf⟩
    obtain ⟨l⟩ := cs
    match l, hsz with
    | [c0, c1], _ =>
      obtain ⟨ls, hl, _⟩ := Option.map_eq_some_iff.1 h
      simp only [Value.cells] at hl
      obtain ⟨m, hm⟩ := sizeC
      rw [hm] at hl
      obtain ⟨s, n, rfl, rfl, hs, hn⟩ := keyLits_inv m c0 c1 ls hl
      have hv : vC s n := ⟨hs, hn⟩
      rw [keyC s n hv] at h'
      exact ⟨(s, n), rfl, hv, by cases h'; rfl⟩
  · cases h
theorem ck_inj {s s' : ByteArray} {n n' : Int} (h : vC s n) (h' : vC s' n') (e : ck s n = ck s' n') : s = s' ∧ n = n' := by
  have h1 := lawC.inj (keyC s n h) (by rw [keyC s' n' h', e])
  simpa using h1
theorem ck_key (s : ByteArray) (n : Int) : WideAt.IsKeyLit (ck s n) := by trivial
def spanD (p : Int × Int) : DataW Unit := .agg [.lit (.int .i64 p.1), .lit (.int .i64 p.2)]
def Rs : Value → Option (DataW Unit × List MemPlace)
  | .agg cs => match cs.toList with
    | [.int k a, .int k' b] => if k = .i64 ∧ k' = .i64 then some (spanD (a, b), []) else none
    | _ => none
  | _ => none
theorem Rs_mk (a b : Int) : Rs (.agg #[.int .i64 a, .int .i64 b]) = some (spanD (a, b), []) := by simp [Rs]
theorem Rs_inv (v : Value) (y : DataW Unit × List MemPlace) (h : Rs v = some y) : ∃ x : Int × Int, v = .agg #[.int .i64 x.1, .int .i64 x.2] ∧ y = (spanD x, []) := by
  cases v with
  | agg cs =>
    obtain ⟨l⟩ := cs
    simp only [Rs] at h
    split at h
    · rename_i k a k' b
      split at h
      · rename_i hk
        obtain ⟨rfl, rfl⟩ := hk
        cases h
        exact ⟨(a, b), rfl, rfl⟩
      · cases h
    · cases h
  | _ => cases h
theorem spanD_inj {p q : Int × Int} (h : spanD p = spanD q) : p = q := by
  unfold spanD at h; injection h with h; injection h with h1 h2; injection h2 with h3 h4; injection h1 with h1; injection h1 with _ h1; injection h3 with h3; injection h3 with _ h3
  exact Prod.ext h1 h3
structure SaysC (D : DataW Unit) (f : ByteArray → Int → Option (Int × Int)) : Prop where
  map : IsMap D
  has : ∀ s n, vC s n → has D (ck s n) = (f s n).isSome
  at_ : ∀ s n, vC s n → ∀ zd, D.atKey (ck s n) zd = ((f s n).map spanD).getD zd
theorem SaysC.empty : SaysC (.map []) (fun _ _ => none) := ⟨isMap_empty, fun s n _ => rfl, fun s n _ z => rfl⟩
theorem SaysC.put {D : DataW Unit} {f : ByteArray → Int → Option (Int × Int)} (h : SaysC D f) (s : ByteArray) (n : Int) (hv : vC s n) (x : Int × Int) {f' : ByteArray → Int → Option (Int × Int)} (hf : ∀ t m, f' t m = if t = s ∧ m = n then some x else f t m) : SaysC (D.put (ck s n) (spanD x)) f' := by
  refine ⟨h.map.put _ _, fun t m hm => ?_, fun t m hm z => ?_⟩
  · rw [hf t m]
    by_cases e : t = s ∧ m = n
    · obtain ⟨rfl, rfl⟩ := e; rw [has_put_same h.map (ck_key _ _)]; simp
    · rw [has_put_other (fun h2 => e (ck_inj hm hv h2)), h.has t m hm, if_neg e]
  · rw [hf t m]
    by_cases e : t = s ∧ m = n
    · obtain ⟨rfl, rfl⟩ := e; rw [atKey_put_same h.map (ck_key _ _)]; simp
    · rw [atKey_put_other (fun h2 => e (ck_inj hm hv h2)), h.at_ t m hm z, if_neg e]
theorem SaysC.congr {D : DataW Unit} {f f' : ByteArray → Int → Option (Int × Int)} (h : SaysC D f) (hf : ∀ t m, f' t m = f t m) : SaysC D f' := by
  rw [show f' = f from funext fun t => funext fun m => hf t m]; exact h
abbrev mapC (w : World) (b n : Nat) (D : DataW Unit) : Prop := w.ownsMap Try.prog 111 Rs b n D
theorem mapC_below {w w1 : World} {b n M : Nat} {D : DataW Unit} (h : mapC w b n D) (hb : Below M w w1) (hM : b < M) : mapC w1 b n D := by
  obtain ⟨es, clock, h1, h2⟩ := h
  exact ⟨es, clock, (hb.block b hM).trans h1, h2⟩
theorem zeroC (w : World) : (zeroValue 113).run Try.prog w = .ok (.agg #[.int .i64 0, .int .i64 0]) w := by kernel_rfl
/-- What stands there. -/
theorem mapC_look {w : World} {b k : Nat} {D : DataW Unit} {f : ByteArray → Int → Option (Int × Int)} (h : mapC w b k D) (hS : SaysC D f) (s : ByteArray) (n : Int) (hv : vC s n) :
    (Instr.lookup 108 (.map (some b)) (.agg #[.string s, .int .i64 n]) false).run Try.prog w = .ok (.agg #[.int .i64 ((f s n).getD (0, 0)).1, .int .i64 ((f s n).getD (0, 0)).2]) w := by
  obtain ⟨v, ps, hrun, hR⟩ := h.lookup lawC Try.underlying108 (zeroC w) (Rs_mk 0 0) (keyC s n hv)
  obtain ⟨x, rfl, hx⟩ := Rs_inv _ _ hR
  have e1 := (Prod.ext_iff.1 hx).1
  simp only at e1
  rw [hS.at_ s n hv] at e1
  have e2 : x = (f s n).getD (0, 0) := by
    cases hf : f s n with
    | none => rw [hf] at e1; exact (spanD_inj e1).symm
    | some p => rw [hf] at e1; exact (spanD_inj e1).symm
  rw [← e2]
  exact hrun
end Go.Proofs.Ytifakbipdmceiaa

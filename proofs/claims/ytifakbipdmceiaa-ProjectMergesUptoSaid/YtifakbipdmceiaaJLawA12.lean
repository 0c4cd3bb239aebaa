import Derived.Test.YtifakbipdmceiaaJLawA9
import Derived.Maps.Own
import Derived.Maps.OwnOps
import Derived.Maps.OwnSet
import Derived.Maps.Views
import Derived.Maps.Ext
import Derived.StringKeys
section
set_option linter.unusedVariables false
namespace Go.Proofs.Ytifakbipdmceiaa
open Go.RowKit Go.Maps Go.WideMaps

/-! ### a map from names to places -/
theorem lawS : Keyed Try.prog 9 := string_keyed Try.underlying9
theorem zeroI (w : World) : (zeroValue 3).run Try.prog w = .ok (.int .i64 0) w := by kernel_rfl
def keyL (s : ByteArray) : Lit := .string s.data.toList
theorem keyL_ok {s : ByteArray} (h : s.size ≤ 140737488355328) : keyOf Try.prog 9 (.string s) = some (keyL s) := keyOf_string_mk Try.underlying9 (by unfold maxLen; omega)
theorem keyL_key (s : ByteArray) : WideAt.IsKeyLit (keyL s) := by trivial
theorem keyL_inj {s t : ByteArray} (h : keyL s = keyL t) : s = t := by
  unfold keyL at h; injection h with h; cases s; cases t; congr; exact Array.ext' h
abbrev mapI (w : World) (b n : Nat) (D : DataW Unit) : Prop := w.ownsMap Try.prog 9 (plainElem Try.prog 3) b n D
theorem mapI_below {w w1 : World} {b n M : Nat} {D : DataW Unit} (h : mapI w b n D) (hb : Below M w w1) (hM : b < M) : mapI w1 b n D := by
  obtain ⟨es, clock, h1, h2⟩ := h
  exact ⟨es, clock, (hb.block b hM).trans h1, h2⟩
/-- The map holds just what f says. -/
structure Says (D : DataW Unit) (f : ByteArray → Option Int) : Prop where
  map : IsMap D
  has : ∀ s, has D (keyL s) = (f s).isSome
  at_ : ∀ s z, D.atKey (keyL s) (.lit (.int .i64 z)) = .lit (.int .i64 ((f s).getD z))
theorem Says.empty : Says (.map []) (fun _ => none) := ⟨isMap_empty, fun s => rfl, fun s z => rfl⟩
theorem Says.put {D : DataW Unit} {f : ByteArray → Option Int} (h : Says D f) (s : ByteArray) (x : Int) {f' : ByteArray → Option Int} (hf : ∀ t, f' t = if t = s then some x else f t) : Says (D.put (keyL s) (.lit (.int .i64 x))) f' := by
  refine ⟨h.map.put _ _, fun t => ?_, fun t z => ?_⟩
  · rw [hf t]
    by_cases e : t = s
    · subst e; rw [has_put_same h.map (keyL_key _)]; simp
    · rw [has_put_other (fun h2 => e (keyL_inj h2)), h.has t, if_neg e]
  · rw [hf t]
    by_cases e : t = s
    · subst e; rw [atKey_put_same h.map (keyL_key _)]; simp
    · rw [atKey_put_other (fun h2 => e (keyL_inj h2)), h.at_ t z, if_neg e]
theorem Says.del {D : DataW Unit} {f : ByteArray → Option Int} (h : Says D f) (s : ByteArray) {f' : ByteArray → Option Int} (hf : ∀ t, f' t = if t = s then none else f t) : Says (D.del (keyL s)) f' := by
  refine ⟨h.map.del _, fun t => ?_, fun t z => ?_⟩
  · rw [hf t]
    by_cases e : t = s
    · subst e; rw [has_del_same]; simp
    · rw [has_del_other (fun h2 => e (keyL_inj h2)), h.has t, if_neg e]
  · rw [hf t]
    by_cases e : t = s
    · subst e; rw [atKey_del_same]; simp
    · rw [atKey_del_other (fun h2 => e (keyL_inj h2)), h.at_ t z, if_neg e]
theorem Says.congr {D : DataW Unit} {f f' : ByteArray → Option Int} (h : Says D f) (hf : ∀ t, f' t = f t) : Says D f' := by
  rw [show f' = f from funext hf]; exact h

/-- behind an operation that turned one block alone -/
theorem gcell {W w1 : World} {B : Nat} (hg : W.grownBy w1 (some B)) : (∀ b o, b ≠ B → b < W.heap.size → w1.cell? ⟨b, o, none⟩ = W.cell? ⟨b, o, none⟩) ∧ (∀ b o, b ≠ B → b < W.heap.size → w1.frozen? ⟨b, o, none⟩ = W.frozen? ⟨b, o, none⟩) ∧ W.heap.size ≤ w1.heap.size :=
  ⟨fun b o h h2 => hg.cell_far ⟨b, o, none⟩ h2 fun e => h (by simpa using e), fun b o h h2 => hg.frozen_far ⟨b, o, none⟩ h2 fun e => h (by simpa using e), hg.size⟩
theorem gbox {W w1 : World} {B g : Nat} {x : Obj} (hg : W.grownBy w1 (some B)) (h : W.heap[g]? = some x) (hne : g ≠ B) : w1.heap[g]? = some x := by
  rw [← h]; exact hg.block g (box_lt h) fun e => hne (by simpa using e)

/-! ### a row of integers in a block of its own -/
def ints (xs : List Int) : Array Value := (xs.map fun x => Value.int .i64 x).toArray
theorem ints_set (xs : List Int) (i : Nat) (x : Int) : (ints xs).setIfInBounds i (.int .i64 x) = ints (xs.set i x) := by simp [ints, List.map_set]
theorem ints_at (xs : List Int) (i : Nat) (h : i < xs.length) : (ints xs)[i]? = some (.int .i64 xs[i]) := by simp [ints, h]
theorem box_int {w : World} {g : Nat} {xs : List Int} {t : TypeId} (h : w.heap[g]? = some (.cells (ints xs) t (0, 0))) (i : Nat) (hi : i < xs.length) : w.cell? ⟨g, i, none⟩ = some (.int .i64 xs[i]) := (box_cells h i).trans (ints_at xs i hi)
theorem ints_made (n : Nat) : madeCells (Value.int .i64 0).cells (n * 1) = ints (List.replicate n 0) := by
  apply Array.ext'; rw [show (Value.int .i64 0).cells = #[.int .i64 0] from rfl, toList_madeCells_one]; simp [ints]
theorem infoI : (Try.prog.info? 3).map (fun i => (i.zero, i.size, i.bytes)) = some (some (.int .i64 0), 1, 8) := by kernel_rfl
theorem run_make_ints (n : Nat) (hn : n * 8 ≤ 140737488355328) (w : World) : (Instr.makeSlice 82 (.int .i64 n) (.int .i64 n)).run Try.prog w =
    .ok (.slice (some ⟨w.heap.size, 0, none⟩) n n) (w.alloc (.cells (ints (List.replicate n 0)) 3 (0, 0))) := by
  obtain ⟨i, hi, hz0, hz1, hz2⟩ := info_parts infoI
  have h := run_make (P := Try.prog) w 82 3 i (.int .i64 0) Try.underlying82 hi hz0 .i64 .i64 n n (by omega) (by omega) (by rw [hz2]; omega) (by omega)
  rw [hz1] at h
  simp only [Int.toNat_natCast, ints_made] at h
  exact h
end Go.Proofs.Ytifakbipdmceiaa
end
section
set_option linter.unusedVariables false
set_option linter.unusedSimpArgs false
namespace Go.Proofs.Ytifakbipdmceiaa
open Go.RowKit Go.Maps Go.WideMaps

/-- The call that a process has open behind the first k events. -/
def opn (l : List Ev) (s : ByteArray) : Nat → Option Int
  | 0 => none
  | k + 1 => match l[k]? with
    | none => opn l s k
    | some e => if s = e.p then (if e.k = 1 then some (k : Int) else if e.k = 2 then none else opn l s k) else opn l s k
/-- What stands in the row behind k rounds. -/
def toF (l : List Ev) : Nat → List Int
  | 0 => List.replicate l.length 0
  | k + 1 => match l[k]? with
    | none => toF l k
    | some e => if e.k = 2 then (match opn l e.p k with | some i => (((toF l k).set k (-1)).set k i).set i.toNat k | none => (toF l k).set k (-1)) else (toF l k).set k (-1)
def callsP (l : List Ev) : List Int := toF l l.length
theorem toF_len (l : List Ev) : ∀ k, (toF l k).length = l.length
  | 0 => by simp [toF]
  | k + 1 => by
    have := toF_len l k
    rw [toF]
    split
    · exact this
    · split
      · split <;> simp [this]
      · simp [this]
theorem opn_lt (l : List Ev) (s : ByteArray) : ∀ (k : Nat) (i : Int), opn l s k = some i → 0 ≤ i ∧ i < k
  | 0, i, h => by cases h
  | k + 1, i, h => by
    have ih := opn_lt l s k i
    rw [opn] at h
    split at h
    · have := ih h; omega
    · split at h
      · split at h
        · cases h; omega
        · split at h
          · cases h
          · have := ih h; omega
      · have := ih h; omega

set_option maxHeartbeats 1000000 in
set_option maxRecDepth 100000 in
theorem calls_any (l : List Ev) (A : Option Addr) (c B0 N0 : Nat) (w : World) (hr0 : Row eEl B0 N0 w A l) (hN : N0 ≤ w.heap.size) (hc : l.length ≤ c) :
    Calls Try.prog 64 #[.slice A l.length c] w fun e w' => ∃ g, e = .returned (.slice (some ⟨g, 0, none⟩) l.length l.length) ∧ w.heap.size ≤ g ∧ w'.heap[g]? = some (.cells (ints (callsP l)) 3 (0, 0)) ∧ Below w.heap.size w w' := by
  have hlen := hr0.lenE
  have hr := Q.mk hr0
  clear hr0
  have hmm := @run_makeMap Try.prog
  have hmk := run_make_ints l.length (by omega)
  go_enter Try.func64, Try.ntmps64
  go_wp2_with fail
  clear hmm hmk
  go_loopw [15] (fun i wr => ∃ j : Nat, j ≤ l.length ∧ i = .int .i64 j ∧ Q (∃ D, Says D (fun s => opn l s j) ∧ mapI wr w.heap.size j D) ∧ Q (wr.heap[w.heap.size + 1]? = some (.cells (ints (toF l j)) 3 (0, 0))) ∧ Below w.heap.size w wr)
    (fun i _ => l.length - (intOf i).toNat)
  case atStart =>
    exact ⟨0, Nat.zero_le _, rfl, ⟨_, Says.empty, (World.ownsMap_made _ _ _ _).alloc _⟩, ⟨by have := heap_alloc2_new w (.map #[] 0) (.cells (ints (List.replicate l.length 0)) 3 (0, 0)); exact this⟩, ((Below.refl _ _).alloc (Nat.le_refl _) _).alloc (by simp) _⟩
  case round =>
    obtain ⟨j, hj, rfl, hM, hT, hB⟩ := hrel
    have hz := box_lt hT.out
    by_cases hlt : j < l.length
    · obtain ⟨b, o, e, Ae, ce, rfl, hbN, he, hEOk, x0, x1, x2, x3, x4, x5, x6, x7, x8, x9, x10, x11⟩ := (hr.out.below hB hN).atE j hlt
      have hTl : (toF l j).length = l.length := toF_len l j
      have c0 := box_int hT.out j (by omega)
      obtain ⟨z0, hz0⟩ : ∃ z, z = (toF l j)[j]'(by omega) := ⟨_, rfl⟩
      rw [← hz0] at c0
      clear hz0
      have f0 := box_free hT.out j
      have l1 : w.heap.size + 1 < wr.heap.size := hz
      have l2 : b < wr.heap.size := by omega
      have n1 : wr.heap.size ≠ w.heap.size + 1 := by omega
      have he1 : l[j]? = some e := by simp [hlt, he]
      replace he := Q.mk he
      obtain ⟨D, h1, h2⟩ := hM.out
      replace h1 := Q.mk h1
      replace h2 := Q.mk h2
      clear hM
      by_cases k1 : e.k = 1
      · have t1 : (e.k == 1) = true := by simp [k1]
        have HS : Q (∀ t, opn l t (j + 1) = if t = e.p then some (j : Int) else opn l t j) := ⟨fun t => by simp only [opn, he1, k1]; simp⟩
        have HT : toF l (j + 1) = (toF l j).set j (-1) := by rw [toF]; simp [he1, k1]
        replace HT := Q.mk HT
        replace he1 := Q.mk he1
        clear k1
        go_wp2_with (at_mapUpdate; refine wpList_mapUpdate_own _ rfl _ _ _ 103 rfl 9 3 lawS Try.underlying103 _ w.heap.size j D rfl ((h2.out.setCell (by simp) _).alloc _) (by unfold maxLen; omega) _ _ _ rfl rfl (keyL_ok hEOk.p) _ [] (plainElem_int Try.underlying3 (WalkArith.wf_i64 (by omega))) ?_; intro w1 hown1 hgrow1)
        have R1 : Q (∃ D, Says D (fun s => opn l s (j + 1)) ∧ mapI w1 w.heap.size (j + 1) D) := ⟨_, h1.out.put e.p j HS.out, hown1⟩
        have R2 : w1.heap[w.heap.size + 1]? = some (.cells (ints (toF l (j + 1))) 3 (0, 0)) := by rw [HT.out, ← ints_set]; exact gbox hgrow1 (box_alloc (box_set hT.out j _) _) (by omega)
        have R3 : Below w.heap.size w w1 := ((hB.setCell (by simp) _).alloc (by rw [size_set]; omega) _).grown hgrow1 (by simp [size_set]; omega) (fun g e => by cases e; exact Nat.le_refl _)
        clear hown1 hgrow1
        go_wp2
        go_roundw
        case rel => exact ⟨j + 1, by omega, by go_num, R1, ⟨R2⟩, R3⟩
        case measure => simp [intOf]; omega
      · by_cases k2 : e.k = 2
        · have t1 : (e.k == 1) = false := by simp [k1]
          have t2 : (e.k == 2) = true := by simp [k2]
          cases ho : opn l e.p j with
          | none =>
            have hh : Maps.has D (keyL e.p) = false := by rw [h1.out.has, ho]; rfl
            have HS : Q (Says D (fun t => opn l t (j + 1))) := ⟨h1.out.congr fun t => by
              simp only [opn, he1, k1, k2]
              by_cases et : t = e.p
              · subst et; simp [ho]
              · simp [et]⟩
            have HT : toF l (j + 1) = (toF l j).set j (-1) := by rw [toF]; simp [he1, k2, ho]
            replace HT := Q.mk HT
            replace he1 := Q.mk he1
            replace ho := Q.mk ho
            clear k1 k2
            go_wp2_with (at_lookup; refine wpList_lookup_own_ok_int _ rfl _ _ 103 rfl 9 3 .i64 lawS Try.underlying103 Try.underlying3 (zeroI _) w.heap.size j D rfl ((h2.out.setCell (by simp) _).alloc _) _ _ rfl (keyL_ok hEOk.p) ?_; intro ci hat hwc; replace hat := Q.mk hat; replace hwc := Q.mk hwc; rw [hh])
            go_roundw
            case rel => exact ⟨j + 1, by omega, by go_num, ⟨D, HS.out, ((h2.out.setCell (by simp) _).alloc _).mono (Nat.le_succ _)⟩, ⟨by rw [HT.out, ← ints_set]; exact box_alloc (box_set hT.out j _) _⟩, (hB.setCell (by simp) _).alloc (by rw [size_set]; omega) _⟩
            case measure => simp [intOf]; omega
          | some i =>
            have hi := opn_lt l e.p j i ho
            obtain ⟨q, rfl⟩ : ∃ q : Nat, i = q := ⟨i.toNat, by omega⟩
            have hq : q < j := by omega
            have hh : Maps.has D (keyL e.p) = true := by rw [h1.out.has, ho]; rfl
            have hv : Q (D.atKey (keyL e.p) (.lit (.int .i64 0)) = .lit (.int .i64 q)) := ⟨by rw [h1.out.at_, ho]; rfl⟩
            have HS : Q (∀ t, opn l t (j + 1) = if t = e.p then none else opn l t j) := ⟨fun t => by simp only [opn, he1, k1, k2]; simp⟩
            have HT : toF l (j + 1) = (((toF l j).set j (-1)).set j q).set q j := by rw [toF]; simp [he1, k2, ho]
            have c1 := box_int hT.out q (by omega)
            obtain ⟨z1, hz1⟩ : ∃ z, z = (toF l j)[q]'(by omega) := ⟨_, rfl⟩
            rw [← hz1] at c1
            clear hz1
            have f1 := box_free hT.out q
            have n2 : q ≠ j := by omega
            have n3 : q < l.length := by omega
            replace HT := Q.mk HT
            replace he1 := Q.mk he1
            replace ho := Q.mk ho
            clear k1 k2 hi
            go_wp2_with (first
              | (at_lookup; refine wpList_lookup_own_ok_int _ rfl _ _ 103 rfl 9 3 .i64 lawS Try.underlying103 Try.underlying3 (zeroI _) w.heap.size j D rfl ((h2.out.setCell (by simp) _).alloc _) _ _ rfl (keyL_ok hEOk.p) ?_; intro ci hat hwc; rw [hv.out] at hat; obtain rfl : (q : Int) = ci := (by simpa using hat); clear hat hwc; rw [hh])
              | (at_delete; refine wpList_delete_own _ rfl _ _ 103 9 rfl 3 lawS Try.underlying103 _ w.heap.size j D rfl ((((h2.out.setCell (by simp) _).setCell (by simp) _).setCell (by simp) _).alloc _) _ _ rfl (keyL_ok hEOk.p) ?_; intro w1 hown1 hturn1))
            have hgrow1 := hturn1.grown
            go_roundw
            case rel => exact ⟨j + 1, by omega, by go_num, ⟨_, h1.out.del e.p HS.out, hown1.mono (Nat.le_succ _)⟩, ⟨by rw [HT.out, ← ints_set, ← ints_set, ← ints_set]; exact gbox hgrow1 (box_alloc (box_set (box_set (box_set hT.out j _) j _) q _) _) (by omega)⟩,
              ((((hB.setCell (by simp) _).setCell (by simp) _).setCell (by simp) _).alloc (by simp only [size_set]; omega) _).grown hgrow1 (by simp [size_set]; omega) (fun g e => by cases e; exact Nat.le_refl _)⟩
            case measure => simp [intOf]; omega
        · have t1 : (e.k == 1) = false := by simp [k1]
          have t2 : (e.k == 2) = false := by simp [k2]
          have HS : Q (Says D (fun s => opn l s (j + 1))) := ⟨h1.out.congr fun t => by simp only [opn, he1, k1, k2]; simp⟩
          have HT : toF l (j + 1) = (toF l j).set j (-1) := by rw [toF]; simp [he1, k2]
          replace HT := Q.mk HT
          replace he1 := Q.mk he1
          clear k1 k2
          go_wp2
          go_roundw
          case rel => exact ⟨j + 1, by omega, by go_num, ⟨D, HS.out, ((h2.out.setCell (by simp) _).alloc _).mono (Nat.le_succ _)⟩, ⟨by rw [HT.out, ← ints_set]; exact box_alloc (box_set hT.out j _) _⟩, (hB.setCell (by simp) _).alloc (by rw [size_set]; omega) _⟩
          case measure => simp [intOf]; omega
    · go_wp2
      go_ret
      obtain rfl : j = l.length := by omega
      exact ⟨_, rfl, Nat.le_succ _, hT.out, hB⟩
end Go.Proofs.Ytifakbipdmceiaa
end

import Derived.Test.YtifakbipdmceiaaJLawA18
import Derived.Test.YtifakbipdmceiaaJLawA17
import Derived.Test.YtifakbipdmceiaaWLast
set_option linter.unusedVariables false
set_option linter.unusedSimpArgs false
namespace Go.Proofs.Ytifakbipdmceiaa
open Go.RowKit Go.Maps Go.WideMaps Go.Proofs.YtifakbipdmceiaaW.PrintLast

/-- How many invocations a process has among the first k events. -/
def nInv (l : List Ev) (s : ByteArray) : Nat → Nat
  | 0 => 0
  | k + 1 => match l[k]? with
    | none => nInv l s k
    | some e => if e.k = 1 ∧ e.p = s then nInv l s k + 1 else nInv l s k
def cntF (l : List Ev) (k : Nat) (s : ByteArray) : Option Int := if nInv l s k = 0 then none else some (nInv l s k)
/-- Where a process's n-th invocation stands, and its response. -/
def spanF (l : List Ev) : Nat → ByteArray → Int → Option (Int × Int)
  | 0, _, _ => none
  | k + 1, s, n => match l[k]? with
    | none => spanF l k s n
    | some e => if e.k = 1 ∧ s = e.p ∧ n = (nInv l e.p k : Int) then some ((k : Int), (callsP l).getD k 0) else spanF l k s n
theorem nInv_le (l : List Ev) (s : ByteArray) : ∀ k, nInv l s k ≤ k
  | 0 => Nat.le_refl _
  | k + 1 => by
    have := nInv_le l s k
    rw [nInv]
    split
    · omega
    · split <;> omega
def spansP (l : List Ev) : ByteArray → Int → Option (Int × Int) := spanF l l.length
theorem cntF_step (l : List Ev) (k : Nat) (e : Ev) (he : l[k]? = some e) (h1 : e.k = 1) (t : ByteArray) : cntF l (k + 1) t = if t = e.p then some ((nInv l e.p k : Int) + 1) else cntF l k t := by
  unfold cntF
  by_cases ht : t = e.p
  · subst ht; simp [nInv, he, h1]
  · have h2 : ¬ e.p = t := fun h => ht h.symm
    simp [nInv, he, ht, h2]
theorem cntF_same (l : List Ev) (k : Nat) (e : Ev) (he : l[k]? = some e) (h1 : ¬ e.k = 1) (t : ByteArray) : cntF l (k + 1) t = cntF l k t := by
  unfold cntF; simp [nInv, he, h1]
theorem spanF_step (l : List Ev) (k : Nat) (e : Ev) (he : l[k]? = some e) (h1 : e.k = 1) (t : ByteArray) (m : Int) : spanF l (k + 1) t m = if t = e.p ∧ m = (nInv l e.p k : Int) then some ((k : Int), (callsP l).getD k 0) else spanF l k t m := by
  simp [spanF, he, h1]
theorem spanF_same (l : List Ev) (k : Nat) (e : Ev) (he : l[k]? = some e) (h1 : ¬ e.k = 1) (t : ByteArray) (m : Int) : spanF l (k + 1) t m = spanF l k t m := by
  simp [spanF, he, h1]

set_option maxHeartbeats 2000000 in
set_option maxRecDepth 100000 in
theorem spans_any (l : List Ev) (A : Option Addr) (c B0 N0 : Nat) (w : World) (hr0 : Row eEl B0 N0 w A l) (hN : N0 ≤ w.heap.size) (hc : l.length ≤ c) :
    Calls Try.prog 84 #[.slice A l.length c] w fun e w' => ∃ b D n, e = .returned (.map (some b)) ∧ w.heap.size ≤ b ∧ mapC w' b n D ∧ SaysC D (spansP l) ∧ Below w.heap.size w w' := by
  have hlen := hr0.lenE
  have hr := Q.mk hr0
  have HC : Q (Calls Try.prog 64 #[.slice A l.length c] w _) := ⟨calls_any l A c B0 N0 w hr0 hN hc⟩
  clear hr0
  have hmm := @run_makeMap Try.prog
  go_enter Try.func84, Try.ntmps84
  go_wp2_with (go_at_call 64; refine HC.out.mono ?_; rintro e w0 ⟨g, rfl, hg, hcl, hb⟩; replace hcl := Q.mk hcl)
  clear hmm HC
  have hz0 := hb.size
  have hgl := box_lt hcl.out
  go_loopw [14] (fun i wr => ∃ j : Nat, j ≤ l.length ∧ i = .int .i64 j ∧ Q (∃ D, Says D (cntF l j) ∧ mapI wr w0.heap.size j D) ∧ Q (∃ D, SaysC D (spanF l j) ∧ mapC wr (w0.heap.size + 1) j D) ∧ Below w0.heap.size w0 wr)
    (fun i _ => l.length - (intOf i).toNat)
  case atStart =>
    exact ⟨0, Nat.zero_le _, rfl, ⟨_, Says.empty, (World.ownsMap_made _ _ _ _).alloc _⟩, ⟨_, SaysC.empty, by have := World.ownsMap_made (w0.alloc (.map #[] 0)) Try.prog 111 Rs; simpa using this⟩, ((Below.refl _ _).alloc (Nat.le_refl _) _).alloc (by simp) _⟩
  case round =>
    obtain ⟨j, hj, rfl, hM, hS, hB⟩ := hrel
    have hz := hB.size
    by_cases hlt : j < l.length
    · obtain ⟨b, o, e, Ae, ce, rfl, hbN, he, hEOk, x0, x1, x2, x3, x4, x5, x6, x7, x8, x9, x10, x11⟩ := (hr.out.below (hb.trans (hB.mono hz0)) hN).atE j hlt
      have he1 : l[j]? = some e := by simp [hlt, he]
      have hp := hEOk.p
      obtain ⟨D, h1, h2⟩ := hM.out
      obtain ⟨E, h3, h4⟩ := hS.out
      have hl0 := h2.lt
      have hl1 := h4.lt
      replace h1 := Q.mk h1
      replace h2 := Q.mk h2
      replace h3 := Q.mk h3
      replace h4 := Q.mk h4
      clear hM hS hEOk he
      have l1 : b < wr.heap.size := by omega
      by_cases k1 : e.k = 1
      · have t1 : (e.k == 1) = true := by simp [k1]
        have HS1 : Q (∀ t, cntF l (j + 1) t = if t = e.p then some ((nInv l e.p j : Int) + 1) else cntF l j t) := ⟨cntF_step l j e he1 k1⟩
        have HS2 : Q (∀ t m, spanF l (j + 1) t m = if t = e.p ∧ m = (nInv l e.p j : Int) then some ((j : Int), (callsP l).getD j 0) else spanF l j t m) := ⟨spanF_step l j e he1 k1⟩
        have hni := nInv_le l e.p j
        have hv : Q (vC e.p (nInv l e.p j : Int)) := ⟨by unfold maxLen; omega, WalkArith.wf_i64 (by omega)⟩
        have hcnt : Q ((cntF l j e.p).getD 0 = (nInv l e.p j : Int)) := ⟨by unfold cntF; split <;> simp_all⟩
        obtain ⟨ni, hni'⟩ : ∃ ni, ni = nInv l e.p j := ⟨_, rfl⟩
        rw [← hni'] at HS1 HS2 hv hcnt hni
        have hcj : j < (callsP l).length := by rw [callsP_len]; exact hlt
        have d0 := box_int (hB.box hcl.out hgl) j hcj
        have hd0 : (callsP l)[j] = (callsP l).getD j 0 := by simp [hcj]
        rw [hd0] at d0
        obtain ⟨tj, htj⟩ : ∃ tj, tj = (callsP l).getD j 0 := ⟨_, rfl⟩
        rw [← htj] at d0 HS2
        clear hd0 hcj htj hni'
        replace he1 := Q.mk he1
        clear k1
        go_wp2
        obtain ⟨W1, hW1, bE, bB, Z1⟩ := boxes1 wr (.cells #[.int .i64 e.k, .string e.p, .string e.o, .string e.q, .int .i64 e.v.kind, .int .i64 e.v.int, .int .i64 e.v.im, .string e.v.text, .slice Ae e.v.items.length ce, .int .i64 e.a, .int .i64 e.b, .int .i64 e.c] 37)
        rw [← hW1]
        have m2 : mapI W1 w0.heap.size j D := by rw [hW1]; exact h2.out.alloc _
        have m4 : mapC W1 (w0.heap.size + 1) j E := by rw [hW1]; exact h4.out.alloc _
        have d1 : W1.cell? ⟨g, j, none⟩ = some (.int .i64 tj) := (bB.cell (p := ⟨g, j, none⟩) (by show g < wr.heap.size; omega)).trans d0
        have p1 := box_cells bE.out 1
        clear hW1
        obtain ⟨cv, hrun, hat, hwc⟩ := World.ownsMap.lookup_int (w := W1.drew) m2.drew lawS Try.underlying103 Try.underlying3 (zeroI _) (keyL_ok hp)
        rw [h1.out.at_, hcnt.out] at hat
        obtain rfl : (ni : Int) = cv := by simpa using hat
        clear hat hwc
        obtain ⟨W2, hup, m5, hg5⟩ := World.ownsMap.update (w := W1.drew) m4.drew lawC Try.underlying108 (by unfold maxLen; omega) (keyC e.p ni hv.out) (Rs_mk j tj)
        replace Z1 := Q.mk Z1
        refine start_ (n := 15) (S := fun w' => w'.cell? ⟨wr.heap.size, 1, none⟩ = some (.string e.p) ∧ w'.cell? ⟨g, j, none⟩ = some (.int .i64 tj) ∧ (Instr.lookup 103 (.map (some w0.heap.size)) (.string e.p) false).run Try.prog w' = .ok (.int .i64 ni) w') (ds := [14]) #[false, false, false, false, false, false, false, false, false, false, false, false, false, false, false] (by kernel_rfl) rfl rfl ⟨p1, d1, hrun⟩ (fun hHeld => ?_)
        refine pure_ (i := 0) (N := some 22) (v := ?_) (a' := ?_) #[true, false, false, false, false, false, false, false, false, false, false, false, false, false, false] rfl rfl (by kernel_rfl) (fun _ _ _ h => h) (Or.inl ⟨by rfl, ?_⟩) ?_ ?_
        rotate_left
        · intro w'
          go_simp
          with_reducible rfl
        rotate_left
        · simp only [Act.put, List.setIfInBounds_toArray, List.set_cons_zero, List.set_cons_succ, i64_w, i32_w]
          rfl
        refine pure_ (i := 1) (N := some 23) (v := ?_) (a' := ?_) #[true, true, false, false, false, false, false, false, false, false, false, false, false, false, false] rfl rfl (by kernel_rfl) (fun _ _ _ h => h) (Or.inl ⟨by rfl, ?_⟩) ?_ ?_
        rotate_left
        · intro w'
          go_simp
          with_reducible rfl
        rotate_left
        · simp only [Act.put, List.setIfInBounds_toArray, List.set_cons_zero, List.set_cons_succ, i64_w, i32_w]
          rfl
        refine take_ (i := 2) (N := some 24) (v := ?_) (a' := ?_) #[true, true, true, false, false, false, false, false, false, false, false, false, false, false, false] rfl rfl (by kernel_rfl) (fun _ _ _ h => h) (Or.inl ⟨by rfl, ?_⟩) hHeld ?_ ?_
        rotate_left
        · rintro w' ⟨s0_, s1_, s2_⟩
          go_simp
          with_reducible rfl
        rotate_left
        · simp only [Act.put, List.setIfInBounds_toArray, List.set_cons_zero, List.set_cons_succ, i64_w, i32_w]
          rfl
        refine pure_ (i := 3) (N := some 25) (v := ?_) (a' := ?_) #[true, true, true, true, false, false, false, false, false, false, false, false, false, false, false] rfl rfl (by kernel_rfl) (fun _ _ _ h => h) (Or.inl ⟨by rfl, ?_⟩) ?_ ?_
        rotate_left
        · intro w'
          go_simp
          with_reducible rfl
        rotate_left
        · simp only [Act.put, List.setIfInBounds_toArray, List.set_cons_zero, List.set_cons_succ, i64_w, i32_w]
          rfl
        refine pure_ (i := 4) (N := some 26) (v := ?_) (a' := ?_) #[true, true, true, true, true, false, false, false, false, false, false, false, false, false, false] rfl rfl (by kernel_rfl) (fun _ _ _ h => h) (Or.inl ⟨by rfl, ?_⟩) ?_ ?_
        rotate_left
        · intro w'
          go_simp
          with_reducible rfl
        rotate_left
        · simp only [Act.put, List.setIfInBounds_toArray, List.set_cons_zero, List.set_cons_succ, i64_w, i32_w]
          rfl
        refine take_ (i := 5) (N := some 27) (v := ?_) (a' := ?_) #[true, true, true, true, true, true, false, false, false, false, false, false, false, false, false] rfl rfl (by kernel_rfl) (fun _ _ _ h => h) (Or.inl ⟨by rfl, ?_⟩) hHeld ?_ ?_
        rotate_left
        · rintro w' ⟨s0_, s1_, s2_⟩
          go_simp
          with_reducible rfl
        rotate_left
        · simp only [Act.put, List.setIfInBounds_toArray, List.set_cons_zero, List.set_cons_succ, i64_w, i32_w]
          rfl
        refine take_ (i := 6) (N := some 28) (v := ?_) (a' := ?_) #[true, true, true, true, true, true, true, false, false, false, false, false, false, false, false] rfl rfl (by kernel_rfl) (fun _ _ _ h => h) (Or.inl ⟨by rfl, ?_⟩) hHeld ?_ ?_
        rotate_left
        · rintro w' ⟨s0_, s1_, s2_⟩
          go_simp
          with_reducible rfl
        rotate_left
        · simp only [Act.put, List.setIfInBounds_toArray, List.set_cons_zero, List.set_cons_succ, i64_w, i32_w]
          rfl
        refine pure_ (i := 7) (N := some 29) (v := ?_) (a' := ?_) #[true, true, true, true, true, true, true, true, false, false, false, false, false, false, false] rfl rfl (by kernel_rfl) (fun _ _ _ h => h) (Or.inl ⟨by rfl, ?_⟩) ?_ ?_
        rotate_left
        · intro w'
          go_simp
          with_reducible rfl
        rotate_left
        · simp only [Act.put, List.setIfInBounds_toArray, List.set_cons_zero, List.set_cons_succ, i64_w, i32_w]
          rfl
        refine pure_ (i := 8) (N := some 30) (v := ?_) (a' := ?_) #[true, true, true, true, true, true, true, true, true, false, false, false, false, false, false] rfl rfl (by kernel_rfl) (fun _ _ _ h => h) (Or.inl ⟨by rfl, ?_⟩) ?_ ?_
        rotate_left
        · intro w'
          go_simp
          with_reducible rfl
        rotate_left
        · simp only [Act.put, List.setIfInBounds_toArray, List.set_cons_zero, List.set_cons_succ, i64_w, i32_w]
          rfl
        refine pure_ (i := 9) (N := some 31) (v := ?_) (a' := ?_) #[true, true, true, true, true, true, true, true, true, true, false, false, false, false, false] rfl rfl (by kernel_rfl) (fun _ _ _ h => h) (Or.inl ⟨by rfl, ?_⟩) ?_ ?_
        rotate_left
        · intro w'
          go_simp
          with_reducible rfl
        rotate_left
        · simp only [Act.put, List.setIfInBounds_toArray, List.set_cons_zero, List.set_cons_succ, i64_w, i32_w]
          rfl
        refine pure_ (i := 10) (N := some 32) (v := ?_) (a' := ?_) #[true, true, true, true, true, true, true, true, true, true, true, false, false, false, false] rfl rfl (by kernel_rfl) (fun _ _ _ h => h) (Or.inl ⟨by rfl, ?_⟩) ?_ ?_
        rotate_left
        · intro w'
          go_simp
          with_reducible rfl
        rotate_left
        · simp only [Act.put, List.setIfInBounds_toArray, List.set_cons_zero, List.set_cons_succ, i64_w, i32_w]
          rfl
        refine pure_ (i := 11) (N := some 33) (v := ?_) (a' := ?_) #[true, true, true, true, true, true, true, true, true, true, true, true, false, false, false] rfl rfl (by kernel_rfl) (fun _ _ _ h => h) (Or.inl ⟨by rfl, ?_⟩) ?_ ?_
        rotate_left
        · intro w'
          go_simp
          with_reducible rfl
        rotate_left
        · simp only [Act.put, List.setIfInBounds_toArray, List.set_cons_zero, List.set_cons_succ, i64_w, i32_w]
          rfl
        refine take_ (i := 12) (N := some 34) (v := ?_) (a' := ?_) #[true, true, true, true, true, true, true, true, true, true, true, true, true, false, false] rfl rfl (by kernel_rfl) (fun _ _ _ h => h) (Or.inl ⟨by rfl, ?_⟩) hHeld ?_ ?_
        rotate_left
        · rintro w' ⟨s0_, s1_, s2_⟩
          go_simp
          with_reducible rfl
        rotate_left
        · simp only [Act.put, List.setIfInBounds_toArray, List.set_cons_zero, List.set_cons_succ, i64_w, i32_w]
          rfl
        refine pure_ (i := 13) (N := some 35) (v := ?_) (a' := ?_) #[true, true, true, true, true, true, true, true, true, true, true, true, true, true, false] rfl rfl (by kernel_rfl) (fun _ _ _ h => h) (Or.inl ⟨by rfl, ?_⟩) ?_ ?_
        rotate_left
        · intro w'
          go_simp
          with_reducible rfl
        rotate_left
        · simp only [Act.put, List.setIfInBounds_toArray, List.set_cons_zero, List.set_cons_succ, i64_w, i32_w]
          rfl
        refine last_ (i := 14) (N := none) #[true, true, true, true, true, true, true, true, true, true, true, true, true, true, true] rfl rfl (by kernel_rfl) (by decide) (fun K hK => ?_)
        go_simp
        refine hK.out _ _ ?_
        clear hK K
        refine done_ (by kernel_rfl) ?_
        have q1 := gbox hg5 (show W1.drew.heap[wr.heap.size]? = _ from bE.out) (by omega)
        have p2 := box_cells q1 1
        have m6 : mapI W2 w0.heap.size j D := World.ownsMap.kept (w := W1.drew) m2.drew hg5 (by simp)
        have hB2 : Below w0.heap.size w0 W2 := ((hB.trans (bB.mono hz)).drew).grown hg5 (by have := bB.size; have := Z1.out; show w0.heap.size ≤ W1.heap.size; omega) (fun g e => by cases e; omega)
        replace m6 := Q.mk m6
        replace m5 := Q.mk m5
        clear hup hrun hg5 q1 p1 d1 m2 m4
        go_wp2_with (first
          | (at_lookup; refine wpList_lookup_own_int _ rfl _ _ 103 rfl 9 3 .i64 lawS Try.underlying103 Try.underlying3 (zeroI _) w0.heap.size j D rfl m6.out _ _ rfl (keyL_ok hp) ?_; intro ci hat hwc; rw [h1.out.at_, hcnt.out] at hat; obtain rfl : (ni : Int) = ci := (by simpa using hat); clear hat hwc)
          | (at_mapUpdate; refine wpList_mapUpdate_own _ rfl _ _ _ 103 rfl 9 3 lawS Try.underlying103 _ w0.heap.size j D rfl m6.out (by unfold maxLen; omega) _ _ _ rfl rfl (keyL_ok hp) _ [] (plainElem_int Try.underlying3 (WalkArith.wf_i64 (by omega))) ?_; intro w3 hown3 hgrow3))
        have R1 : Q (∃ D, Says D (cntF l (j + 1)) ∧ mapI w3 w0.heap.size (j + 1) D) := ⟨_, h1.out.put e.p (ni + 1) HS1.out, hown3⟩
        have R2 : Q (∃ D, SaysC D (spanF l (j + 1)) ∧ mapC w3 (w0.heap.size + 1) (j + 1) D) := ⟨_, h3.out.put e.p ni hv.out (j, tj) HS2.out, m5.out.kept hgrow3 (by simp)⟩
        have R3 : Below w0.heap.size w0 w3 := hB2.grown hgrow3 hB2.size (fun g e => by cases e; exact Nat.le_refl _)
        clear hown3 hgrow3 hB2
        go_roundw
        case rel => exact ⟨j + 1, by omega, by go_num, R1, R2, R3⟩
        case measure => simp [intOf]; omega
      · have t1 : (e.k == 1) = false := by simp [k1]
        have HS1 : Q (∀ t, cntF l (j + 1) t = cntF l j t) := ⟨cntF_same l j e he1 k1⟩
        have HS2 : Q (∀ t m, spanF l (j + 1) t m = spanF l j t m) := ⟨spanF_same l j e he1 k1⟩
        replace he1 := Q.mk he1
        clear k1
        go_wp2
        go_roundw
        case rel => exact ⟨j + 1, by omega, by go_num, ⟨D, h1.out.congr HS1.out, (h2.out.alloc _).mono (Nat.le_succ _)⟩, ⟨E, h3.out.congr HS2.out, (h4.out.alloc _).mono (Nat.le_succ _)⟩, hB.alloc hz _⟩
        case measure => simp [intOf]; omega
    · go_wp2
      go_ret
      obtain rfl : j = l.length := by omega
      obtain ⟨E, h3, h4⟩ := hS.out
      exact ⟨_, E, _, rfl, by omega, h4, h3, hb.trans (hB.mono hz0)⟩
end Go.Proofs.Ytifakbipdmceiaa

import Derived.Test.YtifakbipdmceiaaJLawA38
import Derived.Test.YtifakbipdmceiaaJLawA44
import Derived.Test.YtifakbipdmceiaaJLawA16
import Derived.Test.YtifakbipdmceiaaJLawA40
set_option linter.unusedVariables false
set_option linter.unusedSimpArgs false
namespace Go.Proofs.Ytifakbipdmceiaa
open Go.RowKit Go.Proofs.YtifakbipdmceiaaW.PrintLast

/-! ### the reference's Alike -/
theorem selP_memE (P : Nat → Bool) (l : List Ev) (e : Ev) : ∀ k, (e ∈ selP P l k ↔ ∃ j, j < k ∧ l[j]? = some e ∧ P j = true)
  | 0 => by simp [selP]
  | k + 1 => by
    have ih := selP_memE P l e k
    have key : (∃ j, j < k + 1 ∧ l[j]? = some e ∧ P j = true) ↔ ((∃ j, j < k ∧ l[j]? = some e ∧ P j = true) ∨ (l[k]? = some e ∧ P k = true)) := by
      constructor
      · rintro ⟨j, h1, h2⟩
        rcases Nat.lt_or_ge j k with h3 | h3
        · exact .inl ⟨j, h3, h2⟩
        · obtain rfl : j = k := by omega
          exact .inr h2
      · rintro (⟨j, h1, h2⟩ | h)
        · exact ⟨j, by omega, h2⟩
        · exact ⟨k, by omega, h⟩
    rw [key, ← ih, selP]
    cases he : l[k]? with
    | none => simp
    | some y =>
      dsimp only
      by_cases hp : P k = true
      · rw [if_pos hp, List.mem_append, List.mem_singleton]
        constructor
        · rintro (h | rfl)
          · exact .inl h
          · exact .inr ⟨rfl, hp⟩
        · rintro (h | ⟨h, _⟩)
          · exact .inl h
          · exact .inr (Option.some.inj h).symm
      · rw [if_neg hp]
        exact ⟨.inl, fun h => h.elim id fun h => absurd h.2 hp⟩
theorem keepP_sub {P : Nat → Bool} {l : List Ev} {e : Ev} (h : e ∈ keepP P l) : e ∈ l := by
  obtain ⟨j, _, h2, _⟩ := (selP_memE P l e l.length).1 h
  exact List.mem_of_getElem? h2
theorem keepP_tx {P : Nat → Bool} {l : List Ev} (h : ∀ e ∈ l, TxV e.v) : ∀ e ∈ keepP P l, TxV e.v := fun e he => h e (keepP_sub he)
theorem procP_ne (l : List Ev) (s : ByteArray) : procP l s ≠ [] ↔ s ∈ procsP l := by
  have hp := procs_mem l s l.length (Nat.le_refl _)
  constructor
  · intro h
    obtain ⟨e, he⟩ := List.exists_mem_of_ne_nil _ h
    obtain ⟨j, h1, h2, h3⟩ := (selP_memE (procB l s) l e l.length).1 he
    rw [procB, h2] at h3
    exact hp.2 ⟨j, h1, e, h2, by simpa using h3⟩
  · intro h h0
    obtain ⟨j, h1, e, h2, h3⟩ := hp.1 h
    have : e ∈ procP l s := (selP_memE (procB l s) l e l.length).2 ⟨j, h1, h2, by rw [procB, h2]; simpa using h3⟩
    rw [h0] at this
    cases this
def ralikeB (a b : List Ev) (s : ByteArray) : Bool := sameEs (procP a s) (procP b s)
theorem ralike_same (a b : List Ev) : alikeP a b = (decide ((procsP a).length = (procsP b).length) && (procsP a).all (ralikeB a b)) := by
  rw [alikeP]
  congr 1
  rw [Bool.eq_iff_iff, List.all_eq_true, List.all_eq_true]
  have key : ∀ s ∈ procsP a, (alikeB a b s = true ↔ ralikeB a b s = true) := by
    intro s hs
    rw [alikeB, ralikeB, Bool.and_eq_true]
    refine ⟨fun h => h.2, fun h => ⟨?_, h⟩⟩
    rw [inS_iff]
    refine (procP_ne b s).1 fun h0 => ?_
    have h1 := (procP_ne a s).2 hs
    rw [h0] at h
    cases hx : procP a s with
    | nil => exact h1 hx
    | cons x xs => rw [hx, sameEs] at h; cases h
                   all_goals simp
  exact ⟨fun h s hs => (key s hs).1 (h s hs), fun h s hs => (key s hs).2 (h s hs)⟩
set_option maxHeartbeats 4000000 in
set_option maxRecDepth 100000 in
theorem Alike_ref (xs ys : List Ev) (A A' : Option Addr) (c c' B0 N0 : Nat) (w : World) (hx0 : Row eEl B0 N0 w A xs) (hy0 : Row eEl B0 N0 w A' ys) (hN : N0 ≤ w.heap.size) (hcx : xs.length ≤ c) (hcy : ys.length ≤ c') (tx0 : ∀ e ∈ xs, TxV e.v) (ty0 : ∀ e ∈ ys, TxV e.v) :
    Calls Try.prog 32 #[.slice A xs.length c, .slice A' ys.length c'] w fun e w' => e = .returned (.bool (alikeP xs ys)) ∧ Below w.heap.size w w' := by
  obtain ⟨r, hr⟩ : ∃ r, r = alikeP xs ys := ⟨_, rfl⟩
  rw [← hr]
  rw [ralike_same] at hr
  obtain ⟨p, hp⟩ : ∃ p, p = procsP xs := ⟨_, rfl⟩
  obtain ⟨q, hq⟩ : ∃ q, q = procsP ys := ⟨_, rfl⟩
  rw [← hp, ← hq] at hr
  have hx := Q.mk hx0
  have hy := Q.mk hy0
  have tx := Q.mk tx0
  have ty := Q.mk ty0
  replace hr := Q.mk hr
  replace hp := Q.mk hp
  replace hq := Q.mk hq
  clear hx0 hy0 tx0 ty0
  have arm1 : Q (Calls Try.prog 22 #[.slice A xs.length c] w fun e w' => ∃ v, e = .returned v ∧ Own sEl 9 w.heap.size w'.heap.size w' v p ∧ Below w.heap.size w w') := ⟨by rw [hp.out]; exact Procs_ref xs A c B0 N0 w hx.out hN hcx⟩
  have arm2 : Q (∀ w1 : World, Below w.heap.size w w1 → Calls Try.prog 22 #[.slice A' ys.length c'] w1 fun e w' => ∃ v, e = .returned v ∧ Own sEl 9 w1.heap.size w'.heap.size w' v q ∧ Below w1.heap.size w1 w') := ⟨fun w1 hb => by rw [hq.out]; exact Procs_ref ys A' c' B0 N0 w1 (hy.out.below hb hN) (by have := hb.size; omega) hcy⟩
  by_cases hn : p.length = q.length
  · have hn' : ((p.length : Int) != (q.length : Int)) = false := by simp [hn]
    have hn1 : p.length ≤ q.length := by omega
    have hn2 : q.length ≤ p.length := by omega
    have hR : Q (r = p.all (ralikeB xs ys)) := ⟨by rw [hr.out]; simp [hn]⟩
    clear hn hr
    go_enter Try.func32, Try.ntmps32
    go_wp2_with (first
      | (go_at_call 22; with_reducible refine arm1.out.mono ?_; rintro e w1 ⟨v1, rfl, ho1, hb1⟩; obtain ⟨A1, c1, rfl, hc1, hr1⟩ := ho1.row; clear ho1; have hlp := hr1.lenS; replace hr1 := Q.mk hr1)
      | (go_at_call 22; with_reducible refine (arm2.out _ hb1).mono ?_; rintro e w2 ⟨v2, rfl, ho2, hb2⟩; obtain ⟨A2, c2, rfl, hc2, hr2⟩ := ho2.row; clear ho2; replace hr2 := Q.mk hr2))
    clear hn' arm1 arm2
    have z1 := hb1.size
    have z2 := hb2.size
    have BB : Below w.heap.size w w2 := hb1.trans (hb2.mono z1)
    have R1 : Q (Row sEl w.heap.size w1.heap.size w2 A1 p) := ⟨hr1.out.below hb2 (Nat.le_refl _)⟩
    clear hr1 hb1 hb2 hr2
    go_loopw [7] (fun i wr => ∃ j : Nat, j ≤ p.length ∧ i = .int .i64 j ∧ Q (r = (p.drop j).all (ralikeB xs ys)) ∧ Below w2.heap.size w2 wr) (fun i _ => p.length - (intOf i).toNat)
    case atStart => exact ⟨0, Nat.zero_le _, rfl, hR, Below.refl _ _⟩
    case round =>
      clear hR
      obtain ⟨j, hj, rfl, hR, hB⟩ := hrel
      have hz := hB.size
      by_cases hlt : j < p.length
      · obtain ⟨b, o, rfl, hBb, hNb, hss, x0⟩ := (R1.out.below hB z2).atS j hlt
        obtain ⟨s, hs⟩ : ∃ s, s = p[j] := ⟨_, rfl⟩
        have HS := hR.out
        rw [List.drop_eq_getElem_cons hlt, List.all_cons, ← hs] at HS
        rw [← hs] at x0
        replace HS := Q.mk HS
        clear hR hs
        have l0 : b < wr.heap.size := by omega
        have RX : Q (Row eEl B0 N0 wr A xs) := ⟨(hx.out.below BB hN).below hB (by omega)⟩
        have RY : Q (Row eEl B0 N0 wr A' ys) := ⟨(hy.out.below BB hN).below hB (by omega)⟩
        have lN : N0 ≤ wr.heap.size := by omega
        have hvb : ralikeB xs ys s = sameEs (keepP (procB xs s) xs) (keepP (procB ys s) ys) := rfl
        cases h2 : sameEs (keepP (procB xs s) xs) (keepP (procB ys s) ys)
        all_goals
          rw [h2] at hvb
          replace hvb := Q.mk hvb
          replace h2 := Q.mk h2
          go_wp2_with fail
          refine start_ (n := 14) (S := fun w' => Q True ∧ w'.cell? ⟨b, o + j, none⟩ = some (.string s)) (ds := []) #[false, false, false, false, false, false, false, false, false, false, false, false, false, false] (by kernel_rfl) rfl rfl ⟨⟨trivial⟩, by go_keep⟩ (fun hHeld => ?_)
          refine pure_ (i := 0) (N := some 23) (v := ?_) (a' := ?_) #[true, false, false, false, false, false, false, false, false, false, false, false, false, false] rfl rfl (by kernel_rfl) (fun _ _ _ h => h) (Or.inl ⟨by rfl, ?_⟩) ?_ ?_
          rotate_left
          · intro w'
            go_simp
            with_reducible rfl
          rotate_left
          · simp only [Act.put, List.setIfInBounds_toArray, List.set_cons_zero, List.set_cons_succ, i64_w, i32_w]
            rfl
          refine pure_ (i := 1) (N := some 24) (v := ?_) (a' := ?_) #[true, true, false, false, false, false, false, false, false, false, false, false, false, false] rfl rfl (by kernel_rfl) (fun _ _ _ h => h) (Or.inl ⟨by rfl, ?_⟩) ?_ ?_
          rotate_left
          · intro w'
            go_simp
            with_reducible rfl
          rotate_left
          · simp only [Act.put, List.setIfInBounds_toArray, List.set_cons_zero, List.set_cons_succ, i64_w, i32_w]
            rfl
          refine pure_ (i := 2) (N := some 25) (v := ?_) (a' := ?_) #[true, true, true, false, false, false, false, false, false, false, false, false, false, false] rfl rfl (by kernel_rfl) (fun _ _ _ h => h) (Or.inl ⟨by rfl, ?_⟩) ?_ ?_
          rotate_left
          · intro w'
            go_simp
            with_reducible rfl
          rotate_left
          · simp only [Act.put, List.setIfInBounds_toArray, List.set_cons_zero, List.set_cons_succ, i64_w, i32_w]
            rfl
          refine pure_ (i := 3) (N := some 26) (v := ?_) (a' := ?_) #[true, true, true, true, false, false, false, false, false, false, false, false, false, false] rfl rfl (by kernel_rfl) (fun _ _ _ h => h) (Or.inl ⟨by rfl, ?_⟩) ?_ ?_
          rotate_left
          · intro w'
            go_simp
            with_reducible rfl
          rotate_left
          · simp only [Act.put, List.setIfInBounds_toArray, List.set_cons_zero, List.set_cons_succ, i64_w, i32_w]
            rfl
          refine pure_ (i := 6) (N := some 29) (v := ?_) (a' := ?_) #[true, true, true, true, false, false, true, false, false, false, false, false, false, false] rfl rfl (by kernel_rfl) (fun _ _ _ h => h) (Or.inl ⟨by rfl, ?_⟩) ?_ ?_
          rotate_left
          · intro w'
            go_simp
            with_reducible rfl
          rotate_left
          · simp only [Act.put, List.setIfInBounds_toArray, List.set_cons_zero, List.set_cons_succ, i64_w, i32_w]
            rfl
          refine pure_ (i := 7) (N := some 30) (v := ?_) (a' := ?_) #[true, true, true, true, false, false, true, true, false, false, false, false, false, false] rfl rfl (by kernel_rfl) (fun _ _ _ h => h) (Or.inl ⟨by rfl, ?_⟩) ?_ ?_
          rotate_left
          · intro w'
            go_simp
            with_reducible rfl
          rotate_left
          · simp only [Act.put, List.setIfInBounds_toArray, List.set_cons_zero, List.set_cons_succ, i64_w, i32_w]
            rfl
          refine pure_ (i := 8) (N := some 31) (v := ?_) (a' := ?_) #[true, true, true, true, false, false, true, true, true, false, false, false, false, false] rfl rfl (by kernel_rfl) (fun _ _ _ h => h) (Or.inl ⟨by rfl, ?_⟩) ?_ ?_
          rotate_left
          · intro w'
            go_simp
            with_reducible rfl
          rotate_left
          · simp only [Act.put, List.setIfInBounds_toArray, List.set_cons_zero, List.set_cons_succ, i64_w, i32_w]
            rfl
          refine pure_ (i := 9) (N := some 32) (v := ?_) (a' := ?_) #[true, true, true, true, false, false, true, true, true, true, false, false, false, false] rfl rfl (by kernel_rfl) (fun _ _ _ h => h) (Or.inl ⟨by rfl, ?_⟩) ?_ ?_
          rotate_left
          · intro w'
            go_simp
            with_reducible rfl
          rotate_left
          · simp only [Act.put, List.setIfInBounds_toArray, List.set_cons_zero, List.set_cons_succ, i64_w, i32_w]
            rfl
          refine take_ (i := 4) (N := some 27) (v := ?_) (a' := ?_) #[true, true, true, true, true, false, true, true, true, true, false, false, false, false] rfl rfl (by kernel_rfl) (fun _ _ _ h => h) (Or.inl ⟨by rfl, ?_⟩) hHeld ?_ ?_
          rotate_left
          · rintro w' ⟨s0_, s1_⟩
            go_simp
            with_reducible rfl
          rotate_left
          · simp only [Act.put, List.setIfInBounds_toArray, List.set_cons_zero, List.set_cons_succ, i64_w, i32_w]
            rfl
          refine take_ (i := 10) (N := some 33) (v := ?_) (a' := ?_) #[true, true, true, true, true, false, true, true, true, true, true, false, false, false] rfl rfl (by kernel_rfl) (fun _ _ _ h => h) (Or.inl ⟨by rfl, ?_⟩) hHeld ?_ ?_
          rotate_left
          · rintro w' ⟨s0_, s1_⟩
            go_simp
            with_reducible rfl
          rotate_left
          · simp only [Act.put, List.setIfInBounds_toArray, List.set_cons_zero, List.set_cons_succ, i64_w, i32_w]
            rfl
          refine one_ (i := 5) (N := some 28) #[true, true, true, true, true, true, true, true, true, true, true, false, false, false] rfl rfl (by kernel_rfl) (by decide) (fun K hK => ?_)
          refine goes_ Try.func25 (by kernel_rfl) rfl #[.slice A xs.length c, .string s] (by rfl) rfl rfl (by (try simp only [List.map_toArray, List.map_cons, List.map_nil]); first | done | rfl) ?_
          refine (Proc_ref xs A c B0 N0 s _ RX.out.drew (by simp; omega) hcx).mono ?_
          rintro e w4 ⟨v4, rfl, ho4, hb4⟩
          obtain ⟨A4, c4, rfl, hc4, hr4⟩ := ho4.row
          replace hr4 := Q.mk hr4
          obtain ⟨hcc4, hff4, z4⟩ := bcell hb4
          simp only [World.size_drew] at hcc4 hff4 z4
          refine ⟨_, rfl, ?_⟩
          refine hK.out _ _ ⟨⟨trivial⟩, by go_keep⟩ (fun hHeld => ?_)
          clear hK K
          refine norm_ (a' := ?_) ?_ ?_
          rotate_left
          · show Act.put _ (some 28) _ = _
            simp only [Act.put, List.setIfInBounds_toArray, List.set_cons_zero, List.set_cons_succ, i64_w, i32_w]
            rfl
          refine one_ (i := 11) (N := some 34) #[true, true, true, true, true, true, true, true, true, true, true, true, false, false] rfl rfl (by kernel_rfl) (by decide) (fun K hK => ?_)
          refine goes_ Try.func25 (by kernel_rfl) rfl #[.slice A' ys.length c', .string s] (by rfl) rfl rfl (by (try simp only [List.map_toArray, List.map_cons, List.map_nil]); first | done | rfl) ?_
          refine (Proc_ref ys A' c' B0 N0 s _ (RY.out.drew.below hb4 (by simp; omega)) (by omega) hcy).mono ?_
          rintro e w5 ⟨v5, rfl, ho5, hb5⟩
          obtain ⟨A5, c5, rfl, hc5, hr5⟩ := ho5.row
          replace hr5 := Q.mk hr5
          obtain ⟨hcc5, hff5, z5⟩ := bcell hb5
          have l4 : b < w4.heap.size := (by omega)
          refine ⟨_, rfl, ?_⟩
          refine hK.out _ _ ⟨⟨trivial⟩, by go_keep⟩ (fun hHeld => ?_)
          clear hK K
          refine norm_ (a' := ?_) ?_ ?_
          rotate_left
          · show Act.put _ (some 34) _ = _
            simp only [Act.put, List.setIfInBounds_toArray, List.set_cons_zero, List.set_cons_succ, i64_w, i32_w]
            rfl
          refine one_ (i := 12) (N := some 35) #[true, true, true, true, true, true, true, true, true, true, true, true, true, false] rfl rfl (by kernel_rfl) (by decide) (fun K hK => ?_)
          refine goes_ Try.func83 (by kernel_rfl) rfl #[.slice A4 (keepP (procB xs s) xs).length c4, .slice A5 (keepP (procB ys s) ys).length c5] (by rfl) rfl rfl (by (try simp only [List.map_toArray, List.map_cons, List.map_nil]); first | done | rfl) ?_
          refine (SameE_ref _ _ A4 A5 c4 c5 0 w5.heap.size _ ((hr4.out.below hb5 (Nat.le_refl _)).mono (Nat.le_refl _) z5) hr5.out (Nat.le_refl _) (keepP_tx tx.out) (keepP_tx ty.out)).mono ?_
          rw [h2.out]
          rintro e w6 ⟨rfl, hb6⟩
          obtain ⟨hcc6, hff6, z6⟩ := bcell hb6
          have l5 : b < w5.heap.size := (by omega)
          refine ⟨_, rfl, ?_⟩
          refine hK.out _ _ ⟨⟨trivial⟩, by go_keep⟩ (fun hHeld => ?_)
          clear hK K
          refine norm_ (a' := ?_) ?_ ?_
          rotate_left
          · show Act.put _ (some 35) _ = _
            simp only [Act.put, List.setIfInBounds_toArray, List.set_cons_zero, List.set_cons_succ, i64_w, i32_w]
            rfl
          refine pure_ (i := 13) (N := some 36) (v := ?_) (a' := ?_) #[true, true, true, true, true, true, true, true, true, true, true, true, true, true] rfl rfl (by kernel_rfl) (fun _ _ _ h => h) (Or.inl ⟨by rfl, ?_⟩) ?_ ?_
          rotate_left
          · intro w'
            go_simp
            with_reducible rfl
          rotate_left
          · simp only [Act.put, List.setIfInBounds_toArray, List.set_cons_zero, List.set_cons_succ, i64_w, i32_w]
            rfl
          refine done_ (by kernel_rfl) ?_
          have BW : Below w2.heap.size w2 w6 := ((hB.drew.trans (hb4.mono (by simp; omega))).trans (hb5.mono (by omega))).trans (hb6.mono (by omega))
          go_wp2_with fail
        · have HR : Q (r = false) := ⟨by rw [HS.out, hvb.out]; rfl⟩
          go_ret
          exact ⟨by rw [HR.out]; rfl, BB.trans (BW.mono (by omega))⟩
        · have HR : Q (r = (p.drop (j + 1)).all (ralikeB xs ys)) := ⟨by rw [HS.out, hvb.out]; rfl⟩
          go_roundw
          case rel => exact ⟨j + 1, by omega, by go_num, HR, BW⟩
          case measure => simp [intOf]; omega
      · have HR : Q (r = true) := ⟨by rw [hR.out, List.drop_eq_nil_of_le (by omega)]; rfl⟩
        go_wp2
        go_ret
        exact ⟨by rw [HR.out]; rfl, BB.trans (hB.mono (by omega))⟩
  · have hn' : ((p.length : Int) != (q.length : Int)) = true := by simp; omega
    have hR : Q (r = false) := ⟨by rw [hr.out]; simp [hn]⟩
    replace hn := Q.mk hn
    go_enter Try.func32, Try.ntmps32
    go_wp2_with (first
      | (go_at_call 22; with_reducible refine arm1.out.mono ?_; rintro e w1 ⟨v1, rfl, ho1, hb1⟩; obtain ⟨A1, c1, rfl, hc1, hr1⟩ := ho1.row; clear ho1; have hlp := hr1.lenS; replace hr1 := Q.mk hr1)
      | (go_at_call 22; with_reducible refine (arm2.out _ hb1).mono ?_; rintro e w2 ⟨v2, rfl, ho2, hb2⟩; obtain ⟨A2, c2, rfl, hc2, hr2⟩ := ho2.row; clear ho2; replace hr2 := Q.mk hr2))
    go_ret
    exact ⟨by rw [hR.out]; rfl, hb1.trans (hb2.mono hb1.size)⟩
end Go.Proofs.Ytifakbipdmceiaa

import Derived.Test.YtifakbipdmceiaaJLawA11
import Derived.Test.YtifakbipdmceiaaJLawA12
set_option linter.unusedVariables false
set_option linter.unusedSimpArgs false
namespace Go.Proofs.Ytifakbipdmceiaa
open Go.RowKit

theorem infoE : (Try.prog.info? 37).map (fun i => (i.zero, i.size, i.bytes)) = some (some (.agg #[.int .i64 0, .string ⟨#[]⟩, .string ⟨#[]⟩, .string ⟨#[]⟩, .int .i64 0, .int .i64 0, .int .i64 0, .string ⟨#[]⟩, .slice none 0 0, .int .i64 0, .int .i64 0, .int .i64 0]), 12, 144) := by kernel_rfl
/-- The elements that are wanted among the first k. -/
def selP (P : Nat → Bool) (l : List Ev) : Nat → List Ev
  | 0 => []
  | k + 1 => match l[k]? with
    | none => selP P l k
    | some e => if P k = true then selP P l k ++ [e] else selP P l k
theorem selP_len (P : Nat → Bool) (l : List Ev) : ∀ k, (selP P l k).length ≤ k
  | 0 => by simp [selP]
  | k + 1 => by
    have := selP_len P l k
    rw [selP]
    split
    · omega
    · split <;> simp <;> omega
def keepP (P : Nat → Bool) (l : List Ev) : List Ev := selP P l l.length

set_option maxHeartbeats 1000000 in
set_option maxRecDepth 100000 in
theorem those_a (l : List Ev) (A : Option Addr) (c B0 N0 : Nat) (w : World) (v1 v2 v3 : Value) (P : Nat → Bool) (hr0 : Row eEl B0 N0 w A l) (hN : N0 ≤ w.heap.size) (hc : l.length ≤ c)
    (H0 : ∀ (j : Nat) (w1 : World), j < l.length → Below w.heap.size w w1 → Calls Try.prog 66 #[.int .i64 j, v1, v2, v3] w1 fun e w2 => e = .returned (.bool (P j)) ∧ Below w1.heap.size w1 w2) :
    Calls Try.prog 65 #[.slice A l.length c, .func (.func 66) #[] #[v1, v2, v3]] w fun e w' => ∃ v, e = .returned v ∧ Own eEl 37 w.heap.size w'.heap.size w' v (keepP P l) ∧ Below w.heap.size w w' := by
  have hlen := hr0.lenE
  have hr := Q.mk hr0
  have H := Q.mk H0
  clear hr0 H0
  go_enter Try.func65, Try.ntmps65
  go_wp2_with fail
  go_loopw [5, 10] (fun u i wr => ∃ j : Nat, j ≤ l.length ∧ i = .int .i64 j ∧ Q (Own eEl 37 w.heap.size wr.heap.size wr u (selP P l j)) ∧ Below w.heap.size w wr)
    (fun _ i _ => l.length - (intOf i).toNat)
  case atStart => exact ⟨0, Nat.zero_le _, rfl, ⟨(Own.nil _ _ _ _)⟩, Below.refl _ _⟩
  case round =>
    obtain ⟨j, hj, rfl, hO, hB⟩ := hrel
    have hz := hB.size
    by_cases hlt : j < l.length
    · obtain ⟨b, o, e, Ae, ce, rfl, hbN, he, hEOk, x0, x1, x2, x3, x4, x5, x6, x7, x8, x9, x10, x11⟩ := (hr.out.below hB hN).atE j hlt
      have he1 : l[j]? = some e := by simp [hlt, he]
      have hsl := selP_len P l j
      replace hEOk := Q.mk hEOk
      replace he := Q.mk he
      cases hp : P j
      · have HS : Q (selP P l (j + 1) = selP P l j) := ⟨by rw [selP]; simp [he1, hp]⟩
        replace hp := Q.mk hp
        replace he1 := Q.mk he1
        go_wp2_with (go_at_call 66; refine (H.out j _ hlt (hB.alloc hz _)).mono ?_; rw [hp.out]; rintro e2 w2 ⟨rfl, hb2⟩)
        have hz2 := hb2.size
        simp only [World.size_alloc] at hz2
        go_roundw
        case rel => exact ⟨j + 1, by omega, by go_num, ⟨by rw [HS.out]; exact ((hO.out.alloc _).below hb2 (by simp)).widen (by omega) (Nat.le_refl _)⟩, (hB.alloc hz _).trans (hb2.mono (by simp; omega))⟩
        case measure => simp [intOf]; omega
      · have HS : Q (selP P l (j + 1) = selP P l j ++ [e]) := ⟨by rw [selP]; simp [he1, hp]⟩
        replace hp := Q.mk hp
        replace he1 := Q.mk he1
        go_wp2_with (first
          | (go_at_call 66; refine (H.out j _ hlt (hB.alloc hz _)).mono ?_; rw [hp.out]; rintro e2 w2 ⟨rfl, hb2⟩; obtain ⟨hcc, hff, hsz2⟩ := bcell hb2; simp only [World.size_alloc] at hcc hff hsz2; have l1 : wr.heap.size < wr.heap.size + 1 := Nat.lt_succ_self _)
          | (go_at_call 109; refine (copied_v e.v Ae ce B0 N0 _ ((hEOk.out.v.alloc (by omega) _).below hb2 (by simp; omega)) (by omega)).mono ?_; rintro e2 w3 ⟨A4, c4, rfl, hv4, hb3⟩; obtain ⟨hcc3, hff3, hsz3⟩ := bcell hb3; have l2 : wr.heap.size < w2.heap.size := (by omega); replace hv4 := Q.mk hv4)
          | (at_builtin; (refine wpList_append1 _ rfl eEl (.tmp 22) (.tmp 24) 22 37 rfl Try.underlying22 infoE rfl (B := w.heap.size) (N := wr.heap.size) (B' := w2.heap.size) (N' := w3.heap.size) (y := e) (H := w3.heap.size) w.heap.size (by rfl) (by rfl) (heap_alloc_at _ _ (by simp only [size_set])) (((((((((hO.out.alloc _).below hb2 (by simp <;> omega)).below hb3 (by omega)).setCell (.inr (Nat.le_refl _)) _).setCell (.inr (Nat.le_refl _)) _).setCell (.inr (Nat.le_refl _)) _).setCell (.inr (Nat.le_refl _)) _).setCell (.inr (Nat.le_refl _)) _).alloc _) ⟨A4, c4, ⟨((((((hv4.out.set (.inl l2) _).set (.inl l2) _).set (.inl l2) _).set (.inl l2) _).set (.inl l2) _).alloc (by simp only [size_set] <;> omega) _), hEOk.out.p, hEOk.out.o, hEOk.out.q⟩, rfl⟩ (Or.inl (by omega)) (by simp only [World.size_alloc, size_set] <;> omega) (Nat.le_refl _) (by omega) (by simp only [World.size_alloc, size_set] <;> omega) (by decide) (by simp [eEl] <;> omega) ?_); intro g1 c1 w4 hO4 hg4 hat4))
        have BW : Below w.heap.size w w4 := hO.out.below_grown (((((((((hB.alloc hz _).trans (hb2.mono (by simp; omega))).trans (hb3.mono (by omega))).setCell hz _).setCell hz _).setCell hz _).setCell hz _).setCell hz _).alloc (by simp only [size_set]; omega) _) hg4 (Nat.le_refl _) (by simp only [World.size_alloc, size_set]; omega)
        clear hg4 hat4
        go_roundw
        case rel => exact ⟨j + 1, by omega, by go_num, ⟨by rw [HS.out]; exact hO4⟩, BW⟩
        case measure => simp [intOf]; omega
    · go_wp2
      go_ret
      obtain rfl : j = l.length := by omega
      exact ⟨_, rfl, hO.out, hB⟩
set_option maxHeartbeats 1000000 in
set_option maxRecDepth 100000 in
theorem those_b (l : List Ev) (A : Option Addr) (c B0 N0 : Nat) (w : World) (v1 v2 : Value) (P : Nat → Bool) (hr0 : Row eEl B0 N0 w A l) (hN : N0 ≤ w.heap.size) (hc : l.length ≤ c)
    (H0 : ∀ (j : Nat) (w1 : World), j < l.length → Below w.heap.size w w1 → Calls Try.prog 67 #[.int .i64 j, v1, v2] w1 fun e w2 => e = .returned (.bool (P j)) ∧ Below w1.heap.size w1 w2) :
    Calls Try.prog 65 #[.slice A l.length c, .func (.func 67) #[] #[v1, v2]] w fun e w' => ∃ v, e = .returned v ∧ Own eEl 37 w.heap.size w'.heap.size w' v (keepP P l) ∧ Below w.heap.size w w' := by
  have hlen := hr0.lenE
  have hr := Q.mk hr0
  have H := Q.mk H0
  clear hr0 H0
  go_enter Try.func65, Try.ntmps65
  go_wp2_with fail
  go_loopw [5, 10] (fun u i wr => ∃ j : Nat, j ≤ l.length ∧ i = .int .i64 j ∧ Q (Own eEl 37 w.heap.size wr.heap.size wr u (selP P l j)) ∧ Below w.heap.size w wr)
    (fun _ i _ => l.length - (intOf i).toNat)
  case atStart => exact ⟨0, Nat.zero_le _, rfl, ⟨(Own.nil _ _ _ _)⟩, Below.refl _ _⟩
  case round =>
    obtain ⟨j, hj, rfl, hO, hB⟩ := hrel
    have hz := hB.size
    by_cases hlt : j < l.length
    · obtain ⟨b, o, e, Ae, ce, rfl, hbN, he, hEOk, x0, x1, x2, x3, x4, x5, x6, x7, x8, x9, x10, x11⟩ := (hr.out.below hB hN).atE j hlt
      have he1 : l[j]? = some e := by simp [hlt, he]
      have hsl := selP_len P l j
      replace hEOk := Q.mk hEOk
      replace he := Q.mk he
      cases hp : P j
      · have HS : Q (selP P l (j + 1) = selP P l j) := ⟨by rw [selP]; simp [he1, hp]⟩
        replace hp := Q.mk hp
        replace he1 := Q.mk he1
        go_wp2_with (go_at_call 67; refine (H.out j _ hlt (hB.alloc hz _)).mono ?_; rw [hp.out]; rintro e2 w2 ⟨rfl, hb2⟩)
        have hz2 := hb2.size
        simp only [World.size_alloc] at hz2
        go_roundw
        case rel => exact ⟨j + 1, by omega, by go_num, ⟨by rw [HS.out]; exact ((hO.out.alloc _).below hb2 (by simp)).widen (by omega) (Nat.le_refl _)⟩, (hB.alloc hz _).trans (hb2.mono (by simp; omega))⟩
        case measure => simp [intOf]; omega
      · have HS : Q (selP P l (j + 1) = selP P l j ++ [e]) := ⟨by rw [selP]; simp [he1, hp]⟩
        replace hp := Q.mk hp
        replace he1 := Q.mk he1
        go_wp2_with (first
          | (go_at_call 67; refine (H.out j _ hlt (hB.alloc hz _)).mono ?_; rw [hp.out]; rintro e2 w2 ⟨rfl, hb2⟩; obtain ⟨hcc, hff, hsz2⟩ := bcell hb2; simp only [World.size_alloc] at hcc hff hsz2; have l1 : wr.heap.size < wr.heap.size + 1 := Nat.lt_succ_self _)
          | (go_at_call 109; refine (copied_v e.v Ae ce B0 N0 _ ((hEOk.out.v.alloc (by omega) _).below hb2 (by simp; omega)) (by omega)).mono ?_; rintro e2 w3 ⟨A4, c4, rfl, hv4, hb3⟩; obtain ⟨hcc3, hff3, hsz3⟩ := bcell hb3; have l2 : wr.heap.size < w2.heap.size := (by omega); replace hv4 := Q.mk hv4)
          | (at_builtin; (refine wpList_append1 _ rfl eEl (.tmp 22) (.tmp 24) 22 37 rfl Try.underlying22 infoE rfl (B := w.heap.size) (N := wr.heap.size) (B' := w2.heap.size) (N' := w3.heap.size) (y := e) (H := w3.heap.size) w.heap.size (by rfl) (by rfl) (heap_alloc_at _ _ (by simp only [size_set])) (((((((((hO.out.alloc _).below hb2 (by simp <;> omega)).below hb3 (by omega)).setCell (.inr (Nat.le_refl _)) _).setCell (.inr (Nat.le_refl _)) _).setCell (.inr (Nat.le_refl _)) _).setCell (.inr (Nat.le_refl _)) _).setCell (.inr (Nat.le_refl _)) _).alloc _) ⟨A4, c4, ⟨((((((hv4.out.set (.inl l2) _).set (.inl l2) _).set (.inl l2) _).set (.inl l2) _).set (.inl l2) _).alloc (by simp only [size_set] <;> omega) _), hEOk.out.p, hEOk.out.o, hEOk.out.q⟩, rfl⟩ (Or.inl (by omega)) (by simp only [World.size_alloc, size_set] <;> omega) (Nat.le_refl _) (by omega) (by simp only [World.size_alloc, size_set] <;> omega) (by decide) (by simp [eEl] <;> omega) ?_); intro g1 c1 w4 hO4 hg4 hat4))
        have BW : Below w.heap.size w w4 := hO.out.below_grown (((((((((hB.alloc hz _).trans (hb2.mono (by simp; omega))).trans (hb3.mono (by omega))).setCell hz _).setCell hz _).setCell hz _).setCell hz _).setCell hz _).alloc (by simp only [size_set]; omega) _) hg4 (Nat.le_refl _) (by simp only [World.size_alloc, size_set]; omega)
        clear hg4 hat4
        go_roundw
        case rel => exact ⟨j + 1, by omega, by go_num, ⟨by rw [HS.out]; exact hO4⟩, BW⟩
        case measure => simp [intOf]; omega
    · go_wp2
      go_ret
      obtain rfl : j = l.length := by omega
      exact ⟨_, rfl, hO.out, hB⟩
set_option maxHeartbeats 1000000 in
set_option maxRecDepth 100000 in
theorem those_c (l : List Ev) (A : Option Addr) (c B0 N0 : Nat) (w : World) (v1 v2 : Value) (P : Nat → Bool) (hr0 : Row eEl B0 N0 w A l) (hN : N0 ≤ w.heap.size) (hc : l.length ≤ c)
    (H0 : ∀ (j : Nat) (w1 : World), j < l.length → Below w.heap.size w w1 → Calls Try.prog 68 #[.int .i64 j, v1, v2] w1 fun e w2 => e = .returned (.bool (P j)) ∧ Below w1.heap.size w1 w2) :
    Calls Try.prog 65 #[.slice A l.length c, .func (.func 68) #[] #[v1, v2]] w fun e w' => ∃ v, e = .returned v ∧ Own eEl 37 w.heap.size w'.heap.size w' v (keepP P l) ∧ Below w.heap.size w w' := by
  have hlen := hr0.lenE
  have hr := Q.mk hr0
  have H := Q.mk H0
  clear hr0 H0
  go_enter Try.func65, Try.ntmps65
  go_wp2_with fail
  go_loopw [5, 10] (fun u i wr => ∃ j : Nat, j ≤ l.length ∧ i = .int .i64 j ∧ Q (Own eEl 37 w.heap.size wr.heap.size wr u (selP P l j)) ∧ Below w.heap.size w wr)
    (fun _ i _ => l.length - (intOf i).toNat)
  case atStart => exact ⟨0, Nat.zero_le _, rfl, ⟨(Own.nil _ _ _ _)⟩, Below.refl _ _⟩
  case round =>
    obtain ⟨j, hj, rfl, hO, hB⟩ := hrel
    have hz := hB.size
    by_cases hlt : j < l.length
    · obtain ⟨b, o, e, Ae, ce, rfl, hbN, he, hEOk, x0, x1, x2, x3, x4, x5, x6, x7, x8, x9, x10, x11⟩ := (hr.out.below hB hN).atE j hlt
      have he1 : l[j]? = some e := by simp [hlt, he]
      have hsl := selP_len P l j
      replace hEOk := Q.mk hEOk
      replace he := Q.mk he
      cases hp : P j
      · have HS : Q (selP P l (j + 1) = selP P l j) := ⟨by rw [selP]; simp [he1, hp]⟩
        replace hp := Q.mk hp
        replace he1 := Q.mk he1
        go_wp2_with (go_at_call 68; refine (H.out j _ hlt (hB.alloc hz _)).mono ?_; rw [hp.out]; rintro e2 w2 ⟨rfl, hb2⟩)
        have hz2 := hb2.size
        simp only [World.size_alloc] at hz2
        go_roundw
        case rel => exact ⟨j + 1, by omega, by go_num, ⟨by rw [HS.out]; exact ((hO.out.alloc _).below hb2 (by simp)).widen (by omega) (Nat.le_refl _)⟩, (hB.alloc hz _).trans (hb2.mono (by simp; omega))⟩
        case measure => simp [intOf]; omega
      · have HS : Q (selP P l (j + 1) = selP P l j ++ [e]) := ⟨by rw [selP]; simp [he1, hp]⟩
        replace hp := Q.mk hp
        replace he1 := Q.mk he1
        go_wp2_with (first
          | (go_at_call 68; refine (H.out j _ hlt (hB.alloc hz _)).mono ?_; rw [hp.out]; rintro e2 w2 ⟨rfl, hb2⟩; obtain ⟨hcc, hff, hsz2⟩ := bcell hb2; simp only [World.size_alloc] at hcc hff hsz2; have l1 : wr.heap.size < wr.heap.size + 1 := Nat.lt_succ_self _)
          | (go_at_call 109; refine (copied_v e.v Ae ce B0 N0 _ ((hEOk.out.v.alloc (by omega) _).below hb2 (by simp; omega)) (by omega)).mono ?_; rintro e2 w3 ⟨A4, c4, rfl, hv4, hb3⟩; obtain ⟨hcc3, hff3, hsz3⟩ := bcell hb3; have l2 : wr.heap.size < w2.heap.size := (by omega); replace hv4 := Q.mk hv4)
          | (at_builtin; (refine wpList_append1 _ rfl eEl (.tmp 22) (.tmp 24) 22 37 rfl Try.underlying22 infoE rfl (B := w.heap.size) (N := wr.heap.size) (B' := w2.heap.size) (N' := w3.heap.size) (y := e) (H := w3.heap.size) w.heap.size (by rfl) (by rfl) (heap_alloc_at _ _ (by simp only [size_set])) (((((((((hO.out.alloc _).below hb2 (by simp <;> omega)).below hb3 (by omega)).setCell (.inr (Nat.le_refl _)) _).setCell (.inr (Nat.le_refl _)) _).setCell (.inr (Nat.le_refl _)) _).setCell (.inr (Nat.le_refl _)) _).setCell (.inr (Nat.le_refl _)) _).alloc _) ⟨A4, c4, ⟨((((((hv4.out.set (.inl l2) _).set (.inl l2) _).set (.inl l2) _).set (.inl l2) _).set (.inl l2) _).alloc (by simp only [size_set] <;> omega) _), hEOk.out.p, hEOk.out.o, hEOk.out.q⟩, rfl⟩ (Or.inl (by omega)) (by simp only [World.size_alloc, size_set] <;> omega) (Nat.le_refl _) (by omega) (by simp only [World.size_alloc, size_set] <;> omega) (by decide) (by simp [eEl] <;> omega) ?_); intro g1 c1 w4 hO4 hg4 hat4))
        have BW : Below w.heap.size w w4 := hO.out.below_grown (((((((((hB.alloc hz _).trans (hb2.mono (by simp; omega))).trans (hb3.mono (by omega))).setCell hz _).setCell hz _).setCell hz _).setCell hz _).setCell hz _).alloc (by simp only [size_set]; omega) _) hg4 (Nat.le_refl _) (by simp only [World.size_alloc, size_set]; omega)
        clear hg4 hat4
        go_roundw
        case rel => exact ⟨j + 1, by omega, by go_num, ⟨by rw [HS.out]; exact hO4⟩, BW⟩
        case measure => simp [intOf]; omega
    · go_wp2
      go_ret
      obtain rfl : j = l.length := by omega
      exact ⟨_, rfl, hO.out, hB⟩
set_option maxHeartbeats 1000000 in
set_option maxRecDepth 100000 in
theorem those_d (l : List Ev) (A : Option Addr) (c B0 N0 : Nat) (w : World)  (P : Nat → Bool) (hr0 : Row eEl B0 N0 w A l) (hN : N0 ≤ w.heap.size) (hc : l.length ≤ c)
    (H0 : ∀ (j : Nat) (w1 : World), j < l.length → Below w.heap.size w w1 → Calls Try.prog 79 #[.int .i64 j] w1 fun e w2 => e = .returned (.bool (P j)) ∧ Below w1.heap.size w1 w2) :
    Calls Try.prog 65 #[.slice A l.length c, .func (.func 79) #[] #[]] w fun e w' => ∃ v, e = .returned v ∧ Own eEl 37 w.heap.size w'.heap.size w' v (keepP P l) ∧ Below w.heap.size w w' := by
  have hlen := hr0.lenE
  have hr := Q.mk hr0
  have H := Q.mk H0
  clear hr0 H0
  go_enter Try.func65, Try.ntmps65
  go_wp2_with fail
  go_loopw [5, 10] (fun u i wr => ∃ j : Nat, j ≤ l.length ∧ i = .int .i64 j ∧ Q (Own eEl 37 w.heap.size wr.heap.size wr u (selP P l j)) ∧ Below w.heap.size w wr)
    (fun _ i _ => l.length - (intOf i).toNat)
  case atStart => exact ⟨0, Nat.zero_le _, rfl, ⟨(Own.nil _ _ _ _)⟩, Below.refl _ _⟩
  case round =>
    obtain ⟨j, hj, rfl, hO, hB⟩ := hrel
    have hz := hB.size
    by_cases hlt : j < l.length
    · obtain ⟨b, o, e, Ae, ce, rfl, hbN, he, hEOk, x0, x1, x2, x3, x4, x5, x6, x7, x8, x9, x10, x11⟩ := (hr.out.below hB hN).atE j hlt
      have he1 : l[j]? = some e := by simp [hlt, he]
      have hsl := selP_len P l j
      replace hEOk := Q.mk hEOk
      replace he := Q.mk he
      cases hp : P j
      · have HS : Q (selP P l (j + 1) = selP P l j) := ⟨by rw [selP]; simp [he1, hp]⟩
        replace hp := Q.mk hp
        replace he1 := Q.mk he1
        go_wp2_with (go_at_call 79; refine (H.out j _ hlt (hB.alloc hz _)).mono ?_; rw [hp.out]; rintro e2 w2 ⟨rfl, hb2⟩)
        have hz2 := hb2.size
        simp only [World.size_alloc] at hz2
        go_roundw
        case rel => exact ⟨j + 1, by omega, by go_num, ⟨by rw [HS.out]; exact ((hO.out.alloc _).below hb2 (by simp)).widen (by omega) (Nat.le_refl _)⟩, (hB.alloc hz _).trans (hb2.mono (by simp; omega))⟩
        case measure => simp [intOf]; omega
      · have HS : Q (selP P l (j + 1) = selP P l j ++ [e]) := ⟨by rw [selP]; simp [he1, hp]⟩
        replace hp := Q.mk hp
        replace he1 := Q.mk he1
        go_wp2_with (first
          | (go_at_call 79; refine (H.out j _ hlt (hB.alloc hz _)).mono ?_; rw [hp.out]; rintro e2 w2 ⟨rfl, hb2⟩; obtain ⟨hcc, hff, hsz2⟩ := bcell hb2; simp only [World.size_alloc] at hcc hff hsz2; have l1 : wr.heap.size < wr.heap.size + 1 := Nat.lt_succ_self _)
          | (go_at_call 109; refine (copied_v e.v Ae ce B0 N0 _ ((hEOk.out.v.alloc (by omega) _).below hb2 (by simp; omega)) (by omega)).mono ?_; rintro e2 w3 ⟨A4, c4, rfl, hv4, hb3⟩; obtain ⟨hcc3, hff3, hsz3⟩ := bcell hb3; have l2 : wr.heap.size < w2.heap.size := (by omega); replace hv4 := Q.mk hv4)
          | (at_builtin; (refine wpList_append1 _ rfl eEl (.tmp 22) (.tmp 24) 22 37 rfl Try.underlying22 infoE rfl (B := w.heap.size) (N := wr.heap.size) (B' := w2.heap.size) (N' := w3.heap.size) (y := e) (H := w3.heap.size) w.heap.size (by rfl) (by rfl) (heap_alloc_at _ _ (by simp only [size_set])) (((((((((hO.out.alloc _).below hb2 (by simp <;> omega)).below hb3 (by omega)).setCell (.inr (Nat.le_refl _)) _).setCell (.inr (Nat.le_refl _)) _).setCell (.inr (Nat.le_refl _)) _).setCell (.inr (Nat.le_refl _)) _).setCell (.inr (Nat.le_refl _)) _).alloc _) ⟨A4, c4, ⟨((((((hv4.out.set (.inl l2) _).set (.inl l2) _).set (.inl l2) _).set (.inl l2) _).set (.inl l2) _).alloc (by simp only [size_set] <;> omega) _), hEOk.out.p, hEOk.out.o, hEOk.out.q⟩, rfl⟩ (Or.inl (by omega)) (by simp only [World.size_alloc, size_set] <;> omega) (Nat.le_refl _) (by omega) (by simp only [World.size_alloc, size_set] <;> omega) (by decide) (by simp [eEl] <;> omega) ?_); intro g1 c1 w4 hO4 hg4 hat4))
        have BW : Below w.heap.size w w4 := hO.out.below_grown (((((((((hB.alloc hz _).trans (hb2.mono (by simp; omega))).trans (hb3.mono (by omega))).setCell hz _).setCell hz _).setCell hz _).setCell hz _).setCell hz _).alloc (by simp only [size_set]; omega) _) hg4 (Nat.le_refl _) (by simp only [World.size_alloc, size_set]; omega)
        clear hg4 hat4
        go_roundw
        case rel => exact ⟨j + 1, by omega, by go_num, ⟨by rw [HS.out]; exact hO4⟩, BW⟩
        case measure => simp [intOf]; omega
    · go_wp2
      go_ret
      obtain rfl : j = l.length := by omega
      exact ⟨_, rfl, hO.out, hB⟩
set_option maxHeartbeats 1000000 in
set_option maxRecDepth 100000 in
theorem those_e (l : List Ev) (A : Option Addr) (c B0 N0 : Nat) (w : World)  (P : Nat → Bool) (hr0 : Row eEl B0 N0 w A l) (hN : N0 ≤ w.heap.size) (hc : l.length ≤ c)
    (H0 : ∀ (j : Nat) (w1 : World), j < l.length → Below w.heap.size w w1 → Calls Try.prog 88 #[.int .i64 j] w1 fun e w2 => e = .returned (.bool (P j)) ∧ Below w1.heap.size w1 w2) :
    Calls Try.prog 65 #[.slice A l.length c, .func (.func 88) #[] #[]] w fun e w' => ∃ v, e = .returned v ∧ Own eEl 37 w.heap.size w'.heap.size w' v (keepP P l) ∧ Below w.heap.size w w' := by
  have hlen := hr0.lenE
  have hr := Q.mk hr0
  have H := Q.mk H0
  clear hr0 H0
  go_enter Try.func65, Try.ntmps65
  go_wp2_with fail
  go_loopw [5, 10] (fun u i wr => ∃ j : Nat, j ≤ l.length ∧ i = .int .i64 j ∧ Q (Own eEl 37 w.heap.size wr.heap.size wr u (selP P l j)) ∧ Below w.heap.size w wr)
    (fun _ i _ => l.length - (intOf i).toNat)
  case atStart => exact ⟨0, Nat.zero_le _, rfl, ⟨(Own.nil _ _ _ _)⟩, Below.refl _ _⟩
  case round =>
    obtain ⟨j, hj, rfl, hO, hB⟩ := hrel
    have hz := hB.size
    by_cases hlt : j < l.length
    · obtain ⟨b, o, e, Ae, ce, rfl, hbN, he, hEOk, x0, x1, x2, x3, x4, x5, x6, x7, x8, x9, x10, x11⟩ := (hr.out.below hB hN).atE j hlt
      have he1 : l[j]? = some e := by simp [hlt, he]
      have hsl := selP_len P l j
      replace hEOk := Q.mk hEOk
      replace he := Q.mk he
      cases hp : P j
      · have HS : Q (selP P l (j + 1) = selP P l j) := ⟨by rw [selP]; simp [he1, hp]⟩
        replace hp := Q.mk hp
        replace he1 := Q.mk he1
        go_wp2_with (go_at_call 88; refine (H.out j _ hlt (hB.alloc hz _)).mono ?_; rw [hp.out]; rintro e2 w2 ⟨rfl, hb2⟩)
        have hz2 := hb2.size
        simp only [World.size_alloc] at hz2
        go_roundw
        case rel => exact ⟨j + 1, by omega, by go_num, ⟨by rw [HS.out]; exact ((hO.out.alloc _).below hb2 (by simp)).widen (by omega) (Nat.le_refl _)⟩, (hB.alloc hz _).trans (hb2.mono (by simp; omega))⟩
        case measure => simp [intOf]; omega
      · have HS : Q (selP P l (j + 1) = selP P l j ++ [e]) := ⟨by rw [selP]; simp [he1, hp]⟩
        replace hp := Q.mk hp
        replace he1 := Q.mk he1
        go_wp2_with (first
          | (go_at_call 88; refine (H.out j _ hlt (hB.alloc hz _)).mono ?_; rw [hp.out]; rintro e2 w2 ⟨rfl, hb2⟩; obtain ⟨hcc, hff, hsz2⟩ := bcell hb2; simp only [World.size_alloc] at hcc hff hsz2; have l1 : wr.heap.size < wr.heap.size + 1 := Nat.lt_succ_self _)
          | (go_at_call 109; refine (copied_v e.v Ae ce B0 N0 _ ((hEOk.out.v.alloc (by omega) _).below hb2 (by simp; omega)) (by omega)).mono ?_; rintro e2 w3 ⟨A4, c4, rfl, hv4, hb3⟩; obtain ⟨hcc3, hff3, hsz3⟩ := bcell hb3; have l2 : wr.heap.size < w2.heap.size := (by omega); replace hv4 := Q.mk hv4)
          | (at_builtin; (refine wpList_append1 _ rfl eEl (.tmp 22) (.tmp 24) 22 37 rfl Try.underlying22 infoE rfl (B := w.heap.size) (N := wr.heap.size) (B' := w2.heap.size) (N' := w3.heap.size) (y := e) (H := w3.heap.size) w.heap.size (by rfl) (by rfl) (heap_alloc_at _ _ (by simp only [size_set])) (((((((((hO.out.alloc _).below hb2 (by simp <;> omega)).below hb3 (by omega)).setCell (.inr (Nat.le_refl _)) _).setCell (.inr (Nat.le_refl _)) _).setCell (.inr (Nat.le_refl _)) _).setCell (.inr (Nat.le_refl _)) _).setCell (.inr (Nat.le_refl _)) _).alloc _) ⟨A4, c4, ⟨((((((hv4.out.set (.inl l2) _).set (.inl l2) _).set (.inl l2) _).set (.inl l2) _).set (.inl l2) _).alloc (by simp only [size_set] <;> omega) _), hEOk.out.p, hEOk.out.o, hEOk.out.q⟩, rfl⟩ (Or.inl (by omega)) (by simp only [World.size_alloc, size_set] <;> omega) (Nat.le_refl _) (by omega) (by simp only [World.size_alloc, size_set] <;> omega) (by decide) (by simp [eEl] <;> omega) ?_); intro g1 c1 w4 hO4 hg4 hat4))
        have BW : Below w.heap.size w w4 := hO.out.below_grown (((((((((hB.alloc hz _).trans (hb2.mono (by simp; omega))).trans (hb3.mono (by omega))).setCell hz _).setCell hz _).setCell hz _).setCell hz _).setCell hz _).alloc (by simp only [size_set]; omega) _) hg4 (Nat.le_refl _) (by simp only [World.size_alloc, size_set]; omega)
        clear hg4 hat4
        go_roundw
        case rel => exact ⟨j + 1, by omega, by go_num, ⟨by rw [HS.out]; exact hO4⟩, BW⟩
        case measure => simp [intOf]; omega
    · go_wp2
      go_ret
      obtain rfl : j = l.length := by omega
      exact ⟨_, rfl, hO.out, hB⟩
end Go.Proofs.Ytifakbipdmceiaa

import Derived.Test.YtifakbipdmceiaaCoversLK
import Derived.Test.YtifakbipdmceiaaJLawA24
import Derived.Test.YtifakbipdmceiaaJLawA48
set_option linter.unusedVariables false
set_option linter.unusedSimpArgs false
namespace Go.Proofs.Ytifakbipdmceiaa
open Go.RowKit Go.Proofs.YtifakbipdmceiaaW.PrintLast

set_option maxHeartbeats 8000000 in
set_option maxRecDepth 100000 in
theorem covers_law (l : List Ev) (A : Option Addr) (c B0 N0 : Nat) (w : World) (hx0 : Row eEl B0 N0 w A l) (hN : N0 ≤ w.heap.size) (hc : l.length ≤ c) :
    Calls Try.prog 7 #[.slice A l.length c] w fun e w' => e = .returned (.bool true) ∧ Below w.heap.size w w' := by
  have hlx := hx0.lenE
  have hx := Q.mk hx0
  clear hx0
  obtain ⟨o, ho⟩ : ∃ o, o = objectsP l := ⟨_, rfl⟩
  have arm1 : Q (Calls Try.prog 19 #[.slice A l.length c] w fun e w' => ∃ v, e = .returned v ∧ Own sEl 9 w.heap.size w'.heap.size w' v o ∧ Below w.heap.size w w') := ⟨by rw [ho]; exact objects_any l A c B0 N0 w hx.out hN hc⟩
  replace ho := Q.mk ho
  go_enter Try.func7, Try.ntmps7
  go_wp2_with (go_at_call 19; refine arm1.out.mono ?_; rintro e w1 ⟨v1, rfl, ho1, hb1⟩; obtain ⟨A1, c1, rfl, hc1, hr1⟩ := ho1.row; clear ho1; have hlo := hr1.lenS; replace hr1 := Q.mk hr1)
  clear arm1
  have z1 := hb1.size
  go_loopw [3, 5] (fun n i wr => ∃ j nn : Nat, j ≤ o.length ∧ i = .int .i64 j ∧ n = .int .i64 nn ∧ nn ≤ l.length ∧ Q (nn = nF l j) ∧ Below w1.heap.size w1 wr) (fun _ i _ => o.length - (intOf i).toNat)
  case atStart => exact ⟨0, 0, Nat.zero_le _, rfl, rfl, Nat.zero_le _, ⟨rfl⟩, Below.refl _ _⟩
  case round =>
    obtain ⟨j, nn, hj, rfl, rfl, hnn, hnF, hB⟩ := hrel
    obtain ⟨wo, rfl⟩ : ∃ wo : World, wo = wr := ⟨_, rfl⟩
    have hz := hB.size
    have BW : Below w.heap.size w wo := hb1.trans (hB.mono z1)
    by_cases hlt : j < o.length
    · obtain ⟨b, oo, rfl, hBb, hNb, hss, x0⟩ := (hr1.out.below hB (Nat.le_refl _)).atS j hlt
      obtain ⟨s, hs⟩ : ∃ s, s = o[j] := ⟨_, rfl⟩
      rw [← hs] at x0
      have hmem : s ∈ objectsP l := by rw [hs, ← ho.out]; exact List.getElem_mem hlt
      have hn1 : nF l (j + 1) = nF l j + (objectP l s).length := by
        have h1 : j < (objectsP l).length := by rw [← ho.out]; exact hlt
        have h2 := nF_succ l j h1
        have h3 : (objectsP l)[j] = s := by rw [hs]; congr 1; exact ho.out.symm
        rw [h3] at h2
        exact h2
      have hle := nF_le l (j + 1)
      have e1 := object_object l s
      have e2 := objects_part l s hmem
      obtain ⟨p, hp⟩ : ∃ p, p = objectP l s := ⟨_, rfl⟩
      rw [← hp] at e1 e2 hn1
      have hpl : nn + p.length ≤ l.length := by have := hnF.out; omega
      have hnF1 : Q (nn + p.length = nF l (j + 1)) := ⟨by have := hnF.out; omega⟩
      have ARM1 : Q (Calls Try.prog 15 #[.slice A l.length c, .string s] wo fun e w' => ∃ A' c', e = .returned (.slice A' p.length c') ∧ p.length ≤ c' ∧ Row eEl wo.heap.size w'.heap.size w' A' p ∧ Below wo.heap.size wo w') := ⟨(object_any l A c B0 N0 s wo (hx.out.below BW hN) (by omega) hc).mono fun e w' ⟨v, h, ho', hb⟩ => by
        rw [← hp] at ho'
        obtain ⟨A', c', rfl, hc', hr'⟩ := ho'.row
        exact ⟨A', c', h, hc', hr', hb⟩⟩
      have ARM2 : Q (∀ (w2 : World) (A' : Option Addr) (c' : Nat), Row eEl 0 w2.heap.size w2 A' p → p.length ≤ c' → Calls Try.prog 19 #[.slice A' p.length c'] w2 fun e w' => ∃ b' c2, e = .returned (.slice (some ⟨b', 0, none⟩) 1 c2) ∧ w'.cell? ⟨b', 0, none⟩ = some (.string s) ∧ b' < w'.heap.size ∧ Below w2.heap.size w2 w') := ⟨fun w2 A' c' h1 h2 => (objects_any p A' c' 0 w2.heap.size w2 h1 (Nat.le_refl _) h2).mono fun e w' ⟨v, h, ho', hb⟩ => by
        rw [e2] at ho'
        have hown := ho'
        obtain ⟨A'', c'', rfl, hc'', hr''⟩ := ho'.row
        obtain ⟨b', o', hA, _, hb', _, hcell⟩ := hr''.atS 0 (by simp)
        subst hA
        have h0 : o' = 0 := by
          obtain ⟨_, _, cs, S, h5, _⟩ := hown
          rcases h5.2 with ⟨h6, _⟩ | ⟨g, cap, cur, h6, _⟩
          · cases h6
          · have h7 := (Value.slice.inj h6).1
            have h8 := Option.some.inj h7
            exact congrArg Addr.off h8
        subst h0
        exact ⟨b', c'', h, by simpa using hcell, hb', hb⟩⟩
      have ARM3 : Q (∀ (w2 : World) (A' : Option Addr) (c' : Nat), Row eEl 0 w2.heap.size w2 A' p → p.length ≤ c' → Calls Try.prog 15 #[.slice A' p.length c', .string s] w2 fun e w' => ∃ A3 c3, e = .returned (.slice A3 p.length c3) ∧ Row eEl 0 w'.heap.size w' A3 p ∧ Below w2.heap.size w2 w') := ⟨fun w2 A' c' h1 h2 => (object_any p A' c' 0 w2.heap.size s w2 h1 (Nat.le_refl _) h2).mono fun e w' ⟨v, h, ho', hb⟩ => by
        rw [e1] at ho'
        obtain ⟨A3, c3, rfl, hc3, hr3⟩ := ho'.row
        exact ⟨A3, c3, h, hr3.mono (Nat.zero_le _) (Nat.le_refl _), hb⟩⟩
      have ARM4 : Q (∀ (w2 : World) (A3 A4 : Option Addr) (c3 c4 : Nat), Row eEl 0 w2.heap.size w2 A3 p → Row eEl 0 w2.heap.size w2 A4 p → Calls Try.prog 23 #[.slice A3 p.length c3, .slice A4 p.length c4] w2 fun e w' => e = .returned (.bool true) ∧ Below w2.heap.size w2 w') := ⟨fun w2 A3 A4 c3 c4 h1 h2 => by
        have h := Exact_ref p p A3 A4 c3 c4 0 w2.heap.size w2 h1 h2 (Nat.le_refl _)
        rw [exEs_self] at h
        exact h⟩
      have lb : b < wo.heap.size := by omega
      clear hs hmem hn1 hle e1 e2 hp hnF
      go_wp2_with (first
        | (go_at_call 15; refine ARM1.out.mono ?_; rintro e w2 ⟨A2, c2, rfl, hc2, hr2, hb2⟩; obtain ⟨hcc2, hff2, z2⟩ := bcell hb2; replace hr2 := Q.mk hr2)
        | (go_at_call 19; refine (ARM2.out _ _ _ (hr2.out.mono (Nat.zero_le _) (Nat.le_refl _)) hc2).mono ?_; rintro e w3 ⟨b3, c3, rfl, q0, lb3, hb3⟩; obtain ⟨hcc3, hff3, z3⟩ := bcell hb3))
      have lb2 : b < w2.heap.size := by omega
      have x2 := ((hcc3 b (oo + j) lb2).trans (hcc2 b (oo + j) lb)).trans x0
      have R3 : Q (Row eEl 0 w3.heap.size w3 A2 p) := ⟨(hr2.out.below hb3 (Nat.le_refl _)).mono (Nat.zero_le _) z3⟩
      refine start_ (n := 24) (S := fun w' => Q True ∧ w'.cell? ⟨b3, 0, none⟩ = some (.string s) ∧ w'.cell? ⟨b, oo + j, none⟩ = some (.string s)) (ds := []) #[false, false, false, false, false, false, false, false, false, false, false, false, false, false, false, false, false, false, false, false, false, false, false, false] (by kernel_rfl) rfl rfl ⟨⟨trivial⟩, by go_keep⟩ (fun hHeld => ?_)
      refine pure_ (i := 0) (N := some 31) (v := ?_) (a' := ?_) #[true, false, false, false, false, false, false, false, false, false, false, false, false, false, false, false, false, false, false, false, false, false, false, false] rfl rfl (by kernel_rfl) (fun _ _ _ h => h) (Or.inl ⟨by rfl, ?_⟩) ?_ ?_
      rotate_left
      · intro w'
        go_simp
        with_reducible rfl
      rotate_left
      · simp only [Act.put, List.setIfInBounds_toArray, List.set_cons_zero, List.set_cons_succ, i64_w, i32_w]
        rfl
      refine pure_ (i := 1) (N := some 32) (v := ?_) (a' := ?_) #[true, true, false, false, false, false, false, false, false, false, false, false, false, false, false, false, false, false, false, false, false, false, false, false] rfl rfl (by kernel_rfl) (fun _ _ _ h => h) (Or.inl ⟨by rfl, ?_⟩) ?_ ?_
      rotate_left
      · intro w'
        go_simp
        with_reducible rfl
      rotate_left
      · simp only [Act.put, List.setIfInBounds_toArray, List.set_cons_zero, List.set_cons_succ, i64_w, i32_w]
        rfl
      refine pure_ (i := 2) (N := some 33) (v := ?_) (a' := ?_) #[true, true, true, false, false, false, false, false, false, false, false, false, false, false, false, false, false, false, false, false, false, false, false, false] rfl rfl (by kernel_rfl) (fun _ _ _ h => h) (Or.inl ⟨by rfl, ?_⟩) ?_ ?_
      rotate_left
      · intro w'
        go_simp
        with_reducible rfl
      rotate_left
      · simp only [Act.put, List.setIfInBounds_toArray, List.set_cons_zero, List.set_cons_succ, i64_w, i32_w]
        rfl
      refine pure_ (i := 3) (N := some 34) (v := ?_) (a' := ?_) #[true, true, true, true, false, false, false, false, false, false, false, false, false, false, false, false, false, false, false, false, false, false, false, false] rfl rfl (by kernel_rfl) (fun _ _ _ h => h) (Or.inl ⟨by rfl, ?_⟩) ?_ ?_
      rotate_left
      · intro w'
        go_simp
        with_reducible rfl
      rotate_left
      · simp only [Act.put, List.setIfInBounds_toArray, List.set_cons_zero, List.set_cons_succ, i64_w, i32_w]
        rfl
      refine pure_ (i := 4) (N := some 35) (v := ?_) (a' := ?_) #[true, true, true, true, true, false, false, false, false, false, false, false, false, false, false, false, false, false, false, false, false, false, false, false] rfl rfl (by kernel_rfl) (fun _ _ _ h => h) (Or.inl ⟨by rfl, ?_⟩) ?_ ?_
      rotate_left
      · intro w'
        go_simp
        with_reducible rfl
      rotate_left
      · simp only [Act.put, List.setIfInBounds_toArray, List.set_cons_zero, List.set_cons_succ, i64_w, i32_w]
        rfl
      refine pure_ (i := 5) (N := some 36) (v := ?_) (a' := ?_) #[true, true, true, true, true, true, false, false, false, false, false, false, false, false, false, false, false, false, false, false, false, false, false, false] rfl rfl (by kernel_rfl) (fun _ _ _ h => h) (Or.inl ⟨by rfl, ?_⟩) ?_ ?_
      rotate_left
      · intro w'
        go_simp
        with_reducible rfl
      rotate_left
      · simp only [Act.put, List.setIfInBounds_toArray, List.set_cons_zero, List.set_cons_succ, i64_w, i32_w]
        rfl
      refine take_ (i := 6) (N := some 37) (v := ?_) (a' := ?_) #[true, true, true, true, true, true, true, false, false, false, false, false, false, false, false, false, false, false, false, false, false, false, false, false] rfl rfl (by kernel_rfl) (fun _ _ _ h => h) (Or.inl ⟨by rfl, ?_⟩) hHeld ?_ ?_
      rotate_left
      · rintro w' ⟨s0_, s1_, s2_⟩
        go_simp
        with_reducible rfl
      rotate_left
      · simp only [Act.put, List.setIfInBounds_toArray, List.set_cons_zero, List.set_cons_succ, i64_w, i32_w]
        rfl
      refine pure_ (i := 7) (N := some 38) (v := ?_) (a' := ?_) #[true, true, true, true, true, true, true, true, false, false, false, false, false, false, false, false, false, false, false, false, false, false, false, false] rfl rfl (by kernel_rfl) (fun _ _ _ h => h) (Or.inl ⟨by rfl, ?_⟩) ?_ ?_
      rotate_left
      · intro w'
        go_simp
        with_reducible rfl
      rotate_left
      · simp only [Act.put, List.setIfInBounds_toArray, List.set_cons_zero, List.set_cons_succ, i64_w, i32_w]
        rfl
      refine pure_ (i := 8) (N := some 39) (v := ?_) (a' := ?_) #[true, true, true, true, true, true, true, true, true, false, false, false, false, false, false, false, false, false, false, false, false, false, false, false] rfl rfl (by kernel_rfl) (fun _ _ _ h => h) (Or.inl ⟨by rfl, ?_⟩) ?_ ?_
      rotate_left
      · intro w'
        go_simp
        with_reducible rfl
      rotate_left
      · simp only [Act.put, List.setIfInBounds_toArray, List.set_cons_zero, List.set_cons_succ, i64_w, i32_w]
        rfl
      refine pure_ (i := 9) (N := some 40) (v := ?_) (a' := ?_) #[true, true, true, true, true, true, true, true, true, true, false, false, false, false, false, false, false, false, false, false, false, false, false, false] rfl rfl (by kernel_rfl) (fun _ _ _ h => h) (Or.inl ⟨by rfl, ?_⟩) ?_ ?_
      rotate_left
      · intro w'
        go_simp
        with_reducible rfl
      rotate_left
      · simp only [Act.put, List.setIfInBounds_toArray, List.set_cons_zero, List.set_cons_succ, i64_w, i32_w]
        rfl
      refine take_ (i := 10) (N := some 41) (v := ?_) (a' := ?_) #[true, true, true, true, true, true, true, true, true, true, true, false, false, false, false, false, false, false, false, false, false, false, false, false] rfl rfl (by kernel_rfl) (fun _ _ _ h => h) (Or.inl ⟨by rfl, ?_⟩) hHeld ?_ ?_
      rotate_left
      · rintro w' ⟨s0_, s1_, s2_⟩
        go_simp
        with_reducible rfl
      rotate_left
      · simp only [Act.put, List.setIfInBounds_toArray, List.set_cons_zero, List.set_cons_succ, i64_w, i32_w]
        rfl
      refine pure_ (i := 11) (N := some 42) (v := ?_) (a' := ?_) #[true, true, true, true, true, true, true, true, true, true, true, true, false, false, false, false, false, false, false, false, false, false, false, false] rfl rfl (by kernel_rfl) (fun _ _ _ h => h) (Or.inl ⟨by rfl, ?_⟩) ?_ ?_
      rotate_left
      · intro w'
        go_simp
        with_reducible rfl
      rotate_left
      · simp only [Act.put, List.setIfInBounds_toArray, List.set_cons_zero, List.set_cons_succ, i64_w, i32_w]
        rfl
      refine pure_ (i := 12) (N := some 43) (v := ?_) (a' := ?_) #[true, true, true, true, true, true, true, true, true, true, true, true, true, false, false, false, false, false, false, false, false, false, false, false] rfl rfl (by kernel_rfl) (fun _ _ _ h => h) (Or.inl ⟨by rfl, ?_⟩) ?_ ?_
      rotate_left
      · intro w'
        go_simp
        with_reducible rfl
      rotate_left
      · simp only [Act.put, List.setIfInBounds_toArray, List.set_cons_zero, List.set_cons_succ, i64_w, i32_w]
        rfl
      refine pure_ (i := 13) (N := some 44) (v := ?_) (a' := ?_) #[true, true, true, true, true, true, true, true, true, true, true, true, true, true, false, false, false, false, false, false, false, false, false, false] rfl rfl (by kernel_rfl) (fun _ _ _ h => h) (Or.inl ⟨by rfl, ?_⟩) ?_ ?_
      rotate_left
      · intro w'
        go_simp
        with_reducible rfl
      rotate_left
      · simp only [Act.put, List.setIfInBounds_toArray, List.set_cons_zero, List.set_cons_succ, i64_w, i32_w]
        rfl
      refine pure_ (i := 14) (N := some 45) (v := ?_) (a' := ?_) #[true, true, true, true, true, true, true, true, true, true, true, true, true, true, true, false, false, false, false, false, false, false, false, false] rfl rfl (by kernel_rfl) (fun _ _ _ h => h) (Or.inl ⟨by rfl, ?_⟩) ?_ ?_
      rotate_left
      · intro w'
        go_simp
        with_reducible rfl
      rotate_left
      · simp only [Act.put, List.setIfInBounds_toArray, List.set_cons_zero, List.set_cons_succ, i64_w, i32_w]
        rfl
      refine pure_ (i := 15) (N := some 46) (v := ?_) (a' := ?_) #[true, true, true, true, true, true, true, true, true, true, true, true, true, true, true, true, false, false, false, false, false, false, false, false] rfl rfl (by kernel_rfl) (fun _ _ _ h => h) (Or.inl ⟨by rfl, ?_⟩) ?_ ?_
      rotate_left
      · intro w'
        go_simp
        with_reducible rfl
      rotate_left
      · simp only [Act.put, List.setIfInBounds_toArray, List.set_cons_zero, List.set_cons_succ, i64_w, i32_w]
        rfl
      refine pure_ (i := 16) (N := some 47) (v := ?_) (a' := ?_) #[true, true, true, true, true, true, true, true, true, true, true, true, true, true, true, true, true, false, false, false, false, false, false, false] rfl rfl (by kernel_rfl) (fun _ _ _ h => h) (Or.inl ⟨by rfl, ?_⟩) ?_ ?_
      rotate_left
      · intro w'
        go_simp
        with_reducible rfl
      rotate_left
      · simp only [Act.put, List.setIfInBounds_toArray, List.set_cons_zero, List.set_cons_succ, i64_w, i32_w]
        rfl
      refine pure_ (i := 17) (N := some 48) (v := ?_) (a' := ?_) #[true, true, true, true, true, true, true, true, true, true, true, true, true, true, true, true, true, true, false, false, false, false, false, false] rfl rfl (by kernel_rfl) (fun _ _ _ h => h) (Or.inl ⟨by rfl, ?_⟩) ?_ ?_
      rotate_left
      · intro w'
        go_simp
        with_reducible rfl
      rotate_left
      · simp only [Act.put, List.setIfInBounds_toArray, List.set_cons_zero, List.set_cons_succ, i64_w, i32_w]
        rfl
      refine pure_ (i := 20) (N := some 51) (v := ?_) (a' := ?_) #[true, true, true, true, true, true, true, true, true, true, true, true, true, true, true, true, true, true, false, false, true, false, false, false] rfl rfl (by kernel_rfl) (fun _ _ _ h => h) (Or.inl ⟨by rfl, ?_⟩) ?_ ?_
      rotate_left
      · intro w'
        go_simp
        with_reducible rfl
      rotate_left
      · simp only [Act.put, List.setIfInBounds_toArray, List.set_cons_zero, List.set_cons_succ, i64_w, i32_w]
        rfl
      refine take_ (i := 18) (N := some 49) (v := ?_) (a' := ?_) #[true, true, true, true, true, true, true, true, true, true, true, true, true, true, true, true, true, true, true, false, true, false, false, false] rfl rfl (by kernel_rfl) (fun _ _ _ h => h) (Or.inl ⟨by rfl, ?_⟩) hHeld ?_ ?_
      rotate_left
      · rintro w' ⟨s0_, s1_, s2_⟩
        go_simp
        with_reducible rfl
      rotate_left
      · simp only [Act.put, List.setIfInBounds_toArray, List.set_cons_zero, List.set_cons_succ, i64_w, i32_w]
        rfl
      refine one_ (i := 19) (N := some 50) #[true, true, true, true, true, true, true, true, true, true, true, true, true, true, true, true, true, true, true, true, true, false, false, false] rfl rfl (by kernel_rfl) (by decide) (fun K hK => ?_)
      refine goes_ Try.func15 (by kernel_rfl) rfl #[.slice A2 p.length c2, .string s] (by rfl) rfl rfl (by (try simp only [List.map_toArray, List.map_cons, List.map_nil]); first | done | rfl) ?_
      refine (ARM3.out _ _ _ R3.out.drew hc2).mono ?_
      rintro e4 w4 ⟨A4, c4, rfl, hr4, hb4⟩
      replace hr4 := Q.mk hr4
      obtain ⟨hcc4, hff4, z4⟩ := bcell hb4
      simp only [World.size_drew] at hcc4 hff4 z4
      have l3 : b < w3.heap.size := (by omega)
      refine ⟨_, rfl, ?_⟩
      refine hK.out _ _ ⟨⟨trivial⟩, by go_keep⟩ (fun hHeld => ?_)
      clear hK K
      refine norm_ (a' := ?_) ?_ ?_
      rotate_left
      · show Act.put _ (some 50) _ = _
        simp only [Act.put, List.setIfInBounds_toArray, List.set_cons_zero, List.set_cons_succ, i64_w, i32_w]
        rfl
      refine one_ (i := 21) (N := some 52) #[true, true, true, true, true, true, true, true, true, true, true, true, true, true, true, true, true, true, true, true, true, true, false, false] rfl rfl (by kernel_rfl) (by decide) (fun K hK => ?_)
      refine goes_ Try.func23 (by kernel_rfl) rfl #[.slice A4 p.length c4, .slice A2 p.length c2] (by rfl) rfl rfl (by (try simp only [List.map_toArray, List.map_cons, List.map_nil]); first | done | rfl) ?_
      refine (ARM4.out _ _ _ _ _ hr4.out ((R3.out.drew.below hb4 (Nat.le_refl _)).mono (Nat.le_refl _) z4)).mono ?_
      rintro e5 w5 ⟨rfl, hb5⟩
      obtain ⟨hcc5, hff5, z5⟩ := bcell hb5
      have l4 : b < w4.heap.size := (by omega)
      have l5 : b3 < w4.heap.size := (by omega)
      refine ⟨_, rfl, ?_⟩
      refine hK.out _ _ ⟨⟨trivial⟩, by go_keep⟩ (fun hHeld => ?_)
      clear hK K
      refine norm_ (a' := ?_) ?_ ?_
      rotate_left
      · show Act.put _ (some 52) _ = _
        simp only [Act.put, List.setIfInBounds_toArray, List.set_cons_zero, List.set_cons_succ, i64_w, i32_w]
        rfl
      refine pure_ (i := 22) (N := some 53) (v := ?_) (a' := ?_) #[true, true, true, true, true, true, true, true, true, true, true, true, true, true, true, true, true, true, true, true, true, true, true, false] rfl rfl (by kernel_rfl) (fun _ _ _ h => h) (Or.inl ⟨by rfl, ?_⟩) ?_ ?_
      rotate_left
      · intro w'
        go_simp
        with_reducible rfl
      rotate_left
      · simp only [Act.put, List.setIfInBounds_toArray, List.set_cons_zero, List.set_cons_succ, i64_w, i32_w]
        rfl
      refine pure_ (i := 23) (N := some 54) (v := ?_) (a' := ?_) #[true, true, true, true, true, true, true, true, true, true, true, true, true, true, true, true, true, true, true, true, true, true, true, true] rfl rfl (by kernel_rfl) (fun _ _ _ h => h) (Or.inl ⟨by rfl, ?_⟩) ?_ ?_
      rotate_left
      · intro w'
        go_simp
        with_reducible rfl
      rotate_left
      · simp only [Act.put, List.setIfInBounds_toArray, List.set_cons_zero, List.set_cons_succ, i64_w, i32_w]
        rfl
      refine done_ (by kernel_rfl) ?_
      have B5 : Below w1.heap.size w1 w5 := ((((hB.trans (hb2.mono hz)).trans (hb3.mono (by omega))).drew.trans (hb4.mono (by simp; omega))).trans (hb5.mono (by omega)))
      go_wp2_with fail
      go_roundw
      case rel => exact ⟨j + 1, nn + p.length, by omega, by go_num, by go_num, hpl, hnF1, B5⟩
      case measure => simp [intOf]; omega
    · obtain rfl : j = o.length := by omega
      have hnm : Q (nn = mF l l.length) := ⟨by rw [hnF.out, ho.out, nF_all]⟩
      clear hnF hr1
      go_wp2_with fail
      go_loopw [8, 9] (fun m i wr => ∃ k mm : Nat, k ≤ l.length ∧ mm ≤ k ∧ i = .int .i64 k ∧ m = .int .i64 mm ∧ Q (mm = mF l k) ∧ Below w.heap.size w wr) (fun _ i _ => l.length - (intOf i).toNat)
      case atStart => exact ⟨0, 0, Nat.zero_le _, Nat.le_refl _, rfl, rfl, ⟨rfl⟩, BW⟩
      case round =>
        clear BW hB hz
        obtain ⟨k, mm, hk, hmk, rfl, rfl, hmF, hB⟩ := hrel
        have hz := hB.size
        by_cases hlt : k < l.length
        · obtain ⟨b, oo, e, Ae, ce, rfl, hbN, he, hEOk, x0, _⟩ := (hx.out.below hB hN).atE k hlt
          have he1 : l[k]? = some e := by simp [hlt, he]
          have hst : mF l (k + 1) = mF l k + (if ((e.k == 1) || ((e.k == 2) && decide (0 ≤ callR l k))) = true then 1 else 0) := by rw [mF, cntB, he1]
          obtain ⟨cc, hcc⟩ : ∃ cc, cc = callR l k := ⟨_, rfl⟩
          rw [← hcc] at hst
          have ARM : Q (Calls Try.prog 37 #[.slice (some ⟨b, oo, none⟩) l.length c, .int .i64 k] wr fun e w' => e = .returned (.int .i64 cc) ∧ Below wr.heap.size wr w') := ⟨by rw [hcc]; exact Call_ref l _ c B0 N0 k wr (hx.out.below hB hN) (by omega) hlt⟩
          replace hst := Q.mk hst
          clear hcc he he1 hEOk
          by_cases k1 : e.k = 1
          · have t1 : (e.k == 1) = true := by simp [k1]
            have HM : Q (mm + 1 = mF l (k + 1)) := ⟨by rw [hst.out, t1, ← hmF.out]; rfl⟩
            clear k1 hst
            go_wp2_with fail
            go_roundw
            case rel => exact ⟨k + 1, mm + 1, by omega, by omega, by go_num, by go_num, HM, hB⟩
            case measure => simp [intOf]; omega
          · have t1 : (e.k == 1) = false := by simp [k1]
            by_cases k2 : e.k = 2
            · have t2 : (e.k == 2) = true := by simp [k2]
              by_cases h0 : 0 ≤ cc
              · have t3 : decide (0 ≤ cc) = true := by simp [h0]
                have HM : Q (mm + 1 = mF l (k + 1)) := ⟨by rw [hst.out, t1, t2, t3, ← hmF.out]; rfl⟩
                clear k1 k2 hst
                go_wp2_with (go_at_call 37; refine ARM.out.mono ?_; rintro e2 w3 ⟨rfl, hb3⟩)
                go_roundw
                case rel => exact ⟨k + 1, mm + 1, by omega, by omega, by go_num, by go_num, HM, hB.trans (hb3.mono hz)⟩
                case measure => simp [intOf]; omega
              · have t3 : decide (0 ≤ cc) = false := by simp; omega
                have HM : Q (mm = mF l (k + 1)) := ⟨by rw [hst.out, t1, t2, t3, ← hmF.out]; rfl⟩
                clear k1 k2 hst
                go_wp2_with (go_at_call 37; refine ARM.out.mono ?_; rintro e2 w3 ⟨rfl, hb3⟩)
                go_roundw
                case rel => exact ⟨k + 1, mm, by omega, by omega, by go_num, rfl, HM, hB.trans (hb3.mono hz)⟩
                case measure => simp [intOf]; omega
            · have t2 : (e.k == 2) = false := by simp [k2]
              have HM : Q (mm = mF l (k + 1)) := ⟨by rw [hst.out, t1, t2, ← hmF.out]; rfl⟩
              clear k1 k2 hst
              go_wp2_with fail
              go_roundw
              case rel => exact ⟨k + 1, mm, by omega, by omega, by go_num, rfl, HM, hB⟩
              case measure => simp [intOf]; omega
        · obtain rfl : k = l.length := by omega
          have hnm' : nn = mm := hnm.out.trans hmF.out.symm
          have t0 : ((nn : Int) == (mm : Int)) = true := by simp [hnm']
          have e3 := whole_whole l
          obtain ⟨p, hp⟩ : ∃ p, p = wholeP l := ⟨_, rfl⟩
          rw [← hp] at e3
          have ARM1 : Q (Calls Try.prog 17 #[.slice A l.length c] wr fun e w' => ∃ A' c', e = .returned (.slice A' p.length c') ∧ p.length ≤ c' ∧ Row eEl 0 w'.heap.size w' A' p ∧ Below wr.heap.size wr w') := ⟨(whole_any l A c B0 N0 wr (hx.out.below hB hN) (by omega) hc).mono fun e w' ⟨v, h, ho', hb⟩ => by
            rw [← hp] at ho'
            obtain ⟨A', c', rfl, hc', hr'⟩ := ho'.row
            exact ⟨A', c', h, hc', hr'.mono (Nat.zero_le _) (Nat.le_refl _), hb⟩⟩
          have ARM2 : Q (∀ (w2 : World) (A' : Option Addr) (c' : Nat), Row eEl 0 w2.heap.size w2 A' p → p.length ≤ c' → Calls Try.prog 17 #[.slice A' p.length c'] w2 fun e w' => ∃ A3 c3, e = .returned (.slice A3 p.length c3) ∧ Row eEl 0 w'.heap.size w' A3 p ∧ Below w2.heap.size w2 w') := ⟨fun w2 A' c' h1 h2 => (whole_any p A' c' 0 w2.heap.size w2 h1 (Nat.le_refl _) h2).mono fun e w' ⟨v, h, ho', hb⟩ => by
            rw [e3] at ho'
            obtain ⟨A3, c3, rfl, hc3, hr3⟩ := ho'.row
            exact ⟨A3, c3, h, hr3.mono (Nat.zero_le _) (Nat.le_refl _), hb⟩⟩
          have ARM4 : Q (∀ (w2 : World) (A3 A4 : Option Addr) (c3 c4 : Nat), Row eEl 0 w2.heap.size w2 A3 p → Row eEl 0 w2.heap.size w2 A4 p → Calls Try.prog 23 #[.slice A3 p.length c3, .slice A4 p.length c4] w2 fun e w' => e = .returned (.bool true) ∧ Below w2.heap.size w2 w') := ⟨fun w2 A3 A4 c3 c4 h1 h2 => by
            have h := Exact_ref p p A3 A4 c3 c4 0 w2.heap.size w2 h1 h2 (Nat.le_refl _)
            rw [exEs_self] at h
            exact h⟩
          clear hp e3 hnm' hnm hmF
          go_wp2_with (first
            | (go_at_call 17; with_reducible refine ARM1.out.mono ?_; rintro e w2 ⟨A2, c2, rfl, hc2, hr2, hb2⟩; have z2 := hb2.size; replace hr2 := Q.mk hr2)
            | (go_at_call 17; with_reducible refine (ARM2.out _ _ _ hr2.out hc2).mono ?_; rintro e w3 ⟨A3, c3, rfl, hr3, hb3⟩; have z3 := hb3.size; replace hr3 := Q.mk hr3)
            | (go_at_call 23; refine (ARM4.out _ _ _ _ _ hr3.out ((hr2.out.below hb3 (Nat.le_refl _)).mono (Nat.le_refl _) z3)).mono ?_; rintro e w4 ⟨rfl, hb4⟩; have z4 := hb4.size)
            | (go_at_call 27; refine (alive_any _).mono ?_; rintro e w5 ⟨rfl, hb5⟩))
          go_ret
          exact ⟨rfl, (((hB.trans (hb2.mono hz)).trans (hb3.mono (by omega))).trans (hb4.mono (by omega))).trans (hb5.mono (by omega))⟩
end Go.Proofs.Ytifakbipdmceiaa

import Derived.Test.YtifakbipdmceiaaFoundLK
import Derived.Test.YtifakbipdmceiaaJLaw351
set_option linter.unusedVariables false
set_option linter.unusedSimpArgs false
namespace Go.Proofs.Ytifakbipdmceiaa
open Go.RowKit Go.Proofs.YtifakbipdmceiaaW.PrintLast

section
variable {l : List Ev} {A : Option Addr} {c B0 N0 : Nat} {w : World}
theorem found_len (hr : Row eEl B0 N0 w A l) (hN : N0 ≤ w.heap.size) (hc : l.length ≤ c) {n : Nat} (hn : (objectsP l).length = n) :
    Calls Try.prog 19 #[.slice A l.length c] w fun e w' => ∃ A1 c1, e = .returned (.slice A1 n c1) ∧ Below w.heap.size w w' := by
  refine (objects_any l A c B0 N0 w hr hN hc).mono ?_
  rintro e w' ⟨v, rfl, ho, hb⟩
  obtain ⟨A1, c1, rfl, k1, k2⟩ := ho.row
  exact ⟨A1, c1, by rw [hn], hb⟩
theorem found_two (hr : Row eEl B0 N0 w A l) (hN : N0 ≤ w.heap.size) (hc : l.length ≤ c) {o0 o1 : ByteArray} (hn : objectsP l = [o0, o1]) :
    Calls Try.prog 19 #[.slice A l.length c] w fun e w' => ∃ b o c1, e = .returned (.slice (some ⟨b, o, none⟩) 2 c1) ∧ b < w'.heap.size ∧ w'.cell? ⟨b, o, none⟩ = some (.string o0) ∧ w'.cell? ⟨b, o + 1, none⟩ = some (.string o1) ∧ Below w.heap.size w w' := by
  refine (objects_any l A c B0 N0 w hr hN hc).mono ?_
  rintro e w' ⟨v, rfl, ho, hb⟩
  rw [hn] at ho
  obtain ⟨A1, c1, rfl, k1, k2⟩ := ho.row
  obtain ⟨b, o, rfl, _, hlt, _, h0⟩ := k2.atS 0 (by simp)
  obtain ⟨b', o', hA, _, _, _, h1⟩ := k2.atS 1 (by simp)
  cases hA
  exact ⟨b, o, c1, rfl, hlt, h0, h1, hb⟩
theorem found_object {x : List Ev} {o0 : ByteArray} (hx : Q (x = objectP l o0)) (hr : Row eEl B0 N0 w A l) (hN : N0 ≤ w.heap.size) (hc : l.length ≤ c) :
    Calls Try.prog 15 #[.slice A l.length c, .string o0] w fun e w' => ∃ A1 c1, e = .returned (.slice A1 x.length c1) ∧ x.length ≤ c1 ∧ Row eEl 0 w'.heap.size w' A1 x ∧ Below w.heap.size w w' := by
  refine (object_any l A c B0 N0 o0 w hr hN hc).mono ?_
  rintro e w' ⟨v, rfl, ho, hb⟩
  rw [← hx.out] at ho
  obtain ⟨A1, c1, rfl, k1, k2⟩ := ho.row
  exact ⟨A1, c1, rfl, k1, k2.mono (Nat.zero_le _) (Nat.le_refl _), hb⟩
theorem found_rows {x y : List Ev} {ms : List (List Ev)} (hm : Q (ms = (mergesL [] x y).take 1000)) {Ax Ay : Option Addr} {cx cy : Nat} (hx : Row eEl B0 N0 w Ax x) (hy : Row eEl B0 N0 w Ay y) (hN : N0 ≤ w.heap.size) (hcx : x.length ≤ cx) (hcy : y.length ≤ cy) (hl : x.length + y.length ≤ 10) :
    Calls Try.prog 38 #[.slice Ax x.length cx, .slice Ay y.length cy, .int .i64 1000] w fun e w' => ∃ A1 c1, e = .returned (.slice A1 ms.length c1) ∧ Row rEl 0 w'.heap.size w' A1 ms ∧ Below w.heap.size w w' := by
  refine (rows_any x y Ax Ay cx cy B0 N0 1000 w hx hy hN hcx hcy (by omega) (by decide) (by decide)).mono ?_
  rintro e w' ⟨v, rfl, ho, hb⟩
  rw [← hm.out] at ho
  obtain ⟨A1, c1, rfl, k1, k2⟩ := ho.row
  exact ⟨A1, c1, rfl, k2.mono (Nat.zero_le _) (Nat.le_refl _), hb⟩
theorem Row.atR {B N : Nat} {ms : List (List Ev)} (h : Row rEl B N w A ms) (j : Nat) (hj : j < ms.length) :
    ∃ (b o : Nat) (m : List Ev) (A' : Option Addr) (c' : Nat), A = some ⟨b, o, none⟩ ∧ b < N ∧ ms[j] = m ∧ Row eEl B N w A' m ∧ w.cell? ⟨b, o + j, none⟩ = some (.slice A' m.length c') := by
  obtain ⟨b, o, cs, hA, hB, hN, ⟨A', c', ⟨h1, h2⟩, rfl⟩, hl, hc⟩ := h.at j hj
  exact ⟨b, o, ms[j], A', c', hA, hN, rfl, h2, by have := hc 0 _ rfl; simpa [rEl] using this⟩
end

set_option maxHeartbeats 4000000 in
set_option maxRecDepth 100000 in
theorem found_law (l : List Ev) (A : Option Addr) (c B0 N0 : Nat) (w : World) (hr0 : Row eEl B0 N0 w A l) (hN : N0 ≤ w.heap.size) (hc : l.length ≤ c) :
    Calls Try.prog 8 #[.slice A l.length c] w fun e w' => e = .returned (.bool true) ∧ Below w.heap.size w w' := by
  have hlen := hr0.lenE
  have hr := Q.mk hr0
  clear hr0
  have BC : Below w.heap.size w w := Below.refl _ _
  by_cases h2 : (objectsP l).length = 2
  · by_cases h10 : l.length ≤ 10
    · obtain ⟨o0, o1, ho0⟩ : ∃ o0 o1, objectsP l = [o0, o1] := by
        match h : objectsP l, h2 with
        | [o0, o1], _ => exact ⟨o0, o1, rfl⟩
      have ho := Q.mk ho0
      clear h2 ho0
      go_enter Try.func8, Try.ntmps8
      go_wp2_with (go_at_call 19; refine (found_two (hr.out.below BC hN) (Nat.le_trans hN BC.size) hc ho.out).mono ?_; rintro e w2 ⟨b, o, cb, rfl, lb, x0, x1, hb⟩; replace x0 := Q.mk x0; replace x1 := Q.mk x1; replace BC := BC.trans hb; clear hb; have B2 : Below w2.heap.size w2 w2 := Below.refl _ _)
      go_loopw [4] (fun i wr => ∃ j : Nat, j ≤ l.length ∧ i = .int .i64 j ∧ Q (∀ j' e, j' < j → l[j']? = some e → e.k = 1 ∨ (e.k = 2 ∧ 0 ≤ callR l j')) ∧ Below w.heap.size w wr ∧ Below w2.heap.size w2 wr)
        (fun i _ => l.length - (intOf i).toNat)
      case atStart => exact ⟨0, Nat.zero_le _, rfl, ⟨fun j' e h => absurd h (Nat.not_lt_zero _)⟩, BC, B2⟩
      case round =>
        clear BC B2
        obtain ⟨j, hj, rfl, hall, BC, B2⟩ := hrel
        by_cases hlt : j < l.length
        · obtain ⟨bl, ol, e, Ae, ce, rfl, hbN, he, hEOk, y0, _⟩ := (hr.out.below BC hN).atE j hlt
          have he1 : Q (l[j]? = some e) := ⟨by simp [hlt, he]⟩
          clear he hEOk
          have hnext : Q ((e.k = 1 ∨ (e.k = 2 ∧ 0 ≤ callR l j)) → ∀ j' e', j' < j + 1 → l[j']? = some e' → e'.k = 1 ∨ (e'.k = 2 ∧ 0 ≤ callR l j')) := ⟨fun h j' e' h1 h2 => by
            rcases Nat.lt_or_ge j' j with h3 | h3
            · exact hall.out j' e' h3 h2
            · obtain rfl : j' = j := by omega
              rw [he1.out] at h2; cases h2; exact h⟩
          by_cases hk1 : e.k = 1
          · have t1 : (e.k != 1) = false := by simp [hk1]
            have hn' := Q.mk (hnext.out (.inl hk1))
            clear hk1 hnext
            go_wp2_with fail
            go_roundw
            case rel => exact ⟨j + 1, by omega, by go_num, hn', BC, B2⟩
            case measure => simp [intOf]; omega
          · have t1 : (e.k != 1) = true := by simp [hk1]
            by_cases hk2 : e.k = 2
            · have t2 : (e.k != 2) = false := by simp [hk2]
              by_cases hcl : 0 ≤ callR l j
              · have hn' := Q.mk (hnext.out (.inr ⟨hk2, hcl⟩))
                obtain ⟨cr, hcr⟩ : ∃ cr, Q (cr = callR l j) := ⟨_, ⟨rfl⟩⟩
                have hcl' : 0 ≤ cr := by rw [hcr.out]; exact hcl
                clear hk1 hk2 hnext hcl
                go_wp2_with (go_at_call 37; refine (Call_ref l _ c B0 N0 j _ (hr.out.below BC hN) (Nat.le_trans hN BC.size) hlt).mono ?_; rw [← hcr.out]; rintro e9 w9 ⟨rfl, hb⟩; replace BC := BC.trans (hb.mono BC.size); replace B2 := B2.trans (hb.mono B2.size); clear hb)
                go_roundw
                case rel => exact ⟨j + 1, by omega, by go_num, hn', BC, B2⟩
                case measure => simp [intOf]; omega
              · obtain ⟨cr, hcr⟩ : ∃ cr, Q (cr = callR l j) := ⟨_, ⟨rfl⟩⟩
                have hcl' : cr < 0 := by rw [hcr.out]; omega
                clear hk1 hk2 hnext hcl
                go_wp2_with (first
                  | (go_at_call 37; refine (Call_ref l _ c B0 N0 j _ (hr.out.below BC hN) (Nat.le_trans hN BC.size) hlt).mono ?_; rw [← hcr.out]; rintro e9 w9 ⟨rfl, hb⟩; replace BC := BC.trans (hb.mono BC.size); clear hb)
                  | (go_at_call 27; refine (alive_any _).mono ?_; rintro e9 w9 ⟨rfl, hb⟩; replace BC := BC.trans (hb.mono BC.size); clear hb))
                go_ret
                exact ⟨rfl, BC⟩
            · have t2 : (e.k != 2) = true := by simp [hk2]
              clear hk1 hk2 hnext
              go_wp2_with (go_at_call 27; refine (alive_any _).mono ?_; rintro e9 w9 ⟨rfl, hb⟩; replace BC := BC.trans (hb.mono BC.size); clear hb)
              go_ret
              exact ⟨rfl, BC⟩
        · obtain ⟨x, hx⟩ : ∃ x, Q (x = objectP l o0) := ⟨_, ⟨rfl⟩⟩
          obtain ⟨y, hy⟩ : ∃ x, Q (x = objectP l o1) := ⟨_, ⟨rfl⟩⟩
          obtain ⟨ms, hms⟩ : ∃ ms, Q (ms = (mergesL [] x y).take 1000) := ⟨_, ⟨rfl⟩⟩
          have hfm := found_mem l o0 o1 ho.out (fun j' e' h => hall.out j' e' (by
            rcases Nat.lt_or_ge j' l.length with h1 | h1
            · omega
            · rw [List.getElem?_eq_none h1] at h; cases h) h) h10
          rw [← hx.out, ← hy.out, ← hms.out] at hfm
          obtain ⟨hin0, hxy⟩ := hfm
          have hin := Q.mk hin0
          clear hin0 hall
          have cx0 := (B2.cell (p := ⟨b, o, none⟩) lb).trans x0.out
          have cx1 := (B2.cell (p := ⟨b, o + 1, none⟩) lb).trans x1.out
          have HS : Q (∀ w', Below wr.heap.size wr w' → Below wr.heap.size wr w' ∧ w'.cell? ⟨b, o, none⟩ = some (.string o0) ∧ w'.cell? ⟨b, o + 1, none⟩ = some (.string o1)) :=
            ⟨fun w' h => ⟨h, ((B2.trans (h.mono B2.size)).cell (p := ⟨b, o, none⟩) lb).trans x0.out, ((B2.trans (h.mono B2.size)).cell (p := ⟨b, o + 1, none⟩) lb).trans x1.out⟩⟩
          clear cx0 cx1
          go_wp2_with fail
          refine start_ (n := 12) (S := fun w' => Below wr.heap.size wr w' ∧ w'.cell? ⟨b, o, none⟩ = some (.string o0) ∧ w'.cell? ⟨b, o + 1, none⟩ = some (.string o1)) (ds := []) #[false, false, false, false, false, false, false, false, false, false, false, false] (by kernel_rfl) rfl rfl (HS.out _ (Below.refl _ _).drew) (fun hHeld => ?_)
          refine pure_ (i := 0) (N := some 45) (v := ?_) (a' := ?_) #[true, false, false, false, false, false, false, false, false, false, false, false] rfl rfl (by kernel_rfl) (fun _ _ _ h => h) (Or.inl ⟨by rfl, ?_⟩) ?_ ?_
          rotate_left
          · intro w'
            go_simp
            with_reducible rfl
          rotate_left
          · simp only [Act.put, List.setIfInBounds_toArray, List.set_cons_zero, List.set_cons_succ, i64_w, i32_w]
            rfl
          refine pure_ (i := 1) (N := some 46) (v := ?_) (a' := ?_) #[true, true, false, false, false, false, false, false, false, false, false, false] rfl rfl (by kernel_rfl) (fun _ _ _ h => h) (Or.inl ⟨by rfl, ?_⟩) ?_ ?_
          rotate_left
          · intro w'
            go_simp
            with_reducible rfl
          rotate_left
          · simp only [Act.put, List.setIfInBounds_toArray, List.set_cons_zero, List.set_cons_succ, i64_w, i32_w]
            rfl
          refine pure_ (i := 2) (N := some 47) (v := ?_) (a' := ?_) #[true, true, true, false, false, false, false, false, false, false, false, false] rfl rfl (by kernel_rfl) (fun _ _ _ h => h) (Or.inl ⟨by rfl, ?_⟩) ?_ ?_
          rotate_left
          · intro w'
            go_simp
            with_reducible rfl
          rotate_left
          · simp only [Act.put, List.setIfInBounds_toArray, List.set_cons_zero, List.set_cons_succ, i64_w, i32_w]
            rfl
          refine take_ (i := 3) (N := some 48) (v := ?_) (a' := ?_) #[true, true, true, true, false, false, false, false, false, false, false, false] rfl rfl (by kernel_rfl) (fun _ _ _ h => h) (Or.inl ⟨by rfl, ?_⟩) hHeld ?_ ?_
          rotate_left
          · rintro w' ⟨s0_, s1_, s2_⟩
            go_simp
            with_reducible rfl
          rotate_left
          · simp only [Act.put, List.setIfInBounds_toArray, List.set_cons_zero, List.set_cons_succ, i64_w, i32_w]
            rfl
          refine pure_ (i := 5) (N := some 50) (v := ?_) (a' := ?_) #[true, true, true, true, false, true, false, false, false, false, false, false] rfl rfl (by kernel_rfl) (fun _ _ _ h => h) (Or.inl ⟨by rfl, ?_⟩) ?_ ?_
          rotate_left
          · intro w'
            go_simp
            with_reducible rfl
          rotate_left
          · simp only [Act.put, List.setIfInBounds_toArray, List.set_cons_zero, List.set_cons_succ, i64_w, i32_w]
            rfl
          refine pure_ (i := 6) (N := some 51) (v := ?_) (a' := ?_) #[true, true, true, true, false, true, true, false, false, false, false, false] rfl rfl (by kernel_rfl) (fun _ _ _ h => h) (Or.inl ⟨by rfl, ?_⟩) ?_ ?_
          rotate_left
          · intro w'
            go_simp
            with_reducible rfl
          rotate_left
          · simp only [Act.put, List.setIfInBounds_toArray, List.set_cons_zero, List.set_cons_succ, i64_w, i32_w]
            rfl
          refine pure_ (i := 7) (N := some 52) (v := ?_) (a' := ?_) #[true, true, true, true, false, true, true, true, false, false, false, false] rfl rfl (by kernel_rfl) (fun _ _ _ h => h) (Or.inl ⟨by rfl, ?_⟩) ?_ ?_
          rotate_left
          · intro w'
            go_simp
            with_reducible rfl
          rotate_left
          · simp only [Act.put, List.setIfInBounds_toArray, List.set_cons_zero, List.set_cons_succ, i64_w, i32_w]
            rfl
          refine take_ (i := 8) (N := some 53) (v := ?_) (a' := ?_) #[true, true, true, true, false, true, true, true, true, false, false, false] rfl rfl (by kernel_rfl) (fun _ _ _ h => h) (Or.inl ⟨by rfl, ?_⟩) hHeld ?_ ?_
          rotate_left
          · rintro w' ⟨s0_, s1_, s2_⟩
            go_simp
            with_reducible rfl
          rotate_left
          · simp only [Act.put, List.setIfInBounds_toArray, List.set_cons_zero, List.set_cons_succ, i64_w, i32_w]
            rfl
          refine one_ (i := 4) (N := some 49) #[true, true, true, true, true, true, true, true, true, false, false, false] rfl rfl (by kernel_rfl) (by decide) (fun K hK => ?_)
          refine goes_ Try.func15 (by kernel_rfl) rfl #[.slice A l.length c, .string o0] (by rfl) rfl rfl (by (try simp only [List.map_toArray, List.map_cons, List.map_nil]); first | done | rfl) ?_
          refine (found_object hx (hr.out.below BC hN).drew (Nat.le_trans hN BC.size) hc).mono ?_
          rintro e w8 ⟨Ax, ax, rfl, kx, RX, hb⟩
          replace RX := Q.mk RX
          refine ⟨_, rfl, ?_⟩
          refine hK.out _ _ (HS.out _ ((Below.refl _ _).drew.trans hb)) (fun hHeld => ?_)
          clear hb
          clear hK K
          refine norm_ (a' := ?_) ?_ ?_
          rotate_left
          · show Act.put _ (some 49) _ = _
            simp only [Act.put, List.setIfInBounds_toArray, List.set_cons_zero, List.set_cons_succ, i64_w, i32_w]
            rfl
          refine one_ (i := 9) (N := some 54) #[true, true, true, true, true, true, true, true, true, true, false, false] rfl rfl (by kernel_rfl) (by decide) (fun K hK => ?_)
          refine goes_ Try.func15 (by kernel_rfl) rfl #[.slice A l.length c, .string o1] (by rfl) rfl rfl (by (try simp only [List.map_toArray, List.map_cons, List.map_nil]); first | done | rfl) ?_
          refine (found_object hy (hr.out.below (BC.trans (hHeld.1.mono BC.size)) hN) (Nat.le_trans hN (Nat.le_trans BC.size hHeld.1.size)) hc).mono ?_
          rintro e w9 ⟨Ay, ay, rfl, ky, RY, hb⟩
          replace RY := Q.mk RY
          have BX := hb
          refine ⟨_, rfl, ?_⟩
          refine hK.out _ _ (HS.out _ (hHeld.1.trans (hb.mono hHeld.1.size))) (fun hHeld => ?_)
          clear hb
          clear hK K
          refine norm_ (a' := ?_) ?_ ?_
          rotate_left
          · show Act.put _ (some 54) _ = _
            simp only [Act.put, List.setIfInBounds_toArray, List.set_cons_zero, List.set_cons_succ, i64_w, i32_w]
            rfl
          refine one_ (i := 10) (N := some 55) #[true, true, true, true, true, true, true, true, true, true, true, false] rfl rfl (by kernel_rfl) (by decide) (fun K hK => ?_)
          refine goes_ Try.func38 (by kernel_rfl) rfl #[.slice Ax x.length ax, .slice Ay y.length ay, .int .i64 1000] (by rfl) rfl rfl (by (try simp only [List.map_toArray, List.map_cons, List.map_nil]); first | done | rfl) ?_
          refine (found_rows hms ((RX.out.below BX (Nat.le_refl _)).mono (Nat.le_refl _) BX.size) RY.out (Nat.le_refl _) kx ky hxy).mono ?_
          rintro e w10 ⟨Am, am, rfl, RM, hb⟩
          replace RM := Q.mk RM
          refine ⟨_, rfl, ?_⟩
          refine hK.out _ _ (HS.out _ (hHeld.1.trans (hb.mono hHeld.1.size))) (fun hHeld => ?_)
          clear hb
          clear hK K
          refine norm_ (a' := ?_) ?_ ?_
          rotate_left
          · show Act.put _ (some 55) _ = _
            simp only [Act.put, List.setIfInBounds_toArray, List.set_cons_zero, List.set_cons_succ, i64_w, i32_w]
            rfl
          refine pure_ (i := 11) (N := some 5) (v := ?_) (a' := ?_) #[true, true, true, true, true, true, true, true, true, true, true, true] rfl rfl (by kernel_rfl) (fun _ _ _ h => h) (Or.inl ⟨by rfl, ?_⟩) ?_ ?_
          rotate_left
          · intro w'
            go_simp
            with_reducible rfl
          rotate_left
          · simp only [Act.put, List.setIfInBounds_toArray, List.set_cons_zero, List.set_cons_succ, i64_w, i32_w]
            rfl
          refine done_ (by kernel_rfl) ?_
          have b10 : Below wr.heap.size wr w10 := hHeld.1
          replace BC := BC.trans (b10.mono BC.size)
          clear hHeld b10
          have BM : Below w10.heap.size w10 w10 := Below.refl _ _
          have hml := RM.out.1
          have hml' : ms.length * 24 ≤ 140737488355328 := hml
          clear hml
          go_wp2_with fail
          go_loopw [6] (fun i wr => ∃ k : Nat, k ≤ ms.length ∧ i = .int .i64 k ∧ Q (∀ k' m, k' < k → ms[k']? = some m → exEs m l = false) ∧ Below w.heap.size w wr ∧ Below w10.heap.size w10 wr)
            (fun i _ => ms.length - (intOf i).toNat)
          case atStart => exact ⟨0, Nat.zero_le _, rfl, ⟨fun k' m h => absurd h (Nat.not_lt_zero _)⟩, BC, BM⟩
          case round =>
            clear BC BM
            obtain ⟨k, hk, rfl, hno, BC, BM⟩ := hrel
            by_cases hkl : k < ms.length
            · obtain ⟨bm, om, m, A', c', rfl, hbm, hme, hrm, y0⟩ := (RM.out.below BM (Nat.le_refl _)).atR k hkl
              have hme1 : Q (ms[k]? = some m) := ⟨by simp [hkl, hme]⟩
              replace hrm := Q.mk hrm
              clear hme
              obtain ⟨r, hr9⟩ : ∃ r, Q (r = exEs m l) := ⟨_, ⟨rfl⟩⟩
              cases r
              · go_wp2_with (go_at_call 23; refine (Exact_ref m l A' A c' c 0 _ _ (hrm.out.mono (Nat.le_refl _) BM.size) ((hr.out.below BC hN).mono (Nat.zero_le _) (Nat.le_trans hN BC.size)) (Nat.le_refl _)).mono ?_; rw [← hr9.out]; rintro e9 w11 ⟨rfl, hb⟩; replace BC := BC.trans (hb.mono BC.size); replace BM := BM.trans (hb.mono BM.size); clear hb)
                go_roundw
                case rel =>
                  refine ⟨k + 1, by omega, by go_num, ⟨fun k' m' h1 h2 => ?_⟩, BC, BM⟩
                  rcases Nat.lt_or_ge k' k with h3 | h3
                  · exact hno.out k' m' h3 h2
                  · obtain rfl : k' = k := by omega
                    rw [hme1.out] at h2; cases h2; exact hr9.out.symm
                case measure => simp [intOf]; omega
              · go_wp2_with (first
                  | (go_at_call 23; refine (Exact_ref m l A' A c' c 0 _ _ (hrm.out.mono (Nat.le_refl _) BM.size) ((hr.out.below BC hN).mono (Nat.zero_le _) (Nat.le_trans hN BC.size)) (Nat.le_refl _)).mono ?_; rw [← hr9.out]; rintro e9 w11 ⟨rfl, hb⟩; replace BC := BC.trans (hb.mono BC.size); clear hb)
                  | (go_at_call 27; refine (alive_any _).mono ?_; rintro e9 w9 ⟨rfl, hb⟩; replace BC := BC.trans (hb.mono BC.size); clear hb))
                go_ret
                exact ⟨rfl, BC⟩
            · exfalso
              obtain ⟨k', h1, h2⟩ := List.getElem_of_mem hin.out
              have := hno.out k' l (by omega) (by rw [List.getElem?_eq_getElem h1, h2])
              rw [exEs_self] at this
              cases this
    · have t2 : ((2 : Int) != 2) = false := by decide
      have t3 : (10 : Int) < l.length := by omega
      have hn := Q.mk h2
      clear h2
      go_enter Try.func8, Try.ntmps8
      go_wp2_with (first
        | (go_at_call 19; refine (found_len (hr.out.below BC hN) (Nat.le_trans hN BC.size) hc hn.out).mono ?_; rintro e w2 ⟨A1, cb, rfl, hb⟩; replace BC := BC.trans hb; clear hb)
        | (go_at_call 27; refine (alive_any _).mono ?_; rintro e9 w9 ⟨rfl, hb⟩; replace BC := BC.trans (hb.mono BC.size); clear hb))
      go_ret
      exact ⟨rfl, BC⟩
  · obtain ⟨n, hn0⟩ : ∃ n, (objectsP l).length = n := ⟨_, rfl⟩
    have t2 : ((n : Int) != 2) = true := by rw [hn0] at h2; simp; omega
    have hn := Q.mk hn0
    clear h2 hn0
    go_enter Try.func8, Try.ntmps8
    go_wp2_with (first
      | (go_at_call 19; refine (found_len (hr.out.below BC hN) (Nat.le_trans hN BC.size) hc hn.out).mono ?_; rintro e w2 ⟨A1, cb, rfl, hb⟩; replace BC := BC.trans hb; clear hb)
      | (go_at_call 27; refine (alive_any _).mono ?_; rintro e9 w9 ⟨rfl, hb⟩; replace BC := BC.trans (hb.mono BC.size); clear hb))
    go_ret
    exact ⟨rfl, BC⟩
end Go.Proofs.Ytifakbipdmceiaa

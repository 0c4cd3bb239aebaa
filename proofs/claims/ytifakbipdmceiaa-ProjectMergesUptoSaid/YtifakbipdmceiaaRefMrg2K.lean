import Derived.Test.YtifakbipdmceiaaRefMrgK
set_option linter.unusedVariables false
set_option linter.unusedSimpArgs false
namespace Go.Proofs.Ytifakbipdmceiaa
open Go.RowKit Go.Proofs.YtifakbipdmceiaaW.PrintLast

theorem run_tail1 (w : World) (b o n m c : Nat) (h1 : n = m + 1) (hc : n ≤ c) : (Instr.slice 22 (.slice (some ⟨b, o, none⟩) n c) (some (.int .i64 1)) none none).run Try.prog w = .ok (.slice (some (tailA b o c)) m (c - 1)) w := by
  subst h1
  exact run_tail w b o (m + 1) c (by omega) hc
theorem size_ad (w : World) (o : Obj) : (w.alloc o).drew.heap.size = w.heap.size + 1 := World.size_alloc w o
theorem OutV.blk {N0 g : Nat} {w : World} {A : Option Addr} {c : Nat} {rows : List (List Ev)} (h : OutV N0 g w A c rows) {b : Nat} (hb : ablk A = some b) : g < b ∧ b < w.heap.size := by
  have := h.own.lt (g := b) (by rw [ownBlock_slice]; exact hb)
  omega
theorem mrg_rec {f : Nat} (IH : MIH f) {x y p : List Ev} {e : Ev} {Ax Ay A : Option Addr} {cx cy c B0 N0 g most : Nat} {rows : List (List Ev)} {w : World} (hf : x.length + y.length ≤ f) (hx : Row eEl B0 N0 w Ax x) (hy : Row eEl B0 N0 w Ay y)
    (hN : N0 ≤ w.heap.size) (hcx : x.length ≤ cx) (hcy : y.length ≤ cy) (hl : (p.length + 1 + x.length + y.length) * 144 ≤ 140737488355328) (hO : OutV N0 g w A c rows) (hm : rows.length ≤ most) (hm2 : most ≤ 200) {g' c' : Nat} {w' : World} (hc' : p.length + 1 ≤ c')
    (hp : PRow N0 w' (some ⟨g', 0, none⟩) c' (p ++ [e])) (hb : Below w.heap.size w w') (hg : w.heap.size ≤ g') :
    Calls Try.prog 87 #[.slice Ax x.length cx, .slice Ay y.length cy, .slice (some ⟨g', 0, none⟩) (p.length + 1) c', .int .i64 most, .pointer (some ⟨g, 0, none⟩)] w' fun e' w2 => e' = unitE ∧ ∃ A' c2, OutV N0 g w2 A' c2 ((rows ++ mergesL (p ++ [e]) x y).take most) ∧ Chg g A A' w w2 := by
  have hlt := hO.lt
  have e1 : (p ++ [e]).length = p.length + 1 := by simp
  have h := IH x y (p ++ [e]) Ax Ay (some ⟨g', 0, none⟩) A cx cy c' c B0 N0 g most rows w' hf (hx.below hb hN) (hy.below hb hN) hp (fun b hb' => ?_) (Nat.le_trans hN hb.size) hcx hcy (by rw [e1]; exact hc') (by rw [e1]; exact hl) (hO.below hb) hm hm2
  · rw [e1] at h
    exact h.mono fun e' w2 ⟨h1, A', c2, h2, h3⟩ => ⟨h1, A', c2, h2, h3.pre hb (Nat.le_of_lt hlt)⟩
  · obtain rfl : g' = b := by simpa [ablk] using hb'
    exact ⟨by omega, fun h9 => by have := (hO.blk h9).2; omega⟩
set_option maxHeartbeats 8000000 in
set_option maxRecDepth 100000 in
theorem mrg_left {f : Nat} (IH0 : MIH f) (e : Ev) (x' x p : List Ev) (hx0 : x = e :: x') (Ax Ay Ap A : Option Addr) (cx cy cp c B0 N0 g most : Nat) (rows : List (List Ev)) (w : World) (hf : x'.length ≤ f) (hr0 : Row eEl B0 N0 w Ax x) (hp0 : PRow N0 w Ap cp p) (hN : N0 ≤ w.heap.size) (hcx : x.length ≤ cx) (hcp : p.length ≤ cp)
    (hl : (p.length + x.length) * 144 ≤ 140737488355328) (hO0 : OutV N0 g w A c rows) (hm : rows.length < most) (hm2 : most ≤ 200) :
    Calls Try.prog 87 #[.slice Ax x.length cx, .slice Ay 0 cy, .slice Ap p.length cp, .int .i64 most, .pointer (some ⟨g, 0, none⟩)] w fun e w' => e = unitE ∧ ∃ A' c', OutV N0 g w' A' c' ((rows ++ mergesL p x []).take most) ∧ Chg g A A' w w' := by
  obtain ⟨b, o, e', Ae, ce, rfl, hbN, he, hEOk, x0, x1, x2, x3, x4, x5, x6, x7, x8, x9, x10, x11⟩ := hr0.atE 0 (by rw [hx0]; simp)
  simp only [Nat.zero_mul, Nat.add_zero] at x0 x1 x2 x3 x4 x5 x6 x7 x8 x9 x10 x11
  obtain rfl : e = e' := by rw [← he]; simp [hx0]
  have hxl : x.length = x'.length + 1 := by rw [hx0]; rfl
  have HM : Q (mergesL p x [] = mergesL (p ++ [e]) x' []) := ⟨by rw [hx0, mergesL_left]⟩
  have hrt := hr0
  rw [hx0] at hrt
  have ht := row_tail hrt (c := cx) (by omega)
  have HI := Q.mk (fun (g' c' : Nat) (w' : World) => mrg_rec IH0 (e := e) (p := p) (Ax := some (tailA b o cx)) (Ay := Ay) (cx := cx - 1) (cy := cy) (g' := g') (c' := c') (w' := w') (y := []) hf ht (Row.nil eEl _ _ _ _) hN (by omega) (Nat.zero_le _) (by simp; omega) hO0 (Nat.le_of_lt hm) hm2)
  have hO := Q.mk hO0
  have hp := Q.mk hp0
  have hlt := hO0.lt
  have hlow := hO0.low
  have c0 := box_cells hO0.at_ 0
  have t1 : decide (most ≤ rows.length) = false := by simp; omega
  have t2 : ((x.length : Int) == 0) = false := by rw [beq_eq_false_iff_ne]; omega
  have t3 : decide ((0 : Int) < x.length) = true := decide_eq_true (by omega)
  replace hEOk := Q.mk hEOk
  clear hO0 hp0 hr0 hrt ht he IH0 hx0
  go_enter Try.func87, Try.ntmps87
  go_wp2_with fail
  refine start_ (n := 15) (S := fun w' => w'.cell? ⟨b, o, none⟩ = some (.int .i64 e.k) ∧ w'.cell? ⟨b, o + 1, none⟩ = some (.string e.p) ∧ w'.cell? ⟨b, o + 2, none⟩ = some (.string e.o) ∧ w'.cell? ⟨b, o + 3, none⟩ = some (.string e.q) ∧ w'.cell? ⟨b, o + 4, none⟩ = some (.int .i64 e.v.kind) ∧ w'.cell? ⟨b, o + 5, none⟩ = some (.int .i64 e.v.int) ∧ w'.cell? ⟨b, o + 6, none⟩ = some (.int .i64 e.v.im) ∧ w'.cell? ⟨b, o + 7, none⟩ = some (.string e.v.text) ∧ w'.cell? ⟨b, o + 8, none⟩ = some (.slice Ae e.v.items.length ce) ∧ w'.cell? ⟨b, o + 9, none⟩ = some (.int .i64 e.a) ∧ w'.cell? ⟨b, o + 10, none⟩ = some (.int .i64 e.b) ∧ w'.cell? ⟨b, o + 11, none⟩ = some (.int .i64 e.c)) (ds := [11, 14]) #[false, false, false, false, false, false, false, false, false, false, false, false, false, false, false] (by kernel_rfl) rfl rfl (by go_keep) (fun hHeld => ?_)
  refine pure_ (i := 0) (N := some 54) (v := ?_) (a' := ?_) #[true, false, false, false, false, false, false, false, false, false, false, false, false, false, false] rfl rfl (by kernel_rfl) (fun _ _ _ h => h) (Or.inl ⟨by rfl, ?_⟩) ?_ ?_
  rotate_left
  · intro w'
    go_simp
    with_reducible rfl
  rotate_left
  · simp only [Act.put, List.setIfInBounds_toArray, List.set_cons_zero, List.set_cons_succ, i64_w, i32_w]
    rfl
  refine pure_ (i := 1) (N := some 55) (v := .slice (some (tailA b o cx)) x'.length (cx - 1)) (a' := ?_) #[true, true, false, false, false, false, false, false, false, false, false, false, false, false, false] rfl rfl (by kernel_rfl) (fun _ _ _ h => h) (Or.inl ⟨by rfl, ?eff_1_1⟩) ?put_1_1 ?rest_1_1
  case eff_1_1 =>
    intro w'
    go_simp
    rw [if_pos (by omega)]; unfold tailA; split <;> rfl
  case put_1_1 =>
    simp only [Act.put, List.setIfInBounds_toArray, List.set_cons_zero, List.set_cons_succ, i64_w, i32_w]
    rfl
  refine pure_ (i := 2) (N := some 56) (v := ?_) (a' := ?_) #[true, true, true, false, false, false, false, false, false, false, false, false, false, false, false] rfl rfl (by kernel_rfl) (fun _ _ _ h => h) (Or.inl ⟨by rfl, ?_⟩) ?_ ?_
  rotate_left
  · intro w'
    go_simp
    with_reducible rfl
  rotate_left
  · simp only [Act.put, List.setIfInBounds_toArray, List.set_cons_zero, List.set_cons_succ, i64_w, i32_w]
    rfl
  refine pure_ (i := 3) (N := some 57) (v := ?_) (a' := ?_) #[true, true, true, true, false, false, false, false, false, false, false, false, false, false, false] rfl rfl (by kernel_rfl) (fun _ _ _ h => h) (Or.inl ⟨by rfl, ?_⟩) ?_ ?_
  rotate_left
  · intro w'
    go_simp
    with_reducible rfl
  rotate_left
  · simp only [Act.put, List.setIfInBounds_toArray, List.set_cons_zero, List.set_cons_succ, i64_w, i32_w]
    rfl
  refine pure_ (i := 4) (N := some 58) (v := ?_) (a' := ?_) #[true, true, true, true, true, false, false, false, false, false, false, false, false, false, false] rfl rfl (by kernel_rfl) (fun _ _ _ h => h) (Or.inl ⟨by rfl, ?_⟩) ?_ ?_
  rotate_left
  · intro w'
    go_simp
    with_reducible rfl
  rotate_left
  · simp only [Act.put, List.setIfInBounds_toArray, List.set_cons_zero, List.set_cons_succ, i64_w, i32_w]
    rfl
  refine pure_ (i := 5) (N := some 59) (v := ?_) (a' := ?_) #[true, true, true, true, true, true, false, false, false, false, false, false, false, false, false] rfl rfl (by kernel_rfl) (fun _ _ _ h => h) (Or.inl ⟨by rfl, ?_⟩) ?_ ?_
  rotate_left
  · intro w'
    go_simp
    with_reducible rfl
  rotate_left
  · simp only [Act.put, List.setIfInBounds_toArray, List.set_cons_zero, List.set_cons_succ, i64_w, i32_w]
    rfl
  refine pure_ (i := 6) (N := some 60) (v := .slice Ap p.length p.length) (a' := ?_) #[true, true, true, true, true, true, true, false, false, false, false, false, false, false, false] rfl rfl (by kernel_rfl) (fun _ _ _ h => h) (Or.inl ⟨by rfl, ?eff_6_2⟩) ?put_6_2 ?rest_6_2
  case eff_6_2 =>
    intro w'
    go_simp
    skip
  case put_6_2 =>
    simp only [Act.put, List.setIfInBounds_toArray, List.set_cons_zero, List.set_cons_succ, i64_w, i32_w]
    rfl
  refine pure_ (i := 7) (N := some 61) (v := ?_) (a' := ?_) #[true, true, true, true, true, true, true, true, false, false, false, false, false, false, false] rfl rfl (by kernel_rfl) (fun _ _ _ h => h) (Or.inl ⟨by rfl, ?_⟩) ?_ ?_
  rotate_left
  · intro w'
    go_simp
    with_reducible rfl
  rotate_left
  · simp only [Act.put, List.setIfInBounds_toArray, List.set_cons_zero, List.set_cons_succ, i64_w, i32_w]
    rfl
  refine pure_ (i := 8) (N := some 62) (v := ?_) (a' := ?_) #[true, true, true, true, true, true, true, true, true, false, false, false, false, false, false] rfl rfl (by kernel_rfl) (fun _ _ _ h => h) (Or.inl ⟨by rfl, ?_⟩) ?_ ?_
  rotate_left
  · intro w'
    go_simp
    with_reducible rfl
  rotate_left
  · simp only [Act.put, List.setIfInBounds_toArray, List.set_cons_zero, List.set_cons_succ, i64_w, i32_w]
    rfl
  refine pure_ (i := 12) (N := some 66) (v := ?_) (a' := ?_) #[true, true, true, true, true, true, true, true, true, false, false, false, true, false, false] rfl rfl (by kernel_rfl) (fun _ _ _ h => h) (Or.inl ⟨by rfl, ?_⟩) ?_ ?_
  rotate_left
  · intro w'
    go_simp
    with_reducible rfl
  rotate_left
  · simp only [Act.put, List.setIfInBounds_toArray, List.set_cons_zero, List.set_cons_succ, i64_w, i32_w]
    rfl
  refine pure_ (i := 13) (N := some 67) (v := ?_) (a' := ?_) #[true, true, true, true, true, true, true, true, true, false, false, false, true, true, false] rfl rfl (by kernel_rfl) (fun _ _ _ h => h) (Or.inl ⟨by rfl, ?_⟩) ?_ ?_
  rotate_left
  · intro w'
    go_simp
    with_reducible rfl
  rotate_left
  · simp only [Act.put, List.setIfInBounds_toArray, List.set_cons_zero, List.set_cons_succ, i64_w, i32_w]
    rfl
  refine take_ (i := 9) (N := some 63) (v := ?_) (a' := ?_) #[true, true, true, true, true, true, true, true, true, true, false, false, true, true, false] rfl rfl (by kernel_rfl) (fun _ _ _ h => h) (Or.inl ⟨by rfl, ?_⟩) hHeld ?_ ?_
  rotate_left
  · rintro w' ⟨s0_, s1_, s2_, s3_, s4_, s5_, s6_, s7_, s8_, s9_, s10_, s11_⟩
    go_simp
    with_reducible rfl
  rotate_left
  · simp only [Act.put, List.setIfInBounds_toArray, List.set_cons_zero, List.set_cons_succ, i64_w, i32_w]
    rfl
  refine one_ (i := 10) (N := some 64) #[true, true, true, true, true, true, true, true, true, true, true, false, true, true, false] rfl rfl (by kernel_rfl) (by decide) (fun K hK => ?_)
  go_simp
  refine hK.out _ _ (by go_keep) (fun hHeld => ?_)
  clear hK K
  refine last_ (i := 11) (N := some 65) #[true, true, true, true, true, true, true, true, true, true, true, true, true, true, false] rfl rfl (by kernel_rfl) (by decide) (fun K hK => ?_)
  refine step_appendP _ rfl (.tmp 60) (.tmp 64) 22 rfl Try.underlying22 infoE rfl (N0 := N0) (B0 := B0) (H := w.heap.size) (p := p) (y := e) (n := p.length) rfl (by rfl) (by rfl) (heap_alloc_new _ _) (hp.out.below hN ((Below.refl _ _).drew.alloc (Nat.le_refl _) _)) ⟨Ae, ce, (hEOk.out.drew.alloc hN _), rfl⟩ (by rw [size_ad]; exact Nat.le_succ_of_le hN) (by omega) ?_
  intro g3 c3 w3 hc3 hp3 hb3 hg3
  have BW : Below w.heap.size w w3 := ((Below.refl _ _).drew.alloc (Nat.le_refl _) _).trans (hb3.mono (by rw [size_ad]; exact Nat.le_succ _))
  replace hg3 : w.heap.size ≤ g3 := by rw [size_ad] at hg3; exact Nat.le_of_succ_le hg3
  clear hb3
  refine hK.out _ _ ?_
  clear hK K
  refine norm_ (a' := ?_) ?_ ?_
  rotate_left
  · show Act.put _ (some 65) _ = _
    simp only [Act.put, List.setIfInBounds_toArray, List.set_cons_zero, List.set_cons_succ, i64_w, i32_w]
    rfl
  refine last_ (i := 14) (N := some 68) #[true, true, true, true, true, true, true, true, true, true, true, true, true, true, true] rfl rfl (by kernel_rfl) (by decide) (fun K hK => ?_)
  refine goes_ Try.func87 (by kernel_rfl) rfl #[.slice (some (tailA b o cx)) x'.length (cx - 1), .slice Ay 0 cy, .slice (some ⟨g3, 0, none⟩) (p.length + 1) c3, .int .i64 most, .pointer (some ⟨g, 0, none⟩)] (by rfl) rfl rfl (by (try simp only [List.map_toArray, List.map_cons, List.map_nil]); first | done | rfl) ?_
  refine (HI.out g3 c3 w3 hc3 hp3 BW hg3).mono ?_
  rintro e5 W5 ⟨rfl, A5, c5, hO5, hC5⟩
  refine ⟨_, rfl, ?_⟩
  refine hK.out _ _ ?_
  clear hK K
  refine norm_ (a' := ?_) ?_ ?_
  rotate_left
  · show Act.put _ (some 68) _ = _
    simp only [Act.put, List.setIfInBounds_toArray, List.set_cons_zero, List.set_cons_succ, i64_w, i32_w]
    rfl
  refine done_ (by kernel_rfl) ?_
  go_wp2_with fail
  go_end0
  refine ⟨rfl, A5, c5, ?_, hC5⟩
  rw [HM.out]
  exact hO5
set_option maxHeartbeats 8000000 in
set_option maxRecDepth 100000 in
theorem mrg_right {f : Nat} (IH0 : MIH f) (e : Ev) (y' y p : List Ev) (hx0 : y = e :: y') (Ax Ay Ap A : Option Addr) (cx cy cp c B0 N0 g most : Nat) (rows : List (List Ev)) (w : World) (hf : y'.length ≤ f) (hr0 : Row eEl B0 N0 w Ay y) (hp0 : PRow N0 w Ap cp p) (hN : N0 ≤ w.heap.size) (hcx : y.length ≤ cy) (hcp : p.length ≤ cp)
    (hl : (p.length + y.length) * 144 ≤ 140737488355328) (hO0 : OutV N0 g w A c rows) (hm : rows.length < most) (hm2 : most ≤ 200) :
    Calls Try.prog 87 #[.slice Ax 0 cx, .slice Ay y.length cy, .slice Ap p.length cp, .int .i64 most, .pointer (some ⟨g, 0, none⟩)] w fun e w' => e = unitE ∧ ∃ A' c', OutV N0 g w' A' c' ((rows ++ mergesL p [] y).take most) ∧ Chg g A A' w w' := by
  obtain ⟨b, o, e', Ae, ce, rfl, hbN, he, hEOk, x0, x1, x2, x3, x4, x5, x6, x7, x8, x9, x10, x11⟩ := hr0.atE 0 (by rw [hx0]; simp)
  simp only [Nat.zero_mul, Nat.add_zero] at x0 x1 x2 x3 x4 x5 x6 x7 x8 x9 x10 x11
  obtain rfl : e = e' := by rw [← he]; simp [hx0]
  have hxl : y.length = y'.length + 1 := by rw [hx0]; rfl
  have HM : Q (mergesL p [] y = mergesL (p ++ [e]) [] y') := ⟨by rw [hx0, mergesL_right]⟩
  have hrt := hr0
  rw [hx0] at hrt
  have ht := row_tail hrt (c := cy) (by omega)
  have HI := Q.mk (fun (g' c' : Nat) (w' : World) => mrg_rec IH0 (e := e) (p := p) (Ay := some (tailA b o cy)) (Ax := Ax) (cy := cy - 1) (cx := cx) (g' := g') (c' := c') (w' := w') (x := []) (by simpa using hf) (Row.nil eEl _ _ _ _) ht hN (Nat.zero_le _) (by omega) (by simp; omega) hO0 (Nat.le_of_lt hm) hm2)
  have hO := Q.mk hO0
  have hp := Q.mk hp0
  have hlt := hO0.lt
  have hlow := hO0.low
  have c0 := box_cells hO0.at_ 0
  have t1 : decide (most ≤ rows.length) = false := by simp; omega
  have t2 : ((y.length : Int) == 0) = false := by rw [beq_eq_false_iff_ne]; omega
  have t3 : decide ((0 : Int) < y.length) = true := decide_eq_true (by omega)
  replace hEOk := Q.mk hEOk
  clear hO0 hp0 hr0 hrt ht he IH0 hx0
  go_enter Try.func87, Try.ntmps87
  go_wp2_with fail
  refine start_ (n := 15) (S := fun w' => w'.cell? ⟨b, o, none⟩ = some (.int .i64 e.k) ∧ w'.cell? ⟨b, o + 1, none⟩ = some (.string e.p) ∧ w'.cell? ⟨b, o + 2, none⟩ = some (.string e.o) ∧ w'.cell? ⟨b, o + 3, none⟩ = some (.string e.q) ∧ w'.cell? ⟨b, o + 4, none⟩ = some (.int .i64 e.v.kind) ∧ w'.cell? ⟨b, o + 5, none⟩ = some (.int .i64 e.v.int) ∧ w'.cell? ⟨b, o + 6, none⟩ = some (.int .i64 e.v.im) ∧ w'.cell? ⟨b, o + 7, none⟩ = some (.string e.v.text) ∧ w'.cell? ⟨b, o + 8, none⟩ = some (.slice Ae e.v.items.length ce) ∧ w'.cell? ⟨b, o + 9, none⟩ = some (.int .i64 e.a) ∧ w'.cell? ⟨b, o + 10, none⟩ = some (.int .i64 e.b) ∧ w'.cell? ⟨b, o + 11, none⟩ = some (.int .i64 e.c)) (ds := [11, 14]) #[false, false, false, false, false, false, false, false, false, false, false, false, false, false, false] (by kernel_rfl) rfl rfl (by go_keep) (fun hHeld => ?_)
  refine pure_ (i := 0) (N := some 72) (v := ?_) (a' := ?_) #[true, false, false, false, false, false, false, false, false, false, false, false, false, false, false] rfl rfl (by kernel_rfl) (fun _ _ _ h => h) (Or.inl ⟨by rfl, ?_⟩) ?_ ?_
  rotate_left
  · intro w'
    go_simp
    with_reducible rfl
  rotate_left
  · simp only [Act.put, List.setIfInBounds_toArray, List.set_cons_zero, List.set_cons_succ, i64_w, i32_w]
    rfl
  refine pure_ (i := 1) (N := some 73) (v := ?_) (a' := ?_) #[true, true, false, false, false, false, false, false, false, false, false, false, false, false, false] rfl rfl (by kernel_rfl) (fun _ _ _ h => h) (Or.inl ⟨by rfl, ?_⟩) ?_ ?_
  rotate_left
  · intro w'
    go_simp
    with_reducible rfl
  rotate_left
  · simp only [Act.put, List.setIfInBounds_toArray, List.set_cons_zero, List.set_cons_succ, i64_w, i32_w]
    rfl
  refine pure_ (i := 2) (N := some 74) (v := .slice (some (tailA b o cy)) y'.length (cy - 1)) (a' := ?_) #[true, true, true, false, false, false, false, false, false, false, false, false, false, false, false] rfl rfl (by kernel_rfl) (fun _ _ _ h => h) (Or.inl ⟨by rfl, ?eff_2_3⟩) ?put_2_3 ?rest_2_3
  case eff_2_3 =>
    intro w'
    go_simp
    rw [if_pos (by omega)]; unfold tailA; split <;> rfl
  case put_2_3 =>
    simp only [Act.put, List.setIfInBounds_toArray, List.set_cons_zero, List.set_cons_succ, i64_w, i32_w]
    rfl
  refine pure_ (i := 3) (N := some 75) (v := ?_) (a' := ?_) #[true, true, true, true, false, false, false, false, false, false, false, false, false, false, false] rfl rfl (by kernel_rfl) (fun _ _ _ h => h) (Or.inl ⟨by rfl, ?_⟩) ?_ ?_
  rotate_left
  · intro w'
    go_simp
    with_reducible rfl
  rotate_left
  · simp only [Act.put, List.setIfInBounds_toArray, List.set_cons_zero, List.set_cons_succ, i64_w, i32_w]
    rfl
  refine pure_ (i := 4) (N := some 76) (v := ?_) (a' := ?_) #[true, true, true, true, true, false, false, false, false, false, false, false, false, false, false] rfl rfl (by kernel_rfl) (fun _ _ _ h => h) (Or.inl ⟨by rfl, ?_⟩) ?_ ?_
  rotate_left
  · intro w'
    go_simp
    with_reducible rfl
  rotate_left
  · simp only [Act.put, List.setIfInBounds_toArray, List.set_cons_zero, List.set_cons_succ, i64_w, i32_w]
    rfl
  refine pure_ (i := 5) (N := some 77) (v := ?_) (a' := ?_) #[true, true, true, true, true, true, false, false, false, false, false, false, false, false, false] rfl rfl (by kernel_rfl) (fun _ _ _ h => h) (Or.inl ⟨by rfl, ?_⟩) ?_ ?_
  rotate_left
  · intro w'
    go_simp
    with_reducible rfl
  rotate_left
  · simp only [Act.put, List.setIfInBounds_toArray, List.set_cons_zero, List.set_cons_succ, i64_w, i32_w]
    rfl
  refine pure_ (i := 6) (N := some 78) (v := .slice Ap p.length p.length) (a' := ?_) #[true, true, true, true, true, true, true, false, false, false, false, false, false, false, false] rfl rfl (by kernel_rfl) (fun _ _ _ h => h) (Or.inl ⟨by rfl, ?eff_6_4⟩) ?put_6_4 ?rest_6_4
  case eff_6_4 =>
    intro w'
    go_simp
    skip
  case put_6_4 =>
    simp only [Act.put, List.setIfInBounds_toArray, List.set_cons_zero, List.set_cons_succ, i64_w, i32_w]
    rfl
  refine pure_ (i := 7) (N := some 79) (v := ?_) (a' := ?_) #[true, true, true, true, true, true, true, true, false, false, false, false, false, false, false] rfl rfl (by kernel_rfl) (fun _ _ _ h => h) (Or.inl ⟨by rfl, ?_⟩) ?_ ?_
  rotate_left
  · intro w'
    go_simp
    with_reducible rfl
  rotate_left
  · simp only [Act.put, List.setIfInBounds_toArray, List.set_cons_zero, List.set_cons_succ, i64_w, i32_w]
    rfl
  refine pure_ (i := 8) (N := some 80) (v := ?_) (a' := ?_) #[true, true, true, true, true, true, true, true, true, false, false, false, false, false, false] rfl rfl (by kernel_rfl) (fun _ _ _ h => h) (Or.inl ⟨by rfl, ?_⟩) ?_ ?_
  rotate_left
  · intro w'
    go_simp
    with_reducible rfl
  rotate_left
  · simp only [Act.put, List.setIfInBounds_toArray, List.set_cons_zero, List.set_cons_succ, i64_w, i32_w]
    rfl
  refine pure_ (i := 12) (N := some 84) (v := ?_) (a' := ?_) #[true, true, true, true, true, true, true, true, true, false, false, false, true, false, false] rfl rfl (by kernel_rfl) (fun _ _ _ h => h) (Or.inl ⟨by rfl, ?_⟩) ?_ ?_
  rotate_left
  · intro w'
    go_simp
    with_reducible rfl
  rotate_left
  · simp only [Act.put, List.setIfInBounds_toArray, List.set_cons_zero, List.set_cons_succ, i64_w, i32_w]
    rfl
  refine pure_ (i := 13) (N := some 85) (v := ?_) (a' := ?_) #[true, true, true, true, true, true, true, true, true, false, false, false, true, true, false] rfl rfl (by kernel_rfl) (fun _ _ _ h => h) (Or.inl ⟨by rfl, ?_⟩) ?_ ?_
  rotate_left
  · intro w'
    go_simp
    with_reducible rfl
  rotate_left
  · simp only [Act.put, List.setIfInBounds_toArray, List.set_cons_zero, List.set_cons_succ, i64_w, i32_w]
    rfl
  refine take_ (i := 9) (N := some 81) (v := ?_) (a' := ?_) #[true, true, true, true, true, true, true, true, true, true, false, false, true, true, false] rfl rfl (by kernel_rfl) (fun _ _ _ h => h) (Or.inl ⟨by rfl, ?_⟩) hHeld ?_ ?_
  rotate_left
  · rintro w' ⟨s0_, s1_, s2_, s3_, s4_, s5_, s6_, s7_, s8_, s9_, s10_, s11_⟩
    go_simp
    with_reducible rfl
  rotate_left
  · simp only [Act.put, List.setIfInBounds_toArray, List.set_cons_zero, List.set_cons_succ, i64_w, i32_w]
    rfl
  refine one_ (i := 10) (N := some 82) #[true, true, true, true, true, true, true, true, true, true, true, false, true, true, false] rfl rfl (by kernel_rfl) (by decide) (fun K hK => ?_)
  go_simp
  refine hK.out _ _ (by go_keep) (fun hHeld => ?_)
  clear hK K
  refine last_ (i := 11) (N := some 83) #[true, true, true, true, true, true, true, true, true, true, true, true, true, true, false] rfl rfl (by kernel_rfl) (by decide) (fun K hK => ?_)
  refine step_appendP _ rfl (.tmp 78) (.tmp 82) 22 rfl Try.underlying22 infoE rfl (N0 := N0) (B0 := B0) (H := w.heap.size) (p := p) (y := e) (n := p.length) rfl (by rfl) (by rfl) (heap_alloc_new _ _) (hp.out.below hN ((Below.refl _ _).drew.alloc (Nat.le_refl _) _)) ⟨Ae, ce, (hEOk.out.drew.alloc hN _), rfl⟩ (by rw [size_ad]; exact Nat.le_succ_of_le hN) (by omega) ?_
  intro g3 c3 w3 hc3 hp3 hb3 hg3
  have BW : Below w.heap.size w w3 := ((Below.refl _ _).drew.alloc (Nat.le_refl _) _).trans (hb3.mono (by rw [size_ad]; exact Nat.le_succ _))
  replace hg3 : w.heap.size ≤ g3 := by rw [size_ad] at hg3; exact Nat.le_of_succ_le hg3
  clear hb3
  refine hK.out _ _ ?_
  clear hK K
  refine norm_ (a' := ?_) ?_ ?_
  rotate_left
  · show Act.put _ (some 83) _ = _
    simp only [Act.put, List.setIfInBounds_toArray, List.set_cons_zero, List.set_cons_succ, i64_w, i32_w]
    rfl
  refine last_ (i := 14) (N := some 86) #[true, true, true, true, true, true, true, true, true, true, true, true, true, true, true] rfl rfl (by kernel_rfl) (by decide) (fun K hK => ?_)
  refine goes_ Try.func87 (by kernel_rfl) rfl #[.slice Ax 0 cx, .slice (some (tailA b o cy)) y'.length (cy - 1), .slice (some ⟨g3, 0, none⟩) (p.length + 1) c3, .int .i64 most, .pointer (some ⟨g, 0, none⟩)] (by rfl) rfl rfl (by (try simp only [List.map_toArray, List.map_cons, List.map_nil]); first | done | rfl) ?_
  refine (HI.out g3 c3 w3 hc3 hp3 BW hg3).mono ?_
  rintro e5 W5 ⟨rfl, A5, c5, hO5, hC5⟩
  refine ⟨_, rfl, ?_⟩
  refine hK.out _ _ ?_
  clear hK K
  refine norm_ (a' := ?_) ?_ ?_
  rotate_left
  · show Act.put _ (some 86) _ = _
    simp only [Act.put, List.setIfInBounds_toArray, List.set_cons_zero, List.set_cons_succ, i64_w, i32_w]
    rfl
  refine done_ (by kernel_rfl) ?_
  go_wp2_with fail
  go_end0
  refine ⟨rfl, A5, c5, ?_, hC5⟩
  rw [HM.out]
  exact hO5
set_option maxHeartbeats 8000000 in
set_option maxRecDepth 100000 in
theorem mrg_both {f : Nat} (IH0 : MIH f) (e d : Ev) (x' x y' y p : List Ev) (hx0 : x = e :: x') (hy0 : y = d :: y') (Ax Ay Ap A : Option Addr) (cx cy cp c B0 N0 g most : Nat) (rows : List (List Ev)) (w : World) (hf : x'.length + y.length ≤ f) (hr0 : Row eEl B0 N0 w Ax x) (hq0 : Row eEl B0 N0 w Ay y) (hpa : ∀ b, ablk Ap = some b → b ≠ g ∧ ablk A ≠ some b) (hp0 : PRow N0 w Ap cp p) (hN : N0 ≤ w.heap.size) (hcx : x.length ≤ cx) (hcy : y.length ≤ cy) (hcp : p.length ≤ cp)
    (hl : (p.length + x.length + y.length) * 144 ≤ 140737488355328) (hO0 : OutV N0 g w A c rows) (hm : rows.length < most) (hm2 : most ≤ 200) :
    Calls Try.prog 87 #[.slice Ax x.length cx, .slice Ay y.length cy, .slice Ap p.length cp, .int .i64 most, .pointer (some ⟨g, 0, none⟩)] w fun e w' => e = unitE ∧ ∃ A' c', OutV N0 g w' A' c' ((rows ++ mergesL p x y).take most) ∧ Chg g A A' w w' := by
  obtain ⟨b, o, e', Ae, ce, rfl, hbN, he, hEOk, x0, x1, x2, x3, x4, x5, x6, x7, x8, x9, x10, x11⟩ := hr0.atE 0 (by rw [hx0]; simp)
  simp only [Nat.zero_mul, Nat.add_zero] at x0 x1 x2 x3 x4 x5 x6 x7 x8 x9 x10 x11
  obtain rfl : e = e' := by rw [← he]; simp [hx0]
  have hxl : x.length = x'.length + 1 := by rw [hx0]; rfl
  have HM : Q (mergesL p x y = mergesL (p ++ [e]) x' y ++ mergesL (p ++ [d]) x y') := ⟨by rw [hx0, hy0, mergesL_both]⟩
  have hyl : y.length = y'.length + 1 := by rw [hy0]; rfl
  have hrt := hr0
  rw [hx0] at hrt
  have ht := row_tail hrt (c := cx) (by omega)
  have HI := Q.mk (fun (g' c' : Nat) (w' : World) => mrg_rec IH0 (e := e) (p := p) (Ax := some (tailA b o cx)) (Ay := Ay) (cx := cx - 1) (cy := cy) (g' := g') (c' := c') (w' := w') (y := y) hf ht hq0 hN (by omega) hcy (by omega) hO0 (Nat.le_of_lt hm) hm2)
  have hQ := Q.mk hq0
  have hR := Q.mk hr0
  have IH := Q.mk IH0
  have hPA := Q.mk hpa
  have HY := Q.mk hy0
  have hO := Q.mk hO0
  have hp := Q.mk hp0
  have hlt := hO0.lt
  have hlow := hO0.low
  have c0 := box_cells hO0.at_ 0
  have t1 : decide (most ≤ rows.length) = false := by simp; omega
  have t2 : ((x.length : Int) == 0) = false := by rw [beq_eq_false_iff_ne]; omega
  have t4 : decide ((0 : Int) < y.length) = true := decide_eq_true (by omega)
  have t3 : decide ((0 : Int) < x.length) = true := decide_eq_true (by omega)
  replace hEOk := Q.mk hEOk
  have hpx : 1 ≤ x.length := by omega
  have hpy : 1 ≤ y.length := by omega
  replace hxl := Q.mk hxl
  replace hyl := Q.mk hyl
  clear hO0 hp0 hr0 hrt ht he IH0 hx0 hq0 hpa hy0
  go_enter Try.func87, Try.ntmps87
  go_wp2_with fail
  refine start_ (n := 15) (S := fun w' => w'.cell? ⟨b, o, none⟩ = some (.int .i64 e.k) ∧ w'.cell? ⟨b, o + 1, none⟩ = some (.string e.p) ∧ w'.cell? ⟨b, o + 2, none⟩ = some (.string e.o) ∧ w'.cell? ⟨b, o + 3, none⟩ = some (.string e.q) ∧ w'.cell? ⟨b, o + 4, none⟩ = some (.int .i64 e.v.kind) ∧ w'.cell? ⟨b, o + 5, none⟩ = some (.int .i64 e.v.int) ∧ w'.cell? ⟨b, o + 6, none⟩ = some (.int .i64 e.v.im) ∧ w'.cell? ⟨b, o + 7, none⟩ = some (.string e.v.text) ∧ w'.cell? ⟨b, o + 8, none⟩ = some (.slice Ae e.v.items.length ce) ∧ w'.cell? ⟨b, o + 9, none⟩ = some (.int .i64 e.a) ∧ w'.cell? ⟨b, o + 10, none⟩ = some (.int .i64 e.b) ∧ w'.cell? ⟨b, o + 11, none⟩ = some (.int .i64 e.c)) (ds := [11, 14]) #[false, false, false, false, false, false, false, false, false, false, false, false, false, false, false] (by kernel_rfl) rfl rfl (by go_keep) (fun hHeld => ?_)
  refine pure_ (i := 0) (N := some 54) (v := ?_) (a' := ?_) #[true, false, false, false, false, false, false, false, false, false, false, false, false, false, false] rfl rfl (by kernel_rfl) (fun _ _ _ h => h) (Or.inl ⟨by rfl, ?_⟩) ?_ ?_
  rotate_left
  · intro w'
    go_simp
    with_reducible rfl
  rotate_left
  · simp only [Act.put, List.setIfInBounds_toArray, List.set_cons_zero, List.set_cons_succ, i64_w, i32_w]
    rfl
  refine pure_ (i := 1) (N := some 55) (v := .slice (some (tailA b o cx)) x'.length (cx - 1)) (a' := ?_) #[true, true, false, false, false, false, false, false, false, false, false, false, false, false, false] rfl rfl (by kernel_rfl) (fun _ _ _ h => h) (Or.inl ⟨by rfl, ?eff_1_5⟩) ?put_1_5 ?rest_1_5
  case eff_1_5 =>
    intro w'
    go_simp
    rw [if_pos (by omega), show x.length - 1 = x'.length by have := hxl.out; omega]; unfold tailA; split <;> rfl
  case put_1_5 =>
    simp only [Act.put, List.setIfInBounds_toArray, List.set_cons_zero, List.set_cons_succ, i64_w, i32_w]
    rfl
  refine pure_ (i := 2) (N := some 56) (v := ?_) (a' := ?_) #[true, true, true, false, false, false, false, false, false, false, false, false, false, false, false] rfl rfl (by kernel_rfl) (fun _ _ _ h => h) (Or.inl ⟨by rfl, ?_⟩) ?_ ?_
  rotate_left
  · intro w'
    go_simp
    with_reducible rfl
  rotate_left
  · simp only [Act.put, List.setIfInBounds_toArray, List.set_cons_zero, List.set_cons_succ, i64_w, i32_w]
    rfl
  refine pure_ (i := 3) (N := some 57) (v := ?_) (a' := ?_) #[true, true, true, true, false, false, false, false, false, false, false, false, false, false, false] rfl rfl (by kernel_rfl) (fun _ _ _ h => h) (Or.inl ⟨by rfl, ?_⟩) ?_ ?_
  rotate_left
  · intro w'
    go_simp
    with_reducible rfl
  rotate_left
  · simp only [Act.put, List.setIfInBounds_toArray, List.set_cons_zero, List.set_cons_succ, i64_w, i32_w]
    rfl
  refine pure_ (i := 4) (N := some 58) (v := ?_) (a' := ?_) #[true, true, true, true, true, false, false, false, false, false, false, false, false, false, false] rfl rfl (by kernel_rfl) (fun _ _ _ h => h) (Or.inl ⟨by rfl, ?_⟩) ?_ ?_
  rotate_left
  · intro w'
    go_simp
    with_reducible rfl
  rotate_left
  · simp only [Act.put, List.setIfInBounds_toArray, List.set_cons_zero, List.set_cons_succ, i64_w, i32_w]
    rfl
  refine pure_ (i := 5) (N := some 59) (v := ?_) (a' := ?_) #[true, true, true, true, true, true, false, false, false, false, false, false, false, false, false] rfl rfl (by kernel_rfl) (fun _ _ _ h => h) (Or.inl ⟨by rfl, ?_⟩) ?_ ?_
  rotate_left
  · intro w'
    go_simp
    with_reducible rfl
  rotate_left
  · simp only [Act.put, List.setIfInBounds_toArray, List.set_cons_zero, List.set_cons_succ, i64_w, i32_w]
    rfl
  refine pure_ (i := 6) (N := some 60) (v := .slice Ap p.length p.length) (a' := ?_) #[true, true, true, true, true, true, true, false, false, false, false, false, false, false, false] rfl rfl (by kernel_rfl) (fun _ _ _ h => h) (Or.inl ⟨by rfl, ?eff_6_6⟩) ?put_6_6 ?rest_6_6
  case eff_6_6 =>
    intro w'
    go_simp
    skip
  case put_6_6 =>
    simp only [Act.put, List.setIfInBounds_toArray, List.set_cons_zero, List.set_cons_succ, i64_w, i32_w]
    rfl
  refine pure_ (i := 7) (N := some 61) (v := ?_) (a' := ?_) #[true, true, true, true, true, true, true, true, false, false, false, false, false, false, false] rfl rfl (by kernel_rfl) (fun _ _ _ h => h) (Or.inl ⟨by rfl, ?_⟩) ?_ ?_
  rotate_left
  · intro w'
    go_simp
    with_reducible rfl
  rotate_left
  · simp only [Act.put, List.setIfInBounds_toArray, List.set_cons_zero, List.set_cons_succ, i64_w, i32_w]
    rfl
  refine pure_ (i := 8) (N := some 62) (v := ?_) (a' := ?_) #[true, true, true, true, true, true, true, true, true, false, false, false, false, false, false] rfl rfl (by kernel_rfl) (fun _ _ _ h => h) (Or.inl ⟨by rfl, ?_⟩) ?_ ?_
  rotate_left
  · intro w'
    go_simp
    with_reducible rfl
  rotate_left
  · simp only [Act.put, List.setIfInBounds_toArray, List.set_cons_zero, List.set_cons_succ, i64_w, i32_w]
    rfl
  refine pure_ (i := 12) (N := some 66) (v := ?_) (a' := ?_) #[true, true, true, true, true, true, true, true, true, false, false, false, true, false, false] rfl rfl (by kernel_rfl) (fun _ _ _ h => h) (Or.inl ⟨by rfl, ?_⟩) ?_ ?_
  rotate_left
  · intro w'
    go_simp
    with_reducible rfl
  rotate_left
  · simp only [Act.put, List.setIfInBounds_toArray, List.set_cons_zero, List.set_cons_succ, i64_w, i32_w]
    rfl
  refine pure_ (i := 13) (N := some 67) (v := ?_) (a' := ?_) #[true, true, true, true, true, true, true, true, true, false, false, false, true, true, false] rfl rfl (by kernel_rfl) (fun _ _ _ h => h) (Or.inl ⟨by rfl, ?_⟩) ?_ ?_
  rotate_left
  · intro w'
    go_simp
    with_reducible rfl
  rotate_left
  · simp only [Act.put, List.setIfInBounds_toArray, List.set_cons_zero, List.set_cons_succ, i64_w, i32_w]
    rfl
  refine take_ (i := 9) (N := some 63) (v := ?_) (a' := ?_) #[true, true, true, true, true, true, true, true, true, true, false, false, true, true, false] rfl rfl (by kernel_rfl) (fun _ _ _ h => h) (Or.inl ⟨by rfl, ?_⟩) hHeld ?_ ?_
  rotate_left
  · rintro w' ⟨s0_, s1_, s2_, s3_, s4_, s5_, s6_, s7_, s8_, s9_, s10_, s11_⟩
    go_simp
    with_reducible rfl
  rotate_left
  · simp only [Act.put, List.setIfInBounds_toArray, List.set_cons_zero, List.set_cons_succ, i64_w, i32_w]
    rfl
  refine one_ (i := 10) (N := some 64) #[true, true, true, true, true, true, true, true, true, true, true, false, true, true, false] rfl rfl (by kernel_rfl) (by decide) (fun K hK => ?_)
  go_simp
  refine hK.out _ _ (by go_keep) (fun hHeld => ?_)
  clear hK K
  refine last_ (i := 11) (N := some 65) #[true, true, true, true, true, true, true, true, true, true, true, true, true, true, false] rfl rfl (by kernel_rfl) (by decide) (fun K hK => ?_)
  refine step_appendP _ rfl (.tmp 60) (.tmp 64) 22 rfl Try.underlying22 infoE rfl (N0 := N0) (B0 := B0) (H := w.heap.size) (p := p) (y := e) (n := p.length) rfl (by rfl) (by rfl) (heap_alloc_new _ _) (hp.out.below hN ((Below.refl _ _).drew.alloc (Nat.le_refl _) _)) ⟨Ae, ce, (hEOk.out.drew.alloc hN _), rfl⟩ (by rw [size_ad]; exact Nat.le_succ_of_le hN) (by omega) ?_
  intro g3 c3 w3 hc3 hp3 hb3 hg3
  have BW : Below w.heap.size w w3 := ((Below.refl _ _).drew.alloc (Nat.le_refl _) _).trans (hb3.mono (by rw [size_ad]; exact Nat.le_succ _))
  replace hg3 : w.heap.size ≤ g3 := by rw [size_ad] at hg3; exact Nat.le_of_succ_le hg3
  clear hb3
  refine hK.out _ _ ?_
  clear hK K
  refine norm_ (a' := ?_) ?_ ?_
  rotate_left
  · show Act.put _ (some 65) _ = _
    simp only [Act.put, List.setIfInBounds_toArray, List.set_cons_zero, List.set_cons_succ, i64_w, i32_w]
    rfl
  refine last_ (i := 14) (N := some 68) #[true, true, true, true, true, true, true, true, true, true, true, true, true, true, true] rfl rfl (by kernel_rfl) (by decide) (fun K hK => ?_)
  refine goes_ Try.func87 (by kernel_rfl) rfl #[.slice (some (tailA b o cx)) x'.length (cx - 1), .slice Ay y.length cy, .slice (some ⟨g3, 0, none⟩) (p.length + 1) c3, .int .i64 most, .pointer (some ⟨g, 0, none⟩)] (by rfl) rfl rfl (by (try simp only [List.map_toArray, List.map_cons, List.map_nil]); first | done | rfl) ?_
  refine (HI.out g3 c3 w3 hc3 hp3 BW hg3).mono ?_
  rintro e5 W5 ⟨rfl, A5, c5, hO5, hC5⟩
  refine ⟨_, rfl, ?_⟩
  refine hK.out _ _ ?_
  clear hK K
  refine norm_ (a' := ?_) ?_ ?_
  rotate_left
  · show Act.put _ (some 68) _ = _
    simp only [Act.put, List.setIfInBounds_toArray, List.set_cons_zero, List.set_cons_succ, i64_w, i32_w]
    rfl
  refine done_ (by kernel_rfl) ?_
  obtain ⟨rows1, hrows⟩ : ∃ r, r = (rows ++ mergesL (p ++ [e]) x' y).take most := ⟨_, rfl⟩
  have HT : Q ((rows ++ mergesL p x y).take most = (rows1 ++ mergesL (p ++ [d]) x y').take most) := ⟨by rw [HM.out, hrows, take_more]⟩
  rw [← hrows] at hO5
  have hr1 : rows1.length ≤ most := by rw [hrows, List.length_take]; omega
  have hz5 := hC5.low.size
  have hN5 : N0 ≤ W5.heap.size := by omega
  have hC0 : Chg g A A5 w W5 := hC5
  have hq5 := hQ.out.below (hC5.low.mono hlow) (Nat.le_refl _)
  have hr5 := hR.out.below (hC5.low.mono hlow) (Nat.le_refl _)
  have hp5 : PRow N0 W5 Ap cp p := hp.out.keep (fun b hb => hC5.low.block b (by omega)) fun b hb => hC5.same b (hp.out.blk hb) (hPA.out b hb).1 (hPA.out b hb).2
  obtain ⟨b2, o2, d', Ad, cd, rfl, hbN2, hd, hEOk2, y0, y1, y2, y3, y4, y5, y6, y7, y8, y9, y10, y11⟩ := hq5.atE 0 (by omega)
  simp only [Nat.zero_mul, Nat.add_zero] at y0 y1 y2 y3 y4 y5 y6 y7 y8 y9 y10 y11
  obtain rfl : d = d' := by rw [← hd]; simp [HY.out]
  have hqt := hq5
  rw [HY.out] at hqt
  have ht5 := row_tail hqt (c := cy) (by have := hyl.out; omega)
  have HI2 := Q.mk (fun (g' c' : Nat) (w' : World) => mrg_rec IH.out (e := d) (p := p) (Ax := some ⟨b, o, none⟩) (Ay := some (tailA b2 o2 cy)) (cx := cx) (cy := cy - 1) (g' := g') (c' := c') (w' := w') (x := x) (y := y') (by have := hyl.out; have := hxl.out; omega) hr5 ht5 hN5 hcx (by have := hyl.out; omega) (by have := hyl.out; omega) hO5 hr1 hm2)
  replace hp5 := Q.mk hp5
  replace hEOk2 := Q.mk hEOk2
  replace hC0 := Q.mk hC0
  clear hO5 hC5 hq5 hr5 hqt ht5 hd hrows x0 x1 x2 x3 x4 x5 x6 x7 x8 x9 x10 x11 BW hp3 c0
  go_wp2_with fail
  refine start_ (n := 15) (S := fun w' => w'.cell? ⟨b2, o2, none⟩ = some (.int .i64 d.k) ∧ w'.cell? ⟨b2, o2 + 1, none⟩ = some (.string d.p) ∧ w'.cell? ⟨b2, o2 + 2, none⟩ = some (.string d.o) ∧ w'.cell? ⟨b2, o2 + 3, none⟩ = some (.string d.q) ∧ w'.cell? ⟨b2, o2 + 4, none⟩ = some (.int .i64 d.v.kind) ∧ w'.cell? ⟨b2, o2 + 5, none⟩ = some (.int .i64 d.v.int) ∧ w'.cell? ⟨b2, o2 + 6, none⟩ = some (.int .i64 d.v.im) ∧ w'.cell? ⟨b2, o2 + 7, none⟩ = some (.string d.v.text) ∧ w'.cell? ⟨b2, o2 + 8, none⟩ = some (.slice Ad d.v.items.length cd) ∧ w'.cell? ⟨b2, o2 + 9, none⟩ = some (.int .i64 d.a) ∧ w'.cell? ⟨b2, o2 + 10, none⟩ = some (.int .i64 d.b) ∧ w'.cell? ⟨b2, o2 + 11, none⟩ = some (.int .i64 d.c)) (ds := [11, 14]) #[false, false, false, false, false, false, false, false, false, false, false, false, false, false, false] (by kernel_rfl) rfl rfl (by go_keep) (fun hHeld => ?_)
  refine pure_ (i := 0) (N := some 72) (v := ?_) (a' := ?_) #[true, false, false, false, false, false, false, false, false, false, false, false, false, false, false] rfl rfl (by kernel_rfl) (fun _ _ _ h => h) (Or.inl ⟨by rfl, ?_⟩) ?_ ?_
  rotate_left
  · intro w'
    go_simp
    with_reducible rfl
  rotate_left
  · simp only [Act.put, List.setIfInBounds_toArray, List.set_cons_zero, List.set_cons_succ, i64_w, i32_w]
    rfl
  refine pure_ (i := 1) (N := some 73) (v := ?_) (a' := ?_) #[true, true, false, false, false, false, false, false, false, false, false, false, false, false, false] rfl rfl (by kernel_rfl) (fun _ _ _ h => h) (Or.inl ⟨by rfl, ?_⟩) ?_ ?_
  rotate_left
  · intro w'
    go_simp
    with_reducible rfl
  rotate_left
  · simp only [Act.put, List.setIfInBounds_toArray, List.set_cons_zero, List.set_cons_succ, i64_w, i32_w]
    rfl
  refine pure_ (i := 2) (N := some 74) (v := .slice (some (tailA b2 o2 cy)) y'.length (cy - 1)) (a' := ?_) #[true, true, true, false, false, false, false, false, false, false, false, false, false, false, false] rfl rfl (by kernel_rfl) (fun _ _ _ h => h) (Or.inl ⟨by rfl, ?eff_2_7⟩) ?put_2_7 ?rest_2_7
  case eff_2_7 =>
    intro w'
    go_simp
    rw [if_pos (by omega), show y.length - 1 = y'.length by have := hyl.out; omega]; unfold tailA; split <;> rfl
  case put_2_7 =>
    simp only [Act.put, List.setIfInBounds_toArray, List.set_cons_zero, List.set_cons_succ, i64_w, i32_w]
    rfl
  refine pure_ (i := 3) (N := some 75) (v := ?_) (a' := ?_) #[true, true, true, true, false, false, false, false, false, false, false, false, false, false, false] rfl rfl (by kernel_rfl) (fun _ _ _ h => h) (Or.inl ⟨by rfl, ?_⟩) ?_ ?_
  rotate_left
  · intro w'
    go_simp
    with_reducible rfl
  rotate_left
  · simp only [Act.put, List.setIfInBounds_toArray, List.set_cons_zero, List.set_cons_succ, i64_w, i32_w]
    rfl
  refine pure_ (i := 4) (N := some 76) (v := ?_) (a' := ?_) #[true, true, true, true, true, false, false, false, false, false, false, false, false, false, false] rfl rfl (by kernel_rfl) (fun _ _ _ h => h) (Or.inl ⟨by rfl, ?_⟩) ?_ ?_
  rotate_left
  · intro w'
    go_simp
    with_reducible rfl
  rotate_left
  · simp only [Act.put, List.setIfInBounds_toArray, List.set_cons_zero, List.set_cons_succ, i64_w, i32_w]
    rfl
  refine pure_ (i := 5) (N := some 77) (v := ?_) (a' := ?_) #[true, true, true, true, true, true, false, false, false, false, false, false, false, false, false] rfl rfl (by kernel_rfl) (fun _ _ _ h => h) (Or.inl ⟨by rfl, ?_⟩) ?_ ?_
  rotate_left
  · intro w'
    go_simp
    with_reducible rfl
  rotate_left
  · simp only [Act.put, List.setIfInBounds_toArray, List.set_cons_zero, List.set_cons_succ, i64_w, i32_w]
    rfl
  refine pure_ (i := 6) (N := some 78) (v := .slice Ap p.length p.length) (a' := ?_) #[true, true, true, true, true, true, true, false, false, false, false, false, false, false, false] rfl rfl (by kernel_rfl) (fun _ _ _ h => h) (Or.inl ⟨by rfl, ?eff_6_8⟩) ?put_6_8 ?rest_6_8
  case eff_6_8 =>
    intro w'
    go_simp
    skip
  case put_6_8 =>
    simp only [Act.put, List.setIfInBounds_toArray, List.set_cons_zero, List.set_cons_succ, i64_w, i32_w]
    rfl
  refine pure_ (i := 7) (N := some 79) (v := ?_) (a' := ?_) #[true, true, true, true, true, true, true, true, false, false, false, false, false, false, false] rfl rfl (by kernel_rfl) (fun _ _ _ h => h) (Or.inl ⟨by rfl, ?_⟩) ?_ ?_
  rotate_left
  · intro w'
    go_simp
    with_reducible rfl
  rotate_left
  · simp only [Act.put, List.setIfInBounds_toArray, List.set_cons_zero, List.set_cons_succ, i64_w, i32_w]
    rfl
  refine pure_ (i := 8) (N := some 80) (v := ?_) (a' := ?_) #[true, true, true, true, true, true, true, true, true, false, false, false, false, false, false] rfl rfl (by kernel_rfl) (fun _ _ _ h => h) (Or.inl ⟨by rfl, ?_⟩) ?_ ?_
  rotate_left
  · intro w'
    go_simp
    with_reducible rfl
  rotate_left
  · simp only [Act.put, List.setIfInBounds_toArray, List.set_cons_zero, List.set_cons_succ, i64_w, i32_w]
    rfl
  refine pure_ (i := 12) (N := some 84) (v := ?_) (a' := ?_) #[true, true, true, true, true, true, true, true, true, false, false, false, true, false, false] rfl rfl (by kernel_rfl) (fun _ _ _ h => h) (Or.inl ⟨by rfl, ?_⟩) ?_ ?_
  rotate_left
  · intro w'
    go_simp
    with_reducible rfl
  rotate_left
  · simp only [Act.put, List.setIfInBounds_toArray, List.set_cons_zero, List.set_cons_succ, i64_w, i32_w]
    rfl
  refine pure_ (i := 13) (N := some 85) (v := ?_) (a' := ?_) #[true, true, true, true, true, true, true, true, true, false, false, false, true, true, false] rfl rfl (by kernel_rfl) (fun _ _ _ h => h) (Or.inl ⟨by rfl, ?_⟩) ?_ ?_
  rotate_left
  · intro w'
    go_simp
    with_reducible rfl
  rotate_left
  · simp only [Act.put, List.setIfInBounds_toArray, List.set_cons_zero, List.set_cons_succ, i64_w, i32_w]
    rfl
  refine take_ (i := 9) (N := some 81) (v := ?_) (a' := ?_) #[true, true, true, true, true, true, true, true, true, true, false, false, true, true, false] rfl rfl (by kernel_rfl) (fun _ _ _ h => h) (Or.inl ⟨by rfl, ?_⟩) hHeld ?_ ?_
  rotate_left
  · rintro w' ⟨s0_, s1_, s2_, s3_, s4_, s5_, s6_, s7_, s8_, s9_, s10_, s11_⟩
    go_simp
    with_reducible rfl
  rotate_left
  · simp only [Act.put, List.setIfInBounds_toArray, List.set_cons_zero, List.set_cons_succ, i64_w, i32_w]
    rfl
  refine one_ (i := 10) (N := some 82) #[true, true, true, true, true, true, true, true, true, true, true, false, true, true, false] rfl rfl (by kernel_rfl) (by decide) (fun K hK => ?_)
  go_simp
  refine hK.out _ _ (by go_keep) (fun hHeld => ?_)
  clear hK K
  refine last_ (i := 11) (N := some 83) #[true, true, true, true, true, true, true, true, true, true, true, true, true, true, false] rfl rfl (by kernel_rfl) (by decide) (fun K hK => ?_)
  refine step_appendP _ rfl (.tmp 78) (.tmp 82) 22 rfl Try.underlying22 infoE rfl (N0 := N0) (B0 := B0) (H := W5.heap.size) (p := p) (y := d) (n := p.length) rfl (by rfl) (by rfl) (heap_alloc_new _ _) (hp5.out.below hN5 ((Below.refl _ _).drew.alloc (Nat.le_refl _) _)) ⟨Ad, cd, (hEOk2.out.drew.alloc hN5 _), rfl⟩ (by rw [size_ad]; exact Nat.le_succ_of_le hN5) (by omega) ?_
  intro g4 c4 w4 hc4 hp4 hb4 hg4
  have BW : Below W5.heap.size W5 w4 := ((Below.refl _ _).drew.alloc (Nat.le_refl _) _).trans (hb4.mono (by rw [size_ad]; exact Nat.le_succ _))
  replace hg4 : W5.heap.size ≤ g4 := by rw [size_ad] at hg4; exact Nat.le_of_succ_le hg4
  clear hb4
  refine hK.out _ _ ?_
  clear hK K
  refine norm_ (a' := ?_) ?_ ?_
  rotate_left
  · show Act.put _ (some 83) _ = _
    simp only [Act.put, List.setIfInBounds_toArray, List.set_cons_zero, List.set_cons_succ, i64_w, i32_w]
    rfl
  refine last_ (i := 14) (N := some 86) #[true, true, true, true, true, true, true, true, true, true, true, true, true, true, true] rfl rfl (by kernel_rfl) (by decide) (fun K hK => ?_)
  refine goes_ Try.func87 (by kernel_rfl) rfl #[.slice (some ⟨b, o, none⟩) x.length cx, .slice (some (tailA b2 o2 cy)) y'.length (cy - 1), .slice (some ⟨g4, 0, none⟩) (p.length + 1) c4, .int .i64 most, .pointer (some ⟨g, 0, none⟩)] (by rfl) rfl rfl (by (try simp only [List.map_toArray, List.map_cons, List.map_nil]); first | done | rfl) ?_
  refine (HI2.out g4 c4 w4 hc4 hp4 BW hg4).mono ?_
  rintro e7 W7 ⟨rfl, A7, c7, hO7, hC7⟩
  refine ⟨_, rfl, ?_⟩
  refine hK.out _ _ ?_
  clear hK K
  refine norm_ (a' := ?_) ?_ ?_
  rotate_left
  · show Act.put _ (some 86) _ = _
    simp only [Act.put, List.setIfInBounds_toArray, List.set_cons_zero, List.set_cons_succ, i64_w, i32_w]
    rfl
  refine done_ (by kernel_rfl) ?_
  go_wp2_with fail
  go_end0
  refine ⟨rfl, A7, c7, ?_, hC0.out.trans hC7⟩
  rw [HT.out]
  exact hO7
theorem mrg_any (f : Nat) : MIH f := by
  induction f with
  | zero =>
    intro x y p Ax Ay Ap A cx cy cp c B0 N0 g most rows w hf hx hy hp hpa hN hcx hcy hcp hl hO hm hm2
    obtain rfl : x = [] := List.eq_nil_of_length_eq_zero (by omega)
    obtain rfl : y = [] := List.eq_nil_of_length_eq_zero (by omega)
    rcases Nat.lt_or_ge rows.length most with h | h
    · exact mrg_leaf p Ax Ay Ap A cx cy cp c N0 g most rows w hp hN (by simpa using hl) hO h hm2
    · exact mrg_full [] [] p Ax Ay Ap A cx cy cp c N0 g most rows w hO (by omega) hm2
  | succ f IH =>
    intro x y p Ax Ay Ap A cx cy cp c B0 N0 g most rows w hf hx hy hp hpa hN hcx hcy hcp hl hO hm hm2
    rcases Nat.lt_or_ge rows.length most with h | h
    · cases x with
      | nil =>
        cases y with
        | nil => exact mrg_leaf p Ax Ay Ap A cx cy cp c N0 g most rows w hp hN (by simpa using hl) hO h hm2
        | cons d y' => exact mrg_right IH d y' _ p rfl Ax Ay Ap A cx cy cp c B0 N0 g most rows w (by simp at hf; omega) hy hp hN hcy hcp (by simpa using hl) hO h hm2
      | cons e x' =>
        cases y with
        | nil => exact mrg_left IH e x' _ p rfl Ax Ay Ap A cx cy cp c B0 N0 g most rows w (by simp at hf; omega) hx hp hN hcx hcp (by simpa using hl) hO h hm2
        | cons d y' => exact mrg_both IH e d x' _ y' _ p rfl rfl Ax Ay Ap A cx cy cp c B0 N0 g most rows w (by simp only [List.length_cons] at hf ⊢; omega) hx hy hpa hp hN hcx hcy hcp hl hO h hm2
    · exact mrg_full x y p Ax Ay Ap A cx cy cp c N0 g most rows w hO (by omega) hm2
end Go.Proofs.Ytifakbipdmceiaa

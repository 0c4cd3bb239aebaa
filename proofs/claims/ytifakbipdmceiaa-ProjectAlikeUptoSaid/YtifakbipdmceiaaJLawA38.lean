import Derived.Test.YtifakbipdmceiaaJLawA24
import Derived.Test.YtifakbipdmceiaaJLawA17
import Derived.Test.YtifakbipdmceiaaJLawA37
set_option linter.unusedVariables false
set_option linter.unusedSimpArgs false
namespace Go.Proofs.Ytifakbipdmceiaa
open Go.RowKit Go.Proofs.YtifakbipdmceiaaW.PrintLast

theorem right_form {x : Val} (h : rightB x = true) : formB x = true := by rw [rightB, Bool.and_eq_true] at h; exact h.2
theorem sameE_ref (x y : Ev) : sameE x y = ((x.k == y.k) && (x.p.toList == y.p.toList) && (x.o.toList == y.o.toList) && (x.q.toList == y.q.toList) && rightB x.v && rightB y.v && rsameV x.v y.v) := by
  rw [sameE, sEq, sEq, sEq]
  cases h1 : rightB x.v
  · simp
  cases h2 : rightB y.v
  · simp
  rw [cmpP, if_pos h1, if_pos h2, rsameV, rord_ord _ _ (right_form h1) (right_form h2)]
set_option maxHeartbeats 4000000 in
set_option maxRecDepth 100000 in
theorem SameE_ref (xs ys : List Ev) (A A' : Option Addr) (c c' B0 N0 : Nat) (w : World) (hx0 : Row eEl B0 N0 w A xs) (hy0 : Row eEl B0 N0 w A' ys) (hN : N0 ≤ w.heap.size) (tx0 : ∀ e ∈ xs, TxV e.v) (ty0 : ∀ e ∈ ys, TxV e.v) :
    Calls Try.prog 83 #[.slice A xs.length c, .slice A' ys.length c'] w fun e w' => e = .returned (.bool (sameEs xs ys)) ∧ Below w.heap.size w w' := by
  obtain ⟨r, hr⟩ : ∃ r, r = sameEs xs ys := ⟨_, rfl⟩
  rw [← hr]
  have hlx := hx0.lenE
  have hly := hy0.lenE
  have hx := Q.mk hx0
  have hy := Q.mk hy0
  have tx := Q.mk tx0
  have ty := Q.mk ty0
  clear hx0 hy0 tx0 ty0
  by_cases hn : xs.length = ys.length
  · have hn' : ((xs.length : Int) != (ys.length : Int)) = false := by simp [hn]
    have hn1 : xs.length ≤ ys.length := by omega
    have hn2 : ys.length ≤ xs.length := by omega
    have hR : Q (r = sameEs (xs.drop 0) (ys.drop 0)) := ⟨hr⟩
    clear hn hr
    go_enter Try.func83, Try.ntmps83
    go_wp2_with fail
    clear hn'
    go_loopw [5] (fun i wr => ∃ j : Nat, j ≤ xs.length ∧ i = .int .i64 j ∧ Q (r = sameEs (xs.drop j) (ys.drop j)) ∧ Below w.heap.size w wr) (fun i _ => xs.length - (intOf i).toNat)
    case atStart => exact ⟨0, Nat.zero_le _, rfl, hR, Below.refl _ _⟩
    case round =>
      clear hR
      obtain ⟨j, hj, rfl, hR, hB⟩ := hrel
      have hz := hB.size
      by_cases hlt : j < xs.length
      · have hlt' : j < ys.length := by omega
        obtain ⟨b, o, x, Ax, cx, rfl, hbN, hx', hxOk, x0, x1, x2, x3, x4, x5, x6, x7, x8, x9, x10, x11⟩ := (hx.out.below hB hN).atE j hlt
        obtain ⟨b', o', y, Ay, cy, rfl, hbN', hy', hyOk, y0, y1, y2, y3, y4, y5, y6, y7, y8, y9, y10, y11⟩ := (hy.out.below hB hN).atE j hlt'
        have tx1 : TxV x.v := tx.out x (by rw [← hx']; exact List.getElem_mem hlt)
        have ty1 : TxV y.v := ty.out y (by rw [← hy']; exact List.getElem_mem hlt')
        replace tx1 := Q.mk tx1
        replace ty1 := Q.mk ty1
        have HS := hR.out
        rw [sameEs_step xs ys j hlt hlt', hx', hy'] at HS
        replace HS := Q.mk HS
        replace hxOk := Q.mk hxOk
        replace hyOk := Q.mk hyOk
        clear hx' hy' hR
        have hI := PInv.start zE 37 wr
        have lb : b < wr.heap.size := by omega
        have lb' : b' < wr.heap.size := by omega
        have HSc : Q (∀ W', Below wr.heap.size wr W' → (W'.cell? ⟨b, o + j * 12, none⟩ = some (.int .i64 x.k) ∧ W'.cell? ⟨b, o + j * 12 + 1, none⟩ = some (.string x.p) ∧ W'.cell? ⟨b, o + j * 12 + 2, none⟩ = some (.string x.o) ∧ W'.cell? ⟨b, o + j * 12 + 3, none⟩ = some (.string x.q) ∧ W'.cell? ⟨b, o + j * 12 + 4, none⟩ = some (.int .i64 x.v.kind) ∧ W'.cell? ⟨b, o + j * 12 + 5, none⟩ = some (.int .i64 x.v.int) ∧ W'.cell? ⟨b, o + j * 12 + 6, none⟩ = some (.int .i64 x.v.im) ∧ W'.cell? ⟨b, o + j * 12 + 7, none⟩ = some (.string x.v.text) ∧ W'.cell? ⟨b, o + j * 12 + 8, none⟩ = some (.slice Ax x.v.items.length cx) ∧ W'.cell? ⟨b, o + j * 12 + 9, none⟩ = some (.int .i64 x.a) ∧ W'.cell? ⟨b, o + j * 12 + 10, none⟩ = some (.int .i64 x.b) ∧ W'.cell? ⟨b, o + j * 12 + 11, none⟩ = some (.int .i64 x.c) ∧ W'.cell? ⟨b', o' + j * 12, none⟩ = some (.int .i64 y.k) ∧ W'.cell? ⟨b', o' + j * 12 + 1, none⟩ = some (.string y.p) ∧ W'.cell? ⟨b', o' + j * 12 + 2, none⟩ = some (.string y.o) ∧ W'.cell? ⟨b', o' + j * 12 + 3, none⟩ = some (.string y.q) ∧ W'.cell? ⟨b', o' + j * 12 + 4, none⟩ = some (.int .i64 y.v.kind) ∧ W'.cell? ⟨b', o' + j * 12 + 5, none⟩ = some (.int .i64 y.v.int) ∧ W'.cell? ⟨b', o' + j * 12 + 6, none⟩ = some (.int .i64 y.v.im) ∧ W'.cell? ⟨b', o' + j * 12 + 7, none⟩ = some (.string y.v.text) ∧ W'.cell? ⟨b', o' + j * 12 + 8, none⟩ = some (.slice Ay y.v.items.length cy) ∧ W'.cell? ⟨b', o' + j * 12 + 9, none⟩ = some (.int .i64 y.a) ∧ W'.cell? ⟨b', o' + j * 12 + 10, none⟩ = some (.int .i64 y.b) ∧ W'.cell? ⟨b', o' + j * 12 + 11, none⟩ = some (.int .i64 y.c))) := ⟨fun W' h => ⟨(h.cell (p := ⟨b, _, none⟩) lb).trans x0, (h.cell (p := ⟨b, _, none⟩) lb).trans x1, (h.cell (p := ⟨b, _, none⟩) lb).trans x2, (h.cell (p := ⟨b, _, none⟩) lb).trans x3, (h.cell (p := ⟨b, _, none⟩) lb).trans x4, (h.cell (p := ⟨b, _, none⟩) lb).trans x5, (h.cell (p := ⟨b, _, none⟩) lb).trans x6, (h.cell (p := ⟨b, _, none⟩) lb).trans x7, (h.cell (p := ⟨b, _, none⟩) lb).trans x8, (h.cell (p := ⟨b, _, none⟩) lb).trans x9, (h.cell (p := ⟨b, _, none⟩) lb).trans x10, (h.cell (p := ⟨b, _, none⟩) lb).trans x11, (h.cell (p := ⟨b', _, none⟩) lb').trans y0, (h.cell (p := ⟨b', _, none⟩) lb').trans y1, (h.cell (p := ⟨b', _, none⟩) lb').trans y2, (h.cell (p := ⟨b', _, none⟩) lb').trans y3, (h.cell (p := ⟨b', _, none⟩) lb').trans y4, (h.cell (p := ⟨b', _, none⟩) lb').trans y5, (h.cell (p := ⟨b', _, none⟩) lb').trans y6, (h.cell (p := ⟨b', _, none⟩) lb').trans y7, (h.cell (p := ⟨b', _, none⟩) lb').trans y8, (h.cell (p := ⟨b', _, none⟩) lb').trans y9, (h.cell (p := ⟨b', _, none⟩) lb').trans y10, (h.cell (p := ⟨b', _, none⟩) lb').trans y11⟩⟩
        go_wp2
        refine start_ (n := 12) (S := fun w' => w'.cell? ⟨b, o + j * 12, none⟩ = some (.int .i64 x.k) ∧ w'.cell? ⟨b, o + j * 12 + 1, none⟩ = some (.string x.p) ∧ w'.cell? ⟨b, o + j * 12 + 2, none⟩ = some (.string x.o) ∧ w'.cell? ⟨b, o + j * 12 + 3, none⟩ = some (.string x.q) ∧ w'.cell? ⟨b, o + j * 12 + 4, none⟩ = some (.int .i64 x.v.kind) ∧ w'.cell? ⟨b, o + j * 12 + 5, none⟩ = some (.int .i64 x.v.int) ∧ w'.cell? ⟨b, o + j * 12 + 6, none⟩ = some (.int .i64 x.v.im) ∧ w'.cell? ⟨b, o + j * 12 + 7, none⟩ = some (.string x.v.text) ∧ w'.cell? ⟨b, o + j * 12 + 8, none⟩ = some (.slice Ax x.v.items.length cx) ∧ w'.cell? ⟨b, o + j * 12 + 9, none⟩ = some (.int .i64 x.a) ∧ w'.cell? ⟨b, o + j * 12 + 10, none⟩ = some (.int .i64 x.b) ∧ w'.cell? ⟨b, o + j * 12 + 11, none⟩ = some (.int .i64 x.c) ∧ w'.cell? ⟨b', o' + j * 12, none⟩ = some (.int .i64 y.k) ∧ w'.cell? ⟨b', o' + j * 12 + 1, none⟩ = some (.string y.p) ∧ w'.cell? ⟨b', o' + j * 12 + 2, none⟩ = some (.string y.o) ∧ w'.cell? ⟨b', o' + j * 12 + 3, none⟩ = some (.string y.q) ∧ w'.cell? ⟨b', o' + j * 12 + 4, none⟩ = some (.int .i64 y.v.kind) ∧ w'.cell? ⟨b', o' + j * 12 + 5, none⟩ = some (.int .i64 y.v.int) ∧ w'.cell? ⟨b', o' + j * 12 + 6, none⟩ = some (.int .i64 y.v.im) ∧ w'.cell? ⟨b', o' + j * 12 + 7, none⟩ = some (.string y.v.text) ∧ w'.cell? ⟨b', o' + j * 12 + 8, none⟩ = some (.slice Ay y.v.items.length cy) ∧ w'.cell? ⟨b', o' + j * 12 + 9, none⟩ = some (.int .i64 y.a) ∧ w'.cell? ⟨b', o' + j * 12 + 10, none⟩ = some (.int .i64 y.b) ∧ w'.cell? ⟨b', o' + j * 12 + 11, none⟩ = some (.int .i64 y.c)) (ds := [11]) #[false, false, false, false, false, false, false, false, false, false, false, false] (by kernel_rfl) rfl rfl (HSc.out _ (Below.refl _ _).drew) (fun hHeld => ?_)
        refine pure_ (i := 0) (N := some 19) (v := ?_) (a' := ?_) #[true, false, false, false, false, false, false, false, false, false, false, false] rfl rfl (by kernel_rfl) (fun _ _ _ h => h) (Or.inl ⟨by rfl, ?_⟩) ?_ ?_
        rotate_left
        · intro w'
          go_simp
          with_reducible rfl
        rotate_left
        · simp only [Act.put, List.setIfInBounds_toArray, List.set_cons_zero, List.set_cons_succ, i64_w, i32_w]
          rfl
        refine pure_ (i := 1) (N := some 20) (v := ?_) (a' := ?_) #[true, true, false, false, false, false, false, false, false, false, false, false] rfl rfl (by kernel_rfl) (fun _ _ _ h => h) (Or.inl ⟨by rfl, ?_⟩) ?_ ?_
        rotate_left
        · intro w'
          go_simp
          with_reducible rfl
        rotate_left
        · simp only [Act.put, List.setIfInBounds_toArray, List.set_cons_zero, List.set_cons_succ, i64_w, i32_w]
          rfl
        refine pure_ (i := 2) (N := some 21) (v := ?_) (a' := ?_) #[true, true, true, false, false, false, false, false, false, false, false, false] rfl rfl (by kernel_rfl) (fun _ _ _ h => h) (Or.inl ⟨by rfl, ?_⟩) ?_ ?_
        rotate_left
        · intro w'
          go_simp
          with_reducible rfl
        rotate_left
        · simp only [Act.put, List.setIfInBounds_toArray, List.set_cons_zero, List.set_cons_succ, i64_w, i32_w]
          rfl
        refine take_ (i := 3) (N := some 22) (v := ?_) (a' := ?_) #[true, true, true, true, false, false, false, false, false, false, false, false] rfl rfl (by kernel_rfl) (fun _ _ _ h => h) (Or.inl ⟨by rfl, ?_⟩) hHeld ?_ ?_
        rotate_left
        · rintro w' ⟨s0_, s1_, s2_, s3_, s4_, s5_, s6_, s7_, s8_, s9_, s10_, s11_, s12_, s13_, s14_, s15_, s16_, s17_, s18_, s19_, s20_, s21_, s22_, s23_⟩
          go_simp
          with_reducible rfl
        rotate_left
        · simp only [Act.put, List.setIfInBounds_toArray, List.set_cons_zero, List.set_cons_succ, i64_w, i32_w]
          rfl
        refine pure_ (i := 4) (N := some 23) (v := ?_) (a' := ?_) #[true, true, true, true, true, false, false, false, false, false, false, false] rfl rfl (by kernel_rfl) (fun _ _ _ h => h) (Or.inl ⟨by rfl, ?_⟩) ?_ ?_
        rotate_left
        · intro w'
          go_simp
          with_reducible rfl
        rotate_left
        · simp only [Act.put, List.setIfInBounds_toArray, List.set_cons_zero, List.set_cons_succ, i64_w, i32_w]
          rfl
        refine pure_ (i := 5) (N := some 24) (v := ?_) (a' := ?_) #[true, true, true, true, true, true, false, false, false, false, false, false] rfl rfl (by kernel_rfl) (fun _ _ _ h => h) (Or.inl ⟨by rfl, ?_⟩) ?_ ?_
        rotate_left
        · intro w'
          go_simp
          with_reducible rfl
        rotate_left
        · simp only [Act.put, List.setIfInBounds_toArray, List.set_cons_zero, List.set_cons_succ, i64_w, i32_w]
          rfl
        refine pure_ (i := 6) (N := some 25) (v := ?_) (a' := ?_) #[true, true, true, true, true, true, true, false, false, false, false, false] rfl rfl (by kernel_rfl) (fun _ _ _ h => h) (Or.inl ⟨by rfl, ?_⟩) ?_ ?_
        rotate_left
        · intro w'
          go_simp
          with_reducible rfl
        rotate_left
        · simp only [Act.put, List.setIfInBounds_toArray, List.set_cons_zero, List.set_cons_succ, i64_w, i32_w]
          rfl
        refine take_ (i := 7) (N := some 26) (v := ?_) (a' := ?_) #[true, true, true, true, true, true, true, true, false, false, false, false] rfl rfl (by kernel_rfl) (fun _ _ _ h => h) (Or.inl ⟨by rfl, ?_⟩) hHeld ?_ ?_
        rotate_left
        · rintro w' ⟨s0_, s1_, s2_, s3_, s4_, s5_, s6_, s7_, s8_, s9_, s10_, s11_, s12_, s13_, s14_, s15_, s16_, s17_, s18_, s19_, s20_, s21_, s22_, s23_⟩
          go_simp
          with_reducible rfl
        rotate_left
        · simp only [Act.put, List.setIfInBounds_toArray, List.set_cons_zero, List.set_cons_succ, i64_w, i32_w]
          rfl
        refine join_ (σ := Nat × Nat) 2 #[true, true, true, true, true, true, true, true, true, true, false, false] (fun s => [(6, .pointer (some ⟨s.1, 0, none⟩)), (7, .pointer (some ⟨s.2, 0, none⟩))]) (fun s w' => Q (PInv zE 37 wr (some s.1) (some s.2) w')) ?cont_ ?tree_
        case tree_ =>
          intro hj_
          obtain ⟨W0_, hWr⟩ : ∃ V, V = wr.drew := ⟨_, rfl⟩
          rw [← hWr]
          rw [← hWr] at hI
          clear hWr
          refine two_ (i := 8) (j := 9) (Ni := some 6) (Nj := some 7) #[true, true, true, true, true, true, true, true, true, false, false, false] #[true, true, true, true, true, true, true, true, false, true, false, false] rfl rfl rfl rfl (by kernel_rfl) (by decide) (by decide) ?_ ?_
          · intro K hK
            go_simp
            obtain ⟨W1_, hV⟩ : ∃ V, V = World.alloc (W0_) (.cells #[.int .i64 0, .string ⟨#[]⟩, .string ⟨#[]⟩, .string ⟨#[]⟩, .int .i64 0, .int .i64 0, .int .i64 0, .string ⟨#[]⟩, .slice none 0 0, .int .i64 0, .int .i64 0, .int .i64 0] 37) := ⟨_, rfl⟩
            rw [← hV]
            replace hI := hI.a6 hV
            clear hV
            refine hK.out _ _ (HSc.out _ hI.bel) (fun hHeld => ?_)
            clear hK K
            refine one_ (i := 9) (N := some 7) #[true, true, true, true, true, true, true, true, true, true, false, false] rfl rfl (by kernel_rfl) (by decide) ?_
            · intro K hK
              go_simp
              obtain ⟨W2_, hV⟩ : ∃ V, V = World.alloc (W1_) (.cells #[.int .i64 0, .string ⟨#[]⟩, .string ⟨#[]⟩, .string ⟨#[]⟩, .int .i64 0, .int .i64 0, .int .i64 0, .string ⟨#[]⟩, .slice none 0 0, .int .i64 0, .int .i64 0, .int .i64 0] 37) := ⟨_, rfl⟩
              rw [← hV]
              replace hI := hI.a7 hV
              clear hV
              refine hK.out _ _ (HSc.out _ hI.bel) (fun hHeld => ?_)
              clear hK K
              exact hj_ (_, _) _ ⟨hI⟩
          · intro K hK
            go_simp
            obtain ⟨W1_, hV⟩ : ∃ V, V = World.alloc (W0_) (.cells #[.int .i64 0, .string ⟨#[]⟩, .string ⟨#[]⟩, .string ⟨#[]⟩, .int .i64 0, .int .i64 0, .int .i64 0, .string ⟨#[]⟩, .slice none 0 0, .int .i64 0, .int .i64 0, .int .i64 0] 37) := ⟨_, rfl⟩
            rw [← hV]
            replace hI := hI.a7 hV
            clear hV
            refine hK.out _ _ (HSc.out _ hI.bel) (fun hHeld => ?_)
            clear hK K
            refine one_ (i := 8) (N := some 6) #[true, true, true, true, true, true, true, true, true, true, false, false] rfl rfl (by kernel_rfl) (by decide) ?_
            · intro K hK
              go_simp
              obtain ⟨W2_, hV⟩ : ∃ V, V = World.alloc (W1_) (.cells #[.int .i64 0, .string ⟨#[]⟩, .string ⟨#[]⟩, .string ⟨#[]⟩, .int .i64 0, .int .i64 0, .int .i64 0, .string ⟨#[]⟩, .slice none 0 0, .int .i64 0, .int .i64 0, .int .i64 0] 37) := ⟨_, rfl⟩
              rw [← hV]
              replace hI := hI.a6 hV
              clear hV
              refine hK.out _ _ (HSc.out _ hI.bel) (fun hHeld => ?_)
              clear hK K
              exact hj_ (_, _) _ ⟨hI⟩
        case cont_ =>
          intro s w' hF
          obtain ⟨b6, b7⟩ := s
          have hI := hF.out
          have k6 := (hI.b6 b6 rfl).2
          have k7 := (hI.b7 b7 rfl).2
          have g6 := (hI.b6 b6 rfl).1
          have g7 := (hI.b7 b7 rfl).1
          have n1 := hI.ne b6 b7 rfl rfl
          have n2 := n1.symm
          have hbel := hI.bel
          obtain ⟨p0, p1, p2, p3, p4, p5, p6, p7, p8, p9, p10, p11, pf⟩ := box12 k6
          obtain ⟨q0, q1, q2, q3, q4, q5, q6, q7, q8, q9, q10, q11, qf⟩ := box12 k7
          clear hI hF
          refine norm_ (a' := ?_) ?_ ?_
          rotate_left
          · simp only [putAll, Act.put, List.setIfInBounds_toArray, List.set_cons_zero, List.set_cons_succ, i64_w, i32_w]
            rfl
          refine one_ (i := 10) (N := none) #[true, true, true, true, true, true, true, true, true, true, true, false] rfl rfl (by kernel_rfl) (by decide) (fun K hK => ?_)
          go_simp
          refine hK.out _ _ (HSc.out _ ?hs10) (fun hHeld => ?_)
          case hs10 => exact hbel.set12 g6
          clear hK K
          refine last_ (i := 11) (N := none) #[true, true, true, true, true, true, true, true, true, true, true, true] rfl rfl (by kernel_rfl) (by decide) (fun K hK => ?_)
          go_simp
          refine hK.out _ _ ?_
          clear hK K
          refine done_ (by kernel_rfl) ?_
          refine gen_world (G := fun W => Exit.then _ _ Exit.normal _ W) _ ?_
          intro W2 hW2
          have k6' : W2.heap[b6]? = some (.cells #[.int .i64 x.k, .string x.p, .string x.o, .string x.q, .int .i64 x.v.kind, .int .i64 x.v.int, .int .i64 x.v.im, .string x.v.text, .slice Ax x.v.items.length cx, .int .i64 x.a, .int .i64 x.b, .int .i64 x.c] 37 (0, 0)) := by rw [hW2]; exact box_far12 (box_set12 k6) n1
          have k7' : W2.heap[b7]? = some (.cells #[.int .i64 y.k, .string y.p, .string y.o, .string y.q, .int .i64 y.v.kind, .int .i64 y.v.int, .int .i64 y.v.im, .string y.v.text, .slice Ay y.v.items.length cy, .int .i64 y.a, .int .i64 y.b, .int .i64 y.c] 37 (0, 0)) := by rw [hW2]; exact box_set12 (box_far12 k7 n2)
          have bel2 : Below wr.heap.size wr W2 := by rw [hW2]; exact (hbel.set12 g6).set12 g7
          clear HSc hW2 p0 p1 p2 p3 p4 p5 p6 p7 p8 p9 p10 p11 pf q0 q1 q2 q3 q4 q5 q6 q7 q8 q9 q10 q11 qf k6 k7 hHeld hbel
          have lN2 : N0 ≤ W2.heap.size := by have := bel2.size; omega
          have vx := Q.mk (hxOk.out.v.below bel2 (by omega))
          have vy := Q.mk (hyOk.out.v.below bel2 (by omega))
          have BW : Below w.heap.size w W2 := hB.trans (bel2.mono hz)
          obtain ⟨p0, p1, p2, p3, p4, p5, p6, p7, p8, p9, p10, p11, pf⟩ := box12 k6'
          obtain ⟨q0, q1, q2, q3, q4, q5, q6, q7, q8, q9, q10, q11, qf⟩ := box12 k7'
          have k6'' := Q.mk k6'
          have k7'' := Q.mk k7'
          clear k6' k7' x0 x1 x2 x3 x4 x5 x6 x7 x8 x9 x10 x11 y0 y1 y2 y3 y4 y5 y6 y7 y8 y9 y10 y11
          replace HS : Q (r = (!(x.k != y.k) && (x.p.toList == y.p.toList) && (x.o.toList == y.o.toList) && (x.q.toList == y.q.toList) && rightB x.v && rightB y.v && rsameV x.v y.v && sameEs (xs.drop (j + 1)) (ys.drop (j + 1)))) := ⟨by rw [HS.out, sameE_ref]; simp only [bne, Bool.not_not, Bool.and_assoc]⟩
          cases h0 : (x.k != y.k)
          rotate_left
          · have HR : Q (r = false) := ⟨by rw [HS.out, h0]; simp⟩
            go_wp2_with fail
            go_ret
            exact ⟨by rw [HR.out]; rfl, BW⟩
          cases h1 : (x.p.toList == y.p.toList)
          · have HR : Q (r = false) := ⟨by rw [HS.out, h0, h1]; simp⟩
            have h1n : (x.p.toList != y.p.toList) = true := by rw [bne, h1]; rfl
            go_wp2_with fail
            go_ret
            exact ⟨by rw [HR.out]; rfl, BW⟩
          have h1n : (x.p.toList != y.p.toList) = false := by rw [bne, h1]; rfl
          cases h2 : (x.o.toList == y.o.toList)
          · have HR : Q (r = false) := ⟨by rw [HS.out, h0, h1, h2]; simp⟩
            have h2n : (x.o.toList != y.o.toList) = true := by rw [bne, h2]; rfl
            go_wp2_with fail
            go_ret
            exact ⟨by rw [HR.out]; rfl, BW⟩
          have h2n : (x.o.toList != y.o.toList) = false := by rw [bne, h2]; rfl
          cases h3 : (x.q.toList == y.q.toList)
          · have HR : Q (r = false) := ⟨by rw [HS.out, h0, h1, h2, h3]; simp⟩
            have h3n : (x.q.toList != y.q.toList) = true := by rw [bne, h3]; rfl
            go_wp2_with fail
            go_ret
            exact ⟨by rw [HR.out]; rfl, BW⟩
          have h3n : (x.q.toList != y.q.toList) = false := by rw [bne, h3]; rfl
          have l6 : b6 < W2.heap.size := box_lt k6''.out
          have l7 : b7 < W2.heap.size := box_lt k7''.out
          cases h4 : rightB x.v
          · have HR : Q (r = false) := ⟨by rw [HS.out, h0, h1, h2, h3, h4]; simp⟩
            replace h4 := Q.mk h4
            have h5 := h4
            go_wp2_with (go_at_call 80; with_reducible refine (Right_ref x.v Ax cx B0 N0 _ tx1.out vx.out lN2).mono ?_; rw [h4.out]; rintro e W3 ⟨rfl, hb3⟩; have z3 := hb3.size; obtain ⟨hcc3, hff3, _⟩ := bcell hb3; have l63 : b6 < W3.heap.size := (by omega); have l73 : b7 < W3.heap.size := (by omega))
            go_ret
            exact ⟨by rw [HR.out]; rfl, BW.trans (hb3.mono BW.size)⟩
          cases h5 : rightB y.v
          · have HR : Q (r = false) := ⟨by rw [HS.out, h0, h1, h2, h3, h4, h5]; simp⟩
            replace h4 := Q.mk h4
            replace h5 := Q.mk h5
            go_wp2_with (first
              | (go_at_call 80; with_reducible refine (Right_ref x.v Ax cx B0 N0 _ tx1.out vx.out lN2).mono ?_; rw [h4.out]; rintro e W3 ⟨rfl, hb3⟩; have z3 := hb3.size; obtain ⟨hcc3, hff3, _⟩ := bcell hb3; have l63 : b6 < W3.heap.size := (by omega); have l73 : b7 < W3.heap.size := (by omega))
              | (go_at_call 80; with_reducible refine (Right_ref y.v Ay cy B0 N0 _ ty1.out (vy.out.below hb3 lN2) (by omega)).mono ?_; rw [h5.out]; rintro e W4 ⟨rfl, hb4⟩; have z4 := hb4.size; obtain ⟨hcc4, hff4, _⟩ := bcell hb4))
            go_ret
            exact ⟨by rw [HR.out]; rfl, (BW.trans (hb3.mono BW.size)).trans (hb4.mono (by have := BW.size; omega))⟩
          cases h6 : rsameV x.v y.v
          · have HR : Q (r = false) := ⟨by rw [HS.out, h0, h1, h2, h3, h4, h5, h6]; simp⟩
            replace h4 := Q.mk h4
            replace h5 := Q.mk h5
            replace h6 := Q.mk h6
            go_wp2_with (first
              | (go_at_call 80; with_reducible refine (Right_ref x.v Ax cx B0 N0 _ tx1.out vx.out lN2).mono ?_; rw [h4.out]; rintro e W3 ⟨rfl, hb3⟩; have z3 := hb3.size; obtain ⟨hcc3, hff3, _⟩ := bcell hb3; have l63 : b6 < W3.heap.size := (by omega); have l73 : b7 < W3.heap.size := (by omega))
              | (go_at_call 80; with_reducible refine (Right_ref y.v Ay cy B0 N0 _ ty1.out (vy.out.below hb3 lN2) (by omega)).mono ?_; rw [h5.out]; rintro e W4 ⟨rfl, hb4⟩; have z4 := hb4.size; obtain ⟨hcc4, hff4, _⟩ := bcell hb4)
              | (go_at_call 73; refine (SameV_ref x.v y.v Ax Ay cx cy B0 N0 _ ((vx.out.below hb3 lN2).below hb4 (by omega)) ((vy.out.below hb3 lN2).below hb4 (by omega)) (by omega)).mono ?_; rw [h6.out]; rintro e W5 ⟨rfl, hb5⟩))
            go_ret
            exact ⟨by rw [HR.out]; rfl, ((BW.trans (hb3.mono BW.size)).trans (hb4.mono (by have := BW.size; omega))).trans (hb5.mono (by have := BW.size; omega))⟩
          · have HR : Q (r = sameEs (xs.drop (j + 1)) (ys.drop (j + 1))) := ⟨by rw [HS.out, h0, h1, h2, h3, h4, h5, h6]; simp⟩
            replace h4 := Q.mk h4
            replace h5 := Q.mk h5
            replace h6 := Q.mk h6
            go_wp2_with (first
              | (go_at_call 80; with_reducible refine (Right_ref x.v Ax cx B0 N0 _ tx1.out vx.out lN2).mono ?_; rw [h4.out]; rintro e W3 ⟨rfl, hb3⟩; have z3 := hb3.size; obtain ⟨hcc3, hff3, _⟩ := bcell hb3; have l63 : b6 < W3.heap.size := (by omega); have l73 : b7 < W3.heap.size := (by omega))
              | (go_at_call 80; with_reducible refine (Right_ref y.v Ay cy B0 N0 _ ty1.out (vy.out.below hb3 lN2) (by omega)).mono ?_; rw [h5.out]; rintro e W4 ⟨rfl, hb4⟩; have z4 := hb4.size; obtain ⟨hcc4, hff4, _⟩ := bcell hb4)
              | (go_at_call 73; refine (SameV_ref x.v y.v Ax Ay cx cy B0 N0 _ ((vx.out.below hb3 lN2).below hb4 (by omega)) ((vy.out.below hb3 lN2).below hb4 (by omega)) (by omega)).mono ?_; rw [h6.out]; rintro e W5 ⟨rfl, hb5⟩))
            go_roundw
            case rel => exact ⟨j + 1, by omega, by go_num, HR, ((BW.trans (hb3.mono BW.size)).trans (hb4.mono (by have := BW.size; omega))).trans (hb5.mono (by have := BW.size; omega))⟩
            case measure => simp [intOf]; omega
      · have HR : Q (r = true) := ⟨by rw [hR.out, List.drop_eq_nil_of_le (by omega), List.drop_eq_nil_of_le (by omega)]; rfl⟩
        go_wp2
        go_ret
        exact ⟨by rw [HR.out]; rfl, hB⟩
  · have hn' : ((xs.length : Int) != (ys.length : Int)) = true := by simp; omega
    have HR : Q (r = false) := ⟨by rw [hr]; exact sameEs_len xs ys hn⟩
    clear hn hr
    go_enter Try.func83, Try.ntmps83
    go_wp2_with fail
    go_ret
    exact ⟨by rw [HR.out]; rfl, Below.refl _ _⟩
end Go.Proofs.Ytifakbipdmceiaa

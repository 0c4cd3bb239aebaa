import Derived.Test.YtifakbipdmceiaaJLawA11
import Derived.Test.YtifakbipdmceiaaJLawA12
set_option linter.unusedVariables false
set_option linter.unusedSimpArgs false
namespace Go.Proofs.Ytifakbipdmceiaa
open Go.RowKit

def sameE (x y : Ev) : Bool := (x.k == y.k) && decide (x.p = y.p) && decide (x.o = y.o) && decide (x.q = y.q) && rightB x.v && rightB y.v && (cmpP x.v y.v == 0)
set_option maxHeartbeats 4000000 in
set_option maxRecDepth 100000 in
theorem Same1_any (x y : Ev) (A A' : Option Addr) (c c' B0 N0 : Nat) (w : World) (hx0 : EOk B0 N0 w x A c) (hy0 : EOk B0 N0 w y A' c') (hN : N0 ≤ w.heap.size) :
    Calls Try.prog 115 #[.agg #[.int .i64 x.k, .string x.p, .string x.o, .string x.q, .int .i64 x.v.kind, .int .i64 x.v.int, .int .i64 x.v.im, .string x.v.text, .slice A x.v.items.length c, .int .i64 x.a, .int .i64 x.b, .int .i64 x.c], .agg #[.int .i64 y.k, .string y.p, .string y.o, .string y.q, .int .i64 y.v.kind, .int .i64 y.v.int, .int .i64 y.v.im, .string y.v.text, .slice A' y.v.items.length c', .int .i64 y.a, .int .i64 y.b, .int .i64 y.c]] w fun e w' => e = .returned (.bool (sameE x y)) ∧ Below w.heap.size w w' := by
  obtain ⟨W0, hW0, b0, b1, BB, Z⟩ := boxes2 w (.cells #[.int .i64 x.k, .string x.p, .string x.o, .string x.q, .int .i64 x.v.kind, .int .i64 x.v.int, .int .i64 x.v.im, .string x.v.text, .slice A x.v.items.length c, .int .i64 x.a, .int .i64 x.b, .int .i64 x.c] 37) (.cells #[.int .i64 y.k, .string y.p, .string y.o, .string y.q, .int .i64 y.v.kind, .int .i64 y.v.int, .int .i64 y.v.im, .string y.v.text, .slice A' y.v.items.length c', .int .i64 y.a, .int .i64 y.b, .int .i64 y.c] 37)
  obtain ⟨p0, p1, p2, p3, p4, p5, p6, p7, p8, p9, p10, p11, pf⟩ := box12 b0.out
  obtain ⟨q0, q1, q2, q3, q4, q5, q6, q7, q8, q9, q10, q11, qf⟩ := box12 b1.out
  replace hW0 := Q.mk hW0
  have HR : Q (sameE x y = ((x.k == y.k) && (x.p.toList == y.p.toList) && (x.o.toList == y.o.toList) && (x.q.toList == y.q.toList) && rightB x.v && rightB y.v && (cmpP x.v y.v == 0))) := ⟨by simp only [sEq]; rfl⟩
  obtain ⟨r, hr⟩ : ∃ r, r = sameE x y := ⟨_, rfl⟩
  rw [← hr] at HR
  rw [← hr]
  clear hr
  have hx := Q.mk hx0
  have hy := Q.mk hy0
  clear hx0 hy0

  cases h1 : (x.k == y.k)
  · rw [h1] at HR
    replace HR : Q (r = false) := ⟨by rw [HR.out]; simp⟩
    go_enter Try.func115, Try.ntmps115
    go_wp2_with (first
    | (go_at_call 78; rw [← hW0.out]; clear hW0; with_reducible refine (check_v x.v A c B0 N0 _ ((hx.out.v.below BB hN)) (by omega)).mono ?_; rw [h5.out]; rintro e w2 ⟨rfl, hb2⟩; obtain ⟨hcc, hff, hsz2⟩ := bcell hb2; have l1 : w.heap.size < W0.heap.size := (by omega); have l2 : w.heap.size + 1 < W0.heap.size := (by omega))
    | (go_at_call 78; with_reducible refine (check_v y.v A' c' B0 N0 _ ((hy.out.v.below BB hN).below hb2 (by omega)) (by omega)).mono ?_; rw [h6.out]; rintro e w3 ⟨rfl, hb3⟩; obtain ⟨hcc3, hff3, hsz3⟩ := bcell hb3; have l3 : w.heap.size < w2.heap.size := (by omega); have l4 : w.heap.size + 1 < w2.heap.size := (by omega))
    | (go_at_call 116; refine (compare_v x.v y.v A A' c c' B0 N0 _ (((hx.out.v.below BB hN).below hb2 (by omega)).below hb3 (by omega)) (((hy.out.v.below BB hN).below hb2 (by omega)).below hb3 (by omega)) (by omega)).mono ?_; rintro e w4 ⟨rfl, hb4⟩))
    go_ret
    first
    | exact ⟨by rw [HR.out]; rfl, by rw [← hW0.out]; exact BB⟩
    | exact ⟨by rw [HR.out]; rfl, BB.trans (hb2.mono (by omega))⟩
    | exact ⟨by rw [HR.out]; rfl, (BB.trans (hb2.mono (by omega))).trans (hb3.mono (by omega))⟩
    | exact ⟨by rw [HR.out]; rfl, ((BB.trans (hb2.mono (by omega))).trans (hb3.mono (by omega))).trans (hb4.mono (by omega))⟩
  rw [h1] at HR
  cases h2 : (x.p.toList == y.p.toList)
  · rw [h2] at HR
    replace HR : Q (r = false) := ⟨by rw [HR.out]; simp⟩
    go_enter Try.func115, Try.ntmps115
    go_wp2_with (first
    | (go_at_call 78; rw [← hW0.out]; clear hW0; with_reducible refine (check_v x.v A c B0 N0 _ ((hx.out.v.below BB hN)) (by omega)).mono ?_; rw [h5.out]; rintro e w2 ⟨rfl, hb2⟩; obtain ⟨hcc, hff, hsz2⟩ := bcell hb2; have l1 : w.heap.size < W0.heap.size := (by omega); have l2 : w.heap.size + 1 < W0.heap.size := (by omega))
    | (go_at_call 78; with_reducible refine (check_v y.v A' c' B0 N0 _ ((hy.out.v.below BB hN).below hb2 (by omega)) (by omega)).mono ?_; rw [h6.out]; rintro e w3 ⟨rfl, hb3⟩; obtain ⟨hcc3, hff3, hsz3⟩ := bcell hb3; have l3 : w.heap.size < w2.heap.size := (by omega); have l4 : w.heap.size + 1 < w2.heap.size := (by omega))
    | (go_at_call 116; refine (compare_v x.v y.v A A' c c' B0 N0 _ (((hx.out.v.below BB hN).below hb2 (by omega)).below hb3 (by omega)) (((hy.out.v.below BB hN).below hb2 (by omega)).below hb3 (by omega)) (by omega)).mono ?_; rintro e w4 ⟨rfl, hb4⟩))
    go_ret
    first
    | exact ⟨by rw [HR.out]; rfl, by rw [← hW0.out]; exact BB⟩
    | exact ⟨by rw [HR.out]; rfl, BB.trans (hb2.mono (by omega))⟩
    | exact ⟨by rw [HR.out]; rfl, (BB.trans (hb2.mono (by omega))).trans (hb3.mono (by omega))⟩
    | exact ⟨by rw [HR.out]; rfl, ((BB.trans (hb2.mono (by omega))).trans (hb3.mono (by omega))).trans (hb4.mono (by omega))⟩
  rw [h2] at HR
  cases h3 : (x.o.toList == y.o.toList)
  · rw [h3] at HR
    replace HR : Q (r = false) := ⟨by rw [HR.out]; simp⟩
    go_enter Try.func115, Try.ntmps115
    go_wp2_with (first
    | (go_at_call 78; rw [← hW0.out]; clear hW0; with_reducible refine (check_v x.v A c B0 N0 _ ((hx.out.v.below BB hN)) (by omega)).mono ?_; rw [h5.out]; rintro e w2 ⟨rfl, hb2⟩; obtain ⟨hcc, hff, hsz2⟩ := bcell hb2; have l1 : w.heap.size < W0.heap.size := (by omega); have l2 : w.heap.size + 1 < W0.heap.size := (by omega))
    | (go_at_call 78; with_reducible refine (check_v y.v A' c' B0 N0 _ ((hy.out.v.below BB hN).below hb2 (by omega)) (by omega)).mono ?_; rw [h6.out]; rintro e w3 ⟨rfl, hb3⟩; obtain ⟨hcc3, hff3, hsz3⟩ := bcell hb3; have l3 : w.heap.size < w2.heap.size := (by omega); have l4 : w.heap.size + 1 < w2.heap.size := (by omega))
    | (go_at_call 116; refine (compare_v x.v y.v A A' c c' B0 N0 _ (((hx.out.v.below BB hN).below hb2 (by omega)).below hb3 (by omega)) (((hy.out.v.below BB hN).below hb2 (by omega)).below hb3 (by omega)) (by omega)).mono ?_; rintro e w4 ⟨rfl, hb4⟩))
    go_ret
    first
    | exact ⟨by rw [HR.out]; rfl, by rw [← hW0.out]; exact BB⟩
    | exact ⟨by rw [HR.out]; rfl, BB.trans (hb2.mono (by omega))⟩
    | exact ⟨by rw [HR.out]; rfl, (BB.trans (hb2.mono (by omega))).trans (hb3.mono (by omega))⟩
    | exact ⟨by rw [HR.out]; rfl, ((BB.trans (hb2.mono (by omega))).trans (hb3.mono (by omega))).trans (hb4.mono (by omega))⟩
  rw [h3] at HR
  cases h4 : (x.q.toList == y.q.toList)
  · rw [h4] at HR
    replace HR : Q (r = false) := ⟨by rw [HR.out]; simp⟩
    go_enter Try.func115, Try.ntmps115
    go_wp2_with (first
    | (go_at_call 78; rw [← hW0.out]; clear hW0; with_reducible refine (check_v x.v A c B0 N0 _ ((hx.out.v.below BB hN)) (by omega)).mono ?_; rw [h5.out]; rintro e w2 ⟨rfl, hb2⟩; obtain ⟨hcc, hff, hsz2⟩ := bcell hb2; have l1 : w.heap.size < W0.heap.size := (by omega); have l2 : w.heap.size + 1 < W0.heap.size := (by omega))
    | (go_at_call 78; with_reducible refine (check_v y.v A' c' B0 N0 _ ((hy.out.v.below BB hN).below hb2 (by omega)) (by omega)).mono ?_; rw [h6.out]; rintro e w3 ⟨rfl, hb3⟩; obtain ⟨hcc3, hff3, hsz3⟩ := bcell hb3; have l3 : w.heap.size < w2.heap.size := (by omega); have l4 : w.heap.size + 1 < w2.heap.size := (by omega))
    | (go_at_call 116; refine (compare_v x.v y.v A A' c c' B0 N0 _ (((hx.out.v.below BB hN).below hb2 (by omega)).below hb3 (by omega)) (((hy.out.v.below BB hN).below hb2 (by omega)).below hb3 (by omega)) (by omega)).mono ?_; rintro e w4 ⟨rfl, hb4⟩))
    go_ret
    first
    | exact ⟨by rw [HR.out]; rfl, by rw [← hW0.out]; exact BB⟩
    | exact ⟨by rw [HR.out]; rfl, BB.trans (hb2.mono (by omega))⟩
    | exact ⟨by rw [HR.out]; rfl, (BB.trans (hb2.mono (by omega))).trans (hb3.mono (by omega))⟩
    | exact ⟨by rw [HR.out]; rfl, ((BB.trans (hb2.mono (by omega))).trans (hb3.mono (by omega))).trans (hb4.mono (by omega))⟩
  rw [h4] at HR
  cases h5 : rightB x.v
  · rw [h5] at HR
    replace HR : Q (r = false) := ⟨by rw [HR.out]; simp⟩
    replace h5 := Q.mk h5
    have h6 := h5
    go_enter Try.func115, Try.ntmps115
    go_wp2_with (first
    | (go_at_call 78; rw [← hW0.out]; clear hW0; with_reducible refine (check_v x.v A c B0 N0 _ ((hx.out.v.below BB hN)) (by omega)).mono ?_; rw [h5.out]; rintro e w2 ⟨rfl, hb2⟩; obtain ⟨hcc, hff, hsz2⟩ := bcell hb2; have l1 : w.heap.size < W0.heap.size := (by omega); have l2 : w.heap.size + 1 < W0.heap.size := (by omega))
    | (go_at_call 78; with_reducible refine (check_v y.v A' c' B0 N0 _ ((hy.out.v.below BB hN).below hb2 (by omega)) (by omega)).mono ?_; rw [h6.out]; rintro e w3 ⟨rfl, hb3⟩; obtain ⟨hcc3, hff3, hsz3⟩ := bcell hb3; have l3 : w.heap.size < w2.heap.size := (by omega); have l4 : w.heap.size + 1 < w2.heap.size := (by omega))
    | (go_at_call 116; refine (compare_v x.v y.v A A' c c' B0 N0 _ (((hx.out.v.below BB hN).below hb2 (by omega)).below hb3 (by omega)) (((hy.out.v.below BB hN).below hb2 (by omega)).below hb3 (by omega)) (by omega)).mono ?_; rintro e w4 ⟨rfl, hb4⟩))
    go_ret
    first
    | exact ⟨by rw [HR.out]; rfl, by rw [← hW0.out]; exact BB⟩
    | exact ⟨by rw [HR.out]; rfl, BB.trans (hb2.mono (by omega))⟩
    | exact ⟨by rw [HR.out]; rfl, (BB.trans (hb2.mono (by omega))).trans (hb3.mono (by omega))⟩
    | exact ⟨by rw [HR.out]; rfl, ((BB.trans (hb2.mono (by omega))).trans (hb3.mono (by omega))).trans (hb4.mono (by omega))⟩
  rw [h5] at HR
  replace h5 := Q.mk h5
  cases h6 : rightB y.v
  · rw [h6] at HR
    replace HR : Q (r = false) := ⟨by rw [HR.out]; simp⟩
    replace h6 := Q.mk h6
    go_enter Try.func115, Try.ntmps115
    go_wp2_with (first
    | (go_at_call 78; rw [← hW0.out]; clear hW0; with_reducible refine (check_v x.v A c B0 N0 _ ((hx.out.v.below BB hN)) (by omega)).mono ?_; rw [h5.out]; rintro e w2 ⟨rfl, hb2⟩; obtain ⟨hcc, hff, hsz2⟩ := bcell hb2; have l1 : w.heap.size < W0.heap.size := (by omega); have l2 : w.heap.size + 1 < W0.heap.size := (by omega))
    | (go_at_call 78; with_reducible refine (check_v y.v A' c' B0 N0 _ ((hy.out.v.below BB hN).below hb2 (by omega)) (by omega)).mono ?_; rw [h6.out]; rintro e w3 ⟨rfl, hb3⟩; obtain ⟨hcc3, hff3, hsz3⟩ := bcell hb3; have l3 : w.heap.size < w2.heap.size := (by omega); have l4 : w.heap.size + 1 < w2.heap.size := (by omega))
    | (go_at_call 116; refine (compare_v x.v y.v A A' c c' B0 N0 _ (((hx.out.v.below BB hN).below hb2 (by omega)).below hb3 (by omega)) (((hy.out.v.below BB hN).below hb2 (by omega)).below hb3 (by omega)) (by omega)).mono ?_; rintro e w4 ⟨rfl, hb4⟩))
    go_ret
    first
    | exact ⟨by rw [HR.out]; rfl, by rw [← hW0.out]; exact BB⟩
    | exact ⟨by rw [HR.out]; rfl, BB.trans (hb2.mono (by omega))⟩
    | exact ⟨by rw [HR.out]; rfl, (BB.trans (hb2.mono (by omega))).trans (hb3.mono (by omega))⟩
    | exact ⟨by rw [HR.out]; rfl, ((BB.trans (hb2.mono (by omega))).trans (hb3.mono (by omega))).trans (hb4.mono (by omega))⟩
  rw [h6] at HR
  replace h6 := Q.mk h6
  cases h7 : (cmpP x.v y.v == 0)
  · rw [h7] at HR
    replace HR : Q (r = false) := ⟨by rw [HR.out]; simp⟩
    replace h7 : (cmpP x.v y.v == 0) = false := h7
    go_enter Try.func115, Try.ntmps115
    go_wp2_with (first
    | (go_at_call 78; rw [← hW0.out]; clear hW0; with_reducible refine (check_v x.v A c B0 N0 _ ((hx.out.v.below BB hN)) (by omega)).mono ?_; rw [h5.out]; rintro e w2 ⟨rfl, hb2⟩; obtain ⟨hcc, hff, hsz2⟩ := bcell hb2; have l1 : w.heap.size < W0.heap.size := (by omega); have l2 : w.heap.size + 1 < W0.heap.size := (by omega))
    | (go_at_call 78; with_reducible refine (check_v y.v A' c' B0 N0 _ ((hy.out.v.below BB hN).below hb2 (by omega)) (by omega)).mono ?_; rw [h6.out]; rintro e w3 ⟨rfl, hb3⟩; obtain ⟨hcc3, hff3, hsz3⟩ := bcell hb3; have l3 : w.heap.size < w2.heap.size := (by omega); have l4 : w.heap.size + 1 < w2.heap.size := (by omega))
    | (go_at_call 116; refine (compare_v x.v y.v A A' c c' B0 N0 _ (((hx.out.v.below BB hN).below hb2 (by omega)).below hb3 (by omega)) (((hy.out.v.below BB hN).below hb2 (by omega)).below hb3 (by omega)) (by omega)).mono ?_; rintro e w4 ⟨rfl, hb4⟩))
    go_ret
    first
    | exact ⟨by rw [HR.out]; rfl, by rw [← hW0.out]; exact BB⟩
    | exact ⟨by rw [HR.out]; rfl, BB.trans (hb2.mono (by omega))⟩
    | exact ⟨by rw [HR.out]; rfl, (BB.trans (hb2.mono (by omega))).trans (hb3.mono (by omega))⟩
    | exact ⟨by rw [HR.out]; rfl, ((BB.trans (hb2.mono (by omega))).trans (hb3.mono (by omega))).trans (hb4.mono (by omega))⟩
  rw [h7] at HR
  replace HR : Q (r = true) := ⟨by rw [HR.out]; simp⟩
  go_enter Try.func115, Try.ntmps115
  go_wp2_with (first
    | (go_at_call 78; rw [← hW0.out]; clear hW0; with_reducible refine (check_v x.v A c B0 N0 _ ((hx.out.v.below BB hN)) (by omega)).mono ?_; rw [h5.out]; rintro e w2 ⟨rfl, hb2⟩; obtain ⟨hcc, hff, hsz2⟩ := bcell hb2; have l1 : w.heap.size < W0.heap.size := (by omega); have l2 : w.heap.size + 1 < W0.heap.size := (by omega))
    | (go_at_call 78; with_reducible refine (check_v y.v A' c' B0 N0 _ ((hy.out.v.below BB hN).below hb2 (by omega)) (by omega)).mono ?_; rw [h6.out]; rintro e w3 ⟨rfl, hb3⟩; obtain ⟨hcc3, hff3, hsz3⟩ := bcell hb3; have l3 : w.heap.size < w2.heap.size := (by omega); have l4 : w.heap.size + 1 < w2.heap.size := (by omega))
    | (go_at_call 116; refine (compare_v x.v y.v A A' c c' B0 N0 _ (((hx.out.v.below BB hN).below hb2 (by omega)).below hb3 (by omega)) (((hy.out.v.below BB hN).below hb2 (by omega)).below hb3 (by omega)) (by omega)).mono ?_; rintro e w4 ⟨rfl, hb4⟩))
  go_ret
  first
  | exact ⟨by rw [HR.out]; rfl, by rw [← hW0.out]; exact BB⟩
  | exact ⟨by rw [HR.out]; rfl, BB.trans (hb2.mono (by omega))⟩
  | exact ⟨by rw [HR.out]; rfl, (BB.trans (hb2.mono (by omega))).trans (hb3.mono (by omega))⟩
  | exact ⟨by rw [HR.out]; rfl, ((BB.trans (hb2.mono (by omega))).trans (hb3.mono (by omega))).trans (hb4.mono (by omega))⟩
end Go.Proofs.Ytifakbipdmceiaa

import Derived.Test.YtifakbipdmceiaaJLawA12
section
set_option linter.unusedVariables false
set_option linter.unusedSimpArgs false
namespace Go.Proofs.Ytifakbipdmceiaa
open Go.RowKit

def callR (l : List Ev) (i : Nat) : Int := match l[i]? with | none => -1 | some e => if e.k = 2 then (opn l e.p i).getD (-1) else -1
theorem callR_lt (l : List Ev) (i : Nat) : -1 ≤ callR l i ∧ callR l i < i := by
  unfold callR
  split
  · omega
  · split
    · rename_i e _ _
      cases h : opn l e.p i with
      | none => simp; omega
      | some j => have := opn_lt l e.p i j h; simp; omega
    · omega
set_option maxHeartbeats 2000000 in
set_option maxRecDepth 100000 in
theorem Call_ref (l : List Ev) (A : Option Addr) (c B0 N0 : Nat) (i : Nat) (w : World) (hx0 : Row eEl B0 N0 w A l) (hN : N0 ≤ w.heap.size) (hi : i < l.length) :
    Calls Try.prog 37 #[.slice A l.length c, .int .i64 i] w fun e w' => e = .returned (.int .i64 (callR l i)) ∧ Below w.heap.size w w' := by
  have hlen := hx0.lenE
  have hx := Q.mk hx0
  obtain ⟨b, o, e, Ae, ce, rfl, hbN, he, hEOk, x0, x1, x2, x3, x4, x5, x6, x7, x8, x9, x10, x11⟩ := hx0.atE i hi
  clear hx0 hEOk
  obtain ⟨r, hr⟩ : ∃ r, r = callR l i := ⟨_, rfl⟩
  rw [← hr]
  simp only [callR, show l[i]? = some e by simp [hi, he]] at hr
  replace he := Q.mk he
  by_cases k2 : e.k = 2
  · have k2' : (e.k != 2) = false := by simp [k2]
    have hR : Q (r = (opn l e.p i).getD (-1)) := ⟨by rw [hr, if_pos k2]⟩
    clear hr k2
    go_enter Try.func37, Try.ntmps37
    go_wp2_with fail
    go_loopw [5] (fun u wr => ∃ (n : Nat) (z : Int), n ≤ i ∧ z = (n : Int) - 1 ∧ u = .int .i64 z ∧ Q (r = (opn l e.p n).getD (-1)) ∧ Below w.heap.size w wr) (fun u _ => (intOf u + 1).toNat)
    case atStart => exact ⟨i, (i : Int) - 1, Nat.le_refl _, rfl, rfl, hR, Below.refl _ _⟩
    case round =>
      clear hR
      obtain ⟨n, z, hn, hz, rfl, hR, hB⟩ := hrel
      have hzz := hB.size
      rcases n with _ | j
      · have hz1 : z < 0 := by omega
        have tz : decide (0 ≤ z) = false := by simp; omega
        clear hz
        have HR : Q (r = -1) := ⟨by rw [hR.out]; rfl⟩
        go_wp2
        go_ret
        exact ⟨by rw [HR.out]; rfl, hB⟩
      · obtain rfl : z = (j : Int) := by omega
        have hj : j < l.length := by omega
        obtain ⟨b', o', y, Ay, cy, hbo, hbN', hy, hEOk', y0, y1, y2, y3, y4, y5, y6, y7, y8, y9, y10, y11⟩ := (hx.out.below hB hN).atE j hj
        obtain ⟨rfl, rfl⟩ : b = b' ∧ o = o' := by simpa using hbo
        have X1 := (hB.cell (p := ⟨b, o + i * 12 + 1, none⟩) (by show b < _; omega)).trans x1
        have HS := hR.out
        rw [opn, show l[j]? = some y by simp [hj, hy]] at HS
        replace HS := Q.mk HS
        clear hR hbo hy hEOk' hz
        by_cases hp : e.p = y.p
        · have t1 : (y.p.toList == e.p.toList) = true := by rw [sEq]; simp [hp]
          have HS1 := HS.out
          simp only [if_pos hp] at HS1
          replace HS1 := Q.mk HS1
          replace hp := Q.mk hp
          clear HS
          by_cases h1 : y.k = 2
          · have t2 : (y.k == 2) = true := by simp [h1]
            have HR : Q (r = -1) := ⟨by rw [HS1.out, h1]; rfl⟩
            clear h1
            go_wp2
            go_region_held3 (fun w' => w'.cell? ⟨b, o + j * 12 + 1, none⟩ = some (.string y.p) ∧ w'.cell? ⟨b, o + i * 12 + 1, none⟩ = some (.string e.p)) (go_keep) (fail)
            go_wp2
            go_ret
            exact ⟨by rw [HR.out]; rfl, hB.drew⟩
          · have t2 : (y.k == 2) = false := by simp [h1]
            by_cases h2 : y.k = 1
            · have t3 : (y.k == 1) = true := by simp [h2]
              have HR : Q (r = (j : Int)) := ⟨by rw [HS1.out, h2]; rfl⟩
              clear h1 h2
              go_wp2
              go_region_held3 (fun w' => w'.cell? ⟨b, o + j * 12 + 1, none⟩ = some (.string y.p) ∧ w'.cell? ⟨b, o + i * 12 + 1, none⟩ = some (.string e.p)) (go_keep) (fail)
              go_wp2
              go_ret
              exact ⟨by rw [HR.out]; rfl, hB.drew⟩
            · have t3 : (y.k == 1) = false := by simp [h2]
              have HR : Q (r = (opn l e.p j).getD (-1)) := ⟨by rw [HS1.out, if_neg h2, if_neg h1]⟩
              clear h1 h2
              go_wp2
              go_region_held3 (fun w' => w'.cell? ⟨b, o + j * 12 + 1, none⟩ = some (.string y.p) ∧ w'.cell? ⟨b, o + i * 12 + 1, none⟩ = some (.string e.p)) (go_keep) (fail)
              go_wp2
              go_roundw
              case rel => exact ⟨j, (j : Int) - 1, by omega, rfl, by go_num, HR, hB.drew⟩
              case measure => simp [intOf] <;> omega
        · have t1 : (y.p.toList == e.p.toList) = false := by rw [sEq]; simp [Ne.symm hp]
          have HR : Q (r = (opn l e.p j).getD (-1)) := ⟨by rw [HS.out]; simp only [if_neg hp]⟩
          replace hp := Q.mk hp
          clear HS
          go_wp2
          go_region_held3 (fun w' => w'.cell? ⟨b, o + j * 12 + 1, none⟩ = some (.string y.p) ∧ w'.cell? ⟨b, o + i * 12 + 1, none⟩ = some (.string e.p)) (go_keep) (fail)
          go_wp2
          go_roundw
          case rel => exact ⟨j, (j : Int) - 1, by omega, rfl, by go_num, HR, hB.drew⟩
          case measure => simp [intOf] <;> omega
  · have k2' : (e.k != 2) = true := by simp [k2]
    have hR : Q (r = -1) := ⟨by rw [hr, if_neg k2]⟩
    clear hr k2
    go_enter Try.func37, Try.ntmps37
    go_wp2
    go_ret
    exact ⟨by rw [hR.out]; rfl, Below.refl _ _⟩
end Go.Proofs.Ytifakbipdmceiaa
end
section
set_option linter.unusedVariables false
set_option linter.unusedSimpArgs false
namespace Go.Proofs.Ytifakbipdmceiaa
open Go.RowKit

def replyF (l : List Ev) (i : Int) : Nat → Nat → Int
  | 0, _ => -1
  | f + 1, k => if callR l k = i then (k : Int) else replyF l i f (k + 1)
def replyR (l : List Ev) (i : Int) : Int := replyF l i (l.length - (i + 1).toNat) (i + 1).toNat
theorem replyF_step (l : List Ev) (i : Int) (k : Nat) (h : k < l.length) : replyF l i (l.length - k) k = if callR l k = i then (k : Int) else replyF l i (l.length - (k + 1)) (k + 1) := by
  rw [show l.length - k = (l.length - (k + 1)) + 1 by omega, replyF]
theorem replyF_end (l : List Ev) (i : Int) (k : Nat) (h : ¬ k < l.length) : replyF l i (l.length - k) k = -1 := by
  rw [show l.length - k = 0 by omega, replyF]
set_option maxHeartbeats 2000000 in
set_option maxRecDepth 100000 in
theorem Reply_ref (l : List Ev) (A : Option Addr) (c B0 N0 : Nat) (i : Int) (w : World) (hx0 : Row eEl B0 N0 w A l) (hN : N0 ≤ w.heap.size) (hi0 : -1 ≤ i) (hi : i < l.length) :
    Calls Try.prog 75 #[.slice A l.length c, .int .i64 i] w fun e w' => e = .returned (.int .i64 (replyR l i)) ∧ Below w.heap.size w w' := by
  have hlen := hx0.lenE
  have hx := Q.mk hx0
  clear hx0
  obtain ⟨r, hr⟩ : ∃ r, r = replyR l i := ⟨_, rfl⟩
  rw [← hr]
  rw [replyR] at hr
  replace hr := Q.mk hr
  go_enter Try.func75, Try.ntmps75
  go_wp2_with fail
  go_loopw [5] (fun u wr => ∃ (n : Nat) (z : Int), n ≤ l.length ∧ z = (n : Int) ∧ u = .int .i64 z ∧ Q (r = replyF l i (l.length - n) n) ∧ Below w.heap.size w wr) (fun u _ => l.length - (intOf u).toNat)
  case atStart => exact ⟨(i + 1).toNat, i + 1, by omega, by omega, rfl, hr, Below.refl _ _⟩
  case round =>
    clear hr
    obtain ⟨n, z, hn, rfl, rfl, hR, hB⟩ := hrel
    have hz := hB.size
    by_cases hlt : n < l.length
    · have HS := hR.out
      rw [replyF_step l i n hlt] at HS
      obtain ⟨q, hq⟩ : ∃ q, q = callR l n := ⟨_, rfl⟩
      rw [← hq] at HS
      replace hq := Q.mk hq
      clear hR
      by_cases h1 : q = i
      · have HR : Q (r = (n : Int)) := ⟨by rw [HS, if_pos h1]⟩
        have t1 : (q == i) = true := by simp [h1]
        replace h1 := Q.mk h1
        clear HS
        go_wp2_with (go_at_call 37; refine (Call_ref l A c B0 N0 n _ (hx.out.below hB hN) (by omega) hlt).mono ?_; rw [← hq.out]; rintro e w2 ⟨rfl, hb2⟩)
        go_ret
        exact ⟨by rw [HR.out]; rfl, hB.trans (hb2.mono hz)⟩
      · have HR : Q (r = replyF l i (l.length - (n + 1)) (n + 1)) := ⟨by rw [HS, if_neg h1]⟩
        have t1 : (q == i) = false := by simp [h1]
        replace h1 := Q.mk h1
        clear HS
        go_wp2_with (go_at_call 37; refine (Call_ref l A c B0 N0 n _ (hx.out.below hB hN) (by omega) hlt).mono ?_; rw [← hq.out]; rintro e w2 ⟨rfl, hb2⟩)
        go_roundw
        case rel => exact ⟨n + 1, (n : Int) + 1, by omega, by omega, by go_num, HR, hB.trans (hb2.mono hz)⟩
        case measure => simp [intOf] <;> omega
    · have HR : Q (r = -1) := ⟨by rw [hR.out, replyF_end l i n hlt]⟩
      go_wp2
      go_ret
      exact ⟨by rw [HR.out]; rfl, hB⟩
end Go.Proofs.Ytifakbipdmceiaa
end

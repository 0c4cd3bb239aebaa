import Derived.Test.YtifakbipdmceiaaJLawA8
import Derived.Test.YtifakbipdmceiaaJLawA5
import Derived.Test.YtifakbipdmceiaaJLawA9
import Derived.Test.YtifakbipdmceiaaJLawA10
section
set_option linter.unusedVariables false
set_option linter.unusedSimpArgs false
namespace Go.Proofs.Ytifakbipdmceiaa
open Go.RowKit

theorem small_v (x : Val) (A : Option Addr) (c B0 N0 : Nat) (w : World) (hx : VOk B0 N0 w x A c) (hN : N0 ≤ w.heap.size) :
    Calls Try.prog 111 #[.agg #[.int .i64 x.kind, .int .i64 x.int, .int .i64 x.im, .string x.text, .slice A x.items.length c]] w fun e w' => e = .returned (.bool (smallB x)) ∧ Below w.heap.size w w' := by
  have h := small_any x.kind x.int x.im x.text x.items A c B0 N0 w hx.row hN hx.cap
  rw [Val.eta] at h; exact h
theorem formed_v (x : Val) (A : Option Addr) (c B0 N0 : Nat) (w : World) (hx : VOk B0 N0 w x A c) (hN : N0 ≤ w.heap.size) :
    Calls Try.prog 112 #[.agg #[.int .i64 x.kind, .int .i64 x.int, .int .i64 x.im, .string x.text, .slice A x.items.length c]] w fun e w' => e = .returned (.bool (formB x)) ∧ Below w.heap.size w w' := by
  have h := formed_any _ x.kind x.int x.im x.text x.items A c B0 N0 w (Nat.le_refl _) hx.row hN hx.txt hx.cap
  rw [Val.eta] at h; exact h
theorem order_v (x y : Val) (A A' : Option Addr) (c c' B0 N0 : Nat) (w : World) (hx : VOk B0 N0 w x A c) (hy : VOk B0 N0 w y A' c') (hN : N0 ≤ w.heap.size) :
    Calls Try.prog 135 #[.agg #[.int .i64 x.kind, .int .i64 x.int, .int .i64 x.im, .string x.text, .slice A x.items.length c], .agg #[.int .i64 y.kind, .int .i64 y.int, .int .i64 y.im, .string y.text, .slice A' y.items.length c']] w fun e w' => e = .returned (.int .i64 (ordP x y)) ∧ Below w.heap.size w w' := by
  have h := order_any _ x.kind x.int x.im x.text x.items A c y.kind y.int y.im y.text y.items A' c' B0 N0 w (Nat.le_refl _) hx.row hy.row hN hx.cap hy.cap
  rw [Val.eta, Val.eta] at h; exact h
theorem copied_v (x : Val) (A : Option Addr) (c B0 N0 : Nat) (w : World) (hx : VOk B0 N0 w x A c) (hN : N0 ≤ w.heap.size) :
    Calls Try.prog 109 #[.agg #[.int .i64 x.kind, .int .i64 x.int, .int .i64 x.im, .string x.text, .slice A x.items.length c]] w fun e w' => ∃ A' c', e = .returned (.agg #[.int .i64 x.kind, .int .i64 x.int, .int .i64 x.im, .string x.text, .slice A' x.items.length c']) ∧ VOk w.heap.size w'.heap.size w' x A' c' ∧ Below w.heap.size w w' := by
  refine (copied_any _ x.kind x.int x.im x.text x.items A c B0 N0 w (Nat.le_refl _) hx.row hN hx.cap).mono ?_
  rintro e w2 ⟨v4, rfl, ho, hb⟩
  obtain ⟨A4, c4, rfl, hc4, hr4⟩ := ho.row
  exact ⟨A4, c4, rfl, ⟨hr4, hx.txt, hc4⟩, hb⟩

def rightB (x : Val) : Bool := smallB x && formB x
set_option maxHeartbeats 1000000 in
set_option maxRecDepth 100000 in
theorem check_v (x : Val) (A : Option Addr) (c B0 N0 : Nat) (w : World) (hx : VOk B0 N0 w x A c) (hN : N0 ≤ w.heap.size) :
    Calls Try.prog 78 #[.agg #[.int .i64 x.kind, .int .i64 x.int, .int .i64 x.im, .string x.text, .slice A x.items.length c]] w fun e w' => e = .returned (.int .i64 (errnoB (rightB x) 40)) ∧ Below w.heap.size w w' := by
  obtain ⟨r, hr⟩ : ∃ r, r = errnoB (rightB x) 40 := ⟨_, rfl⟩
  rw [← hr]
  replace hr := Q.mk hr
  replace hx := Q.mk hx
  cases hs : smallB x <;> cases hf : formB x
  all_goals
    replace hs := Q.mk hs
    replace hf := Q.mk hf
    go_enter Try.func78, Try.ntmps78
    go_wp2_with (first
      | (go_at_call 111; refine (small_v x A c B0 N0 _ (hx.out.alloc hN _) (by simp; omega)).mono ?_; rw [hs.out]; rintro e w2 ⟨rfl, hb2⟩; obtain ⟨hcc, hff, hsz2⟩ := bcell hb2; simp only [World.size_alloc, World.size_drew] at hcc hff hsz2; have l2 : w.heap.size < w.heap.size + 1 := Nat.lt_succ_self _)
      | (go_at_call 112; refine (formed_v x A c B0 N0 _ ((hx.out.alloc hN _).below hb2 (by simp; omega)) (by omega)).mono ?_; rw [hf.out]; rintro e w3 ⟨rfl, hb3⟩; obtain ⟨hcc3, hff3, hsz3⟩ := bcell hb3))
    go_ret
    first
    | exact ⟨by rw [hr.out]; simp [rightB, hs.out, hf.out, errnoB], ((Below.refl _ _).alloc (Nat.le_refl _) _).trans (hb2.mono (by simp))⟩
    | exact ⟨by rw [hr.out]; simp [rightB, hs.out, hf.out, errnoB], (((Below.refl _ _).alloc (Nat.le_refl _) _).trans (hb2.mono (by simp))).trans (hb3.mono (by omega))⟩

def cmpP (x y : Val) : Int := if rightB x = true then (if rightB y = true then ordP x y else -1) else if rightB y = true then 1 else 0
end Go.Proofs.Ytifakbipdmceiaa
end
section
set_option linter.unusedVariables false
set_option linter.unusedSimpArgs false
namespace Go.Proofs.Ytifakbipdmceiaa
open Go.RowKit

theorem Row.atVv {B N : Nat} {w : World} {A : Option Addr} {xs : List Val} (h : Row vEl B N w A xs) (j : Nat) (hj : j < xs.length) :
    ∃ (b o : Nat) (y : Val) (A' : Option Addr) (c' : Nat), A = some ⟨b, o, none⟩ ∧ b < N ∧ xs[j] = y ∧ VOk B N w y A' c' ∧ w.cell? ⟨b, o + j * 5, none⟩ = some (.int .i64 y.kind) ∧ w.cell? ⟨b, o + j * 5 + 1, none⟩ = some (.int .i64 y.int) ∧ w.cell? ⟨b, o + j * 5 + 2, none⟩ = some (.int .i64 y.im) ∧ w.cell? ⟨b, o + j * 5 + 3, none⟩ = some (.string y.text) ∧ w.cell? ⟨b, o + j * 5 + 4, none⟩ = some (.slice A' y.items.length c') := by
  obtain ⟨b, o, cs, hA, hB, hN, hR, hl, hc⟩ := h.at j hj
  obtain ⟨A', c', hv, rfl⟩ := VOk.of hR
  exact ⟨b, o, xs[j], A', c', hA, hN, rfl, hv, cells5 hc⟩
theorem Val.size_pos (x : Val) : 0 < SizeOf.sizeOf x := by cases x; simp; omega
theorem Val.item_lt {x y : Val} {j : Nat} (hj : j < x.items.length) (h : x.items[j] = y) : SizeOf.sizeOf y < SizeOf.sizeOf x := by
  cases x with
  | mk k n m t l =>
    have h1 := List.sizeOf_lt_of_mem (List.getElem_mem hj)
    rw [h] at h1
    have h2 : (Val.mk k n m t l).items = l := rfl
    rw [h2] at h1
    simp
    omega

mutual
def crV : Val → Int → Int → Int
  | .mk _ _ _ _ l, s, d => if 4096 < s + 1 ∨ 16 < d then 4097 else crL l (s + 1) d
def crL : List Val → Int → Int → Int
  | [], s, _ => s
  | x :: xs, s, d => if 4096 < crV x s (d + 1) then crV x s (d + 1) else crL xs (crV x s (d + 1)) d
end
theorem crV_eq (x : Val) (s d : Int) : crV x s d = if 4096 < s + 1 ∨ 16 < d then 4097 else crL x.items (s + 1) d := by cases x; rw [crV]; rfl
mutual
theorem crV_bd : ∀ (v : Val) (s d : Int), 0 ≤ s → s ≤ 4096 → 0 ≤ crV v s d ∧ crV v s d ≤ 4097
  | .mk _ _ _ _ l, s, d, h0, h1 => by
    rw [crV]
    split
    · omega
    · exact crL_bd l (s + 1) d (by omega) (by omega)
theorem crL_bd : ∀ (l : List Val) (s d : Int), 0 ≤ s → s ≤ 4096 → 0 ≤ crL l s d ∧ crL l s d ≤ 4097
  | [], s, d, h0, h1 => by rw [crL]; omega
  | x :: xs, s, d, h0, h1 => by
    have := crV_bd x s (d + 1) h0 h1
    rw [crL]
    split
    · exact this
    · exact crL_bd xs _ d (by omega) (by omega)
end

set_option maxHeartbeats 2000000 in
set_option maxRecDepth 100000 in
theorem counted_ref (f : Nat) : ∀ (x : Val) (A : Option Addr) (c B0 N0 : Nat) (s d : Int) (w : World), SizeOf.sizeOf x ≤ f → VOk B0 N0 w x A c → N0 ≤ w.heap.size → 0 ≤ s → s ≤ 4096 → 0 ≤ d → d ≤ 17 →
    Calls Try.prog 107 #[.agg #[.int .i64 x.kind, .int .i64 x.int, .int .i64 x.im, .string x.text, .slice A x.items.length c], .int .i64 s, .int .i64 d] w fun e w' => e = .returned (.int .i64 (crV x s d)) ∧ Below w.heap.size w w' := by
  induction f with
  | zero => intro x A c B0 N0 s d w hd; exfalso; have := x.size_pos; omega
  | succ f ih =>
  intro x A c B0 N0 s d w hd hx0 hN s0 s1 d0 d1
  have IH := Lib.hid ih
  have hx := Q.mk hx0
  have hlen := hx0.len
  clear hx0 ih
  obtain ⟨r, hr⟩ : ∃ r, r = crV x s d := ⟨_, rfl⟩
  rw [← hr]
  rw [crV_eq] at hr
  by_cases h1 : 4096 < s + 1
  · have hR : Q (r = 4097) := ⟨by rw [hr, if_pos (.inl h1)]⟩
    clear hr
    have t1 : decide (4096 < s + 1) = true := by simp; omega
    go_enter Try.func107, Try.ntmps107
    go_wp2
    go_ret
    exact ⟨by rw [hR.out]; rfl, (Below.refl _ _).alloc (Nat.le_refl _) _⟩
  · by_cases h2 : 16 < d
    · have hR : Q (r = 4097) := ⟨by rw [hr, if_pos (.inr h2)]⟩
      clear hr
      have t1 : decide (4096 < s + 1) = false := by simp; omega
      have t2 : decide (16 < d) = true := by simp; omega
      go_enter Try.func107, Try.ntmps107
      go_wp2
      go_ret
      exact ⟨by rw [hR.out]; rfl, (Below.refl _ _).alloc (Nat.le_refl _) _⟩
    · have hR : Q (r = crL x.items (s + 1) d) := ⟨by rw [hr, if_neg (by omega)]⟩
      clear hr
      have t1 : decide (4096 < s + 1) = false := by simp; omega
      have t2 : decide (16 < d) = false := by simp; omega
      go_enter Try.func107, Try.ntmps107
      go_wp2_with fail
      clear t1
      go_loopw [1, 7] (fun u i wr => ∃ (z : Int) (j : Nat), j ≤ x.items.length ∧ i = .int .i64 j ∧ u = .int .i64 z ∧ 0 ≤ z ∧ z ≤ 4096 ∧ Q (r = crL (x.items.drop j) z d) ∧ Q (wr.heap[w.heap.size]? = some (.cells #[.int .i64 x.kind, .int .i64 x.int, .int .i64 x.im, .string x.text, .slice A x.items.length c] 32 (0, 0))) ∧ Below w.heap.size w wr) (fun _ i _ => x.items.length - (intOf i).toNat)
      case atStart => exact ⟨s + 1, 0, Nat.zero_le _, rfl, rfl, by omega, by omega, hR, ⟨heap_alloc_new _ _⟩, (Below.refl _ _).alloc (Nat.le_refl _) _⟩
      case round =>
        clear hR
        obtain ⟨z, j, hj, rfl, rfl, zz0, zz1, hR, hb, hB⟩ := hrel
        obtain ⟨p0, p1, p2, p3, p4, pf⟩ := box5 hb.out
        have hz := hB.size
        have hwl := box_lt hb.out
        by_cases hlt : j < x.items.length
        · obtain ⟨b, o, y, A', c', rfl, hbN, hy, hv, y0, y1, y2, y3, y4⟩ := (hx.out.row.below hB hN).atVv j hlt
          have hsz := Val.item_lt hlt hy
          have HS := hR.out
          rw [List.drop_eq_getElem_cons hlt, crL, hy] at HS
          have hbd := crV_bd y z (d + 1) zz0 zz1
          obtain ⟨q, hq⟩ : ∃ q, q = crV y z (d + 1) := ⟨_, rfl⟩
          rw [← hq] at HS hbd
          replace HS := Q.mk HS
          replace hq := Q.mk hq
          replace hv := Q.mk hv
          clear hR hy
          by_cases hq0 : 4096 < q
          · have t3 : decide (4096 < q) = true := by simp; omega
            have HR : Q (r = q) := ⟨by rw [HS.out, if_pos hq0]⟩
            go_wp2_with (go_at_call 107; refine (IH.out y A' c' B0 N0 z (d + 1) _ (by omega) hv.out (by omega) zz0 zz1 (by omega) (by omega)).mono ?_; rw [← hq.out]; rintro e w2 ⟨rfl, hb2⟩)
            go_ret
            exact ⟨by rw [HR.out]; rfl, hB.trans (hb2.mono hz)⟩
          · have t3 : decide (4096 < q) = false := by simp; omega
            have HR : Q (r = crL (x.items.drop (j + 1)) q d) := ⟨by rw [HS.out, if_neg hq0]⟩
            go_wp2_with (go_at_call 107; refine (IH.out y A' c' B0 N0 z (d + 1) _ (by omega) hv.out (by omega) zz0 zz1 (by omega) (by omega)).mono ?_; rw [← hq.out]; rintro e w2 ⟨rfl, hb2⟩)
            go_roundw
            case rel => exact ⟨q, j + 1, by omega, by go_num, rfl, by omega, by omega, HR, ⟨hb2.box hb.out (by omega)⟩, hB.trans (hb2.mono hz)⟩
            case measure => simp [intOf]; omega
        · have HR : Q (r = z) := ⟨by rw [hR.out, List.drop_eq_nil_of_le (by omega), crL]⟩
          go_wp2
          go_ret
          exact ⟨by rw [HR.out]; rfl, hB⟩
end Go.Proofs.Ytifakbipdmceiaa
end
section
set_option linter.unusedVariables false
set_option linter.unusedSimpArgs false
namespace Go.Proofs.Ytifakbipdmceiaa
open Go.RowKit

theorem errno_beq (b : Bool) : (errnoB b 40 == 0) = b := by cases b <;> rfl
set_option maxHeartbeats 1000000 in
set_option maxRecDepth 100000 in
theorem compare_v (x y : Val) (A A' : Option Addr) (c c' B0 N0 : Nat) (w : World) (hx : VOk B0 N0 w x A c) (hy : VOk B0 N0 w y A' c') (hN : N0 ≤ w.heap.size) :
    Calls Try.prog 116 #[.agg #[.int .i64 x.kind, .int .i64 x.int, .int .i64 x.im, .string x.text, .slice A x.items.length c], .agg #[.int .i64 y.kind, .int .i64 y.int, .int .i64 y.im, .string y.text, .slice A' y.items.length c']] w fun e w' => e = .returned (.int .i64 (cmpP x y)) ∧ Below w.heap.size w w' := by
  obtain ⟨r, hr⟩ : ∃ r, r = cmpP x y := ⟨_, rfl⟩
  rw [← hr]
  replace hr := Q.mk hr
  replace hx := Q.mk hx
  replace hy := Q.mk hy
  obtain ⟨W0, hW0, b0, b1, BB, Z⟩ := boxes2 w (.cells #[.int .i64 x.kind, .int .i64 x.int, .int .i64 x.im, .string x.text, .slice A x.items.length c] 32) (.cells #[.int .i64 y.kind, .int .i64 y.int, .int .i64 y.im, .string y.text, .slice A' y.items.length c'] 32)
  obtain ⟨p0, p1, p2, p3, p4, pf⟩ := box5 b0.out
  obtain ⟨q0, q1, q2, q3, q4, qf⟩ := box5 b1.out
  cases hs : rightB x <;> cases hf : rightB y
  all_goals
    replace hs := Q.mk hs
    replace hf := Q.mk hf
    go_enter Try.func116, Try.ntmps116
    go_wp2_with fail
    rw [← hW0]
    clear hW0
    go_region_held3 (fun w' => Q (Below (w.heap.size + 2) W0 w') ∧ w'.cell? ⟨w.heap.size, 0, none⟩ = some (.int .i64 x.kind) ∧ w'.cell? ⟨w.heap.size, 1, none⟩ = some (.int .i64 x.int) ∧ w'.cell? ⟨w.heap.size, 2, none⟩ = some (.int .i64 x.im) ∧ w'.cell? ⟨w.heap.size, 3, none⟩ = some (.string x.text) ∧ w'.cell? ⟨w.heap.size, 4, none⟩ = some (.slice A x.items.length c) ∧ w'.cell? ⟨w.heap.size + 1, 0, none⟩ = some (.int .i64 y.kind) ∧ w'.cell? ⟨w.heap.size + 1, 1, none⟩ = some (.int .i64 y.int) ∧ w'.cell? ⟨w.heap.size + 1, 2, none⟩ = some (.int .i64 y.im) ∧ w'.cell? ⟨w.heap.size + 1, 3, none⟩ = some (.string y.text) ∧ w'.cell? ⟨w.heap.size + 1, 4, none⟩ = some (.slice A' y.items.length c'))
      (first | (refine ⟨⟨hQ.out.trans (hb2.mono (by have := hQ.out.size; omega))⟩, ?_⟩; go_keep) | (refine ⟨⟨(Below.refl _ _).drew⟩, ?_⟩; go_keep))
      (first
        | (go_at_call 78; have hQ := (‹Q (Below _ _ _) ∧ _›).1; have hz := hQ.out.size; with_reducible refine (check_v x A c B0 N0 _ ((hx.out.below BB hN).below hQ.out (by omega)) (by omega)).mono ?_; rw [hs.out]; rintro e w2 ⟨rfl, hb2⟩; obtain ⟨hcc, hff, hsz2⟩ := bcell hb2; have l1 : w.heap.size < _ := Nat.lt_of_lt_of_le (by omega) hQ.out.size; have l2 : w.heap.size + 1 < _ := Nat.lt_of_lt_of_le (by omega) hQ.out.size; try simp only [World.size_drew] at hcc hff hsz2 l1 l2)
        | (go_at_call 78; have hQ := (‹Q (Below _ _ _) ∧ _›).1; have hz := hQ.out.size; with_reducible refine (check_v y A' c' B0 N0 _ ((hy.out.below BB hN).below hQ.out (by omega)) (by omega)).mono ?_; rw [hf.out]; rintro e w2 ⟨rfl, hb2⟩; obtain ⟨hcc, hff, hsz2⟩ := bcell hb2; have l1 : w.heap.size < _ := Nat.lt_of_lt_of_le (by omega) hQ.out.size; have l2 : w.heap.size + 1 < _ := Nat.lt_of_lt_of_le (by omega) hQ.out.size; try simp only [World.size_drew] at hcc hff hsz2 l1 l2))
    all_goals
      obtain ⟨hQ9, k0, k1, k2, k3, k4, m0, m1, m2, m3, m4⟩ := ‹Q (Below _ _ _) ∧ _›
      have BW : Below w.heap.size w w2 := BB.trans (hQ9.out.mono (by omega))
      have hz9 := hQ9.out.size
      simp only [errno_beq]
      go_wp2_with (go_at_call 135; refine (order_v x y A A' c c' B0 N0 _ ((hx.out.below BB hN).below hQ9.out (by omega)) ((hy.out.below BB hN).below hQ9.out (by omega)) (by omega)).mono ?_; rintro e w3 ⟨rfl, hb3⟩)
      go_ret
      first
      | exact ⟨by rw [hr.out]; simp [cmpP, hs.out, hf.out], BW⟩
      | exact ⟨by rw [hr.out]; simp [cmpP, hs.out, hf.out], BW.trans (hb3.mono (by omega))⟩
end Go.Proofs.Ytifakbipdmceiaa
end

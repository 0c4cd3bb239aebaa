import Derived.Test.YtifakbipdmceiaaJLawA5
import Derived.Test.YtifakbipdmceiaaJLawA11
import Derived.Laws.Cover1
section
set_option linter.unusedVariables false
set_option linter.unusedSimpArgs false
namespace Go.Proofs.Ytifakbipdmceiaa
open Go.RowKit

def lessB (a b : ByteArray) : Bool := Op.bytesLess a.toList b.toList
def moreB (a b : ByteArray) : Bool := !(Op.bytesLess a.toList b.toList || a.toList == b.toList)
mutual
def rordV : Val → Val → Int
  | .mk k n m t l, .mk k' n' m' t' l' =>
    if k ≠ k' then signZ (decide (k < k')) (decide (k' < k))
    else if n ≠ n' then signZ (decide (n < n')) (decide (n' < n))
    else if m ≠ m' then signZ (decide (m < m')) (decide (m' < m))
    else if (t.toList == t'.toList) = false then signZ (lessB t t') (moreB t t')
    else if l.length ≠ l'.length then signZ (decide (l.length < l'.length)) (decide (l'.length < l.length))
    else rordL l l'
def rordL : List Val → List Val → Int
  | x :: xs, y :: ys => if rordV x y ≠ 0 then rordV x y else rordL xs ys
  | _, _ => 0
end
theorem rordV_eq (x y : Val) : rordV x y = if x.kind ≠ y.kind then signZ (decide (x.kind < y.kind)) (decide (y.kind < x.kind))
    else if x.int ≠ y.int then signZ (decide (x.int < y.int)) (decide (y.int < x.int))
    else if x.im ≠ y.im then signZ (decide (x.im < y.im)) (decide (y.im < x.im))
    else if (x.text.toList == y.text.toList) = false then signZ (lessB x.text y.text) (moreB x.text y.text)
    else if x.items.length ≠ y.items.length then signZ (decide (x.items.length < y.items.length)) (decide (y.items.length < x.items.length))
    else rordL x.items y.items := by cases x; cases y; rw [rordV]; rfl
set_option maxHeartbeats 4000000 in
set_option maxRecDepth 100000 in
theorem order_ref (f : Nat) : ∀ (x y : Val) (A A' : Option Addr) (c c' B0 N0 : Nat) (w : World), SizeOf.sizeOf x ≤ f → VOk B0 N0 w x A c → VOk B0 N0 w y A' c' → N0 ≤ w.heap.size →
    Calls Try.prog 110 #[.agg #[.int .i64 x.kind, .int .i64 x.int, .int .i64 x.im, .string x.text, .slice A x.items.length c], .agg #[.int .i64 y.kind, .int .i64 y.int, .int .i64 y.im, .string y.text, .slice A' y.items.length c']] w fun e w' => e = .returned (.int .i64 (rordV x y)) ∧ Below w.heap.size w w' := by
  induction f with
  | zero => intro x y A A' c c' B0 N0 w hd; exfalso; have := x.size_pos; omega
  | succ f ih =>
  intro x y A A' c c' B0 N0 w hd hx0 hy0 hN
  have IH := Lib.hid ih
  have hx := Q.mk hx0
  have hy := Q.mk hy0
  have hlx := hx0.len
  have hly := hy0.len
  clear hx0 hy0 ih
  obtain ⟨r, hr⟩ : ∃ r, r = rordV x y := ⟨_, rfl⟩
  rw [← hr]
  rw [rordV_eq] at hr
  by_cases h1 : ¬ (x.kind = y.kind)
  · have HR : Q (r = signZ (decide (x.kind < y.kind)) (decide (y.kind < x.kind))) := ⟨by rw [hr, if_pos h1]⟩
    have th1 : (x.kind != y.kind) = true := by simp [h1]
    clear hr h1
    go_enter Try.func110, Try.ntmps110
    go_wp2_with (go_at_call 131; refine (sign_ref _ _ _).mono ?_; rintro e w2 ⟨rfl, rfl⟩)
    go_ret
    exact ⟨by rw [HR.out]; rfl, ((Below.refl _ _).alloc (Nat.le_refl _) _).alloc (by simp) _⟩
  replace h1 := Decidable.not_not.1 h1
  rw [if_neg (not_not_intro h1)] at hr
  have th1 : (x.kind != y.kind) = false := by simp [h1]
  clear h1
  by_cases h2 : ¬ (x.int = y.int)
  · have HR : Q (r = signZ (decide (x.int < y.int)) (decide (y.int < x.int))) := ⟨by rw [hr, if_pos h2]⟩
    have th2 : (x.int != y.int) = true := by simp [h2]
    clear hr h2
    go_enter Try.func110, Try.ntmps110
    go_wp2_with (go_at_call 131; refine (sign_ref _ _ _).mono ?_; rintro e w2 ⟨rfl, rfl⟩)
    go_ret
    exact ⟨by rw [HR.out]; rfl, ((Below.refl _ _).alloc (Nat.le_refl _) _).alloc (by simp) _⟩
  replace h2 := Decidable.not_not.1 h2
  rw [if_neg (not_not_intro h2)] at hr
  have th2 : (x.int != y.int) = false := by simp [h2]
  clear h2
  by_cases h3 : ¬ (x.im = y.im)
  · have HR : Q (r = signZ (decide (x.im < y.im)) (decide (y.im < x.im))) := ⟨by rw [hr, if_pos h3]⟩
    have th3 : (x.im != y.im) = true := by simp [h3]
    clear hr h3
    go_enter Try.func110, Try.ntmps110
    go_wp2_with (go_at_call 131; refine (sign_ref _ _ _).mono ?_; rintro e w2 ⟨rfl, rfl⟩)
    go_ret
    exact ⟨by rw [HR.out]; rfl, ((Below.refl _ _).alloc (Nat.le_refl _) _).alloc (by simp) _⟩
  replace h3 := Decidable.not_not.1 h3
  rw [if_neg (not_not_intro h3)] at hr
  have th3 : (x.im != y.im) = false := by simp [h3]
  clear h3
  cases h4 : (x.text.toList == y.text.toList)
  · have HR : Q (r = signZ (lessB x.text y.text) (moreB x.text y.text)) := ⟨by rw [hr, if_pos h4]⟩
    clear hr
    go_enter Try.func110, Try.ntmps110
    go_wp2_with (go_at_call 131; refine (sign_ref _ _ _).mono ?_; rintro e w2 ⟨rfl, rfl⟩)
    go_ret
    exact ⟨by rw [HR.out, moreB, h4, Bool.or_false]; rfl, ((Below.refl _ _).alloc (Nat.le_refl _) _).alloc (by simp) _⟩
  rw [if_neg (by rw [h4]; decide)] at hr
  by_cases h5 : ¬ (x.items.length = y.items.length)
  · have HR : Q (r = signZ (decide (x.items.length < y.items.length)) (decide (y.items.length < x.items.length))) := ⟨by rw [hr, if_pos h5]⟩
    have t5 : ((x.items.length : Int) != (y.items.length : Int)) = true := by simp; omega
    have t6 : decide ((x.items.length : Int) < (y.items.length : Int)) = decide (x.items.length < y.items.length) := by simp
    have t7 : decide ((y.items.length : Int) < (x.items.length : Int)) = decide (y.items.length < x.items.length) := by simp
    replace h5 := Q.mk h5
    clear hr
    go_enter Try.func110, Try.ntmps110
    go_wp2_with (go_at_call 131; refine (sign_ref _ _ _).mono ?_; rintro e w2 ⟨rfl, rfl⟩)
    go_ret
    exact ⟨by rw [HR.out, ← t6, ← t7]; rfl, ((Below.refl _ _).alloc (Nat.le_refl _) _).alloc (by simp) _⟩
  replace h5 := Decidable.not_not.1 h5
  rw [if_neg (not_not_intro h5)] at hr
  have t5 : ((x.items.length : Int) != (y.items.length : Int)) = false := by simp [h5]
  have n1 : x.items.length ≤ y.items.length := by omega
  have n2 : y.items.length ≤ x.items.length := by omega
  replace hr := Q.mk hr
  clear h5
  go_enter Try.func110, Try.ntmps110
  go_wp2_with fail
  clear t5
  go_loopw [5, 6] (fun i u wr => ∃ j : Nat, j ≤ x.items.length ∧ i = .int .i64 j ∧ Q (r = rordL (x.items.drop j) (y.items.drop j)) ∧ Q (wr.heap[w.heap.size]? = some (.cells #[.int .i64 x.kind, .int .i64 x.int, .int .i64 x.im, .string x.text, .slice A x.items.length c] 32 (0, 0))) ∧ Q (wr.heap[w.heap.size + 1]? = some (.cells #[.int .i64 y.kind, .int .i64 y.int, .int .i64 y.im, .string y.text, .slice A' y.items.length c'] 32 (0, 0))) ∧ Below w.heap.size w wr)
    (fun i _ _ => x.items.length - (intOf i).toNat)
  case atStart => exact ⟨0, Nat.zero_le _, rfl, hr, ⟨heap_alloc2_old _ _ _⟩, ⟨heap_alloc2_new _ _ _⟩, ((Below.refl _ _).alloc (Nat.le_refl _) _).alloc (by simp) _⟩
  case round =>
    clear hr
    obtain ⟨j, hj, rfl, hR, hb0, hb1, hB⟩ := hrel
    obtain ⟨p0, p1, p2, p3, p4, pf⟩ := box5 hb0.out
    obtain ⟨q0, q1, q2, q3, q4, qf⟩ := box5 hb1.out
    have hz := hB.size
    have hwl := box_lt hb1.out
    by_cases hlt : j < x.items.length
    · have hlt' : j < y.items.length := by omega
      obtain ⟨b, o, x1, Ax, cx, rfl, hbN, hex, hvx, x0, x1', x2, x3, x4⟩ := (hx.out.row.below hB hN).atVv j hlt
      obtain ⟨b', o', y1, Ay, cy, rfl, hbN', hey, hvy, y0, y1', y2, y3, y4⟩ := (hy.out.row.below hB hN).atVv j hlt'
      have hsz := Val.item_lt hlt hex
      have HS := hR.out
      rw [List.drop_eq_getElem_cons hlt, List.drop_eq_getElem_cons hlt', hex, hey, rordL] at HS
      obtain ⟨p, hp⟩ : ∃ p, p = rordV x1 y1 := ⟨_, rfl⟩
      rw [← hp] at HS
      replace hp := Q.mk hp
      replace HS := Q.mk HS
      replace hvx := Q.mk hvx
      replace hvy := Q.mk hvy
      clear hR hex hey
      go_wp2_with fail
      go_region_held3 (fun w' => w'.cell? ⟨w.heap.size, 4, none⟩ = some (.slice (some ⟨b, o, none⟩) x.items.length c) ∧ w'.cell? ⟨w.heap.size + 1, 4, none⟩ = some (.slice (some ⟨b', o', none⟩) y.items.length c') ∧ w'.cell? ⟨b, o + j * 5, none⟩ = some (.int .i64 x1.kind) ∧ w'.cell? ⟨b, o + j * 5 + 1, none⟩ = some (.int .i64 x1.int) ∧ w'.cell? ⟨b, o + j * 5 + 2, none⟩ = some (.int .i64 x1.im) ∧ w'.cell? ⟨b, o + j * 5 + 3, none⟩ = some (.string x1.text) ∧ w'.cell? ⟨b, o + j * 5 + 4, none⟩ = some (.slice Ax x1.items.length cx) ∧ w'.cell? ⟨b', o' + j * 5, none⟩ = some (.int .i64 y1.kind) ∧ w'.cell? ⟨b', o' + j * 5 + 1, none⟩ = some (.int .i64 y1.int) ∧ w'.cell? ⟨b', o' + j * 5 + 2, none⟩ = some (.int .i64 y1.im) ∧ w'.cell? ⟨b', o' + j * 5 + 3, none⟩ = some (.string y1.text) ∧ w'.cell? ⟨b', o' + j * 5 + 4, none⟩ = some (.slice Ay y1.items.length cy)) (go_keep)
        (first | (go_at_call 110; refine (IH.out x1 y1 Ax Ay cx cy B0 N0 _ (by omega) hvx.out.drew hvy.out.drew (by simp; omega)).mono ?_; rw [← hp.out]; rintro e w2 ⟨rfl, hb2⟩; obtain ⟨hcc, hff, hsz2⟩ := bcell hb2; have l0 : w.heap.size < wr.heap.size := (by omega); have l1 : b < wr.heap.size := (by omega); have l2 : b' < wr.heap.size := (by omega); try simp only [World.size_drew] at hcc hff hsz2))
      have BW : Below w.heap.size w w2 := hB.drew.trans (hb2.mono hz)
      by_cases hp0 : p = 0
      · have HR : Q (r = rordL (x.items.drop (j + 1)) (y.items.drop (j + 1))) := ⟨by rw [HS.out, if_neg (by simp [hp0])]⟩
        have t1 : (p != 0) = false := by simp [hp0]
        replace hp0 := Q.mk hp0
        go_wp2
        go_roundw
        case rel => exact ⟨j + 1, by omega, by go_num, HR, ⟨hb2.box hb0.out (by simp; omega)⟩, ⟨hb2.box hb1.out (by simp; omega)⟩, BW⟩
        case measure => simp [intOf] <;> omega
      · have HR : Q (r = p) := ⟨by rw [HS.out, if_pos hp0]⟩
        have t1 : (p != 0) = true := by simp [hp0]
        replace hp0 := Q.mk hp0
        go_wp2
        go_ret
        exact ⟨by rw [HR.out]; rfl, BW⟩
    · have HR : Q (r = 0) := ⟨by rw [hR.out, List.drop_eq_nil_of_le (by omega)]; simp [rordL]⟩
      go_wp2
      go_ret
      exact ⟨by rw [HR.out]; rfl, hB⟩
end Go.Proofs.Ytifakbipdmceiaa
end
section
set_option linter.unusedVariables false
set_option linter.unusedSimpArgs false
namespace Go.Proofs.Ytifakbipdmceiaa
open Go.RowKit

def rsameV (x y : Val) : Bool := rordV x y == 0
set_option maxHeartbeats 1000000 in
set_option maxRecDepth 100000 in
theorem SameV_ref (x y : Val) (A A' : Option Addr) (c c' B0 N0 : Nat) (w : World) (hx0 : VOk B0 N0 w x A c) (hy0 : VOk B0 N0 w y A' c') (hN : N0 ≤ w.heap.size) :
    Calls Try.prog 73 #[.agg #[.int .i64 x.kind, .int .i64 x.int, .int .i64 x.im, .string x.text, .slice A x.items.length c], .agg #[.int .i64 y.kind, .int .i64 y.int, .int .i64 y.im, .string y.text, .slice A' y.items.length c']] w fun e w' => e = .returned (.bool (rsameV x y)) ∧ Below w.heap.size w w' := by
  have hx := Q.mk hx0
  have hy := Q.mk hy0
  clear hx0 hy0
  obtain ⟨W0, hW0, b0, b1, BB, Z⟩ := boxes2 w (.cells #[.int .i64 x.kind, .int .i64 x.int, .int .i64 x.im, .string x.text, .slice A x.items.length c] 32) (.cells #[.int .i64 y.kind, .int .i64 y.int, .int .i64 y.im, .string y.text, .slice A' y.items.length c'] 32)
  replace hW0 := Q.mk hW0
  go_enter Try.func73, Try.ntmps73
  go_wp2_with (go_at_call 110; rw [← hW0.out]; clear hW0; refine (order_ref _ x y A A' c c' B0 N0 _ (Nat.le_refl _) (hx.out.below BB hN) (hy.out.below BB hN) (by omega)).mono ?_; rintro e w2 ⟨rfl, hb2⟩)
  go_ret
  exact ⟨rfl, BB.trans (hb2.mono (by omega))⟩
end Go.Proofs.Ytifakbipdmceiaa
end

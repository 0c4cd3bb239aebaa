import Derived.Test.YtifakbipdmceiaaJLawA25
import Derived.Lib.DecodeN
set_option linter.unusedVariables false
set_option linter.unusedSimpArgs false
namespace Go.Proofs.Ytifakbipdmceiaa
open Go.RowKit Go.Proofs.YtifakbipdmceiaaW.PrintLast

/-! ### the reference's names are the program's -/
theorem oneR_decode (s : ByteArray) (i : Nat) (hi : i < s.size) : (oneR s i).2 = (Utf8.decode s i).2 ∧ ((oneR s i).1 = ((Utf8.decode s i).1 : Int) ∨ ((oneR s i).1 = -1 ∧ (Utf8.decode s i).1 = 65533)) := by
  rw [Lib.decode_at]
  have e0 : bN s i = ((s.get! i).toNat : Int) := rfl
  have e1 : bN s (i + 1) = ((s.get! (i + 1)).toNat : Int) := rfl
  have e2 : bN s (i + 2) = ((s.get! (i + 2)).toNat : Int) := rfl
  have e3 : bN s (i + 3) = ((s.get! (i + 3)).toNat : Int) := rfl
  have h0 := (s.get! i).toNat_lt
  have h1 := (s.get! (i + 1)).toNat_lt
  have h2 := (s.get! (i + 2)).toNat_lt
  have h3 := (s.get! (i + 3)).toNat_lt
  have n1 : decide (i + 1 < s.size) = decide (1 < s.size - i) := decide_eq_decide.2 (by omega)
  have n2 : decide (i + 2 < s.size) = decide (2 < s.size - i) := decide_eq_decide.2 (by omega)
  have n3 : decide (i + 3 < s.size) = decide (3 < s.size - i) := decide_eq_decide.2 (by omega)
  obtain ⟨n, hn⟩ : ∃ n, n = s.size - i := ⟨_, rfl⟩
  rw [← hn] at n1 n2 n3 ⊢
  have hn0 : 0 < n := by omega
  rw [oneR]
  simp only [contB, n1, n2, n3, e0, e1, e2, e3]
  obtain ⟨b0, hb0⟩ : ∃ b, b = (s.get! i).toNat := ⟨_, rfl⟩
  obtain ⟨b1, hb1⟩ : ∃ b, b = (s.get! (i + 1)).toNat := ⟨_, rfl⟩
  obtain ⟨b2, hb2⟩ : ∃ b, b = (s.get! (i + 2)).toNat := ⟨_, rfl⟩
  obtain ⟨b3, hb3⟩ : ∃ b, b = (s.get! (i + 3)).toNat := ⟨_, rfl⟩
  rw [← hb0] at h0 ⊢
  rw [← hb1] at h1 ⊢
  rw [← hb2] at h2 ⊢
  rw [← hb3] at h3 ⊢
  clear hb0 hb1 hb2 hb3 e0 e1 e2 e3 n1 n2 n3 hn
  obtain ⟨lo, hlo⟩ : ∃ x, x = loE (b0 : Int) := ⟨_, rfl⟩
  obtain ⟨hi', hhi⟩ : ∃ x, x = hiE (b0 : Int) := ⟨_, rfl⟩
  obtain ⟨lo2, hlo2⟩ : ∃ x, x = loF (b0 : Int) := ⟨_, rfl⟩
  obtain ⟨hi2, hhi2⟩ : ∃ x, x = hiF (b0 : Int) := ⟨_, rfl⟩
  rw [← hlo, ← hhi, ← hlo2, ← hhi2]
  have l1 : (b0 = 224 ∧ lo = 160) ∨ (b0 ≠ 224 ∧ lo = 128) := by rw [hlo, loE]; split <;> omega
  have l2 : (b0 = 237 ∧ hi' = 159) ∨ (b0 ≠ 237 ∧ hi' = 191) := by rw [hhi, hiE]; split <;> omega
  have l3 : (b0 = 240 ∧ lo2 = 144) ∨ (b0 ≠ 240 ∧ lo2 = 128) := by rw [hlo2, loF]; split <;> omega
  have l4 : (b0 = 244 ∧ hi2 = 143) ∨ (b0 ≠ 244 ∧ hi2 = 191) := by rw [hhi2, hiF]; split <;> omega
  clear hlo hhi hlo2 hhi2
  simp only [Bool.and_eq_true, decide_eq_true_eq, Lib.decodeN]
  by_cases k1 : b0 < 128
  · rw [if_pos (show (b0 : Int) < 128 by omega), if_pos k1]
    exact ⟨rfl, .inl rfl⟩
  rw [if_neg (show ¬ (b0 : Int) < 128 by omega), if_neg k1]
  by_cases k2 : b0 < 194
  · rw [if_neg (show ¬ (194 ≤ (b0 : Int) ∧ (b0 : Int) ≤ 223) by omega), if_neg (show ¬ (224 ≤ (b0 : Int) ∧ (b0 : Int) ≤ 239) by omega), if_neg (show ¬ (240 ≤ (b0 : Int) ∧ (b0 : Int) ≤ 244) by omega)]
    repeat' split
    all_goals first | (exfalso; omega) | exact ⟨rfl, .inr ⟨rfl, rfl⟩⟩ | exact ⟨rfl, .inl (by simp only; omega)⟩
  by_cases k3 : b0 < 224
  · rw [if_pos (show (194 ≤ (b0 : Int) ∧ (b0 : Int) ≤ 223) by omega)]
    repeat' split
    all_goals first | (exfalso; omega) | exact ⟨rfl, .inr ⟨rfl, rfl⟩⟩ | exact ⟨rfl, .inl (by simp only; omega)⟩
  rw [if_neg (show ¬ (194 ≤ (b0 : Int) ∧ (b0 : Int) ≤ 223) by omega)]
  by_cases k4 : b0 < 240
  · rw [if_pos (show (224 ≤ (b0 : Int) ∧ (b0 : Int) ≤ 239) by omega)]
    repeat' split
    all_goals first | (exfalso; omega) | exact ⟨rfl, .inr ⟨rfl, rfl⟩⟩ | exact ⟨rfl, .inl (by simp only; omega)⟩
  rw [if_neg (show ¬ (224 ≤ (b0 : Int) ∧ (b0 : Int) ≤ 239) by omega)]
  by_cases k7 : b0 < 245
  · rw [if_pos (show (240 ≤ (b0 : Int) ∧ (b0 : Int) ≤ 244) by omega)]
    repeat' split
    all_goals first | (exfalso; omega) | exact ⟨rfl, .inr ⟨rfl, rfl⟩⟩ | exact ⟨rfl, .inl (by simp only; omega)⟩
  rw [if_neg (show ¬ (240 ≤ (b0 : Int) ∧ (b0 : Int) ≤ 244) by omega)]
  repeat' split
  all_goals first | (exfalso; omega) | exact ⟨rfl, .inr ⟨rfl, rfl⟩⟩ | exact ⟨rfl, .inl (by simp only; omega)⟩
theorem oneR_pos (s : ByteArray) (i : Nat) (hi : i < s.size) : 1 ≤ (oneR s i).2 := by
  rw [(oneR_decode s i hi).1]; exact width_pos s i hi
theorem oneR_w (s : ByteArray) (i : Nat) : (oneR s i).2 ≤ 4 := by
  rw [oneR]
  repeat' split
  all_goals simp
theorem oneR_ok (first : Bool) (s : ByteArray) (i : Nat) (hi : i < s.size) : okB first (oneR s i).1 = okB first ((Utf8.decode s i).1 : Int) := by
  rcases (oneR_decode s i hi).2 with h | ⟨h, h2⟩
  · rw [h]
  · rw [h, h2]; cases first <;> decide +kernel
/-- A text's runes: the rune, its place, its bytes. -/
def runesF (s : ByteArray) : Nat → Nat → List (Int × Int × Int)
  | 0, _ => []
  | f + 1, i => if i < s.size then ((oneR s i).1, (i : Int), ((oneR s i).2 : Int)) :: runesF s f (i + (oneR s i).2) else []
theorem runesF_len (s : ByteArray) : ∀ f i, (runesF s f i).length ≤ f
  | 0, i => by simp [runesF]
  | f + 1, i => by
    have := runesF_len s f (i + (oneR s i).2)
    rw [runesF]; split <;> simp <;> omega
def allR (l : List (Int × Int × Int)) (n : Nat) : Bool := match l with
  | [] => true
  | x :: xs => okB (n == 0) x.1 && allR xs (n + 1)
theorem nm_all (s : ByteArray) : ∀ f pos n, nmF f s pos n = (decide (n + (runesF s f pos).length ≠ 0) && decide (n + (runesF s f pos).length ≤ 32) && allR (runesF s f pos) n)
  | 0, pos, n => by rw [nmF, runesF]; simp only [List.length_nil, Nat.add_zero, allR, Bool.and_true]
  | f + 1, pos, n => by
    rw [nmF, runesF]
    by_cases h : pos < s.size
    · rw [if_pos h, if_pos h, allR, oneR_ok _ s pos h, (oneR_decode s pos h).1]
      cases ho : okB (n == 0) ((Utf8.decode s pos).1 : Int)
      · simp
      · rw [if_pos rfl, nm_all s f _ (n + 1)]
        simp only [List.length_cons, Bool.true_and]
        rw [show n + 1 + (runesF s f (pos + (Utf8.decode s pos).2)).length = n + ((runesF s f (pos + (Utf8.decode s pos).2)).length + 1) by omega]
    · rw [if_neg h, if_neg h]; simp only [List.length_nil, Nat.add_zero, allR, Bool.and_true]
/-- more rounds than bytes give no more runes -/
theorem runesF_more (s : ByteArray) : ∀ f i, s.size ≤ i + f → ∀ g, f ≤ g → runesF s g i = runesF s f i
  | 0, i, h, g, _ => by
    cases g with
    | zero => rfl
    | succ g => rw [runesF, runesF, if_neg (by omega)]
  | f + 1, i, h, g, hg => by
    obtain ⟨g, rfl⟩ : ∃ k, g = k + 1 := ⟨g - 1, by omega⟩
    rw [runesF, runesF]
    by_cases hi : i < s.size
    · have := oneR_pos s i hi
      rw [if_pos hi, if_pos hi, runesF_more s f _ (by omega) g (by omega)]
    · rw [if_neg hi, if_neg hi]
def runesP (s : ByteArray) : List (Int × Int × Int) := runesF s s.size 0
theorem name_runes (s : ByteArray) : nameB s = (decide ((runesP s).length ≠ 0) && decide ((runesP s).length ≤ 32) && allR (runesP s) 0) := by
  rw [nameB, nm_all, runesP]; simp

/-! ### runes in memory -/
def runeEl : El (Int × Int × Int) where
  sz := 3
  by_ := 24
  R := fun _ _ _ x cs => cs = [.int .i64 x.1, .int .i64 x.2.1, .int .i64 x.2.2]
  pos := by decide
  len := fun _ _ _ _ _ h => by subst h; rfl
  one := fun _ _ _ v _ h => by subst h; simp [Value.oneCell']
  loc := fun B N w v cs h w' hs => h
  mono := fun B N w v cs h B' N' hB hN => h
theorem infoRune : (Try.prog.info? 164).map (fun i => (i.zero, i.size, i.bytes)) = some (some (.agg #[.int .i64 0, .int .i64 0, .int .i64 0]), 3, 24) := by kernel_rfl
theorem Row.atRune {B N : Nat} {w : World} {A : Option Addr} {xs : List (Int × Int × Int)} (h : Row runeEl B N w A xs) (j : Nat) (hj : j < xs.length) :
    ∃ b o, A = some ⟨b, o, none⟩ ∧ b < N ∧ w.cell? ⟨b, o + j * 3, none⟩ = some (.int .i64 xs[j].1) ∧ w.cell? ⟨b, o + j * 3 + 1, none⟩ = some (.int .i64 xs[j].2.1) ∧ w.cell? ⟨b, o + j * 3 + 2, none⟩ = some (.int .i64 xs[j].2.2) := by
  obtain ⟨b, o, cs, hA, hB, hN, hR, hl, hc⟩ := h.at j hj
  have hR' : cs = [.int .i64 xs[j].1, .int .i64 xs[j].2.1, .int .i64 xs[j].2.2] := hR
  subst hR'
  exact ⟨b, o, hA, hN, hc 0 _ rfl, hc 1 _ rfl, hc 2 _ rfl⟩

set_option maxHeartbeats 2000000 in
set_option maxRecDepth 100000 in
theorem Runes_ref (s : ByteArray) (w : World) (hs : s.size ≤ 1048576) :
    Calls Try.prog 140 #[.string s] w fun e w' => ∃ v, e = .returned v ∧ Own runeEl 164 w.heap.size w'.heap.size w' v (runesP s) ∧ Below w.heap.size w w' := by
  go_enter Try.func140, Try.ntmps140
  go_wp2_with fail
  go_loopw [3, 4] (fun u i wr => ∃ (k f : Nat) (pre : List (Int × Int × Int)), i = .int .i64 k ∧ pre.length ≤ k ∧ k ≤ s.size + 4 ∧ Q (s.size ≤ k + f ∧ runesP s = pre ++ runesF s f k) ∧ Q (Own runeEl 164 w.heap.size wr.heap.size wr u pre) ∧ Below w.heap.size w wr)
    (fun _ i _ => s.size - (intOf i).toNat)
  case atStart => exact ⟨0, s.size, [], rfl, Nat.le_refl _, by omega, ⟨by omega, rfl⟩, ⟨Own.nil _ _ _ _⟩, Below.refl _ _⟩
  case round =>
    obtain ⟨k, f, pre, rfl, hpl, hk4, hf, hO, hB⟩ := hrel
    have hz := hB.size
    by_cases hlt : k < s.size
    · have ho := oneR_pos s k hlt
      have hw4 := oneR_w s k
      obtain ⟨x, hx⟩ : ∃ x, x = (oneR s k).1 := ⟨_, rfl⟩
      obtain ⟨n, hn⟩ : ∃ n, n = (oneR s k).2 := ⟨_, rfl⟩
      have ARM : Q (∀ w1 : World, Calls Try.prog 148 #[.string s, .int .i64 k] w1 fun e w' => e = .returned (.agg #[.int .i64 x, .int .i64 k, .int .i64 (n : Nat)]) ∧ Below w1.heap.size w1 w') := ⟨fun w1 => by rw [hx, hn]; exact one_ref s k w1 hlt (by omega)⟩
      have HF : Q (s.size ≤ k + n + (f - 1) ∧ runesP s = (pre ++ [(x, (k : Int), (n : Int))]) ++ runesF s (f - 1) (k + n)) := ⟨by
        obtain ⟨h1, h2⟩ := hf.out
        obtain ⟨f, rfl⟩ : ∃ g, f = g + 1 := ⟨f - 1, by omega⟩
        refine ⟨by rw [hn]; simp; omega, ?_⟩
        rw [h2, runesF, if_pos hlt, hx, hn]
        simp⟩
      rw [← hn] at ho hw4
      clear hx hn hf
      go_wp2_with (first
        | (go_at_call 148; refine (ARM.out _).mono ?_; rintro e w1 ⟨rfl, hb1⟩; have z1 := hb1.size; obtain ⟨hcc1, hff1, _⟩ := bcell hb1)
        | (at_builtin; go_loud (refine wpList_append1 _ rfl runeEl (.tmp 13) (.tmp 15) 161 164 rfl Try.underlying161 infoRune rfl (B' := w1.heap.size) (N' := w1.heap.size) (y := (x, (k : Int), (n : Int))) (H := w1.heap.size + 1) w.heap.size (by rfl) (by rfl) (heap_alloc_at _ _ (by simp)) ((((hO.out.below hb1 (Nat.le_refl _)).widen z1 (Nat.le_refl _)).alloc _).alloc _) rfl (.inl (Nat.le_refl _)) (by simp; omega) (Nat.le_refl _) (by omega) (by simp; omega) (by decide) (by simp only [runeEl]; omega) ?_); intro g2 c2 w4 hO4 hg4 hat4; have q1 := ((hO.out.below hb1 (Nat.le_refl _)).widen z1 (Nat.le_refl _)).block_far hg4 (heap_alloc2_old _ _ _) (.inr (Nat.le_refl _)); have d3 := box_cells q1 2; have e3 := box_free q1 2; replace q1 := Q.mk q1; replace hO4 := Q.mk hO4; replace hg4 := Q.mk hg4; clear hat4))
      have BW : Below w.heap.size w w4 := hO.out.below_grown (((hB.trans (hb1.mono hz)).alloc (by omega) _).alloc (by simp; omega) _) hg4.out (Nat.le_refl _) (by simp; omega)
      go_roundw
      case rel => exact ⟨k + n, f - 1, pre ++ [(x, (k : Int), (n : Int))], by go_num, by simp; omega, by omega, HF, ⟨by simpa using hO4.out⟩, BW⟩
      case measure => simp [intOf]; omega
    · have HR : Q (runesP s = pre) := ⟨by
        obtain ⟨h1, h2⟩ := hf.out
        rw [h2]
        cases f with
        | zero => simp [runesF]
        | succ f => rw [runesF, if_neg hlt]; simp⟩
      go_wp2_with fail
      go_ret
      exact ⟨_, rfl, by rw [HR.out]; exact hO.out, hB⟩

/-! ### letters, and names -/
set_option maxHeartbeats 1000000 in
set_option maxRecDepth 100000 in
theorem Letter_ref (r : Int) (w : World) : Calls Try.prog 141 #[.int .i64 r] w fun e w' => e = .returned (.bool (letterB r)) ∧ w = w' := by
  obtain ⟨b, hb⟩ : ∃ b, Q (b = letterB r) := ⟨_, ⟨rfl⟩⟩
  rw [← hb.out]
  go_enter Try.func141, Try.ntmps141
  go_wp2_with fail
  all_goals go_ret
  all_goals refine ⟨?_, rfl⟩
  all_goals rw [hb.out]
  all_goals (first
    | (have h95 : ¬ r = 95 := (by have h : (r == 95) = false := (by assumption); simpa using h))
    | (have h95 : r = 95 := (by have h : (r == 95) = true := (by assumption); simpa using h))
    | skip)
  all_goals refine congrArg (fun b => Ending.returned (Value.bool b)) (?_ : (_ : Bool) = letterB r)
  all_goals rw [Bool.eq_iff_iff, letterB]
  all_goals simp
  all_goals omega
set_option maxHeartbeats 1000000 in
set_option maxRecDepth 100000 in
theorem Rest_ref (r : Int) (w : World) : Calls Try.prog 142 #[.int .i64 r] w fun e w' => e = .returned (.bool (okB false r)) ∧ w = w' := by
  obtain ⟨b, hb⟩ : ∃ b, Q (b = okB false r) := ⟨_, ⟨rfl⟩⟩
  rw [← hb.out]
  cases hl : letterB r
  all_goals
    replace hl := Q.mk hl
    go_enter Try.func142, Try.ntmps142
    go_wp2_with (go_at_call 141; refine (Letter_ref _ _).mono ?_; rw [hl.out]; rintro e w2 ⟨rfl, rfl⟩)
  all_goals go_ret
  all_goals refine ⟨?_, rfl⟩
  all_goals rw [hb.out]
  all_goals refine congrArg (fun b => Ending.returned (Value.bool b)) (?_ : (_ : Bool) = okB false r)
  all_goals rw [okB, hl.out]
  all_goals rw [Bool.eq_iff_iff]
  all_goals simp
  all_goals omega
theorem okB_true (r : Int) : okB true r = letterB r := by simp [okB]
theorem allR_pos (l : List (Int × Int × Int)) : ∀ (n m : Nat), 0 < n → 0 < m → allR l n = allR l m := by
  induction l with
  | nil => intro n m _ _; rfl
  | cons x xs ih =>
    intro n m hn hm
    rw [allR, allR, ih (n + 1) (m + 1) (by omega) (by omega)]
    have e1 : (n == 0) = false := by simp; omega
    have e2 : (m == 0) = false := by simp; omega
    rw [e1, e2]
theorem allR_drop (l : List (Int × Int × Int)) (j : Nat) (hj : j < l.length) : allR (l.drop j) 1 = (okB false l[j].1 && allR (l.drop (j + 1)) 1) := by
  rw [List.drop_eq_getElem_cons hj, allR, allR_pos _ 2 1 (by omega) (by omega)]
  rfl
set_option maxHeartbeats 2000000 in
set_option maxRecDepth 100000 in
theorem NameR_ref (s : ByteArray) (w : World) (hs : s.size ≤ 1048576) :
    Calls Try.prog 120 #[.string s] w fun e w' => e = .returned (.bool (nameB s)) ∧ Below w.heap.size w w' := by
  obtain ⟨b, hb⟩ : ∃ b, b = nameB s := ⟨_, rfl⟩
  rw [← hb]
  rw [name_runes] at hb
  obtain ⟨l, hl⟩ : ∃ l, l = runesP s := ⟨_, rfl⟩
  have hll : l.length ≤ 1048576 := by rw [hl]; exact Nat.le_trans (runesF_len s s.size 0) hs
  have ARM : Q (Calls Try.prog 140 #[.string s] w fun e w' => ∃ v, e = .returned v ∧ Own runeEl 164 w.heap.size w'.heap.size w' v l ∧ Below w.heap.size w w') := ⟨by rw [hl]; exact Runes_ref s w hs⟩
  rw [← hl] at hb
  clear hl
  have arm : True := trivial
  by_cases h0 : l.length = 0
  · have hR : Q (b = false) := ⟨by rw [hb]; simp [h0]⟩
    have h1 : (l.length : Int) < 1 := by omega
    clear hb h0
    go_enter Try.func120, Try.ntmps120
    go_wp2_with (go_at_call 140; refine ARM.out.mono ?_; rintro e w1 ⟨v1, rfl, hO1, hb1⟩; obtain ⟨A1, c1, rfl, hc1, hr1⟩ := hO1.row; clear hO1; replace hr1 := Q.mk hr1)
    go_ret
    exact ⟨by rw [hR.out]; rfl, hb1⟩
  by_cases h32 : 32 < l.length
  · have hR : Q (b = false) := ⟨by rw [hb]; have : ¬ l.length ≤ 32 := (by omega); simp [this]⟩
    have h1 : decide ((l.length : Int) < 1) = false := by simp; omega
    have h2 : decide (32 < (l.length : Int)) = true := by simp; omega
    clear hb h0
    go_enter Try.func120, Try.ntmps120
    go_wp2_with (go_at_call 140; refine ARM.out.mono ?_; rintro e w1 ⟨v1, rfl, hO1, hb1⟩; obtain ⟨A1, c1, rfl, hc1, hr1⟩ := hO1.row; clear hO1; replace hr1 := Q.mk hr1)
    go_ret
    exact ⟨by rw [hR.out]; rfl, hb1⟩
  have hpos : 0 < l.length := by omega
  have hR : Q (b = (letterB (l[0]'hpos).1 && allR (l.drop 1) 1)) := ⟨by
    rw [hb]
    have e1 : decide (l.length ≠ 0) = true := decide_eq_true h0
    have e2 : decide (l.length ≤ 32) = true := decide_eq_true (by omega)
    rw [e1, e2]
    have e3 : l = l.drop 0 := rfl
    conv => lhs; rw [e3, List.drop_eq_getElem_cons hpos]
    simp only [allR, Bool.true_and]
    rw [← okB_true]
    rfl⟩
  have h1 : decide ((l.length : Int) < 1) = false := by simp; omega
  have h2 : decide (32 < (l.length : Int)) = false := by simp; omega
  have h3 : (0 : Int) < (l.length : Int) := by omega
  obtain ⟨x, hx⟩ : ∃ x, x = (l[0]'hpos).1 := ⟨_, rfl⟩
  rw [← hx] at hR
  replace hx := Q.mk hx
  clear hb h0 h32
  cases hL : letterB x
  · have hR2 : Q (b = false) := ⟨by rw [hR.out, hL]; rfl⟩
    replace hL := Q.mk hL
    go_enter Try.func120, Try.ntmps120
    go_wp2_with (first
      | (go_at_call 140; refine ARM.out.mono ?_; rintro e w1 ⟨v1, rfl, hO1, hb1⟩; obtain ⟨A1, c1, rfl, hc1, hr1⟩ := hO1.row; clear hO1; obtain ⟨bb, oo, rfl, hbN, x0, x1, x2⟩ := hr1.atRune 0 hpos; rw [← hx.out] at x0; simp only [Nat.zero_mul, Nat.add_zero] at x0; replace hr1 := Q.mk hr1)
      | (go_at_call 141; refine (Letter_ref _ _).mono ?_; rw [hL.out]; rintro e w2 ⟨rfl, rfl⟩))
    go_ret
    exact ⟨by rw [hR2.out]; rfl, hb1⟩
  · have hR2 : Q (b = allR (l.drop 1) 1) := ⟨by rw [hR.out, hL]; rfl⟩
    replace hL := Q.mk hL
    go_enter Try.func120, Try.ntmps120
    go_wp2_with (first
      | (go_at_call 140; refine ARM.out.mono ?_; rintro e w1 ⟨v1, rfl, hO1, hb1⟩; obtain ⟨A1, c1, rfl, hc1, hr1⟩ := hO1.row; clear hO1; obtain ⟨bb, oo, rfl, hbN, x0, x1, x2⟩ := hr1.atRune 0 hpos; rw [← hx.out] at x0; simp only [Nat.zero_mul, Nat.add_zero] at x0; replace hr1 := Q.mk hr1)
      | (go_at_call 141; refine (Letter_ref _ _).mono ?_; rw [hL.out]; rintro e w2 ⟨rfl, rfl⟩))
    clear h1 h2 h3 x0 x1 x2
    go_loopw [4] (fun i wr => ∃ j : Nat, 1 ≤ j ∧ j ≤ l.length ∧ i = .int .i64 j ∧ Q (b = allR (l.drop j) 1) ∧ Below w1.heap.size w1 wr) (fun i _ => l.length - (intOf i).toNat)
    case atStart => exact ⟨1, Nat.le_refl _, hpos, rfl, hR2, Below.refl _ _⟩
    case round =>
      clear hR2
      obtain ⟨j, hj1, hj, rfl, hR2, hB⟩ := hrel
      have z1 := hb1.size
      by_cases hlt : j < l.length
      · obtain ⟨b2, o2, hbo, hbN2, y0, y1, y2⟩ := (hr1.out.below hB (Nat.le_refl _)).atRune j hlt
        obtain ⟨rfl, rfl⟩ : bb = b2 ∧ oo = o2 := by simpa using hbo
        have HS := hR2.out
        rw [allR_drop l j hlt] at HS
        obtain ⟨y, hy⟩ : ∃ y, y = l[j].1 := ⟨_, rfl⟩
        rw [← hy] at HS y0
        replace HS := Q.mk HS
        clear hbo hy hR2
        cases hk : okB false y
        · have HR : Q (b = false) := ⟨by rw [HS.out, hk]; rfl⟩
          replace hk := Q.mk hk
          go_wp2_with (go_at_call 142; refine (Rest_ref _ _).mono ?_; rw [hk.out]; rintro e w2 ⟨rfl, rfl⟩)
          go_ret
          exact ⟨by rw [HR.out]; rfl, hb1.trans (hB.mono z1)⟩
        · have HR : Q (b = allR (l.drop (j + 1)) 1) := ⟨by rw [HS.out, hk]; rfl⟩
          replace hk := Q.mk hk
          go_wp2_with (go_at_call 142; refine (Rest_ref _ _).mono ?_; rw [hk.out]; rintro e w2 ⟨rfl, rfl⟩)
          go_roundw
          case rel => exact ⟨j + 1, by omega, by omega, by go_num, HR, hB⟩
          case measure => simp [intOf]; omega
      · have HR : Q (b = true) := ⟨by rw [hR2.out, List.drop_eq_nil_of_le (by omega)]; rfl⟩
        go_wp2_with fail
        go_ret
        exact ⟨by rw [HR.out]; rfl, hb1.trans (hB.mono z1)⟩
end Go.Proofs.Ytifakbipdmceiaa

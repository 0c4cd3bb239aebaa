import Derived.Test.YtifakbipdmceiaaJLawA35
set_option linter.unusedVariables false
set_option linter.unusedSimpArgs false
namespace Go.Proofs.Ytifakbipdmceiaa
open Go.RowKit

theorem Row.drop {α : Type} {E : El α} {B N : Nat} {w : World} {b o : Nat} {xs : List α} (h : Row E B N w (some ⟨b, o, none⟩) xs) (k : Nat) : Row E B N w (some ⟨b, o + k * E.sz, none⟩) (xs.drop k) := by
  refine ⟨Nat.le_trans (Nat.mul_le_mul_right _ (by simp)) h.1, fun hne => ?_⟩
  obtain ⟨b', o', hA, hB, hN, hx⟩ := h.2 (fun e => hne (by rw [e]; simp))
  cases hA
  refine ⟨b, _, rfl, hB, hN, fun j x hj => ?_⟩
  obtain ⟨cs, hR, hc⟩ := hx (k + j) x (by rw [List.getElem?_drop] at hj; exact hj)
  refine ⟨cs, hR, fun i u hu => ?_⟩
  have := hc i u hu
  rw [Nat.add_mul] at this
  rw [show o + k * E.sz + j * E.sz + i = o + (k * E.sz + j * E.sz) + i by omega]
  exact this
theorem Row.take {α : Type} {E : El α} {B N : Nat} {w : World} {A : Option Addr} {xs : List α} (h : Row E B N w A xs) (k : Nat) : Row E B N w A (xs.take k) := by
  refine ⟨Nat.le_trans (Nat.mul_le_mul_right _ (by simp; omega)) h.1, fun hne => ?_⟩
  obtain ⟨b', o', hA, hB, hN, hx⟩ := h.2 (fun e => hne (by rw [e]; simp))
  refine ⟨b', o', hA, hB, hN, fun j x hj => hx j x ?_⟩
  rw [List.getElem?_take] at hj
  split at hj
  · exact hj
  · cases hj
theorem row_block {α : Type} {E : El α} {B b : Nat} {w : World} {cs : Array Value} {t : TypeId} {xs : List α} (h : w.heap[b]? = some (.cells cs t (0, 0))) (hc : CellsOf E B b w xs cs.toList) (hl : xs.length * E.by_ ≤ 140737488355328) (hB : B ≤ b) : Row E B (b + 1) w (some ⟨b, 0, none⟩) xs := by
  refine ⟨hl, fun _ => ⟨b, 0, rfl, hB, Nat.lt_succ_self _, fun j x hj => ⟨_, E.mono _ _ _ _ _ (hc.2 j x hj) _ _ (Nat.le_refl _) (Nat.le_succ _), fun i u hu => ?_⟩⟩⟩
  rw [List.getElem?_take] at hu
  split at hu
  · rw [List.getElem?_drop] at hu
    rw [box_cells h, Nat.zero_add, ← Array.getElem?_toList]
    exact hu
  · cases hu
theorem vok_int (B N : Nat) (w : World) (n : Int) : VOk B N w (.mk 2 n 0 ⟨#[]⟩ []) none 0 := ⟨Row.nil _ _ _ _ _, (by show 0 ≤ _; decide), Nat.le_refl _⟩
theorem eok_I (B N : Nat) (w : World) (p o : UInt8) (n : Int) : EOk B N w (evI ⟨#[p]⟩ ⟨#[o]⟩ n) none 0 := ⟨vok_int _ _ _ _, (by show 1 ≤ _; decide), (by show 1 ≤ _; decide), (by show 1 ≤ _; decide)⟩
theorem eok_R (B N : Nat) (w : World) (p : UInt8) (n : Int) : EOk B N w (evR ⟨#[p]⟩ n) none 0 := ⟨vok_int _ _ _ _, (by show 1 ≤ _; decide), (by show 0 ≤ _; decide), (by show 0 ≤ _; decide)⟩

theorem inv_any (p o : ByteArray) (n : Int) (w : World) : Calls Try.prog 76 #[.string p, .string o, .int .i64 n] w fun e w' =>
    e = .returned (.agg #[.int .i64 1, .string p, .string o, .string ⟨#[102]⟩, .int .i64 2, .int .i64 n, .int .i64 0, .string ⟨#[]⟩, .slice none 0 0, .int .i64 0, .int .i64 0, .int .i64 0]) ∧ Below w.heap.size w w' := by
  go_enter Try.func76, Try.ntmps76
  go_wp2
  exact bodyPost_ret (results_cell_row rfl _ _ w.heap.size 37 #[.int .i64 1, .string p, .string o, .string ⟨#[102]⟩, .int .i64 2, .int .i64 n, .int .i64 0, .string ⟨#[]⟩, .slice none 0 0, .int .i64 0, .int .i64 0, .int .i64 0] (0, 0) _ rfl (heap_alloc_new _ _) Try.underlying37 rfl (by kernel_rfl)) rfl ⟨rfl, (Below.refl _ _).alloc (Nat.le_refl _) _⟩
theorem res_any (p : ByteArray) (n : Int) (w : World) : Calls Try.prog 77 #[.string p, .int .i64 n] w fun e w' =>
    e = .returned (.agg #[.int .i64 2, .string p, .string ⟨#[]⟩, .string ⟨#[]⟩, .int .i64 2, .int .i64 n, .int .i64 0, .string ⟨#[]⟩, .slice none 0 0, .int .i64 0, .int .i64 0, .int .i64 0]) ∧ Below w.heap.size w w' := by
  go_enter Try.func77, Try.ntmps77
  go_wp2
  exact bodyPost_ret (results_cell_row rfl _ _ w.heap.size 37 #[.int .i64 2, .string p, .string ⟨#[]⟩, .string ⟨#[]⟩, .int .i64 2, .int .i64 n, .int .i64 0, .string ⟨#[]⟩, .slice none 0 0, .int .i64 0, .int .i64 0, .int .i64 0] (0, 0) _ rfl (heap_alloc_new _ _) Try.underlying37 rfl (by kernel_rfl)) rfl ⟨rfl, (Below.refl _ _).alloc (Nat.le_refl _) _⟩
theorem num_any (n : Int) (w : World) : Calls Try.prog 30 #[.int .i64 n] w fun e w' => e = .returned (.int .i64 n) ∧ w = w' := by
  go_enter Try.func30, Try.ntmps30
  go_wp2
  go_ret
  exact ⟨rfl, rfl⟩

/-- The five events' cells. -/
def hC : Array Value := #[.int .i64 1, .string ⟨#[112]⟩, .string ⟨#[120]⟩, .string ⟨#[102]⟩, .int .i64 2, .int .i64 1, .int .i64 0, .string ⟨#[]⟩, .slice none 0 0, .int .i64 0, .int .i64 0, .int .i64 0,
  .int .i64 1, .string ⟨#[113]⟩, .string ⟨#[121]⟩, .string ⟨#[102]⟩, .int .i64 2, .int .i64 2, .int .i64 0, .string ⟨#[]⟩, .slice none 0 0, .int .i64 0, .int .i64 0, .int .i64 0,
  .int .i64 2, .string ⟨#[113]⟩, .string ⟨#[]⟩, .string ⟨#[]⟩, .int .i64 2, .int .i64 3, .int .i64 0, .string ⟨#[]⟩, .slice none 0 0, .int .i64 0, .int .i64 0, .int .i64 0,
  .int .i64 1, .string ⟨#[113]⟩, .string ⟨#[120]⟩, .string ⟨#[102]⟩, .int .i64 2, .int .i64 4, .int .i64 0, .string ⟨#[]⟩, .slice none 0 0, .int .i64 0, .int .i64 0, .int .i64 0,
  .int .i64 2, .string ⟨#[112]⟩, .string ⟨#[]⟩, .string ⟨#[]⟩, .int .i64 2, .int .i64 5, .int .i64 0, .string ⟨#[]⟩, .slice none 0 0, .int .i64 0, .int .i64 0, .int .i64 0]
theorem hE_row {w : World} {b : Nat} (h : w.heap[b]? = some (.cells hC 37 (0, 0))) : Row eEl 0 (b + 1) w (some ⟨b, 0, none⟩) hE := by
  refine row_block h ⟨rfl, fun j x hj => ?_⟩ (by show 5 * 144 ≤ _; decide) (Nat.zero_le _)
  have hlt : j < 5 := by
    rcases Nat.lt_or_ge j 5 with h | h
    · exact h
    · rw [List.getElem?_eq_none (show hE.length ≤ j from h)] at hj; cases hj
  rcases (show j = 0 ∨ j = 1 ∨ j = 2 ∨ j = 3 ∨ j = 4 from by omega) with rfl | rfl | rfl | rfl | rfl
  · cases hj; exact ⟨none, 0, eok_I _ _ _ _ _ _, rfl⟩
  · cases hj; exact ⟨none, 0, eok_I _ _ _ _ _ _, rfl⟩
  · cases hj; exact ⟨none, 0, eok_R _ _ _ _ _, rfl⟩
  · cases hj; exact ⟨none, 0, eok_I _ _ _ _ _ _, rfl⟩
  · cases hj; exact ⟨none, 0, eok_R _ _ _ _ _, rfl⟩
theorem rE_row {w : World} {b : Nat} {p : UInt8} {n : Int} (h : w.heap[b]? = some (.cells #[.int .i64 2, .string ⟨#[p]⟩, .string ⟨#[]⟩, .string ⟨#[]⟩, .int .i64 2, .int .i64 n, .int .i64 0, .string ⟨#[]⟩, .slice none 0 0, .int .i64 0, .int .i64 0, .int .i64 0] 37 (0, 0))) :
    Row eEl 0 (b + 1) w (some ⟨b, 0, none⟩) [evR ⟨#[p]⟩ n] := by
  refine row_block h ⟨rfl, fun j x hj => ?_⟩ (by show 1 * 144 ≤ _; decide) (Nat.zero_le _)
  have hlt : j = 0 := by
    rcases Nat.lt_or_ge j 1 with h | h
    · omega
    · rw [List.getElem?_eq_none (by simpa using h)] at hj; cases hj
  subst hlt
  cases hj; exact ⟨none, 0, eok_R _ _ _ _ _, rfl⟩

section
variable {b N : Nat} {W : World}
abbrev hV (b : Nat) : Value := .slice (some ⟨b, 0, none⟩) 5 5
theorem alive_objects (R : Row eEl 0 N W (some ⟨b, 0, none⟩) hE) (hN : N ≤ W.heap.size) : Calls Try.prog 19 #[hV b] W fun e w' => ∃ bo o c, e = .returned (.slice (some ⟨bo, o, none⟩) 2 c) ∧ bo < w'.heap.size ∧ w'.cell? ⟨bo, o + 1, none⟩ = some (.string ⟨#[121]⟩) ∧ Below W.heap.size W w' := by
  refine (objects_any hE _ 5 0 N W R hN (by decide)).mono ?_
  rintro e w' ⟨v, rfl, ho, hb⟩
  rw [hE_objects] at ho
  obtain ⟨A, c, rfl, hc, hr⟩ := ho.row
  obtain ⟨b', o', hA, _, h2, _, h3⟩ := hr.atS 1 (by decide)
  subst hA
  exact ⟨b', o', c, rfl, h2, h3, hb⟩
theorem alive_object (R : Row eEl 0 N W (some ⟨b, 0, none⟩) hE) (hN : N ≤ W.heap.size) : Calls Try.prog 15 #[hV b, .string ⟨#[120]⟩] W fun e w' => ∃ A c, e = .returned (.slice A 3 c) ∧ Below W.heap.size W w' := by
  refine (object_any hE _ 5 0 N ⟨#[120]⟩ W R hN (by decide)).mono ?_
  rintro e w' ⟨v, rfl, ho, hb⟩
  obtain ⟨A, c, rfl, hc, hr⟩ := ho.row
  rw [hE_object]
  exact ⟨A, c, rfl, hb⟩
theorem alive_whole (R : Row eEl 0 N W (some ⟨b, 0, none⟩) hE) (hN : N ≤ W.heap.size) : Calls Try.prog 17 #[hV b] W fun e w' => ∃ A c, e = .returned (.slice A 4 c) ∧ 4 ≤ c ∧ Row eEl 0 w'.heap.size w' A (wholeP hE) ∧ Below W.heap.size W w' := by
  refine (whole_any hE _ 5 0 N W R hN (by decide)).mono ?_
  rintro e w' ⟨v, rfl, ho, hb⟩
  obtain ⟨A, c, rfl, hc, hr⟩ := ho.row
  rw [hE_whole] at hc ⊢
  exact ⟨A, c, rfl, hc, hr.mono (Nat.zero_le _) (Nat.le_refl _), hb⟩
theorem alive_procs (R : Row eEl 0 N W (some ⟨b, 0, none⟩) hE) (hN : N ≤ W.heap.size) : Calls Try.prog 21 #[hV b] W fun e w' => ∃ A c, e = .returned (.slice A 2 c) ∧ Below W.heap.size W w' := by
  refine (procs_any hE _ 5 0 N W R hN (by decide)).mono ?_
  rintro e w' ⟨v, rfl, ho, hb⟩
  obtain ⟨A, c, rfl, hc, hr⟩ := ho.row
  rw [hE_procs]
  exact ⟨A, c, rfl, hb⟩
theorem alive_proc (R : Row eEl 0 N W (some ⟨b, 0, none⟩) hE) (hN : N ≤ W.heap.size) : Calls Try.prog 16 #[hV b, .string ⟨#[113]⟩] W fun e w' => ∃ A c, e = .returned (.slice A 3 c) ∧ Below W.heap.size W w' := by
  refine (proc_any hE _ 5 0 N ⟨#[113]⟩ W R hN (by decide)).mono ?_
  rintro e w' ⟨v, rfl, ho, hb⟩
  obtain ⟨A, c, rfl, hc, hr⟩ := ho.row
  rw [hE_proc]
  exact ⟨A, c, rfl, hb⟩
theorem alive_ans1 {b1 : Nat} (R : Row eEl 0 N W (some ⟨b, 0, none⟩) hE) (R1 : Row eEl 0 N W (some ⟨b1, 0, none⟩) [evR ⟨#[113]⟩ 6]) (hN : N ≤ W.heap.size) : Calls Try.prog 28 #[hV b, .slice (some ⟨b1, 0, none⟩) 1 1] W fun e w' => ∃ A c, e = .returned (.tuple #[.slice A 6 c, .int .i64 0]) ∧ Below W.heap.size W w' := by
  refine (answered_any hE [evR ⟨#[113]⟩ 6] _ _ 5 1 0 N W R R1 hN (by decide) (by decide) (by decide)).mono ?_
  rintro e w' ⟨hb, ⟨_, v, rfl, ho⟩ | ⟨h, _⟩⟩
  · rw [copyP, copyP, keepP_true, keepP_true] at ho
    obtain ⟨A, c, rfl, hc, hr⟩ := ho.row
    exact ⟨A, c, rfl, hb⟩
  · rw [hE_ans1] at h; cases h
theorem alive_ans2 {b1 : Nat} (R : Row eEl 0 N W (some ⟨b, 0, none⟩) hE) (R1 : Row eEl 0 N W (some ⟨b1, 0, none⟩) [evR ⟨#[112]⟩ 6]) (hN : N ≤ W.heap.size) : Calls Try.prog 28 #[hV b, .slice (some ⟨b1, 0, none⟩) 1 1] W fun e w' => e = .returned (.tuple #[.slice none 0 0, .int .i64 80]) ∧ Below W.heap.size W w' := by
  refine (answered_any hE [evR ⟨#[112]⟩ 6] _ _ 5 1 0 N W R R1 hN (by decide) (by decide) (by decide)).mono ?_
  rintro e w' ⟨hb, ⟨h, _⟩ | ⟨_, rfl⟩⟩
  · rw [hE_ans2] at h; cases h
  · exact ⟨rfl, hb⟩
theorem alive_alike (R : Row eEl 0 N W (some ⟨b, 0, none⟩) hE) (hN : N ≤ W.heap.size) : Calls Try.prog 31 #[hV b, hV b] W fun e w' => e = .returned (.bool true) ∧ Below W.heap.size W w' := by
  have h := alike_any hE hE _ _ 5 5 0 N W R R hN (by decide) (by decide)
  rw [hE_alike] at h
  exact h
theorem alive_keeps (R : Row eEl 0 N W (some ⟨b, 0, none⟩) hE) (hN : N ≤ W.heap.size) : Calls Try.prog 33 #[hV b, hV b] W fun e w' => e = .returned (.bool true) ∧ Below W.heap.size W w' := by
  have h := keeps_any hE hE _ _ 5 5 0 N W R R hN (by decide) (by decide)
  rw [hE_alike, keepsB_refl] at h
  exact h
theorem alive_unlike {A : Option Addr} {c : Nat} (R : Row eEl 0 N W (some ⟨b, 0, none⟩) hE) (R1 : Row eEl 0 N W A (wholeP hE)) (hc : 4 ≤ c) (hN : N ≤ W.heap.size) : Calls Try.prog 31 #[hV b, .slice A 4 c] W fun e w' => e = .returned (.bool false) ∧ Below W.heap.size W w' := by
  have h := alike_any hE (wholeP hE) _ A 5 c 0 N W R R1 hN (by decide) (by rw [hE_whole]; exact hc)
  rw [hE_unlike, hE_whole] at h
  exact h
theorem alive_rows (R : Row eEl 0 N W (some ⟨b, 0, none⟩) hE) (hN : N ≤ W.heap.size) : Calls Try.prog 38 #[.slice (some ⟨b, 0, none⟩) 2 5, .slice (some ⟨b, 24, none⟩) 1 3, .int .i64 9] W fun e w' =>
    ∃ bm om cm b1 o1 c1, e = .returned (.slice (some ⟨bm, om, none⟩) 3 cm) ∧ bm < w'.heap.size ∧ b1 < w'.heap.size ∧ w'.cell? ⟨bm, om + 1, none⟩ = some (.slice (some ⟨b1, o1, none⟩) 3 c1) ∧ w'.cell? ⟨b1, o1 + 12 + 1, none⟩ = some (.string ⟨#[113]⟩) ∧ Below W.heap.size W w' := by
  refine (rows_any (hE.take 2) ((hE.drop 2).take 1) _ _ 5 3 0 N 9 W (R.take 2) ((R.drop 2).take 1) hN (by decide) (by decide) (by decide) (by decide) (by decide)).mono ?_
  rintro e w' ⟨v, rfl, ho, hb⟩
  rw [show (mergesL [] (hE.take 2) ((hE.drop 2).take 1)).take 9 = [[evI ⟨#[112]⟩ ⟨#[120]⟩ 1, evI ⟨#[113]⟩ ⟨#[121]⟩ 2, evR ⟨#[113]⟩ 3], [evI ⟨#[112]⟩ ⟨#[120]⟩ 1, evR ⟨#[113]⟩ 3, evI ⟨#[113]⟩ ⟨#[121]⟩ 2], [evR ⟨#[113]⟩ 3, evI ⟨#[112]⟩ ⟨#[120]⟩ 1, evI ⟨#[113]⟩ ⟨#[121]⟩ 2]] from rfl] at ho
  obtain ⟨A, c, rfl, hc, hr⟩ := ho.row
  obtain ⟨bm, om, cs, hA, _, hbm, hR1, _, hcell⟩ := hr.at 1 (by decide)
  subst hA
  obtain ⟨A1, c1, ⟨hc1, hr1⟩, rfl⟩ : ∃ A1 c1, (3 ≤ c1 ∧ Row eEl W.heap.size w'.heap.size w' A1 [evI ⟨#[112]⟩ ⟨#[120]⟩ 1, evR ⟨#[113]⟩ 3, evI ⟨#[113]⟩ ⟨#[121]⟩ 2]) ∧ cs = [.slice A1 3 c1] := hR1
  obtain ⟨b1, o1, e1, A2, c2, hA1, hb1, he1, _, _, x1, _⟩ := hr1.atE 1 (by decide)
  subst hA1
  have he1' : evR ⟨#[113]⟩ 3 = e1 := he1
  refine ⟨bm, om, c, b1, o1, c1, rfl, hbm, hb1, ?_, ?_, hb⟩
  · exact hcell 0 _ rfl
  · rw [← he1'] at x1
    exact x1
end
end Go.Proofs.Ytifakbipdmceiaa

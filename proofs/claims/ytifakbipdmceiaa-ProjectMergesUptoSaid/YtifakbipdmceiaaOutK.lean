import Derived.Test.YtifakbipdmceiaaJLawA34
import Derived.Test.YtifakbipdmceiaaJLawA27
import Derived.Test.YtifakbipdmceiaaJLawA40
import Derived.Test.YtifakbipdmceiaaJLawA50
import Derived.Deep.RegionLawGrows
import Derived.Laws.Slices
set_option linter.unusedVariables false
set_option linter.unusedSimpArgs false
namespace Go.Proofs.Ytifakbipdmceiaa
open Go.RowKit

/-! ### the reference's interleavings: a row of rows behind a pointer, and the row so far -/
def ablk (A : Option Addr) : Option Nat := A.map Addr.block
theorem ownBlock_slice (A : Option Addr) (n c : Nat) : (Value.slice A n c).ownBlock = ablk A := by cases A <;> rfl
/-- What block g leads to: the rows so far. -/
structure OutV (N0 g : Nat) (w : World) (A : Option Addr) (c : Nat) (rows : List (List Ev)) : Prop where
  low : N0 ≤ g
  lt : g < w.heap.size
  cap : rows.length ≤ c
  at_ : w.heap[g]? = some (.cells #[.slice A rows.length c] 46 (0, 0))
  own : OwnR rEl 22 N0 (g + 1) w.heap.size w (.slice A rows.length c) rows
/-- Block g and the rows' own block may turn. -/
structure Chg (g : Nat) (A A' : Option Addr) (w w' : World) : Prop where
  low : Below g w w'
  same : ∀ b, b < w.heap.size → b ≠ g → ablk A ≠ some b → w'.heap[b]? = w.heap[b]?
  own : ∀ b, ablk A' = some b → ablk A = some b ∨ w.heap.size ≤ b
theorem Chg.refl (g : Nat) (A : Option Addr) (w : World) : Chg g A A w w := ⟨Below.refl _ _, fun _ _ _ _ => rfl, fun b h => .inl h⟩
theorem Chg.trans {g : Nat} {A B C : Option Addr} {w w1 w2 : World} (h : Chg g A B w w1) (k : Chg g B C w1 w2) : Chg g A C w w2 := by
  have hz := h.low.size
  refine ⟨h.low.trans k.low, fun b h1 h2 h3 => (k.same b (by omega) h2 fun e => ?_).trans (h.same b h1 h2 h3), fun b hb => ?_⟩
  · rcases h.own b e with h4 | h4
    · exact h3 h4
    · omega
  · rcases k.own b hb with h4 | h4
    · exact h.own b h4
    · exact .inr (by omega)
theorem Chg.pre {g : Nat} {A B : Option Addr} {w w1 w2 : World} (hb : Below w.heap.size w w1) (hg : g ≤ w.heap.size) (h : Chg g A B w1 w2) : Chg g A B w w2 := by
  have hz := hb.size
  refine ⟨(hb.mono hg).trans h.low, fun b h1 h2 h3 => (h.same b (by omega) h2 h3).trans (hb.block b h1), fun b h4 => ?_⟩
  rcases h.own b h4 with h5 | h5
  · exact .inl h5
  · exact .inr (by omega)
theorem OutV.below {N0 g : Nat} {w w1 : World} {A : Option Addr} {c : Nat} {rows : List (List Ev)} (h : OutV N0 g w A c rows) (hb : Below w.heap.size w w1) : OutV N0 g w1 A c rows := by
  have hz := hb.size
  have h1 := h.lt
  have h2 := h.low
  exact ⟨h.low, by omega, h.cap, hb.box h.at_ h.lt, (h.own.below hb (Nat.le_refl _) (by omega)).widen hz (Nat.le_refl _)⟩

/-- The row so far: its cells in a block of its own, its elements' memory below N0. -/
def PRow (N0 : Nat) (w : World) (A : Option Addr) (c : Nat) (p : List Ev) : Prop :=
  ∃ cs, w.ownsRow 0 37 12 (.slice A p.length c) p.length cs ∧ CellsOf eEl 0 N0 w p cs
theorem PRow.nil (N0 : Nat) (w : World) : PRow N0 w none 0 [] := ⟨[], World.ownsRow_nil _ _ _ _, CellsOf.nil eEl _ _ w⟩
theorem PRow.blk {N0 : Nat} {w : World} {A : Option Addr} {c : Nat} {p : List Ev} (h : PRow N0 w A c p) {b : Nat} (hb : ablk A = some b) : b < w.heap.size := by
  obtain ⟨cs, h1, _⟩ := h
  exact (h1.lt b (by rw [ownBlock_slice]; exact hb)).2
theorem PRow.keep {N0 : Nat} {w w1 : World} {A : Option Addr} {c : Nat} {p : List Ev} (h : PRow N0 w A c p) (h0 : ∀ b, b < N0 → w1.heap[b]? = w.heap[b]?) (h1 : ∀ b, ablk A = some b → w1.heap[b]? = w.heap[b]?) : PRow N0 w1 A c p := by
  obtain ⟨cs, h2, h3⟩ := h
  refine ⟨cs, ownsRow_block h2 (fun g hg => h1 g (by rw [ownBlock_slice] at hg; exact hg)), h3.1, fun j x hj => eEl.loc _ _ _ _ _ (h3.2 j x hj) _ fun b _ hn => h0 b hn⟩
theorem PRow.below {N0 : Nat} {w w1 : World} {A : Option Addr} {c : Nat} {p : List Ev} (h : PRow N0 w A c p) (hN : N0 ≤ w.heap.size) (hb : Below w.heap.size w w1) : PRow N0 w1 A c p :=
  h.keep (fun b h1 => hb.block b (by omega)) (fun b h1 => hb.block b (h.blk h1))
theorem PRow.row {N0 : Nat} {w : World} {A : Option Addr} {c : Nat} {p : List Ev} (h : PRow N0 w A c p) (hl : p.length * 144 ≤ 140737488355328) (hN : N0 ≤ w.heap.size) : Row eEl 0 w.heap.size w A p := by
  obtain ⟨cs, h3, h4⟩ := h
  refine ⟨hl, fun hne => ?_⟩
  rcases h3.2 with ⟨_, h5⟩ | ⟨g, cap, cur, he, _, hg, _⟩
  · exact absurd (List.eq_nil_of_length_eq_zero h5) hne
  · obtain rfl : A = some ⟨g, 0, none⟩ := by simpa using congrArg (fun v => match v with | .slice a _ _ => a | _ => none) he
    refine ⟨g, 0, rfl, Nat.zero_le _, box_lt hg, fun j x hj => ?_⟩
    refine ⟨_, eEl.mono _ _ _ _ _ (h4.2 j x hj) _ _ (Nat.le_refl _) hN, fun i u hu => ?_⟩
    rw [List.getElem?_take] at hu
    split at hu
    · rw [List.getElem?_drop] at hu
      have h9 := h3.cells (g := g) rfl (j * eEl.sz + i) u hu
      have ha : (⟨g, 0, none⟩ : Addr).add (j * eEl.sz + i) = ⟨g, 0 + j * eEl.sz + i, none⟩ := by unfold Addr.add; split <;> simp_all
      rw [ha] at h9
      exact h9
    · cases hu

/-! ### a row's tail -/
def tailA (b o c : Nat) : Addr := if c = 1 then ⟨b, o, none⟩ else ⟨b, o + 12, none⟩
theorem elemE : Try.prog.elem 22 = 37 := by kernel_rfl
theorem sizeE (w : World) : (sizeOf 37).run Try.prog w = .ok 12 w := by kernel_rfl
theorem underE : Try.prog.underlying 22 = some (.slice (Try.prog.elem 22)) := by rw [elemE]; exact Try.underlying22
theorem run_tail (w : World) (b o n c : Nat) (h1 : 1 ≤ n) (hc : n ≤ c) : (Instr.slice 22 (.slice (some ⟨b, o, none⟩) n c) (some (.int .i64 1)) none none).run Try.prog w = .ok (.slice (some (tailA b o c)) (n - 1) (c - 1)) w := by
  have h := run_slice_l (P := Try.prog) w 22 (some ⟨b, o, none⟩) n c underE .i64 1 (by omega) (by omega)
  rw [h, elemE, sizeE]
  simp only [Result.andThen, sliced, tailA, Int.toNat_one, Option.map_some]
  by_cases hc1 : c = 1
  · rw [if_pos hc1, if_pos hc1]
  · rw [if_neg hc1, if_neg hc1]; rfl
theorem run_full (w : World) (A : Option Addr) (n c : Nat) (hc : n ≤ c) : (Instr.slice 22 (.slice A n c) none (some (.int .i64 n)) (some (.int .i64 n))).run Try.prog w = .ok (.slice A n n) w := by
  have h := run_slice_hm (P := Try.prog) w 22 A n c underE .i64 .i64 n n (by omega) (by omega) (by omega)
  rw [h, elemE, sizeE]
  simp only [Result.andThen, sliced, Int.toNat_natCast, Nat.zero_mul, Nat.sub_zero]
  by_cases hn : n = 0
  · rw [if_pos hn]
  · rw [if_neg hn]
    cases A with
    | none => rfl
    | some a => simp [add_zero']
theorem row_tail {B N : Nat} {w : World} {b o c : Nat} {e : Ev} {es : List Ev} (h : Row eEl B N w (some ⟨b, o, none⟩) (e :: es)) (hc : es.length + 1 ≤ c) : Row eEl B N w (some (tailA b o c)) es := by
  refine ⟨by have := h.1; simp only [List.length_cons, eEl] at this ⊢; omega, fun hne => ?_⟩
  obtain ⟨b', o', hA, hB, hN, hx⟩ := h.2 (by simp)
  obtain ⟨rfl, rfl⟩ : b = b' ∧ o = o' := by simpa using hA
  have hpos : 0 < es.length := by cases es with | nil => exact absurd rfl hne | cons _ _ => simp
  refine ⟨b, o + 12, by rw [tailA, if_neg (by omega)], hB, hN, fun j x hj => ?_⟩
  obtain ⟨cs, h1, h2⟩ := hx (j + 1) x (by simpa using hj)
  refine ⟨cs, h1, fun i u hu => ?_⟩
  have := h2 i u hu
  rw [show o + 12 + j * eEl.sz + i = o + (j + 1) * eEl.sz + i by simp only [eEl]; omega]
  exact this

/-! ### the two appends -/
section
variable {P : Program}
/-- append(p[:n:n], y): always a new block. -/
theorem step_appendP (w : World) {ops : Array Oper} {o : Oper} {a : Act} {K : Act → World → Prop} {Q : Exit → Act → World → Prop} {F : Prop} (hgd : o.guard = none) (s x : Operand) (t : TypeId)
    (ho : o.op = .call { callee := .builtin .append, args := #[s, x], argTypes := #[t, t] }) {z : Value}
    (ht : P.underlying t = some (.slice 37)) (hi : (P.info? 37).map (fun i => (i.zero, i.size, i.bytes)) = some (some z, 12, 144)) (hzs : z.cells.size = 12)
    {N0 B0 H : Nat} {A : Option Addr} {c n : Nat} {p : List Ev} {y : Ev} {ycs : Array Value} (hn : n = p.length) (hs : a.eval s = .slice A n n) (hx : a.eval x = .slice (some ⟨H, 0, none⟩) 1 1) (hbox : w.heap[H]? = some (.cells ycs 37 (0, 0)))
    (hp : PRow N0 w A c p) (hy : eEl.R B0 N0 w y ycs.toList) (hN : N0 ≤ w.heap.size) (hl : (p.length + 1) * 144 ≤ 140737488355328)
    (h : ∀ g' c' w', p.length + 1 ≤ c' → PRow N0 w' (some ⟨g', 0, none⟩) c' (p ++ [y]) → Below w.heap.size w w' → w.heap.size ≤ g' → K (a.put o.dst (.slice (some ⟨g', 0, none⟩) (p.length + 1) c')) w') :
    if Region.wanted o (yielded ops a.tmps) = true then Oper.wp P o a w K Q else F := by
  subst hn
  obtain ⟨cs, h3, h4⟩ := hp
  obtain ⟨i, hi0, hz0, hz1, hz2⟩ := info_parts hi
  have hyl := eEl.len _ _ _ _ _ hy
  have hlc : cs.length = p.length * 12 := h4.1
  refine step_append_grows hgd s x t ho 37 i z 12 144 ht hi0 hz0 hz1 hz2 hzs (by decide) A p.length p.length cs hs ?_ hlc ?_ ⟨H, 0, none⟩ 1 1 ycs.toList hx (by simpa [eEl] using hyl) (World.news_of_block hbox) (eEl.one _ _ _ _ _ hy) (by omega) (by unfold maxLen; omega) hl ?_
  · rintro rfl
    rcases h3.2 with ⟨_, h5⟩ | ⟨g, cap, cur, he, _⟩
    · exact ⟨h5, h5⟩
    · cases he
  · rintro b rfl j u hu
    rcases h3.2 with ⟨h5, _⟩ | ⟨g, cap, cur, he, _⟩
    · cases h5
    · obtain rfl : b = ⟨g, 0, none⟩ := Option.some.inj (Value.slice.inj he).1
      exact h3.cells (g := g) rfl j u hu
  · intro v' w' hown hg
    have hb : Below w.heap.size w w' := (Below.refl _ _).grown hg (Nat.le_refl _) (fun g e => by cases e)
    rcases hown.2 with ⟨_, h5⟩ | ⟨g, cap, cur, rfl, h6, h7⟩
    · omega
    · refine h g cap w' h7.2.1 ⟨cs ++ ycs.toList, by rw [List.length_append]; exact ownsRow_low hown (Nat.zero_le _), ?_⟩ hb h6
      have hsame : ∀ b, b < N0 → w'.heap[b]? = w.heap[b]? := fun b h1 => hb.block b (by omega)
      have h5 : CellsOf eEl 0 N0 w' p cs := ⟨h4.1, fun j x hj => eEl.loc _ _ _ _ _ (h4.2 j x hj) _ fun b _ hn => hsame b hn⟩
      exact h5.snoc (eEl.loc _ _ _ _ _ (eEl.mono _ _ _ _ _ hy _ _ (Nat.zero_le _) (Nat.le_refl _)) _ fun b _ hn => hsame b hn)
/-- append of one element whose memory lies in the blocks T. -/
theorem wp_append1G (w : World) {α : Type} {o : Oper} {a : Act} {K : Act → World → Prop} {Q : Exit → Act → World → Prop} (E : El α) (s x : Operand) (t e : TypeId)
    (ho : o.op = .call { callee := .builtin .append, args := #[s, x], argTypes := #[t, t] }) {z : Value}
    (ht : P.underlying t = some (.slice e)) (hi : (P.info? e).map (fun i => (i.zero, i.size, i.bytes)) = some (some z, E.sz, E.by_)) (hzs : z.cells.size = E.sz)
    {N0 M N H : Nat} {T : Nat → Prop} {v : Value} {xs : List α} {y : α} {ycs : Array Value} (hs : a.eval s = v) (hx : a.eval x = .slice (some ⟨H, 0, none⟩) 1 1) (hbox : w.heap[H]? = some (.cells ycs e (0, 0)))
    (HO : OwnR E e N0 M N w v xs) (hT : ∀ b, T b → b < w.heap.size ∧ (b < N0 ∨ (N ≤ b ∧ M ≤ b))) (hy : ∀ w', (∀ b, T b → w'.heap[b]? = w.heap[b]?) → ∀ N', w.heap.size ≤ N' → E.R 0 N' w' y ycs.toList) (hM : M ≤ w.heap.size) (hby : 0 < E.by_) (hl : (xs.length + 1) * E.by_ ≤ 140737488355328)
    (h : ∀ g c w', xs.length + 1 ≤ c → OwnR E e N0 M w'.heap.size w' (.slice (some ⟨g, 0, none⟩) (xs.length + 1) c) (xs ++ [y]) → w.grownBy w' v.ownBlock → (v.ownBlock = some g ∨ g = w.heap.size) → K (a.put o.dst (.slice (some ⟨g, 0, none⟩) (xs.length + 1) c)) w') :
    o.wp P a w K Q := by
  have hlt := fun g hg => HO.lt (g := g) hg
  obtain ⟨hm, h0_, h1, cs, S, h2, h3, h4, h5⟩ := HO
  obtain ⟨i, hi0, hz0, hz1, hz2⟩ := info_parts hi
  have hyw := hy w (fun _ _ => rfl) w.heap.size (Nat.le_refl _)
  have hyl := E.len _ _ _ _ _ hyw
  refine wp_append_lies w s x t ho M e i z E.sz E.by_ ht hi0 hz0 hz1 hz2 hzs E.pos v xs.length cs hs h2 ⟨H, 0, none⟩ 1 1 ycs.toList hx (by simpa using hyl)
    (World.news_of_block hbox) (E.one _ _ _ _ _ hyw) (by omega) (by unfold maxLen; have := Nat.le_mul_of_pos_right (xs.length + 1) hby; omega) hl hM w.heap.size rfl ?_
  intro g c w' hown hg hat hgl
  have hz := hg.size
  have hcap : xs.length + 1 ≤ c := by
    rcases hown.2 with ⟨h6, _⟩ | ⟨g', cap, cur, h6, _, _, h7, _⟩
    · cases h6
    · have : c = cap := by simpa using congrArg (fun v => match v with | .slice _ _ k => k | _ => 0) h6
      omega
  refine h g c w' hcap ⟨hm, Nat.le_refl _, by rw [List.length_append]; simpa using hl, cs ++ ycs.toList, fun b => S b ∨ T b, by rw [List.length_append]; exact hown, ?_, ?_, ?_⟩ hg hat
  · intro g' hg'
    obtain rfl : g = g' := by simpa [Value.ownBlock] using hg'
    refine ⟨hgl, ?_⟩
    rcases hat with hat | rfl
    · have := h3 g hat
      have := hlt g hat
      rintro (h6 | h6)
      · exact (h3 g hat).2 h6
      · have := hT g h6; omega
    · rintro (h6 | h6)
      · have := h4 _ h6; omega
      · have := hT _ h6; omega
  · rintro b (hb | hb)
    · have := h4 b hb; omega
    · have := hT b hb; omega
  · intro w'' hw''
    have key : ∀ b, S b ∨ T b → w'.heap[b]? = w.heap[b]? := by
      intro b hb
      refine hg.block b (by rcases hb with hb | hb; have := h4 b hb; omega; exact (hT b hb).1) fun e => ?_
      have := hlt b e.symm
      rcases hb with hb | hb
      · exact (h3 b e.symm).2 hb
      · have := hT b hb; omega
    exact ((h5 w'' fun b hb => (hw'' b (.inl hb)).trans (key b (.inl hb))).mono (Nat.le_refl _) (by omega)).snoc (hy w'' (fun b hb => (hw'' b (.inr hb)).trans (key b (.inr hb))) _ hz)
end
end Go.Proofs.Ytifakbipdmceiaa

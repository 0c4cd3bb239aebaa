import Derived.Test.YtifakbipdmceiaaJLawA1
import Derived.Laws.Strings
section
set_option linter.unusedVariables false
namespace Go.Proofs.Ytifakbipdmceiaa
open Go.RowKit

theorem boxes1 (w : World) (o : Obj) : ∃ W, W = w.alloc o ∧ Q (W.heap[w.heap.size]? = some o) ∧ Below w.heap.size w W ∧ W.heap.size = w.heap.size + 1 :=
  ⟨_, rfl, ⟨heap_alloc_new _ _⟩, (Below.refl _ _).alloc (Nat.le_refl _) _, by simp⟩
theorem boxes2 (w : World) (o p : Obj) : ∃ W, W = (w.alloc o).alloc p ∧ Q (W.heap[w.heap.size]? = some o) ∧ Q (W.heap[w.heap.size + 1]? = some p) ∧ Below w.heap.size w W ∧ W.heap.size = w.heap.size + 2 :=
  ⟨_, rfl, ⟨heap_alloc2_old _ _ _⟩, ⟨heap_alloc2_new _ _ _⟩, ((Below.refl _ _).alloc (Nat.le_refl _) _).alloc (by simp) _, by simp⟩
theorem sEq (a b : ByteArray) : (a.toList == b.toList) = decide (a = b) := by
  rw [ByteArray.toList_eq, ByteArray.toList_eq]
  by_cases h : a = b
  · subst h; simp
  · simp only [h, decide_false, beq_eq_false_iff_ne, ne_eq]
    intro h2
    exact h (by cases a; cases b; congr; exact Array.ext' h2)
theorem sNe (a b : ByteArray) : (a.toList != b.toList) = !decide (a = b) := by rw [bne, sEq]
theorem heap_alloc_at (w : World) (o : Obj) {n : Nat} (h : w.heap.size = n) : (w.alloc o).heap[n]? = some o := by subst h; exact heap_alloc_new _ _
theorem Val.eta (x : Val) : Val.mk x.kind x.int x.im x.text x.items = x := by cases x; rfl

/-- A value that can be read, laid open. -/
structure VOk (B N : Nat) (w : World) (x : Val) (A : Option Addr) (c : Nat) : Prop where
  row : Row vEl B N w A x.items
  txt : x.text.size ≤ 140737488355328
  cap : x.items.length ≤ c
section
variable {B N : Nat} {w : World} {x : Val} {A : Option Addr} {c : Nat}
theorem VOk.loc (h : VOk B N w x A c) {w' : World} (hs : Same B N w w') : VOk B N w' x A c := ⟨h.row.loc hs, h.txt, h.cap⟩
theorem VOk.mono (h : VOk B N w x A c) {B' N' : Nat} (hB : B' ≤ B) (hN : N ≤ N') : VOk B' N' w x A c := ⟨h.row.mono hB hN, h.txt, h.cap⟩
theorem VOk.below (h : VOk B N w x A c) {M : Nat} {w1 : World} (hb : Below M w w1) (hM : N ≤ M) : VOk B N w1 x A c := ⟨h.row.below hb hM, h.txt, h.cap⟩
theorem VOk.alloc (h : VOk B N w x A c) (hN : N ≤ w.heap.size) (o : Obj) : VOk B N (w.alloc o) x A c := ⟨h.row.alloc hN o, h.txt, h.cap⟩
theorem VOk.set (h : VOk B N w x A c) {a : Addr} (ha : a.block < B ∨ N ≤ a.block) (v : Value) : VOk B N (w.setCell a v) x A c := ⟨h.row.set ha v, h.txt, h.cap⟩
theorem VOk.drew (h : VOk B N w x A c) : VOk B N w.drew x A c := ⟨h.row.drew, h.txt, h.cap⟩
theorem VOk.rd (h : VOk B N w x A c) : vEl.R B N w x [.int .i64 x.kind, .int .i64 x.int, .int .i64 x.im, .string x.text, .slice A x.items.length c] := by
  cases x; exact (Val.Rd_iff B N w _ _ _ _ _ _).2 ⟨A, c, rfl, h.txt, h.cap, h.row⟩
theorem VOk.of {cs : List Value} (h : vEl.R B N w x cs) : ∃ A c, VOk B N w x A c ∧ cs = [.int .i64 x.kind, .int .i64 x.int, .int .i64 x.im, .string x.text, .slice A x.items.length c] := by
  cases x; obtain ⟨A, c, rfl, h0, h1, h2⟩ := (Val.Rd_iff B N w _ _ _ _ _ _).1 h; exact ⟨A, c, ⟨h2, h0, h1⟩, rfl⟩
theorem VOk.len (h : VOk B N w x A c) : x.items.length * 64 ≤ 140737488355328 := h.row.1
end

/-! ### events -/
structure Ev where
  k : Int
  p : ByteArray
  o : ByteArray
  q : ByteArray
  v : Val
  a : Int
  b : Int
  c : Int

structure EOk (B N : Nat) (w : World) (e : Ev) (A : Option Addr) (c : Nat) : Prop where
  v : VOk B N w e.v A c
  p : e.p.size ≤ 140737488355328
  o : e.o.size ≤ 140737488355328
  q : e.q.size ≤ 140737488355328
section
variable {B N : Nat} {w : World} {e : Ev} {A : Option Addr} {c : Nat}
theorem EOk.loc (h : EOk B N w e A c) {w' : World} (hs : Same B N w w') : EOk B N w' e A c := ⟨h.v.loc hs, h.p, h.o, h.q⟩
theorem EOk.mono (h : EOk B N w e A c) {B' N' : Nat} (hB : B' ≤ B) (hN : N ≤ N') : EOk B' N' w e A c := ⟨h.v.mono hB hN, h.p, h.o, h.q⟩
theorem EOk.below (h : EOk B N w e A c) {M : Nat} {w1 : World} (hb : Below M w w1) (hM : N ≤ M) : EOk B N w1 e A c := ⟨h.v.below hb hM, h.p, h.o, h.q⟩
theorem EOk.alloc (h : EOk B N w e A c) (hN : N ≤ w.heap.size) (o : Obj) : EOk B N (w.alloc o) e A c := ⟨h.v.alloc hN o, h.p, h.o, h.q⟩
theorem EOk.set (h : EOk B N w e A c) {a : Addr} (ha : a.block < B ∨ N ≤ a.block) (v : Value) : EOk B N (w.setCell a v) e A c := ⟨h.v.set ha v, h.p, h.o, h.q⟩
theorem EOk.drew (h : EOk B N w e A c) : EOk B N w.drew e A c := ⟨h.v.drew, h.p, h.o, h.q⟩
end
def eEl : El Ev where
  sz := 12
  by_ := 144
  R := fun B N w e cs => ∃ A c, EOk B N w e A c ∧ cs = [.int .i64 e.k, .string e.p, .string e.o, .string e.q, .int .i64 e.v.kind, .int .i64 e.v.int, .int .i64 e.v.im, .string e.v.text, .slice A e.v.items.length c, .int .i64 e.a, .int .i64 e.b, .int .i64 e.c]
  pos := by decide
  len := fun _ _ _ _ _ h => by obtain ⟨A, c, _, rfl⟩ := h; rfl
  one := fun _ _ _ v _ h => by obtain ⟨A, c, _, rfl⟩ := h; simp [Value.oneCell']
  loc := fun B N w v cs h w' hs => by obtain ⟨A, c, h1, rfl⟩ := h; exact ⟨A, c, h1.loc hs, rfl⟩
  mono := fun B N w v cs h B' N' hB hN => by obtain ⟨A, c, h1, rfl⟩ := h; exact ⟨A, c, h1.mono hB hN, rfl⟩

theorem cells12 {w : World} {b o : Nat} {x0 x1 x2 x3 x4 x5 x6 x7 x8 x9 x10 x11 : Value} (h : ∀ (i : Nat) (x : Value), [x0, x1, x2, x3, x4, x5, x6, x7, x8, x9, x10, x11][i]? = some x → w.cell? ⟨b, o + i, none⟩ = some x) :
    w.cell? ⟨b, o, none⟩ = some x0 ∧ w.cell? ⟨b, o + 1, none⟩ = some x1 ∧ w.cell? ⟨b, o + 2, none⟩ = some x2 ∧ w.cell? ⟨b, o + 3, none⟩ = some x3 ∧ w.cell? ⟨b, o + 4, none⟩ = some x4 ∧ w.cell? ⟨b, o + 5, none⟩ = some x5 ∧
    w.cell? ⟨b, o + 6, none⟩ = some x6 ∧ w.cell? ⟨b, o + 7, none⟩ = some x7 ∧ w.cell? ⟨b, o + 8, none⟩ = some x8 ∧ w.cell? ⟨b, o + 9, none⟩ = some x9 ∧ w.cell? ⟨b, o + 10, none⟩ = some x10 ∧ w.cell? ⟨b, o + 11, none⟩ = some x11 :=
  ⟨h 0 x0 rfl, h 1 x1 rfl, h 2 x2 rfl, h 3 x3 rfl, h 4 x4 rfl, h 5 x5 rfl, h 6 x6 rfl, h 7 x7 rfl, h 8 x8 rfl, h 9 x9 rfl, h 10 x10 rfl, h 11 x11 rfl⟩
theorem box12 {w : World} {g : Nat} {x0 x1 x2 x3 x4 x5 x6 x7 x8 x9 x10 x11 : Value} {t : TypeId} (h : w.heap[g]? = some (.cells #[x0, x1, x2, x3, x4, x5, x6, x7, x8, x9, x10, x11] t (0, 0))) :
    w.cell? ⟨g, 0, none⟩ = some x0 ∧ w.cell? ⟨g, 1, none⟩ = some x1 ∧ w.cell? ⟨g, 2, none⟩ = some x2 ∧ w.cell? ⟨g, 3, none⟩ = some x3 ∧ w.cell? ⟨g, 4, none⟩ = some x4 ∧ w.cell? ⟨g, 5, none⟩ = some x5 ∧
    w.cell? ⟨g, 6, none⟩ = some x6 ∧ w.cell? ⟨g, 7, none⟩ = some x7 ∧ w.cell? ⟨g, 8, none⟩ = some x8 ∧ w.cell? ⟨g, 9, none⟩ = some x9 ∧ w.cell? ⟨g, 10, none⟩ = some x10 ∧ w.cell? ⟨g, 11, none⟩ = some x11 ∧ ∀ i, w.frozen? ⟨g, i, none⟩ = false :=
  ⟨box_cells h 0, box_cells h 1, box_cells h 2, box_cells h 3, box_cells h 4, box_cells h 5, box_cells h 6, box_cells h 7, box_cells h 8, box_cells h 9, box_cells h 10, box_cells h 11, box_free h⟩

/-- An element of a row of events, laid open. -/
theorem Row.atE {B N : Nat} {w : World} {A : Option Addr} {xs : List Ev} (h : Row eEl B N w A xs) (j : Nat) (hj : j < xs.length) :
    ∃ (b o : Nat) (e : Ev) (A' : Option Addr) (c' : Nat), A = some ⟨b, o, none⟩ ∧ b < N ∧ xs[j] = e ∧ EOk B N w e A' c' ∧ w.cell? ⟨b, o + j * 12, none⟩ = some (.int .i64 e.k) ∧ w.cell? ⟨b, o + j * 12 + 1, none⟩ = some (.string e.p) ∧ w.cell? ⟨b, o + j * 12 + 2, none⟩ = some (.string e.o) ∧ w.cell? ⟨b, o + j * 12 + 3, none⟩ = some (.string e.q) ∧ w.cell? ⟨b, o + j * 12 + 4, none⟩ = some (.int .i64 e.v.kind) ∧ w.cell? ⟨b, o + j * 12 + 5, none⟩ = some (.int .i64 e.v.int) ∧ w.cell? ⟨b, o + j * 12 + 6, none⟩ = some (.int .i64 e.v.im) ∧ w.cell? ⟨b, o + j * 12 + 7, none⟩ = some (.string e.v.text) ∧ w.cell? ⟨b, o + j * 12 + 8, none⟩ = some (.slice A' e.v.items.length c') ∧ w.cell? ⟨b, o + j * 12 + 9, none⟩ = some (.int .i64 e.a) ∧ w.cell? ⟨b, o + j * 12 + 10, none⟩ = some (.int .i64 e.b) ∧ w.cell? ⟨b, o + j * 12 + 11, none⟩ = some (.int .i64 e.c) := by
  obtain ⟨b, o, cs, hA, hB, hN, ⟨A', c', hR, rfl⟩, hl, hc⟩ := h.at j hj
  exact ⟨b, o, xs[j], A', c', hA, hN, rfl, hR, cells12 hc⟩
theorem Row.lenE {B N : Nat} {w : World} {A : Option Addr} {xs : List Ev} (h : Row eEl B N w A xs) : xs.length * 144 ≤ 140737488355328 := h.1
end Go.Proofs.Ytifakbipdmceiaa
end
section
set_option linter.unusedVariables false
namespace Go.Proofs.Ytifakbipdmceiaa
open Go.RowKit

/-! ### a struct of twelve cells, or the five of its value, written at once -/
theorem box_set12 {w : World} {g : Nat} {t : TypeId} {a0 a1 a2 a3 a4 a5 a6 a7 a8 a9 a10 a11 : Value} {b0 b1 b2 b3 b4 b5 b6 b7 b8 b9 b10 b11 : Value} (h : w.heap[g]? = some (.cells #[a0, a1, a2, a3, a4, a5, a6, a7, a8, a9, a10, a11] t (0, 0))) :
    ((((((((((((w.setCell ⟨g, 0, none⟩ b0).setCell ⟨g, 1, none⟩ b1).setCell ⟨g, 2, none⟩ b2).setCell ⟨g, 3, none⟩ b3).setCell ⟨g, 4, none⟩ b4).setCell ⟨g, 5, none⟩ b5).setCell ⟨g, 6, none⟩ b6).setCell ⟨g, 7, none⟩ b7).setCell ⟨g, 8, none⟩ b8).setCell ⟨g, 9, none⟩ b9).setCell ⟨g, 10, none⟩ b10).setCell ⟨g, 11, none⟩ b11).heap[g]? = some (.cells #[b0, b1, b2, b3, b4, b5, b6, b7, b8, b9, b10, b11] t (0, 0)) := by
  have h12 := (box_set (box_set (box_set (box_set (box_set (box_set (box_set (box_set (box_set (box_set (box_set (box_set h 0 b0) 1 b1) 2 b2) 3 b3) 4 b4) 5 b5) 6 b6) 7 b7) 8 b8) 9 b9) 10 b10) 11 b11)
  simpa using h12
theorem box_far12 {w : World} {g g' : Nat} {o : Obj} {b0 b1 b2 b3 b4 b5 b6 b7 b8 b9 b10 b11 : Value} (h : w.heap[g']? = some o) (hne : g' ≠ g) : ((((((((((((w.setCell ⟨g, 0, none⟩ b0).setCell ⟨g, 1, none⟩ b1).setCell ⟨g, 2, none⟩ b2).setCell ⟨g, 3, none⟩ b3).setCell ⟨g, 4, none⟩ b4).setCell ⟨g, 5, none⟩ b5).setCell ⟨g, 6, none⟩ b6).setCell ⟨g, 7, none⟩ b7).setCell ⟨g, 8, none⟩ b8).setCell ⟨g, 9, none⟩ b9).setCell ⟨g, 10, none⟩ b10).setCell ⟨g, 11, none⟩ b11).heap[g']? = some o :=
  (box_far (box_far (box_far (box_far (box_far (box_far (box_far (box_far (box_far (box_far (box_far (box_far h (a := ⟨g, 0, none⟩) hne b0) (a := ⟨g, 1, none⟩) hne b1) (a := ⟨g, 2, none⟩) hne b2) (a := ⟨g, 3, none⟩) hne b3) (a := ⟨g, 4, none⟩) hne b4) (a := ⟨g, 5, none⟩) hne b5) (a := ⟨g, 6, none⟩) hne b6) (a := ⟨g, 7, none⟩) hne b7) (a := ⟨g, 8, none⟩) hne b8) (a := ⟨g, 9, none⟩) hne b9) (a := ⟨g, 10, none⟩) hne b10) (a := ⟨g, 11, none⟩) hne b11)
theorem size12 (w : World) (g : Nat) (b0 b1 b2 b3 b4 b5 b6 b7 b8 b9 b10 b11 : Value) : ((((((((((((w.setCell ⟨g, 0, none⟩ b0).setCell ⟨g, 1, none⟩ b1).setCell ⟨g, 2, none⟩ b2).setCell ⟨g, 3, none⟩ b3).setCell ⟨g, 4, none⟩ b4).setCell ⟨g, 5, none⟩ b5).setCell ⟨g, 6, none⟩ b6).setCell ⟨g, 7, none⟩ b7).setCell ⟨g, 8, none⟩ b8).setCell ⟨g, 9, none⟩ b9).setCell ⟨g, 10, none⟩ b10).setCell ⟨g, 11, none⟩ b11).heap.size = w.heap.size := by simp only [size_set]
theorem _root_.Go.RowKit.Below.set12 {M : Nat} {w0 w : World} {g : Nat} {b0 b1 b2 b3 b4 b5 b6 b7 b8 b9 b10 b11 : Value} (h : Below M w0 w) (hg : M ≤ g) : Below M w0 ((((((((((((w.setCell ⟨g, 0, none⟩ b0).setCell ⟨g, 1, none⟩ b1).setCell ⟨g, 2, none⟩ b2).setCell ⟨g, 3, none⟩ b3).setCell ⟨g, 4, none⟩ b4).setCell ⟨g, 5, none⟩ b5).setCell ⟨g, 6, none⟩ b6).setCell ⟨g, 7, none⟩ b7).setCell ⟨g, 8, none⟩ b8).setCell ⟨g, 9, none⟩ b9).setCell ⟨g, 10, none⟩ b10).setCell ⟨g, 11, none⟩ b11) :=
  (Below.setCell (Below.setCell (Below.setCell (Below.setCell (Below.setCell (Below.setCell (Below.setCell (Below.setCell (Below.setCell (Below.setCell (Below.setCell (Below.setCell h (p := ⟨g, 0, none⟩) hg b0) (p := ⟨g, 1, none⟩) hg b1) (p := ⟨g, 2, none⟩) hg b2) (p := ⟨g, 3, none⟩) hg b3) (p := ⟨g, 4, none⟩) hg b4) (p := ⟨g, 5, none⟩) hg b5) (p := ⟨g, 6, none⟩) hg b6) (p := ⟨g, 7, none⟩) hg b7) (p := ⟨g, 8, none⟩) hg b8) (p := ⟨g, 9, none⟩) hg b9) (p := ⟨g, 10, none⟩) hg b10) (p := ⟨g, 11, none⟩) hg b11)
theorem VOk.set12 {B N : Nat} {w : World} {x : Val} {A : Option Addr} {c g : Nat} {b0 b1 b2 b3 b4 b5 b6 b7 b8 b9 b10 b11 : Value} (h : VOk B N w x A c) (hg : g < B ∨ N ≤ g) : VOk B N ((((((((((((w.setCell ⟨g, 0, none⟩ b0).setCell ⟨g, 1, none⟩ b1).setCell ⟨g, 2, none⟩ b2).setCell ⟨g, 3, none⟩ b3).setCell ⟨g, 4, none⟩ b4).setCell ⟨g, 5, none⟩ b5).setCell ⟨g, 6, none⟩ b6).setCell ⟨g, 7, none⟩ b7).setCell ⟨g, 8, none⟩ b8).setCell ⟨g, 9, none⟩ b9).setCell ⟨g, 10, none⟩ b10).setCell ⟨g, 11, none⟩ b11) x A c :=
  (VOk.set (VOk.set (VOk.set (VOk.set (VOk.set (VOk.set (VOk.set (VOk.set (VOk.set (VOk.set (VOk.set (VOk.set h (a := ⟨g, 0, none⟩) hg b0) (a := ⟨g, 1, none⟩) hg b1) (a := ⟨g, 2, none⟩) hg b2) (a := ⟨g, 3, none⟩) hg b3) (a := ⟨g, 4, none⟩) hg b4) (a := ⟨g, 5, none⟩) hg b5) (a := ⟨g, 6, none⟩) hg b6) (a := ⟨g, 7, none⟩) hg b7) (a := ⟨g, 8, none⟩) hg b8) (a := ⟨g, 9, none⟩) hg b9) (a := ⟨g, 10, none⟩) hg b10) (a := ⟨g, 11, none⟩) hg b11)
theorem box_set5 {w : World} {g : Nat} {t : TypeId} {a0 a1 a2 a3 a4 a5 a6 a7 a8 a9 a10 a11 : Value} {b0 b1 b2 b3 b4 : Value} (h : w.heap[g]? = some (.cells #[a0, a1, a2, a3, a4, a5, a6, a7, a8, a9, a10, a11] t (0, 0))) :
    (((((w.setCell ⟨g, 4, none⟩ b0).setCell ⟨g, 5, none⟩ b1).setCell ⟨g, 6, none⟩ b2).setCell ⟨g, 7, none⟩ b3).setCell ⟨g, 8, none⟩ b4).heap[g]? = some (.cells #[a0, a1, a2, a3, b0, b1, b2, b3, b4, a9, a10, a11] t (0, 0)) := by
  have h5 := (box_set (box_set (box_set (box_set (box_set h 4 b0) 5 b1) 6 b2) 7 b3) 8 b4)
  simpa using h5
theorem box_far5 {w : World} {g g' : Nat} {o : Obj} {b0 b1 b2 b3 b4 : Value} (h : w.heap[g']? = some o) (hne : g' ≠ g) : (((((w.setCell ⟨g, 4, none⟩ b0).setCell ⟨g, 5, none⟩ b1).setCell ⟨g, 6, none⟩ b2).setCell ⟨g, 7, none⟩ b3).setCell ⟨g, 8, none⟩ b4).heap[g']? = some o :=
  (box_far (box_far (box_far (box_far (box_far h (a := ⟨g, 4, none⟩) hne b0) (a := ⟨g, 5, none⟩) hne b1) (a := ⟨g, 6, none⟩) hne b2) (a := ⟨g, 7, none⟩) hne b3) (a := ⟨g, 8, none⟩) hne b4)
theorem size5 (w : World) (g : Nat) (b0 b1 b2 b3 b4 : Value) : (((((w.setCell ⟨g, 4, none⟩ b0).setCell ⟨g, 5, none⟩ b1).setCell ⟨g, 6, none⟩ b2).setCell ⟨g, 7, none⟩ b3).setCell ⟨g, 8, none⟩ b4).heap.size = w.heap.size := by simp only [size_set]
theorem _root_.Go.RowKit.Below.set5 {M : Nat} {w0 w : World} {g : Nat} {b0 b1 b2 b3 b4 : Value} (h : Below M w0 w) (hg : M ≤ g) : Below M w0 (((((w.setCell ⟨g, 4, none⟩ b0).setCell ⟨g, 5, none⟩ b1).setCell ⟨g, 6, none⟩ b2).setCell ⟨g, 7, none⟩ b3).setCell ⟨g, 8, none⟩ b4) :=
  (Below.setCell (Below.setCell (Below.setCell (Below.setCell (Below.setCell h (p := ⟨g, 4, none⟩) hg b0) (p := ⟨g, 5, none⟩) hg b1) (p := ⟨g, 6, none⟩) hg b2) (p := ⟨g, 7, none⟩) hg b3) (p := ⟨g, 8, none⟩) hg b4)
theorem VOk.set5 {B N : Nat} {w : World} {x : Val} {A : Option Addr} {c g : Nat} {b0 b1 b2 b3 b4 : Value} (h : VOk B N w x A c) (hg : g < B ∨ N ≤ g) : VOk B N (((((w.setCell ⟨g, 4, none⟩ b0).setCell ⟨g, 5, none⟩ b1).setCell ⟨g, 6, none⟩ b2).setCell ⟨g, 7, none⟩ b3).setCell ⟨g, 8, none⟩ b4) x A c :=
  (VOk.set (VOk.set (VOk.set (VOk.set (VOk.set h (a := ⟨g, 4, none⟩) hg b0) (a := ⟨g, 5, none⟩) hg b1) (a := ⟨g, 6, none⟩) hg b2) (a := ⟨g, 7, none⟩) hg b3) (a := ⟨g, 8, none⟩) hg b4)
end Go.Proofs.Ytifakbipdmceiaa
end

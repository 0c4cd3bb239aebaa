import Derived.Test.YtifakbipdmceiaaProg
import Derived.Below
import Derived.Deep.Draws
import Derived.Deep.AppendLies
import Derived.Maps.AppendAt
import Derived.OwnWalk
import Derived.Laws.BytesArg
import Derived.Laws.MakeOwn
import Derived.Laws.OwnMore
import Derived.Deep.OwnRows
import Derived.Tactics
import Derived.WalkKit
import Derived.KernelRfl
import Derived.RowKit3
import Derived.Deep.LoopGhost
import Derived.Deep.QuietTactic
import Derived.BigQuiet
import Derived.WideLaws
import Derived.Deep.DeepCutAuto
import Derived.Deep.CutBlock
import Derived.Deep.RegionHeld3
import Derived.Laws.Rows
import Derived.ArgAppend
import Derived.OrdersHeld
import Derived.Lib.Hide
import Derived.Lib.OthersKept
import Derived.WalkSmall
import Derived.Deep.DeepMust
import Derived.Deep.RegionLaw
import Derived.Deep.RegionWith
import Derived.StillTailTactics
import Derived.RegionTactic
import Derived.RowKit
set_option linter.unusedVariables false
namespace Go.Proofs.Ytifakbipdmceiaa
open Go.RowKit

/-- A fact that the walk's simp doesn't look into. -/
structure Q (p : Prop) : Prop where mk :: (out : p)
theorem box_cells {w : World} {g : Nat} {cs : Array Value} {t : TypeId} (h : w.heap[g]? = some (.cells cs t (0, 0))) (i : Nat) : w.cell? ⟨g, i, none⟩ = cs[i]? := by simp [World.cell?, h]
theorem box_free {w : World} {g : Nat} {cs : Array Value} {t : TypeId} (h : w.heap[g]? = some (.cells cs t (0, 0))) (i : Nat) : w.frozen? ⟨g, i, none⟩ = false := by simp [World.frozen?, h]
theorem box_lt {w : World} {g : Nat} {o : Obj} (h : w.heap[g]? = some o) : g < w.heap.size := by
  rcases Nat.lt_or_ge g w.heap.size with hlt | hge
  · exact hlt
  · rw [Array.getElem?_eq_none hge] at h; cases h
theorem box_alloc {w : World} {g : Nat} {x : Obj} (h : w.heap[g]? = some x) (o : Obj) : (w.alloc o).heap[g]? = some x := (Below.heap_alloc w o g (box_lt h)).trans h
theorem box_set {w : World} {g : Nat} {cs : Array Value} {t : TypeId} (h : w.heap[g]? = some (.cells cs t (0, 0))) (i : Nat) (v : Value) : (w.setCell ⟨g, i, none⟩ v).heap[g]? = some (.cells (cs.setIfInBounds i v) t (0, 0)) := heap_setCell_same w g i cs t v h
theorem box_far {w : World} {g : Nat} {x : Obj} (h : w.heap[g]? = some x) {a : Addr} (ha : g ≠ a.block) (v : Value) : (w.setCell a v).heap[g]? = some x := (heap_setCell_other w a g v ha).trans h
theorem box_below {B : Nat} {w w1 : World} {g : Nat} {x : Obj} (h : w.heap[g]? = some x) (hb : Below B w w1) (hg : g < B) : w1.heap[g]? = some x := (hb.block g hg).trans h
theorem _root_.Go.RowKit.Below.box {B : Nat} {w w1 : World} (hb : Below B w w1) {g : Nat} {x : Obj} (h : w.heap[g]? = some x) (hg : g < B) : w1.heap[g]? = some x := (hb.block g hg).trans h
theorem size_set (w : World) (a : Addr) (v : Value) : (w.setCell a v).heap.size = w.heap.size := by simp [World.setCell]
theorem box5 {w : World} {g : Nat} {a b c d e : Value} {t : TypeId} (h : w.heap[g]? = some (.cells #[a, b, c, d, e] t (0, 0))) :
    w.cell? ⟨g, 0, none⟩ = some a ∧ w.cell? ⟨g, 1, none⟩ = some b ∧ w.cell? ⟨g, 2, none⟩ = some c ∧ w.cell? ⟨g, 3, none⟩ = some d ∧ w.cell? ⟨g, 4, none⟩ = some e ∧ ∀ i, w.frozen? ⟨g, i, none⟩ = false :=
  ⟨box_cells h 0, box_cells h 1, box_cells h 2, box_cells h 3, box_cells h 4, box_free h⟩

/-- behind a call: all old cells and marks read as before -/
theorem bcell {W w1 : World} (hb : Below W.heap.size W w1) : (∀ b o, b < W.heap.size → w1.cell? ⟨b, o, none⟩ = W.cell? ⟨b, o, none⟩) ∧ (∀ b o, b < W.heap.size → w1.frozen? ⟨b, o, none⟩ = W.frozen? ⟨b, o, none⟩) ∧ W.heap.size ≤ w1.heap.size :=
  ⟨fun b o h => hb.cell (p := ⟨b, o, none⟩) h, fun b o h => hb.frozen (p := ⟨b, o, none⟩) h, hb.size⟩

theorem max_ints (ats : Array TypeId) (ty : TypeId) (k : IntKind) (x y : Int) : Builtin.max_ ats ty #[.int k x, .int k y] = pure (.int k (max x y)) := by
  simp only [Builtin.max_, List.foldlM_cons, List.foldlM_nil, Builtin.max2, gt_iff_lt]
  have : (if x < y then y else x) = max x y := by omega
  rw [this]
  rfl

/-! ### elements and rows: all that is read lies in blocks from B to below N -/
/-- the blocks from B to below N are as they were -/
def Same (B N : Nat) (w w' : World) : Prop := ∀ b, B ≤ b → b < N → w'.heap[b]? = w.heap[b]?
theorem Same.below {B N M : Nat} {w w1 : World} (hb : Below M w w1) (hM : N ≤ M) : Same B N w w1 := fun b _ hn => hb.block b (by omega)
theorem Same.alloc (B : Nat) {N : Nat} (w : World) (o : Obj) (hN : N ≤ w.heap.size) : Same B N w (w.alloc o) := fun b _ hn => Below.heap_alloc w o b (by omega)
theorem Same.set (B N : Nat) (w : World) {a : Addr} (ha : a.block < B ∨ N ≤ a.block) (v : Value) : Same B N w (w.setCell a v) := fun b _ hn => Below.heap_setCell w a v b (by omega)
theorem Same.grown {B N : Nat} {w w1 : World} {row : Option Nat} (hg : w.grownBy w1 row) (hN : N ≤ w.heap.size) (hr : ∀ g, row = some g → g < B ∨ N ≤ g) : Same B N w w1 :=
  fun b hb hn => hg.block b (by omega) fun e => by have := hr b e.symm; omega
theorem Same.trans {B N : Nat} {a b c : World} (h : Same B N a b) (k : Same B N b c) : Same B N a c := fun i hi hn => (k i hi hn).trans (h i hi hn)
theorem Same.mono {B N B' N' : Nat} {a b : World} (h : Same B N a b) (hB : B ≤ B') (hN : N' ≤ N) : Same B' N' a b := fun i hi hn => h i (by omega) (by omega)

structure El (α : Type) where
  sz : Nat
  by_ : Nat
  R : Nat → Nat → World → α → List Value → Prop
  pos : 0 < sz
  len : ∀ B N w x cs, R B N w x cs → cs.length = sz
  one : ∀ B N w x cs, R B N w x cs → ∀ u ∈ cs, u.oneCell' = true
  loc : ∀ B N w x cs, R B N w x cs → ∀ w', Same B N w w' → R B N w' x cs
  mono : ∀ B N w x cs, R B N w x cs → ∀ B' N', B' ≤ B → N ≤ N' → R B' N' w x cs

def Row {α : Type} (E : El α) (B N : Nat) (w : World) (A : Option Addr) (xs : List α) : Prop :=
  xs.length * E.by_ ≤ 140737488355328 ∧ (xs ≠ [] → ∃ b o, A = some ⟨b, o, none⟩ ∧ B ≤ b ∧ b < N ∧
    ∀ (j : Nat) (x : α), xs[j]? = some x → ∃ cs, E.R B N w x cs ∧ ∀ (i : Nat) (u : Value), cs[i]? = some u → w.cell? ⟨b, o + j * E.sz + i, none⟩ = some u)

theorem Same.cell {B N : Nat} {w w' : World} (h : Same B N w w') {a : Addr} (hB : B ≤ a.block) (hN : a.block < N) : w'.cell? a = w.cell? a := World.cell?_of_block (w := w) (h a.block hB hN)

section
variable {α : Type} {E : El α} {B N : Nat} {w : World} {A : Option Addr} {xs : List α}
theorem Row.loc (h : Row E B N w A xs) {w' : World} (hs : Same B N w w') : Row E B N w' A xs := by
  refine ⟨h.1, fun hne => ?_⟩
  obtain ⟨b, o, hA, hB, hN, hx⟩ := h.2 hne
  refine ⟨b, o, hA, hB, hN, fun j x hj => ?_⟩
  obtain ⟨cs, hR, hc⟩ := hx j x hj
  exact ⟨cs, E.loc _ _ _ _ _ hR w' hs, fun i u hu => (hs.cell (a := ⟨b, _, none⟩) hB hN).trans (hc i u hu)⟩
theorem Row.mono (h : Row E B N w A xs) {B' N' : Nat} (hB' : B' ≤ B) (hN' : N ≤ N') : Row E B' N' w A xs := by
  refine ⟨h.1, fun hne => ?_⟩
  obtain ⟨b, o, hA, hB, hN, hx⟩ := h.2 hne
  refine ⟨b, o, hA, by omega, by omega, fun j x hj => ?_⟩
  obtain ⟨cs, hR, hc⟩ := hx j x hj
  exact ⟨cs, E.mono _ _ _ _ _ hR _ _ hB' hN', hc⟩
theorem Row.below (h : Row E B N w A xs) {M : Nat} {w1 : World} (hb : Below M w w1) (hM : N ≤ M) : Row E B N w1 A xs := h.loc (Same.below hb hM)
theorem Row.alloc (h : Row E B N w A xs) (hN : N ≤ w.heap.size) (o : Obj) : Row E B N (w.alloc o) A xs := h.loc (Same.alloc B w o hN)
theorem Row.set (h : Row E B N w A xs) {a : Addr} (ha : a.block < B ∨ N ≤ a.block) (v : Value) : Row E B N (w.setCell a v) A xs := h.loc (Same.set B N w ha v)
theorem Row.drew (h : Row E B N w A xs) : Row E B N w.drew A xs := h.loc fun _ _ _ => rfl
theorem Row.drewN (h : Row E B N w A xs) (n : Nat) : Row E B N (w.drewN n) A xs := h.loc fun _ _ _ => rfl
theorem Row.nil (E : El α) (B N : Nat) (w : World) (A : Option Addr) : Row E B N w A [] := ⟨by simp, fun h => absurd rfl h⟩
theorem Row.at (h : Row E B N w A xs) (j : Nat) (hj : j < xs.length) :
    ∃ b o cs, A = some ⟨b, o, none⟩ ∧ B ≤ b ∧ b < N ∧ E.R B N w xs[j] cs ∧ cs.length = E.sz ∧ ∀ (i : Nat) (u : Value), cs[i]? = some u → w.cell? ⟨b, o + j * E.sz + i, none⟩ = some u := by
  obtain ⟨b, o, hA, hB, hN, hx⟩ := h.2 (by intro e; rw [e] at hj; simp at hj)
  obtain ⟨cs, hR, hc⟩ := hx j xs[j] (by simp [hj])
  exact ⟨b, o, cs, hA, hB, hN, hR, E.len _ _ _ _ _ hR, hc⟩
end

/-! ### values -/
inductive Val where
  | mk (kind int im : Int) (text : ByteArray) (items : List Val)
def Val.kind : Val → Int | .mk k _ _ _ _ => k
def Val.int : Val → Int | .mk _ n _ _ _ => n
def Val.im : Val → Int | .mk _ _ m _ _ => m
def Val.text : Val → ByteArray | .mk _ _ _ t _ => t
def Val.items : Val → List Val | .mk _ _ _ _ l => l

mutual
def Val.Rd (B N : Nat) (w : World) : Val → List Value → Prop
  | .mk k n m t items, cs => ∃ A c, cs = [.int .i64 k, .int .i64 n, .int .i64 m, .string t, .slice A items.length c] ∧ t.size ≤ 140737488355328 ∧ items.length ≤ c ∧ items.length * 64 ≤ 140737488355328 ∧
      (items ≠ [] → ∃ b o, A = some ⟨b, o, none⟩ ∧ B ≤ b ∧ b < N ∧ Val.Rds B N w b o items)
def Val.Rds (B N : Nat) (w : World) (b : Nat) : Nat → List Val → Prop
  | _, [] => True
  | o, x :: xs => (∃ cs, Val.Rd B N w x cs ∧ ∀ (i : Nat) (u : Value), cs[i]? = some u → w.cell? ⟨b, o + i, none⟩ = some u) ∧ Val.Rds B N w b (o + 5) xs
end

theorem Val.Rd_len {B N : Nat} {w : World} {v : Val} {cs : List Value} (h : Val.Rd B N w v cs) : cs.length = 5 := by
  cases v; obtain ⟨A, c, rfl, _⟩ := h; rfl

mutual
theorem Val.Rd_loc (B N : Nat) (w w' : World) (hs : Same B N w w') : ∀ (v : Val) (cs : List Value), Val.Rd B N w v cs → Val.Rd B N w' v cs
  | .mk k n m t items, cs, h => by
    obtain ⟨A, c, rfl, h0, h1, h2, h3⟩ := h
    refine ⟨A, c, rfl, h0, h1, h2, fun hne => ?_⟩
    obtain ⟨b, o, hA, hB, hN, hr⟩ := h3 hne
    exact ⟨b, o, hA, hB, hN, Val.Rds_loc B N w w' hs b hB hN o items hr⟩
theorem Val.Rds_loc (B N : Nat) (w w' : World) (hs : Same B N w w') (b : Nat) (hB : B ≤ b) (hN : b < N) : ∀ (o : Nat) (xs : List Val), Val.Rds B N w b o xs → Val.Rds B N w' b o xs
  | _, [], _ => trivial
  | o, x :: xs, h => by
    obtain ⟨⟨cs, hR, hc⟩, hr⟩ := h
    exact ⟨⟨cs, Val.Rd_loc B N w w' hs x cs hR, fun i u hu => (hs.cell (a := ⟨b, _, none⟩) hB hN).trans (hc i u hu)⟩, Val.Rds_loc B N w w' hs b hB hN (o + 5) xs hr⟩
end
mutual
theorem Val.Rd_mono (B N B' N' : Nat) (w : World) (hB' : B' ≤ B) (hN' : N ≤ N') : ∀ (v : Val) (cs : List Value), Val.Rd B N w v cs → Val.Rd B' N' w v cs
  | .mk k n m t items, cs, h => by
    obtain ⟨A, c, rfl, h0, h1, h2, h3⟩ := h
    refine ⟨A, c, rfl, h0, h1, h2, fun hne => ?_⟩
    obtain ⟨b, o, hA, hB, hN, hr⟩ := h3 hne
    exact ⟨b, o, hA, by omega, by omega, Val.Rds_mono B N B' N' w hB' hN' b o items hr⟩
theorem Val.Rds_mono (B N B' N' : Nat) (w : World) (hB' : B' ≤ B) (hN' : N ≤ N') (b : Nat) : ∀ (o : Nat) (xs : List Val), Val.Rds B N w b o xs → Val.Rds B' N' w b o xs
  | _, [], _ => trivial
  | o, x :: xs, h => by
    obtain ⟨⟨cs, hR, hc⟩, hr⟩ := h
    exact ⟨⟨cs, Val.Rd_mono B N B' N' w hB' hN' x cs hR, hc⟩, Val.Rds_mono B N B' N' w hB' hN' b (o + 5) xs hr⟩
end

def vEl : El Val where
  sz := 5
  by_ := 64
  R := Val.Rd
  pos := by decide
  len := fun _ _ _ _ _ h => Val.Rd_len h
  one := fun _ _ _ v _ h => by cases v; obtain ⟨A, c, rfl, _⟩ := h; simp [Value.oneCell']
  loc := fun B N w v cs h w' hs => Val.Rd_loc B N w w' hs v cs h
  mono := fun B N w v cs h B' N' hB hN => Val.Rd_mono B N B' N' w hB hN v cs h

theorem Val.Rds_iff (B N : Nat) (w : World) (b : Nat) : ∀ (xs : List Val) (o : Nat), Val.Rds B N w b o xs ↔ ∀ (j : Nat) (x : Val), xs[j]? = some x → ∃ cs, Val.Rd B N w x cs ∧ ∀ (i : Nat) (u : Value), cs[i]? = some u → w.cell? ⟨b, o + j * 5 + i, none⟩ = some u := by
  intro xs
  induction xs with
  | nil => intro o; simp [Val.Rds]
  | cons x xs ih =>
    intro o
    simp only [Val.Rds, ih]
    constructor
    · rintro ⟨h0, h1⟩ j y hj
      cases j with
      | zero => simp at hj; subst hj; simpa using h0
      | succ j =>
        obtain ⟨cs, hR, hc⟩ := h1 j y (by simpa using hj)
        exact ⟨cs, hR, fun i u hu => by have := hc i u hu; rw [show o + (j + 1) * 5 + i = o + 5 + j * 5 + i by omega]; exact this⟩
    · intro h
      refine ⟨by simpa using h 0 x (by simp), fun j y hj => ?_⟩
      obtain ⟨cs, hR, hc⟩ := h (j + 1) y (by simpa using hj)
      exact ⟨cs, hR, fun i u hu => by have := hc i u hu; rw [show o + 5 + j * 5 + i = o + (j + 1) * 5 + i by omega]; exact this⟩

theorem cells5 {w : World} {b o : Nat} {p q r s u : Value} (h : ∀ (i : Nat) (x : Value), [p, q, r, s, u][i]? = some x → w.cell? ⟨b, o + i, none⟩ = some x) :
    w.cell? ⟨b, o, none⟩ = some p ∧ w.cell? ⟨b, o + 1, none⟩ = some q ∧ w.cell? ⟨b, o + 2, none⟩ = some r ∧ w.cell? ⟨b, o + 3, none⟩ = some s ∧ w.cell? ⟨b, o + 4, none⟩ = some u :=
  ⟨h 0 p rfl, h 1 q rfl, h 2 r rfl, h 3 s rfl, h 4 u rfl⟩
theorem Val.Rd_iff (B N : Nat) (w : World) (k n m : Int) (t : ByteArray) (items : List Val) (cs : List Value) :
    Val.Rd B N w (.mk k n m t items) cs ↔ ∃ A c, cs = [.int .i64 k, .int .i64 n, .int .i64 m, .string t, .slice A items.length c] ∧ t.size ≤ 140737488355328 ∧ items.length ≤ c ∧ Row vEl B N w A items := by
  simp only [Val.Rd, Row, Val.Rds_iff, vEl]

/-- An element of a row of values, laid open. -/
theorem Row.atV {B N : Nat} {w : World} {A : Option Addr} {xs : List Val} (h : Row vEl B N w A xs) (j : Nat) (hj : j < xs.length) :
    ∃ (b o : Nat) (k n m : Int) (t : ByteArray) (items : List Val) (A' : Option Addr) (c' : Nat), A = some ⟨b, o, none⟩ ∧ b < N ∧ xs[j] = .mk k n m t items ∧ t.size ≤ 140737488355328 ∧ items.length ≤ c' ∧ Row vEl B N w A' items ∧
      w.cell? ⟨b, o + j * 5, none⟩ = some (.int .i64 k) ∧ w.cell? ⟨b, o + j * 5 + 1, none⟩ = some (.int .i64 n) ∧ w.cell? ⟨b, o + j * 5 + 2, none⟩ = some (.int .i64 m) ∧
      w.cell? ⟨b, o + j * 5 + 3, none⟩ = some (.string t) ∧ w.cell? ⟨b, o + j * 5 + 4, none⟩ = some (.slice A' items.length c') := by
  obtain ⟨b, o, cs, hA, hB, hN, hR, hl, hc⟩ := h.at j hj
  have hR' : Val.Rd B N w xs[j] cs := hR
  cases hx : xs[j] with
  | mk k n m t items =>
    rw [hx, Val.Rd_iff] at hR'
    obtain ⟨A', c', rfl, h0, h1, h2⟩ := hR'
    exact ⟨b, o, k, n, m, t, items, A', c', hA, hN, rfl, h0, h1, h2, cells5 hc⟩

/-! ### rows of the call's own -/
def CellsOf {α : Type} (E : El α) (B N : Nat) (w : World) (xs : List α) (cs : List Value) : Prop :=
  cs.length = xs.length * E.sz ∧ ∀ (j : Nat) (x : α), xs[j]? = some x → E.R B N w x ((cs.drop (j * E.sz)).take E.sz)
theorem CellsOf.nil {α : Type} (E : El α) (B N : Nat) (w : World) : CellsOf E B N w [] [] := ⟨by simp, fun j x h => by simp at h⟩
theorem CellsOf.mono {α : Type} {E : El α} {B N B' N' : Nat} {w : World} {xs : List α} {cs : List Value} (h : CellsOf E B N w xs cs) (hB : B' ≤ B) (hN : N ≤ N') : CellsOf E B' N' w xs cs :=
  ⟨h.1, fun j x hj => E.mono _ _ _ _ _ (h.2 j x hj) _ _ hB hN⟩
theorem CellsOf.snoc {α : Type} {E : El α} {B N : Nat} {w : World} {xs : List α} {cs : List Value} (h : CellsOf E B N w xs cs) {y : α} {ys : List Value} (hy : E.R B N w y ys) : CellsOf E B N w (xs ++ [y]) (cs ++ ys) := by
  have hl := E.len _ _ _ _ _ hy
  refine ⟨by rw [List.length_append, List.length_append, h.1, hl]; simp [Nat.add_mul], fun j x hj => ?_⟩
  rcases Nat.lt_or_ge j xs.length with hlt | hge
  · rw [List.getElem?_append_left hlt] at hj
    have hle : j * E.sz + E.sz ≤ cs.length := by rw [h.1, ← Nat.succ_mul]; exact Nat.mul_le_mul_right _ hlt
    rw [List.drop_append_of_le_length (by omega), List.take_append_of_le_length (by rw [List.length_drop]; omega)]
    exact h.2 j x hj
  · rw [List.getElem?_append_right hge] at hj
    have hj0 : j - xs.length = 0 := by
      rcases Nat.eq_zero_or_pos (j - xs.length) with h0 | h0
      · exact h0
      · rw [List.getElem?_eq_none (by simp; omega)] at hj; cases hj
    have : j = xs.length := by omega
    subst this
    simp at hj
    subst hj
    rw [← h.1, List.drop_left, List.take_of_length_le (by omega)]
    exact hy

/-- v is nil, or begins its own block; all that it leads to lies in blocks from B to below N. -/
def Own {α : Type} (E : El α) (e : TypeId) (B N : Nat) (w : World) (v : Value) (xs : List α) : Prop :=
  N ≤ w.heap.size ∧ xs.length * E.by_ ≤ 140737488355328 ∧ ∃ (cs : List Value) (S : Nat → Prop), w.ownsRow B e E.sz v xs.length cs ∧ (∀ g, v.ownBlock = some g → g < N ∧ ¬ S g) ∧ (∀ b, S b → B ≤ b ∧ b < N) ∧
    ∀ w' : World, (∀ b, S b → w'.heap[b]? = w.heap[b]?) → CellsOf E B N w' xs cs

theorem ownsRow_low {w : World} {B B' : Nat} {e : TypeId} {size : Nat} {v : Value} {n : Nat} {xs : List Value} (h : w.ownsRow B e size v n xs) (hB : B' ≤ B) : w.ownsRow B' e size v n xs := by
  refine ⟨h.1, ?_⟩
  rcases h.2 with h | ⟨g, cap, cur, hv, hb, hr⟩
  · exact .inl h
  · exact .inr ⟨g, cap, cur, hv, by omega, hr⟩
theorem ownsRow_block {w w1 : World} {B : Nat} {e : TypeId} {size : Nat} {v : Value} {n : Nat} {xs : List Value} (h : w.ownsRow B e size v n xs) (hs : ∀ g, v.ownBlock = some g → w1.heap[g]? = w.heap[g]?) : w1.ownsRow B e size v n xs := by
  refine ⟨h.1, ?_⟩
  rcases h.2 with h | ⟨g, cap, cur, hv, hb, hg, hr⟩
  · exact .inl h
  · exact .inr ⟨g, cap, cur, hv, hb, by rw [hs g (by rw [hv]; rfl)]; exact hg, hr⟩

section
variable {α : Type} {E : El α} {e : TypeId} {B N : Nat} {w : World} {v : Value} {xs : List α}
theorem Own.nil (E : El α) (e : TypeId) (B : Nat) (w : World) : Own E e B w.heap.size w (.slice none 0 0) [] :=
  ⟨Nat.le_refl _, by simp, [], fun _ => False, World.ownsRow_nil _ _ _ _, by simp [Value.ownBlock], fun b h => h.elim, fun w' _ => CellsOf.nil E _ _ w'⟩
theorem Own.widen (h : Own E e B N w v xs) {N' : Nat} (hN : N ≤ N') (hs : N' ≤ w.heap.size) : Own E e B N' w v xs := by
  obtain ⟨h0, h1, cs, S, h2, h3, h4, h5⟩ := h
  exact ⟨hs, h1, cs, S, h2, fun g hg => ⟨by have := (h3 g hg).1; omega, (h3 g hg).2⟩, fun b hb => by have := h4 b hb; omega, fun w' hw' => (h5 w' hw').mono (Nat.le_refl _) hN⟩
theorem Own.low (h : Own E e B N w v xs) {B' : Nat} (hB : B' ≤ B) : Own E e B' N w v xs := by
  obtain ⟨h0, h1, cs, S, h2, h3, h4, h5⟩ := h
  exact ⟨h0, h1, cs, S, ownsRow_low h2 hB, h3, fun b hb => by have := h4 b hb; omega, fun w' hw' => (h5 w' hw').mono hB (Nat.le_refl _)⟩
theorem Own.lt (h : Own E e B N w v xs) {g : Nat} (hg : v.ownBlock = some g) : B ≤ g ∧ g < N := by
  obtain ⟨h0, h1, cs, S, h2, h3, h4, h5⟩ := h
  exact ⟨(h2.lt g hg).1, (h3 g hg).1⟩
/-- What lies elsewhere may turn. -/
theorem Own.step (h : Own E e B N w v xs) {w1 : World} (hz : N ≤ w1.heap.size) (hs : Same B N w w1) : Own E e B N w1 v xs := by
  have hlt := fun g hg => h.lt (g := g) hg
  obtain ⟨h0, h1, cs, S, h2, h3, h4, h5⟩ := h
  exact ⟨hz, h1, cs, S, ownsRow_block h2 fun g hg => hs g (hlt g hg).1 (hlt g hg).2, h3, h4, fun w' hw' => h5 w' fun b hb => (hw' b hb).trans (hs b (h4 b hb).1 (h4 b hb).2)⟩
theorem Own.below (h : Own E e B N w v xs) {M : Nat} {w1 : World} (hb : Below M w w1) (hM : N ≤ M) : Own E e B N w1 v xs :=
  h.step (by have := h.1; have := hb.size; omega) (Same.below hb hM)
theorem Own.alloc (h : Own E e B N w v xs) (o : Obj) : Own E e B N (w.alloc o) v xs := h.step (by have := h.1; simp; omega) (Same.alloc B w o h.1)
theorem Own.setCell (h : Own E e B N w v xs) {a : Addr} (ha : a.block < B ∨ N ≤ a.block) (u : Value) : Own E e B N (w.setCell a u) v xs := h.step (by have := h.1; rw [size_set]; omega) (Same.set B N w ha u)
theorem Own.put (h : Own E e B w.heap.size w v xs) {a : Addr} (ha : a.block < B) (u : Value) : Own E e B (w.setCell a u).heap.size (w.setCell a u) v xs := by
  rw [size_set]; exact h.setCell (.inl ha) u
theorem Own.drew (h : Own E e B N w v xs) : Own E e B N w.drew v xs := h
theorem Own.drewN (h : Own E e B N w v xs) (n : Nat) : Own E e B N (w.drewN n) v xs := h

/-- As a row that is read. -/
theorem Own.row (h : Own E e B N w v xs) : ∃ A c, v = .slice A xs.length c ∧ xs.length ≤ c ∧ Row E B N w A xs := by
  have hlt := fun g hg => h.lt (g := g) hg
  obtain ⟨h0, h1, cs, S, h2, h3, h4, h5⟩ := h
  rcases h2.2 with ⟨rfl, h6⟩ | ⟨g, cap, cur, rfl, h6⟩
  · have h8 : xs = [] := List.eq_nil_of_length_eq_zero h6
    subst h8
    exact ⟨none, 0, rfl, by simp, Row.nil E _ _ w none⟩
  · refine ⟨_, cap, rfl, by obtain ⟨_, _, _, h, _⟩ := h6; first | exact h | omega, ⟨h1, fun _ => ⟨g, 0, rfl, (hlt g rfl).1, (hlt g rfl).2, fun j x hj => ?_⟩⟩⟩
    have hc := h5 w fun b hb => rfl
    refine ⟨_, hc.2 j x hj, fun i u hu => ?_⟩
    rw [List.getElem?_take] at hu
    split at hu
    · rename_i hi
      rw [List.getElem?_drop] at hu
      have h9 := h2.cells (g := g) rfl (j * E.sz + i) u hu
      have ha : (⟨g, 0, none⟩ : Addr).add (j * E.sz + i) = ⟨g, 0 + j * E.sz + i, none⟩ := by unfold Addr.add; split <;> simp_all
      rw [ha] at h9
      exact h9
    · cases hu
/-- behind an append: cells and marks of all other blocks -/
theorem Own.rules (h : Own E e B N w v xs) {W w1 : World} (hg : W.grownBy w1 v.ownBlock) :
    (∀ b o, b < B ∨ N ≤ b → b < W.heap.size → w1.cell? ⟨b, o, none⟩ = W.cell? ⟨b, o, none⟩) ∧ (∀ b o, b < B ∨ N ≤ b → b < W.heap.size → w1.frozen? ⟨b, o, none⟩ = W.frozen? ⟨b, o, none⟩) ∧ W.heap.size ≤ w1.heap.size :=
  ⟨fun b o hb hn => hg.cell_far ⟨b, o, none⟩ hn fun e => by have := h.lt (g := b) e.symm; omega, fun b o hb hn => hg.frozen_far ⟨b, o, none⟩ hn fun e => by have := h.lt (g := b) e.symm; omega, hg.size⟩
theorem Own.below_grown (h : Own E e B N w v xs) {M : Nat} {w0 W w1 : World} (hb : Below M w0 W) (hg : W.grownBy w1 v.ownBlock) (hM : M ≤ B) (hs : M ≤ W.heap.size) : Below M w0 w1 :=
  hb.grown hg hs fun g e => by have := h.lt e; omega
theorem Own.block_far (h : Own E e B N w v xs) {W w1 : World} (hg : W.grownBy w1 v.ownBlock) {b : Nat} {x : Obj} (hb : W.heap[b]? = some x) (hne : b < B ∨ N ≤ b) : w1.heap[b]? = some x := by
  rw [← hb]
  exact hg.block b (box_lt hb) fun e => by have := h.lt e.symm; omega
/-- another stretch stays as it is behind an append -/
theorem Own.same_grown (h : Own E e B N w v xs) {W w1 : World} (hg : W.grownBy w1 v.ownBlock) {B' N' : Nat} (hN' : N' ≤ W.heap.size) (hd : N' ≤ B ∨ N ≤ B') : Same B' N' W w1 :=
  Same.grown hg hN' fun g e => by have := h.lt e; omega
end

theorem Val.items_lt {xs : List Val} {j : Nat} (hj : j < xs.length) {k n m : Int} {t : ByteArray} {items : List Val} (h : xs[j] = .mk k n m t items) : SizeOf.sizeOf items < SizeOf.sizeOf xs := by
  have h1 := List.sizeOf_lt_of_mem (List.getElem_mem hj)
  rw [h] at h1
  simp at h1
  omega
/-- A value whose items are a row of the call's own. -/
theorem Own.val {e : TypeId} {B N : Nat} {w : World} {v : Value} {items : List Val} (h : Own vEl e B N w v items) (k n m : Int) {t : ByteArray} (ht : t.size ≤ 140737488355328) : vEl.R B N w (.mk k n m t items) [.int .i64 k, .int .i64 n, .int .i64 m, .string t, v] := by
  obtain ⟨A, c, rfl, hc, hr⟩ := h.row
  exact (Val.Rd_iff B N w k n m t items _).2 ⟨A, c, rfl, ht, hc, hr⟩

section
variable {P : Program} {α : Type}
/-- append of one element that lies in the block H. -/
theorem wp_append1 (w : World) {o : Oper} {a : Act} {K : Act → World → Prop} {Q : Exit → Act → World → Prop} (E : El α) (s x : Operand) (t e : TypeId)
    (ho : o.op = .call { callee := .builtin .append, args := #[s, x], argTypes := #[t, t] }) {z : Value}
    (ht : P.underlying t = some (.slice e)) (hi : (P.info? e).map (fun i => (i.zero, i.size, i.bytes)) = some (some z, E.sz, E.by_)) (hzs : z.cells.size = E.sz)
    {B N B' N' H : Nat} {v : Value} {xs : List α} {y : α} {ycs : Array Value} (B0 : Nat) (hs : a.eval s = v) (hx : a.eval x = .slice (some ⟨H, 0, none⟩) 1 1) (hbox : w.heap[H]? = some (.cells ycs e (0, 0)))
    (HO : Own E e B N w v xs) (hy : E.R B' N' w y ycs.toList) (hd : N ≤ B' ∨ N' ≤ B) (hN' : N' ≤ w.heap.size) (h0 : B0 ≤ B) (h0' : B0 ≤ B') (hB0 : B0 ≤ w.heap.size) (hby : 0 < E.by_) (hl : (xs.length + 1) * E.by_ ≤ 140737488355328)
    (h : ∀ g c w', Own E e B0 w'.heap.size w' (.slice (some ⟨g, 0, none⟩) (xs.length + 1) c) (xs ++ [y]) → w.grownBy w' v.ownBlock → (v.ownBlock = some g ∨ g = w.heap.size) → K (a.put o.dst (.slice (some ⟨g, 0, none⟩) (xs.length + 1) c)) w') :
    o.wp P a w K Q := by
  have hlt := fun g hg => HO.lt (g := g) hg
  obtain ⟨h0_, h1, cs, S, h2, h3, h4, h5⟩ := HO
  obtain ⟨i, hi0, hz0, hz1, hz2⟩ := info_parts hi
  have hyl := E.len _ _ _ _ _ hy
  have hB : B0 ≤ w.heap.size := hB0
  refine wp_append_lies w s x t ho B0 e i z E.sz E.by_ ht hi0 hz0 hz1 hz2 hzs E.pos v xs.length cs hs (ownsRow_low h2 (by omega)) ⟨H, 0, none⟩ 1 1 ycs.toList hx (by simpa using hyl)
    (World.news_of_block hbox) (E.one _ _ _ _ _ hy) (by omega) (by unfold maxLen; have := Nat.le_mul_of_pos_right (xs.length + 1) hby; omega) hl hB w.heap.size rfl ?_
  intro g c w' hown hg hat hgl
  refine h g c w' ⟨Nat.le_refl _, by rw [List.length_append]; simpa using hl, cs ++ ycs.toList, fun b => S b ∨ (B' ≤ b ∧ b < N'), by rw [List.length_append]; exact hown, ?_, ?_, ?_⟩ hg hat
  · intro g' hg'
    obtain rfl : g = g' := by simpa [Value.ownBlock] using hg'
    refine ⟨hgl, ?_⟩
    rcases hat with hat | rfl
    · have := h3 g hat
      have := hlt g hat
      rintro (h6 | h6)
      · exact (h3 g hat).2 h6
      · omega
    · rintro (h6 | h6)
      · have := (h4 _ h6).2; omega
      · omega
  · have := hg.size
    rintro b (hb | hb)
    · have := h4 b hb; omega
    · omega
  · intro w'' hw''
    have key : ∀ b, S b ∨ (B' ≤ b ∧ b < N') → w'.heap[b]? = w.heap[b]? := by
      intro b hb
      refine hg.block b (by rcases hb with hb | hb; have := (h4 b hb).2; omega; omega) fun e => ?_
      have := hlt b e.symm
      rcases hb with hb | hb
      · exact (h3 b e.symm).2 hb
      · omega
    have hz := hg.size
    exact ((h5 w'' fun b hb => (hw'' b (.inl hb)).trans (key b (.inl hb))).mono h0 (by omega)).snoc (E.mono _ _ _ _ _ (E.loc _ _ _ _ _ hy w'' fun b hb hn => (hw'' b (.inr ⟨hb, hn⟩)).trans (key b (.inr ⟨hb, hn⟩))) _ _ h0' (by omega))

theorem wpList_append1 (w : World) {ops : Array Oper} {rest : List Oper} {o : Oper} {a : Act} {Q : Exit → Act → World → Prop} (hgd : o.guard = none) (E : El α) (s x : Operand) (t e : TypeId)
    (ho : o.op = .call { callee := .builtin .append, args := #[s, x], argTypes := #[t, t] }) {z : Value}
    (ht : P.underlying t = some (.slice e)) (hi : (P.info? e).map (fun i => (i.zero, i.size, i.bytes)) = some (some z, E.sz, E.by_)) (hzs : z.cells.size = E.sz)
    {B N B' N' H : Nat} {v : Value} {xs : List α} {y : α} {ycs : Array Value} (B0 : Nat) (hs : a.eval s = v) (hx : a.eval x = .slice (some ⟨H, 0, none⟩) 1 1) (hbox : w.heap[H]? = some (.cells ycs e (0, 0)))
    (HO : Own E e B N w v xs) (hy : E.R B' N' w y ycs.toList) (hd : N ≤ B' ∨ N' ≤ B) (hN' : N' ≤ w.heap.size) (h0 : B0 ≤ B) (h0' : B0 ≤ B') (hB0 : B0 ≤ w.heap.size) (hby : 0 < E.by_) (hl : (xs.length + 1) * E.by_ ≤ 140737488355328)
    (h : ∀ g c w', Own E e B0 w'.heap.size w' (.slice (some ⟨g, 0, none⟩) (xs.length + 1) c) (xs ++ [y]) → w.grownBy w' v.ownBlock → (v.ownBlock = some g ∨ g = w.heap.size) → wpList P ops Q rest (a.put o.dst (.slice (some ⟨g, 0, none⟩) (xs.length + 1) c)) w') :
    wpList P ops Q (o :: rest) a w :=
  wpList_plain hgd fun _ hK => wp_append1 w E s x t e ho ht hi hzs B0 hs hx hbox HO hy hd hN' h0 h0' hB0 hby hl fun g c w' h2 h3 h4 => hK _ _ (h g c w' h2 h3 h4)

theorem step_append1 (w : World) {ops : Array Oper} {o : Oper} {a : Act} {K : Act → World → Prop} {Q : Exit → Act → World → Prop} {F : Prop} (hgd : o.guard = none) (E : El α) (s x : Operand) (t e : TypeId)
    (ho : o.op = .call { callee := .builtin .append, args := #[s, x], argTypes := #[t, t] }) {z : Value}
    (ht : P.underlying t = some (.slice e)) (hi : (P.info? e).map (fun i => (i.zero, i.size, i.bytes)) = some (some z, E.sz, E.by_)) (hzs : z.cells.size = E.sz)
    {B N B' N' H : Nat} {v : Value} {xs : List α} {y : α} {ycs : Array Value} (B0 : Nat) (hs : a.eval s = v) (hx : a.eval x = .slice (some ⟨H, 0, none⟩) 1 1) (hbox : w.heap[H]? = some (.cells ycs e (0, 0)))
    (HO : Own E e B N w v xs) (hy : E.R B' N' w y ycs.toList) (hd : N ≤ B' ∨ N' ≤ B) (hN' : N' ≤ w.heap.size) (h0 : B0 ≤ B) (h0' : B0 ≤ B') (hB0 : B0 ≤ w.heap.size) (hby : 0 < E.by_) (hl : (xs.length + 1) * E.by_ ≤ 140737488355328)
    (h : ∀ g c w', Own E e B0 w'.heap.size w' (.slice (some ⟨g, 0, none⟩) (xs.length + 1) c) (xs ++ [y]) → w.grownBy w' v.ownBlock → (v.ownBlock = some g ∨ g = w.heap.size) → K (a.put o.dst (.slice (some ⟨g, 0, none⟩) (xs.length + 1) c)) w') :
    if Region.wanted o (yielded ops a.tmps) = true then Oper.wp P o a w K Q else F := by
  have hw : Region.wanted o (yielded ops a.tmps) = true := by simp [Region.wanted, hgd]
  rw [if_pos hw]
  exact wp_append1 w E s x t e ho ht hi hzs B0 hs hx hbox HO hy hd hN' h0 h0' hB0 hby hl h
end

end Go.Proofs.Ytifakbipdmceiaa

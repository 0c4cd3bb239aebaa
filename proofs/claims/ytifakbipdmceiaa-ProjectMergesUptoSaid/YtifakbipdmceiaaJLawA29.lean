import Derived.Test.YtifakbipdmceiaaJLawA9
import Derived.RangeFuncFrom
import Derived.RangeFuncCalls
import Derived.RangeFuncLeaves
set_option linter.unusedVariables false
namespace Go.Proofs.Ytifakbipdmceiaa
open Go.RowKit

/-! ### a loop over an iterator that writes blocks of its own between two rounds and hands over what lies in memory -/
/-- The blocks from lo to below hi may turn, new ones may come. -/
structure Turns (lo hi : Nat) (w w' : World) : Prop where
  low : Below 0 w w'
  block : ∀ b, b < w.heap.size → (b < lo ∨ hi ≤ b) → w'.heap[b]? = w.heap[b]?
theorem Turns.refl (lo hi : Nat) (w : World) : Turns lo hi w w := ⟨Below.refl _ _, fun _ _ _ => rfl⟩
theorem Turns.trans {lo hi : Nat} {a b c : World} (h : Turns lo hi a b) (k : Turns lo hi b c) : Turns lo hi a c :=
  ⟨h.low.trans k.low, fun i hi' ho => (k.block i (by have := h.low.size; omega) ho).trans (h.block i hi' ho)⟩
theorem Turns.mono {lo hi lo' hi' : Nat} {a b : World} (h : Turns lo hi a b) (h1 : lo' ≤ lo) (h2 : hi ≤ hi') : Turns lo' hi' a b := ⟨h.low, fun i hi' ho => h.block i hi' (by omega)⟩
theorem Turns.below {lo hi M : Nat} {a b : World} (h : Below M a b) (hM : a.heap.size ≤ M) : Turns lo hi a b := ⟨h.mono (Nat.zero_le _), fun i hi' _ => h.block i (by omega)⟩
theorem Turns.alloc {lo hi : Nat} (w : World) (o : Obj) : Turns lo hi w (w.alloc o) := Turns.below ((Below.refl w.heap.size w).alloc (Nat.le_refl _) o) (Nat.le_refl _)
theorem Turns.drew {lo hi : Nat} (w : World) : Turns lo hi w w.drew := Turns.below (Below.refl w.heap.size w).drew (Nat.le_refl _)
theorem Turns.setCell {lo hi : Nat} (w : World) {a : Addr} (h1 : lo ≤ a.block) (h2 : a.block < hi) (v : Value) : Turns lo hi w (w.setCell a v) :=
  ⟨(Below.refl 0 w).setCell (Nat.zero_le _) v, fun i _ ho => Below.heap_setCell w a v i (by omega)⟩
theorem Turns.putObj {lo hi : Nat} (w : World) {l : Nat} (h1 : lo ≤ l) (h2 : l < hi) (o : Obj) : Turns lo hi w (w.putObj l o) :=
  ⟨(Below.refl 0 w).grown (grownBy_putObj' w l o) (Nat.zero_le _) (fun k e => Nat.zero_le _), fun i _ ho => World.putObj_heap_other (by omega)⟩
theorem Turns.into {lo hi M : Nat} {w0 a b : World} (h : Turns lo hi a b) (hb : Below M w0 a) (hM : M ≤ lo) (hs : M ≤ a.heap.size) : Below M w0 b :=
  hb.trans ⟨h.low.os, h.low.tape, h.low.output, h.low.size, fun i hi' => h.block i (by omega) (by omega)⟩
/-- The blocks of X lie as they lay. -/
structure Kept (X : Nat → Prop) (w w' : World) : Prop where
  low : Below 0 w w'
  same : ∀ b, X b → w'.heap[b]? = w.heap[b]?
theorem Kept.refl (X : Nat → Prop) (w : World) : Kept X w w := ⟨Below.refl _ _, fun _ _ => rfl⟩
theorem Kept.trans {X : Nat → Prop} {a b c : World} (h : Kept X a b) (k : Kept X b c) : Kept X a c := ⟨h.low.trans k.low, fun i hi => (k.same i hi).trans (h.same i hi)⟩
theorem Kept.putObj {X : Nat → Prop} (w : World) {l : Nat} (h : ¬ X l) (o : Obj) : Kept X w (w.putObj l o) :=
  ⟨(Below.refl 0 w).grown (grownBy_putObj' w l o) (Nat.zero_le _) (fun k e => Nat.zero_le _), fun i hi => World.putObj_heap_other (fun e => h (e ▸ hi))⟩
theorem Kept.setCell {X : Nat → Prop} {a w : World} (h : Kept X a w) {p : Addr} (hp : ¬ X p.block) (v : Value) : Kept X a (w.setCell p v) :=
  ⟨h.low.setCell (Nat.zero_le _) v, fun i hi => (Below.heap_setCell w p v i (fun e => hp (e ▸ hi))).trans (h.same i hi)⟩
theorem Kept.below {X : Nat → Prop} {a w w1 : World} {M : Nat} (h : Kept X a w) (hb : Below M w w1) (hX : ∀ b, X b → b < M) : Kept X a w1 :=
  ⟨h.low.trans (hb.mono (Nat.zero_le _)), fun i hi => (hb.block i (hX i hi)).trans (h.same i hi)⟩
theorem Kept.grown {X : Nat → Prop} {a w w1 : World} {row : Option Nat} (h : Kept X a w) (hg : w.grownBy w1 row) (hX : ∀ b, X b → b < w.heap.size ∧ row ≠ some b) : Kept X a w1 :=
  ⟨h.low.grown hg (Nat.zero_le _) (fun k e => Nat.zero_le _), fun i hi => (hg.block i (hX i hi).1 (fun e => (hX i hi).2 e.symm)).trans (h.same i hi)⟩

/-- THE ITERATOR's CONTRACT: c blocks of its own, laid first; X0: what it reads; G x Z W: what is handed over lies beyond Z. -/
def SeqT {α : Type} (P : Program) (g : Nat) (lb : Array Value) (encs : α → Array Value) (X0 : Nat → Prop) (c : Nat) (G : Nat → α → Nat → World → Prop) (S Sp : List α → Prop) (w : World) : Prop :=
  ∀ (l : Nat) (J : List α → Nat → World → Prop) (Jx : List α → World → Prop) (W : World), Below w.heap.size w W →
    (∀ s Z A B, J s Z A → Turns W.heap.size (W.heap.size + c) A B → J s Z B) → (∀ s A B, Jx s A → Turns W.heap.size (W.heap.size + c) A B → Jx s B) →
    (∀ m pre x Z W1, J pre Z W1 → G (W.heap.size + c) x Z W1 → W.heap.size + c ≤ W1.heap.size → YieldAt Fence.wide m P l (encs x) W1 fun e W' =>
      (e = .returned (.bool true) ∧ J (pre ++ [x]) W'.heap.size W' ∧ Kept (fun b => X0 b ∨ (W.heap.size ≤ b ∧ b < W.heap.size + c)) W1 W') ∨ (e = .returned (.bool false) ∧ Jx (pre ++ [x]) W')) →
    J [] (W.heap.size + c) W →
    Calls P g (#[.func (.yield l) #[] #[]] ++ lb) W fun e W' => (∃ v, e = .returned v) ∧ ((∃ xs Z, S xs ∧ J xs Z W') ∨ (∃ pre, Sp pre ∧ Jx pre W'))

def postT {α : Type} (X : Nat → Prop) (I : List α → Nat → World → Prop) (Ix : Code → List α → World → Prop) (xs : List α) (W : World) : Exit → Act → World → Prop
  | .normal, _, W' => Kept X W W' ∧ I xs W'.heap.size W'
  | .ret, _, W' => Kept X W W' ∧ Ix .ret xs W'
  | .exit id, _, W' => Kept X W W' ∧ Ix (.exit id) xs W'
  | .goto t, _, W' => Kept X W W' ∧ Ix (.goto t) xs W'
  | .panic _, _, _ => False
  | .outgrown, _, _ => False

theorem roundWide {m m' : Nat} {P : Program} {l : Nat} {f : FuncId} {tmps : Array Value} {assign body : Code} {w : World} {R : Ending → World → Prop} (h : RoundIn Fence.wide m P l f tmps assign body w R) :
    RoundIn Fence.wide m' P l f tmps assign body w R := ⟨h.1, fun c cs _ => h.2 c cs (room_wide _)⟩
theorem wp_rangeT {P : Program} {α : Type} {g : Operand} {ps : Array Tmp} {assign body : Code} {Q : Exit → Act → World → Prop} {a : Act} {w : World}
    {gf : Nat} {lb : Array Value} (hg : a.eval g = .func (.func gf) #[] lb) (eg : ∀ args w, (callFunc gf args).run P w = .ok (.enter gf args) w)
    {encs : α → Array Value} {X0 : Nat → Prop} {c : Nat} {G : Nat → α → Nat → World → Prop} {S Sp : List α → Prop} {w0 : World} (hseq : SeqT P gf lb encs X0 c G S Sp w0)
    (hG : ∀ hi x Z A B, G hi x Z A → Turns w.heap.size hi A B → A.heap.size = B.heap.size → G hi x Z B) (hb0 : Below w0.heap.size w0 w) (hX0 : ∀ b, X0 b → b < w.heap.size) (hps : ∀ x, (encs x).size = ps.size)
    (I : List α → Nat → World → Prop) (Ix : Code → List α → World → Prop)
    (hI : ∀ s Z A B, I s Z A → Turns w.heap.size (w.heap.size + 2 + c) A B → I s Z B) (hIx : ∀ k s A B, Ix k s A → Turns w.heap.size (w.heap.size + 2 + c) A B → Ix k s B) (h0 : I [] (w.heap.size + 2 + c) w) (a₁ : α → Act)
    (hassign : ∀ (l : Nat) (x : α) (W : World) (K : Act → World → Prop), K (a₁ x) W →
      assign.wpIn (Fence.wide.inRound l) 0 P (Exit.then K (fun _ _ _ => False)) { tmps := (ps.zip (encs x)).foldl (fun t (p, v) => t.setIfInBounds p v) a.tmps, defers := [] } W)
    (hbody : ∀ (l : Nat) (pre : List α) (x : α) (Z : Nat) (W : World), I pre Z W → G (w.heap.size + 2 + c) x Z W → w.heap.size + 2 + c ≤ W.heap.size →
      body.wpIn (Fence.wide.inRound l) 0 P (postT (fun b => X0 b ∨ (w.heap.size ≤ b ∧ b < w.heap.size + 2 + c)) I Ix (pre ++ [x]) W) (a₁ x) W)
    (hdone : ∀ (xs : List α) (Z : Nat) (W : World), S xs → I xs Z W → W.heap[w.heap.size]? = some (.deferred (some [])) → Q .normal { a with defers := { target := .collected w.heap.size, args := #[] } :: a.defers } W)
    (hstop : ∀ (k : Code) (pre : List α) (W : World), Sp pre → Ix k pre W → W.heap[w.heap.size]? = some (.deferred (some [])) → k.wpIn Fence.wide 0 P Q { a with defers := { target := .collected w.heap.size, args := #[] } :: a.defers } W) :
    (Code.rangeFunc g ps assign body).wp P Q a w := by
  refine (wpIn_wide (n := 0)).1 ?_
  refine wpIn_rangeFunc ?_
  intro fn hfn
  show ∃ l mark w₁ d w₁' f args w₂, (Instr.enterLoop fn a.tmps ps assign body none).run P w = .ok (l, mark) w₁ ∧ _
  obtain ⟨rec, hrec⟩ : ∃ rec : LoopState → Option Code → Loop, rec = fun st pe => { state := st, pending := pe, fn, tmps := a.tmps, params := ps, assign, body, defers := w.heap.size } := ⟨_, rfl⟩
  obtain ⟨W1, hW1⟩ : ∃ W1, (w.alloc (.deferred (some []))).alloc (.loop (rec .ready none)) = W1 := ⟨_, rfl⟩
  have hL1 : W1.heap[w.heap.size + 1]? = some (.loop (rec .ready none)) := by
    rw [← hW1]; have := World.alloc_heap_new (w.alloc (.deferred (some []))) (.loop (rec .ready none)); rwa [World.size_alloc] at this
  have hK1 : W1.heap[w.heap.size]? = some (.deferred (some [])) := by
    rw [← hW1]; exact (Below.heap_alloc _ _ _ (by simp)).trans (World.alloc_heap_new w _)
  have hz1 : W1.heap.size = w.heap.size + 2 := by rw [← hW1]; simp
  have hI1 : I [] (w.heap.size + 2 + c) W1 := by rw [← hW1]; exact hI _ _ _ _ h0 ((Turns.alloc _ _).trans (Turns.alloc _ _))
  have hb1 : Below w0.heap.size w0 W1 := by
    rw [← hW1]; exact hb0.trans ((((Below.refl _ w).alloc (Nat.le_refl _) _).alloc (by simp) _).mono hb0.size)
  have hXl : ∀ b, (X0 b ∨ (w.heap.size + 2 ≤ b ∧ b < w.heap.size + 2 + c)) → b ≠ w.heap.size + 1 := by
    rintro b (hb | hb)
    · have := hX0 b hb; omega
    · omega
  refine ⟨w.heap.size + 1, [{ target := .collected w.heap.size, args := #[] }], W1, { target := .fn (.func gf) lb, args := #[.func (.yield (w.heap.size + 1)) #[] #[]] }, W1, gf,
    #[.func (.yield (w.heap.size + 1)) #[] #[]] ++ lb, W1, ?_, ?_, ?_, ?_, (fun h => (by cases h)), ?_⟩
  · rw [← hW1, hrec]; exact run_enterLoop_outer _ _ _ _ _
  · simp only [resolve, hg]
    simp [go_sem]
  · intro f' hf'; trivial
  · simp [invoke, go_sem, eg]
  · refine callsIn_wide.2 ((hseq (w.heap.size + 1)
      (fun pre Z W => I pre Z W ∧ W.heap[w.heap.size + 1]? = some (.loop (rec .ready none)) ∧ W.heap[w.heap.size]? = some (.deferred (some [])))
      (fun pre W => ∃ k, Ix k pre W ∧ W.heap[w.heap.size + 1]? = some (.loop (rec .done (some k))) ∧ W.heap[w.heap.size]? = some (.deferred (some [])))
      W1 hb1 ?_ ?_ ?_ ?_).mono ?_)
    · rw [hz1]
      rintro s Z A B ⟨h1, h2, h3⟩ ht
      exact ⟨hI _ _ _ _ h1 (ht.mono (by omega) (Nat.le_refl _)), (ht.block _ (box_lt h2) (by omega)).trans h2, (ht.block _ (box_lt h3) (by omega)).trans h3⟩
    · rw [hz1]
      rintro s A B ⟨k, h1, h2, h3⟩ ht
      exact ⟨k, hIx _ _ _ _ h1 (ht.mono (by omega) (Nat.le_refl _)), (ht.block _ (box_lt h2) (by omega)).trans h2, (ht.block _ (box_lt h3) (by omega)).trans h3⟩
    · rw [hz1]
      rintro m pre x Z W ⟨hi, hl, hk⟩ hgx hsz
      have hy := run_yield (P := P) (args := encs x) hl (by rw [hrec]; exact hps x)
      rw [hrec] at hy
      have hlt : w.heap.size + 1 < W.heap.size := box_lt hl
      refine ⟨fn, _, assign, body, hy, roundWide (m := 0) (roundIn_of_wpIn hfn (hassign _ x W _ ⟨_, run_beginRound hl (by rw [hrec]), ?_⟩))⟩
      have hl2 : (W.putObj (w.heap.size + 1) (.loop { rec .ready none with state := .busy })).heap[w.heap.size + 1]? = some (.loop { rec .ready none with state := .busy }) := World.putObj_heap_same hlt
      have hk2 : (W.putObj (w.heap.size + 1) (.loop { rec .ready none with state := .busy })).heap[w.heap.size]? = some (.deferred (some [])) := (World.putObj_heap_other (by omega)).trans hk
      have hw2 : Kept (fun b => X0 b ∨ (w.heap.size + 2 ≤ b ∧ b < w.heap.size + 2 + c)) W (W.putObj (w.heap.size + 1) (.loop { rec .ready none with state := .busy })) := Kept.putObj W (fun h => hXl _ h rfl) _
      refine wpIn_mono (hbody _ pre x Z _ (hI _ _ _ _ hi (Turns.putObj W (by omega) (by omega) _)) (hG _ _ _ _ _ hgx (Turns.putObj W (by omega) (by omega) _) (by simp)) (by simpa using hsz)) ?_
      have fin : ∀ (jump : Option Code) (W3 : World), Kept (fun b => X0 b ∨ (w.heap.size ≤ b ∧ b < w.heap.size + 2 + c)) (W.putObj (w.heap.size + 1) (.loop { rec .ready none with state := .busy })) W3 →
          (Instr.endRound (w.heap.size + 1) jump).run P W3 = .ok (.bool jump.isNone) (W3.putObj (w.heap.size + 1) (.loop (rec (if jump.isNone then .ready else .done) jump))) ∧
          (W3.putObj (w.heap.size + 1) (.loop (rec (if jump.isNone then .ready else .done) jump))).heap[w.heap.size + 1]? = some (.loop (rec (if jump.isNone then .ready else .done) jump)) ∧
          (W3.putObj (w.heap.size + 1) (.loop (rec (if jump.isNone then .ready else .done) jump))).heap[w.heap.size]? = some (.deferred (some [])) := fun jump W3 hk3 => by
        have hl3 := (hk3.same (w.heap.size + 1) (.inr ⟨by omega, by omega⟩)).trans hl2
        have hd3 := (hk3.same w.heap.size (.inr ⟨by omega, by omega⟩)).trans hk2
        have := run_endRound (P := P) jump hl3
        rw [hrec] at this ⊢
        exact ⟨this, World.putObj_heap_same (box_lt hl3), (World.putObj_heap_other (by omega)).trans hd3⟩
      rintro e a3 W3 hp
      cases e with
      | normal =>
        obtain ⟨hk3, hi3⟩ := hp
        obtain ⟨hr, hl4, hk4⟩ := fin none W3 hk3
        refine ⟨_, _, hr, .inl ⟨rfl, ⟨?_, hl4, hk4⟩, (hw2.trans ⟨hk3.low, fun b hb => hk3.same b (by rcases hb with hb | hb; exact .inl hb; exact .inr ⟨by omega, by omega⟩)⟩).trans (Kept.putObj W3 (fun h => hXl _ h rfl) _)⟩⟩
        rw [World.putObj_size]
        exact hI _ _ _ _ hi3 (Turns.putObj W3 (by omega) (by omega) _)
      | ret =>
        obtain ⟨hk3, hi3⟩ := hp
        obtain ⟨hr, hl4, hk4⟩ := fin (some .ret) W3 hk3
        exact ⟨_, _, hr, .inr ⟨rfl, .ret, hIx _ _ _ _ hi3 (Turns.putObj W3 (by omega) (by omega) _), hl4, hk4⟩⟩
      | exit id =>
        obtain ⟨hk3, hi3⟩ := hp
        obtain ⟨hr, hl4, hk4⟩ := fin (some (.exit id)) W3 hk3
        exact ⟨_, _, hr, .inr ⟨rfl, .exit id, hIx _ _ _ _ hi3 (Turns.putObj W3 (by omega) (by omega) _), hl4, hk4⟩⟩
      | goto t =>
        obtain ⟨hk3, hi3⟩ := hp
        obtain ⟨hr, hl4, hk4⟩ := fin (some (.goto t)) W3 hk3
        exact ⟨_, _, hr, .inr ⟨rfl, .goto t, hIx _ _ _ _ hi3 (Turns.putObj W3 (by omega) (by omega) _), hl4, hk4⟩⟩
      | panic ch => exact hp.elim
      | outgrown => exact hp.elim
    · rw [hz1]
      exact ⟨hI1, hL1, hK1⟩
    · rintro e W2 ⟨⟨v, rfl⟩, (⟨xs, Z, hS, hi, hl, hk⟩ | ⟨pre, hSp, k, hi, hl, hk⟩)⟩
      · exact ⟨none, _, by have := run_endLoop (P := P) hl (by rw [hrec]; simp); rw [hrec] at this; exact this, hdone xs Z _ hS (hI _ _ _ _ hi (Turns.putObj W2 (by omega) (by omega) _)) ((World.putObj_heap_other (by omega)).trans hk)⟩
      · exact ⟨some k, _, by have := run_endLoop (P := P) hl (by rw [hrec]; simp); rw [hrec] at this; exact this, hstop k pre _ hSp (hIx _ _ _ _ hi (Turns.putObj W2 (by omega) (by omega) _)) ((World.putObj_heap_other (by omega)).trans hk)⟩
end Go.Proofs.Ytifakbipdmceiaa

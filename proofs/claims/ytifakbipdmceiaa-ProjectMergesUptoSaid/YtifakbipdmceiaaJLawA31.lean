import Derived.Test.YtifakbipdmceiaaJLawA30
import Derived.RangeFuncBound
import Derived.Shelf.RegionOpen
import Derived.OwnWalkIn
import Derived.TacticsInMore
import Derived.LoopNIn
import Derived.LoopIn
set_option linter.unusedVariables false
set_option linter.unusedSimpArgs false
namespace Go.Proofs.Ytifakbipdmceiaa
open Go.RowKit
attribute [local go_sem] Oper.semAt_some

/-- Where the recursion stands: the boxes, the row's header (n elements), what stands in the buffer first (p). -/
structure DSt (x y : List Ev) (Ax Ay : Option Addr) (cx cy bx bY ba K1 K2 L l n : Nat) (p : List Ev) (W : World) : Prop where
  hx : W.heap[bx]? = some (.cells #[.slice Ax x.length cx] 22 (0, 0))
  hy : W.heap[bY]? = some (.cells #[.slice Ay y.length cy] 22 (0, 0))
  ha : W.heap[ba]? = some (.cells #[.func (.func 88) #[] #[]] 95 (0, 0))
  hY : W.heap[L]? = some (.cells #[.func (.yield l) #[] #[]] 53 (0, 0))
  hR : W.heap[L + 2]? = some (.cells #[.slice (some ⟨L + 1, 0, none⟩) n (x.length + y.length)] 22 (0, 0))
  hD : W.heap[L + 3]? = some (.cells #[.func (.func 90) #[] #[.pointer (some ⟨bx, 0, none⟩), .pointer (some ⟨bY, 0, none⟩), .pointer (some ⟨L, 0, none⟩), .pointer (some ⟨L + 2, 0, none⟩), .pointer (some ⟨ba, 0, none⟩), .pointer (some ⟨L + 3, 0, none⟩)]] 117 (0, 0))
  rx : Row eEl K1 K2 W Ax x
  ry : Row eEl K1 K2 W Ay y
  buf : BufOk K1 K2 L (x.length + y.length) p W
structure DFix (x y : List Ev) (cx cy bx bY ba K1 K2 L : Nat) : Prop where
  bx : K1 ≤ bx ∧ bx < K2
  bY : K1 ≤ bY ∧ bY < K2
  ba : K1 ≤ ba ∧ ba < K2
  K : K2 ≤ L
  cx : x.length ≤ cx
  cy : y.length ≤ cy
  len : (x.length + y.length) * 144 ≤ 140737488355328
section
variable {x y : List Ev} {Ax Ay : Option Addr} {cx cy bx bY ba K1 K2 L l n : Nat} {p : List Ev} {W W' : World}
theorem DSt.loc (h : DSt x y Ax Ay cx cy bx bY ba K1 K2 L l n p W) (F : DFix x y cx cy bx bY ba K1 K2 L) (hs : ∀ b, ((K1 ≤ b ∧ b < K2) ∨ (L ≤ b ∧ b < L + 4)) → W'.heap[b]? = W.heap[b]?) : DSt x y Ax Ay cx cy bx bY ba K1 K2 L l n p W' :=
  ⟨(hs _ (.inl F.bx)).trans h.hx, (hs _ (.inl F.bY)).trans h.hy, (hs _ (.inl F.ba)).trans h.ha, (hs _ (.inr ⟨by omega, by omega⟩)).trans h.hY, (hs _ (.inr ⟨by omega, by omega⟩)).trans h.hR, (hs _ (.inr ⟨by omega, by omega⟩)).trans h.hD,
    h.rx.loc fun b h1 h2 => hs b (.inl ⟨h1, h2⟩), h.ry.loc fun b h1 h2 => hs b (.inl ⟨h1, h2⟩), h.buf.loc (hs _ (.inr ⟨by omega, by omega⟩)) fun b h1 h2 => hs b (.inl ⟨h1, h2⟩)⟩
theorem DSt.size (h : DSt x y Ax Ay cx cy bx bY ba K1 K2 L l n p W) : L + 4 ≤ W.heap.size := by have := box_lt h.hD; omega
end
abbrev VR := Value × List Ev
def GR (hi : Nat) (x : VR) (Z : Nat) (W : World) : Prop := ∃ B N, Z ≤ B ∧ hi ≤ B ∧ Own eEl 37 B N W x.1 x.2
abbrev XR (K1 K2 L : Nat) (b : Nat) : Prop := (K1 ≤ b ∧ b < K2) ∨ (L ≤ b ∧ b < L + 4)
def endT (J : List VR → Nat → World → Prop) (Jx : List VR → World → Prop) (X : Nat → Prop) (pre : List VR) (x : VR) (W1 : World) (b : Bool) (W' : World) : Prop :=
  (b = true ∧ J (pre ++ [x]) W'.heap.size W' ∧ Kept X W1 W') ∨ (b = false ∧ Jx (pre ++ [x]) W')
def YieldsR (l K1 K2 L : Nat) (J : List VR → Nat → World → Prop) (Jx : List VR → World → Prop) : Prop :=
  ∀ m pre x Z W1, J pre Z W1 → GR (L + 4) x Z W1 → L + 4 ≤ W1.heap.size → YieldAt Fence.wide m Try.prog l #[x.1] W1 fun e W' =>
    (e = .returned (.bool true) ∧ J (pre ++ [x]) W'.heap.size W' ∧ Kept (XR K1 K2 L) W1 W') ∨ (e = .returned (.bool false) ∧ Jx (pre ++ [x]) W')
theorem YieldsR.at {l K1 K2 L : Nat} {J : List VR → Nat → World → Prop} {Jx : List VR → World → Prop} (h : YieldsR l K1 K2 L J Jx) (m : Nat) (pre : List VR) (v : Value) (p : List Ev) (Z : Nat) (W1 : World) (h1 : J pre Z W1) (h2 : GR (L + 4) (v, p) Z W1) (h3 : L + 4 ≤ W1.heap.size) :
    YieldAt Fence.wide m Try.prog l #[v] W1 fun e W' => ∃ b, e = .returned (.bool b) ∧ endT J Jx (XR K1 K2 L) pre (v, p) W1 b W' :=
  YieldAt.mono (h m pre (v, p) Z W1 h1 h2 h3) fun e W' h => h.elim (fun ⟨a, b, c⟩ => ⟨true, a, .inl ⟨rfl, b, c⟩⟩) (fun ⟨a, b⟩ => ⟨false, a, .inr ⟨rfl, b⟩⟩)

set_option maxHeartbeats 1000000 in
set_option maxRecDepth 100000 in
theorem down_leaf (x y : List Ev) (Ax Ay : Option Addr) (cx cy bx bY ba K1 K2 L l : Nat) (p : List Ev) (J : List VR → Nat → World → Prop) (Jx : List VR → World → Prop) (F : DFix x y cx cy bx bY ba K1 K2 L)
    (hY0 : YieldsR l K1 K2 L J Jx) (hJ : ∀ s Z A B, J s Z A → Turns L (L + 4) A B → J s Z B) (pre : List VR) (Z : Nat) (W : World) (hp : p.length = x.length + y.length) (hS0 : DSt x y Ax Ay cx cy bx bY ba K1 K2 L l p.length p W) (h0 : J pre Z W) (hZ : Z ≤ W.heap.size) :
    Calls Try.prog 90 #[.int .i64 x.length, .int .i64 y.length, .pointer (some ⟨bx, 0, none⟩), .pointer (some ⟨bY, 0, none⟩), .pointer (some ⟨L, 0, none⟩), .pointer (some ⟨L + 2, 0, none⟩), .pointer (some ⟨ba, 0, none⟩), .pointer (some ⟨L + 3, 0, none⟩)] W fun e W' =>
      ∃ v b W1, e = .returned (.bool b) ∧ Below W.heap.size W W1 ∧ endT J Jx (XR K1 K2 L) pre (v, p) W1 b W' := by
  have HY := Q.mk hY0
  have HJ := Q.mk hJ
  have H0 := Q.mk h0
  have hS := Q.mk hS0
  have hF := Q.mk F
  have hz := hS0.size
  have lx := F.len
  have hp1 : p.length ≤ x.length + y.length := by omega
  replace hp := Q.mk hp
  have e1 : (x.length == x.length) = true := by simp
  have e2 : (y.length == y.length) = true := by simp
  have c1 := box_cells hS0.hx 0
  have c2 := box_cells hS0.hy 0
  have c3 := box_cells hS0.ha 0
  have c4 := box_cells hS0.hY 0
  have c5 := box_cells hS0.hR 0
  clear hY0 hJ h0 hS0 F
  go_enter Try.func90, Try.ntmps90
  go_wp2
  have C1 : ∀ n', CallsIn Fence.wide n' Try.prog 65 #[.slice (some ⟨L + 1, 0, none⟩) p.length (x.length + y.length), .func (.func 88) #[] #[]] W.drew fun e w1 => ∃ v fn tmps assign body, e = .returned v ∧ Below W.heap.size W w1 ∧
      (Instr.yield l #[v]).run Try.prog w1 = .ok (.round l fn tmps assign body) w1 ∧ Q (∀ m, RoundIn Fence.wide m Try.prog l fn tmps assign body w1 fun e W' => ∃ b, e = .returned (.bool b) ∧ endT J Jx (XR K1 K2 L) pre (v, p) w1 b W') := by
    intro n'
    refine (callsIn_wide.2 (those_e p (some ⟨L + 1, 0, none⟩) (x.length + y.length) 0 (L + 2) _ (fun _ => true) (hS.out.buf.row (by omega) hF.out.K).drew (by simp; omega) (by omega) (fun j w1 _ _ => Merges1_any j w1))).mono ?_
    rintro e w1 ⟨v, rfl, ho, hb⟩
    rw [keepP_true] at ho
    obtain ⟨fn, tmps, assign, body, hy, hR⟩ := HY.out.at 0 pre v p Z w1 (HJ.out _ _ _ _ H0.out ((Turns.drew _).trans (Turns.below hb (Nat.le_refl _)))) ⟨_, _, hZ, hz, ho⟩ (by have := hb.size; simp at this; omega)
    exact ⟨v, fn, tmps, assign, body, rfl, ((Below.refl _ _).drew).trans hb, hy, ⟨fun m => roundWide hR⟩⟩
  replace C1 := Q.mk C1
  have hL0 : L < W.heap.size := by omega
  refine (wpIn_wide (n := 0)).1 ?_
  gi_region_with (first
    | (refine ⟨trivial, rfl, ?_⟩; gi_at_call 65; refine (C1.out _).mono ?_; rintro e w1 ⟨v, fn, tmps, assign, body, rfl, hb, hy, hR⟩; obtain ⟨hcc, hff, hsz⟩ := bcell hb)
    | (refine ⟨rfl, ?_⟩; refine (hR.out _).mono ?_; rintro e W2 ⟨bb, rfl, hend⟩))
  all_goals go_wp2
  all_goals go_ret
  all_goals exact ⟨_, _, _, rfl, hb, hend⟩
end Go.Proofs.Ytifakbipdmceiaa

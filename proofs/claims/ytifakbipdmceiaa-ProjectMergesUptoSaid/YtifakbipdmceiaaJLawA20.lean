import Derived.Test.YtifakbipdmceiaaJLawA19
import Derived.Test.YtifakbipdmceiaaJLawA17
set_option linter.unusedVariables false
set_option linter.unusedSimpArgs false
namespace Go.Proofs.Ytifakbipdmceiaa
open Go.RowKit Go.Maps Go.WideMaps

abbrev Sp := ByteArray → Int → Option (Int × Int)
abbrev CK := ByteArray × Int
/-- c precedes d in the first, and not in the second. -/
def viol (f g : Sp) (c d : CK) : Prop := ∃ p q, f c.1 c.2 = some p ∧ f d.1 d.2 = some q ∧ 0 ≤ p.2 ∧ p.2 < q.1 ∧ (((g c.1 c.2).getD (0, 0)).2 < 0 ∨ ((g d.1 d.2).getD (0, 0)).1 ≤ ((g c.1 c.2).getD (0, 0)).2)
def noViol (f g : Sp) : Prop := ∀ c d, ¬ viol f g c d
noncomputable def keepsB (f g : Sp) : Bool := @decide (noViol f g) (Classical.propDecidable _)
theorem keepsB_true {f g : Sp} (h : noViol f g) : keepsB f g = true := by simp [keepsB, h]
theorem keepsB_false {f g : Sp} {c d : CK} (h : viol f g c d) : keepsB f g = false := by
  have : ¬ noViol f g := fun h2 => h2 c d h
  simp [keepsB, this]
/-- Of all that has come no pair is one. -/
def doneO (f g : Sp) (left : Lit → Bool) : Prop := ∀ c : CK, vC c.1 c.2 → left (ck c.1 c.2) = false → ∀ d, ¬ viol f g c d
def doneI (f g : Sp) (c : CK) (left : Lit → Bool) : Prop := ∀ d : CK, vC d.1 d.2 → left (ck d.1 d.2) = false → ¬ viol f g c d
theorem strike_of {left : Lit → Bool} {c x : CK} (h : (left (ck c.1 c.2) && !(ck c.1 c.2).sameKey (ck x.1 x.2)) = false) (hc : vC c.1 c.2) (hx : vC x.1 x.2) : left (ck c.1 c.2) = false ∨ c = x := by
  cases h1 : left (ck c.1 c.2)
  · exact .inl rfl
  · rw [h1] at h
    right
    have h2 : (ck c.1 c.2).sameKey (ck x.1 x.2) = true := by simpa using h
    have h3 := ck_inj hc hx (WideAt.sameKey_eq h2)
    exact Prod.ext h3.1 h3.2
theorem doneI.step {f g : Sp} {c x : CK} {left : Lit → Bool} (h : doneI f g c left) (hx : vC x.1 x.2) (hn : ¬ viol f g c x) : doneI f g c (fun z => left z && !z.sameKey (ck x.1 x.2)) := fun d hd hl => by
  rcases strike_of hl hd hx with h1 | rfl
  · exact h d hd h1
  · exact hn
theorem doneO.step {f g : Sp} {x : CK} {left : Lit → Bool} (h : doneO f g left) (hx : vC x.1 x.2) (hn : ∀ d, ¬ viol f g x d) : doneO f g (fun z => left z && !z.sameKey (ck x.1 x.2)) := fun d hd hl => by
  rcases strike_of hl hd hx with h1 | rfl
  · exact h d hd h1
  · exact hn
theorem SaysC.start {D : DataW Unit} {f : Sp} (h : SaysC D f) (g : Sp) (c : CK) : doneI f g c (Maps.has D) := fun d hd hl => by
  rintro ⟨p, q, _, hq, _⟩
  rw [h.has _ _ hd, hq] at hl
  cases hl
theorem SaysC.startO {D : DataW Unit} {f : Sp} (h : SaysC D f) (g : Sp) : doneO f g (Maps.has D) := fun d hd hl => by
  rintro e ⟨p, q, hp, _⟩
  rw [h.has _ _ hd, hp] at hl
  cases hl
theorem doneI.all {f g : Sp} {c : CK} {left : Lit → Bool} (h : doneI f g c left) (hl : ∀ kl, left kl = false) (hv : ∀ d : CK, (f d.1 d.2).isSome = true → vC d.1 d.2) (d : CK) : ¬ viol f g c d := fun hd => by
  obtain ⟨p, q, hp, hq, h3⟩ := hd
  exact h d (hv d (by rw [hq]; rfl)) (hl _) ⟨p, q, hp, hq, h3⟩
theorem doneO.all {f g : Sp} {left : Lit → Bool} (h : doneO f g left) (hl : ∀ kl, left kl = false) (hv : ∀ d : CK, (f d.1 d.2).isSome = true → vC d.1 d.2) : noViol f g := fun c d hd => by
  obtain ⟨p, q, hp, hq, h3⟩ := hd
  exact h c (hv c (by rw [hp]; rfl)) (hl _) d ⟨p, q, hp, hq, h3⟩
theorem spansP_valid {l : List Ev} {B0 N0 : Nat} {w : World} {A : Option Addr} (h : Row eEl B0 N0 w A l) (d : CK) (hd : (spansP l d.1 d.2).isSome = true) : vC d.1 d.2 := by
  have hlen := h.lenE
  have key : ∀ k, k ≤ l.length → (spanF l k d.1 d.2).isSome = true → vC d.1 d.2 := by
    intro k
    induction k with
    | zero => intro _ h2; cases h2
    | succ k ih =>
      intro hk h2
      rw [spanF, show l[k]? = some l[k] by simp] at h2
      simp only at h2
      split at h2
      · rename_i h3
        obtain ⟨b, o, cs, _, _, _, ⟨A', c', hR, _⟩, _⟩ := h.at k (by omega)
        have := nInv_le l l[k].p k
        have hp := hR.p
        rw [h3.2.1, h3.2.2]
        exact ⟨by unfold maxLen; omega, WalkArith.wf_i64 (by omega)⟩
      · exact ih (by omega) h2
  exact key _ (Nat.le_refl _) hd

/-- The step of a range over such a map. -/
theorem wpList_nextC (w : World) {ops : Array Oper} {rest : List Oper} {o : Oper} {a : Act} {Q : Exit → Act → World → Prop} (hg : o.guard = none) (it : Operand) (hop : o.op = Op.next it false) (b r n : Nat) (D : DataW Unit) (f : Sp) (left : Lit → Bool) (cnt : Nat)
    (hit : a.eval it = .pointer (some ⟨r, 0, none⟩)) (hS : SaysC D f) (h : w.ranges Try.prog 111 Rs b r n D left cnt)
    (hDone : (∀ kl, left kl = false) → wpList Try.prog ops Q rest (a.put o.dst (.tuple #[.bool false])) w)
    (hMore : ∀ (x : CK) (c : Int × Int) (w' : World) (cnt' : Nat), vC x.1 x.2 → left (ck x.1 x.2) = true → f x.1 x.2 = some c → w'.ranges Try.prog 111 Rs b r n D (fun z => left z && !z.sameKey (ck x.1 x.2)) cnt' → cnt' < cnt →
      w.grownBy w' (some r) → w'.heap.size = w.heap.size → (Instr.entry (.pointer (some ⟨r, 0, none⟩))).run Try.prog w' = .ok (.tuple #[.agg #[.string x.1, .int .i64 x.2], .agg #[.int .i64 c.1, .int .i64 c.2]]) w' →
      wpList Try.prog ops Q rest (a.put o.dst (.tuple #[.bool true, .agg #[.string x.1, .int .i64 x.2], .agg #[.int .i64 c.1, .int .i64 c.2]])) w') :
    wpList Try.prog ops Q (o :: rest) a w := by
  refine wpList_next_ranges w hg it hop 111 lawC Rs (fun x : CK => .agg #[.string x.1, .int .i64 x.2]) (fun c : Int × Int => .agg #[.int .i64 c.1, .int .i64 c.2]) (fun key kl hk => by obtain ⟨x, hx, _⟩ := keyC_inv key kl hk; exact ⟨x, hx⟩) (fun v y hv => by obtain ⟨x, hx, _⟩ := Rs_inv v y hv; exact ⟨x, hx⟩)
    b r n D left cnt hit h (fun _ hl => hDone hl) ?_
  intro x c kl y w' cnt' hkey hlk hv hat hrg hlt hgr hsz hen
  obtain ⟨x', hx', hvx, rfl⟩ := keyC_inv _ _ hkey
  have e1 : x' = x := by
    simp only [Value.agg.injEq] at hx'
    have := congrArg Array.toList hx'
    simp at this
    exact Prod.ext this.1.symm this.2.symm
  subst e1
  have hf : f x'.1 x'.2 = some c := by
    cases hy : f x'.1 x'.2 with
    | none =>
      have h1 := hat .nil
      have h2 := hat (.lit (.bool true))
      rw [hS.at_ _ _ hvx, hy] at h1 h2
      simp at h1 h2
      rw [← h1] at h2
      cases h2
    | some p =>
      have h1 := hat .nil
      rw [hS.at_ _ _ hvx, hy] at h1
      rw [Rs_mk] at hv
      cases hv
      simp at h1
      rw [spanD_inj h1]
  exact hMore x' c w' cnt' hvx hlk hf hrg hlt hgr hsz hen
end Go.Proofs.Ytifakbipdmceiaa

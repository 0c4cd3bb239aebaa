import Derived.Test.YtifakbipdmceiaaJLaw36
set_option linter.unusedVariables false
namespace Go.Proofs.Ytifakbipdmceiaa
open Go.RowKit

def plainB (t : ByteArray) (l : List Val) : Bool := t.toList.isEmpty && decide (l.length = 0)
mutual
def formB : Val → Bool
  | .mk k n m t l =>
    if k = 1 then plainB t l && (m == 0) && (n == 0 || n == 1)
    else if k = 2 then plainB t l && (m == 0)
    else if k = 3 then plainB t l && partB n && partB m
    else if k = 4 then (n == 0) && (m == 0) && decide (l.length = 0) && symB t
    else if k = 5 ∨ k = 6 ∨ k = 7 then (n == 0) && (m == 0) && t.toList.isEmpty && formL (k == 7) none l
    else false
def formL (set : Bool) : Option Val → List Val → Bool
  | _, [] => true
  | none, x :: xs => formB x && formL set (some x) xs
  | some p, x :: xs => formB x && (!set || decide (ordP p x < 0)) && formL set (some x) xs
end

def prevV (items : List Val) (j : Nat) : Option Val := if j = 0 then none else items[j - 1]?
theorem prevV_succ (items : List Val) (j : Nat) (hj : j < items.length) : prevV items (j + 1) = some items[j] := by simp [prevV, hj]
theorem formL_step (sb : Bool) (items : List Val) (j : Nat) (hj : j < items.length) : formL sb (prevV items j) (items.drop j) =
    (formB items[j] && (match prevV items j with | none => true | some p => !sb || decide (ordP p items[j] < 0)) && formL sb (prevV items (j + 1)) (items.drop (j + 1))) := by
  rw [List.drop_eq_getElem_cons hj, prevV_succ items j hj]
  cases prevV items j <;> simp [formL]
end Go.Proofs.Ytifakbipdmceiaa

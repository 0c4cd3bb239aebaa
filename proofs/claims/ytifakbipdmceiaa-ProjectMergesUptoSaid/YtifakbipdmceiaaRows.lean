/-
  NARROWER THAN 'FOR EVERY INPUT', by the rows' own cells (each row's printed sentence says how): ProjectParts: loops · ProjectAnswers: loops · ProjectAlike: loops · ProjectMerges: loops · ProjectCovers: loops · ProjectFound: loops · ProjectOrder: loops · HistoryMakes: loops · HistoryChecks: loops · HistoryOrder: loops · HistoryTells: loops.
  DERIVED. THE GIVEN ROWS OF THIS SEAT. 11 by the template 'for every input the law returns true; each argument reads behind the call as it read before'; 0 by the template 'total and deterministic' (their statements: YtifakbipdmceiaaTotals.lean).
  GIVEN WITH THE SEED: the statements are not yours to turn. If you find one false, say at which input.
  Laid BY PROGRAM, IN A SANDBOX (cutbox-rows.mjs): the forced cells as the released guide's own fill.sh prints them over the translation bafb21a3468db096… (all of the seat's roots in one cut). By AI agents, Wed Nov 11 2026. No macro, syntax, notation, axiom, sorry.
-/
import Derived.Test.YtifakbipdmceiaaChecked
import GoSem.Claim
import GoSem.ClaimJoined
import GoSem.ClaimMapViews
import Derived.JoinedTies
import Derived.KernelRfl
namespace Go.Proofs.Ytifakbipdmceiaa
/- THE CELL 'sum', in the pinned program and in every row, IS THE sha256 OF THE DUMP (.gsa) THAT YtifakbipdmceiaaProg.lean LOADS. Nothing in Lean hashes anything: it is a label: what it is worth is what the hold of that sum in a sandbox is worth. -/
noncomputable def Try.pinned : Pinned := { name := "ytifakbipdmceiaa", sum := "bafb21a3468db096298caab7b7266c82115348a01f66b09a92b0cbfe2257541e", checked := Try.checked }
namespace Rows
def none {H : Type} : Left H := { results := [], args := [] }

/-- 'sextantlaw08.ProjectParts': WHATEVER THE INPUT: true; the input reads as it did. -/
def projectPartsSpec : ChangeSpec := { name := "projectParts", fn := fun _ => fun
  | [d1, d2] => { results := [.lit (.bool true)], args := [d1, d2] }
  | _ => none }
def projectPartsRow : OpenClaim := { program := "ytifakbipdmceiaa", sum := "bafb21a3468db096298caab7b7266c82115348a01f66b09a92b0cbfe2257541e", func := "sextant/sextantlaw08.ProjectParts", spec := "projectParts", inPlace := ["internal/bytealg.abigen_runtime_cmpstring"], unfollowed := true, recurses := true, loops := true, plainKeys := false, apart := false }
def ProjectPartsSaid : Prop := projectPartsRow.holds Try.pinned (OpenSpec.ofChange projectPartsSpec)

/-- ITS FALSE NEIGHBOUR: 'it returns false'. Refute it at one input. -/
def projectPartsWrong : ChangeSpec := { name := "projectParts", fn := fun _ => fun
  | [d1, d2] => { results := [.lit (.bool false)], args := [d1, d2] }
  | _ => none }
def ProjectPartsWrongFalsely : Prop := projectPartsRow.holds Try.pinned (OpenSpec.ofChange projectPartsWrong)

/-- 'sextantlaw08.ProjectAnswers': WHATEVER THE INPUT: true; the input reads as it did. -/
def projectAnswersSpec : ChangeSpec := { name := "projectAnswers", fn := fun _ => fun
  | [d1, d2] => { results := [.lit (.bool true)], args := [d1, d2] }
  | _ => none }
def projectAnswersRow : OpenClaim := { program := "ytifakbipdmceiaa", sum := "bafb21a3468db096298caab7b7266c82115348a01f66b09a92b0cbfe2257541e", func := "sextant/sextantlaw08.ProjectAnswers", spec := "projectAnswers", inPlace := ["internal/bytealg.abigen_runtime_cmpstring"], unfollowed := true, recurses := true, loops := true, plainKeys := false, apart := false }
def ProjectAnswersSaid : Prop := projectAnswersRow.holds Try.pinned (OpenSpec.ofChange projectAnswersSpec)

/-- ITS FALSE NEIGHBOUR: 'it returns false'. Refute it at one input. -/
def projectAnswersWrong : ChangeSpec := { name := "projectAnswers", fn := fun _ => fun
  | [d1, d2] => { results := [.lit (.bool false)], args := [d1, d2] }
  | _ => none }
def ProjectAnswersWrongFalsely : Prop := projectAnswersRow.holds Try.pinned (OpenSpec.ofChange projectAnswersWrong)

/-- 'sextantlaw08.ProjectAlike': WHATEVER THE INPUT: true; the input reads as it did. -/
def projectAlikeSpec : ChangeSpec := { name := "projectAlike", fn := fun _ => fun
  | [d1, d2] => { results := [.lit (.bool true)], args := [d1, d2] }
  | _ => none }
def projectAlikeRow : OpenClaim := { program := "ytifakbipdmceiaa", sum := "bafb21a3468db096298caab7b7266c82115348a01f66b09a92b0cbfe2257541e", func := "sextant/sextantlaw08.ProjectAlike", spec := "projectAlike", inPlace := ["internal/bytealg.abigen_runtime_cmpstring"], unfollowed := true, recurses := true, loops := true, plainKeys := false, apart := false }
def ProjectAlikeSaid : Prop := projectAlikeRow.holds Try.pinned (OpenSpec.ofChange projectAlikeSpec)

/-- ITS FALSE NEIGHBOUR: 'it returns false'. Refute it at one input. -/
def projectAlikeWrong : ChangeSpec := { name := "projectAlike", fn := fun _ => fun
  | [d1, d2] => { results := [.lit (.bool false)], args := [d1, d2] }
  | _ => none }
def ProjectAlikeWrongFalsely : Prop := projectAlikeRow.holds Try.pinned (OpenSpec.ofChange projectAlikeWrong)

/-- 'sextantlaw08.ProjectMerges': WHATEVER THE INPUT: true; the input reads as it did. -/
def projectMergesSpec : ChangeSpec := { name := "projectMerges", fn := fun _ => fun
  | [d1, d2, d3] => { results := [.lit (.bool true)], args := [d1, d2, d3] }
  | _ => none }
def projectMergesRow : OpenClaim := { program := "ytifakbipdmceiaa", sum := "bafb21a3468db096298caab7b7266c82115348a01f66b09a92b0cbfe2257541e", func := "sextant/sextantlaw08.ProjectMerges", spec := "projectMerges", inPlace := ["internal/bytealg.abigen_runtime_cmpstring"], unfollowed := true, recurses := true, loops := true, plainKeys := false, apart := false }
def ProjectMergesSaid : Prop := projectMergesRow.holds Try.pinned (OpenSpec.ofChange projectMergesSpec)

/-- ITS FALSE NEIGHBOUR: 'it returns false'. Refute it at one input. -/
def projectMergesWrong : ChangeSpec := { name := "projectMerges", fn := fun _ => fun
  | [d1, d2, d3] => { results := [.lit (.bool false)], args := [d1, d2, d3] }
  | _ => none }
def ProjectMergesWrongFalsely : Prop := projectMergesRow.holds Try.pinned (OpenSpec.ofChange projectMergesWrong)

/-- 'sextantlaw08.ProjectCovers': WHATEVER THE INPUT: true; the input reads as it did. -/
def projectCoversSpec : ChangeSpec := { name := "projectCovers", fn := fun _ => fun
  | [d] => { results := [.lit (.bool true)], args := [d] }
  | _ => none }
def projectCoversRow : OpenClaim := { program := "ytifakbipdmceiaa", sum := "bafb21a3468db096298caab7b7266c82115348a01f66b09a92b0cbfe2257541e", func := "sextant/sextantlaw08.ProjectCovers", spec := "projectCovers", inPlace := ["internal/bytealg.abigen_runtime_cmpstring"], unfollowed := true, recurses := true, loops := true, plainKeys := false, apart := false }
def ProjectCoversSaid : Prop := projectCoversRow.holds Try.pinned (OpenSpec.ofChange projectCoversSpec)

/-- ITS FALSE NEIGHBOUR: 'it returns false'. Refute it at one input. -/
def projectCoversWrong : ChangeSpec := { name := "projectCovers", fn := fun _ => fun
  | [d] => { results := [.lit (.bool false)], args := [d] }
  | _ => none }
def ProjectCoversWrongFalsely : Prop := projectCoversRow.holds Try.pinned (OpenSpec.ofChange projectCoversWrong)

/-- 'sextantlaw08.ProjectFound': WHATEVER THE INPUT: true; the input reads as it did. -/
def projectFoundSpec : ChangeSpec := { name := "projectFound", fn := fun _ => fun
  | [d] => { results := [.lit (.bool true)], args := [d] }
  | _ => none }
def projectFoundRow : OpenClaim := { program := "ytifakbipdmceiaa", sum := "bafb21a3468db096298caab7b7266c82115348a01f66b09a92b0cbfe2257541e", func := "sextant/sextantlaw08.ProjectFound", spec := "projectFound", inPlace := ["internal/bytealg.abigen_runtime_cmpstring"], unfollowed := true, recurses := true, loops := true, plainKeys := false, apart := false }
def ProjectFoundSaid : Prop := projectFoundRow.holds Try.pinned (OpenSpec.ofChange projectFoundSpec)

/-- ITS FALSE NEIGHBOUR: 'it returns false'. Refute it at one input. -/
def projectFoundWrong : ChangeSpec := { name := "projectFound", fn := fun _ => fun
  | [d] => { results := [.lit (.bool false)], args := [d] }
  | _ => none }
def ProjectFoundWrongFalsely : Prop := projectFoundRow.holds Try.pinned (OpenSpec.ofChange projectFoundWrong)

/-- 'sextantlaw08.ProjectOrder': WHATEVER THE INPUT: true; the input reads as it did. -/
def projectOrderSpec : ChangeSpec := { name := "projectOrder", fn := fun _ => fun
  | [d1, d2, d3] => { results := [.lit (.bool true)], args := [d1, d2, d3] }
  | _ => none }
def projectOrderRow : OpenClaim := { program := "ytifakbipdmceiaa", sum := "bafb21a3468db096298caab7b7266c82115348a01f66b09a92b0cbfe2257541e", func := "sextant/sextantlaw08.ProjectOrder", spec := "projectOrder", inPlace := ["internal/bytealg.abigen_runtime_cmpstring"], unfollowed := true, recurses := true, loops := true, plainKeys := false, apart := false }
def ProjectOrderSaid : Prop := projectOrderRow.holds Try.pinned (OpenSpec.ofChange projectOrderSpec)

/-- ITS FALSE NEIGHBOUR: 'it returns false'. Refute it at one input. -/
def projectOrderWrong : ChangeSpec := { name := "projectOrder", fn := fun _ => fun
  | [d1, d2, d3] => { results := [.lit (.bool false)], args := [d1, d2, d3] }
  | _ => none }
def ProjectOrderWrongFalsely : Prop := projectOrderRow.holds Try.pinned (OpenSpec.ofChange projectOrderWrong)

/-- 'sextantlaw07.HistoryMakes': WHATEVER THE INPUT: true; the input reads as it did. -/
def historyMakesSpec : ChangeSpec := { name := "historyMakes", fn := fun _ => fun
  | [d] => { results := [.lit (.bool true)], args := [d] }
  | _ => none }
def historyMakesRow : OpenClaim := { program := "ytifakbipdmceiaa", sum := "bafb21a3468db096298caab7b7266c82115348a01f66b09a92b0cbfe2257541e", func := "sextant/sextantlaw07.HistoryMakes", spec := "historyMakes", inPlace := ["internal/bytealg.abigen_runtime_cmpstring"], unfollowed := true, recurses := true, loops := true, plainKeys := false, apart := false }
def HistoryMakesSaid : Prop := historyMakesRow.holds Try.pinned (OpenSpec.ofChange historyMakesSpec)

/-- ITS FALSE NEIGHBOUR: 'it returns false'. Refute it at one input. -/
def historyMakesWrong : ChangeSpec := { name := "historyMakes", fn := fun _ => fun
  | [d] => { results := [.lit (.bool false)], args := [d] }
  | _ => none }
def HistoryMakesWrongFalsely : Prop := historyMakesRow.holds Try.pinned (OpenSpec.ofChange historyMakesWrong)

/-- 'sextantlaw07.HistoryChecks': WHATEVER THE INPUT: true; the input reads as it did. -/
def historyChecksSpec : ChangeSpec := { name := "historyChecks", fn := fun _ => fun
  | [d1, d2] => { results := [.lit (.bool true)], args := [d1, d2] }
  | _ => none }
def historyChecksRow : OpenClaim := { program := "ytifakbipdmceiaa", sum := "bafb21a3468db096298caab7b7266c82115348a01f66b09a92b0cbfe2257541e", func := "sextant/sextantlaw07.HistoryChecks", spec := "historyChecks", inPlace := ["internal/bytealg.abigen_runtime_cmpstring"], unfollowed := true, recurses := true, loops := true, plainKeys := false, apart := false }
def HistoryChecksSaid : Prop := historyChecksRow.holds Try.pinned (OpenSpec.ofChange historyChecksSpec)

/-- ITS FALSE NEIGHBOUR: 'it returns false'. Refute it at one input. -/
def historyChecksWrong : ChangeSpec := { name := "historyChecks", fn := fun _ => fun
  | [d1, d2] => { results := [.lit (.bool false)], args := [d1, d2] }
  | _ => none }
def HistoryChecksWrongFalsely : Prop := historyChecksRow.holds Try.pinned (OpenSpec.ofChange historyChecksWrong)

/-- 'sextantlaw07.HistoryOrder': WHATEVER THE INPUT: true; the input reads as it did. -/
def historyOrderSpec : ChangeSpec := { name := "historyOrder", fn := fun _ => fun
  | [d1, d2, d3, d4, d5] => { results := [.lit (.bool true)], args := [d1, d2, d3, d4, d5] }
  | _ => none }
def historyOrderRow : OpenClaim := { program := "ytifakbipdmceiaa", sum := "bafb21a3468db096298caab7b7266c82115348a01f66b09a92b0cbfe2257541e", func := "sextant/sextantlaw07.HistoryOrder", spec := "historyOrder", inPlace := ["internal/bytealg.abigen_runtime_cmpstring"], unfollowed := true, recurses := true, loops := true, plainKeys := false, apart := false }
def HistoryOrderSaid : Prop := historyOrderRow.holds Try.pinned (OpenSpec.ofChange historyOrderSpec)

/-- ITS FALSE NEIGHBOUR: 'it returns false'. Refute it at one input. -/
def historyOrderWrong : ChangeSpec := { name := "historyOrder", fn := fun _ => fun
  | [d1, d2, d3, d4, d5] => { results := [.lit (.bool false)], args := [d1, d2, d3, d4, d5] }
  | _ => none }
def HistoryOrderWrongFalsely : Prop := historyOrderRow.holds Try.pinned (OpenSpec.ofChange historyOrderWrong)

/-- 'sextantlaw07.HistoryTells': WHATEVER THE INPUT: true; the input reads as it did. -/
def historyTellsSpec : ChangeSpec := { name := "historyTells", fn := fun _ => fun
  | [d1, d2, d3, d4] => { results := [.lit (.bool true)], args := [d1, d2, d3, d4] }
  | _ => none }
def historyTellsRow : OpenClaim := { program := "ytifakbipdmceiaa", sum := "bafb21a3468db096298caab7b7266c82115348a01f66b09a92b0cbfe2257541e", func := "sextant/sextantlaw07.HistoryTells", spec := "historyTells", inPlace := ["internal/bytealg.abigen_runtime_cmpstring"], unfollowed := true, recurses := true, loops := true, plainKeys := false, apart := false }
def HistoryTellsSaid : Prop := historyTellsRow.holds Try.pinned (OpenSpec.ofChange historyTellsSpec)

/-- ITS FALSE NEIGHBOUR: 'it returns false'. Refute it at one input. -/
def historyTellsWrong : ChangeSpec := { name := "historyTells", fn := fun _ => fun
  | [d1, d2, d3, d4] => { results := [.lit (.bool false)], args := [d1, d2, d3, d4] }
  | _ => none }
def HistoryTellsWrongFalsely : Prop := historyTellsRow.holds Try.pinned (OpenSpec.ofChange historyTellsWrong)

/- THE SECOND FORM. 'bulk': how many values and letters a reading holds, each counted each time it is reached (what is shared counts as often as it is met; a slice's spare places count too). A statement '..UptoSaid' is the law's where the arguments, and the package variables that the reading takes, are together of bulk at most 1048576: NARROWER than '..Said'. Prove '..Said' where nothing that the law and all that it calls make is longer than what came in: it says more and counts as full. Else prove '..UptoSaid'. A law counts once. -/
mutual
def uptoBulk {H : Type} : DataW H → Nat
  | .lit (.string bytes) => bytes.length + 1
  | .lit _ => 1
  | .nil => 1
  | .ptr d => uptoBulk d + 1
  | .slice elems spare => uptoBulkAll elems + uptoBulkAll spare + 1
  | .agg parts => uptoBulkAll parts + 1
  | .iface _ d => uptoBulk d + 1
  | .map entries => uptoBulkEntries entries + 1
  | .held _ => 1
def uptoBulkAll {H : Type} : List (DataW H) → Nat
  | [] => 0
  | d :: r => uptoBulk d + uptoBulkAll r
def uptoBulkEntries {H : Type} : List (Lit × DataW H) → Nat
  | [] => 0
  | x :: r => uptoBulkEntry x + uptoBulkEntries r
def uptoBulkEntry {H : Type} : Lit × DataW H → Nat
  | (.string bytes, d) => bytes.length + uptoBulk d + 1
  | (_, d) => uptoBulk d + 1
 end
def uptoSmall : (H : Type) → List (DataW H) → Bool := fun _ ds => decide (uptoBulkAll ds ≤ 1048576)
def OpenSpec.upto (s : _root_.Go.ChangeSpec) : _root_.Go.OpenSpec := { _root_.Go.OpenSpec.ofChange s with cond := some uptoSmall }

/-- 'sextantlaw08.ProjectParts', WHERE WHAT IT READS IS OF BULK AT MOST 1048576: true; the input reads as it did. -/
def projectPartsUptoRow : OpenClaim := { program := "ytifakbipdmceiaa", sum := "bafb21a3468db096298caab7b7266c82115348a01f66b09a92b0cbfe2257541e", func := "sextant/sextantlaw08.ProjectParts", spec := "projectParts", inPlace := ["internal/bytealg.abigen_runtime_cmpstring"], unfollowed := true, recurses := true, loops := true, plainKeys := false, apart := false, narrowed := true }
def ProjectPartsUptoSaid : Prop := projectPartsUptoRow.holds Try.pinned (OpenSpec.upto projectPartsSpec)

/-- 'sextantlaw08.ProjectAnswers', WHERE WHAT IT READS IS OF BULK AT MOST 1048576: true; the input reads as it did. -/
def projectAnswersUptoRow : OpenClaim := { program := "ytifakbipdmceiaa", sum := "bafb21a3468db096298caab7b7266c82115348a01f66b09a92b0cbfe2257541e", func := "sextant/sextantlaw08.ProjectAnswers", spec := "projectAnswers", inPlace := ["internal/bytealg.abigen_runtime_cmpstring"], unfollowed := true, recurses := true, loops := true, plainKeys := false, apart := false, narrowed := true }
def ProjectAnswersUptoSaid : Prop := projectAnswersUptoRow.holds Try.pinned (OpenSpec.upto projectAnswersSpec)

/-- 'sextantlaw08.ProjectAlike', WHERE WHAT IT READS IS OF BULK AT MOST 1048576: true; the input reads as it did. -/
def projectAlikeUptoRow : OpenClaim := { program := "ytifakbipdmceiaa", sum := "bafb21a3468db096298caab7b7266c82115348a01f66b09a92b0cbfe2257541e", func := "sextant/sextantlaw08.ProjectAlike", spec := "projectAlike", inPlace := ["internal/bytealg.abigen_runtime_cmpstring"], unfollowed := true, recurses := true, loops := true, plainKeys := false, apart := false, narrowed := true }
def ProjectAlikeUptoSaid : Prop := projectAlikeUptoRow.holds Try.pinned (OpenSpec.upto projectAlikeSpec)

/-- 'sextantlaw08.ProjectMerges', WHERE WHAT IT READS IS OF BULK AT MOST 1048576: true; the input reads as it did. -/
def projectMergesUptoRow : OpenClaim := { program := "ytifakbipdmceiaa", sum := "bafb21a3468db096298caab7b7266c82115348a01f66b09a92b0cbfe2257541e", func := "sextant/sextantlaw08.ProjectMerges", spec := "projectMerges", inPlace := ["internal/bytealg.abigen_runtime_cmpstring"], unfollowed := true, recurses := true, loops := true, plainKeys := false, apart := false, narrowed := true }
def ProjectMergesUptoSaid : Prop := projectMergesUptoRow.holds Try.pinned (OpenSpec.upto projectMergesSpec)

/-- 'sextantlaw08.ProjectCovers', WHERE WHAT IT READS IS OF BULK AT MOST 1048576: true; the input reads as it did. -/
def projectCoversUptoRow : OpenClaim := { program := "ytifakbipdmceiaa", sum := "bafb21a3468db096298caab7b7266c82115348a01f66b09a92b0cbfe2257541e", func := "sextant/sextantlaw08.ProjectCovers", spec := "projectCovers", inPlace := ["internal/bytealg.abigen_runtime_cmpstring"], unfollowed := true, recurses := true, loops := true, plainKeys := false, apart := false, narrowed := true }
def ProjectCoversUptoSaid : Prop := projectCoversUptoRow.holds Try.pinned (OpenSpec.upto projectCoversSpec)

/-- 'sextantlaw08.ProjectFound', WHERE WHAT IT READS IS OF BULK AT MOST 1048576: true; the input reads as it did. -/
def projectFoundUptoRow : OpenClaim := { program := "ytifakbipdmceiaa", sum := "bafb21a3468db096298caab7b7266c82115348a01f66b09a92b0cbfe2257541e", func := "sextant/sextantlaw08.ProjectFound", spec := "projectFound", inPlace := ["internal/bytealg.abigen_runtime_cmpstring"], unfollowed := true, recurses := true, loops := true, plainKeys := false, apart := false, narrowed := true }
def ProjectFoundUptoSaid : Prop := projectFoundUptoRow.holds Try.pinned (OpenSpec.upto projectFoundSpec)

/-- 'sextantlaw08.ProjectOrder', WHERE WHAT IT READS IS OF BULK AT MOST 1048576: true; the input reads as it did. -/
def projectOrderUptoRow : OpenClaim := { program := "ytifakbipdmceiaa", sum := "bafb21a3468db096298caab7b7266c82115348a01f66b09a92b0cbfe2257541e", func := "sextant/sextantlaw08.ProjectOrder", spec := "projectOrder", inPlace := ["internal/bytealg.abigen_runtime_cmpstring"], unfollowed := true, recurses := true, loops := true, plainKeys := false, apart := false, narrowed := true }
def ProjectOrderUptoSaid : Prop := projectOrderUptoRow.holds Try.pinned (OpenSpec.upto projectOrderSpec)

/-- 'sextantlaw07.HistoryMakes', WHERE WHAT IT READS IS OF BULK AT MOST 1048576: true; the input reads as it did. -/
def historyMakesUptoRow : OpenClaim := { program := "ytifakbipdmceiaa", sum := "bafb21a3468db096298caab7b7266c82115348a01f66b09a92b0cbfe2257541e", func := "sextant/sextantlaw07.HistoryMakes", spec := "historyMakes", inPlace := ["internal/bytealg.abigen_runtime_cmpstring"], unfollowed := true, recurses := true, loops := true, plainKeys := false, apart := false, narrowed := true }
def HistoryMakesUptoSaid : Prop := historyMakesUptoRow.holds Try.pinned (OpenSpec.upto historyMakesSpec)

/-- 'sextantlaw07.HistoryChecks', WHERE WHAT IT READS IS OF BULK AT MOST 1048576: true; the input reads as it did. -/
def historyChecksUptoRow : OpenClaim := { program := "ytifakbipdmceiaa", sum := "bafb21a3468db096298caab7b7266c82115348a01f66b09a92b0cbfe2257541e", func := "sextant/sextantlaw07.HistoryChecks", spec := "historyChecks", inPlace := ["internal/bytealg.abigen_runtime_cmpstring"], unfollowed := true, recurses := true, loops := true, plainKeys := false, apart := false, narrowed := true }
def HistoryChecksUptoSaid : Prop := historyChecksUptoRow.holds Try.pinned (OpenSpec.upto historyChecksSpec)

/-- 'sextantlaw07.HistoryOrder', WHERE WHAT IT READS IS OF BULK AT MOST 1048576: true; the input reads as it did. -/
def historyOrderUptoRow : OpenClaim := { program := "ytifakbipdmceiaa", sum := "bafb21a3468db096298caab7b7266c82115348a01f66b09a92b0cbfe2257541e", func := "sextant/sextantlaw07.HistoryOrder", spec := "historyOrder", inPlace := ["internal/bytealg.abigen_runtime_cmpstring"], unfollowed := true, recurses := true, loops := true, plainKeys := false, apart := false, narrowed := true }
def HistoryOrderUptoSaid : Prop := historyOrderUptoRow.holds Try.pinned (OpenSpec.upto historyOrderSpec)

/-- 'sextantlaw07.HistoryTells', WHERE WHAT IT READS IS OF BULK AT MOST 1048576: true; the input reads as it did. -/
def historyTellsUptoRow : OpenClaim := { program := "ytifakbipdmceiaa", sum := "bafb21a3468db096298caab7b7266c82115348a01f66b09a92b0cbfe2257541e", func := "sextant/sextantlaw07.HistoryTells", spec := "historyTells", inPlace := ["internal/bytealg.abigen_runtime_cmpstring"], unfollowed := true, recurses := true, loops := true, plainKeys := false, apart := false, narrowed := true }
def HistoryTellsUptoSaid : Prop := historyTellsUptoRow.holds Try.pinned (OpenSpec.upto historyTellsSpec)

end Rows
end Go.Proofs.Ytifakbipdmceiaa

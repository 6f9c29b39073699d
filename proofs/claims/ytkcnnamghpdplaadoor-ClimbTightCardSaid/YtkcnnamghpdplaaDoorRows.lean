/-
  NARROWER THAN 'FOR EVERY INPUT', by the rows' own cells (each row's printed sentence says how): ClimbSearches: laid · ClimbSteps: laid · ClimbFixed: laid · ClimbTight: laid.
  DERIVED. THE GIVEN ROWS OF THIS SEAT. 4 by the template 'for every input the law returns true; each argument reads behind the call as it read before'; 0 by the template 'total and deterministic' (their statements: YtkcnnamghpdplaaDoorTotals.lean).
  GIVEN WITH THE SEED: the statements are not yours to turn. If you find one false, say at which input.
  Laid BY PROGRAM, IN A SANDBOX (cutbox-rows.mjs): the forced cells as the released guide's own fill.sh prints them over the translation 28ebe7ab7b3b29d7… (all of the seat's roots in one cut). By AI agents, Wed Nov 11 2026. No macro, syntax, notation, axiom, sorry.
-/
import Derived.Test.YtkcnnamghpdplaaDoorChecked
import GoSem.Claim
import GoSem.ClaimJoined
import GoSem.ClaimMapViews
import Derived.JoinedTies
import Derived.KernelRfl
namespace Go.Proofs.YtkcnnamghpdplaaDoor
/- THE CELL 'sum', in the pinned program and in every row, IS THE sha256 OF THE DUMP (.gsa) THAT YtkcnnamghpdplaaDoorProg.lean LOADS. Nothing in Lean hashes anything: it is a label: what it is worth is what the hold of that sum in a sandbox is worth. -/
noncomputable def Tryd.pinned : Pinned := { name := "ytkcnnamghpdplaadoor", sum := "28ebe7ab7b3b29d76b4a901a55123053b27cf69d09485705ad8a023803e6e2eb", checked := Tryd.checked }
namespace Rows
def none {H : Type} : Left H := { results := [], args := [] }

/- WHAT THE LISTED PACKAGE-LEVEL VARIABLES READ AS WHEN THE CALL BEGINS. Each datum BY PROGRAM (the guide's laid-datum.mjs) off the statement by which the dump's own 'gosem.cut.vars' lays the variable. In a bare row this is a premise. The card (YtkcnnamghpdplaaDoorCards.lean) ties it to the program's text. -/
def laid_errors_errorType {H : Type} : DataW H := .iface "internal/reflectlite.rtype" (.agg [.ptr (.lit (.string [101, 114, 114, 111, 114]))])

/-- 'viaductlaw20.ClimbSearches': WHATEVER THE INPUT: true; the input reads as it did. -/
def climbSearchesSpec : ChangeSpec := { name := "climbSearches", fn := fun _ => fun
  | [d1, d2] => { results := [.lit (.bool true)], args := [d1, d2] }
  | _ => none }
def climbSearchesRow : OpenClaim := { program := "ytkcnnamghpdplaadoor", sum := "28ebe7ab7b3b29d76b4a901a55123053b27cf69d09485705ad8a023803e6e2eb", func := "viaduct/viaductlaw20.ClimbSearches", spec := "climbSearches", inPlace := ["internal/reflectlite.ValueOf", "(internal/reflectlite.Value).Type", "(internal/reflectlite.Value).IsNil", "internal/reflectlite.TypeOf", "(internal/reflectlite.Value).Elem", "(internal/reflectlite.Value).Set"], unfollowed := true, recurses := true, named := ["errors.errorType"], apart := false, laid := [("errors.errorType", laid_errors_errorType)] }
def ClimbSearchesSaid : Prop := climbSearchesRow.holds Tryd.pinned (OpenSpec.ofChange climbSearchesSpec)

/-- ITS FALSE NEIGHBOUR: 'it returns false'. Refute it at one input. -/
def climbSearchesWrong : ChangeSpec := { name := "climbSearches", fn := fun _ => fun
  | [d1, d2] => { results := [.lit (.bool false)], args := [d1, d2] }
  | _ => none }
def ClimbSearchesWrongFalsely : Prop := climbSearchesRow.holds Tryd.pinned (OpenSpec.ofChange climbSearchesWrong)

/-- 'viaductlaw20.ClimbSteps': WHATEVER THE INPUT: true; the input reads as it did. -/
def climbStepsSpec : ChangeSpec := { name := "climbSteps", fn := fun _ => fun
  | [d1, d2] => { results := [.lit (.bool true)], args := [d1, d2] }
  | _ => none }
def climbStepsRow : OpenClaim := { program := "ytkcnnamghpdplaadoor", sum := "28ebe7ab7b3b29d76b4a901a55123053b27cf69d09485705ad8a023803e6e2eb", func := "viaduct/viaductlaw20.ClimbSteps", spec := "climbSteps", inPlace := ["internal/reflectlite.ValueOf", "(internal/reflectlite.Value).Type", "(internal/reflectlite.Value).IsNil", "internal/reflectlite.TypeOf", "(internal/reflectlite.Value).Elem", "(internal/reflectlite.Value).Set"], unfollowed := true, recurses := true, named := ["errors.errorType"], apart := false, laid := [("errors.errorType", laid_errors_errorType)] }
def ClimbStepsSaid : Prop := climbStepsRow.holds Tryd.pinned (OpenSpec.ofChange climbStepsSpec)

/-- ITS FALSE NEIGHBOUR: 'it returns false'. Refute it at one input. -/
def climbStepsWrong : ChangeSpec := { name := "climbSteps", fn := fun _ => fun
  | [d1, d2] => { results := [.lit (.bool false)], args := [d1, d2] }
  | _ => none }
def ClimbStepsWrongFalsely : Prop := climbStepsRow.holds Tryd.pinned (OpenSpec.ofChange climbStepsWrong)

/-- 'viaductlaw20.ClimbFixed': WHATEVER THE INPUT: true; the input reads as it did. -/
def climbFixedSpec : ChangeSpec := { name := "climbFixed", fn := fun _ => fun
  | [] => { results := [.lit (.bool true)], args := [] }
  | _ => none }
def climbFixedRow : OpenClaim := { program := "ytkcnnamghpdplaadoor", sum := "28ebe7ab7b3b29d76b4a901a55123053b27cf69d09485705ad8a023803e6e2eb", func := "viaduct/viaductlaw20.ClimbFixed", spec := "climbFixed", inPlace := ["internal/reflectlite.ValueOf", "(internal/reflectlite.Value).Type", "(internal/reflectlite.Value).IsNil", "internal/reflectlite.TypeOf", "(internal/reflectlite.Value).Elem", "(internal/reflectlite.Value).Set"], unfollowed := true, recurses := true, named := ["errors.errorType"], apart := false, laid := [("errors.errorType", laid_errors_errorType)] }
def ClimbFixedSaid : Prop := climbFixedRow.holds Tryd.pinned (OpenSpec.ofChange climbFixedSpec)

/-- ITS FALSE NEIGHBOUR: 'it returns false'. Refute it at one input. -/
def climbFixedWrong : ChangeSpec := { name := "climbFixed", fn := fun _ => fun
  | [] => { results := [.lit (.bool false)], args := [] }
  | _ => none }
def ClimbFixedWrongFalsely : Prop := climbFixedRow.holds Tryd.pinned (OpenSpec.ofChange climbFixedWrong)

/-- 'viaductlaw20.ClimbTight': WHATEVER THE INPUT: true; the input reads as it did. -/
def climbTightSpec : ChangeSpec := { name := "climbTight", fn := fun _ => fun
  | [d] => { results := [.lit (.bool true)], args := [d] }
  | _ => none }
def climbTightRow : OpenClaim := { program := "ytkcnnamghpdplaadoor", sum := "28ebe7ab7b3b29d76b4a901a55123053b27cf69d09485705ad8a023803e6e2eb", func := "viaduct/viaductlaw20.ClimbTight", spec := "climbTight", inPlace := ["internal/reflectlite.ValueOf", "(internal/reflectlite.Value).Type", "(internal/reflectlite.Value).IsNil", "internal/reflectlite.TypeOf", "(internal/reflectlite.Value).Elem", "(internal/reflectlite.Value).Set"], unfollowed := true, recurses := true, named := ["errors.errorType"], apart := false, laid := [("errors.errorType", laid_errors_errorType)] }
def ClimbTightSaid : Prop := climbTightRow.holds Tryd.pinned (OpenSpec.ofChange climbTightSpec)

/-- ITS FALSE NEIGHBOUR: 'it returns false'. Refute it at one input. -/
def climbTightWrong : ChangeSpec := { name := "climbTight", fn := fun _ => fun
  | [d] => { results := [.lit (.bool false)], args := [d] }
  | _ => none }
def ClimbTightWrongFalsely : Prop := climbTightRow.holds Tryd.pinned (OpenSpec.ofChange climbTightWrong)

/- THE SECOND FORM. 'bulk': how many values and letters a reading holds, each counted each time it is reached (what is shared counts as often as it is met; a slice's spare places count too). A statement '..UptoSaid' is the law's where the arguments, and the package variables that the reading takes, are together of bulk at most 1048576: NARROWER than '..Said'. Prove '..Said' where nothing that the law and all that it calls make is longer than what came in: it says more and counts as full. Else prove '..UptoSaid'. A law counts once. -/
mutual
def uptoBulk {H : Type} : DataW H → Nat
  | .lit (.string bytes) => bytes.length + 1
  | .lit _ => 1
  | .nil => 1
  | .ptr d => uptoBulk d + 1
  | .slice elems spare => uptoBulkAll elems + uptoBulkAll spare + 1
  | .agg parts => uptoBulkAll parts + 1
  | .iface _ d => uptoBulk d + 1
  | .map entries => uptoBulkEntries entries + 1
  | .held _ => 1
def uptoBulkAll {H : Type} : List (DataW H) → Nat
  | [] => 0
  | d :: r => uptoBulk d + uptoBulkAll r
def uptoBulkEntries {H : Type} : List (Lit × DataW H) → Nat
  | [] => 0
  | x :: r => uptoBulkEntry x + uptoBulkEntries r
def uptoBulkEntry {H : Type} : Lit × DataW H → Nat
  | (.string bytes, d) => bytes.length + uptoBulk d + 1
  | (_, d) => uptoBulk d + 1
 end
def uptoSmall : (H : Type) → List (DataW H) → Bool := fun _ ds => decide (uptoBulkAll ds ≤ 1048576)
def OpenSpec.upto (s : _root_.Go.ChangeSpec) : _root_.Go.OpenSpec := { _root_.Go.OpenSpec.ofChange s with cond := some uptoSmall }

/-- 'viaductlaw20.ClimbSearches', WHERE WHAT IT READS IS OF BULK AT MOST 1048576: true; the input reads as it did. -/
def climbSearchesUptoRow : OpenClaim := { program := "ytkcnnamghpdplaadoor", sum := "28ebe7ab7b3b29d76b4a901a55123053b27cf69d09485705ad8a023803e6e2eb", func := "viaduct/viaductlaw20.ClimbSearches", spec := "climbSearches", inPlace := ["internal/reflectlite.ValueOf", "(internal/reflectlite.Value).Type", "(internal/reflectlite.Value).IsNil", "internal/reflectlite.TypeOf", "(internal/reflectlite.Value).Elem", "(internal/reflectlite.Value).Set"], unfollowed := true, recurses := true, named := ["errors.errorType"], apart := false, laid := [("errors.errorType", laid_errors_errorType)], narrowed := true }
def ClimbSearchesUptoSaid : Prop := climbSearchesUptoRow.holds Tryd.pinned (OpenSpec.upto climbSearchesSpec)

/-- 'viaductlaw20.ClimbSteps', WHERE WHAT IT READS IS OF BULK AT MOST 1048576: true; the input reads as it did. -/
def climbStepsUptoRow : OpenClaim := { program := "ytkcnnamghpdplaadoor", sum := "28ebe7ab7b3b29d76b4a901a55123053b27cf69d09485705ad8a023803e6e2eb", func := "viaduct/viaductlaw20.ClimbSteps", spec := "climbSteps", inPlace := ["internal/reflectlite.ValueOf", "(internal/reflectlite.Value).Type", "(internal/reflectlite.Value).IsNil", "internal/reflectlite.TypeOf", "(internal/reflectlite.Value).Elem", "(internal/reflectlite.Value).Set"], unfollowed := true, recurses := true, named := ["errors.errorType"], apart := false, laid := [("errors.errorType", laid_errors_errorType)], narrowed := true }
def ClimbStepsUptoSaid : Prop := climbStepsUptoRow.holds Tryd.pinned (OpenSpec.upto climbStepsSpec)

/-- 'viaductlaw20.ClimbFixed', WHERE WHAT IT READS IS OF BULK AT MOST 1048576: true; the input reads as it did. -/
def climbFixedUptoRow : OpenClaim := { program := "ytkcnnamghpdplaadoor", sum := "28ebe7ab7b3b29d76b4a901a55123053b27cf69d09485705ad8a023803e6e2eb", func := "viaduct/viaductlaw20.ClimbFixed", spec := "climbFixed", inPlace := ["internal/reflectlite.ValueOf", "(internal/reflectlite.Value).Type", "(internal/reflectlite.Value).IsNil", "internal/reflectlite.TypeOf", "(internal/reflectlite.Value).Elem", "(internal/reflectlite.Value).Set"], unfollowed := true, recurses := true, named := ["errors.errorType"], apart := false, laid := [("errors.errorType", laid_errors_errorType)], narrowed := true }
def ClimbFixedUptoSaid : Prop := climbFixedUptoRow.holds Tryd.pinned (OpenSpec.upto climbFixedSpec)

/-- 'viaductlaw20.ClimbTight', WHERE WHAT IT READS IS OF BULK AT MOST 1048576: true; the input reads as it did. -/
def climbTightUptoRow : OpenClaim := { program := "ytkcnnamghpdplaadoor", sum := "28ebe7ab7b3b29d76b4a901a55123053b27cf69d09485705ad8a023803e6e2eb", func := "viaduct/viaductlaw20.ClimbTight", spec := "climbTight", inPlace := ["internal/reflectlite.ValueOf", "(internal/reflectlite.Value).Type", "(internal/reflectlite.Value).IsNil", "internal/reflectlite.TypeOf", "(internal/reflectlite.Value).Elem", "(internal/reflectlite.Value).Set"], unfollowed := true, recurses := true, named := ["errors.errorType"], apart := false, laid := [("errors.errorType", laid_errors_errorType)], narrowed := true }
def ClimbTightUptoSaid : Prop := climbTightUptoRow.holds Tryd.pinned (OpenSpec.upto climbTightSpec)

end Rows
end Go.Proofs.YtkcnnamghpdplaaDoor

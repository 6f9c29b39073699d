/-
  No cell of these rows narrows 'for every input' (looked for: loops, veiled, ifaces, maps, wideKeys, modest, calm, conditions, laid).
  DERIVED. THE GIVEN ROWS OF THIS SEAT. 3 by the template 'for every input the law returns true; each argument reads behind the call as it read before'; 0 by the template 'total and deterministic' (their statements: YteejmocdagdeeaaTotals.lean).
  GIVEN WITH THE SEED: the statements are not yours to turn. If you find one false, say at which input.
  Laid BY PROGRAM, IN A SANDBOX (cutbox-rows.mjs): the forced cells as the released guide's own fill.sh prints them over the translation 688c2d0455c8232e… (all of the seat's roots in one cut). By AI agents, Wed Nov 11 2026. No macro, syntax, notation, axiom, sorry.
-/
import Derived.Test.YteejmocdagdeeaaChecked
import GoSem.Claim
import GoSem.ClaimJoined
import GoSem.ClaimMapViews
import Derived.JoinedTies
import Derived.KernelRfl
namespace Go.Proofs.Yteejmocdagdeeaa
/- THE CELL 'sum', in the pinned program and in every row, IS THE sha256 OF THE DUMP (.gsa) THAT YteejmocdagdeeaaProg.lean LOADS. Nothing in Lean hashes anything: it is a label: what it is worth is what the hold of that sum in a sandbox is worth. -/
noncomputable def Try.pinned : Pinned := { name := "yteejmocdagdeeaa", sum := "688c2d0455c8232e5108073900f95edcc75a22c0de6b8c0af0a1cb3dabe24afa", checked := Try.checked }
namespace Rows
def none {H : Type} : Left H := { results := [], args := [] }

/-- 'viaductlaw07.StampAges': WHATEVER THE INPUT: true; the input reads as it did. -/
def stampAgesSpec : ChangeSpec := { name := "stampAges", fn := fun _ => fun
  | [d1, d2, d3, d4] => { results := [.lit (.bool true)], args := [d1, d2, d3, d4] }
  | _ => none }
def stampAgesRow : OpenClaim := { program := "yteejmocdagdeeaa", sum := "688c2d0455c8232e5108073900f95edcc75a22c0de6b8c0af0a1cb3dabe24afa", func := "viaduct/viaductlaw07.StampAges", spec := "stampAges", apart := false }
def StampAgesSaid : Prop := stampAgesRow.holds Try.pinned (OpenSpec.ofChange stampAgesSpec)

/-- ITS FALSE NEIGHBOUR: 'it returns false'. Refute it at one input. -/
def stampAgesWrong : ChangeSpec := { name := "stampAges", fn := fun _ => fun
  | [d1, d2, d3, d4] => { results := [.lit (.bool false)], args := [d1, d2, d3, d4] }
  | _ => none }
def StampAgesWrongFalsely : Prop := stampAgesRow.holds Try.pinned (OpenSpec.ofChange stampAgesWrong)

/-- 'viaductlaw07.StampWraps': WHATEVER THE INPUT: true; the input reads as it did. -/
def stampWrapsSpec : ChangeSpec := { name := "stampWraps", fn := fun _ => fun
  | [d1, d2, d3] => { results := [.lit (.bool true)], args := [d1, d2, d3] }
  | _ => none }
def stampWrapsRow : OpenClaim := { program := "yteejmocdagdeeaa", sum := "688c2d0455c8232e5108073900f95edcc75a22c0de6b8c0af0a1cb3dabe24afa", func := "viaduct/viaductlaw07.StampWraps", spec := "stampWraps", apart := false }
def StampWrapsSaid : Prop := stampWrapsRow.holds Try.pinned (OpenSpec.ofChange stampWrapsSpec)

/-- ITS FALSE NEIGHBOUR: 'it returns false'. Refute it at one input. -/
def stampWrapsWrong : ChangeSpec := { name := "stampWraps", fn := fun _ => fun
  | [d1, d2, d3] => { results := [.lit (.bool false)], args := [d1, d2, d3] }
  | _ => none }
def StampWrapsWrongFalsely : Prop := stampWrapsRow.holds Try.pinned (OpenSpec.ofChange stampWrapsWrong)

/-- 'viaductlaw07.StampMemory': WHATEVER THE INPUT: true; the input reads as it did. -/
def stampMemorySpec : ChangeSpec := { name := "stampMemory", fn := fun _ => fun
  | [d] => { results := [.lit (.bool true)], args := [d] }
  | _ => none }
def stampMemoryRow : OpenClaim := { program := "yteejmocdagdeeaa", sum := "688c2d0455c8232e5108073900f95edcc75a22c0de6b8c0af0a1cb3dabe24afa", func := "viaduct/viaductlaw07.StampMemory", spec := "stampMemory", apart := false }
def StampMemorySaid : Prop := stampMemoryRow.holds Try.pinned (OpenSpec.ofChange stampMemorySpec)

/-- ITS FALSE NEIGHBOUR: 'it returns false'. Refute it at one input. -/
def stampMemoryWrong : ChangeSpec := { name := "stampMemory", fn := fun _ => fun
  | [d] => { results := [.lit (.bool false)], args := [d] }
  | _ => none }
def StampMemoryWrongFalsely : Prop := stampMemoryRow.holds Try.pinned (OpenSpec.ofChange stampMemoryWrong)

/- THE SECOND FORM. 'bulk': how many values and letters a reading holds, each counted each time it is reached (what is shared counts as often as it is met; a slice's spare places count too). A statement '..UptoSaid' is the law's where the arguments, and the package variables that the reading takes, are together of bulk at most 1048576: NARROWER than '..Said'. Prove '..Said' where nothing that the law and all that it calls make is longer than what came in: it says more and counts as full. Else prove '..UptoSaid'. A law counts once. -/
mutual
def uptoBulk {H : Type} : DataW H → Nat
  | .lit (.string bytes) => bytes.length + 1
  | .lit _ => 1
  | .nil => 1
  | .ptr d => uptoBulk d + 1
  | .slice elems spare => uptoBulkAll elems + uptoBulkAll spare + 1
  | .agg parts => uptoBulkAll parts + 1
  | .iface _ d => uptoBulk d + 1
  | .map entries => uptoBulkEntries entries + 1
  | .held _ => 1
def uptoBulkAll {H : Type} : List (DataW H) → Nat
  | [] => 0
  | d :: r => uptoBulk d + uptoBulkAll r
def uptoBulkEntries {H : Type} : List (Lit × DataW H) → Nat
  | [] => 0
  | x :: r => uptoBulkEntry x + uptoBulkEntries r
def uptoBulkEntry {H : Type} : Lit × DataW H → Nat
  | (.string bytes, d) => bytes.length + uptoBulk d + 1
  | (_, d) => uptoBulk d + 1
 end
def uptoSmall : (H : Type) → List (DataW H) → Bool := fun _ ds => decide (uptoBulkAll ds ≤ 1048576)
def OpenSpec.upto (s : _root_.Go.ChangeSpec) : _root_.Go.OpenSpec := { _root_.Go.OpenSpec.ofChange s with cond := some uptoSmall }

/-- 'viaductlaw07.StampAges', WHERE WHAT IT READS IS OF BULK AT MOST 1048576: true; the input reads as it did. -/
def stampAgesUptoRow : OpenClaim := { program := "yteejmocdagdeeaa", sum := "688c2d0455c8232e5108073900f95edcc75a22c0de6b8c0af0a1cb3dabe24afa", func := "viaduct/viaductlaw07.StampAges", spec := "stampAges", apart := false, narrowed := true }
def StampAgesUptoSaid : Prop := stampAgesUptoRow.holds Try.pinned (OpenSpec.upto stampAgesSpec)

/-- 'viaductlaw07.StampWraps', WHERE WHAT IT READS IS OF BULK AT MOST 1048576: true; the input reads as it did. -/
def stampWrapsUptoRow : OpenClaim := { program := "yteejmocdagdeeaa", sum := "688c2d0455c8232e5108073900f95edcc75a22c0de6b8c0af0a1cb3dabe24afa", func := "viaduct/viaductlaw07.StampWraps", spec := "stampWraps", apart := false, narrowed := true }
def StampWrapsUptoSaid : Prop := stampWrapsUptoRow.holds Try.pinned (OpenSpec.upto stampWrapsSpec)

/-- 'viaductlaw07.StampMemory', WHERE WHAT IT READS IS OF BULK AT MOST 1048576: true; the input reads as it did. -/
def stampMemoryUptoRow : OpenClaim := { program := "yteejmocdagdeeaa", sum := "688c2d0455c8232e5108073900f95edcc75a22c0de6b8c0af0a1cb3dabe24afa", func := "viaduct/viaductlaw07.StampMemory", spec := "stampMemory", apart := false, narrowed := true }
def StampMemoryUptoSaid : Prop := stampMemoryUptoRow.holds Try.pinned (OpenSpec.upto stampMemorySpec)

end Rows
end Go.Proofs.Yteejmocdagdeeaa

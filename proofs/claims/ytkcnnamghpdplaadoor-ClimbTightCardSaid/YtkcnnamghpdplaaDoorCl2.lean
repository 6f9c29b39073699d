/- Hierarchies: how many links, copies, alike ones. -/
import Derived.Test.YtkcnnamghpdplaaDoorCl1
set_option linter.unusedSimpArgs false
set_option linter.unusedVariables false
namespace Go.Proofs.YtkcnnamghpdplaaDoor
open Go.RowKit

structure HierT where
  node : List Nat
  uf : List Nat
  up : List Lk
  df : List Nat
  dn : List Lk
/-- where the lists lie, and their capacities -/
structure HV where
  a0 : Option Addr
  a1 : Option Addr
  a2 : Option Addr
  a3 : Option Addr
  a4 : Option Addr
  c0 : Nat
  c1 : Nat
  c2 : Nat
  c3 : Nat
  c4 : Nat
abbrev hierV (k : HV) (h : HierT) : Value := .agg #[.slice k.a0 h.node.length k.c0, .slice k.a1 h.uf.length k.c1, .slice k.a2 h.up.length k.c2, .slice k.a3 h.df.length k.c3, .slice k.a4 h.dn.length k.c4]
structure RdH (w : World) (k : HV) (h : HierT) : Prop where
  r0 : Rd32 w k.a0 h.node.length h.node
  r1 : Rd32 w k.a1 h.uf.length h.uf
  r2 : RdK w k.a2 h.up.length h.up
  r3 : Rd32 w k.a3 h.df.length h.df
  r4 : RdK w k.a4 h.dn.length h.dn
theorem RdH.below {w w' : World} {k : HV} {h : HierT} (r : RdH w k h) (hb : Below w.heap.size w w') : RdH w' k h :=
  ⟨r.r0.below hb, r.r1.below hb, r.r2.below hb, r.r3.below hb, r.r4.below hb⟩
/-- no list takes more than there is memory -/
structure Small (k : HV) (h : HierT) : Prop where
  s0 : h.node.length * 4 ≤ 140737488351232
  s1 : h.uf.length * 4 ≤ 140737488351232
  s2 : h.up.length * 24 ≤ 140737488351232
  s3 : h.df.length * 4 ≤ 140737488351232
  s4 : h.dn.length * 24 ≤ 140737488351232
  t0 : h.node.length ≤ k.c0 ∧ k.c0 ≤ 9223372036854775807
  t1 : h.uf.length ≤ k.c1 ∧ k.c1 ≤ 9223372036854775807
  t2 : h.up.length ≤ k.c2 ∧ k.c2 ≤ 9223372036854775807
  t3 : h.df.length ≤ k.c3 ∧ k.c3 ≤ 9223372036854775807
  t4 : h.dn.length ≤ k.c4 ∧ k.c4 ≤ 9223372036854775807
def In32 (n : Nat) : Prop := n ≤ 4294967295
structure InK (l : Lk) : Prop where
  to : In32 l.to
  w : 0 ≤ l.w ∧ l.w ≤ 18446744073709551615
  l_ : In32 l.l
  r : In32 l.r
structure InH (h : HierT) : Prop where
  i0 : ∀ x ∈ h.node, In32 x
  i1 : ∀ x ∈ h.uf, In32 x
  i2 : ∀ x ∈ h.up, InK x
  i3 : ∀ x ∈ h.df, In32 x
  i4 : ∀ x ∈ h.dn, InK x
theorem Count_any (k : HV) (h : HierT) (W : World) (hs : Small k h) :
    Calls Tryd.prog 27 #[hierV k h] W fun e w' => e = .returned (.int .i64 ((h.up.length : Int) + (h.dn.length : Int))) ∧ Below W.heap.size W w' := by
  have h2 := hs.s2
  have h4 := hs.s4
  clear hs
  unfold hierV
  generalize h.up.length = n2 at *
  generalize h.dn.length = n4 at *
  go_enter Tryd.func27, Tryd.ntmps27
  go_wp2_with (go_quiet (fail))
  go_ret
  exact ⟨rfl, by first | exact (Below.refl _ W).alloc (Nat.le_refl _) _ | exact ((Below.refl _ W).alloc (Nat.le_refl _) _).drew⟩
def greatB (h : HierT) : Bool := decide (2000 < h.up.length + h.dn.length ∧ h.up.length + h.dn.length ≤ 1048576)
theorem great_any (k : HV) (h : HierT) (W : World) (hs : Small k h) :
    Calls Tryd.prog 8 #[hierV k h] W fun e w' => e = .returned (.bool (greatB h)) ∧ Below W.heap.size W w' := by
  have HC := Lib.hid (fun w => Count_any k h w hs)
  generalize hr : greatB h = r
  have HR := Lib.hid hr
  unfold greatB at HR
  clear hr hs
  unfold hierV at *
  generalize h.up.length = n2 at *
  generalize h.dn.length = n4 at *
  go_enter Tryd.func8, Tryd.ntmps8
  go_wp2_with fail
  refine (HC.out _).mono ?_
  rintro e w2 ⟨rfl, hb⟩
  have d0 := cell_below hb ((cells_new W #[.slice k.a0 h.node.length k.c0, .slice k.a1 h.uf.length k.c1, .slice k.a2 n2 k.c2, .slice k.a3 h.df.length k.c3, .slice k.a4 n4 k.c4] 25).cell 0)
  have d1 := cell_below hb ((cells_new W #[.slice k.a0 h.node.length k.c0, .slice k.a1 h.uf.length k.c1, .slice k.a2 n2 k.c2, .slice k.a3 h.df.length k.c3, .slice k.a4 n4 k.c4] 25).cell 1)
  have d2 := cell_below hb ((cells_new W #[.slice k.a0 h.node.length k.c0, .slice k.a1 h.uf.length k.c1, .slice k.a2 n2 k.c2, .slice k.a3 h.df.length k.c3, .slice k.a4 n4 k.c4] 25).cell 2)
  have d3 := cell_below hb ((cells_new W #[.slice k.a0 h.node.length k.c0, .slice k.a1 h.uf.length k.c1, .slice k.a2 n2 k.c2, .slice k.a3 h.df.length k.c3, .slice k.a4 n4 k.c4] 25).cell 3)
  have d4 := cell_below hb ((cells_new W #[.slice k.a0 h.node.length k.c0, .slice k.a1 h.uf.length k.c1, .slice k.a2 n2 k.c2, .slice k.a3 h.df.length k.c3, .slice k.a4 n4 k.c4] 25).cell 4)
  have HB := Lib.hid (((Below.refl _ W).alloc (Nat.le_refl _) _).trans (hb.mono (by simp)))
  clear hb
  by_cases h1 : 2000 < n2 + n4
  · have g1 : decide ((2000 : Int) < (n2 : Int) + (n4 : Int)) = true := decide_eq_true (by omega)
    go_wp2_with fail
    refine (HC.out _).mono ?_
    rintro e w3 ⟨rfl, hb⟩
    have HB3 := Lib.hid (HB.out.trans (hb.mono HB.out.size))
    clear hb
    go_wp2_with fail
    go_ret
    refine ⟨?_, HB3.out⟩
    rw [← HR.out]
    refine congrArg (fun b => Ending.returned (.bool b)) ?_
    rw [decide_eq_decide]
    omega
  · have g1 : decide ((2000 : Int) < (n2 : Int) + (n4 : Int)) = false := decide_eq_false (by omega)
    go_wp2_with fail
    go_ret
    refine ⟨?_, HB.out⟩
    rw [← HR.out]
    refine congrArg (fun b => Ending.returned (.bool b)) ?_
    exact (decide_eq_false (fun h => h1 h.1)).symm
end Go.Proofs.YtkcnnamghpdplaaDoor

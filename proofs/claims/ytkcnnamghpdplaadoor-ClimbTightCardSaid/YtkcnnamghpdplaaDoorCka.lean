/- sound.Check at a hierarchy in form. -/
import Derived.Test.YtkcnnamghpdplaaDoorCk9
import Derived.Test.YtkcnnamghpdplaaDoorCl25
set_option linter.unusedSimpArgs false
set_option linter.unusedVariables false
namespace Go.Proofs.YtkcnnamghpdplaaDoor
open Go.RowKit

def SCheckIs (n : Nat) (U V : Nat → List Lk) (W : World) (e : Ending) (w' : World) : Prop := Below W.heap.size W w' ∧ ((e = .returned .nilIface ∧ ∀ r, r < n → TrueAt n U V r) ∨ ∃ g, e = .returned (.iface 74 (.pointer (some ⟨g, 0, none⟩))))
theorem check_none (k : HV) (h : HierT) (W : World) (hp : RdH W k h) (hs : Small k h) (hin : InH h) (hc : chkB h = none) : Calls Tryd.prog 28 #[hierV k h] W fun e w' => e = .returned .nilIface ∧ Below W.heap.size W w' := by
  have h1 := Check_any k h W hp hs hin
  rw [hc] at h1
  exact h1.mono fun e w' he => ⟨he.2, he.1⟩
/-- what weave leaves, as the searches want it -/
structure WebIs (w : World) (base G n : Nat) (U V : Nat → List Lk) (sv : Nat → Value) (O : List (List StT)) : Prop where
  at_ : WebAt w base G n sv O
  web : Web n (rowS O)
  eq : ES (rowS O) = Ed n U V
theorem WebIs.below {w w' : World} {base G n : Nat} {U V : Nat → List Lk} {sv : Nat → Value} {O : List (List StT)} (h : WebIs w base G n U V sv O) (hb : Below w.heap.size w w') : WebIs w' base G n U V sv O := ⟨h.at_.below hb, h.web, h.eq⟩
theorem weave_is (k : HV) (h : HierT) (W : World) (hp : RdH W k h) (hs : Small k h) (hin : InH h) (hU : Side h.node.length h.uf h.up) (hV : Side h.node.length h.df h.dn) :
    Calls Tryd.prog 41 #[hierV k h] W fun e w' => ∃ G sv O, e = .returned (.agg #[.slice (some ⟨G, 0, none⟩) h.node.length h.node.length]) ∧ WebIs w' W.heap.size G h.node.length (seg h.uf h.up) (seg h.df h.dn) sv O ∧ Below W.heap.size W w' := by
  refine (weave_any k h W hp hs hin hU hV).mono ?_
  rintro e w' ⟨G, sv, O, rfl, h1, h2, h3, h4⟩
  obtain ⟨k1, k2⟩ := h2.web hU.ups hV.ups
  exact ⟨G, sv, O, rfl, ⟨h1, k1, k2⟩, h3⟩
set_option maxRecDepth 100000 in
set_option maxHeartbeats 8000000 in
theorem SCheck_any (k : HV) (h : HierT) (W : World) (hp : RdH W k h) (hs : Small k h) (hin : InH h) (hc : chkB h = none) :
    Calls Tryd.prog 24 #[hierV k h] W (SCheckIs h.node.length (seg h.uf h.up) (seg h.df h.dn) W) := by
  have so := Sound.of_none hc
  have hU := so.up hin
  have hV := so.dn hin
  have hn := hU.n_le
  have HCK : Hid (∀ w, Below W.heap.size W w → Calls Tryd.prog 28 #[hierV k h] w fun e w' => e = .returned .nilIface ∧ Below w.heap.size w w') := Lib.hid fun w hb => check_none k h w (hp.below hb) hs hin hc
  have HWV : Hid (∀ w, Below W.heap.size W w → Calls Tryd.prog 41 #[hierV k h] w fun e w' => ∃ G sv O, e = .returned (.agg #[.slice (some ⟨G, 0, none⟩) h.node.length h.node.length]) ∧ WebIs w' w.heap.size G h.node.length (seg h.uf h.up) (seg h.df h.dn) sv O ∧ Below w.heap.size w w') := Lib.hid fun w hb => weave_is k h w (hp.below hb) hs hin hU hV
  have HHO : Hid (∀ base G sv O r w, Below W.heap.size W w → WebIs w base G h.node.length (seg h.uf h.up) (seg h.df h.dn) sv O → r < h.node.length → Calls Tryd.prog 43 #[.agg #[.slice (some ⟨G, 0, none⟩) h.node.length h.node.length], hierV k h, .int .i64 (r : Int)] w (HoldsIs h.node.length (seg h.uf h.up) (seg h.df h.dn) r w)) := Lib.hid fun base G sv O r w hb hw hr => holds_any base G sv O r k h w hw.at_ hw.web hw.eq (hp.below hb) hs hin hU hV hr
  clear so hU hV hp hs hin hc
  unfold hierV at *
  generalize seg h.uf h.up = U at *
  generalize seg h.df h.dn = V at *
  generalize h.node.length = n at *
  generalize h.uf.length = n1 at *
  generalize h.up.length = n2 at *
  generalize h.df.length = n3 at *
  generalize h.dn.length = n4 at *
  go_enter Tryd.func24, Tryd.ntmps24
  refine wp_post_named6 ?_
  intro Q0 hQ0
  have HQ0 := Lib.hid hQ0
  clear hQ0
  go_upto_region 1 with fail
  have hb1 := (Below.refl W.heap.size W).alloc (Nat.le_refl _) (.cells #[.slice k.a0 n k.c0, .slice k.a1 n1 k.c1, .slice k.a2 n2 k.c2, .slice k.a3 n3 k.c3, .slice k.a4 n4 k.c4] 25)
  have hc1 := cells_new W #[.slice k.a0 n k.c0, .slice k.a1 n1 k.c1, .slice k.a2 n2 k.c2, .slice k.a3 n3 k.c3, .slice k.a4 n4 k.c4] 25
  generalize W.alloc (.cells #[.slice k.a0 n k.c0, .slice k.a1 n1 k.c1, .slice k.a2 n2 k.c2, .slice k.a3 n3 k.c3, .slice k.a4 n4 k.c4] 25) = w1 at *
  have HB1 := Lib.hid hb1
  have HC1 := Lib.hid hc1
  clear hb1 hc1
  have d0 : w1.cell? ⟨W.heap.size, 0, none⟩ = some (.slice k.a0 n k.c0) := HC1.out.cell 0
  have d1 : w1.cell? ⟨W.heap.size, 1, none⟩ = some (.slice k.a1 n1 k.c1) := HC1.out.cell 1
  have d2 : w1.cell? ⟨W.heap.size, 2, none⟩ = some (.slice k.a2 n2 k.c2) := HC1.out.cell 2
  have d3 : w1.cell? ⟨W.heap.size, 3, none⟩ = some (.slice k.a3 n3 k.c3) := HC1.out.cell 3
  have d4 : w1.cell? ⟨W.heap.size, 4, none⟩ = some (.slice k.a4 n4 k.c4) := HC1.out.cell 4
  go_wp2_with fail
  refine (HCK.out w1 HB1.out).mono ?_
  rintro e w2 ⟨rfl, hb⟩
  have HB2 := Lib.hid (HB1.out.trans (hb.mono HB1.out.size))
  have HC2 := Lib.hid (HC1.out.below hb)
  clear hb d0 d1 d2 d3 d4 HB1 HC1 HCK
  have d0 : w2.cell? ⟨W.heap.size, 0, none⟩ = some (.slice k.a0 n k.c0) := HC2.out.cell 0
  have d1 : w2.cell? ⟨W.heap.size, 1, none⟩ = some (.slice k.a1 n1 k.c1) := HC2.out.cell 1
  have d2 : w2.cell? ⟨W.heap.size, 2, none⟩ = some (.slice k.a2 n2 k.c2) := HC2.out.cell 2
  have d3 : w2.cell? ⟨W.heap.size, 3, none⟩ = some (.slice k.a3 n3 k.c3) := HC2.out.cell 3
  have d4 : w2.cell? ⟨W.heap.size, 4, none⟩ = some (.slice k.a4 n4 k.c4) := HC2.out.cell 4
  go_wp2_with fail
  refine (HWV.out w2 HB2.out).mono ?_
  rintro e w3 ⟨G, sv, O, rfl, hw, hb⟩
  have HB3 := Lib.hid (HB2.out.trans (hb.mono HB2.out.size))
  have HC3 := Lib.hid (HC2.out.below hb)
  generalize w2.heap.size = base at *
  have HWB3 := Lib.hid hw
  clear hb hw d0 d1 d2 d3 d4 HB2 HC2 HWV
  go_upto_region 5 with fail
  have hb4 := (Below.refl w3.heap.size w3).alloc (Nat.le_refl _) (.cells #[.slice (some ⟨G, 0, none⟩) n n] 90)
  have HX4 := Lib.hid (cells_new w3 #[.slice (some ⟨G, 0, none⟩) n n] 90)
  have HB4 := Lib.hid (HB3.out.trans (hb4.mono HB3.out.size))
  have HC4 := Lib.hid (HC3.out.below hb4)
  have HWB4 := Lib.hid (HWB3.out.below hb4)
  clear hb4 HB3 HC3 HWB3
  generalize w3.alloc (.cells #[.slice (some ⟨G, 0, none⟩) n n] 90) = w4 at *
  generalize w3.heap.size = X at *
  have d0 : w4.cell? ⟨W.heap.size, 0, none⟩ = some (.slice k.a0 n k.c0) := HC4.out.cell 0
  go_wp2_with fail
  clear d0
  go_loopw [16] (fun iv wr => ∃ r : Nat, r ≤ n ∧ iv = .int .i64 r ∧ (∀ q, q < r → TrueAt n U V q) ∧ Below w4.heap.size w4 wr) (fun iv _ => n - (intOf iv).toNat)
  case atStart => exact ⟨0, by omega, rfl, fun q hq => by omega, Below.refl _ _⟩
  case round =>
    obtain ⟨r, hr, rfl, htr, hb⟩ := hrel
    have HTR := Lib.hid htr
    have HB := Lib.hid hb
    clear htr hb
    by_cases hlt : r < n
    · have g0 : decide ((r : Int) < (n : Int)) = true := decide_eq_true (by omega)
      have HC5 := Lib.hid (HC4.out.below HB.out)
      have d0 : wr.cell? ⟨W.heap.size, 0, none⟩ = some (.slice k.a0 n k.c0) := HC5.out.cell 0
      have d1 : wr.cell? ⟨W.heap.size, 1, none⟩ = some (.slice k.a1 n1 k.c1) := HC5.out.cell 1
      have d2 : wr.cell? ⟨W.heap.size, 2, none⟩ = some (.slice k.a2 n2 k.c2) := HC5.out.cell 2
      have d3 : wr.cell? ⟨W.heap.size, 3, none⟩ = some (.slice k.a3 n3 k.c3) := HC5.out.cell 3
      have d4 : wr.cell? ⟨W.heap.size, 4, none⟩ = some (.slice k.a4 n4 k.c4) := HC5.out.cell 4
      have x0 : wr.cell? ⟨X, 0, none⟩ = some (.slice (some ⟨G, 0, none⟩) n n) := (HX4.out.below HB.out).cell 0
      have HBW := Lib.hid (HB4.out.trans (HB.out.mono HB4.out.size))
      go_wp2_with fail
      refine (HHO.out base G sv O r wr HBW.out (HWB4.out.below HB.out) hlt).mono ?_
      rintro e w6 ⟨b, rfl, hb, hb6⟩
      have HIF := Lib.hid hb
      have HB6 := Lib.hid (HB.out.trans (hb6.mono HB.out.size))
      have HBW6 := Lib.hid (HBW.out.trans (hb6.mono HBW.out.size))
      clear hb hb6 d0 d1 d2 d3 d4 x0 HC5
      cases b with
      | true =>
        have HNX : Hid (∀ q, q < r + 1 → TrueAt n U V q) := Lib.hid (by
          intro q hq
          rcases Nat.lt_or_ge q r with h | h
          · exact HTR.out q h
          · obtain rfl : q = r := by omega
            exact HIF.out.1 rfl)
        go_wp2_with fail
        go_roundw
        case rel => exact ⟨r + 1, by omega, by go_num, HNX.out, HB6.out⟩
        case measure => simp [intOf]; omega
      | false =>
        go_wp2_with fail
        refine (FaultAt_any 3 (r : Int) 15 w6).mono ?_
        rintro e w7 ⟨rfl, hc7, hb7⟩
        have HBE := Lib.hid (HBW6.out.trans (hb7.mono HBW6.out.size))
        clear hc7 hb7
        go_wp2_with fail
        rw [HQ0.out]
        go_ret
        exact ⟨HBE.out, .inr ⟨_, rfl⟩⟩
    · obtain rfl : n = r := by omega
      have HBE := Lib.hid (HB4.out.trans (HB.out.mono HB4.out.size))
      go_wp2_with fail
      rw [HQ0.out]
      go_ret
      exact ⟨HBE.out, .inl ⟨rfl, HTR.out⟩⟩
end Go.Proofs.YtkcnnamghpdplaaDoor

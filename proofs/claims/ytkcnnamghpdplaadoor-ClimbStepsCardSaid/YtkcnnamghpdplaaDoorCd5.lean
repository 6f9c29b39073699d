/- ClimbSteps: the walk. (Printed by gen_steps.py.) -/
import Derived.Test.YtkcnnamghpdplaaDoorCd1
import Derived.Test.YtkcnnamghpdplaaDoorCd3
import Derived.Test.YtkcnnamghpdplaaDoorCl33
import Derived.Test.YtkcnnamghpdplaaDoorClRecs
import Derived.Deep.DeepCutAuto
import Derived.BigRegion
import Derived.RegionTactic
import Derived.BigQuiet
import Derived.StillTailTactics
set_option linter.unusedSimpArgs false
set_option linter.unusedVariables false
namespace Go.Proofs.YtkcnnamghpdplaaDoor
open Go.RowKit

def bA (m : List Bool) : Array Value := (m.map Value.bool).toArray
theorem bA_at {m : List Bool} {i : Nat} (hi : i < m.length) : (bA m)[i]? = some (.bool (m.getD i false)) := by
  unfold bA
  rw [List.getElem?_toArray, List.getElem?_map, List.getD_eq_getElem?_getD, List.getElem?_eq_getElem hi]
  rfl
theorem bA_set (m : List Bool) (i : Nat) (v : Bool) : (bA m).setIfInBounds i (.bool v) = bA (m.set i v) := by
  unfold bA
  rw [List.setIfInBounds_toArray, List.map_set]
theorem info_boolS : (Tryd.prog.info? 4).map (fun i => (i.zero, i.size, i.bytes)) = some (some (.bool false), 1, 1) := by kernel_rfl
theorem made_bA (n : Nat) : madeCells #[Value.bool false] n = bA (List.replicate n false) := by
  apply Array.toList_inj.1
  rw [toList_madeCells_one]
  simp [bA]
theorem make_boolL (n : Nat) (hn : n ≤ 65536) (W : World) : (Instr.makeSlice 49 (.int .i64 (n : Int)) (.int .i64 (n : Int))).run Tryd.prog W = .ok (.slice (some ⟨W.heap.size, 0, none⟩) n n) (W.alloc (.cells (bA (List.replicate n false)) 4)) := by
  obtain ⟨i, hi, hz0, hz1, hz2⟩ := info_parts info_boolS
  have h := run_make (P := Tryd.prog) W 49 4 i _ Tryd.underlying49 hi hz0 .i64 .i64 (n : Int) (n : Int) (by omega) (by omega) (by rw [hz2]; omega) (by omega)
  rw [h, hz1, Int.toNat_natCast, Nat.mul_one]
  exact congrArg (fun c => Result.ok (Value.slice (some ⟨W.heap.size, 0, none⟩) n n) (W.alloc (.cells c 4))) (made_bA n)
theorem still_of_quiet {P : Program} {ops : Array Oper} {w : World} {Q : Act → Prop} : ∀ (l : List Oper) (a : Act), wpQuiet P ops (fun x => x = w) Q l a → wpStill P ops w Q l a
  | [], a, h => h
  | o :: rest, a, h => by
    unfold wpStill
    unfold wpQuiet at h
    by_cases hw : Region.wanted o (yielded ops a.tmps) = true
    · rw [if_pos hw] at h ⊢
      obtain ⟨v, h1, h2⟩ := h
      have h3 := h1 w rfl
      unfold Oper.quietAt at h3
      unfold Oper.still
      revert h3
      cases hr : (execOp a.eval o).run P w with
      | ok n w' =>
        cases n with
        | value u =>
          rintro ⟨rfl, rfl⟩
          exact ⟨rfl, still_of_quiet rest _ h2⟩
        | skip =>
          rintro ⟨rfl, rfl⟩
          exact ⟨rfl, still_of_quiet rest _ h2⟩
        | enter f args =>
          rintro ⟨rfl, hc⟩
          exact ⟨rfl, v, hc, still_of_quiet rest _ h2⟩
        | _ => exact fun h => h.elim
      | _ => exact fun h => h.elim
    · rw [if_neg hw] at h ⊢
      exact still_of_quiet rest _ h
theorem up_cases (h : HierT) (s : Int) : (∃ b, chkB h = some b ∧ upBug h s = some b) ∨ (chkB h = none ∧ (s < 0 ∨ (h.node.length : Int) ≤ s) ∧ upBug h s = some (7, none)) ∨ (chkB h = none ∧ 0 ≤ s ∧ s < (h.node.length : Int) ∧ upBug h s = none) := by
  unfold upBug
  cases hc : chkB h with
  | some b => exact .inl ⟨b, rfl, rfl⟩
  | none =>
    by_cases hr : s < 0 ∨ (h.node.length : Int) ≤ s
    · exact .inr (.inl ⟨rfl, hr, if_pos hr⟩)
    · exact .inr (.inr ⟨rfl, by omega, by omega, if_neg hr⟩)
def UpRes (k : HV) (h : HierT) (s : Int) (bug : Bug) : Prop := ∀ W, RdH W k h → Calls Tryd.prog 9 #[hierV k h, .int .i64 s] W (ClimbRes bug h.node.length (seg h.uf h.up) (seg h.df h.dn) s.toNat W)
def ChkRes (k : HV) (h : HierT) (bug : Bug) : Prop := ∀ W, RdH W k h → Calls Tryd.prog 17 #[hierV k h] W (ErrDoc bug W)
set_option maxRecDepth 100000 in
set_option maxHeartbeats 16000000 in
theorem ClimbSteps_any (k : HV) (h : HierT) (s : Int) (W : World) (hg : ErrT W) (hp : RdH W k h) (hs : Small k h) (hin : InH h) (hs0 : -9223372036854775808 ≤ s) (hs1 : s ≤ 9223372036854775807) :
    Calls Tryd.prog 4 #[hierV k h, .int .i64 s] W (BoolBelow true W) := by
  have HGT := Lib.hid hg
  have HP := Lib.hid hp
  have HS := Lib.hid hs
  have HIN := Lib.hid hin
  have HGB := Lib.hid (good_chk h)
  have HUP : Hid (UpRes k h s (upBug h s)) := Lib.hid fun w hr => Up_any k h s w hr hs hin hs0 hs1
  have HCK : Hid (ChkRes k h (chkB h)) := Lib.hid fun w hr => DocCheck_any k h w hr hs hin
  have hss := hs.s0
  clear hg hp hs hin
  unfold hierV
  go_enter Tryd.func4, Tryd.ntmps4
  refine wp_post_named' ?_
  intro Q0 hQ0
  have HQ0 := Lib.hid hQ0
  clear hQ0
  go_upto_region 1 with fail
  have hb1 := (Below.refl W.heap.size W).alloc (Nat.le_refl _) (.cells #[.slice k.a0 h.node.length k.c0, .slice k.a1 h.uf.length k.c1, .slice k.a2 h.up.length k.c2, .slice k.a3 h.df.length k.c3, .slice k.a4 h.dn.length k.c4] 25)
  have hc1 := cells_new W #[.slice k.a0 h.node.length k.c0, .slice k.a1 h.uf.length k.c1, .slice k.a2 h.up.length k.c2, .slice k.a3 h.df.length k.c3, .slice k.a4 h.dn.length k.c4] 25
  generalize W.alloc (.cells #[.slice k.a0 h.node.length k.c0, .slice k.a1 h.uf.length k.c1, .slice k.a2 h.up.length k.c2, .slice k.a3 h.df.length k.c3, .slice k.a4 h.dn.length k.c4] 25) = w1 at *
  have HB1 := Lib.hid hb1
  have HC1 := Lib.hid hc1
  clear hb1 hc1
  go_wp2_with fail
  refine (awake_any w1).mono ?_
  rintro e w2 ⟨rfl, hb⟩
  have HB2 := Lib.hid (HB1.out.trans (hb.mono HB1.out.size))
  have HC2 := Lib.hid (HC1.out.below hb)
  clear hb HB1 HC1
  have HG := Lib.hid (great_any k h w2 HS.out)
  unfold hierV at HG
  have d0 : w2.cell? ⟨W.heap.size, 0, none⟩ = some (.slice k.a0 h.node.length k.c0) := HC2.out.cell 0
  have d1 : w2.cell? ⟨W.heap.size, 1, none⟩ = some (.slice k.a1 h.uf.length k.c1) := HC2.out.cell 1
  have d2 : w2.cell? ⟨W.heap.size, 2, none⟩ = some (.slice k.a2 h.up.length k.c2) := HC2.out.cell 2
  have d3 : w2.cell? ⟨W.heap.size, 3, none⟩ = some (.slice k.a3 h.df.length k.c3) := HC2.out.cell 3
  have d4 : w2.cell? ⟨W.heap.size, 4, none⟩ = some (.slice k.a4 h.dn.length k.c4) := HC2.out.cell 4
  go_wp2_with fail
  refine HG.out.mono ?_
  rintro e w3 ⟨rfl, hb⟩
  have HB3 := Lib.hid (HB2.out.trans (hb.mono HB2.out.size))
  have HC3 := Lib.hid (HC2.out.below hb)
  clear hb d0 d1 d2 d3 d4 HB2 HC2 HG
  cases greatB h
  rotate_left
  · go_wp2_with fail
    rw [HQ0.out]
    go_ret
    exact ⟨rfl, HB3.out⟩
  have d0 : w3.cell? ⟨W.heap.size, 0, none⟩ = some (.slice k.a0 h.node.length k.c0) := HC3.out.cell 0
  by_cases h60 : 60 < h.node.length
  · have g60 : decide ((60 : Int) < (h.node.length : Int)) = true := decide_eq_true (by omega)
    have g61 : decide (60 < h.node.length) = true := decide_eq_true h60
    go_wp2_with fail
    rw [HQ0.out]
    go_ret
    exact ⟨rfl, HB3.out⟩
  have g60 : decide ((60 : Int) < (h.node.length : Int)) = false := decide_eq_false (by omega)
  have g61 : decide (60 < h.node.length) = false := decide_eq_false h60
  have hn60 : h.node.length ≤ 60 := by omega
  clear d0
  have d0 : w3.cell? ⟨W.heap.size, 0, none⟩ = some (.slice k.a0 h.node.length k.c0) := HC3.out.cell 0
  have d1 : w3.cell? ⟨W.heap.size, 1, none⟩ = some (.slice k.a1 h.uf.length k.c1) := HC3.out.cell 1
  have d2 : w3.cell? ⟨W.heap.size, 2, none⟩ = some (.slice k.a2 h.up.length k.c2) := HC3.out.cell 2
  have d3 : w3.cell? ⟨W.heap.size, 3, none⟩ = some (.slice k.a3 h.df.length k.c3) := HC3.out.cell 3
  have d4 : w3.cell? ⟨W.heap.size, 4, none⟩ = some (.slice k.a4 h.dn.length k.c4) := HC3.out.cell 4
  have HCU := HUP.out w3 (HP.out.below HB3.out)
  unfold hierV at HCU
  have HCC := Lib.hid HCU
  clear HCU HUP
  go_wp2_with fail
  refine HCC.out.mono ?_
  clear HCC d0 d1 d2 d3 d4 g60 g61 h60
  rintro e w4 he
  rcases up_cases h s with ⟨b, hc, hu⟩ | ⟨hc, hr, hu⟩ | ⟨hc, hr0, hr1, hu⟩
  · rw [hu] at he
    obtain ⟨v, rfl, hv⟩ := he
    have HV4 := Lib.hid hv.px
    have HB4 := Lib.hid (HB3.out.trans (hv.1.mono HB3.out.size))
    have HC4 := Lib.hid (HC3.out.below hv.1)
    clear hv HB3 HC3
    have d0 : w4.cell? ⟨W.heap.size, 0, none⟩ = some (.slice k.a0 h.node.length k.c0) := HC4.out.cell 0
    have d1 : w4.cell? ⟨W.heap.size, 1, none⟩ = some (.slice k.a1 h.uf.length k.c1) := HC4.out.cell 1
    have d2 : w4.cell? ⟨W.heap.size, 2, none⟩ = some (.slice k.a2 h.up.length k.c2) := HC4.out.cell 2
    have d3 : w4.cell? ⟨W.heap.size, 3, none⟩ = some (.slice k.a3 h.df.length k.c3) := HC4.out.cell 3
    have d4 : w4.cell? ⟨W.heap.size, 4, none⟩ = some (.slice k.a4 h.dn.length k.c4) := HC4.out.cell 4
    have HCU := HCK.out w4 (HP.out.below HB4.out)
    unfold hierV at HCU
    rw [hc] at HCU
    have HDC := Lib.hid HCU
    clear HCU
    go_wp2_with fail
    refine HDC.out.mono ?_
    rintro e w5 he
    obtain ⟨x, rfl, hx, hb⟩ := he.x
    have HB5 := Lib.hid (HB4.out.trans (hb.mono HB4.out.size))
    have HC5 := Lib.hid (HC4.out.below hb)
    have HV5 := Lib.hid (HV4.out.below hb)
    have HX5 := Lib.hid hx
    have hbad := hx.bad (by rw [← hc]; exact HGB.out)
    have HGX : Hid (GoodB (some b)) := Lib.hid (by rw [← hc]; exact HGB.out)
    obtain ⟨x0, x1, x2, x3⟩ := x
    have HBD : Hid (decide (x0 ≠ 0 ∨ 0 < x2) = true) := Lib.hid hbad
    clear hb hx he hbad HV4 HB4 HC4 HDC d0 d1 d2 d3 d4
    dsimp only [errV]
    go_upto_region 7 with fail
    have hb6 := (Below.refl w5.heap.size w5).alloc (Nat.le_refl _) (.cells #[.int .i64 x0, .slice x1 x2 x3] 37)
    have HB6 := Lib.hid (HB5.out.trans (hb6.mono HB5.out.size))
    have HV6 := Lib.hid (HV5.out.below hb6)
    have HX6 := Lib.hid (HX5.out.below hb6)
    have HE6 := Lib.hid (cells_new w5 #[.int .i64 x0, .slice x1 x2 x3] 37)
    clear hb6 HB5 HC5 HV5 HX5
    generalize w5.alloc (.cells #[.int .i64 x0, .slice x1 x2 x3] 37) = w6 at *
    generalize w5.heap.size = E at *
    have y0 : w6.cell? ⟨E, 0, none⟩ = some (.int .i64 x0) := HE6.out.cell 0
    have y1 : w6.cell? ⟨E, 1, none⟩ = some (.slice x1 x2 x3) := HE6.out.cell 1
    go_wp2_with fail
    refine (Bad_any x0 x1 x2 x3 w6).mono ?_
    rw [HBD.out]
    rintro e w7 ⟨rfl, hb⟩
    have HB7 := Lib.hid (HB6.out.trans (hb.mono HB6.out.size))
    have HV7 := Lib.hid (HV6.out.below hb)
    have HX7 := Lib.hid (HX6.out.below hb)
    have HE7 := Lib.hid (HE6.out.below hb)
    have HSB := Lib.hid (same_bug HV7.out HX7.out HGX.out (HGT.out.below HB7.out))
    clear hb y0 y1 HB6 HV6 HX6 HE6
    have y0 : w7.cell? ⟨E, 0, none⟩ = some (.int .i64 x0) := HE7.out.cell 0
    have y1 : w7.cell? ⟨E, 1, none⟩ = some (.slice x1 x2 x3) := HE7.out.cell 1
    go_wp2_with fail
    refine HSB.out.mono ?_
    rintro e w8 ⟨rfl, hb⟩
    have HB8 := Lib.hid (HB7.out.trans (hb.mono HB7.out.size))
    clear hb y0 y1 HB7 HV7 HX7 HE7 HSB
    go_wp2_with fail
    rw [HQ0.out]
    go_ret
    exact ⟨rfl, HB8.out⟩
  · rw [hu] at he
    obtain ⟨v, rfl, hv⟩ := he
    have hv7 : v = .iface 56 (.int .i64 7) := hv.px
    subst hv7
    have HB4 := Lib.hid (HB3.out.trans (hv.1.mono HB3.out.size))
    have HC4 := Lib.hid (HC3.out.below hv.1)
    clear hv HB3 HC3
    have d0 : w4.cell? ⟨W.heap.size, 0, none⟩ = some (.slice k.a0 h.node.length k.c0) := HC4.out.cell 0
    have d1 : w4.cell? ⟨W.heap.size, 1, none⟩ = some (.slice k.a1 h.uf.length k.c1) := HC4.out.cell 1
    have d2 : w4.cell? ⟨W.heap.size, 2, none⟩ = some (.slice k.a2 h.up.length k.c2) := HC4.out.cell 2
    have d3 : w4.cell? ⟨W.heap.size, 3, none⟩ = some (.slice k.a3 h.df.length k.c3) := HC4.out.cell 3
    have d4 : w4.cell? ⟨W.heap.size, 4, none⟩ = some (.slice k.a4 h.dn.length k.c4) := HC4.out.cell 4
    have HCU := HCK.out w4 (HP.out.below HB4.out)
    unfold hierV at HCU
    rw [hc] at HCU
    have HDC := Lib.hid HCU
    clear HCU
    go_wp2_with fail
    refine HDC.out.mono ?_
    rintro e w5 he
    obtain ⟨x, rfl, hx, hb⟩ := he.x
    have HB5 := Lib.hid (HB4.out.trans (hb.mono HB4.out.size))
    have HC5 := Lib.hid (HC4.out.below hb)
    have HBX5 := hb
    have hx5 : x = zX := hx
    subst hx5
    clear hb hx he HB4 HC4 HDC d0 d1 d2 d3 d4
    dsimp only [errV, zX]
    go_upto_region 7 with fail
    have hb6 := (Below.refl w5.heap.size w5).alloc (Nat.le_refl _) (.cells #[.int .i64 0, .slice none 0 0] 37)
    have HB6 := Lib.hid (HB5.out.trans (hb6.mono HB5.out.size))
    have HC6 := Lib.hid (HC5.out.below hb6)
    have HE6 := Lib.hid (cells_new w5 #[.int .i64 0, .slice none 0 0] 37)
    have HBX6 := Lib.hid (HBX5.trans (hb6.mono HBX5.size))
    clear hb6 HB5 HC5 HBX5
    generalize w5.alloc (.cells #[.int .i64 0, .slice none 0 0] 37) = w6 at *
    generalize w5.heap.size = E at *
    have y0 : w6.cell? ⟨E, 0, none⟩ = some (.int .i64 0) := HE6.out.cell 0
    have y1 : w6.cell? ⟨E, 1, none⟩ = some (.slice none 0 0) := HE6.out.cell 1
    go_wp2_with fail
    refine (Bad_any 0 none 0 0 w6).mono ?_
    rintro e w7 ⟨rfl, hb⟩
    have HB7 := Lib.hid (HB6.out.trans (hb.mono HB6.out.size))
    have HC7 := Lib.hid (HC6.out.below hb)
    have HBX7 := Lib.hid (HBX6.out.trans (hb.mono HBX6.out.size))
    clear hb y0 y1 HB6 HC6 HE6 HBX6
    have d0 : w7.cell? ⟨W.heap.size, 0, none⟩ = some (.slice k.a0 h.node.length k.c0) := HC7.out.cell 0
    have key : (decide (s < 0) = true) ∨ (decide (s < 0) = false ∧ decide ((h.node.length : Int) ≤ s) = true) := by
      by_cases h0 : s < 0
      · exact .inl (decide_eq_true h0)
      · exact .inr ⟨decide_eq_false h0, decide_eq_true (by omega)⟩
    clear hr
    rcases key with g1 | ⟨g1, g2⟩
    all_goals
      go_wp2_with fail
      rw [HQ0.out]
      go_ret
      exact ⟨rfl, HB7.out⟩
  · rw [hu] at he
    obtain ⟨D, hD, A, cA, rfl, ho, hb4⟩ := he
    have HB4 := Lib.hid (HB3.out.trans (hb4.mono HB3.out.size))
    have HC4 := Lib.hid (HC3.out.below hb4)
    have so := Sound.of_none hc
    have hSide := so.up HIN.out
    have HSD := Lib.hid hSide
    have HDS := Lib.hid hD
    have HLG := Lib.hid (list_good hSide.ups hD (seg h.df h.dn))
    have hLn := seenTo_len D (seg h.df h.dn) h.node.length
    have hrd := ho.rd encSn_len rfl
    generalize seenTo D (seg h.df h.dn) h.node.length = L at *
    have HRL := Lib.hid hrd
    obtain ⟨s, rfl⟩ : ∃ t : Nat, s = (t : Int) := ⟨s.toNat, by omega⟩
    rw [Int.toNat_natCast] at HDS HLG
    have hsn : s < h.node.length := by omega
    clear hb4 so hSide hD hrd ho HB3 HC3 hr0 hr1 hs0 hs1 hu
    have d0 : w4.cell? ⟨W.heap.size, 0, none⟩ = some (.slice k.a0 h.node.length k.c0) := HC4.out.cell 0
    have d1 : w4.cell? ⟨W.heap.size, 1, none⟩ = some (.slice k.a1 h.uf.length k.c1) := HC4.out.cell 1
    have d2 : w4.cell? ⟨W.heap.size, 2, none⟩ = some (.slice k.a2 h.up.length k.c2) := HC4.out.cell 2
    have d3 : w4.cell? ⟨W.heap.size, 3, none⟩ = some (.slice k.a3 h.df.length k.c3) := HC4.out.cell 3
    have d4 : w4.cell? ⟨W.heap.size, 4, none⟩ = some (.slice k.a4 h.dn.length k.c4) := HC4.out.cell 4
    have HCU := HCK.out w4 (HP.out.below HB4.out)
    unfold hierV at HCU
    rw [hc] at HCU
    have HDC := Lib.hid HCU
    clear HCU
    go_wp2_with fail
    refine HDC.out.mono ?_
    rintro e w5 he
    obtain ⟨x, rfl, hx, hb⟩ := he.x
    have HB5 := Lib.hid (HB4.out.trans (hb.mono HB4.out.size))
    have HC5 := Lib.hid (HC4.out.below hb)
    have HBX5 := hb
    have hx5 : x = zX := hx
    subst hx5
    clear hb hx he HB4 HC4 HDC d0 d1 d2 d3 d4
    dsimp only [errV, zX]
    go_upto_region 7 with fail
    have hb6 := (Below.refl w5.heap.size w5).alloc (Nat.le_refl _) (.cells #[.int .i64 0, .slice none 0 0] 37)
    have HB6 := Lib.hid (HB5.out.trans (hb6.mono HB5.out.size))
    have HC6 := Lib.hid (HC5.out.below hb6)
    have HE6 := Lib.hid (cells_new w5 #[.int .i64 0, .slice none 0 0] 37)
    have HBX6 := Lib.hid (HBX5.trans (hb6.mono HBX5.size))
    clear hb6 HB5 HC5 HBX5
    generalize w5.alloc (.cells #[.int .i64 0, .slice none 0 0] 37) = w6 at *
    generalize w5.heap.size = E at *
    have y0 : w6.cell? ⟨E, 0, none⟩ = some (.int .i64 0) := HE6.out.cell 0
    have y1 : w6.cell? ⟨E, 1, none⟩ = some (.slice none 0 0) := HE6.out.cell 1
    go_wp2_with fail
    refine (Bad_any 0 none 0 0 w6).mono ?_
    rintro e w7 ⟨rfl, hb⟩
    have HB7 := Lib.hid (HB6.out.trans (hb.mono HB6.out.size))
    have HC7 := Lib.hid (HC6.out.below hb)
    have HBX7 := Lib.hid (HBX6.out.trans (hb.mono HBX6.out.size))
    clear hb y0 y1 HB6 HC6 HE6 HBX6
    have HRL7 := Lib.hid (HRL.out.below HBX7.out)
    clear HRL HBX7
    have d0 : w7.cell? ⟨W.heap.size, 0, none⟩ = some (.slice k.a0 h.node.length k.c0) := HC7.out.cell 0
    have HF := Lib.hid (HP.out.r1.below HB7.out)
    have HL := Lib.hid (HP.out.r2.below HB7.out)
    have HK := Lib.hid HIN.out.i2
    have ht1 := HS.out.t1
    have ht2 := HS.out.t2
    have hfl := HSD.out.fl
    have hl0 := HSD.out.l_le
    have hmk := make_u64 h.node.length (by omega)
    have hmb := make_boolL h.node.length (by omega)
    have hWG := HC7.out.lt
    clear HP HS HIN HCK HGB hc hss HGT d0
    generalize h.node.length = n at *
    generalize h.dn.length = n4 at *
    generalize h.df.length = n3 at *
    generalize h.uf = f at *
    generalize h.up = ls at *
    rw [hfl] at HF ht1 HC7
    generalize hll : ls.length = nl at *
    have HLL := Lib.hid hll
    clear hll hfl
    have HT : Hid (∀ wr, Below w7.heap.size w7 wr → Cells wr W.heap.size #[.slice k.a0 n k.c0, .slice k.a1 (n + 1) k.c1, .slice k.a2 nl k.c2, .slice k.a3 n3 k.c3, .slice k.a4 n4 k.c4] 25 ∧ RdSn wr A L.length L ∧ Rd32 wr k.a1 (n + 1) f ∧ RdK wr k.a2 nl ls ∧ Below W.heap.size W wr) :=
      Lib.hid fun wr hb => ⟨HC7.out.below hb, HRL7.out.below hb, HF.out.below hb, HL.out.below hb, HB7.out.trans (hb.mono (by omega))⟩
    have d0 : w7.cell? ⟨W.heap.size, 0, none⟩ = some (.slice k.a0 n k.c0) := HC7.out.cell 0
    clear HC7 HF HL HRL7 HB7
    go_wp2_with fail
    have hc2 : Cells (w7.alloc (.cells (nA (List.replicate n 0)) 46)) w7.heap.size (nA (fillL n 0)) 46 := cells_new _ _ _
    have hb2 : Below w7.heap.size w7 (w7.alloc (.cells (nA (List.replicate n 0)) 46)) := (Below.refl _ _).alloc (Nat.le_refl _) _
    generalize (w7.alloc (.cells (nA (List.replicate n 0)) 46)) = W2 at *
    generalize w7.heap.size = G at *
    have HC2 := Lib.hid hc2
    have HB2 := Lib.hid hb2
    clear hc2 hb2 hmk d0
    go_loopw [67] (fun iv wr => ∃ (j : Nat), j ≤ n ∧ iv = .int .i64 j ∧ Cells wr G (nA (fillL n j)) 46 ∧ Below G w7 wr) (fun iv _ => n - (intOf iv).toNat)
    case atStart => exact ⟨0, by omega, rfl, HC2.out, HB2.out⟩
    case round =>
      obtain ⟨j, hj, rfl, hc, hb⟩ := hrel
      have HC := Lib.hid hc
      have HB := Lib.hid hb
      clear HC2 HB2 hc hb
      by_cases hlt : j < n
      · have g0 : decide ((j : Int) < (n : Int)) = true := decide_eq_true (by omega)
        have cc := HC.out.cell j
        rw [nA_at (by rw [fillL_len hj]; exact hlt)] at cc
        have ff := HC.out.frozen j
        go_wp2_with fail
        go_roundw
        case rel =>
          refine ⟨j + 1, by omega, by go_num, ?_, HB.out.setCell (Nat.le_refl G) _⟩
          have e := HC.out.set_ j (.int .u64 farI)
          rwa [nA_set, fillL_set hlt] at e
        case measure => simp [intOf]; omega
      · obtain rfl : n = j := by omega
        rw [fillL_all] at HC
        go_wp2_with fail
        generalize wr = W2 at *
        go_loopw [76] (fun iv wi => ∃ (i : Nat) (d : List Int), i ≤ L.length ∧ iv = .int .i64 i ∧ PutTo n D L d i ∧ Cells wi G (nA d) 46 ∧ Below G w7 wi) (fun iv _ => L.length - (intOf iv).toNat)
        case atStart => exact ⟨0, _, by omega, rfl, PutTo.start n D L, HC.out, HB.out⟩
        case round =>
          obtain ⟨i, d, hi, rfl, hd, hc, hb⟩ := hrel
          clear HC HB
          have HC := Lib.hid hc
          have HB := Lib.hid hb
          have HD := Lib.hid hd
          clear hc hb hd
          by_cases hlt : i < L.length
          · have g0 : decide ((i : Int) < (L.length : Int)) = true := decide_eq_true (by omega)
            obtain ⟨ad, hA, cc⟩ := (HT.out wr HB.out).2.1.at_ hlt
            obtain ⟨c0, c1, c2⟩ := three_cells cc
            obtain ⟨hrk, hdst⟩ := HLG.out.at_ i hlt
            have HSTEP := Lib.hid (HD.out.step HLG.out hlt)
            have hdl : d.length = n := HD.out.1
            have hprev : i = 0 ∨ ∃ pr : Nat, 0 < i ∧ wr.cell? (ad.add ((i - 1) * 3)) = some (.int .i64 (pr : Int)) ∧ pr < (L[i]).rank := by
              rcases Nat.eq_zero_or_pos i with h0 | h0
              · exact .inl h0
              · obtain ⟨ad2, hA2, cc2⟩ := (HT.out wr HB.out).2.1.at_ (j := i - 1) (by omega)
                obtain ⟨e0, -, -⟩ := three_cells cc2
                rw [hA] at hA2
                obtain rfl := Option.some.inj hA2
                have hup := HLG.out.up (i - 1) (by omega)
                simp only [show i - 1 + 1 = i by omega] at hup
                exact .inr ⟨_, h0, e0, hup⟩
            subst hA
            generalize L[i] = x at *
            obtain ⟨x0, x1, x2⟩ := x
            dsimp only at c0 c1 c2 hrk hdst HSTEP hprev
            have ff := HC.out.frozen x0
            have hcx := cells_new wr #[.int .i64 (x0 : Int), .int .u64 x1, .bool x2] 48
            have hbx := (Below.refl wr.heap.size wr).alloc (Nat.le_refl _) (.cells #[.int .i64 (x0 : Int), .int .u64 x1, .bool x2] 48)
            have hgw := HC.out.lt
            have q1 : decide ((x0 : Int) < 0) = false := decide_eq_false (by omega)
            have q2 : decide ((n : Int) ≤ (x0 : Int)) = false := decide_eq_false (by omega)
            have q3 : decide (n ≤ x0) = false := decide_eq_false (by omega)
            clear cc hdst ff
            go_wp2_with fail
            generalize wr.alloc (.cells #[.int .i64 (x0 : Int), .int .u64 x1, .bool x2] 48) = w8 at *
            have HC8 := Lib.hid (HC.out.below hbx)
            have HB8 := Lib.hid (HB.out.trans (hbx.mono (by have := HB.out.size; omega)))
            have HX8 := Lib.hid hcx
            have k0 : w8.cell? ⟨wr.heap.size, 0, none⟩ = some (.int .i64 (x0 : Int)) := hcx.cell 0
            rcases hprev with h0 | ⟨pr, h0, hpc, hpr⟩
            · have q4 : decide ((0 : Int) < (i : Int)) = false := decide_eq_false (by omega)
              have q5 : decide (0 < i) = false := decide_eq_false (by omega)
              clear h0
              go_quiet (fail)
              have hdr : Drawn w8 (w8.drewN nq) := ⟨nq, rfl⟩
              generalize w8.drewN nq = w9 at hdr ⊢
              have HC9 := Lib.hid (HC8.out.below (hdr.below _))
              have HB9 := Lib.hid (HB8.out.trans (hdr.below _))
              have HX9 := Lib.hid (HX8.out.below (hdr.below _))
              clear k0 hdr HC8 HB8 HX8 c0 c1 c2 hcx hbx
              have k0 : w9.cell? ⟨wr.heap.size, 0, none⟩ = some (.int .i64 (x0 : Int)) := HX9.out.cell 0
              have k1 : w9.cell? ⟨wr.heap.size, 1, none⟩ = some (.int .u64 x1) := HX9.out.cell 1
              have cc := HC9.out.cell x0
              rw [nA_at (by rw [hdl]; exact hrk)] at cc
              have ff := HC9.out.frozen x0
              go_wp2_with fail
              go_roundw
              case rel =>
                refine ⟨i + 1, _, by omega, by go_num, HSTEP.out, ?_, HB9.out.setCell (Nat.le_refl G) _⟩
                have e := HC9.out.set_ x0 (.int .u64 x1)
                rwa [nA_set] at e
              case measure => simp [intOf]; omega
            · have q4 : decide ((0 : Int) < (i : Int)) = true := decide_eq_true (by omega)
              have q5 : decide (0 < i) = true := decide_eq_true (by omega)
              have q6 : IntKind.i64.wrap ((i : Int) - 1) = (i : Int) - 1 := by rw [IntKind.wrap_i64]; omega
              have q7 : (0 : Int) ≤ (i : Int) - 1 := by omega
              have q8 : (i : Int) - 1 < (L.length : Int) := by omega
              have q9 : ((i : Int) - 1).toNat = i - 1 := by omega
              have q10 : decide ((x0 : Int) ≤ (pr : Int)) = false := decide_eq_false (by omega)
              have q11 : decide (x0 ≤ pr) = false := decide_eq_false (by omega)
              have c3 : w8.cell? (ad.add ((i - 1) * 3)) = some (.int .i64 (pr : Int)) := cell_below hbx hpc
              clear h0 hpc hpr
              go_quiet (fail)
              have hdr : Drawn w8 (w8.drewN nq) := ⟨nq, rfl⟩
              generalize w8.drewN nq = w9 at hdr ⊢
              have HC9 := Lib.hid (HC8.out.below (hdr.below _))
              have HB9 := Lib.hid (HB8.out.trans (hdr.below _))
              have HX9 := Lib.hid (HX8.out.below (hdr.below _))
              clear k0 hdr HC8 HB8 HX8 c0 c1 c2 hcx hbx
              have k0 : w9.cell? ⟨wr.heap.size, 0, none⟩ = some (.int .i64 (x0 : Int)) := HX9.out.cell 0
              have k1 : w9.cell? ⟨wr.heap.size, 1, none⟩ = some (.int .u64 x1) := HX9.out.cell 1
              have cc := HC9.out.cell x0
              rw [nA_at (by rw [hdl]; exact hrk)] at cc
              have ff := HC9.out.frozen x0
              go_wp2_with fail
              go_roundw
              case rel =>
                refine ⟨i + 1, _, by omega, by go_num, HSTEP.out, ?_, HB9.out.setCell (Nat.le_refl G) _⟩
                have e := HC9.out.set_ x0 (.int .u64 x1)
                rwa [nA_set] at e
              case measure => simp [intOf]; omega
          · obtain rfl : L.length = i := by omega
            have hAll := HD.out.end_ HLG.out (Nat.le_refl _)
            have hpos := HLG.out.pos
            obtain ⟨hf0, hf1⟩ := HLG.out.first hpos
            obtain ⟨ad, hA, cc⟩ := (HT.out wr HB.out).2.1.at_ hpos
            obtain ⟨c0, c1, -⟩ := three_cells cc
            have ea : ad.add (0 * 3) = ad := rfl
            rw [ea] at c0 c1
            clear ea
            rw [hf0] at c0
            rw [hf1] at c1
            have HA := Lib.hid hA
            have HALL := Lib.hid hAll
            have q1 : ((L.length : Int) == 0) = false := by rw [beq_eq_false_iff_ne]; omega
            have q2 : (L.length == 0) = false := by rw [beq_eq_false_iff_ne]; omega
            have q3 : (0 : Int) < (L.length : Int) := by omega
            subst hA
            clear cc hAll hf0 hf1 HD
            go_upto_region 27 with fail
            have hcr := cells_new wr (bA (List.replicate n false)) 4
            have hbr := (Below.refl wr.heap.size wr).alloc (Nat.le_refl _) (.cells (bA (List.replicate n false)) 4)
            have hgw := HC.out.lt
            generalize (wr.alloc (.cells (bA (List.replicate n false)) 4)) = W3 at *
            have hG3 : G ≤ wr.heap.size := by omega
            have HC3 := Lib.hid (HC.out.below hbr)
            have HB3 := Lib.hid (HB.out.trans (hbr.mono hG3))
            generalize wr.heap.size = R at *
            have cc := hcr.cell s
            rw [bA_at (by simpa using hsn)] at cc
            have ff := hcr.frozen s
            have hcs := hcr.set_ s (.bool true)
            rw [bA_set] at hcs
            have HCS := Lib.hid hcs
            have HC4 := Lib.hid (HC3.out.far (k := R) s (.bool true) (by omega))
            have HB4 := Lib.hid (HB3.out.setCell (p := ⟨R, s, none⟩) hG3 (.bool true))
            have HGR : Hid (G < R) := Lib.hid hgw
            clear hcr hbr hcs c0 c1 q1 q2 q3 HC HB HC3 HB3 hmb HLG hgw hG3
            go_upto_region 28 with fail
            generalize (W3.setCell ⟨R, s, none⟩ (.bool true)) = W4 at *
            clear cc ff
            go_wp2_with fail
            have hlen := HALL.out.1
            go_loopw [139] (fun iv wi => ∃ (r : Nat) (m : List Bool), r ≤ n ∧ iv = .int .i64 r ∧ MarksOf n (seg f ls) s D r 0 m ∧ Cells wi R (bA m) 4 ∧ Cells wi G (nA d) 46 ∧ Below G w7 wi) (fun iv _ => n - (intOf iv).toNat)
            case atStart => exact ⟨0, _, by omega, rfl, MarksOf.start hsn _ _, HCS.out, HC4.out, HB4.out⟩
            case round =>
              clear HCS HC4 HB4
              obtain ⟨r, m, hr, rfl, hm, hcr, hc, hb⟩ := hrel
              have HM := Lib.hid hm
              have HR := Lib.hid hcr
              have HC := Lib.hid hc
              have HB := Lib.hid hb
              clear hm hcr hc hb
              by_cases hlt : r < n
              · have g0 : decide ((r : Int) < (n : Int)) = true := decide_eq_true (by omega)
                obtain ⟨hbx, -, hff, hll, -⟩ := HT.out wr HB.out
                have b1 : wr.cell? ⟨W.heap.size, 1, none⟩ = some (.slice k.a1 (n + 1) k.c1) := hbx.cell 1
                have b2 : wr.cell? ⟨W.heap.size, 2, none⟩ = some (.slice k.a2 nl k.c2) := hbx.cell 2
                obtain ⟨ad2, hA2, e0, e1⟩ := two_firsts hff hlt
                rw [hA2] at b1
                have e1' : wr.cell? ⟨ad2.block, ad2.off + (r + 1), none⟩ = some (.int .u32 (f.getD (r + 1) 0 : Nat)) := e1
                have hmono := HSD.out.mono r hlt
                rw [HLL.out] at hmono
                have hslen := HSD.out.len hlt
                have hsl := fun w => slice_links k.a2 nl k.c2 (f.getD r 0) (f.getD (r + 1) 0) hmono.1 (by omega) w
                have hrd : ∀ wi, Below G w7 wi → RdK wi (if k.c2 = f.getD r 0 then k.a2 else k.a2.map (·.add (f.getD r 0 * 4))) (f.getD (r + 1) 0 - f.getD r 0) (seg f ls r) := fun wi hb => rd_seg HSD.out hlt (by rw [HLL.out]; exact (HT.out wi hb).2.2.2.1) (by rw [HLL.out]; exact ht2.1)
                generalize (if k.c2 = f.getD r 0 then k.a2 else k.a2.map (·.add (f.getD r 0 * 4))) = AA at hsl hrd
                generalize f.getD r 0 = lo at *
                generalize f.getD (r + 1) 0 = hi2 at *
                obtain ⟨sl, hsl2⟩ : ∃ sl, hi2 - lo = sl := ⟨_, rfl⟩
                rw [hsl2] at hsl hrd hslen
                have HRD := Lib.hid hrd
                have HSL := Lib.hid hslen
                have hlo : lo ≤ 1048576 := by omega
                have hhi : hi2 ≤ 1048576 := by omega
                have hsle : sl ≤ 1048576 := by omega
                have hlh : lo ≤ hi2 := hmono.1
                have hhn : hi2 ≤ nl := hmono.2
                have w1 : IntKind.i64.wrap ((r : Int) + 1) = (r : Int) + 1 := by rw [IntKind.wrap_i64]; omega
                have w2' : (0 : Int) ≤ (r : Int) + 1 := by omega
                have w3' : ((r : Int) + 1).toNat = r + 1 := by omega
                have hcap : n + 1 ≤ k.c1 := ht1.1
                have i1 : (0 : Int) ≤ (r : Int) := by omega
                have i2 : (r : Int) < (n : Int) + 1 := by omega
                have i3 : (r : Int) + 1 < (n : Int) + 1 := by omega
                have i4 : (r : Int) < ((n + 1 : Nat) : Int) := by omega
                have i5 : (r : Int) + 1 < ((n + 1 : Nat) : Int) := by omega
                have i6 : (0 : Int) ≤ (lo : Int) := by omega
                have i7 : (lo : Int) ≤ (hi2 : Int) := by omega
                have i8 : (hi2 : Int) ≤ (k.c2 : Int) := by omega
                clear hmono hrd hslen hsl2 hA2 hbx hff hll
                go_wp2_with fail
                go_quiet (fail)
                have hdr : Drawn wr (wr.drewN nq) := ⟨nq, rfl⟩
                generalize wr.drewN nq = w8 at hdr ⊢
                have HR8 : Hid (Cells w8 R (bA m) 4) := Lib.hid (HR.out.below (hdr.below _))
                have HC8 : Hid (Cells w8 G (nA d) 46) := Lib.hid (HC.out.below (hdr.below _))
                have HB8 : Hid (Below G w7 w8) := Lib.hid (HB.out.trans (hdr.below _))
                clear hdr HR HC HB b1 b2 e0 e1 e1' hsl w1 w2' w3' i1 i2 i3 i4 i5 i6 i7 i8
                go_wp2_with fail
                go_loopw [157] (fun iv wi => ∃ (j : Nat) (m : List Bool), j ≤ sl ∧ iv = .int .i64 j ∧ MarksOf n (seg f ls) s D r j m ∧ Cells wi R (bA m) 4 ∧ Cells wi G (nA d) 46 ∧ Below G w7 wi) (fun iv _ => sl - (intOf iv).toNat)
                case atStart => exact ⟨0, m, by omega, rfl, HM.out, HR8.out, HC8.out, HB8.out⟩
                case round =>
                  clear HM HR8 HC8 HB8
                  obtain ⟨j, mm, hj, rfl, hm, hcr, hc, hb⟩ := hrel
                  have HM := Lib.hid hm
                  have HR := Lib.hid hcr
                  have HC := Lib.hid hc
                  have HB := Lib.hid hb
                  clear hm hcr hc hb
                  by_cases hlj : j < sl
                  · have g0 : decide ((j : Int) < (sl : Int)) = true := decide_eq_true (by omega)
                    have hks : j < (seg f ls r).length := by have := HSL.out; omega
                    obtain ⟨ad3, hA3, cc⟩ := (HRD.out wr HB.out).at_ hlj
                    subst hA3
                    obtain ⟨c0, c1', c2', c3'⟩ := four_cells cc
                    have hmem : (seg f ls r)[j] ∈ ls := List.mem_of_mem_drop (List.mem_of_mem_take (List.getElem_mem hks))
                    have hik := HK.out _ hmem
                    have hww := HSD.out.ups.w r _ hlt (List.getElem_mem hks)
                    have hup := HSD.out.ups.up r _ hlt (List.getElem_mem hks)
                    have hle := fun a (ha : D r = some a) => HDS.out.le r a _ hlt ha (List.getElem_mem hks)
                    have hmst := fun a (ha : D r = some a) (c : Bool) (hc : c = true ↔ D ((seg f ls r)[j]).to = some (a + ((seg f ls r)[j]).w)) => HM.out.step hks ha hup.2 hc
                    have hmno : D r = none → MarksOf n (seg f ls) s D r (j + 1) mm := fun ha => ⟨HM.out.1, fun x hx => by rw [HM.out.2 x hx, ← Tight.next (.inr ha), ← Tight.next (j := j + 1) (.inr ha)]⟩
                    have hsafe := fun x b (hb : D x = some b) => Sol.safe HSD.out.ups HDS.out (by omega) hb
                    generalize (seg f ls r)[j] = K at *
                    have hLto := hik.to
                    unfold In32 at hLto
                    unfold topI at hww
                    obtain ⟨t0, t1, t2, t3⟩ := K
                    dsimp only at c0 c1' c2' c3' hww hup hle hmst hLto
                    have cr := HC.out.cell r
                    rw [nA_at (by rw [hlen]; exact hlt)] at cr
                    have hba := (Below.refl wr.heap.size wr).alloc (Nat.le_refl _) (.cells #[.int .u32 (t0 : Int), .int .u64 t1, .int .u32 (t2 : Int), .int .u32 (t3 : Int)] 52)
                    have hca := cells_new wr #[.int .u32 (t0 : Int), .int .u64 t1, .int .u32 (t2 : Int), .int .u32 (t3 : Int)] 52
                    have HGW : Hid (G ≤ wr.heap.size) := Lib.hid (by have := HC.out.lt; omega)
                    clear hmem hik cc
                    go_upto_region 34 with fail
                    generalize wr.alloc (.cells #[.int .u32 (t0 : Int), .int .u64 t1, .int .u32 (t2 : Int), .int .u32 (t3 : Int)] 52) = w9 at *
                    have HR9 := Lib.hid (HR.out.below hba)
                    have HC9 := Lib.hid (HC.out.below hba)
                    have HB9 := Lib.hid (HB.out.trans (hba.mono HGW.out))
                    have HK9 := Lib.hid hca
                    have cr := HC9.out.cell r
                    rw [nA_at (by rw [hlen]; exact hlt)] at cr
                    generalize wr.heap.size = lb at *
                    clear hba hca c0 c1' c2' c3'
                    cases hDr : D r with
                    | none =>
                      have hgr : dg d r = farI := HALL.out.none_ hDr
                      have hb0 : (dg d r == 18446744073709551615) = true := by rw [hgr]; rfl
                      have HMN := Lib.hid (hmno hDr)
                      clear hle hmst hmno hsafe
                      go_wp2_with fail
                      go_roundw
                      case rel => exact ⟨j + 1, mm, by omega, by go_num, HMN.out, HR9.out, HC9.out, HB9.out⟩
                      case measure => simp [intOf]; omega
                    | some a =>
                      obtain ⟨b, hDb, hba⟩ := hle a hDr
                      obtain ⟨-, ha0, ha1⟩ := hsafe r a hDr
                      obtain ⟨-, hb0, hb1⟩ := hsafe t0 b hDb
                      have HMS := Lib.hid (hmst a hDr)
                      have hgr : dg d r = a := HALL.out.some_ hDr
                      have hgt : dg d t0 = b := HALL.out.some_ hDb
                      have hsum : IntKind.u64.wrap (a + t1) = a + t1 := by rw [IntKind.wrap_u64]; omega
                      have q0 : (a == 18446744073709551615) = false := by rw [beq_eq_false_iff_ne]; omega
                      have q1 : decide (a + t1 < b) = false := decide_eq_false (by omega)
                      have ct := HC9.out.cell t0
                      rw [nA_at (by rw [hlen]; exact hup.2), hgt] at ct
                      rw [hgr] at cr
                      have k0 : w9.cell? ⟨lb, 0, none⟩ = some (.int .u32 (t0 : Int)) := HK9.out.cell 0
                      have k1 : w9.cell? ⟨lb, 1, none⟩ = some (.int .u64 t1) := HK9.out.cell 1
                      clear hle hmst hmno hsafe hgr hgt
                      go_wp2_with fail
                      go_quiet (fail)
                      have hdr : Drawn w9 (w9.drewN nq) := ⟨nq, rfl⟩
                      generalize w9.drewN nq = wA at hdr ⊢
                      have HRA := Lib.hid (HR9.out.below (hdr.below _))
                      have HCA := Lib.hid (HC9.out.below (hdr.below _))
                      have HBA := Lib.hid (HB9.out.trans (hdr.below _))
                      have k0 : wA.cell? ⟨lb, 0, none⟩ = some (.int .u32 (t0 : Int)) := (HK9.out.below (hdr.below _)).cell 0
                      have k1 : wA.cell? ⟨lb, 1, none⟩ = some (.int .u64 t1) := (HK9.out.below (hdr.below _)).cell 1
                      have ct : wA.cell? ⟨G, t0, none⟩ = some (.int .u64 b) := cell_below (hdr.below _) ct
                      have cr : wA.cell? ⟨G, r, none⟩ = some (.int .u64 a) := cell_below (hdr.below _) cr
                      have hml := HM.out.1
                      have cm := HRA.out.cell t0
                      rw [bA_at (by rw [hml]; exact hup.2)] at cm
                      have fm := HRA.out.frozen t0
                      clear hdr HR9 HC9 HB9 HK9
                      cases hmb : mm.getD t0 false with
                      | true =>
                        rw [hmb] at cm
                        have hms := HMS.out (b == a + t1) (by rw [hDb, beq_iff_eq, Option.some.injEq])
                        rw [hmb] at hms
                        simp only [Bool.true_or, Bool.false_or] at hms
                        have HMN := Lib.hid hms
                        clear hms
                        go_wp2_with fail
                        have HRB := Lib.hid (HRA.out.below (Below.drew (Below.refl _ _)))
                        have HCB := Lib.hid (HCA.out.below (Below.drew (Below.refl _ _)))
                        have HBB := Lib.hid (Below.drew HBA.out)
                        have fb := HRB.out.frozen t0
                        have cb := HRB.out.cell t0
                        rw [bA_at (by rw [hml]; exact hup.2), hmb] at cb
                        refine wp_region_still_tail 24 (by kernel_rfl) (by kernel_rfl) ?_
                        simp only [List.take_succ_cons, List.take_zero, List.drop_succ_cons, List.drop_zero]
                        refine still_of_quiet _ _ ?_
                        repeat (go_big_quiet_step (fail))
                        refine wpQuiet_nil ?_
                        change wpList _ _ _ _ _ wA.drew
                        generalize wA.drew = wB at *
                        clear k0 k1 ct cr cm fm
                        go_wp2_with fail
                        go_roundw
                        case rel =>
                          refine ⟨j + 1, _, by omega, by go_num, HMN.out, ?_, HCB.out.far (k := R) t0 (.bool true) (by have := HGR.out; omega), HBB.out.setCell (p := ⟨R, t0, none⟩) (by have := HGR.out; show G ≤ R; omega) _⟩
                          have e := HRB.out.set_ t0 (.bool true)
                          rwa [bA_set] at e
                        case measure => simp [intOf]; omega
                      | false =>
                        rw [hmb] at cm
                        have hms := HMS.out (b == a + t1) (by rw [hDb, beq_iff_eq, Option.some.injEq])
                        rw [hmb] at hms
                        simp only [Bool.true_or, Bool.false_or] at hms
                        have HMN := Lib.hid hms
                        clear hms
                        go_wp2_with fail
                        have HRB := Lib.hid (HRA.out.below (Below.drew (Below.refl _ _)))
                        have HCB := Lib.hid (HCA.out.below (Below.drew (Below.refl _ _)))
                        have HBB := Lib.hid (Below.drew HBA.out)
                        have fb := HRB.out.frozen t0
                        have cb := HRB.out.cell t0
                        rw [bA_at (by rw [hml]; exact hup.2), hmb] at cb
                        refine wp_region_still_tail 24 (by kernel_rfl) (by kernel_rfl) ?_
                        simp only [List.take_succ_cons, List.take_zero, List.drop_succ_cons, List.drop_zero]
                        refine still_of_quiet _ _ ?_
                        repeat (go_big_quiet_step (fail))
                        refine wpQuiet_nil ?_
                        change wpList _ _ _ _ _ wA.drew
                        generalize wA.drew = wB at *
                        clear k0 k1 ct cr cm fm
                        go_wp2_with fail
                        go_roundw
                        case rel =>
                          refine ⟨j + 1, _, by omega, by go_num, HMN.out, ?_, HCB.out.far (k := R) t0 (.bool (b == a + t1)) (by have := HGR.out; omega), HBB.out.setCell (p := ⟨R, t0, none⟩) (by have := HGR.out; show G ≤ R; omega) _⟩
                          have e := HRB.out.set_ t0 (.bool (b == a + t1))
                          rwa [bA_set] at e
                        case measure => simp [intOf]; omega
                  · obtain rfl : sl = j := by omega
                    go_wp2_with fail
                    go_roundw
                    case rel => exact ⟨r + 1, mm, by omega, by go_num, HM.out.next (.inl (by have := HSL.out; omega)), HR.out, HC.out, HB.out⟩
                    case measure => simp [intOf]; omega
              · obtain rfl : n = r := by omega
                have hend := fun x hx => (HM.out.2 x hx).trans (Tight.end_ HDS.out hx)
                have HEND := Lib.hid hend
                have hml := HM.out.1
                clear hend HM
                go_wp2_with fail
                generalize wr = W5 at *
                go_loopw [207] (fun iv wi => ∃ (i : Nat), i ≤ n ∧ iv = .int .i64 i ∧ Cells wi R (bA m) 4 ∧ Cells wi G (nA d) 46 ∧ Below G w7 wi) (fun iv _ => n - (intOf iv).toNat)
                case atStart => exact ⟨0, by omega, rfl, HR.out, HC.out, HB.out⟩
                case round =>
                  clear HR HC HB
                  obtain ⟨i, hi, rfl, hcr, hc, hb⟩ := hrel
                  have HR := Lib.hid hcr
                  have HC := Lib.hid hc
                  have HB := Lib.hid hb
                  clear hcr hc hb
                  by_cases hlt : i < n
                  · have g0 : decide ((i : Int) < (n : Int)) = true := decide_eq_true (by omega)
                    have cr := HC.out.cell i
                    rw [nA_at (by rw [hlen]; exact hlt)] at cr
                    have cm := HR.out.cell i
                    rw [bA_at (by rw [hml]; exact hlt)] at cm
                    have hmi := HEND.out i hlt
                    cases hDi : D i with
                    | none =>
                      have e1 : m.getD i false = false := by
                        rw [← Bool.not_eq_true, hmi, hDi]; simp
                      rw [e1] at cm
                      rw [HALL.out.none_ hDi] at cr
                      unfold farI at cr
                      clear hmi e1
                      go_wp2_with fail
                      go_quiet (fail)
                      have hdr : Drawn wr (wr.drewN nq) := ⟨nq, rfl⟩
                      generalize wr.drewN nq = wA at hdr ⊢
                      have HR8 : Hid (Cells wA R (bA m) 4) := Lib.hid (HR.out.below (hdr.below _))
                      have HC8 : Hid (Cells wA G (nA d) 46) := Lib.hid (HC.out.below (hdr.below _))
                      have HB8 : Hid (Below G w7 wA) := Lib.hid (HB.out.trans (hdr.below _))
                      go_wp2_with fail
                      go_roundw
                      case rel => exact ⟨i + 1, by omega, by go_num, HR8.out, HC8.out, HB8.out⟩
                      case measure => simp [intOf]; omega
                    | some a =>
                      have e1 : m.getD i false = true := by
                        rw [hmi, hDi]; simp
                      obtain ⟨-, ha0, ha1⟩ := Sol.safe HSD.out.ups HDS.out (by omega) hDi
                      rw [e1] at cm
                      rw [HALL.out.some_ hDi] at cr
                      have q0 : (a == 18446744073709551615) = false := by rw [beq_eq_false_iff_ne]; omega
                      have q1 : (a != 18446744073709551615) = true := by rw [bne_iff_ne]; omega
                      clear hmi e1
                      go_wp2_with fail
                      go_quiet (fail)
                      have hdr : Drawn wr (wr.drewN nq) := ⟨nq, rfl⟩
                      generalize wr.drewN nq = wA at hdr ⊢
                      have HR8 : Hid (Cells wA R (bA m) 4) := Lib.hid (HR.out.below (hdr.below _))
                      have HC8 : Hid (Cells wA G (nA d) 46) := Lib.hid (HC.out.below (hdr.below _))
                      have HB8 : Hid (Below G w7 wA) := Lib.hid (HB.out.trans (hdr.below _))
                      go_wp2_with fail
                      go_roundw
                      case rel => exact ⟨i + 1, by omega, by go_num, HR8.out, HC8.out, HB8.out⟩
                      case measure => simp [intOf]; omega
                  · obtain rfl : n = i := by omega
                    go_wp2_with fail
                    rw [HQ0.out]
                    go_ret
                    exact ⟨rfl, (HT.out _ HB.out).2.2.2.2⟩
theorem ClimbSteps_walk (k : HV) (h : HierT) (s : Int) (W : World) (hp : RdH W k h) (hs : Small k h) (hin : InH h) (hw : (Lit.int .i64 s).wf = true) (hg : ErrT W) :
    Calls Tryd.prog 4 #[hierV k h, .int .i64 s] W fun e W' => e = .returned (.bool true) ∧ Below W.heap.size W W' := by
  have h0 : -9223372036854775808 ≤ s ∧ s ≤ 9223372036854775807 := by
    simp only [Lit.wf, Bool.and_eq_true, decide_eq_true_eq] at hw
    exact hw
  exact ClimbSteps_any k h s W hg hp hs hin h0.1 h0.2
end Go.Proofs.YtkcnnamghpdplaaDoor

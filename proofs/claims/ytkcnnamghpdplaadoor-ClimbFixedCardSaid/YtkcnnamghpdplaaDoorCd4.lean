/- ClimbFixed: the walk. (Printed by gen_fixed.py.) -/
import Derived.Test.YtkcnnamghpdplaaDoorCd1
import Derived.Test.YtkcnnamghpdplaaDoorCl33
import Derived.Deep.DeepCutAuto
set_option linter.unusedSimpArgs false
set_option linter.unusedVariables false
namespace Go.Proofs.YtkcnnamghpdplaaDoor
open Go.RowKit

/-- is a list of numbers the least ways? -/
def solB (n : Nat) (S : Nat → List Lk) (s : Nat) (dl : List (Option Int)) : Bool :=
  decide (dl.length ≤ n) && decide (getO dl s = some 0) && ((List.range n).all fun r => match getO dl r with | none => true | some a => (S r).all fun l => match getO dl l.to with | some b => decide (b ≤ a + l.w) | none => false) &&
  ((List.range n).all fun x => x == s || match getO dl x with | none => true | some b => (List.range n).any fun r => match getO dl r with | none => false | some a => (S r).any fun l => l.to == x && decide (b = a + l.w))
theorem Sol.of_solB {n : Nat} {S : Nat → List Lk} {s : Nat} {dl : List (Option Int)} (h : solB n S s dl = true) : Sol n S s (getO dl) := by
  unfold solB at h
  rw [Bool.and_eq_true, Bool.and_eq_true, Bool.and_eq_true] at h
  obtain ⟨⟨⟨h1, h2⟩, h3⟩, h4⟩ := h
  have hl := of_decide_eq_true h1
  refine ⟨of_decide_eq_true h2, fun x hx => getO_out (by omega), fun r a l hr ha hm => ?_, fun x b hx hb => ?_⟩
  · have := List.all_eq_true.1 h3 r (List.mem_range.2 hr)
    rw [ha] at this
    have := List.all_eq_true.1 this l hm
    cases hd : getO dl l.to with
    | none => rw [hd] at this; cases this
    | some b => rw [hd] at this; exact ⟨b, rfl, of_decide_eq_true this⟩
  · have hxl := getO_lt hb
    have := List.all_eq_true.1 h4 x (List.mem_range.2 (by omega))
    rw [hb, Bool.or_eq_true] at this
    rcases this with this | this
    · exact absurd (by simpa using this) hx
    · obtain ⟨r, hr, h5⟩ := List.any_eq_true.1 this
      cases ha : getO dl r with
      | none => rw [ha] at h5; cases h5
      | some a =>
        rw [ha] at h5
        obtain ⟨l, hm, h6⟩ := List.any_eq_true.1 h5
        rw [Bool.and_eq_true] at h6
        exact ⟨r, a, l, List.mem_range.1 hr, ha, hm, by simpa using h6.1, of_decide_eq_true h6.2⟩
theorem upClosed (h : HierT) (s n : Nat) (dl : List (Option Int)) (L : List SeenT) (hin : InH h) (hs : (s : Int) ≤ 9223372036854775807) (hc : chkB h = none) (hb : upBug h (s : Int) = none) (hn : h.node.length = n) (hd : solB n (seg h.uf h.up) s dl = true) (hL : seenTo (getO dl) (seg h.df h.dn) n = L) (q : HV) (w : World) (hp : RdH w q h) (hsm : Small q h) :
    Calls Tryd.prog 9 #[hierV q h, .int .i64 s] w (SeenIs L L.length w) :=
  (Up_any q h s w hp hsm hin (by omega) hs).mono fun e w' he => by
    rw [hb] at he
    obtain ⟨D, hD, A, c, h1, h2, h3⟩ := he
    rw [hn, Int.toNat_natCast] at hD
    have hD' : D = getO dl := funext (Sol.unique (by rw [← hn]; exact ((Sound.of_none hc).up hin).ups) hD (Sol.of_solB hd))
    subst hD'
    rw [hn, hL] at h1 h2
    exact ⟨A, c, h1, h2.rd encSn_len rfl, h3⟩
theorem dnClosed (h : HierT) (s n : Nat) (dl : List (Option Int)) (L : List SeenT) (hin : InH h) (hs : (s : Int) ≤ 9223372036854775807) (hc : chkB h = none) (hb : upBug h (s : Int) = none) (hn : h.node.length = n) (hd : solB n (seg h.df h.dn) s dl = true) (hL : seenTo (getO dl) (seg h.uf h.up) n = L) (q : HV) (w : World) (hp : RdH w q h) (hsm : Small q h) :
    Calls Tryd.prog 15 #[hierV q h, .int .i64 s] w (SeenIs L L.length w) :=
  (Down_any q h s w hp hsm hin (by omega) hs).mono fun e w' he => by
    rw [hb] at he
    obtain ⟨D, hD, A, c, h1, h2, h3⟩ := he
    rw [hn, Int.toNat_natCast] at hD
    have hD' : D = getO dl := funext (Sol.unique (by rw [← hn]; exact ((Sound.of_none hc).dn hin).ups) hD (Sol.of_solB hd))
    subst hD'
    rw [hn, hL] at h1 h2
    exact ⟨A, c, h1, h2.rd encSn_len rfl, h3⟩
def ErrIs (b : Bug) (W : World) (e : Ending) (w' : World) : Prop := ∃ v, e = .returned (.tuple #[.slice none 0 0, v]) ∧ ProgX b W.heap.size v w' ∧ Below W.heap.size W w'
theorem upErr (h : HierT) (s : Int) (b : Int × Option (Int × Int)) (hin : InH h) (hs0 : -9223372036854775808 ≤ s) (hs1 : s ≤ 9223372036854775807) (hb : upBug h s = some b) (q : HV) (w : World) (hp : RdH w q h) (hsm : Small q h) :
    Calls Tryd.prog 9 #[hierV q h, .int .i64 s] w (ErrIs (some b) w) :=
  (Up_any q h s w hp hsm hin hs0 hs1).mono fun e w' he => by
    rw [hb] at he
    obtain ⟨v, h1, h2⟩ := he
    exact ⟨v, h1, h2.px, h2.1⟩
theorem dnErr (h : HierT) (s : Int) (b : Int × Option (Int × Int)) (hin : InH h) (hs0 : -9223372036854775808 ≤ s) (hs1 : s ≤ 9223372036854775807) (hb : upBug h s = some b) (q : HV) (w : World) (hp : RdH w q h) (hsm : Small q h) :
    Calls Tryd.prog 15 #[hierV q h, .int .i64 s] w (ErrIs (some b) w) :=
  (Down_any q h s w hp hsm hin hs0 hs1).mono fun e w' he => by
    rw [hb] at he
    obtain ⟨v, h1, h2⟩ := he
    exact ⟨v, h1, h2.px, h2.1⟩
def zeroT : HierT := ⟨[], [], [], [], []⟩
def zeroQ : HV := ⟨none, none, none, none, none, 0, 0, 0, 0, 0⟩
theorem zero_rd (w : World) : RdH w zeroQ zeroT := ⟨Rd.nil, Rd.nil, Rd.nil, Rd.nil, Rd.nil⟩
theorem zero_sm : Small zeroQ zeroT := by constructor <;> simp [zeroT, zeroQ]
theorem zero_in : InH zeroT := by constructor <;> intro x hx <;> simp [zeroT] at hx
theorem zero_bug : upBug zeroT 0 = some (14, none) := by kernel_rfl
theorem three_bug3 : upBug threeT 3 = some (7, none) := by kernel_rfl
theorem three_bugm : upBug threeT (-1) = some (7, none) := by kernel_rfl
theorem three_bug0 : upBug threeT ((0 : Nat) : Int) = none := by kernel_rfl
theorem three_bug1 : upBug threeT ((1 : Nat) : Int) = none := by kernel_rfl
theorem three_bug2 : upBug threeT ((2 : Nat) : Int) = none := by kernel_rfl
def fxA : List SeenT := [⟨1, 0, false⟩, ⟨2, 5, false⟩]
def fxB : List SeenT := [⟨0, 0, false⟩, ⟨2, 1, false⟩]
def fxC : List SeenT := [⟨2, 0, false⟩]
theorem good7 : GoodB (some (7, none)) := fun p hp => by cases hp; decide
theorem good14 : GoodB (some (14, none)) := fun p hp => by cases hp; decide
set_option maxRecDepth 100000 in
set_option maxHeartbeats 8000000 in
theorem ClimbFixed_walk (W : World) (hg : ErrT W) : Calls Tryd.prog 5 #[] W (BoolBelow true W) := by
  have HGT := Lib.hid hg
  have HUA := Lib.hid (upClosed threeT 1 3 [none, some 0, some 5] fxA three_in (by omega) three_chk three_bug1 rfl (by kernel_rfl) (by kernel_rfl))
  have HUB := Lib.hid (upClosed threeT 0 3 [some 0, none, some 1] fxB three_in (by omega) three_chk three_bug0 rfl (by kernel_rfl) (by kernel_rfl))
  have HUC := Lib.hid (upClosed threeT 2 3 [none, none, some 0] fxC three_in (by omega) three_chk three_bug2 rfl (by kernel_rfl) (by kernel_rfl))
  have HDC := Lib.hid (dnClosed threeT 2 3 [none, none, some 0] fxC three_in (by omega) three_chk three_bug2 rfl (by kernel_rfl) (by kernel_rfl))
  have HU3 := Lib.hid (upErr threeT 3 _ three_in (by omega) (by omega) three_bug3)
  have HUM := Lib.hid (upErr threeT (-1) _ three_in (by omega) (by omega) three_bugm)
  have HD3 := Lib.hid (dnErr threeT 3 _ three_in (by omega) (by omega) three_bug3)
  have HZD := Lib.hid (dnErr zeroT 0 _ zero_in (by omega) (by omega) zero_bug)
  have HZU := Lib.hid (upErr zeroT 0 _ zero_in (by omega) (by omega) zero_bug)
  clear hg
  go_enter Tryd.func5, Tryd.ntmps5
  refine wp_post_named' ?_
  intro Q0 hQ0
  have HQ0 := Lib.hid hQ0
  clear hQ0
  go_wp2_with fail
  refine (awake_any W).mono ?_
  rintro e w1 ⟨rfl, hb⟩
  have HB1 := Lib.hid hb
  clear hb
  go_wp2_with fail
  refine (three_any w1).mono ?_
  rintro e w2 ⟨q, rfl, hr, hs, hb⟩
  have HB2 := Lib.hid (HB1.out.trans (hb.mono HB1.out.size))
  have HR2 := Lib.hid hr
  have HS := Lib.hid hs
  clear hr hs hb HB1
  unfold hierV
  go_upto_region 4 with fail
  have hb := (Below.refl w2.heap.size w2).alloc (Nat.le_refl _) (.cells #[.slice q.a0 threeT.node.length q.c0, .slice q.a1 threeT.uf.length q.c1, .slice q.a2 threeT.up.length q.c2, .slice q.a3 threeT.df.length q.c3, .slice q.a4 threeT.dn.length q.c4] 25)
  have HB3 := Lib.hid (HB2.out.trans (hb.mono HB2.out.size))
  have HR3 := Lib.hid (HR2.out.below hb)
  have HC3 := Lib.hid (cells_new w2 #[.slice q.a0 threeT.node.length q.c0, .slice q.a1 threeT.uf.length q.c1, .slice q.a2 threeT.up.length q.c2, .slice q.a3 threeT.df.length q.c3, .slice q.a4 threeT.dn.length q.c4] 25)
  clear hb HB2 HR2
  generalize w2.alloc (.cells #[.slice q.a0 threeT.node.length q.c0, .slice q.a1 threeT.uf.length q.c1, .slice q.a2 threeT.up.length q.c2, .slice q.a3 threeT.df.length q.c3, .slice q.a4 threeT.dn.length q.c4] 25) = w3 at *
  generalize w2.heap.size = G at *
  have HX := Lib.hid (HUA.out q w3 HR3.out HS.out)
  unfold hierV at HX
  have d0 : w3.cell? ⟨G, 0, none⟩ = some (.slice q.a0 threeT.node.length q.c0) := HC3.out.cell 0
  have d1 : w3.cell? ⟨G, 1, none⟩ = some (.slice q.a1 threeT.uf.length q.c1) := HC3.out.cell 1
  have d2 : w3.cell? ⟨G, 2, none⟩ = some (.slice q.a2 threeT.up.length q.c2) := HC3.out.cell 2
  have d3 : w3.cell? ⟨G, 3, none⟩ = some (.slice q.a3 threeT.df.length q.c3) := HC3.out.cell 3
  have d4 : w3.cell? ⟨G, 4, none⟩ = some (.slice q.a4 threeT.dn.length q.c4) := HC3.out.cell 4
  go_wp2_with fail
  refine HX.out.mono ?_
  rintro e w4 ⟨Aa, ca, rfl, hl, hb⟩
  have HB4 := Lib.hid (HB3.out.trans (hb.mono HB3.out.size))
  have HR4 := Lib.hid (HR3.out.below hb)
  have HC4 := Lib.hid (HC3.out.below hb)
  clear hb HB3 HR3 HC3
  have HLa4 := Lib.hid hl
  clear hl HX d0 d1 d2 d3 d4
  have HX := Lib.hid (HUB.out q w4 HR4.out HS.out)
  unfold hierV at HX
  have d0 : w4.cell? ⟨G, 0, none⟩ = some (.slice q.a0 threeT.node.length q.c0) := HC4.out.cell 0
  have d1 : w4.cell? ⟨G, 1, none⟩ = some (.slice q.a1 threeT.uf.length q.c1) := HC4.out.cell 1
  have d2 : w4.cell? ⟨G, 2, none⟩ = some (.slice q.a2 threeT.up.length q.c2) := HC4.out.cell 2
  have d3 : w4.cell? ⟨G, 3, none⟩ = some (.slice q.a3 threeT.df.length q.c3) := HC4.out.cell 3
  have d4 : w4.cell? ⟨G, 4, none⟩ = some (.slice q.a4 threeT.dn.length q.c4) := HC4.out.cell 4
  go_wp2_with fail
  refine HX.out.mono ?_
  rintro e w5 ⟨Ab, cb, rfl, hl, hb⟩
  have HB5 := Lib.hid (HB4.out.trans (hb.mono HB4.out.size))
  have HR5 := Lib.hid (HR4.out.below hb)
  have HC5 := Lib.hid (HC4.out.below hb)
  have HLa5 := Lib.hid (HLa4.out.below hb)
  clear hb HB4 HR4 HC4 HLa4
  have HLb5 := Lib.hid hl
  clear hl HX d0 d1 d2 d3 d4
  have HX := Lib.hid (HUC.out q w5 HR5.out HS.out)
  unfold hierV at HX
  have d0 : w5.cell? ⟨G, 0, none⟩ = some (.slice q.a0 threeT.node.length q.c0) := HC5.out.cell 0
  have d1 : w5.cell? ⟨G, 1, none⟩ = some (.slice q.a1 threeT.uf.length q.c1) := HC5.out.cell 1
  have d2 : w5.cell? ⟨G, 2, none⟩ = some (.slice q.a2 threeT.up.length q.c2) := HC5.out.cell 2
  have d3 : w5.cell? ⟨G, 3, none⟩ = some (.slice q.a3 threeT.df.length q.c3) := HC5.out.cell 3
  have d4 : w5.cell? ⟨G, 4, none⟩ = some (.slice q.a4 threeT.dn.length q.c4) := HC5.out.cell 4
  go_wp2_with fail
  refine HX.out.mono ?_
  rintro e w6 ⟨Ac, cc, rfl, hl, hb⟩
  have HB6 := Lib.hid (HB5.out.trans (hb.mono HB5.out.size))
  have HR6 := Lib.hid (HR5.out.below hb)
  have HC6 := Lib.hid (HC5.out.below hb)
  have HLa6 := Lib.hid (HLa5.out.below hb)
  have HLb6 := Lib.hid (HLb5.out.below hb)
  clear hb HB5 HR5 HC5 HLa5 HLb5
  have HLc6 := Lib.hid hl
  clear hl HX d0 d1 d2 d3 d4
  have HX := Lib.hid (HDC.out q w6 HR6.out HS.out)
  unfold hierV at HX
  have d0 : w6.cell? ⟨G, 0, none⟩ = some (.slice q.a0 threeT.node.length q.c0) := HC6.out.cell 0
  have d1 : w6.cell? ⟨G, 1, none⟩ = some (.slice q.a1 threeT.uf.length q.c1) := HC6.out.cell 1
  have d2 : w6.cell? ⟨G, 2, none⟩ = some (.slice q.a2 threeT.up.length q.c2) := HC6.out.cell 2
  have d3 : w6.cell? ⟨G, 3, none⟩ = some (.slice q.a3 threeT.df.length q.c3) := HC6.out.cell 3
  have d4 : w6.cell? ⟨G, 4, none⟩ = some (.slice q.a4 threeT.dn.length q.c4) := HC6.out.cell 4
  go_wp2_with fail
  refine HX.out.mono ?_
  rintro e w7 ⟨Ad, cd, rfl, hl, hb⟩
  have HB7 := Lib.hid (HB6.out.trans (hb.mono HB6.out.size))
  have HR7 := Lib.hid (HR6.out.below hb)
  have HC7 := Lib.hid (HC6.out.below hb)
  have HLa7 := Lib.hid (HLa6.out.below hb)
  have HLb7 := Lib.hid (HLb6.out.below hb)
  have HLc7 := Lib.hid (HLc6.out.below hb)
  clear hb HB6 HR6 HC6 HLa6 HLb6 HLc6
  have HLd7 := Lib.hid hl
  clear hl HX d0 d1 d2 d3 d4
  go_wp2_with fail
  refine (Of_any Aa 2 ca fxA w7 HLa7.out (by omega)).mono ?_
  rintro e w8 ⟨A1, c1, rfl, ho, hb⟩
  have HB8 := Lib.hid (HB7.out.trans (hb.mono HB7.out.size))
  have HR8 := Lib.hid (HR7.out.below hb)
  have HC8 := Lib.hid (HC7.out.below hb)
  have HLb8 := Lib.hid (HLb7.out.below hb)
  have HLc8 := Lib.hid (HLc7.out.below hb)
  have HLd8 := Lib.hid (HLd7.out.below hb)
  clear hb HB7 HR7 HC7 HLb7 HLc7 HLd7
  have HO := Lib.hid (ho.rd encSn_len rfl)
  clear ho
  go_wp2_with fail
  have hq : RdSn (w8.alloc (.cells #[.int .i64 1, .int .u64 0, .bool false, .int .i64 2, .int .u64 5, .bool false] 54)) (some ⟨w8.heap.size, 0, none⟩) 2 fxA := rd_at encSn_len w8 rfl 54 fxA rfl rfl
  have hb6 := (Below.refl w8.heap.size w8).alloc (Nat.le_refl _) (.cells #[.int .i64 1, .int .u64 0, .bool false, .int .i64 2, .int .u64 5, .bool false] 54)
  refine (SameSn_eq A1 _ 2 c1 2 fxA _ (HO.out.below hb6) hq (by omega)).mono ?_
  rintro e w9 ⟨rfl, hb⟩
  have hb7 := hb6.trans (hb.mono hb6.size)
  clear hq hb6 hb HO
  have HB9 := Lib.hid (HB8.out.trans (hb7.mono HB8.out.size))
  have HR9 := Lib.hid (HR8.out.below hb7)
  have HC9 := Lib.hid (HC8.out.below hb7)
  have HLb9 := Lib.hid (HLb8.out.below hb7)
  have HLc9 := Lib.hid (HLc8.out.below hb7)
  have HLd9 := Lib.hid (HLd8.out.below hb7)
  clear  HB8 HR8 HC8 HLb8 HLc8 HLd8
  clear hb7
  go_wp2_with fail
  refine (Of_any Ab 2 cb fxB w9 HLb9.out (by omega)).mono ?_
  rintro e w10 ⟨A1, c1, rfl, ho, hb⟩
  have HB10 := Lib.hid (HB9.out.trans (hb.mono HB9.out.size))
  have HR10 := Lib.hid (HR9.out.below hb)
  have HC10 := Lib.hid (HC9.out.below hb)
  have HLc10 := Lib.hid (HLc9.out.below hb)
  have HLd10 := Lib.hid (HLd9.out.below hb)
  clear hb HB9 HR9 HC9 HLc9 HLd9
  have HO := Lib.hid (ho.rd encSn_len rfl)
  clear ho
  go_wp2_with fail
  have hq : RdSn (w10.alloc (.cells #[.int .i64 0, .int .u64 0, .bool false, .int .i64 2, .int .u64 1, .bool false] 54)) (some ⟨w10.heap.size, 0, none⟩) 2 fxB := rd_at encSn_len w10 rfl 54 fxB rfl rfl
  have hb6 := (Below.refl w10.heap.size w10).alloc (Nat.le_refl _) (.cells #[.int .i64 0, .int .u64 0, .bool false, .int .i64 2, .int .u64 1, .bool false] 54)
  refine (SameSn_eq A1 _ 2 c1 2 fxB _ (HO.out.below hb6) hq (by omega)).mono ?_
  rintro e w11 ⟨rfl, hb⟩
  have hb7 := hb6.trans (hb.mono hb6.size)
  clear hq hb6 hb HO
  have HB11 := Lib.hid (HB10.out.trans (hb7.mono HB10.out.size))
  have HR11 := Lib.hid (HR10.out.below hb7)
  have HC11 := Lib.hid (HC10.out.below hb7)
  have HLc11 := Lib.hid (HLc10.out.below hb7)
  have HLd11 := Lib.hid (HLd10.out.below hb7)
  clear  HB10 HR10 HC10 HLc10 HLd10
  clear hb7
  go_wp2_with fail
  refine (Of_any Ac 1 cc fxC w11 HLc11.out (by omega)).mono ?_
  rintro e w12 ⟨A1, c1, rfl, ho, hb⟩
  have HB12 := Lib.hid (HB11.out.trans (hb.mono HB11.out.size))
  have HR12 := Lib.hid (HR11.out.below hb)
  have HC12 := Lib.hid (HC11.out.below hb)
  have HLd12 := Lib.hid (HLd11.out.below hb)
  clear hb HB11 HR11 HC11 HLd11
  have HO := Lib.hid (ho.rd encSn_len rfl)
  clear ho
  go_wp2_with fail
  have hq : RdSn (w12.alloc (.cells #[.int .i64 2, .int .u64 0, .bool false] 54)) (some ⟨w12.heap.size, 0, none⟩) 1 fxC := rd_at encSn_len w12 rfl 54 fxC rfl rfl
  have hb6 := (Below.refl w12.heap.size w12).alloc (Nat.le_refl _) (.cells #[.int .i64 2, .int .u64 0, .bool false] 54)
  refine (SameSn_eq A1 _ 1 c1 1 fxC _ (HO.out.below hb6) hq (by omega)).mono ?_
  rintro e w13 ⟨rfl, hb⟩
  have hb7 := hb6.trans (hb.mono hb6.size)
  clear hq hb6 hb HO
  have HB13 := Lib.hid (HB12.out.trans (hb7.mono HB12.out.size))
  have HR13 := Lib.hid (HR12.out.below hb7)
  have HC13 := Lib.hid (HC12.out.below hb7)
  have HLd13 := Lib.hid (HLd12.out.below hb7)
  clear  HB12 HR12 HC12 HLd12
  clear hb7
  go_wp2_with fail
  refine (Of_any Ad 1 cd fxC w13 HLd13.out (by omega)).mono ?_
  rintro e w14 ⟨A1, c1, rfl, ho, hb⟩
  have HB14 := Lib.hid (HB13.out.trans (hb.mono HB13.out.size))
  have HR14 := Lib.hid (HR13.out.below hb)
  have HC14 := Lib.hid (HC13.out.below hb)
  clear hb HB13 HR13 HC13
  have HO := Lib.hid (ho.rd encSn_len rfl)
  clear ho
  go_wp2_with fail
  have hq : RdSn (w14.alloc (.cells #[.int .i64 2, .int .u64 0, .bool false] 54)) (some ⟨w14.heap.size, 0, none⟩) 1 fxC := rd_at encSn_len w14 rfl 54 fxC rfl rfl
  have hb6 := (Below.refl w14.heap.size w14).alloc (Nat.le_refl _) (.cells #[.int .i64 2, .int .u64 0, .bool false] 54)
  refine (SameSn_eq A1 _ 1 c1 1 fxC _ (HO.out.below hb6) hq (by omega)).mono ?_
  rintro e w15 ⟨rfl, hb⟩
  have hb7 := hb6.trans (hb.mono hb6.size)
  clear hq hb6 hb HO
  have HB15 := Lib.hid (HB14.out.trans (hb7.mono HB14.out.size))
  have HR15 := Lib.hid (HR14.out.below hb7)
  have HC15 := Lib.hid (HC14.out.below hb7)
  clear  HB14 HR14 HC14
  clear hb7
  have HX := Lib.hid (HU3.out q w15 HR15.out HS.out)
  unfold hierV at HX
  have d0 : w15.cell? ⟨G, 0, none⟩ = some (.slice q.a0 threeT.node.length q.c0) := HC15.out.cell 0
  have d1 : w15.cell? ⟨G, 1, none⟩ = some (.slice q.a1 threeT.uf.length q.c1) := HC15.out.cell 1
  have d2 : w15.cell? ⟨G, 2, none⟩ = some (.slice q.a2 threeT.up.length q.c2) := HC15.out.cell 2
  have d3 : w15.cell? ⟨G, 3, none⟩ = some (.slice q.a3 threeT.df.length q.c3) := HC15.out.cell 3
  have d4 : w15.cell? ⟨G, 4, none⟩ = some (.slice q.a4 threeT.dn.length q.c4) := HC15.out.cell 4
  go_wp2_with fail
  refine HX.out.mono ?_
  rintro e w16 ⟨v1, rfl, hx, hb⟩
  have HB16 := Lib.hid (HB15.out.trans (hb.mono HB15.out.size))
  have HR16 := Lib.hid (HR15.out.below hb)
  have HC16 := Lib.hid (HC15.out.below hb)
  clear hb HB15 HR15 HC15
  have HE116 := Lib.hid hx
  clear hx HX d0 d1 d2 d3 d4
  have HX := Lib.hid (HUM.out q w16 HR16.out HS.out)
  unfold hierV at HX
  have d0 : w16.cell? ⟨G, 0, none⟩ = some (.slice q.a0 threeT.node.length q.c0) := HC16.out.cell 0
  have d1 : w16.cell? ⟨G, 1, none⟩ = some (.slice q.a1 threeT.uf.length q.c1) := HC16.out.cell 1
  have d2 : w16.cell? ⟨G, 2, none⟩ = some (.slice q.a2 threeT.up.length q.c2) := HC16.out.cell 2
  have d3 : w16.cell? ⟨G, 3, none⟩ = some (.slice q.a3 threeT.df.length q.c3) := HC16.out.cell 3
  have d4 : w16.cell? ⟨G, 4, none⟩ = some (.slice q.a4 threeT.dn.length q.c4) := HC16.out.cell 4
  go_wp2_with fail
  refine HX.out.mono ?_
  rintro e w17 ⟨v2, rfl, hx, hb⟩
  have HB17 := Lib.hid (HB16.out.trans (hb.mono HB16.out.size))
  have HR17 := Lib.hid (HR16.out.below hb)
  have HC17 := Lib.hid (HC16.out.below hb)
  have HE117 := Lib.hid (HE116.out.below hb)
  clear hb HB16 HR16 HC16 HE116
  have HE217 := Lib.hid hx
  clear hx HX d0 d1 d2 d3 d4
  have HX := Lib.hid (HD3.out q w17 HR17.out HS.out)
  unfold hierV at HX
  have d0 : w17.cell? ⟨G, 0, none⟩ = some (.slice q.a0 threeT.node.length q.c0) := HC17.out.cell 0
  have d1 : w17.cell? ⟨G, 1, none⟩ = some (.slice q.a1 threeT.uf.length q.c1) := HC17.out.cell 1
  have d2 : w17.cell? ⟨G, 2, none⟩ = some (.slice q.a2 threeT.up.length q.c2) := HC17.out.cell 2
  have d3 : w17.cell? ⟨G, 3, none⟩ = some (.slice q.a3 threeT.df.length q.c3) := HC17.out.cell 3
  have d4 : w17.cell? ⟨G, 4, none⟩ = some (.slice q.a4 threeT.dn.length q.c4) := HC17.out.cell 4
  go_wp2_with fail
  refine HX.out.mono ?_
  rintro e w18 ⟨v3, rfl, hx, hb⟩
  have HB18 := Lib.hid (HB17.out.trans (hb.mono HB17.out.size))
  have HR18 := Lib.hid (HR17.out.below hb)
  have HC18 := Lib.hid (HC17.out.below hb)
  have HE118 := Lib.hid (HE117.out.below hb)
  have HE218 := Lib.hid (HE217.out.below hb)
  clear hb HB17 HR17 HC17 HE117 HE217
  have HE318 := Lib.hid hx
  clear hx HX d0 d1 d2 d3 d4
  have HX : Hid (Calls Tryd.prog 15 #[.agg #[.slice none 0 0, .slice none 0 0, .slice none 0 0, .slice none 0 0, .slice none 0 0], .int .i64 0] w18 (ErrIs (some (14, none)) w18)) := Lib.hid (HZD.out zeroQ w18 (zero_rd _) zero_sm)
  go_wp2_with fail
  refine HX.out.mono ?_
  rintro e w19 ⟨v4, rfl, hx, hb⟩
  have HB19 := Lib.hid (HB18.out.trans (hb.mono HB18.out.size))
  have HR19 := Lib.hid (HR18.out.below hb)
  have HC19 := Lib.hid (HC18.out.below hb)
  have HE119 := Lib.hid (HE118.out.below hb)
  have HE219 := Lib.hid (HE218.out.below hb)
  have HE319 := Lib.hid (HE318.out.below hb)
  clear hb HB18 HR18 HC18 HE118 HE218 HE318
  have HE419 := Lib.hid hx
  clear hx HX
  have HX : Hid (Calls Tryd.prog 9 #[.agg #[.slice none 0 0, .slice none 0 0, .slice none 0 0, .slice none 0 0, .slice none 0 0], .int .i64 0] w19 (ErrIs (some (14, none)) w19)) := Lib.hid (HZU.out zeroQ w19 (zero_rd _) zero_sm)
  go_wp2_with fail
  refine HX.out.mono ?_
  rintro e w20 ⟨v5, rfl, hx, hb⟩
  have HB20 := Lib.hid (HB19.out.trans (hb.mono HB19.out.size))
  have HR20 := Lib.hid (HR19.out.below hb)
  have HC20 := Lib.hid (HC19.out.below hb)
  have HE120 := Lib.hid (HE119.out.below hb)
  have HE220 := Lib.hid (HE219.out.below hb)
  have HE320 := Lib.hid (HE319.out.below hb)
  have HE420 := Lib.hid (HE419.out.below hb)
  clear hb HB19 HR19 HC19 HE119 HE219 HE319 HE419
  have HE520 := Lib.hid hx
  clear hx HX
  go_wp2_with fail
  refine (E_any 7 w20).mono ?_
  rintro e w21 ⟨rfl, hb⟩
  have HB21 := Lib.hid (HB20.out.trans (hb.mono HB20.out.size))
  have HR21 := Lib.hid (HR20.out.below hb)
  have HC21 := Lib.hid (HC20.out.below hb)
  have HE121 := Lib.hid (HE120.out.below hb)
  have HE221 := Lib.hid (HE220.out.below hb)
  have HE321 := Lib.hid (HE320.out.below hb)
  have HE421 := Lib.hid (HE420.out.below hb)
  have HE521 := Lib.hid (HE520.out.below hb)
  clear hb HB20 HR20 HC20 HE120 HE220 HE320 HE420 HE520
  have HSB := Lib.hid (same_bug (bug := some (7, none)) (x := ⟨7, none, 0, 0⟩) (base := 0) HE121.out rfl good7 (HGT.out.below HB21.out))
  go_wp2_with fail
  refine HSB.out.mono ?_
  rintro e w22 ⟨rfl, hb⟩
  have HB22 := Lib.hid (HB21.out.trans (hb.mono HB21.out.size))
  have HR22 := Lib.hid (HR21.out.below hb)
  have HC22 := Lib.hid (HC21.out.below hb)
  have HE222 := Lib.hid (HE221.out.below hb)
  have HE322 := Lib.hid (HE321.out.below hb)
  have HE422 := Lib.hid (HE421.out.below hb)
  have HE522 := Lib.hid (HE521.out.below hb)
  clear hb HB21 HR21 HC21 HE221 HE321 HE421 HE521
  clear HSB
  go_wp2_with fail
  refine (E_any 7 w22).mono ?_
  rintro e w23 ⟨rfl, hb⟩
  have HB23 := Lib.hid (HB22.out.trans (hb.mono HB22.out.size))
  have HR23 := Lib.hid (HR22.out.below hb)
  have HC23 := Lib.hid (HC22.out.below hb)
  have HE223 := Lib.hid (HE222.out.below hb)
  have HE323 := Lib.hid (HE322.out.below hb)
  have HE423 := Lib.hid (HE422.out.below hb)
  have HE523 := Lib.hid (HE522.out.below hb)
  clear hb HB22 HR22 HC22 HE222 HE322 HE422 HE522
  have HSB := Lib.hid (same_bug (bug := some (7, none)) (x := ⟨7, none, 0, 0⟩) (base := 0) HE223.out rfl good7 (HGT.out.below HB23.out))
  go_wp2_with fail
  refine HSB.out.mono ?_
  rintro e w24 ⟨rfl, hb⟩
  have HB24 := Lib.hid (HB23.out.trans (hb.mono HB23.out.size))
  have HR24 := Lib.hid (HR23.out.below hb)
  have HC24 := Lib.hid (HC23.out.below hb)
  have HE324 := Lib.hid (HE323.out.below hb)
  have HE424 := Lib.hid (HE423.out.below hb)
  have HE524 := Lib.hid (HE523.out.below hb)
  clear hb HB23 HR23 HC23 HE323 HE423 HE523
  clear HSB
  go_wp2_with fail
  refine (E_any 7 w24).mono ?_
  rintro e w25 ⟨rfl, hb⟩
  have HB25 := Lib.hid (HB24.out.trans (hb.mono HB24.out.size))
  have HR25 := Lib.hid (HR24.out.below hb)
  have HC25 := Lib.hid (HC24.out.below hb)
  have HE325 := Lib.hid (HE324.out.below hb)
  have HE425 := Lib.hid (HE424.out.below hb)
  have HE525 := Lib.hid (HE524.out.below hb)
  clear hb HB24 HR24 HC24 HE324 HE424 HE524
  have HSB := Lib.hid (same_bug (bug := some (7, none)) (x := ⟨7, none, 0, 0⟩) (base := 0) HE325.out rfl good7 (HGT.out.below HB25.out))
  go_wp2_with fail
  refine HSB.out.mono ?_
  rintro e w26 ⟨rfl, hb⟩
  have HB26 := Lib.hid (HB25.out.trans (hb.mono HB25.out.size))
  have HR26 := Lib.hid (HR25.out.below hb)
  have HC26 := Lib.hid (HC25.out.below hb)
  have HE426 := Lib.hid (HE425.out.below hb)
  have HE526 := Lib.hid (HE525.out.below hb)
  clear hb HB25 HR25 HC25 HE425 HE525
  clear HSB
  go_wp2_with fail
  refine (E_any 14 w26).mono ?_
  rintro e w27 ⟨rfl, hb⟩
  have HB27 := Lib.hid (HB26.out.trans (hb.mono HB26.out.size))
  have HR27 := Lib.hid (HR26.out.below hb)
  have HC27 := Lib.hid (HC26.out.below hb)
  have HE427 := Lib.hid (HE426.out.below hb)
  have HE527 := Lib.hid (HE526.out.below hb)
  clear hb HB26 HR26 HC26 HE426 HE526
  have HSB := Lib.hid (same_bug (bug := some (14, none)) (x := ⟨14, none, 0, 0⟩) (base := 0) HE427.out rfl good14 (HGT.out.below HB27.out))
  go_wp2_with fail
  refine HSB.out.mono ?_
  rintro e w28 ⟨rfl, hb⟩
  have HB28 := Lib.hid (HB27.out.trans (hb.mono HB27.out.size))
  have HR28 := Lib.hid (HR27.out.below hb)
  have HC28 := Lib.hid (HC27.out.below hb)
  have HE528 := Lib.hid (HE527.out.below hb)
  clear hb HB27 HR27 HC27 HE527
  clear HSB
  go_wp2_with fail
  refine (E_any 14 w28).mono ?_
  rintro e w29 ⟨rfl, hb⟩
  have HB29 := Lib.hid (HB28.out.trans (hb.mono HB28.out.size))
  have HR29 := Lib.hid (HR28.out.below hb)
  have HC29 := Lib.hid (HC28.out.below hb)
  have HE529 := Lib.hid (HE528.out.below hb)
  clear hb HB28 HR28 HC28 HE528
  have HSB := Lib.hid (same_bug (bug := some (14, none)) (x := ⟨14, none, 0, 0⟩) (base := 0) HE529.out rfl good14 (HGT.out.below HB29.out))
  go_wp2_with fail
  refine HSB.out.mono ?_
  rintro e w30 ⟨rfl, hb⟩
  have HB30 := Lib.hid (HB29.out.trans (hb.mono HB29.out.size))
  have HR30 := Lib.hid (HR29.out.below hb)
  have HC30 := Lib.hid (HC29.out.below hb)
  clear hb HB29 HR29 HC29
  clear HSB
  go_wp2_with fail
  rw [HQ0.out]
  go_ret
  exact ⟨rfl, HB30.out⟩
end Go.Proofs.YtkcnnamghpdplaaDoor

/- What is true of the world ahead of a law; awake. -/
import Derived.Test.YtngihiebkbheaaaGreatDoorGt26
set_option linter.unusedSimpArgs false
set_option linter.unusedVariables false
namespace Go.Proofs.YtngihiebkbheaaaGreatDoor
open Go.RowKit Txt

/-- the library's variables are as they were laid -/
structure Env (w : World) : Prop where
  errT : ErrT w
  rng : RangeV w
  maxL : MaxL w
  tab : TabP w
theorem Env.below {w w' : World} (h : Env w) (hb : Below w.heap.size w w') : Env w' :=
  ⟨h.errT.below hb, h.rng.kept (S := fun _ => False) (Kept.of_below hb) (fun h => h), h.maxL.below hb, h.tab.below hb⟩
def awG : GrT := ⟨2, [⟨0, 1, 5⟩]⟩
def awS : Bs := [103, 114, 97, 112, 104, 32, 50, 32, 49, 10, 97, 114, 99, 32, 48, 32, 49, 32, 53, 10, 101, 110, 100, 10]
theorem num1 (i : Nat) (h : i < 10) : numB (i : Int) = [UInt8.ofNat (48 + i)] := by
  rw [numB_nat (by omega), Int.toNat_natCast, Lib.decDigits_one h]
theorem aw_print : printT awG = .ok awS := by
  have h2 := num1 2 (by decide)
  have h1 := num1 1 (by decide)
  have h0 := num1 0 (by decide)
  have h5 := num1 5 (by decide)
  unfold printT
  rw [show chkT awG = none by decide]
  dsimp only
  rw [printB_lines]
  show Except.ok (lineB graphW [((2 : Nat) : Int), ((1 : Nat) : Int)] ++ [(⟨((0 : Nat) : Int), ((1 : Nat) : Int), ((5 : Nat) : Int)⟩ : ArcT)].flatMap (fun a => lineB arcW [a.f, a.t, a.w]) ++ lineB endW []) = _
  simp only [lineB, List.flatMap_cons, List.flatMap_nil, h0, h1, h2, h5]
  rfl
theorem aw_parse : parseT awS = .ok awG := by kernel_rfl
set_option maxRecDepth 100000 in
set_option maxHeartbeats 8000000 in
theorem awake_any (W : World) (hw : Env W) : Calls Tryz.prog 10 #[] W (BoolBelow true W) := by
  have hb1 := two_alG W (.cells #[.int .i64 0, .int .i64 1, .int .i64 5] 54) (.cells #[.int .i64 2, .slice (some ⟨W.heap.size, 0, none⟩) 1 1] 24)
  have ha := (cells_new W #[.int .i64 0, .int .i64 1, .int .i64 5] 54).below ((Below.refl _ _).alloc (Nat.le_refl _) (.cells #[.int .i64 2, .slice (some ⟨W.heap.size, 0, none⟩) 1 1] 24))
  have hg := cells_new (W.alloc (.cells #[.int .i64 0, .int .i64 1, .int .i64 5] 54)) #[.int .i64 2, .slice (some ⟨W.heap.size, 0, none⟩) 1 1] 24
  have hrd : RdA (W.alloc (.cells #[.int .i64 0, .int .i64 1, .int .i64 5] 54)) (some ⟨W.heap.size, 0, none⟩) 1 [⟨0, 1, 5⟩] := rd_new encA_len W 54 [⟨0, 1, 5⟩]
  have hrd2 := hrd.below ((Below.refl _ _).alloc (Nat.le_refl _) (.cells #[.int .i64 2, .slice (some ⟨W.heap.size, 0, none⟩) 1 1] 24))
  have hz : ((W.alloc (.cells #[.int .i64 0, .int .i64 1, .int .i64 5] 54)).alloc (.cells #[.int .i64 2, .slice (some ⟨W.heap.size, 0, none⟩) 1 1] 24)).heap.size = W.heap.size + 1 + 1 := by simp
  rw [size_alloc] at hg
  have HB1 := Lib.hid hb1
  have HG1 := Lib.hid hg
  have HRD1 := Lib.hid hrd2
  have HW := Lib.hid hw
  clear hb1 ha hg hrd hrd2 hw
  go_enter Tryz.func10, Tryz.ntmps10
  go_upto_region 2 with fail
  generalize (W.alloc (.cells #[.int .i64 0, .int .i64 1, .int .i64 5] 54)).alloc (.cells #[.int .i64 2, .slice (some ⟨W.heap.size, 0, none⟩) 1 1] 24) = w1 at *
  have Gc0 : w1.cell? ⟨W.heap.size + 1, 0, none⟩ = some (.int .i64 2) := HG1.out.cell 0
  have Gc1 : w1.cell? ⟨W.heap.size + 1, 1, none⟩ = some (.slice (some ⟨W.heap.size, 0, none⟩) 1 1) := HG1.out.cell 1
  go_wp2_with fail
  refine (Print_any awG (some ⟨W.heap.size, 0, none⟩) 1 w1 HRD1.out (by decide) (HW.out.below HB1.out).tab).mono ?_
  rintro e w2 ⟨hb2, he⟩
  rw [aw_print] at he
  dsimp only at he
  subst he
  have HB2 := Lib.hid (HB1.out.trans (hb2.mono HB1.out.size))
  have HG2 := Lib.hid (HG1.out.below hb2)
  have HRD2 := Lib.hid (HRD1.out.below hb2)
  have hs2 := hb2.size
  clear hb2 Gc0 Gc1
  go_upto_region 3 with fail
  go_wp2_with fail
  refine (Parse_any ⟨#[103, 114, 97, 112, 104, 32, 50, 32, 49, 10, 97, 114, 99, 32, 48, 32, 49, 32, 53, 10, 101, 110, 100, 10]⟩ w2 (by decide) (HW.out.below HB2.out).maxL (HW.out.below HB2.out).rng).mono ?_
  rintro e w3 ⟨hb3, he⟩
  rw [show parseT (⟨#[103, 114, 97, 112, 104, 32, 50, 32, 49, 10, 97, 114, 99, 32, 48, 32, 49, 32, 53, 10, 101, 110, 100, 10]⟩ : ByteArray).data.toList = .ok awG from aw_parse] at he
  obtain ⟨A3, k3, rfl, ho⟩ := he
  have HQ3 : Hid (RdA w3 A3 1 [⟨0, 1, 5⟩]) := Lib.hid (ho.rd encA_len rfl)
  clear ho
  unfold awG
  dsimp only [List.length_cons, List.length_nil]
  have HB3 := Lib.hid (HB2.out.trans (hb3.mono HB2.out.size))
  have HG3 := Lib.hid (HG2.out.below hb3)
  have HRD3 := Lib.hid (HRD2.out.below hb3)
  have hs3 := hb3.size
  clear hb3
  have hb4 := (Below.refl w3.heap.size w3).alloc (Nat.le_refl _) (.cells #[.int .i64 2, .slice A3 1 k3] 24)
  have hx4 := cells_new w3 #[.int .i64 2, .slice A3 1 k3] 24
  have HB4 := Lib.hid (HB3.out.trans (hb4.mono HB3.out.size))
  have HG4 := Lib.hid (HG3.out.below hb4)
  have HRD4 := Lib.hid (HRD3.out.below hb4)
  have HQ4 := Lib.hid (HQ3.out.below hb4)
  have hs4 := hb4.size
  clear hb4
  have HP4 := Lib.hid hx4
  clear hx4
  go_upto_region 4 with fail
  generalize w3.alloc (.cells #[.int .i64 2, .slice A3 1 k3] 24) = w4 at *
  have Gc0 : w4.cell? ⟨W.heap.size + 1, 0, none⟩ = some (.int .i64 2) := HG4.out.cell 0
  have Gc1 : w4.cell? ⟨W.heap.size + 1, 1, none⟩ = some (.slice (some ⟨W.heap.size, 0, none⟩) 1 1) := HG4.out.cell 1
  have Pc0 : w4.cell? ⟨w3.heap.size, 0, none⟩ = some (.int .i64 2) := HP4.out.cell 0
  have Pc1 : w4.cell? ⟨w3.heap.size, 1, none⟩ = some (.slice A3 1 k3) := HP4.out.cell 1
  have hse : ((toB awS).toList == [103, 114, 97, 112, 104, 32, 50, 32, 49, 10, 97, 114, 99, 32, 48, 32, 49, 32, 53, 10, 101, 110, 100, 10]) = true := by rw [Lib.toList_data, toB_list]; decide
  have HS := Lib.hid (Same03_eq (some ⟨W.heap.size, 0, none⟩) A3 1 1 k3 2 [⟨0, 1, 5⟩] w4 HRD4.out HQ4.out (by decide))
  go_wp2_with fail
  refine HS.out.mono ?_
  rintro e w5 ⟨rfl, hb5⟩
  clear HS
  have HB5 := Lib.hid (HB4.out.trans (hb5.mono HB4.out.size))
  have HG5 := Lib.hid (HG4.out.below hb5)
  have HP5 := Lib.hid (HP4.out.below hb5)
  have hs5 := hb5.size
  clear hb5 Gc0 Gc1 Pc0 Pc1
  go_wp2_with fail
  refine (GCheck_any ⟨-1, []⟩ none 0 w5 Rd.nil (by decide)).mono ?_
  rintro e w6 ⟨hb6, he⟩
  rw [show chkT ⟨-1, []⟩ = some (9, none) by decide] at he
  dsimp only at he
  subst he
  have HB6 := Lib.hid (HB5.out.trans (hb6.mono HB5.out.size))
  have HG6 := Lib.hid (HG5.out.below hb6)
  have HP6 := Lib.hid (HP5.out.below hb6)
  have hs6 := hb6.size
  clear hb6
  go_wp2_with fail
  refine (E_any 9 w6).mono ?_
  rintro e w7 ⟨rfl, hb7⟩
  have HB7 := Lib.hid (HB6.out.trans (hb7.mono HB6.out.size))
  have HG7 := Lib.hid (HG6.out.below hb7)
  have HP7 := Lib.hid (HP6.out.below hb7)
  have hs7 := hb7.size
  clear hb7
  have HS := Lib.hid (same_bug (bug := some (9, none)) (w := w7) (v := .iface 49 (.int .i64 9)) (x := ⟨9, none, 0, 0⟩) (base := 0) (base' := 0) rfl rfl (fun p hp => by injection hp with hp; subst hp; decide) (HW.out.below HB7.out).errT)
  go_wp2_with fail
  refine HS.out.mono ?_
  rintro e w8 ⟨rfl, hb8⟩
  have HB8 := Lib.hid (HB7.out.trans (hb8.mono HB7.out.size))
  have HG8 := Lib.hid (HG7.out.below hb8)
  have HP8 := Lib.hid (HP7.out.below hb8)
  have hs8 := hb8.size
  clear hb8
  go_wp2_with fail
  go_ret
  exact ⟨rfl, HB8.out⟩
end Go.Proofs.YtngihiebkbheaaaGreatDoor

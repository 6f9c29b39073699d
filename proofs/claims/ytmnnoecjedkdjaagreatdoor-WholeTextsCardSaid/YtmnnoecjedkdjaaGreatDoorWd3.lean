/- The document's: two matrices are alike. -/
import Derived.Test.YtmnnoecjedkdjaaGreatDoorWd2
set_option linter.unusedSimpArgs false
set_option linter.unusedVariables false
namespace Go.Proofs.YtmnnoecjedkdjaaGreatDoor
open Go.RowKit Txt

set_option maxRecDepth 100000 in
set_option maxHeartbeats 4000000 in
theorem SameRow_any (R1 R2 : Nat) (l : List Int) (n : Nat) (W : World) (h1 : Cells W R1 (uA l) 94) (h2 : Cells W R2 (uA l) 94) (hl : l.length = n) (hn : n ≤ 65536) :
    Calls Tryz.prog 41 #[.slice (some ⟨R1, 0, none⟩) n n, .slice (some ⟨R2, 0, none⟩) n n] W (BoolBelow true W) := by
  have H1 := Lib.hid h1
  have H2 := Lib.hid h2
  have HL := Lib.hid hl
  clear h1 h2 hl
  go_enter Tryz.func41, Tryz.ntmps41
  go_wp2_with fail
  go_loopw [13] (fun iv wr => ∃ j : Nat, j ≤ n ∧ iv = .int .i64 j ∧ Below W.heap.size W wr) (fun iv _ => n - (intOf iv).toNat)
  case atStart => exact ⟨0, by omega, rfl, Below.refl _ _⟩
  case round =>
    obtain ⟨j, hj, rfl, hb⟩ := hrel
    have HB := Lib.hid hb
    clear hb
    by_cases hlt : j < n
    · have g0 : decide ((j : Int) < (n : Int)) = true := decide_eq_true (by omega)
      have c1 := (H1.out.below HB.out).cell j
      have c2 := (H2.out.below HB.out).cell j
      rw [uA_at (by rw [HL.out]; exact hlt)] at c1 c2
      generalize l[j]'(by rw [HL.out]; exact hlt) = x at *
      go_wp2_with (go_quiet (fail))
      go_roundw
      case rel => exact ⟨j + 1, by omega, by go_num, HB.out.trans ⟨rfl, rfl, rfl, Nat.le_refl _, fun _ _ => rfl⟩⟩
      case measure => simp [intOf]; omega
    · obtain rfl : j = n := by omega
      go_wp2_with fail
      go_ret
      exact ⟨rfl, HB.out⟩
set_option maxRecDepth 100000 in
set_option maxHeartbeats 4000000 in
theorem SameMatrix_any (b1 b2 G1 G2 n : Nat) (f1 f2 : Nat → Option (Nat × List Int)) (D : Mat) (W : World) (h1 : MatAt W b1 G1 n f1) (h2 : MatAt W b2 G2 n f2) (k1 : MatF n f1 D) (k2 : MatF n f2 D) (hn : n ≤ 65536) :
    Calls Tryz.prog 17 #[.slice (some ⟨G1, 0, none⟩) n n, .slice (some ⟨G2, 0, none⟩) n n] W (BoolBelow true W) := by
  have H1 := Lib.hid h1
  have H2 := Lib.hid h2
  have K1 := Lib.hid k1
  have K2 := Lib.hid k2
  clear h1 h2 k1 k2
  go_enter Tryz.func17, Tryz.ntmps17
  go_wp2_with fail
  go_loopw [13] (fun iv wr => ∃ j : Nat, j ≤ n ∧ iv = .int .i64 j ∧ Below W.heap.size W wr) (fun iv _ => n - (intOf iv).toNat)
  case atStart => exact ⟨0, by omega, rfl, Below.refl _ _⟩
  case round =>
    obtain ⟨j, hj, rfl, hb⟩ := hrel
    have HB := Lib.hid hb
    clear hb
    by_cases hlt : j < n
    · have g0 : decide ((j : Int) < (n : Int)) = true := decide_eq_true (by omega)
      have M1 := H1.out.below HB.out
      have M2 := H2.out.below HB.out
      obtain ⟨R1, hR1⟩ := K1.out j hlt
      obtain ⟨R2, hR2⟩ := K2.out j hlt
      have c1 := (MatAt.cell M1 hlt hR1).1
      have c2 := (MatAt.cell M2 hlt hR2).1
      rw [rowD_len] at c1 c2
      have HC : Hid (∀ w, Below wr.heap.size wr w → Calls Tryz.prog 41 #[.slice (some ⟨R1, 0, none⟩) n n, .slice (some ⟨R2, 0, none⟩) n n] w (BoolBelow true w)) := Lib.hid fun w hb => SameRow_any R1 R2 (rowD n D j) n w ((M1.row j R1 _ hlt hR1).1.below hb) ((M2.row j R2 _ hlt hR2).1.below hb) (rowD_len _ _ _) hn
      have HX : Hid (Below wr.heap.size wr wr) := Lib.hid (Below.refl _ _)
      clear M1 M2 hR1 hR2
      go_upto_region 6 with fail
      go_region_held3 (fun w' => w'.cell? ⟨G1, j, none⟩ = some (.slice (some ⟨R1, 0, none⟩) n n) ∧ w'.cell? ⟨G2, j, none⟩ = some (.slice (some ⟨R2, 0, none⟩) n n)) (first | with_reducible exact ⟨c1, c2⟩ | go_keep) (first
        | (go_at_call 41; (with_reducible refine (HC.out _ (by first | exact HX.out | exact HX.out.drew)).mono ?_); rintro e v0 ⟨rfl, hb5⟩; have c1 := cell_below hb5 c1; have c2 := cell_below hb5 c2; have HX : Hid (Below wr.heap.size wr v0) := Lib.hid (by first | exact HX.out.trans (hb5.mono HX.out.size) | exact HX.out.drew.trans (hb5.mono HX.out.drew.size)); clear hb5))
      all_goals
        rename_i hHeld
        clear hHeld c1 c2
        have HB5 := Lib.hid (HB.out.trans (HX.out.mono HB.out.size))
        go_wp2_with fail
        go_roundw
        case rel => exact ⟨j + 1, by omega, by go_num, by first | exact HB5.out | exact HB5.out.drew⟩
        case measure => simp [intOf]; omega
    · obtain rfl : j = n := by omega
      go_wp2_with fail
      go_ret
      exact ⟨rfl, HB.out⟩
end Go.Proofs.YtmnnoecjedkdjaaGreatDoor

/- The first of several errors: the document's. -/
import Derived.Test.YtkcnnamghpdplaaDoorClC
set_option linter.unusedSimpArgs false
set_option linter.unusedVariables false
namespace Go.Proofs.YtkcnnamghpdplaaDoor
open Go.RowKit

/-- an error of the document's, as its two cells tell it -/
structure ErrX where
  c : Int
  A : Option Addr
  n : Nat
  k : Nat
abbrev errV (x : ErrX) : Value := .agg #[.int .i64 x.c, .slice x.A x.n x.k]
abbrev encX (x : ErrX) : List Value := [.int .i64 x.c, .slice x.A x.n x.k]
theorem encX_len : ∀ x, (encX x).length = 2 := fun _ => rfl
def badX (x : ErrX) : Bool := decide (x.c ≠ 0 ∨ 0 < x.n)
def zX : ErrX := ⟨0, none, 0, 0⟩
def firstX (l : List ErrX) : ErrX := (l.find? badX).getD zX
theorem find_at {l : List ErrX} {j : Nat} (hj : j < l.length) (h : ∀ r (hr : r < l.length), r < j → badX l[r] = false) (hb : badX l[j] = true) : firstX l = l[j] := by
  unfold firstX
  have : l.find? badX = some l[j] := by
    rw [List.find?_eq_some_iff_getElem]
    refine ⟨hb, j, hj, rfl, fun r hr => ?_⟩
    rw [h r (by omega) hr]
    rfl
  rw [this]
  rfl
theorem find_no {l : List ErrX} (h : ∀ r (hr : r < l.length), badX l[r] = false) : firstX l = zX := by
  unfold firstX
  have : l.find? badX = none := by
    rw [List.find?_eq_none]
    intro x hx
    obtain ⟨r, hr, rfl⟩ := List.mem_iff_getElem.1 hx
    rw [h r hr]
    exact Bool.false_ne_true
  rw [this]
  rfl
def FirstIs (x : ErrX) (W : World) (e : Ending) (w' : World) : Prop := e = .returned (errV x) ∧ Below W.heap.size W w'
set_option maxRecDepth 100000 in
set_option maxHeartbeats 1000000 in
theorem First_any (A : Option Addr) (n cap : Nat) (l : List ErrX) (W : World) (hp : Rd 2 encX W A n l) (hn : n ≤ 1000000) :
    Calls Tryd.prog 36 #[.slice A n cap] W (FirstIs (firstX l) W) := by
  have HP := Lib.hid hp
  clear hp
  go_enter Tryd.func36, Tryd.ntmps36
  go_wp2_with fail
  have hca := cells_new W #[.int .i64 0, .slice none 0 0] 37
  have hba := (Below.refl W.heap.size W).alloc (Nat.le_refl _) (.cells #[.int .i64 0, .slice none 0 0] 37)
  have hlw : (W.alloc (.cells #[.int .i64 0, .slice none 0 0] 37)).heap.size = W.heap.size + 1 := size_alloc _ _
  generalize W.alloc (.cells #[.int .i64 0, .slice none 0 0] 37) = W2 at *
  have HCA := Lib.hid hca
  have HBA := Lib.hid hba
  have HLW := Lib.hid hlw
  clear hca hba hlw
  go_loopw [7] (fun iv wr => ∃ j : Nat, j ≤ n ∧ iv = .int .i64 j ∧ (∀ r (hr : r < l.length), r < j → badX l[r] = false) ∧ Below W2.heap.size W2 wr) (fun iv _ => n - (intOf iv).toNat)
  case atStart => exact ⟨0, by omega, rfl, fun r _ hr => absurd hr (by omega), Below.refl _ _⟩
  case round =>
    obtain ⟨j, hj, rfl, hst, hb⟩ := hrel
    have HST := Lib.hid hst
    have HB := Lib.hid hb
    clear hst hb
    have hWr : Below W.heap.size W wr := HBA.out.trans (HB.out.mono (by have := HLW.out; omega))
    by_cases hlt : j < n
    · have g0 : decide ((j : Int) < (n : Int)) = true := decide_eq_true (by omega)
      obtain ⟨ad, hA, cc⟩ := (HP.out.below hWr).at_ hlt
      subst hA
      have hjq : j < l.length := by have := HP.out.1; omega
      have c0 := cc 0 _ rfl
      have c1 := cc 1 _ rfl
      rw [← add_of_add] at c1
      rw [Nat.add_zero] at c0
      have HAT : Hid (badX l[j] = true → firstX l = l[j]) := Lib.hid fun hb => find_at hjq HST.out hb
      have HNX : Hid (badX l[j] = false → ∀ r (hr : r < l.length), r < j + 1 → badX l[r] = false) := Lib.hid fun hb r hr h => by
        by_cases e : r = j
        · subst e; exact hb
        · exact HST.out r hr (by omega)
      generalize l[j] = x at *
      obtain ⟨x0, x1, x2, x3⟩ := x
      dsimp only at c0 c1
      have c1' : wr.cell? ⟨(ad.add (j * 2)).block, (ad.add (j * 2)).off + 1, none⟩ = some (.slice x1 x2 x3) := c1
      have hx := cells_new wr #[.int .i64 x0, .slice x1 x2 x3] 37
      have hbx := (Below.refl wr.heap.size wr).alloc (Nat.le_refl _) (.cells #[.int .i64 x0, .slice x1 x2 x3] 37)
      have HX := Lib.hid hx
      have HBX := Lib.hid hbx
      have HBW : Hid (∀ w, Calls Tryd.prog 18 #[.agg #[.int .i64 x0, .slice x1 x2 x3]] w fun e w' => e = .returned (.bool (badX ⟨x0, x1, x2, x3⟩)) ∧ Below w.heap.size w w') := Lib.hid fun w => Bad_any x0 x1 x2 x3 w
      clear cc c1 hjq hWr hx hbx
      cases hbd : badX ⟨x0, x1, x2, x3⟩ with
      | true =>
        rw [hbd] at HBW
        have HE := Lib.hid (HAT.out hbd)
        clear hbd
        go_wp2_with fail
        refine (HBW.out _).mono ?_
        rintro e w3 ⟨rfl, hb3⟩
        have HB3 : Hid (Below W2.heap.size W2 w3) := Lib.hid ((HB.out.alloc HB.out.size _).trans (hb3.mono (by have := HB.out.size; simp; omega)))
        have hx3 := HX.out.below hb3
        have y0 : w3.cell? ⟨wr.heap.size, 0, none⟩ = some (.int .i64 x0) := hx3.cell 0
        have y1 : w3.cell? ⟨wr.heap.size, 1, none⟩ = some (.slice x1 x2 x3) := hx3.cell 1
        have hcx := HCA.out.below HB3.out
        have b0 : w3.cell? ⟨W.heap.size, 0, none⟩ = some (.int .i64 0) := hcx.cell 0
        have b1 : w3.cell? ⟨W.heap.size, 1, none⟩ = some (.slice none 0 0) := hcx.cell 1
        have f0 := hcx.frozen 0
        have f1 := hcx.frozen 1
        have hfin := (hcx.set_ 0 (.int .i64 x0)).set_ 1 (.slice x1 x2 x3)
        have HEND : Hid (FirstIs (firstX l) W (.returned (.agg #[.int .i64 x0, .slice x1 x2 x3])) ((w3.setCell ⟨W.heap.size, 0, none⟩ (.int .i64 x0)).setCell ⟨W.heap.size, 1, none⟩ (.slice x1 x2 x3))) := Lib.hid (by
          rw [HE.out]
          exact ⟨rfl, ((HBA.out.trans (HB3.out.mono (by have := HLW.out; omega))).setCell (Nat.le_refl _) _).setCell (Nat.le_refl _) _⟩)
        clear hb3 hx3 hcx
        go_wp2_with fail
        generalize (w3.setCell ⟨W.heap.size, 0, none⟩ (.int .i64 x0)).setCell ⟨W.heap.size, 1, none⟩ (.slice x1 x2 x3) = wz at *
        have r0 : wz.cell? ⟨W.heap.size, 0, none⟩ = some (.int .i64 x0) := hfin.cell 0
        have r1 : wz.cell? ⟨W.heap.size, 1, none⟩ = some (.slice x1 x2 x3) := hfin.cell 1
        refine bodyPost_ret (by simp [results, Tryd.results36, go_sem, r0, r1]; try rfl) rfl ?_
        exact HEND.out
      | false =>
        rw [hbd] at HBW
        have HN := Lib.hid (HNX.out hbd)
        clear hbd
        go_wp2_with fail
        refine (HBW.out _).mono ?_
        rintro e w3 ⟨rfl, hb3⟩
        have HB3 : Hid (Below W2.heap.size W2 w3) := Lib.hid ((HB.out.alloc HB.out.size _).trans (hb3.mono (by have := HB.out.size; simp; omega)))
        clear hb3
        go_wp2_with fail
        go_roundw
        case rel => exact ⟨j + 1, by omega, by go_num, HN.out, HB3.out⟩
        case measure => simp [intOf]; omega
    · obtain rfl : j = n := by omega
      have HE : Hid (firstX l = zX) := Lib.hid (find_no fun r hr => HST.out r hr (by have := HP.out.1; omega))
      have hcx := HCA.out.below HB.out
      have b0 : wr.cell? ⟨W.heap.size, 0, none⟩ = some (.int .i64 0) := hcx.cell 0
      have b1 : wr.cell? ⟨W.heap.size, 1, none⟩ = some (.slice none 0 0) := hcx.cell 1
      have f0 := hcx.frozen 0
      have f1 := hcx.frozen 1
      have hfin := (hcx.set_ 0 (.int .i64 0)).set_ 1 (.slice none 0 0)
      have HEND : Hid (FirstIs (firstX l) W (.returned (.agg #[.int .i64 0, .slice none 0 0])) ((wr.setCell ⟨W.heap.size, 0, none⟩ (.int .i64 0)).setCell ⟨W.heap.size, 1, none⟩ (.slice none 0 0))) := Lib.hid (by
        rw [HE.out]
        exact ⟨rfl, (hWr.setCell (Nat.le_refl _) _).setCell (Nat.le_refl _) _⟩)
      clear hcx hWr
      go_wp2_with fail
      generalize (wr.setCell ⟨W.heap.size, 0, none⟩ (.int .i64 0)).setCell ⟨W.heap.size, 1, none⟩ (.slice none 0 0) = wz at *
      have r0 : wz.cell? ⟨W.heap.size, 0, none⟩ = some (.int .i64 0) := hfin.cell 0
      have r1 : wz.cell? ⟨W.heap.size, 1, none⟩ = some (.slice none 0 0) := hfin.cell 1
      refine bodyPost_ret (by simp [results, Tryd.results36, go_sem, r0, r1]; try rfl) rfl ?_
      exact HEND.out
end Go.Proofs.YtkcnnamghpdplaaDoor

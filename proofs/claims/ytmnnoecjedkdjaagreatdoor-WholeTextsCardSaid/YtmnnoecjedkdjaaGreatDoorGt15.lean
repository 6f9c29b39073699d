/- The document's: two graphs are the same; the errors of a row. -/
import Derived.Test.YtmnnoecjedkdjaaGreatDoorGt14
set_option linter.unusedSimpArgs false
set_option linter.unusedVariables false
namespace Go.Proofs.YtmnnoecjedkdjaaGreatDoor
open Go.RowKit Txt

abbrev RdA (w : World) (A : Option Addr) (n : Nat) (l : List ArcT) : Prop := Rd 3 encA w A n l
theorem arc_cells {w : World} {ad : Addr} {j : Nat} {x : ArcT} (h : ∀ i u, (encA x)[i]? = some u → w.cell? (ad.add (j * 3 + i)) = some u) :
    w.cell? (ad.add (j * 3)) = some (.int .i64 x.f) ∧ w.cell? ⟨(ad.add (j * 3)).block, (ad.add (j * 3)).off + 1, none⟩ = some (.int .i64 x.t) ∧ w.cell? ⟨(ad.add (j * 3)).block, (ad.add (j * 3)).off + 2, none⟩ = some (.int .i64 x.w) := by
  have h0 := h 0 _ rfl
  have h1 := h 1 _ rfl
  have h2 := h 2 _ rfl
  rw [← add_of_add] at h1 h2
  rw [Nat.add_zero] at h0
  exact ⟨h0, h1, h2⟩
set_option maxRecDepth 100000 in
set_option maxHeartbeats 4000000 in
theorem SameArcs_eq (A B : Option Addr) (n c d : Nat) (l : List ArcT) (W : World) (hp : RdA W A n l) (hq : RdA W B n l) (hn : n ≤ 9223372036854775807) :
    Calls Tryz.prog 28 #[.slice A n c, .slice B n d] W (BoolBelow true W) := by
  have HP := Lib.hid hp
  have HQ := Lib.hid hq
  clear hp hq
  go_enter Tryz.func28, Tryz.ntmps28
  go_wp2_with fail
  go_loopw [13] (fun iv wr => ∃ j : Nat, j ≤ n ∧ iv = .int .i64 j ∧ Below W.heap.size W wr) (fun iv _ => n - (intOf iv).toNat)
  case atStart => exact ⟨0, by omega, rfl, Below.refl _ _⟩
  case round =>
    obtain ⟨j, hj, rfl, hb⟩ := hrel
    have HB := Lib.hid hb
    clear hb
    by_cases hlt : j < n
    · have g0 : decide ((j : Int) < (n : Int)) = true := decide_eq_true (by omega)
      obtain ⟨ad, hA, cc⟩ := (HP.out.below HB.out).at_ hlt
      subst hA
      obtain ⟨be, hB, dd⟩ := (HQ.out.below HB.out).at_ hlt
      subst hB
      have hjp : j < l.length := by have := HP.out.1; omega
      obtain ⟨c0, c1, c2⟩ := arc_cells cc
      obtain ⟨d0, d1, d2⟩ := arc_cells dd
      clear cc dd
      generalize l[j] = x at *
      obtain ⟨x0, x1, x2⟩ := x
      dsimp only at c0 c1 c2 d0 d1 d2
      clear hjp
      go_wp2_with (go_quiet (fail))
      go_roundw
      case rel => exact ⟨j + 1, by omega, by go_num, HB.out.trans ⟨rfl, rfl, rfl, Nat.le_refl _, fun _ _ => rfl⟩⟩
      case measure => simp [intOf]; omega
    · obtain rfl : j = n := by omega
      go_wp2_with fail
      go_ret
      exact ⟨rfl, HB.out⟩
theorem two_alG (W : World) (a b : Obj) : Below W.heap.size W ((W.alloc a).alloc b) := ((Below.refl _ W).alloc (Nat.le_refl _) a).alloc (by simp) b
set_option maxRecDepth 100000 in
set_option maxHeartbeats 4000000 in
theorem Same03_eq (A B : Option Addr) (n c d : Nat) (m : Int) (l : List ArcT) (W : World) (hp : RdA W A n l) (hq : RdA W B n l) (hn : n ≤ 9223372036854775807) :
    Calls Tryz.prog 8 #[.agg #[.int .i64 m, .slice A n c], .agg #[.int .i64 m, .slice B n d]] W (BoolBelow true W) := by
  have hb := two_alG W (.cells #[.int .i64 m, .slice A n c] 30) (.cells #[.int .i64 m, .slice B n d] 30)
  have hs : ((W.alloc (.cells #[.int .i64 m, .slice A n c] 30)).alloc (.cells #[.int .i64 m, .slice B n d] 30)).heap.size = W.heap.size + 1 + 1 := by simp
  have HS := Lib.hid (SameArcs_eq A B n c d l _ (hp.below hb) (hq.below hb) hn)
  have HB := Lib.hid hb
  clear hb hp hq
  go_enter Tryz.func8, Tryz.ntmps8
  refine wp_named ?_
  intro Q0 hQ0
  have HQ0 := Lib.hid hQ0
  clear hQ0
  go_wp2_with fail
  refine HS.out.mono ?_
  rintro e w2 ⟨rfl, hb2⟩
  rw [hs] at hb2
  have HB2 := Lib.hid (HB.out.trans (hb2.mono (by omega)))
  clear hb2
  go_wp2_with fail
  rw [HQ0.out]
  go_ret
  exact ⟨rfl, HB2.out⟩
end Go.Proofs.YtmnnoecjedkdjaaGreatDoor

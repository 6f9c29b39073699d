/- viaductseen.Same: true where the error is the chain that the document wants. -/
import Derived.Test.YtkcnnamghpdplaaDoorErrs4
set_option linter.unusedVariables false
set_option linter.unusedSimpArgs false
namespace Go.Proofs.YtkcnnamghpdplaaDoor
open Go.RowKit Go.Extern.Stop Go.Stop Go.Extern

/-- no error is wanted, there is none -/
theorem Same_none (A : Option Addr) (cap : Nat) (w : World) :
    Calls Tryd.prog 14 #[.nilIface, .agg #[.int .i64 0, .slice A 0 cap]] w fun e w' => e = .returned (.bool true) ∧ Below w.heap.size w w' := by
  go_enter Tryd.func14, Tryd.ntmps14
  go_wp2_with fail
  refine (BadE_any 0 A 0 cap _ (by simp [maxLen])).mono ?_
  rintro e w2 ⟨rfl, hb⟩
  have HB := Lib.hid (((Below.refl w.heap.size w).alloc (Nat.le_refl _) _).trans (hb.mono (by simp)))
  clear hb
  go_wp2_with fail
  go_ret
  exact ⟨rfl, HB.out⟩
theorem two_places {w : World} {ad : Addr} {j : Nat} {x : Int × Int} (h : ∀ i u, (places x)[i]? = some u → w.cell? (ad.add (j * 2 + i)) = some u) :
    w.cell? (ad.add (j * 2)) = some (.int .i64 x.1) ∧ w.cell? ⟨(ad.add (j * 2)).block, (ad.add (j * 2)).off + 1, none⟩ = some (.int .i64 x.2) := by
  have h0 := h 0 _ rfl
  have h1 := h 1 _ rfl
  rw [← add_of_add] at h1
  rw [Nat.add_zero] at h0
  exact ⟨h0, h1⟩
theorem chain_step {W : World} {E : Value} {x : Int × Int} {ps : List (Int × Int)} {c : Int} (h : Chain W E (x :: ps) c) :
    ∃ b o E', E = .iface 74 (.pointer (some ⟨b, o, none⟩)) ∧ W.cell? ⟨b, o, none⟩ = some (.int .i64 x.1) ∧ W.cell? ⟨b, o + 1, none⟩ = some (.int .i64 x.2) ∧ W.cell? ⟨b, o + 2, none⟩ = some E' ∧ Chain W E' ps c := by
  cases h with
  | wrap b o k a E' ps c h1 h2 h3 hc => exact ⟨b, o, E', rfl, h1, h2, h3, hc⟩
theorem chain_last {W : World} {E : Value} {c : Int} (h : Chain W E [] c) (hc : c ≠ 0) : E = .iface 56 (.int .i64 c) := by
  cases h with
  | none => exact absurd rfl hc
  | num c h => rfl

set_option maxRecDepth 1000000 in
theorem Same_true (err : Value) (ps : List (Int × Int)) (c : Int) (A : Option Addr) (n cap : Nat) (w : World) (hch : Chain w err ps c) (hc : c ≠ 0) (hp : RdP w A n ps) (hg : ErrT w) (hn : n ≤ maxLen) :
    Calls Tryd.prog 14 #[err, .agg #[.int .i64 c, .slice A n cap]] w fun e w' => e = .returned (.bool true) ∧ Below w.heap.size w w' := by
  obtain ⟨u0, v0, rfl⟩ : ∃ u v, err = .iface u v := by
    rcases hch.form with ⟨_, _, h⟩ | h
    · exact absurd h hc
    · exact h
  have hn2 : n ≤ 9223372036854775807 := by unfold maxLen at hn; omega
  have HCH := Lib.hid hch
  have HC := Lib.hid hc
  have HP := Lib.hid hp
  have HG := Lib.hid hg
  clear hch hc hp hg
  go_enter Tryd.func14, Tryd.ntmps14
  go_wp2_with fail
  refine (BadE_any c A n cap _ hn).mono ?_
  rintro e w2 ⟨rfl, hb⟩
  rw [decide_eq_true (Or.inl HC.out)]
  have c0 : w2.cell? ⟨w.heap.size, 0, none⟩ = some (.int .i64 c) := (hb.cell (by simp)).trans (by simp)
  have c1 : w2.cell? ⟨w.heap.size, 1, none⟩ = some (.slice A n cap) := (hb.cell (by simp)).trans (by simp)
  have HB := Lib.hid (((Below.refl w.heap.size w).alloc (Nat.le_refl _) (.cells #[.int .i64 c, .slice A n cap] 37)).trans (hb.mono (by simp)))
  have HS : Hid (w.heap.size + 1 ≤ w2.heap.size) := Lib.hid (by have := hb.size; simpa using this)
  clear hb
  go_wp2_with fail
  have C0 := Lib.hid c0
  clear c0 c1
  obtain ⟨W0, rfl⟩ : ∃ W0 : World, W0 = w2 := ⟨_, rfl⟩
  go_loopw [5, 23] (fun E i wr => ∃ j : Nat, j ≤ n ∧ i = .int .i64 j ∧ Chain w E (ps.drop j) c ∧ Below w.heap.size w wr ∧ Below W0.heap.size W0 wr) (fun E i _ => n - (intOf i).toNat)
  case atStart => exact ⟨0, by omega, rfl, HCH.out, HB.out, Below.refl _ _⟩
  case round =>
    obtain ⟨j, hj, rfl, hcj, hbw, hb0⟩ := hrel
    have HBW := Lib.hid hbw
    have HB0 := Lib.hid hb0
    have HCJ := Lib.hid hcj
    clear hbw hb0 hcj
    by_cases hlt : j < n
    · obtain ⟨ad, hA, cc⟩ := (HP.out.below HBW.out).at_ hlt
      subst hA
      have hjl : j < ps.length := by have := HP.out.1; omega
      have hcj := HCJ.out
      rw [List.drop_eq_getElem_cons hjl] at hcj
      obtain ⟨b, o, E', rfl, e0, e1, e2, hrest⟩ := chain_step hcj
      obtain ⟨c0, c1⟩ := two_places cc
      have HR := Lib.hid hrest
      clear hrest hcj cc
      generalize ps[j] = x at *
      obtain ⟨k, a⟩ := x
      simp only [] at c0 c1 e0 e1
      have L0 := World.block_lt_of_cell? w _ e0
      simp only [] at L0
      go_wp2_with fail
      have BX := ((HBW.out.alloc HBW.out.size (.cells #[.int .i64 k, .int .i64 a] 73)).alloc (Nat.le_trans HBW.out.size (by simp)) (.cells #[.pointer none] 74)).drew
      have d1 := (BX.cell L0).trans e0
      have d2 := (BX.cell (p := ⟨b, o + 1, none⟩) L0).trans e1
      have d3 : (((wr.alloc (.cells #[.int .i64 k, .int .i64 a] 73)).alloc (.cells #[.pointer none] 74)).drew).cell? ⟨wr.heap.size, 0, none⟩ = some (.int .i64 k) := by simp
      have d4 : (((wr.alloc (.cells #[.int .i64 k, .int .i64 a] 73)).alloc (.cells #[.pointer none] 74)).drew).cell? ⟨wr.heap.size, 1, none⟩ = some (.int .i64 a) := by simp
      have HT : Hid ((((wr.alloc (.cells #[.int .i64 k, .int .i64 a] 73)).alloc (.cells #[.pointer none] 74)).drew).cell? ⟨wr.heap.size + 1, 0, none⟩ = some (.pointer none)) := Lib.hid (by simp)
      have HF : Hid ((((wr.alloc (.cells #[.int .i64 k, .int .i64 a] 73)).alloc (.cells #[.pointer none] 74)).drew).frozen? ⟨wr.heap.size + 1, 0, none⟩ = false) := Lib.hid (by simp)
      have HGX := Lib.hid (HG.out.below BX)
      have HBX := Lib.hid BX
      clear BX
      go_region_with (first
        | (go_at_call 33; refine (As_hitF ⟨b, o, none⟩ ⟨wr.heap.size + 1, 0, none⟩ (.pointer none) HGX.out HT.out HF.out).mono ?_; rintro e w5 ⟨rfl, hgot⟩; have d5 := hgot.2; have HB5 := Lib.hid (hgot.1); have d1 := (HB5.out.cell (by have := HBW.out.size; show b < wr.heap.size + 1; omega)).trans d1; have d2 := (HB5.out.cell (by have := HBW.out.size; show b < wr.heap.size + 1; omega)).trans d2; have d3 := (HB5.out.cell (by show wr.heap.size < wr.heap.size + 1; omega)).trans d3; have d4 := (HB5.out.cell (by show wr.heap.size < wr.heap.size + 1; omega)).trans d4; have d6 := (HB5.out.cell (p := ⟨b, o + 2, none⟩) (by have := HBW.out.size; show b < wr.heap.size + 1; omega)).trans ((HBX.out.cell (p := ⟨b, o + 2, none⟩) L0).trans e2); clear hgot))
      all_goals
        go_wp2_with fail
        go_roundw
        case rel => exact ⟨j + 1, by omega, by go_num, HR.out, (HBX.out.trans (HB5.out.mono (by have := HBW.out.size; omega))), (((HB0.out.alloc HB0.out.size _).alloc (Nat.le_trans HB0.out.size (by simp)) _).drew).trans (HB5.out.mono (by have := HB0.out.size; omega))⟩
        case measure => simp [intOf]; omega
    · obtain rfl : j = n := by omega
      have hch' : Chain w u5 [] c := by have := HCJ.out; rwa [List.drop_eq_nil_of_le (by have := HP.out.1; omega)] at this
      obtain rfl := chain_last hch' HC.out
      clear hch' HCJ
      go_wp2_with fail
      refine (As_missF c ⟨wr.heap.size, 0, none⟩ (HG.out.below (HBW.out.alloc HBW.out.size _))).mono ?_
      rintro e w5 ⟨rfl, hb5⟩
      have HB5 : Hid (Below wr.heap.size wr w5) := Lib.hid (((Below.refl _ wr).alloc (Nat.le_refl _) _).trans (hb5.mono (by simp)))
      clear hb5
      go_wp2_with fail
      have BX := ((HBW.out.trans (HB5.out.mono HBW.out.size)).alloc (Nat.le_trans HBW.out.size HB5.out.size) (.cells #[.int .i64 0] 56))
      have BX0 := ((HB0.out.trans (HB5.out.mono HB0.out.size)).alloc (Nat.le_trans HB0.out.size HB5.out.size) (.cells #[.int .i64 0] 56))
      have HLE : Hid (W0.heap.size ≤ w5.heap.size) := Lib.hid (Nat.le_trans HB0.out.size HB5.out.size)
      have HBX := Lib.hid BX
      have HBX0 := Lib.hid BX0
      clear BX BX0
      refine (As_N u0 v0 ps c (HCH.out.keep HBX.out) HC.out ⟨w5.heap.size, 0, none⟩ (.int .i64 0) (HG.out.below HBX.out) (by simp) (by simp)).mono ?_
      rintro e w6 ⟨rfl, hgot⟩
      have d5 := hgot.2
      have HB6 := Lib.hid hgot.1
      have d1 := (HB6.out.cell (p := ⟨w.heap.size, 0, none⟩) (by have := HS.out; have := HLE.out; show w.heap.size < w5.heap.size; omega)).trans ((HBX0.out.cell (p := ⟨w.heap.size, 0, none⟩) (by have := HS.out; show w.heap.size < W0.heap.size; omega)).trans C0.out)
      clear hgot
      go_wp2_with fail
      have HB7 := Lib.hid (HBX.out.trans (HB6.out.mono (Nat.le_trans HBW.out.size HB5.out.size)))
      have D1 := Lib.hid d1
      clear d1 d5
      obtain ⟨W6, rfl⟩ : ∃ W6 : World, W6 = w6 := ⟨_, rfl⟩
      go_loopw [11] (fun i wl => ∃ q : Nat, 1 ≤ q ∧ q ≤ 21 ∧ i = .int .i64 q ∧ Drawn W6 wl) (fun i _ => 21 - (intOf i).toNat)
      case atStart => exact ⟨1, by omega, by omega, rfl, Drawn.refl _⟩
      case round =>
        obtain ⟨q, hq1, hq2, rfl, hdw⟩ := hrel
        have HD := Lib.hid hdw
        have HCW : Hid (∀ m, Chain (wr.drewN m) (.iface u0 v0) ps c) := Lib.hid fun m => HCH.out.keep (HB7.out.trans ((hdw.step m).below _))
        have d1 := (((hdw.below W6.heap.size)).cell (p := ⟨w.heap.size, 0, none⟩) (World.block_lt_of_cell? W6 _ D1.out)).trans D1.out
        clear hdw
        by_cases hlt2 : q ≤ 20
        · have g0 : decide ((q : Int) ≤ 20) = true := decide_eq_true (by omega)
          have HQ := Lib.hid (show (q : Int) ≠ 0 by omega)
          by_cases hci : c = (q : Int)
          · have HCI := Lib.hid hci
            have g1 : ((q : Int) == c) = true := by simp [hci]
            clear hci
            have HI : Hid (∀ m, Calls Tryd.prog 34 #[.iface u0 v0, .iface 56 (.int .i64 q)] (wr.drewN m) fun e w' => e = .returned (.bool true) ∧ w' = wr.drewN m) := Lib.hid fun m => (Is_chain q HQ.out u0 v0 ps c (HCW.out m)).mono (by rintro e w8 ⟨rfl, rfl⟩; exact ⟨by rw [decide_eq_true HCI.out], rfl⟩)
            go_wp2_with (go_quiet ((go_at_call 34; exact Calls.quiet_of_same (HI.out _))))
            go_roundw
            case rel => exact ⟨q + 1, by omega, by omega, by go_num, HD.out.step _⟩
            case measure => simp [intOf]; omega
          · have HCI := Lib.hid hci
            have g1 : ((q : Int) == c) = false := by simp; exact fun h => hci h.symm
            clear hci
            have HI : Hid (∀ m, Calls Tryd.prog 34 #[.iface u0 v0, .iface 56 (.int .i64 q)] (wr.drewN m) fun e w' => e = .returned (.bool false) ∧ w' = wr.drewN m) := Lib.hid fun m => (Is_chain q HQ.out u0 v0 ps c (HCW.out m)).mono (by rintro e w8 ⟨rfl, rfl⟩; exact ⟨by rw [decide_eq_false HCI.out], rfl⟩)
            go_wp2_with (go_quiet ((go_at_call 34; exact Calls.quiet_of_same (HI.out _))))
            go_roundw
            case rel => exact ⟨q + 1, by omega, by omega, by go_num, HD.out.step _⟩
            case measure => simp [intOf]; omega
        · have g0 : decide ((q : Int) ≤ 20) = false := decide_eq_false (by omega)
          clear HCW
          go_wp2_with fail
          go_ret
          exact ⟨rfl, HB7.out.trans (HD.out.below _)⟩
end Go.Proofs.YtkcnnamghpdplaaDoor

/- The law StampPlays: whatever calls are made, each is answered as by two lists. -/
import Derived.Test.YteejmocdagdeeaaDoorDoor3
set_option linter.unusedSimpArgs false
set_option linter.unusedVariables false
namespace Go.Proofs.YteejmocdagdeeaaDoor
open Go.RowKit

set_option maxHeartbeats 1000000 in
theorem StampPlays_walk (a0 a1 : Int) (a2 : Option Addr) (len2 cap2 : Nat) (l2 : List OpT) (w : World) (w0 : (Lit.int .i64 a0).wf = true) (w1 : (Lit.int .u32 a1).wf = true) (hz : IsOps w a2 len2 cap2 l2) (hg : ErrT w) :
    Calls Tryd.prog 3 #[.int .i64 a0, .int .u32 a1, .slice a2 len2 cap2] w (BoolBelow true w) := by
  have h0 : -9223372036854775808 ≤ a0 ∧ a0 ≤ 9223372036854775807 := by simpa [Lit.wf, IntKind.min, IntKind.max, IntKind.signed, IntKind.bits] using w0
  have h1 : 0 ≤ a1 ∧ a1 ≤ 4294967295 := by simpa [Lit.wf, IntKind.min, IntKind.max, IntKind.signed, IntKind.bits] using w1
  obtain ⟨hz, hk, hlc, hcm⟩ := hz
  have HZ := Lib.hid hz
  have HK := Lib.hid hk
  have HLC : Hid (len2 ≤ cap2 ∧ cap2 ≤ maxLen) := Lib.hid ⟨hlc, hcm⟩
  have HG := Lib.hid hg
  have H0 := Lib.hid h0
  have H1 := Lib.hid h1
  clear w0 w1 hz hk hlc hcm hg h0 h1
  go_enter Tryd.func3, Tryd.ntmps3
  go_wp2_with fail
  refine (awake_any w).mono ?_
  rintro e w1 ⟨rfl, hb1⟩
  have B1 := Lib.hid hb1
  clear hb1
  go_wp2_with fail
  by_cases hin : 0 ≤ a0 ∧ a0 ≤ 65536
  · obtain ⟨n, rfl⟩ : ∃ n : Nat, a0 = n := ⟨a0.toNat, by omega⟩
    have hn : n ≤ 65536 := by omega
    refine (New_ex n a1 w1 hn H1.out.1 H1.out.2).mono ?_
    rintro e w2 ⟨b, g, rfl, hs2, hb2, hbb, hgg⟩
    have B2 := Lib.hid (B1.out.trans (hb2.mono B1.out.size))
    have S2 := Lib.hid hs2
    have LB : Hid (w.heap.size ≤ b ∧ w.heap.size ≤ g ∧ b < w2.heap.size ∧ g < w2.heap.size) := Lib.hid ⟨Nat.le_trans B1.out.size hbb, Nat.le_trans B1.out.size hgg, hs2.lt.1, hs2.lt.2⟩
    have HN := Lib.hid hn
    clear hs2 hb2 hbb hgg hin hn
    go_wp2_with fail
    refine (DocNew_ok n w2 HN.out).mono ?_
    rintro e w3 ⟨x, y, rfl, hd3, hb3, hx3, hy3⟩
    unfold docV noErr
    have HL : Hid (Lie w b g x y) := Lib.hid ⟨LB.out.1, LB.out.2.1, by have := B2.out.size; omega, by have := B2.out.size; omega, by have := LB.out; omega, by have := LB.out; omega, by have := LB.out; omega, by have := LB.out; omega⟩
    have S3 := Lib.hid (S2.out.below hb3)
    have D3 := Lib.hid hd3
    have B3 := Lib.hid (B2.out.trans (hb3.mono B2.out.size))
    clear hd3 hb3 hx3 hy3
    go_wp2_with fail
    refine (Same_none none 0 _).mono ?_
    rintro e w5 ⟨rfl, hb5⟩
    have B45 := Lib.hid ((((Below.refl _ w3).alloc (Nat.le_refl _) (.cells #[.slice (some ⟨x, 0, none⟩) n n, .slice (some ⟨y, 0, none⟩) n n] 33)).alloc (by simp) (.cells #[.int .i64 0, .slice none 0 0] 36)).trans (hb5.mono (by simp; omega)))
    have x0 : w5.cell? ⟨w3.heap.size, 0, none⟩ = some (.slice (some ⟨x, 0, none⟩) n n) := (hb5.cell (by simp; omega)).trans (by rw [World.cell?_alloc_lt _ _ _ (by simp)]; simp)
    have x1 : w5.cell? ⟨w3.heap.size, 1, none⟩ = some (.slice (some ⟨y, 0, none⟩) n n) := (hb5.cell (by simp; omega)).trans (by rw [World.cell?_alloc_lt _ _ _ (by simp)]; simp)
    have x2 : w5.cell? ⟨w3.heap.size + 1, 0, none⟩ = some (.int .i64 0) := (hb5.cell (by simp)).trans (by simp)
    have x3 : w5.cell? ⟨w3.heap.size + 1, 1, none⟩ = some (.slice none 0 0) := (hb5.cell (by simp)).trans (by simp)
    clear hb5
    go_wp2_with fail
    refine (Bad_any 0 none 0 0 _ (by simp [maxLen])).mono ?_
    rintro e w6 ⟨rfl, hb6⟩
    have B46 := Lib.hid (B45.out.trans (hb6.mono B45.out.size))
    have x0 := cell_below hb6 x0
    have x1 := cell_below hb6 x1
    have x2 := cell_below hb6 x2
    have x3 := cell_below hb6 x3
    clear hb6
    go_wp2_with fail
    refine (Bad_any 0 none 0 0 _ (by simp [maxLen])).mono ?_
    rintro e w7 ⟨rfl, hb7⟩
    have B47 := Lib.hid (B46.out.trans (hb7.mono B46.out.size))
    have x0 := cell_below hb7 x0
    have x1 := cell_below hb7 x1
    clear hb7 x2 x3
    by_cases hc : 200 < n ∧ 50 < len2
    · obtain ⟨hc1, hc2⟩ := hc
      have g1 : decide ((200 : Int) < (n : Int)) = true := decide_eq_true (by omega)
      have g2 : decide ((50 : Int) < (len2 : Int)) = true := decide_eq_true (by omega)
      have g3 : decide (200 < n) = true := decide_eq_true hc1
      have g4 : decide (50 < len2) = true := decide_eq_true hc2
      obtain ⟨ad, rfl, -⟩ := HZ.out.2 (by omega)
      have hcap : 50 ≤ cap2 := by have := HLC.out; omega
      go_wp2_with fail
      refine (play_any w w7 b g x y n (empty n) _ (some ad) 50 cap2 (l2.take 50) HL.out (S3.out.below B47.out) (D3.out.below B47.out) (B3.out.trans (B47.out.mono B3.out.size)) List.length_replicate HN.out (HZ.out.take (by omega)) (fun o ho => HK.out o (List.mem_of_mem_take ho)) (by simp [maxLen]) HG.out).mono ?_
      rintro e w8 ⟨rfl, hb8⟩
      have B8 := Lib.hid hb8
      clear hb8
      go_wp2_with fail
      go_ret
      exact ⟨rfl, B8.out⟩
    · by_cases hc1 : 200 < n
      · have hc2 : ¬ 50 < len2 := fun h => hc ⟨hc1, h⟩
        have g1 : decide ((200 : Int) < (n : Int)) = true := decide_eq_true (by omega)
        have g2 : decide ((50 : Int) < (len2 : Int)) = false := decide_eq_false (by omega)
        clear hc
        go_wp2_with fail
        refine (play_any w w7 b g x y n (empty n) _ a2 len2 cap2 l2 HL.out (S3.out.below B47.out) (D3.out.below B47.out) (B3.out.trans (B47.out.mono B3.out.size)) List.length_replicate HN.out HZ.out HK.out (Nat.le_trans HLC.out.1 HLC.out.2) HG.out).mono ?_
        rintro e w8 ⟨rfl, hb8⟩
        have B8 := Lib.hid hb8
        clear hb8
        go_wp2_with fail
        go_ret
        exact ⟨rfl, B8.out⟩
      · have g1 : decide ((200 : Int) < (n : Int)) = false := decide_eq_false (by omega)
        clear hc
        go_wp2_with fail
        refine (play_any w w7 b g x y n (empty n) _ a2 len2 cap2 l2 HL.out (S3.out.below B47.out) (D3.out.below B47.out) (B3.out.trans (B47.out.mono B3.out.size)) List.length_replicate HN.out HZ.out HK.out (Nat.le_trans HLC.out.1 HLC.out.2) HG.out).mono ?_
        rintro e w8 ⟨rfl, hb8⟩
        have B8 := Lib.hid hb8
        clear hb8
        go_wp2_with fail
        go_ret
        exact ⟨rfl, B8.out⟩
  · have hout : a0 < 0 ∨ 65536 < a0 := by omega
    refine (New_out a0 a1 w1 hout H0.out.1 H0.out.2).mono ?_
    rintro e w2 ⟨rfl, hb2⟩
    have B2 := Lib.hid (B1.out.trans (hb2.mono B1.out.size))
    have HO := Lib.hid hout
    clear hb2 hin hout
    go_wp2_with fail
    refine (DocNew_out a0 w2 HO.out H0.out.1 H0.out.2).mono ?_
    rintro e w3 ⟨rfl, hb3⟩
    unfold toldV
    have B3 := Lib.hid (B2.out.trans (hb3.mono B2.out.size))
    clear hb3
    go_wp2_with fail
    refine (Same_told 1 _ (HG.out.below ((B3.out.alloc B3.out.size _).alloc (Nat.le_trans B3.out.size (by simp)) _))).mono ?_
    rintro e w5 ⟨rfl, hb5⟩
    have B5 := Lib.hid (((B3.out.alloc B3.out.size (.cells #[.slice none 0 0, .slice none 0 0] 33)).alloc (Nat.le_trans B3.out.size (by simp)) (.cells #[.int .i64 1, .slice none 0 0] 36)).trans (hb5.mono (Nat.le_trans B3.out.size (by simp; omega))))
    have x2 : w5.cell? ⟨w3.heap.size + 1, 0, none⟩ = some (.int .i64 1) := (hb5.cell (by simp)).trans (by simp)
    have x3 : w5.cell? ⟨w3.heap.size + 1, 1, none⟩ = some (.slice none 0 0) := (hb5.cell (by simp)).trans (by simp)
    clear hb5
    go_wp2_with fail
    refine (Bad_any 1 none 0 0 _ (by simp [maxLen])).mono ?_
    rintro e w6 ⟨rfl, hb6⟩
    have B6 := Lib.hid (B5.out.trans (hb6.mono B5.out.size))
    have x2 := cell_below hb6 x2
    have x3 := cell_below hb6 x3
    clear hb6
    go_wp2_with fail
    refine (Bad_any 1 none 0 0 _ (by simp [maxLen])).mono ?_
    rintro e w7 ⟨rfl, hb7⟩
    have B7 := Lib.hid (B6.out.trans (hb7.mono B6.out.size))
    clear hb7
    go_wp2_with fail
    go_ret
    exact ⟨rfl, B7.out⟩
end Go.Proofs.YteejmocdagdeeaaDoor

/- Words, whatever the number; a place's word. -/
import Derived.Test.YtkncgpnnilcicaaDoorFa5
import Derived.Lib.ItoaLen
set_option linter.unusedSimpArgs false
set_option linter.unusedVariables false
namespace Go.Proofs.YtkncgpnnilcicaaDoor
open Go.RowKit Go.Extern.Stop Go.Stop Go.Extern

abbrev Tab (w : World) : Prop := Lib.TabIs Tryd.prog w "internal/strconv.uint64pow10" .u64 Lib.pow10Tab
def I64 (c : Int) : Prop := -9223372036854775808 ≤ c ∧ c ≤ 9223372036854775807
theorem itoaB_size (n : Int) (h : I64 n) : (itoaB n).size ≤ 21 := by
  have := Lib.itoa_length_le n h.1 h.2
  simpa [itoaB, ByteArray.size] using this
theorem sayB_out (c : Int) (h : ¬ (1 ≤ c ∧ c ≤ 20)) : sayB c = errorB ++ itoaB c := by
  unfold sayB
  rw [if_neg (by omega), if_neg (by omega), if_neg (by omega), if_neg (by omega), if_neg (by omega), if_neg (by omega), if_neg (by omega), if_neg (by omega), if_neg (by omega), if_neg (by omega), if_neg (by omega), if_neg (by omega), if_neg (by omega), if_neg (by omega), if_neg (by omega), if_neg (by omega), if_neg (by omega), if_neg (by omega), if_neg (by omega), if_neg (by omega)]
theorem Errno_out (c : Int) (W : World) (hc : I64 c) (h : ¬ (1 ≤ c ∧ c ≤ 20)) (ht : Tab W) : Calls Tryd.prog 41 #[.int .i64 c] W fun e w' => e = .returned (.string (sayB c)) ∧ Below W.heap.size W w' := by
  have E := Lib.hid (sayB_out c h)
  have HI := Lib.hid (Itoa_any c hc.1 hc.2 W ht)
  have hz := itoaB_size c hc
  clear ht hc
  by_cases h1 : c < 1
  · have g1 : decide (c < 1) = true := decide_eq_true h1
    clear h h1
    go_enter Tryd.func41, Tryd.ntmps41
    go_wp2_with fail
    refine HI.out.mono ?_
    rintro e w2 ⟨rfl, hb⟩
    have HB := Lib.hid hb
    clear hb
    go_wp2_with fail
    go_ret
    exact ⟨by rw [E.out]; rfl, HB.out⟩
  · have g1 : decide (c < 1) = false := decide_eq_false h1
    have g2 : decide (20 < c) = true := decide_eq_true (by omega)
    clear h h1
    go_enter Tryd.func41, Tryd.ntmps41
    go_wp2_with fail
    refine HI.out.mono ?_
    rintro e w2 ⟨rfl, hb⟩
    have HB := Lib.hid hb
    clear hb
    go_wp2_with fail
    go_ret
    exact ⟨by rw [E.out]; rfl, HB.out⟩
theorem Errno_any (c : Int) (W : World) (hc : I64 c) (ht : Tab W) : Calls Tryd.prog 41 #[.int .i64 c] W fun e w' => e = .returned (.string (sayB c)) ∧ Below W.heap.size W w' := by
  by_cases h : 1 ≤ c ∧ c ≤ 20
  · exact Errno_in c W h.1 h.2
  · exact Errno_out c W hc h ht
theorem more_any (c : Int) (W : World) (hc : I64 c) (ht : Tab W) (hlo : ¬ (1 ≤ c ∧ c ≤ 10)) : Calls Tryd.prog 54 #[.int .i64 c] W fun e w' => e = .returned (.string (sayB c)) ∧ Below W.heap.size W w' := by
  by_cases h11 : c = 11
  · subst h11
    go_enter Tryd.func54, Tryd.ntmps54
    go_wp2_with fail
    go_ret
    exact ⟨rfl, Below.refl _ _⟩
  by_cases h12 : c = 12
  · subst h12
    go_enter Tryd.func54, Tryd.ntmps54
    go_wp2_with fail
    go_ret
    exact ⟨rfl, Below.refl _ _⟩
  by_cases h13 : c = 13
  · subst h13
    go_enter Tryd.func54, Tryd.ntmps54
    go_wp2_with fail
    go_ret
    exact ⟨rfl, Below.refl _ _⟩
  by_cases h14 : c = 14
  · subst h14
    go_enter Tryd.func54, Tryd.ntmps54
    go_wp2_with fail
    go_ret
    exact ⟨rfl, Below.refl _ _⟩
  by_cases h15 : c = 15
  · subst h15
    go_enter Tryd.func54, Tryd.ntmps54
    go_wp2_with fail
    go_ret
    exact ⟨rfl, Below.refl _ _⟩
  by_cases h16 : c = 16
  · subst h16
    go_enter Tryd.func54, Tryd.ntmps54
    go_wp2_with fail
    go_ret
    exact ⟨rfl, Below.refl _ _⟩
  by_cases h17 : c = 17
  · subst h17
    go_enter Tryd.func54, Tryd.ntmps54
    go_wp2_with fail
    go_ret
    exact ⟨rfl, Below.refl _ _⟩
  by_cases h18 : c = 18
  · subst h18
    go_enter Tryd.func54, Tryd.ntmps54
    go_wp2_with fail
    go_ret
    exact ⟨rfl, Below.refl _ _⟩
  by_cases h19 : c = 19
  · subst h19
    go_enter Tryd.func54, Tryd.ntmps54
    go_wp2_with fail
    go_ret
    exact ⟨rfl, Below.refl _ _⟩
  by_cases h20 : c = 20
  · subst h20
    go_enter Tryd.func54, Tryd.ntmps54
    go_wp2_with fail
    go_ret
    exact ⟨rfl, Below.refl _ _⟩
  have g11 : (c == 11) = false := by simp [h11]
  have g12 : (c == 12) = false := by simp [h12]
  have g13 : (c == 13) = false := by simp [h13]
  have g14 : (c == 14) = false := by simp [h14]
  have g15 : (c == 15) = false := by simp [h15]
  have g16 : (c == 16) = false := by simp [h16]
  have g17 : (c == 17) = false := by simp [h17]
  have g18 : (c == 18) = false := by simp [h18]
  have g19 : (c == 19) = false := by simp [h19]
  have g20 : (c == 20) = false := by simp [h20]
  have E := Lib.hid (sayB_out c (by omega))
  have HI := Lib.hid (Itoa_any c hc.1 hc.2 W ht)
  have hz := itoaB_size c hc
  clear ht hc hlo h11 h12 h13 h14 h15 h16 h17 h18 h19 h20
  go_enter Tryd.func54, Tryd.ntmps54
  go_wp2_with fail
  refine HI.out.mono ?_
  rintro e w2 ⟨rfl, hb⟩
  have HB := Lib.hid hb
  clear hb
  go_wp2_with fail
  go_ret
  exact ⟨by rw [E.out]; rfl, HB.out⟩
theorem Words_any (c : Int) (W : World) (hc : I64 c) (ht : Tab W) : Calls Tryd.prog 45 #[.int .i64 c] W fun e w' => e = .returned (.string (sayB c)) ∧ Below W.heap.size W w' := by
  by_cases h1 : c = 1
  · subst h1
    go_enter Tryd.func45, Tryd.ntmps45
    go_wp2_with fail
    go_ret
    exact ⟨rfl, Below.refl _ _⟩
  by_cases h2 : c = 2
  · subst h2
    go_enter Tryd.func45, Tryd.ntmps45
    go_wp2_with fail
    go_ret
    exact ⟨rfl, Below.refl _ _⟩
  by_cases h3 : c = 3
  · subst h3
    go_enter Tryd.func45, Tryd.ntmps45
    go_wp2_with fail
    go_ret
    exact ⟨rfl, Below.refl _ _⟩
  by_cases h4 : c = 4
  · subst h4
    go_enter Tryd.func45, Tryd.ntmps45
    go_wp2_with fail
    go_ret
    exact ⟨rfl, Below.refl _ _⟩
  by_cases h5 : c = 5
  · subst h5
    go_enter Tryd.func45, Tryd.ntmps45
    go_wp2_with fail
    go_ret
    exact ⟨rfl, Below.refl _ _⟩
  by_cases h6 : c = 6
  · subst h6
    go_enter Tryd.func45, Tryd.ntmps45
    go_wp2_with fail
    go_ret
    exact ⟨rfl, Below.refl _ _⟩
  by_cases h7 : c = 7
  · subst h7
    go_enter Tryd.func45, Tryd.ntmps45
    go_wp2_with fail
    go_ret
    exact ⟨rfl, Below.refl _ _⟩
  by_cases h8 : c = 8
  · subst h8
    go_enter Tryd.func45, Tryd.ntmps45
    go_wp2_with fail
    go_ret
    exact ⟨rfl, Below.refl _ _⟩
  by_cases h9 : c = 9
  · subst h9
    go_enter Tryd.func45, Tryd.ntmps45
    go_wp2_with fail
    go_ret
    exact ⟨rfl, Below.refl _ _⟩
  by_cases h10 : c = 10
  · subst h10
    go_enter Tryd.func45, Tryd.ntmps45
    go_wp2_with fail
    go_ret
    exact ⟨rfl, Below.refl _ _⟩
  have g1 : (c == 1) = false := by simp [h1]
  have g2 : (c == 2) = false := by simp [h2]
  have g3 : (c == 3) = false := by simp [h3]
  have g4 : (c == 4) = false := by simp [h4]
  have g5 : (c == 5) = false := by simp [h5]
  have g6 : (c == 6) = false := by simp [h6]
  have g7 : (c == 7) = false := by simp [h7]
  have g8 : (c == 8) = false := by simp [h8]
  have g9 : (c == 9) = false := by simp [h9]
  have g10 : (c == 10) = false := by simp [h10]
  have HM := Lib.hid (more_any c W hc ht (by omega))
  clear ht hc h1 h2 h3 h4 h5 h6 h7 h8 h9 h10
  go_enter Tryd.func45, Tryd.ntmps45
  go_wp2_with fail
  refine HM.out.mono ?_
  rintro e w2 ⟨rfl, hb⟩
  have HB := Lib.hid hb
  clear hb
  go_wp2_with fail
  go_ret
  exact ⟨rfl, HB.out⟩
def spaceB : ByteArray := ⟨#[32]⟩
def wordB (p : Int × Int) : ByteArray := kindB p.1 ++ spaceB ++ itoaB p.2
theorem Word_any (k a : Int) (W : World) (ha : I64 a) (ht : Tab W) : Calls Tryd.prog 20 #[.agg #[.int .i64 k, .int .i64 a]] W fun e w' => e = .returned (.string (wordB (k, a))) ∧ Below W.heap.size W w' := by
  have HI : Hid (∀ w, Below W.heap.size W w → Calls Tryd.prog 40 #[.int .i64 a] w fun e w' => e = .returned (.string (itoaB a)) ∧ Below w.heap.size w w') := Lib.hid fun w hw => Itoa_any a ha.1 ha.2 w (tab_below ht hw)
  have hz := itoaB_size a ha
  clear ht ha
  by_cases h1 : k = 1
  · subst h1
    go_enter Tryd.func20, Tryd.ntmps20
    go_wp2_with fail
    refine (HI.out _ ((Below.refl _ _).alloc (Nat.le_refl _) _)).mono ?_
    rintro e w2 ⟨rfl, hb⟩
    have HB := Lib.hid (((Below.refl _ W).alloc (Nat.le_refl _) _).trans (hb.mono (by simp)))
    clear hb
    go_wp2_with fail
    go_ret
    exact ⟨rfl, HB.out⟩
  by_cases h2 : k = 2
  · subst h2
    go_enter Tryd.func20, Tryd.ntmps20
    go_wp2_with fail
    refine (HI.out _ ((Below.refl _ _).alloc (Nat.le_refl _) _)).mono ?_
    rintro e w2 ⟨rfl, hb⟩
    have HB := Lib.hid (((Below.refl _ W).alloc (Nat.le_refl _) _).trans (hb.mono (by simp)))
    clear hb
    go_wp2_with fail
    go_ret
    exact ⟨rfl, HB.out⟩
  by_cases h3 : k = 3
  · subst h3
    go_enter Tryd.func20, Tryd.ntmps20
    go_wp2_with fail
    refine (HI.out _ ((Below.refl _ _).alloc (Nat.le_refl _) _)).mono ?_
    rintro e w2 ⟨rfl, hb⟩
    have HB := Lib.hid (((Below.refl _ W).alloc (Nat.le_refl _) _).trans (hb.mono (by simp)))
    clear hb
    go_wp2_with fail
    go_ret
    exact ⟨rfl, HB.out⟩
  by_cases h4 : k = 4
  · subst h4
    go_enter Tryd.func20, Tryd.ntmps20
    go_wp2_with fail
    refine (HI.out _ ((Below.refl _ _).alloc (Nat.le_refl _) _)).mono ?_
    rintro e w2 ⟨rfl, hb⟩
    have HB := Lib.hid (((Below.refl _ W).alloc (Nat.le_refl _) _).trans (hb.mono (by simp)))
    clear hb
    go_wp2_with fail
    go_ret
    exact ⟨rfl, HB.out⟩
  by_cases h5 : k = 5
  · subst h5
    go_enter Tryd.func20, Tryd.ntmps20
    go_wp2_with fail
    refine (HI.out _ ((Below.refl _ _).alloc (Nat.le_refl _) _)).mono ?_
    rintro e w2 ⟨rfl, hb⟩
    have HB := Lib.hid (((Below.refl _ W).alloc (Nat.le_refl _) _).trans (hb.mono (by simp)))
    clear hb
    go_wp2_with fail
    go_ret
    exact ⟨rfl, HB.out⟩
  have hk : kindB k = ⟨#[112, 108, 97, 99, 101]⟩ := by unfold kindB; rw [if_neg h1, if_neg h2, if_neg h3, if_neg h4, if_neg h5]
  have HK := Lib.hid hk
  have g1 : (k == 1) = false := by simp [h1]
  have g2 : (k == 2) = false := by simp [h2]
  have g3 : (k == 3) = false := by simp [h3]
  have g4 : (k == 4) = false := by simp [h4]
  have g5 : (k == 5) = false := by simp [h5]
  clear hk h1 h2 h3 h4 h5
  go_enter Tryd.func20, Tryd.ntmps20
  go_wp2_with fail
  refine (HI.out _ ((Below.refl _ _).alloc (Nat.le_refl _) _)).mono ?_
  rintro e w2 ⟨rfl, hb⟩
  have HB := Lib.hid (((Below.refl _ W).alloc (Nat.le_refl _) _).trans (hb.mono (by simp)))
  clear hb
  go_wp2_with fail
  go_ret
  exact ⟨by unfold wordB; rw [HK.out]; rfl, HB.out⟩
end Go.Proofs.YtkncgpnnilcicaaDoor

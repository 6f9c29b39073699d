/- Numbers: the form of a word, what it is; the document's DocNumber. -/
import Derived.Test.YtmnnoecjedkdjaaGreatDoorGt6
import Derived.Lib.SlTrimSet
import Derived.Lib.ParseIntB
import Derived.Shelf.Strings.SlTrimAscii
set_option linter.unusedSimpArgs false
set_option linter.unusedVariables false
namespace Go.Proofs.YtmnnoecjedkdjaaGreatDoor
open Go.RowKit Txt

namespace Txt
def valA (a : Nat) (l : Bs) : Nat := l.foldl (fun v b => 10 * v + (b.toNat - 48)) a
theorem valA_ge : ∀ (l : Bs) (a : Nat), a ≤ valA a l
  | [], a => Nat.le_refl _
  | b :: r, a => by
    have := valA_ge r (10 * a + (b.toNat - 48))
    show a ≤ valA (10 * a + (b.toNat - 48)) r
    omega
theorem valA_cons (a : Nat) (b : UInt8) (r : Bs) : valA a (b :: r) = valA (10 * a + (b.toNat - 48)) r := by
  unfold valA
  exact List.foldl_cons ..
theorem parse_cons (M a : Nat) (b : UInt8) (r : Bs) (hb : 48 ≤ b.toNat ∧ b.toNat ≤ 57) : Lib.parseUintM M a (b :: r) = if 1844674407370955162 ≤ a then .range else if M < a * 10 + (b.toNat - 48) then .range else Lib.parseUintM M (a * 10 + (b.toNat - 48)) r :=
  (Lib.parseUintM.eq_2 M a b r).trans (if_pos hb)
theorem parse_digits (M K : Nat) (hM : M = 18446744073709551615) (hK : K = 1844674407370955162) (hp : ∀ a b r, (48 ≤ b.toNat ∧ b.toNat ≤ 57) → Lib.parseUintM M a (b :: r) = if K ≤ a then .range else if M < a * 10 + (b.toNat - 48) then .range else Lib.parseUintM M (a * 10 + (b.toNat - 48)) r) (l : Bs) : ∀ (a : Nat), l.all digitU = true → Lib.parseUintM M a l = if valA a l ≤ M ∨ l = [] then .ok (valA a l) else .range := by
  induction l with
  | nil => intro a _; rw [if_pos (Or.inr rfl)]; rfl
  | cons b r ih =>
    intro a h
    rw [List.all_cons, Bool.and_eq_true] at h
    have hb := of_decide_eq_true h.1
    have ih := ih (a * 10 + (b.toNat - 48)) h.2
    have hge := valA_ge r (a * 10 + (b.toNat - 48))
    have hno : ¬ (b :: r = []) := by simp
    rw [hp a b r hb, valA_cons, Nat.mul_comm 10 a]
    have hnil : r = [] → valA (a * 10 + (b.toNat - 48)) r = a * 10 + (b.toNat - 48) := fun h => by rw [h]; rfl
    generalize valA (a * 10 + (b.toNat - 48)) r = V at *
    generalize b.toNat - 48 = d at *
    by_cases h1 : K ≤ a
    · rw [if_pos h1, if_neg (fun h' => h'.elim (fun h2 => by omega) hno)]
    · rw [if_neg h1]
      by_cases h2 : M < a * 10 + d
      · rw [if_pos h2, if_neg (fun h' => h'.elim (fun h3 => by omega) hno)]
      · rw [if_neg h2, ih]
        by_cases h3 : V ≤ M
        · rw [if_pos (Or.inl h3), if_pos (Or.inl h3)]
        · have hr : ¬ r = [] := fun h => h3 (by rw [hnil h]; omega)
          rw [if_neg (fun h' => h'.elim h3 hr), if_neg (fun h' => h'.elim h3 hno)]
theorem parse_word {l : Bs} (h : l.all digitU = true) (hne : l ≠ []) : Lib.parseUintB 64 l = if valN l ≤ 18446744073709551615 then .ok (valN l) else .range := by
  unfold Lib.parseUintB
  rw [if_neg hne, parse_digits (2 ^ 64 - 1) 1844674407370955162 (by decide) rfl (fun a b r => parse_cons _ a b r) l 0 h]
  have e : (2 ^ 64 - 1 : Nat) = 18446744073709551615 := by decide
  rw [e]
  show (if valN l ≤ 18446744073709551615 ∨ l = [] then Lib.NumEnd.ok (valN l) else .range) = _
  by_cases h1 : valN l ≤ 18446744073709551615
  · rw [if_pos h1, if_pos (Or.inl h1)]
  · rw [if_neg h1, if_neg (fun h' => h'.elim (fun h2 => h1 h2) hne)]
def digW : Bs := [48, 49, 50, 51, 52, 53, 54, 55, 56, 57]
theorem dig_contains (b : UInt8) : digW.contains b = digitU b := by
  have key : ∀ n : Fin 256, digW.contains (UInt8.ofNat n.val) = digitU (UInt8.ofNat n.val) := by decide +kernel
  have h := key ⟨b.toNat, b.toNat_lt⟩
  simpa using h
theorem dropWhile_nil {p : UInt8 → Bool} : ∀ {l : Bs}, l.dropWhile p = [] ↔ l.all p = true
  | [] => by simp
  | b :: r => by
    cases hb : p b with
    | true => rw [List.dropWhile_cons_of_pos hb, List.all_cons, hb, Bool.true_and]; exact dropWhile_nil
    | false => rw [List.dropWhile_cons_of_neg (by rw [hb]; exact Bool.false_ne_true), List.all_cons, hb]; simp
theorem trim_nil (l : Bs) : Lib.trimS l digW = [] ↔ l.all digitU = true := by
  unfold Lib.trimS Lib.trimLeftS Lib.trimRightS
  rw [dropWhile_nil]
  have e : (fun b => digW.contains b) = digitU := funext dig_contains
  rw [e, List.all_reverse]
  constructor
  · intro h
    by_cases hl : l.all digitU = true
    · exact hl
    · exfalso
      have hr : ¬ (l.reverse.all digitU = true) := by rw [List.all_reverse]; exact hl
      have hne : l.reverse.dropWhile digitU ≠ [] := fun h0 => hr (dropWhile_nil.1 h0)
      cases hd : l.reverse.dropWhile digitU with
      | nil => exact hne hd
      | cons b r =>
        have h1 : digitU b = true := List.all_eq_true.1 h b (by rw [hd]; simp)
        have h2 := List.head_dropWhile_not digitU (l := l.reverse) (by rw [hd]; simp)
        simp only [hd, List.head_cons] at h2
        rw [h1] at h2
        cases h2
  · intro h
    exact List.all_eq_true.2 fun b hb => List.all_eq_true.1 h b (by
      have := (List.dropWhile_sublist digitU).subset hb
      simpa using this)
end Txt
/-! ### the program's digits -/
theorem trim_any (s : ByteArray) (w : World) (hs : s.size ≤ 140737488355328) :
    Calls Tryz.prog 112 #[.string s, .string ⟨#[48, 49, 50, 51, 52, 53, 54, 55, 56, 57]⟩] w fun e w' => (∃ t, e = .returned (.string t) ∧ t.data.toList = Lib.trimS s.data.toList digW) ∧ Below w.heap.size w w' := by
  refine (Any.strings_Trim_laid Tryz.lays160 (by kernel_rfl) s ⟨#[48, 49, 50, 51, 52, 53, 54, 55, 56, 57]⟩ w (by omega) (by decide) (Go.Proofs.ascii_of_all (by decide))).mono ?_
  rintro e w' ⟨rfl, hb⟩
  exact ⟨⟨_, rfl, rfl⟩, hb⟩
theorem digits_any (s : ByteArray) (W : World) (hs : s.size ≤ 140737488355328) :
    Calls Tryz.prog 97 #[.string s] W fun e w' => e = .returned (.bool (formB s.data.toList)) ∧ Below W.heap.size W w' := by
  have hlen := size_list s
  have HTR := Lib.hid (trim_any s W hs)
  cases hl : s.data.toList with
  | nil =>
    have p1 := empty_tt hl
    go_enter Tryz.func97, Tryz.ntmps97
    go_wp2_with fail
    go_ret
    exact ⟨rfl, Below.refl _ _⟩
  | cons b r =>
    have p1 := empty_ff (x := s) (by rw [hl]; simp)
    have hpos : 0 < s.size := by rw [← hlen, hl]; simp
    obtain ⟨b', hb, hdr, htk, hat⟩ := byte_at s hpos
    have hbb : b' = b := by rw [hl] at hat; simpa using hat.symm
    subst hbb
    have hfm : formB (b' :: r) = ((b' :: r).all digitU && (decide (s.size = 1) || (decide (1 < s.size) && !(b' == 48)))) := by
      unfold formB
      rw [← hlen, hl]
      congr 2
      rw [Bool.decide_and]
      congr 1
      by_cases h : b' = 48
      · subst h; rfl
      · rw [decide_eq_true (by simpa using h)]
        rw [beq_eq_false_iff_ne.2 h]
        rfl
    have HFM := Lib.hid hfm
    clear hfm hdr htk hat
    have tailT : ∀ (t : ByteArray), t.data.toList = Lib.trimS s.data.toList digW → t.toList.isEmpty = (b' :: r).all digitU := fun t ht => by
      have h1 := trim_nil s.data.toList
      rw [← ht, hl] at h1
      cases hx : (b' :: r).all digitU with
      | true => exact empty_tt (h1.2 hx)
      | false => exact empty_ff fun h0 => by rw [h1.1 h0] at hx; cases hx
    have HTL := Lib.hid tailT
    clear tailT
    by_cases h1 : 1 < s.size
    · have q1 : decide ((1 : Int) < (s.size : Int)) = true := decide_eq_true (by omega)
      by_cases h48 : b' = 48
      · subst h48
        have q2 : ((((48 : UInt8).toNat : Nat) : Int) == 48) = true := rfl
        have hres : formB (48 :: r) = false := by rw [HFM.out, decide_eq_false (show ¬ s.size = 1 by omega)]; simp
        go_enter Tryz.func97, Tryz.ntmps97
        go_wp2_with fail
        go_ret
        exact ⟨by rw [hres]; rfl, Below.refl _ _⟩
      · have q2 : (((b'.toNat : Nat) : Int) == 48) = false := by
          rw [beq_eq_false_iff_ne]
          exact fun hh => h48 (UInt8.toNat_inj.1 (show b'.toNat = 48 by omega))
        have hres : formB (b' :: r) = (b' :: r).all digitU := by rw [HFM.out, decide_eq_true h1, beq_eq_false_iff_ne.2 h48]; simp
        rw [hres]
        generalize (b' :: r).all digitU = res at *
        clear hres hl
        go_enter Tryz.func97, Tryz.ntmps97
        go_wp2_with fail
        refine HTR.out.mono ?_
        rintro e w1 ⟨⟨t, rfl, ht⟩, hb1⟩
        have p3 := HTL.out t ht
        have HB1 := Lib.hid hb1
        clear hb1 ht
        go_wp2_with fail
        go_ret
        exact ⟨rfl, HB1.out⟩
    · have q1 : decide ((1 : Int) < (s.size : Int)) = false := decide_eq_false (by omega)
      have hres : formB (b' :: r) = (b' :: r).all digitU := by rw [HFM.out, decide_eq_true (show s.size = 1 by omega)]; simp
      rw [hres]
      generalize (b' :: r).all digitU = res at *
      clear hres hl
      go_enter Tryz.func97, Tryz.ntmps97
      go_wp2_with fail
      refine HTR.out.mono ?_
      rintro e w1 ⟨⟨t, rfl, ht⟩, hb1⟩
      have p3 := HTL.out t ht
      have HB1 := Lib.hid hb1
      clear hb1 ht
      go_wp2_with fail
      go_ret
      exact ⟨rfl, HB1.out⟩
end Go.Proofs.YtmnnoecjedkdjaaGreatDoor

/- FaultFixed. -/
import Derived.Test.YtkncgpnnilcicaaDoorLFst
import Derived.Test.YtkncgpnnilcicaaDoorLSame
set_option linter.unusedSimpArgs false
set_option linter.unusedVariables false
namespace Go.Proofs.YtkncgpnnilcicaaDoor
open Go.RowKit Go.Extern.Stop Go.Stop Go.Extern

theorem neNN (a b : Int) (w : World) : (binOp .neq 27 (.iface 24 (.int .i64 a)) (.iface 24 (.int .i64 b))).run Tryd.prog w = .ok (.bool (a != b)) w := by kernel_rfl
theorem itoaB_m4 : itoaB (-4) = ⟨#[45, 52]⟩ := by
  unfold itoaB Lib.itoa
  rw [if_pos (by omega), show (-4 : Int).natAbs = 4 from rfl, Lib.decDigits_one (by omega)]
  rfl
theorem text_full : textB (linkPs []) (linkC [] (.num 18)) = ⟨#[110, 111, 32, 109, 111, 114, 101, 32, 114, 111, 111, 109]⟩ := by
  unfold textB wordsB
  show joinB [sayB 18] = _
  rw [joinB_one]
  rfl
theorem text_none (E : Core) (h : E.code = 0) : textB (linkPs []) (linkC [] E) = ⟨#[]⟩ := by
  have : linkC [] E = 0 := by unfold linkC; simp [h]
  rw [this]
  exact joinB_nil
theorem text_place (a : Addr) : textB (linkPs [(9, -4)]) (linkC [(9, -4)] (.other a)) = ⟨#[112, 108, 97, 99, 101, 32, 45, 52]⟩ := by
  unfold textB wordsB
  show joinB [wordB (9, -4)] = _
  rw [joinB_one]
  unfold wordB
  simp only [itoaB_m4]
  rfl
theorem same1 : sameB [] (.num 2) [(2, 0)] (.num 2) = false := by simp [sameB, linkPs]
theorem same2 (a : Addr) : sameB [] .none [] (.other a) = true := by simp [sameB, linkPs, linkC, Core.code]
theorem has1 : hasB [(2, 1)] (.num 77) 77 = true := by simp [hasB]
theorem has2 : hasB [] .none 0 = false := by simp [hasB]
def deepPs : Nat → List (Int × Int)
  | 0 => []
  | k + 1 => (2, (k : Int)) :: deepPs k
theorem deepPs_len : ∀ k, (deepPs k).length = k
  | 0 => rfl
  | k + 1 => by rw [deepPs, List.length_cons, deepPs_len k]
theorem other_in (a : Addr) : I64 (Core.other a).code := ⟨by simp [Core.code], by simp [Core.code]⟩
theorem in_64 {c : Int} (h : -9223372036854775808 ≤ c) (h2 : c ≤ 9223372036854775807) : I64 c := ⟨h, h2⟩
set_option maxRecDepth 100000 in
set_option maxHeartbeats 2000000 in
theorem FaultFixed_walk (W : World) (hg : ErrT W) (ht : Tab W) :
    Calls Tryd.prog 10 #[] W fun e w' => e = .returned (.bool true) ∧ Below W.heap.size W w' := by
  have HG := Lib.hid hg
  have HT := Lib.hid ht
  clear hg ht
  have HTX : Hid (∀ (E : Core) (v : Value) (ps : List (Int × Int)) (w : World) (s : ByteArray), Below W.heap.size W w → Wrap w E v ps → (∀ p ∈ ps, I64 p.2) → I64 E.code → textB (linkPs ps) (linkC ps E) = s → Calls Tryd.prog 19 #[v] w fun e w' => e = .returned (.string s) ∧ Below w.heap.size w w') := Lib.hid fun E v ps w s hb hw hp hc hs => by
    have h := Text_any E v ps w hw hp hc (tab_below HT.out hb)
    rw [hs] at h
    exact h
  have HCD : Hid (∀ (E : Core) (v : Value) (ps : List (Int × Int)) (w : World) (c : Int), Below W.heap.size W w → Wrap w E v ps → linkC ps E = c → Calls Tryd.prog 17 #[v] w fun e w' => e = .returned (.int .i64 c) ∧ Below w.heap.size w w') := Lib.hid fun E v ps w c hb hw hs => by
    have h := Code_any E v ps hw (HG.out.below hb)
    rw [hs] at h
    exact h
  have HPL : Hid (∀ (E : Core) (v : Value) (ps : List (Int × Int)) (w : World) (n : Nat), Wrap w E v ps → (linkPs ps).length = n → Calls Tryd.prog 16 #[v] w fun e w' => ∃ A c, e = .returned (.slice A n c) ∧ Below w.heap.size w w') := Lib.hid fun E v ps w n hw hs => by
    refine (Places_any E v ps hw).mono ?_
    rintro e w' ⟨p, rfl, ho, hb⟩
    obtain ⟨A, c, rfl, _, _⟩ := ho.form
    rw [hs]
    exact ⟨A, c, rfl, hb⟩
  have HSM : Hid (∀ (E F : Core) (v u : Value) (ps qs : List (Int × Int)) (w : World) (b : Bool), Wrap w E v ps → Wrap w F u qs → sameB ps E qs F = b → Calls Tryd.prog 28 #[v, u] w (BoolBelow b w)) := Lib.hid fun E F v u ps qs w b hv hu hs => by
    have h := FSame_any E F v u ps qs hv hu
    rw [hs] at h
    exact h
  have HHA : Hid (∀ (E : Core) (v : Value) (ps : List (Int × Int)) (m : Int) (w : World) (b : Bool), Wrap w E v ps → hasB ps E m = b → Calls Tryd.prog 27 #[v, .int .i64 m] w fun e w' => e = .returned (.bool b) ∧ w' = w) := Lib.hid fun E v ps m w b hv hs => by
    have h := Has_any E v ps m hv
    rw [hs] at h
    exact h
  have nN := neNN
  go_enter Tryd.func10, Tryd.ntmps10
  go_wp2_with fail
  refine (awake_any HG.out HT.out).mono ?_
  rintro e w1 ⟨rfl, hb⟩
  have HB1 := Lib.hid hb
  clear hb
  go_wp2_with fail
  refine (errorsNew _ _).mono ?_
  rintro e w2 ⟨a, rfl, hb⟩
  have HB := Lib.hid (HB1.out.trans (hb.mono HB1.out.size))
  clear hb HB1
  simp only [Core.val]
  go_wp2_with fail
  refine (HTX.out (.num 18) (.iface 24 (.int .i64 18)) [] _ _ HB.out .core (by intro p hp; cases hp) (in_64 (by decide) (by decide)) text_full).mono ?_
  rintro e w3 ⟨rfl, hb⟩
  have HB := Lib.hid (HB.out.trans (hb.mono HB.out.size))
  clear hb
  go_wp2_with fail
  refine (HTX.out (.other a) (.iface 89 (.pointer (some a))) [] _ _ HB.out .core (by intro p hp; cases hp) (other_in a) (text_none _ rfl)).mono ?_
  rintro e w4 ⟨rfl, hb⟩
  have HB := Lib.hid (HB.out.trans (hb.mono HB.out.size))
  clear hb
  go_wp2_with fail
  refine (HTX.out .none .nilIface [] _ _ HB.out .core (by intro p hp; cases hp) (in_64 (by decide) (by decide)) (text_none _ rfl)).mono ?_
  rintro e w5 ⟨rfl, hb⟩
  have HB := Lib.hid (HB.out.trans (hb.mono HB.out.size))
  clear hb
  go_wp2_with fail
  refine (HCD.out (.other a) (.iface 89 (.pointer (some a))) [] _ 0 HB.out .core rfl).mono ?_
  rintro e w6 ⟨rfl, hb⟩
  have HB := Lib.hid (HB.out.trans (hb.mono HB.out.size))
  clear hb
  go_wp2_with fail
  refine (HCD.out .none .nilIface [] _ 0 HB.out .core rfl).mono ?_
  rintro e w7 ⟨rfl, hb⟩
  have HB := Lib.hid (HB.out.trans (hb.mono HB.out.size))
  clear hb
  go_wp2_with fail
  refine (At_some 9 (-4) (.other a) _ _ [] .core).mono ?_
  rintro e w8 ⟨rfl, hw, _, hb⟩
  have HW := Lib.hid hw
  have HB := Lib.hid (HB.out.trans (hb.mono HB.out.size))
  clear hb hw
  go_wp2_with fail
  refine (HTX.out (.other a) _ [(9, -4)] _ _ HB.out HW.out (by intro p hp; simp at hp; subst hp; exact in_64 (by decide) (by decide)) (other_in a) (text_place a)).mono ?_
  rintro e w9 ⟨rfl, hb⟩
  have HB := Lib.hid (HB.out.trans (hb.mono HB.out.size))
  clear hb
  go_wp2_with fail
  refine (At_nil 1 3 _).mono ?_
  rintro e w10 ⟨rfl, h⟩
  obtain rfl := h.symm
  clear h
  go_wp2_with fail
  refine (First_any (some ⟨w9.heap.size, 0, none⟩) 3 3 [.nilIface, .iface 24 (.int .i64 2), .iface 24 (.int .i64 1)] _ (rd_ones w9 [.nilIface, .iface 24 (.int .i64 2), .iface 24 (.int .i64 1)] (by decide)) (all_err_of rfl) (by omega)).mono ?_
  rintro e w11 ⟨rfl, h⟩
  obtain rfl := h.symm
  clear h
  rw [show firstOf ([.nilIface, .iface 24 (.int .i64 2), .iface 24 (.int .i64 1)] : List Value) = .iface 24 (.int .i64 2) from rfl]
  have HB := Lib.hid (HB.out.alloc HB.out.size (.cells #[.nilIface, .iface 24 (.int .i64 2), .iface 24 (.int .i64 1)] 27))
  go_wp2_with fail
  refine (First_any none 0 0 [] _ Rd.nil (by intro v hv; cases hv) (by omega)).mono ?_
  rintro e w12 ⟨rfl, h⟩
  obtain rfl := h.symm
  clear h
  rw [show firstOf ([] : List Value) = .nilIface from rfl]
  go_wp2_with fail
  refine (At_some 2 0 (.num 2) _ _ [] .core).mono ?_
  rintro e w13 ⟨rfl, hw, _, hb⟩
  rw [size_alloc] at hw
  have HW := Lib.hid hw
  have HB := Lib.hid (HB.out.trans (hb.mono HB.out.size))
  clear hb hw
  go_wp2_with fail
  refine (HSM.out (.num 2) (.num 2) (.iface 24 (.int .i64 2)) _ [] [(2, 0)] _ false .core HW.out same1).mono ?_
  rintro e w14 ⟨rfl, hb⟩
  have HB := Lib.hid (HB.out.trans (hb.mono HB.out.size))
  clear hb
  go_wp2_with fail
  refine (HSM.out .none (.other a) .nilIface (.iface 89 (.pointer (some a))) [] [] _ true .core .core (same2 a)).mono ?_
  rintro e w15 ⟨rfl, hb⟩
  have HB := Lib.hid (HB.out.trans (hb.mono HB.out.size))
  clear hb
  go_wp2_with fail
  refine (At_some 2 1 (.num 77) _ _ [] .core).mono ?_
  rintro e w16 ⟨rfl, hw, _, hb⟩
  have HW := Lib.hid hw
  have HB := Lib.hid (HB.out.trans (hb.mono HB.out.size))
  clear hb hw
  go_wp2_with fail
  refine (HHA.out (.num 77) _ [(2, 1)] 77 _ true HW.out has1).mono ?_
  rintro e w17 ⟨rfl, h⟩
  obtain rfl := h.symm
  clear h
  go_wp2_with fail
  refine (HHA.out .none .nilIface [] 0 _ false .core has2).mono ?_
  rintro e w18 ⟨rfl, h⟩
  obtain rfl := h.symm
  clear h
  go_wp2_with fail
  refine (HPL.out .nilp (.iface 30 (.pointer none)) [] _ 0 .core rfl).mono ?_
  rintro e w19 ⟨A1, c1, rfl, hb⟩
  have HB := Lib.hid (HB.out.trans (hb.mono HB.out.size))
  clear hb
  go_wp2_with fail
  refine (HCD.out .nilp (.iface 30 (.pointer none)) [] _ 0 HB.out .core rfl).mono ?_
  rintro e w20 ⟨rfl, hb⟩
  have HB := Lib.hid (HB.out.trans (hb.mono HB.out.size))
  clear hb
  go_wp2_with fail
  refine (FShift_any .nilp (.iface 30 (.pointer none)) [] 1 1 .core).mono ?_
  rintro e w21 ⟨s, rfl, hs, hb⟩
  have HB := Lib.hid (HB.out.trans (hb.mono HB.out.size))
  obtain rfl : s = .nilIface := hs.nil
  clear hb hs
  go_wp2_with fail
  refine (At_some 1 1 .nilp _ _ [] .core).mono ?_
  rintro e w22 ⟨rfl, hw, _, hb⟩
  have HW := Lib.hid hw
  have HB := Lib.hid (HB.out.trans (hb.mono HB.out.size))
  clear hb hw
  go_wp2_with fail
  refine (HPL.out .nilp _ [(1, 1)] _ 1 HW.out rfl).mono ?_
  rintro e w23 ⟨A2, c2, rfl, hb⟩
  have HB := Lib.hid (HB.out.trans (hb.mono HB.out.size))
  clear hb
  go_wp2_with fail
  go_loopw [3, 102] (fun ev iv wr => ∃ (k : Nat) (u : TypeId) (x : Value), k ≤ 65 ∧ iv = .int .i64 k ∧ ev = .iface u x ∧ Wrap wr (Core.num 13) (.iface u x) (deepPs k) ∧ Below W.heap.size W wr) (fun _ iv _ => 65 - (intOf iv).toNat)
  case atStart => exact ⟨0, _, _, by omega, rfl, rfl, .core, HB.out⟩
  case round =>
    obtain ⟨k, u, x, hk, rfl, rfl, hw, hb⟩ := hrel
    have HW := Lib.hid hw
    have HB := Lib.hid hb
    clear hw hb
    by_cases hlt : k < 65
    · have g0 : decide ((k : Int) < 65) = true := decide_eq_true (by omega)
      go_wp2_with fail
      refine (At_some 2 k (.num 13) u x (deepPs k) HW.out).mono ?_
      rintro e w24 ⟨rfl, hw, _, hb⟩
      have HW : Hid (Wrap w24 (Core.num 13) (.iface 30 (.pointer (some ⟨wr.heap.size, 0, none⟩))) (deepPs (k + 1))) := Lib.hid hw
      have HB := Lib.hid (HB.out.trans (hb.mono HB.out.size))
      clear hw hb
      by_cases h64 : k + 1 < 64
      · have g1 : decide ((64 : Int) ≤ (k : Int) + 1) = false := decide_eq_false (by omega)
        have hc : linkC (deepPs (k + 1)) (.num 13) = 13 := by unfold linkC; rw [if_pos (by rw [deepPs_len]; exact h64)]; rfl
        have hl : (linkPs (deepPs (k + 1))).length = k + 1 := by unfold linkPs; rw [List.length_take, deepPs_len]; omega
        have HC := Lib.hid hc
        have HL := Lib.hid hl
        clear hc hl
        go_wp2_with fail
        refine (HCD.out (.num 13) _ (deepPs (k + 1)) _ 13 HB.out HW.out HC.out).mono ?_
        rintro e w25 ⟨rfl, hb⟩
        have HW := Lib.hid (HW.out.keep hb)
        have HB := Lib.hid (HB.out.trans (hb.mono HB.out.size))
        clear hb
        go_wp2_with fail
        refine (HPL.out (.num 13) _ (deepPs (k + 1)) _ (k + 1) HW.out HL.out).mono ?_
        rintro e w26 ⟨A3, c3, rfl, hb⟩
        have HW := Lib.hid (HW.out.keep hb)
        have HB := Lib.hid (HB.out.trans (hb.mono HB.out.size))
        clear hb
        go_wp2_with fail
        go_roundw
        case rel => exact ⟨k + 1, _, _, by omega, by go_num, rfl, HW.out, HB.out⟩
        case measure => simp [intOf]; omega
      · have g1 : decide ((64 : Int) ≤ (k : Int) + 1) = true := decide_eq_true (by omega)
        have hc : linkC (deepPs (k + 1)) (.num 13) = 0 := by unfold linkC; rw [if_neg (by rw [deepPs_len]; exact h64)]
        have hl : (linkPs (deepPs (k + 1))).length = 64 := by unfold linkPs; rw [List.length_take, deepPs_len]; omega
        have HC := Lib.hid hc
        have HL := Lib.hid hl
        clear hc hl
        go_wp2_with fail
        refine (HCD.out (.num 13) _ (deepPs (k + 1)) _ 0 HB.out HW.out HC.out).mono ?_
        rintro e w25 ⟨rfl, hb⟩
        have HW := Lib.hid (HW.out.keep hb)
        have HB := Lib.hid (HB.out.trans (hb.mono HB.out.size))
        clear hb
        go_wp2_with fail
        refine (HPL.out (.num 13) _ (deepPs (k + 1)) _ 64 HW.out HL.out).mono ?_
        rintro e w26 ⟨A3, c3, rfl, hb⟩
        have HW := Lib.hid (HW.out.keep hb)
        have HB := Lib.hid (HB.out.trans (hb.mono HB.out.size))
        clear hb
        go_wp2_with fail
        go_roundw
        case rel => exact ⟨k + 1, _, _, by omega, by go_num, rfl, HW.out, HB.out⟩
        case measure => simp [intOf]; omega
    · obtain rfl : k = 65 := by omega
      go_wp2_with fail
      go_ret
      exact ⟨rfl, HB.out⟩
end Go.Proofs.YtkncgpnnilcicaaDoor

/- Has, and what an error wraps; two told errors alike; two chains the same. -/
import Derived.Test.YtkncgpnnilcicaaDoorLMem
set_option linter.unusedSimpArgs false
set_option linter.unusedVariables false
namespace Go.Proofs.YtkncgpnnilcicaaDoor
open Go.RowKit Go.Extern.Stop Go.Stop Go.Extern

theorem as0F (xT : TypeId) (w : World) : (Instr.typeAssert .nilIface xT 30 true).run Tryd.prog w = .ok (.tuple #[.pointer none, .bool false]) w := by kernel_rfl
theorem as0N (xT : TypeId) (w : World) : (Instr.typeAssert .nilIface xT 24 true).run Tryd.prog w = .ok (.tuple #[.int .i64 0, .bool false]) w := by kernel_rfl
theorem as0U (xT : TypeId) (w : World) : (Instr.typeAssert .nilIface xT 100 true).run Tryd.prog w = .ok (.tuple #[.nilIface, .bool false]) w := by kernel_rfl
theorem Unwrap_nil (W : World) : Calls Tryd.prog 49 #[.nilIface] W fun e w' => e = .returned .nilIface ∧ w' = W := by
  have uN := as0U
  go_enter Tryd.func49, Tryd.ntmps49
  go_wp2_with fail
  go_ret
  exact ⟨rfl, rfl⟩
theorem Unwrap_core' {W : World} (E : Core) : Calls Tryd.prog 49 #[E.val] W fun e w' => e = .returned .nilIface ∧ w' = W := by
  cases E with
  | none => exact Unwrap_nil W
  | num c => exact Unwrap_core (.num c) (by intro h; cases h)
  | other a => exact Unwrap_core (.other a) (by intro h; cases h)
  | nilp => exact Unwrap_core .nilp (by intro h; cases h)
theorem below_core {W : World} (E : Core) : Calls Tryd.prog 46 #[E.val] W fun e w' => e = .returned .nilIface ∧ w' = W := by
  have HU := Lib.hid (Unwrap_core' (W := W) E)
  have t0 := as0F
  have tNF := asNF
  have tSF := asSF
  cases E with
  | none =>
    simp only [Core.val] at HU ⊢
    go_enter Tryd.func46, Tryd.ntmps46
    go_wp2_with fail
    refine HU.out.mono ?_
    rintro e w2 ⟨rfl, h⟩
    obtain rfl := h.symm
    clear h
    go_wp2_with fail
    go_ret
    exact ⟨rfl, rfl⟩
  | num c =>
    simp only [Core.val] at HU ⊢
    go_enter Tryd.func46, Tryd.ntmps46
    go_wp2_with fail
    refine HU.out.mono ?_
    rintro e w2 ⟨rfl, h⟩
    obtain rfl := h.symm
    clear h
    go_wp2_with fail
    go_ret
    exact ⟨rfl, rfl⟩
  | other a =>
    simp only [Core.val] at HU ⊢
    go_enter Tryd.func46, Tryd.ntmps46
    go_wp2_with fail
    refine HU.out.mono ?_
    rintro e w2 ⟨rfl, h⟩
    obtain rfl := h.symm
    clear h
    go_wp2_with fail
    go_ret
    exact ⟨rfl, rfl⟩
  | nilp =>
    have tFF := asFF
    simp only [Core.val] at HU ⊢
    go_enter Tryd.func46, Tryd.ntmps46
    go_wp2_with fail
    go_ret
    exact ⟨rfl, rfl⟩
theorem below_fault {W : World} (b o : Nat) (v : Value) (h : W.cell? ⟨b, o + 2, none⟩ = some v) :
    Calls Tryd.prog 46 #[.iface 30 (.pointer (some ⟨b, o, none⟩))] W fun e w' => e = .returned v ∧ w' = W := by
  have HU := Lib.hid (Unwrap_fault b o v h)
  clear h
  have tFF := asFF
  go_enter Tryd.func46, Tryd.ntmps46
  go_wp2_with fail
  refine HU.out.mono ?_
  rintro e w2 ⟨rfl, h⟩
  obtain rfl := h.symm
  clear h
  go_wp2_with fail
  go_ret
  exact ⟨rfl, rfl⟩
def hasB (ps : List (Int × Int)) (E : Core) (m : Int) : Bool := decide (ps.length < 64) && match E with | .num c => c == m | _ => false
def HasIs (b : Bool) (W : World) (e : Ending) (w' : World) : Prop := e = .returned (.bool b) ∧ w' = W
set_option maxHeartbeats 1000000 in
theorem Has_any {W : World} (E : Core) (v : Value) (ps : List (Int × Int)) (m : Int) (h : Wrap W E v ps) :
    Calls Tryd.prog 27 #[v, .int .i64 m] W (HasIs (hasB ps E m) W) := by
  have H0 := Lib.hid h
  clear h
  have t0 := as0N
  have tNN := asNN
  have tFN := asFN
  have tSN := asSN
  generalize hres : hasB ps E m = r
  have HR := Lib.hid hres
  clear hres
  go_enter Tryd.func27, Tryd.ntmps27
  go_wp2_with fail
  go_loop [0, 7] (fun ev kv => ∃ k : Nat, k ≤ 64 ∧ kv = .int .i64 k ∧ ((k ≤ ps.length ∧ Wrap W E ev (ps.drop k)) ∨ (ps.length < 64 ∧ ps.length < k ∧ ev = .nilIface ∧ r = false))) (fun _ kv => 64 - (intOf kv).toNat)
  case atStart => exact ⟨0, by omega, rfl, .inl ⟨by omega, H0.out⟩⟩
  case round =>
    obtain ⟨k, hk, rfl, hph⟩ := hrel
    by_cases hlt : k < 64
    · have g0 : decide ((k : Int) < 64) = true := decide_eq_true (by omega)
      rcases hph with ⟨hkp, hw⟩ | ⟨hl1, hl2, rfl, hr⟩
      · by_cases hkl : k < ps.length
        · rw [List.drop_eq_getElem_cons hkl] at hw
          obtain ⟨b, o, v', rfl, e0, e1, e2, hrest⟩ := hw.cons
          have HE2 := Lib.hid e2
          have HRE := Lib.hid hrest
          clear e0 e1 e2 hrest hw
          go_wp2_with fail
          refine (below_fault b o v' HE2.out).mono ?_
          rintro e w2 ⟨rfl, h⟩
          obtain rfl := h.symm
          clear h
          go_wp2_with fail
          go_round
          case rel => exact ⟨k + 1, by omega, by go_num, .inl ⟨by omega, HRE.out⟩⟩
          case measure => simp [intOf]; omega
        · obtain rfl : k = ps.length := by omega
          rw [List.drop_length] at hw
          obtain rfl := hw.nil
          clear hw hkl
          have HB := Lib.hid (below_core (W := W) E)
          have HLT := Lib.hid hlt
          cases E with
          | none =>
            simp only [Core.val] at HB ⊢
            go_wp2_with fail
            refine HB.out.mono ?_
            rintro e w2 ⟨rfl, h⟩
            obtain rfl := h.symm
            clear h
            go_wp2_with fail
            go_round
            case rel => exact ⟨ps.length + 1, by omega, by go_num, .inr ⟨by omega, by omega, rfl, by rw [← HR.out]; simp [hasB]⟩⟩
            case measure => simp [intOf]; omega
          | num c =>
            simp only [Core.val] at HB ⊢
            by_cases hcm : c = m
            · subst hcm
              have HRT : Hid (r = true) := Lib.hid (by rw [← HR.out]; simp [hasB]; omega)
              go_wp2_with fail
              go_ret
              exact ⟨by rw [HRT.out]; rfl, rfl⟩
            · have g1 : (c == m) = false := by simp [hcm]
              have HRF : Hid (r = false) := Lib.hid (by rw [← HR.out]; simp [hasB, hcm])
              clear hcm
              go_wp2_with fail
              refine HB.out.mono ?_
              rintro e w2 ⟨rfl, h⟩
              obtain rfl := h.symm
              clear h
              go_wp2_with fail
              go_round
              case rel => exact ⟨ps.length + 1, by omega, by go_num, .inr ⟨by omega, by omega, rfl, HRF.out⟩⟩
              case measure => simp [intOf]; omega
          | other a =>
            simp only [Core.val] at HB ⊢
            go_wp2_with fail
            refine HB.out.mono ?_
            rintro e w2 ⟨rfl, h⟩
            obtain rfl := h.symm
            clear h
            go_wp2_with fail
            go_round
            case rel => exact ⟨ps.length + 1, by omega, by go_num, .inr ⟨by omega, by omega, rfl, by rw [← HR.out]; simp [hasB]⟩⟩
            case measure => simp [intOf]; omega
          | nilp =>
            simp only [Core.val] at HB ⊢
            go_wp2_with fail
            refine HB.out.mono ?_
            rintro e w2 ⟨rfl, h⟩
            obtain rfl := h.symm
            clear h
            go_wp2_with fail
            go_round
            case rel => exact ⟨ps.length + 1, by omega, by go_num, .inr ⟨by omega, by omega, rfl, by rw [← HR.out]; simp [hasB]⟩⟩
            case measure => simp [intOf]; omega
      · have HB := Lib.hid (below_core (W := W) .none)
        have HRF := Lib.hid hr
        clear hr
        simp only [Core.val] at HB
        go_wp2_with fail
        refine HB.out.mono ?_
        rintro e w2 ⟨rfl, h⟩
        obtain rfl := h.symm
        clear h
        go_wp2_with fail
        go_round
        case rel => exact ⟨k + 1, by omega, by go_num, .inr ⟨by omega, by omega, rfl, HRF.out⟩⟩
        case measure => simp [intOf]; omega
    · obtain rfl : k = 64 := by omega
      have HRF : Hid (r = false) := Lib.hid (by
        rcases hph with ⟨h1, _⟩ | ⟨_, _, _, h⟩
        · rw [← HR.out]; unfold hasB; rw [decide_eq_false (by omega)]; rfl
        · exact h)
      clear hph
      go_wp2_with fail
      go_ret
      exact ⟨by rw [HRF.out]; rfl, rfl⟩
theorem Alike_told (c d : Int) (A B : Option Addr) (n m k l : Nat) (ps qs : List (Int × Int)) (W : World) (hp : RdP W A n ps) (hq : RdP W B m qs) (hn : n ≤ 9223372036854775807) (hm : m ≤ 9223372036854775807) :
    Calls Tryd.prog 29 #[.agg #[.int .i64 c, .slice A n k], .agg #[.int .i64 d, .slice B m l]] W (BoolBelow (decide (c = d ∧ ps = qs)) W) := by
  have HP := Lib.hid hp
  have HQ := Lib.hid hq
  clear hp hq
  by_cases hcd : c = d
  · subst hcd
    have HR : Hid (decide (c = c ∧ ps = qs) = decide (ps = qs)) := Lib.hid (by simp)
    rw [HR.out]
    generalize hre : decide (ps = qs) = r
    have HRE := Lib.hid hre
    clear hre HR
    go_enter Tryd.func29, Tryd.ntmps29
    go_wp2_with fail
    refine (Alike_any A B n m k l ps qs _ (HP.out.below (two_allocs W _ _)) (HQ.out.below (two_allocs W _ _)) hn hm).mono ?_
    rintro e w2 ⟨rfl, hb⟩
    have HB := Lib.hid ((two_allocs W _ _).trans (hb.mono (by simp; omega)))
    clear hb
    rw [HRE.out]
    clear HRE
    cases r <;>
      (go_wp2_with fail
       go_ret
       exact ⟨rfl, HB.out⟩)
  · have HR : Hid (decide (c = d ∧ ps = qs) = false) := Lib.hid (by simp [hcd])
    have g1 : (c == d) = false := by simp [hcd]
    rw [HR.out]
    clear hcd
    go_enter Tryd.func29, Tryd.ntmps29
    go_wp2_with fail
    go_ret
    exact ⟨rfl, two_allocs W _ _⟩
end Go.Proofs.YtkncgpnnilcicaaDoor

/- A chain made of places and a number, by the program and by the law. -/
import Derived.Test.YtkncgpnnilcicaaDoorFa2
set_option linter.unusedSimpArgs false
set_option linter.unusedVariables false
namespace Go.Proofs.YtkncgpnnilcicaaDoor
open Go.RowKit Go.Extern.Stop Go.Stop Go.Extern

def coreOf (c : Int) : Core := if c = 0 then .none else .num c
def MadeW (E : Core) (ps : List (Int × Int)) (W : World) (e : Ending) (w' : World) : Prop := ∃ v, e = .returned v ∧ Wrap w' E v ps ∧ Below W.heap.size W w'
theorem wrap_new {W : World} {E : Core} {v : Value} {x : Int × Int} {ps : List (Int × Int)} (h : Wrap W E v ps) :
    Wrap (W.alloc (.cells #[.int .i64 x.1, .int .i64 x.2, v] 36)) E (.iface 30 (.pointer (some ⟨W.heap.size, 0, none⟩))) (x :: ps) :=
  .link _ _ _ _ v ps ((cells_new W _ _).cell 0) ((cells_new W _ _).cell 1) ((cells_new W _ _).cell 2) (h.keep ((Below.refl _ _).alloc (Nat.le_refl _) _))
theorem Wrap.form {W : World} {E : Core} {v : Value} {ps : List (Int × Int)} (h : Wrap W E v ps) : v = .nilIface ∨ ∃ u x, v = .iface u x := by
  cases h with
  | core => cases E <;> simp [Core.val]
  | link => exact .inr ⟨_, _, rfl⟩
theorem errorsNew (s : ByteArray) (W : World) : Calls Tryd.prog 30 #[.string s] W fun e w' => ∃ a, e = .returned (Core.other a).val ∧ Below W.heap.size W w' := by
  go_enter Tryd.func30, Tryd.ntmps30
  go_wp2_with fail
  go_ret
  exact ⟨_, rfl, (Below.refl _ _).alloc (Nat.le_refl _) _⟩
/-- what is innermost in an error that the law makes -/
def CoreIs (c : Int) (other : Bool) (E : Core) : Prop := (c ≠ 0 ∧ E = .num c) ∨ (c = 0 ∧ other = true ∧ ∃ a, E = .other a) ∨ (c = 0 ∧ other = false ∧ E = .none)
theorem CoreIs.code {c : Int} {other : Bool} {E : Core} (h : CoreIs c other E) : E.code = c := by
  rcases h with ⟨_, rfl⟩ | ⟨h, _, a, rfl⟩ | ⟨h, _, rfl⟩ <;> simp [Core.code, *]
def MadeS (c : Int) (other : Bool) (ps : List (Int × Int)) (W : World) (e : Ending) (w' : World) : Prop := ∃ E, CoreIs c other E ∧ MadeW E ps W e w'
theorem chain_any (A : Option Addr) (n cap : Nat) (ps : List (Int × Int)) (c : Int) (W : World) (hp : RdP W A n ps) (hn : n ≤ 9223372036854775807) :
    Calls Tryd.prog 44 #[.slice A n cap, .int .i64 c] W (MadeW (coreOf c) ps W) := by
  have HP := Lib.hid hp
  clear hp
  by_cases hc : c = 0
  · have HE : Hid (coreOf c = .none) := Lib.hid (by unfold coreOf; rw [if_pos hc])
    subst hc
    rw [HE.out]
    go_enter Tryd.func44, Tryd.ntmps44
    go_wp2_with fail
    go_loopw [5, 6] (fun ev iv wr => ∃ j : Nat, j ≤ n ∧ iv = .int .i64 ((j : Int) - 1) ∧ Wrap wr Core.none ev (ps.drop j) ∧ Below W.heap.size W wr) (fun _ iv _ => (intOf iv + 1).toNat)
    case atStart => exact ⟨n, Nat.le_refl _, by go_num, by rw [List.drop_of_length_le (by have := HP.out.1; omega)]; exact .core, Below.refl _ _⟩
    case round =>
      obtain ⟨j, hj, rfl, hw, hb⟩ := hrel
      have HW := Lib.hid hw
      have HB := Lib.hid hb
      clear hw hb
      by_cases h0 : 0 < j
      · obtain ⟨r, rfl⟩ : ∃ r, j = r + 1 := ⟨j - 1, by omega⟩
        obtain ⟨ad, hA, cc⟩ := (HP.out.below HB.out).at_ (show r < n by omega)
        subst hA
        obtain ⟨c0, c1⟩ := two_places cc
        have hrl : r < ps.length := by have := HP.out.1; omega
        have hdr := List.drop_eq_getElem_cons hrl
        have HDR := Lib.hid hdr
        clear cc hdr
        rw [show (((r + 1 : Nat) : Int) - 1) = (r : Int) by omega]
        have g2 : decide ((0 : Int) ≤ (r : Int)) = true := decide_eq_true (by omega)
        rcases HW.out.form with h | ⟨ut, ux, h⟩
        all_goals
          subst h
          go_wp2_with fail
          go_roundw
          case rel => exact ⟨r, by omega, by go_num, by rw [HDR.out]; exact wrap_new HW.out, HB.out.alloc HB.out.size _⟩
          case measure => simp [intOf] <;> omega
      · obtain rfl : j = 0 := by omega
        go_wp2_with fail
        go_ret
        exact ⟨_, rfl, HW.out, HB.out⟩
  · have HE : Hid (coreOf c = .num c) := Lib.hid (by unfold coreOf; rw [if_neg hc])
    have g1 : (c != 0) = true := by simp [bne, hc]
    rw [HE.out]
    clear hc
    go_enter Tryd.func44, Tryd.ntmps44
    go_wp2_with fail
    go_loopw [5, 6] (fun ev iv wr => ∃ j : Nat, j ≤ n ∧ iv = .int .i64 ((j : Int) - 1) ∧ Wrap wr (Core.num c) ev (ps.drop j) ∧ Below W.heap.size W wr) (fun _ iv _ => (intOf iv + 1).toNat)
    case atStart => exact ⟨n, Nat.le_refl _, by go_num, by rw [List.drop_of_length_le (by have := HP.out.1; omega)]; exact .core, Below.refl _ _⟩
    case round =>
      obtain ⟨j, hj, rfl, hw, hb⟩ := hrel
      have HW := Lib.hid hw
      have HB := Lib.hid hb
      clear hw hb
      by_cases h0 : 0 < j
      · obtain ⟨r, rfl⟩ : ∃ r, j = r + 1 := ⟨j - 1, by omega⟩
        obtain ⟨ad, hA, cc⟩ := (HP.out.below HB.out).at_ (show r < n by omega)
        subst hA
        obtain ⟨c0, c1⟩ := two_places cc
        have hrl : r < ps.length := by have := HP.out.1; omega
        have hdr := List.drop_eq_getElem_cons hrl
        have HDR := Lib.hid hdr
        clear cc hdr
        rw [show (((r + 1 : Nat) : Int) - 1) = (r : Int) by omega]
        have g2 : decide ((0 : Int) ≤ (r : Int)) = true := decide_eq_true (by omega)
        rcases HW.out.form with h | ⟨ut, ux, h⟩
        all_goals
          subst h
          go_wp2_with fail
          go_roundw
          case rel => exact ⟨r, by omega, by go_num, by rw [HDR.out]; exact wrap_new HW.out, HB.out.alloc HB.out.size _⟩
          case measure => simp [intOf] <;> omega
      · obtain rfl : j = 0 := by omega
        go_wp2_with fail
        go_ret
        exact ⟨_, rfl, HW.out, HB.out⟩
theorem Chain_any (A : Option Addr) (n cap : Nat) (ps : List (Int × Int)) (c : Int) (other : Bool) (W : World) (hp : RdP W A n ps) (hn : n ≤ 9223372036854775807) :
    Calls Tryd.prog 12 #[.slice A n cap, .int .i64 c, .bool other] W (MadeS c other ps W) := by
  have HP := Lib.hid hp
  clear hp
  by_cases hc : c = 0
  · cases other with
    | false =>
      have HE : Hid (CoreIs c false .none) := Lib.hid (.inr (.inr ⟨hc, rfl, rfl⟩))
      subst hc
      go_enter Tryd.func12, Tryd.ntmps12
      go_wp2_with fail
      go_loopw [7, 8] (fun ev iv wr => ∃ j : Nat, j ≤ n ∧ iv = .int .i64 ((j : Int) - 1) ∧ Wrap wr Core.none ev (ps.drop j) ∧ Below W.heap.size W wr) (fun _ iv _ => (intOf iv + 1).toNat)
      case atStart => exact ⟨n, Nat.le_refl _, by go_num, by rw [List.drop_of_length_le (by have := HP.out.1; omega)]; exact .core, Below.refl _ _⟩
      case round =>
        obtain ⟨j, hj, rfl, hw, hb⟩ := hrel
        have HW := Lib.hid hw
        have HB := Lib.hid hb
        clear hw hb
        by_cases h0 : 0 < j
        · obtain ⟨r, rfl⟩ : ∃ r, j = r + 1 := ⟨j - 1, by omega⟩
          obtain ⟨ad, hA, cc⟩ := (HP.out.below HB.out).at_ (show r < n by omega)
          subst hA
          obtain ⟨c0, c1⟩ := two_places cc
          have hrl : r < ps.length := by have := HP.out.1; omega
          have hdr := List.drop_eq_getElem_cons hrl
          have HDR := Lib.hid hdr
          clear cc hdr
          rw [show (((r + 1 : Nat) : Int) - 1) = (r : Int) by omega]
          have g2 : decide ((0 : Int) ≤ (r : Int)) = true := decide_eq_true (by omega)
          rcases HW.out.form with h | ⟨ut, ux, h⟩
          all_goals
            subst h
            go_wp2_with fail
            go_roundw
            case rel => exact ⟨r, by omega, by go_num, by rw [HDR.out]; exact wrap_new HW.out, HB.out.alloc HB.out.size _⟩
            case measure => simp [intOf] <;> omega
        · obtain rfl : j = 0 := by omega
          go_wp2_with fail
          go_ret
          exact ⟨_, HE.out, _, rfl, HW.out, HB.out⟩
    | true =>
      have HE : Hid (∀ a, CoreIs c true (.other a)) := Lib.hid (fun a => .inr (.inl ⟨hc, rfl, a, rfl⟩))
      subst hc
      go_enter Tryd.func12, Tryd.ntmps12
      go_wp2_with fail
      refine (errorsNew _ _).mono ?_
      rintro e w2 ⟨a, rfl, h⟩
      have HB0 := Lib.hid h
      clear h
      simp only [Core.val]
      go_wp2_with fail
      go_loopw [7, 8] (fun ev iv wr => ∃ j : Nat, j ≤ n ∧ iv = .int .i64 ((j : Int) - 1) ∧ Wrap wr (Core.other a) ev (ps.drop j) ∧ Below W.heap.size W wr) (fun _ iv _ => (intOf iv + 1).toNat)
      case atStart => exact ⟨n, Nat.le_refl _, by go_num, by rw [List.drop_of_length_le (by have := HP.out.1; omega)]; exact .core, HB0.out⟩
      case round =>
        obtain ⟨j, hj, rfl, hw, hb⟩ := hrel
        have HW := Lib.hid hw
        have HB := Lib.hid hb
        clear hw hb
        by_cases h0 : 0 < j
        · obtain ⟨r, rfl⟩ : ∃ r, j = r + 1 := ⟨j - 1, by omega⟩
          obtain ⟨ad, hA, cc⟩ := (HP.out.below HB.out).at_ (show r < n by omega)
          subst hA
          obtain ⟨c0, c1⟩ := two_places cc
          have hrl : r < ps.length := by have := HP.out.1; omega
          have hdr := List.drop_eq_getElem_cons hrl
          have HDR := Lib.hid hdr
          clear cc hdr
          rw [show (((r + 1 : Nat) : Int) - 1) = (r : Int) by omega]
          have g2 : decide ((0 : Int) ≤ (r : Int)) = true := decide_eq_true (by omega)
          rcases HW.out.form with h | ⟨ut, ux, h⟩
          all_goals
            subst h
            go_wp2_with fail
            go_roundw
            case rel => exact ⟨r, by omega, by go_num, by rw [HDR.out]; exact wrap_new HW.out, HB.out.alloc HB.out.size _⟩
            case measure => simp [intOf] <;> omega
        · obtain rfl : j = 0 := by omega
          go_wp2_with fail
          go_ret
          exact ⟨_, HE.out a, _, rfl, HW.out, HB.out⟩
  · have HE : Hid (CoreIs c other (.num c)) := Lib.hid (.inl ⟨hc, rfl⟩)
    have g1 : (c != 0) = true := by simp [bne, hc]
    clear hc
    go_enter Tryd.func12, Tryd.ntmps12
    go_wp2_with fail
    go_loopw [7, 8] (fun ev iv wr => ∃ j : Nat, j ≤ n ∧ iv = .int .i64 ((j : Int) - 1) ∧ Wrap wr (Core.num c) ev (ps.drop j) ∧ Below W.heap.size W wr) (fun _ iv _ => (intOf iv + 1).toNat)
    case atStart => exact ⟨n, Nat.le_refl _, by go_num, by rw [List.drop_of_length_le (by have := HP.out.1; omega)]; exact .core, Below.refl _ _⟩
    case round =>
      obtain ⟨j, hj, rfl, hw, hb⟩ := hrel
      have HW := Lib.hid hw
      have HB := Lib.hid hb
      clear hw hb
      by_cases h0 : 0 < j
      · obtain ⟨r, rfl⟩ : ∃ r, j = r + 1 := ⟨j - 1, by omega⟩
        obtain ⟨ad, hA, cc⟩ := (HP.out.below HB.out).at_ (show r < n by omega)
        subst hA
        obtain ⟨c0, c1⟩ := two_places cc
        have hrl : r < ps.length := by have := HP.out.1; omega
        have hdr := List.drop_eq_getElem_cons hrl
        have HDR := Lib.hid hdr
        clear cc hdr
        rw [show (((r + 1 : Nat) : Int) - 1) = (r : Int) by omega]
        have g2 : decide ((0 : Int) ≤ (r : Int)) = true := decide_eq_true (by omega)
        rcases HW.out.form with h | ⟨ut, ux, h⟩
        all_goals
          subst h
          go_wp2_with fail
          go_roundw
          case rel => exact ⟨r, by omega, by go_num, by rw [HDR.out]; exact wrap_new HW.out, HB.out.alloc HB.out.size _⟩
          case measure => simp [intOf] <;> omega
      · obtain rfl : j = 0 := by omega
        go_wp2_with fail
        go_ret
        exact ⟨_, HE.out, _, rfl, HW.out, HB.out⟩
end Go.Proofs.YtkncgpnnilcicaaDoor

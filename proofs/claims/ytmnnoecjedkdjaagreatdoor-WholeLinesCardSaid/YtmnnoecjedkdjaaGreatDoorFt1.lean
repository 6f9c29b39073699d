/- Out of other texts of ours: Text_any, Places_any, FSame_any, FShift_any, linkPs_len. -/
import Derived.Test.YtmnnoecjedkdjaaGreatDoorErrs6
import Derived.Test.YtmnnoecjedkdjaaGreatDoorCells
import Derived.Test.YtmnnoecjedkdjaaGreatDoorShelf
import Derived.Deep.Cut
import Derived.Deep.WholeRow
import Derived.Lib.AppendIntMem
import Derived.Lib.ItoaLen
import Derived.Lib.Join
set_option linter.unusedSimpArgs false
set_option linter.unusedVariables false
namespace Go.Proofs.YtmnnoecjedkdjaaGreatDoor.Ft
open Go.RowKit Go.Extern.Stop Go.Stop Go.Extern
open Go.RowKit Go.ChangeShapes Go.WideShapes Go.Deep
/-- what is innermost: nothing, a number, an error of another kind, a fault that is nil -/
inductive Core
  | none
  | num (c : Int)
  | other (a : Addr)
  | nilp
def Core.val : Core → Value
  | .none => .nilIface
  | .num c => .iface 27 (.int .i64 c)
  | .other a => .iface 225 (.pointer (some a))
  | .nilp => .iface 50 (.pointer Option.none)
def Core.code : Core → Int
  | .num c => c
  | _ => 0
inductive Wrap (W : World) (E : Core) : Value → List (Int × Int) → Prop
  | core : Wrap W E E.val []
  | link (b o : Nat) (k a : Int) (v : Value) (ps : List (Int × Int)) : W.cell? ⟨b, o, none⟩ = some (.int .i64 k) → W.cell? ⟨b, o + 1, none⟩ = some (.int .i64 a) → W.cell? ⟨b, o + 2, none⟩ = some v → Wrap W E v ps →
      Wrap W E (.iface 50 (.pointer (some ⟨b, o, none⟩))) ((k, a) :: ps)
section
variable {W W' : World} {E : Core} {v : Value} {ps : List (Int × Int)}
theorem Wrap.keep (h : Wrap W E v ps) (hb : Below W.heap.size W W') : Wrap W' E v ps := by
  induction h with
  | core => exact .core
  | link b o k a v ps h1 h2 h3 _ ih => exact .link b o k a v ps (cell_below hb h1) (cell_below hb h2) (cell_below hb h3) ih
theorem Wrap.nil (h : Wrap W E v []) : v = E.val := by cases h; rfl
theorem Wrap.cons {x : Int × Int} (h : Wrap W E v (x :: ps)) : ∃ b o v', v = .iface 50 (.pointer (some ⟨b, o, none⟩)) ∧ W.cell? ⟨b, o, none⟩ = some (.int .i64 x.1) ∧ W.cell? ⟨b, o + 1, none⟩ = some (.int .i64 x.2) ∧ W.cell? ⟨b, o + 2, none⟩ = some v' ∧ Wrap W E v' ps := by
  cases h with
  | link b o k a v' ps h1 h2 h3 h4 => exact ⟨b, o, v', rfl, h1, h2, h3, h4⟩
/-- a chain round a number, or round nothing, as errors.As and errors.Is meet it -/
theorem Wrap.chain {c : Int} (h : Wrap W E v ps) (hE : E = .none ∧ c = 0 ∨ E = .num c ∧ c ≠ 0) : Chain W v ps c := by
  induction h with
  | core =>
    rcases hE with ⟨rfl, rfl⟩ | ⟨rfl, hc⟩
    · exact .none
    · exact .num c hc
  | link b o k a v ps h1 h2 h3 _ ih => exact .wrap b o k a v ps c h1 h2 h3 ih
end
/-- what counts of a chain: at most 64 places, and its number, if it is within -/
def linkPs (ps : List (Int × Int)) : List (Int × Int) := ps.take 64
def linkC (ps : List (Int × Int)) (E : Core) : Int := if ps.length < 64 then E.code else 0

theorem noUnS (v : Value) (xT : TypeId) (w : World) : (Instr.typeAssert (.iface 225 v) xT 124 true).run Tryz.prog w = .ok (.tuple #[.nilIface, .bool false]) w := run_typeAssert_lacksB Tryz.underlying124 (by kernel_rfl) (by kernel_rfl) v xT w
theorem Unwrap_fault {W : World} (b o : Nat) (v : Value) (h : W.cell? ⟨b, o + 2, none⟩ = some v) :
    Calls Tryz.prog 46 #[.iface 50 (.pointer (some ⟨b, o, none⟩))] W fun e w' => e = .returned v ∧ w' = W := by
  have uF := hasUnF
  have mU := mtUnwrap
  have H := Lib.hid h
  clear h
  go_enter Tryz.func46, Tryz.ntmps46
  go_wp2_with fail
  refine (Unwrap_any b o v H.out).mono ?_
  rintro e w2 ⟨rfl, h⟩
  obtain rfl := h.symm
  clear h
  go_wp2_with fail
  go_ret
  exact ⟨rfl, rfl⟩
theorem Unwrap_nilp (W : World) : Calls Tryz.prog 164 #[.pointer none] W fun e w' => e = .returned .nilIface ∧ w' = W := by
  go_enter Tryz.func164, Tryz.ntmps164
  go_wp2_with fail
  go_ret
  exact ⟨rfl, rfl⟩
theorem Unwrap_core {W : World} (E : Core) (hE : E ≠ .none) : Calls Tryz.prog 46 #[E.val] W fun e w' => e = .returned .nilIface ∧ w' = W := by
  cases E with
  | none => exact absurd rfl hE
  | num c =>
    have uN := noUnN
    simp only [Core.val]
    go_enter Tryz.func46, Tryz.ntmps46
    go_wp2_with fail
    go_ret
    exact ⟨rfl, rfl⟩
  | other a =>
    have uS := noUnS
    simp only [Core.val]
    go_enter Tryz.func46, Tryz.ntmps46
    go_wp2_with fail
    go_ret
    exact ⟨rfl, rfl⟩
  | nilp =>
    have uF := hasUnF
    have mU := mtUnwrap
    simp only [Core.val]
    go_enter Tryz.func46, Tryz.ntmps46
    go_wp2_with fail
    refine (Unwrap_nilp W).mono ?_
    rintro e w2 ⟨rfl, h⟩
    obtain rfl := h.symm
    clear h
    go_wp2_with fail
    go_ret
    exact ⟨rfl, rfl⟩
theorem asFF (v : Value) (xT : TypeId) (w : World) : (Instr.typeAssert (.iface 50 v) xT 50 true).run Tryz.prog w = .ok (.tuple #[v, .bool true]) w := by kernel_rfl
theorem asNF (v : Value) (xT : TypeId) (w : World) : (Instr.typeAssert (.iface 27 v) xT 50 true).run Tryz.prog w = .ok (.tuple #[.pointer none, .bool false]) w := by kernel_rfl
theorem asSF (v : Value) (xT : TypeId) (w : World) : (Instr.typeAssert (.iface 225 v) xT 50 true).run Tryz.prog w = .ok (.tuple #[.pointer none, .bool false]) w := by kernel_rfl
theorem asNN (v : Value) (xT : TypeId) (w : World) : (Instr.typeAssert (.iface 27 v) xT 27 true).run Tryz.prog w = .ok (.tuple #[v, .bool true]) w := by kernel_rfl
theorem asSN (v : Value) (xT : TypeId) (w : World) : (Instr.typeAssert (.iface 225 v) xT 27 true).run Tryz.prog w = .ok (.tuple #[.int .i64 0, .bool false]) w := by kernel_rfl
theorem places_len : ∀ x, (places x).length = 2 := fun _ => rfl
theorem places_one : ∀ x, ∀ u ∈ places x, u.oneCell' = true := fun x u h => by
  simp at h
  rcases h with rfl | rfl <;> rfl
theorem info_place : (Tryz.prog.info? 37).map (fun i => (i.zero, i.size, i.bytes)) = some (some (.agg #[.int .i64 0, .int .i64 0]), 2, 16) := by kernel_rfl
abbrev OwnP (w : World) (base : Nat) (v : Value) (l : List (Int × Int)) : Prop := Own 37 2 places w base v l
def LinksIs (ps : List (Int × Int)) (E : Core) (W : World) (e : Ending) (w' : World) : Prop := ∃ v, e = .returned (.tuple #[v, .int .i64 (linkC ps E)]) ∧ OwnP w' W.heap.size v (linkPs ps) ∧ Below W.heap.size W w'
theorem rd_place (w : World) (x : Int × Int) : RdP (w.alloc (.cells #[.int .i64 x.1, .int .i64 x.2] 37)) (some ⟨w.heap.size, 0, none⟩) 1 [x] := rd_new places_len w _ [x]
theorem links_out {W w' : World} {ps : List (Int × Int)} {E : Core} {v : Value} {n : Int} (hn : n = linkC ps E) (hp : OwnP w' W.heap.size v (linkPs ps)) (hb : Below W.heap.size W w') : LinksIs ps E W (.returned (.tuple #[v, .int .i64 n])) w' := by
  subst hn
  exact ⟨v, rfl, hp, hb⟩
set_option maxRecDepth 100000 in
set_option maxHeartbeats 8000000 in
theorem links_any {W : World} (E : Core) (v : Value) (ps : List (Int × Int)) (h : Wrap W E v ps) :
    Calls Tryz.prog 21 #[v] W (LinksIs ps E W) := by
  have H0 := Lib.hid h
  clear h
  have tFF := asFF
  have tNF := asNF
  have tSF := asSF
  have tNN := asNN
  have tSN := asSN
  go_enter Tryz.func21, Tryz.ntmps21
  go_wp2_with fail
  go_loopw [0, 4, 5, 8] (fun ev pv nv kv wr => ∃ k : Nat, k ≤ 64 ∧ kv = .int .i64 k ∧ Below W.heap.size W wr ∧ ((k ≤ ps.length ∧ Wrap W E ev (ps.drop k) ∧ OwnP wr W.heap.size pv (ps.take k) ∧ nv = .int .i64 0) ∨ (ps.length < 64 ∧ ps.length < k ∧ ev = .nilIface ∧ OwnP wr W.heap.size pv ps ∧ nv = .int .i64 E.code))) (fun _ _ _ kv _ => 64 - (intOf kv).toNat)
  case atStart => exact ⟨0, by omega, rfl, Below.refl _ _, .inl ⟨by omega, H0.out, Own.nil _ _ _ _ _, rfl⟩⟩
  case round =>
    obtain ⟨k, hk, rfl, hb, hph⟩ := hrel
    have HB := Lib.hid hb
    clear hb H0
    by_cases hlt : k < 64
    · have g0 : decide ((k : Int) < 64) = true := decide_eq_true (by omega)
      have g00 : decide (k < 64) = true := decide_eq_true hlt
      rcases hph with ⟨hkp, hw, ho, rfl⟩ | ⟨hl1, hl2, rfl, ho, rfl⟩
      · by_cases hkl : k < ps.length
        · rw [List.drop_eq_getElem_cons hkl] at hw
          obtain ⟨b, o, v', rfl, e0, e1, e2, hrest⟩ := hw.cons
          have htk := List.take_succ_eq_append_getElem hkl
          generalize ps[k] = x at *
          obtain ⟨xk, xa⟩ := x
          dsimp only at e0 e1
          have c0 := cell_below HB.out e0
          have c1 := cell_below HB.out e1
          have C2 := Lib.hid e2
          have HR := Lib.hid hrest
          have HTK := Lib.hid htk
          have HL0 := Lib.hid hkl
          obtain ⟨A, c, hpv, hc, hcm⟩ := ho.form
          have htl : (ps.take k).length = k := by rw [List.length_take]; omega
          rw [htl] at hpv hc
          subst hpv
          have HO := Lib.hid ho
          have HTL := Lib.hid htl
          clear e0 e1 e2 hrest ho htk hw htl
          go_wp2_with (at_builtin; go_loud (refine wpList_append_rd rfl (.tmp 20) (.tmp 25) 34 rfl 37 (.agg #[.int .i64 0, .int .i64 0]) 16 Tryz.underlying34 info_place rfl (by omega) (by omega) places_len places_one W.heap.size (.slice A k c) (ps.take k) rfl (HO.out.below ((Below.refl _ _).alloc (Nat.le_refl _) _)) _ 1 1 [((xk, xa) : Int × Int)] rfl (rd_place wr (xk, xa)) (by rw [HTL.out]; omega) (by have := HB.out.size; simp at this ⊢; omega) ?_; intro v2 w2 ho2 hg2 hat2; have HO2 := Lib.hid ho2; have HB2 : Hid (Below W.heap.size W w2) := Lib.hid (below_own (HB.out.alloc HB.out.size _) (HO.out.below ((Below.refl _ _).alloc (Nat.le_refl _) _)) hg2 (Nat.le_refl _) (by have := HB.out.size; simp at this ⊢; omega)); clear ho2 hg2 hat2))
          refine (Unwrap_fault b o v' (cell_below HB2.out C2.out)).mono ?_
          rintro e w3 ⟨rfl, h⟩
          obtain rfl := h.symm
          clear h
          go_wp2_with fail
          go_roundw
          case rel => exact ⟨k + 1, by omega, by go_num, HB2.out, .inl ⟨by have := HL0.out; omega, HR.out, by rw [HTK.out]; exact HO2.out, rfl⟩⟩
          case measure => simp [intOf]; omega
        · obtain rfl : k = ps.length := by omega
          rw [List.drop_length] at hw
          obtain rfl := hw.nil
          rw [List.take_length] at ho
          have HO := Lib.hid ho
          clear hw ho hkl
          have hl64 : linkPs ps = ps := List.take_of_length_le (by omega)
          have HL64 := Lib.hid hl64
          clear hl64
          cases E with
          | none =>
            simp only [Core.val]
            have HC : Hid (linkC ps .none = 0) := Lib.hid (by unfold linkC; split <;> rfl)
            go_wp2_with fail
            go_ret2
            exact links_out HC.out.symm (by rw [HL64.out]; exact HO.out) HB.out
          | num c =>
            have HU := Unwrap_core (W := wr) (.num c) (by intro h; cases h)
            simp only [Core.val] at HU ⊢
            have HUU := Lib.hid HU
            clear HU
            by_cases hc0 : c = 0
            · subst hc0
              go_wp2_with fail
              refine HUU.out.mono ?_
              rintro e w3 ⟨rfl, h⟩
              obtain rfl := h.symm
              clear h
              go_wp2_with fail
              go_roundw
              case rel => exact ⟨ps.length + 1, by omega, by go_num, HB.out, .inr ⟨by omega, by omega, rfl, HO.out, rfl⟩⟩
              case measure => simp [intOf]; omega
            · have g1 : (c == 0) = false := by simp [hc0]
              clear hc0
              go_wp2_with fail
              refine HUU.out.mono ?_
              rintro e w3 ⟨rfl, h⟩
              obtain rfl := h.symm
              clear h
              go_wp2_with fail
              go_roundw
              case rel => exact ⟨ps.length + 1, by omega, by go_num, HB.out, .inr ⟨by omega, by omega, rfl, HO.out, rfl⟩⟩
              case measure => simp [intOf]; omega
          | other a =>
            have HU := Unwrap_core (W := wr) (.other a) (by intro h; cases h)
            simp only [Core.val] at HU ⊢
            have HUU := Lib.hid HU
            clear HU
            go_wp2_with fail
            refine HUU.out.mono ?_
            rintro e w3 ⟨rfl, h⟩
            obtain rfl := h.symm
            clear h
            go_wp2_with fail
            go_roundw
            case rel => exact ⟨ps.length + 1, by omega, by go_num, HB.out, .inr ⟨by omega, by omega, rfl, HO.out, rfl⟩⟩
            case measure => simp [intOf]; omega
          | nilp =>
            simp only [Core.val]
            have HC : Hid (linkC ps .nilp = 0) := Lib.hid (by unfold linkC; split <;> rfl)
            go_wp2_with fail
            go_ret2
            exact links_out HC.out.symm (by rw [HL64.out]; exact HO.out) HB.out
      · have HO := Lib.hid ho
        have HC : Hid (linkC ps E = E.code) := Lib.hid (by unfold linkC; rw [if_pos hl1])
        have HL64 : Hid (linkPs ps = ps) := Lib.hid (List.take_of_length_le (by omega))
        clear ho
        go_wp2_with fail
        go_ret2
        exact links_out HC.out.symm (by rw [HL64.out]; exact HO.out) HB.out
    · obtain rfl : k = 64 := by omega
      rcases hph with ⟨hkp, hw, ho, rfl⟩ | ⟨hl1, hl2, rfl, ho, rfl⟩
      · have HO := Lib.hid ho
        have HC : Hid (linkC ps E = 0) := Lib.hid (by unfold linkC; rw [if_neg (by omega)])
        clear ho hw
        go_wp2_with fail
        go_ret2
        exact links_out HC.out.symm HO.out HB.out
      · have HO := Lib.hid ho
        have HC : Hid (linkC ps E = E.code) := Lib.hid (by unfold linkC; rw [if_pos hl1])
        have HL64 : Hid (linkPs ps = ps) := Lib.hid (List.take_of_length_le (by omega))
        clear ho
        go_wp2_with fail
        go_ret2
        exact links_out HC.out.symm (by rw [HL64.out]; exact HO.out) HB.out
def coreOf (c : Int) : Core := if c = 0 then .none else .num c
def MadeW (E : Core) (ps : List (Int × Int)) (W : World) (e : Ending) (w' : World) : Prop := ∃ v, e = .returned v ∧ Wrap w' E v ps ∧ Below W.heap.size W w'
theorem wrap_new {W : World} {E : Core} {v : Value} {x : Int × Int} {ps : List (Int × Int)} (h : Wrap W E v ps) :
    Wrap (W.alloc (.cells #[.int .i64 x.1, .int .i64 x.2, v] 54)) E (.iface 50 (.pointer (some ⟨W.heap.size, 0, none⟩))) (x :: ps) :=
  .link _ _ _ _ v ps ((cells_new W _ _).cell 0) ((cells_new W _ _).cell 1) ((cells_new W _ _).cell 2) (h.keep ((Below.refl _ _).alloc (Nat.le_refl _) _))
theorem Wrap.form {W : World} {E : Core} {v : Value} {ps : List (Int × Int)} (h : Wrap W E v ps) : v = .nilIface ∨ ∃ u x, v = .iface u x := by
  cases h with
  | core => cases E <;> simp [Core.val]
  | link => exact .inr ⟨_, _, rfl⟩
/-- what is innermost in an error that the law makes -/
def CoreIs (c : Int) (other : Bool) (E : Core) : Prop := (c ≠ 0 ∧ E = .num c) ∨ (c = 0 ∧ other = true ∧ ∃ a, E = .other a) ∨ (c = 0 ∧ other = false ∧ E = .none)
theorem CoreIs.code {c : Int} {other : Bool} {E : Core} (h : CoreIs c other E) : E.code = c := by
  rcases h with ⟨_, rfl⟩ | ⟨h, _, a, rfl⟩ | ⟨h, _, rfl⟩ <;> simp [Core.code, *]
theorem chain_any (A : Option Addr) (n cap : Nat) (ps : List (Int × Int)) (c : Int) (W : World) (hp : RdP W A n ps) (hn : n ≤ 9223372036854775807) :
    Calls Tryz.prog 29 #[.slice A n cap, .int .i64 c] W (MadeW (coreOf c) ps W) := by
  have HP := Lib.hid hp
  clear hp
  by_cases hc : c = 0
  · have HE : Hid (coreOf c = .none) := Lib.hid (by unfold coreOf; rw [if_pos hc])
    subst hc
    rw [HE.out]
    go_enter Tryz.func29, Tryz.ntmps29
    go_wp2_with fail
    go_loopw [5, 6] (fun ev iv wr => ∃ j : Nat, j ≤ n ∧ iv = .int .i64 ((j : Int) - 1) ∧ Wrap wr Core.none ev (ps.drop j) ∧ Below W.heap.size W wr) (fun _ iv _ => (intOf iv + 1).toNat)
    case atStart => exact ⟨n, Nat.le_refl _, by go_num, by rw [List.drop_of_length_le (by have := HP.out.1; omega)]; exact .core, Below.refl _ _⟩
    case round =>
      obtain ⟨j, hj, rfl, hw, hb⟩ := hrel
      have HW := Lib.hid hw
      have HB := Lib.hid hb
      clear hw hb
      by_cases h0 : 0 < j
      · obtain ⟨r, rfl⟩ : ∃ r, j = r + 1 := ⟨j - 1, by omega⟩
        obtain ⟨ad, hA, cc⟩ := (HP.out.below HB.out).at_ (show r < n by omega)
        subst hA
        obtain ⟨c0, c1⟩ := two_places cc
        have hrl : r < ps.length := by have := HP.out.1; omega
        have hdr := List.drop_eq_getElem_cons hrl
        have HDR := Lib.hid hdr
        clear cc hdr
        rw [show (((r + 1 : Nat) : Int) - 1) = (r : Int) by omega]
        have g2 : decide ((0 : Int) ≤ (r : Int)) = true := decide_eq_true (by omega)
        rcases HW.out.form with h | ⟨ut, ux, h⟩
        all_goals
          subst h
          go_wp2_with fail
          go_roundw
          case rel => exact ⟨r, by omega, by go_num, by rw [HDR.out]; exact wrap_new HW.out, HB.out.alloc HB.out.size _⟩
          case measure => simp [intOf] <;> omega
      · obtain rfl : j = 0 := by omega
        go_wp2_with fail
        go_ret
        exact ⟨_, rfl, HW.out, HB.out⟩
  · have HE : Hid (coreOf c = .num c) := Lib.hid (by unfold coreOf; rw [if_neg hc])
    have g1 : (c != 0) = true := by simp [bne, hc]
    rw [HE.out]
    clear hc
    go_enter Tryz.func29, Tryz.ntmps29
    go_wp2_with fail
    go_loopw [5, 6] (fun ev iv wr => ∃ j : Nat, j ≤ n ∧ iv = .int .i64 ((j : Int) - 1) ∧ Wrap wr (Core.num c) ev (ps.drop j) ∧ Below W.heap.size W wr) (fun _ iv _ => (intOf iv + 1).toNat)
    case atStart => exact ⟨n, Nat.le_refl _, by go_num, by rw [List.drop_of_length_le (by have := HP.out.1; omega)]; exact .core, Below.refl _ _⟩
    case round =>
      obtain ⟨j, hj, rfl, hw, hb⟩ := hrel
      have HW := Lib.hid hw
      have HB := Lib.hid hb
      clear hw hb
      by_cases h0 : 0 < j
      · obtain ⟨r, rfl⟩ : ∃ r, j = r + 1 := ⟨j - 1, by omega⟩
        obtain ⟨ad, hA, cc⟩ := (HP.out.below HB.out).at_ (show r < n by omega)
        subst hA
        obtain ⟨c0, c1⟩ := two_places cc
        have hrl : r < ps.length := by have := HP.out.1; omega
        have hdr := List.drop_eq_getElem_cons hrl
        have HDR := Lib.hid hdr
        clear cc hdr
        rw [show (((r + 1 : Nat) : Int) - 1) = (r : Int) by omega]
        have g2 : decide ((0 : Int) ≤ (r : Int)) = true := decide_eq_true (by omega)
        rcases HW.out.form with h | ⟨ut, ux, h⟩
        all_goals
          subst h
          go_wp2_with fail
          go_roundw
          case rel => exact ⟨r, by omega, by go_num, by rw [HDR.out]; exact wrap_new HW.out, HB.out.alloc HB.out.size _⟩
          case measure => simp [intOf] <;> omega
      · obtain rfl : j = 0 := by omega
        go_wp2_with fail
        go_ret
        exact ⟨_, rfl, HW.out, HB.out⟩
theorem own_places {w : World} {base : Nat} {v : Value} {l : List (Int × Int)} (h : OwnP w base v l) : ∃ A c, v = .slice A l.length c ∧ RdP w A l.length l ∧ l.length ≤ 9223372036854775807 := by
  obtain ⟨A, c, rfl, hc, hm⟩ := h.form
  exact ⟨A, c, rfl, h.rd places_len rfl, by simp only [maxLen] at hm; omega⟩
theorem Places_any {W : World} (E : Core) (v : Value) (ps : List (Int × Int)) (h : Wrap W E v ps) :
    Calls Tryz.prog 9 #[v] W fun e w' => ∃ p, e = .returned p ∧ OwnP w' W.heap.size p (linkPs ps) ∧ Below W.heap.size W w' := by
  have H := Lib.hid h
  clear h
  go_enter Tryz.func9, Tryz.ntmps9
  go_wp2_with fail
  refine (links_any E v ps H.out).mono ?_
  rintro e w2 ⟨p, rfl, ho, hb⟩
  have HO := Lib.hid ho
  have HB := Lib.hid hb
  clear ho hb
  go_wp2_with fail
  go_ret
  exact ⟨_, rfl, HO.out, HB.out⟩
def kindB (k : Int) : ByteArray := if k = 1 then ⟨#[108, 105, 110, 101]⟩ else if k = 2 then ⟨#[98, 121, 116, 101]⟩ else if k = 3 then ⟨#[110, 111, 100, 101]⟩ else if k = 4 then ⟨#[97, 114, 99]⟩ else if k = 5 then ⟨#[115, 116, 101, 112]⟩ else ⟨#[112, 108, 97, 99, 101]⟩
def sayB1 : ByteArray := ⟨#[97, 32, 110, 117, 109, 98, 101, 114, 32, 111, 117, 116, 115, 105, 100, 101, 32, 105, 116, 115, 32, 114, 97, 110, 103, 101]⟩
def sayB2 : ByteArray := ⟨#[116, 111, 111, 32, 108, 111, 110, 103]⟩
def sayB3 : ByteArray := ⟨#[97, 32, 119, 111, 114, 100, 32, 116, 104, 97, 116, 32, 109, 97, 121, 32, 110, 111, 116, 32, 115, 116, 97, 110, 100, 32, 116, 104, 101, 114, 101]⟩
def sayB4 : ByteArray := ⟨#[110, 111, 116, 32, 97, 32, 110, 117, 109, 98, 101, 114]⟩
def sayB5 : ByteArray := ⟨#[97, 32, 119, 111, 114, 100, 32, 111, 114, 32, 97, 32, 108, 105, 110, 101, 32, 108, 97, 99, 107, 115]⟩
def sayB6 : ByteArray := ⟨#[115, 111, 109, 101, 116, 104, 105, 110, 103, 32, 98, 101, 104, 105, 110, 100, 32, 116, 104, 101, 32, 101, 110, 100]⟩
def sayB7 : ByteArray := ⟨#[110, 111, 32, 115, 117, 99, 104, 32, 110, 111, 100, 101]⟩
def sayB8 : ByteArray := ⟨#[97, 32, 119, 101, 105, 103, 104, 116, 32, 111, 117, 116, 115, 105, 100, 101, 32, 105, 116, 115, 32, 114, 97, 110, 103, 101]⟩
def sayB9 : ByteArray := ⟨#[109, 111, 114, 101, 32, 116, 104, 97, 110, 32, 109, 97, 121, 32, 98, 101]⟩
def sayB10 : ByteArray := ⟨#[116, 111, 111, 32, 115, 104, 111, 114, 116]⟩
def sayB11 : ByteArray := ⟨#[110, 111, 32, 105, 109, 97, 103, 101]⟩
def sayB12 : ByteArray := ⟨#[97, 110, 111, 116, 104, 101, 114, 32, 118, 101, 114, 115, 105, 111, 110]⟩
def sayB13 : ByteArray := ⟨#[116, 104, 101, 32, 99, 104, 101, 99, 107, 32, 115, 117, 109, 32, 100, 111, 101, 115, 110, 39, 116, 32, 102, 105, 116]⟩
def sayB14 : ByteArray := ⟨#[110, 111, 116, 32, 105, 110, 32, 102, 111, 114, 109]⟩
def sayB15 : ByteArray := ⟨#[110, 111, 116, 32, 116, 114, 117, 101]⟩
def sayB16 : ByteArray := ⟨#[110, 111, 32, 119, 97, 108, 107]⟩
def sayB17 : ByteArray := ⟨#[110, 111, 32, 115, 117, 99, 104, 32, 104, 97, 110, 100, 108, 101]⟩
def sayB18 : ByteArray := ⟨#[110, 111, 32, 109, 111, 114, 101, 32, 114, 111, 111, 109]⟩
def sayB19 : ByteArray := ⟨#[110, 105, 108]⟩
def sayB20 : ByteArray := ⟨#[110, 111, 32, 111, 114, 100, 101, 114, 32, 111, 102, 32, 116, 104, 101, 32, 110, 111, 100, 101, 115]⟩
def errorB : ByteArray := ⟨#[101, 114, 114, 111, 114, 32]⟩
def itoaB (n : Int) : ByteArray := ⟨(Lib.itoa n).toArray⟩
def sayB (c : Int) : ByteArray := if c = 1 then sayB1 else if c = 2 then sayB2 else if c = 3 then sayB3 else if c = 4 then sayB4 else if c = 5 then sayB5 else if c = 6 then sayB6 else if c = 7 then sayB7 else if c = 8 then sayB8 else if c = 9 then sayB9 else if c = 10 then sayB10 else if c = 11 then sayB11 else if c = 12 then sayB12 else if c = 13 then sayB13 else if c = 14 then sayB14 else if c = 15 then sayB15 else if c = 16 then sayB16 else if c = 17 then sayB17 else if c = 18 then sayB18 else if c = 19 then sayB19 else if c = 20 then sayB20 else errorB ++ itoaB c
theorem kind_any (k : Int) (W : World) : Calls Tryz.prog 22 #[.int .i64 k] W fun e w' => e = .returned (.string (kindB k)) ∧ w' = W := by
  by_cases h1 : k = 1
  · subst h1
    go_enter Tryz.func22, Tryz.ntmps22
    go_wp2_with fail
    go_ret
    exact ⟨rfl, rfl⟩
  by_cases h2 : k = 2
  · subst h2
    go_enter Tryz.func22, Tryz.ntmps22
    go_wp2_with fail
    go_ret
    exact ⟨rfl, rfl⟩
  by_cases h3 : k = 3
  · subst h3
    go_enter Tryz.func22, Tryz.ntmps22
    go_wp2_with fail
    go_ret
    exact ⟨rfl, rfl⟩
  by_cases h4 : k = 4
  · subst h4
    go_enter Tryz.func22, Tryz.ntmps22
    go_wp2_with fail
    go_ret
    exact ⟨rfl, rfl⟩
  by_cases h5 : k = 5
  · subst h5
    go_enter Tryz.func22, Tryz.ntmps22
    go_wp2_with fail
    go_ret
    exact ⟨rfl, rfl⟩
  have hk : kindB k = ⟨#[112, 108, 97, 99, 101]⟩ := by unfold kindB; rw [if_neg h1, if_neg h2, if_neg h3, if_neg h4, if_neg h5]
  rw [hk]
  have g1 : (k == 1) = false := by simp [h1]
  have g2 : (k == 2) = false := by simp [h2]
  have g3 : (k == 3) = false := by simp [h3]
  have g4 : (k == 4) = false := by simp [h4]
  have g5 : (k == 5) = false := by simp [h5]
  clear h1 h2 h3 h4 h5
  go_enter Tryz.func22, Tryz.ntmps22
  go_wp2_with fail
  go_ret
  exact ⟨rfl, rfl⟩
theorem Itoa_any (n : Int) (h0 : -9223372036854775808 ≤ n) (h1 : n ≤ 9223372036854775807) (w : World) (htab : Lib.TabIs Tryz.prog w "internal/strconv.uint64pow10" .u64 Lib.pow10Tab) :
    Calls Tryz.prog 23 #[.int .i64 n] w fun e w' => e = .returned (.string (itoaB n)) ∧ Below w.heap.size w w' := by
  refine (Tryz.strconv_Itoa n h0 h1 w htab).mono ?_
  rintro e w' ⟨rfl, k, os, rfl⟩
  exact ⟨rfl, Lib.below_grow _ _ (Nat.le_refl _) _ _⟩
theorem tab_below {w w' : World} {name : String} {zs : List Int} (h : Lib.TabIs Tryz.prog w name .u64 zs) (hb : Below w.heap.size w w') : Lib.TabIs Tryz.prog w' name .u64 zs := by
  unfold Lib.TabIs World.var? at *
  cases hg : Tryz.prog.globalNamed name with
  | none => rw [hg] at h; exact h
  | some g =>
    rw [hg] at h
    simp only [Option.bind_some] at h ⊢
    rw [hb.block g (by
      cases hh : w.heap[g]? with
      | none => rw [hh] at h; cases h
      | some o => exact (Array.getElem?_eq_some_iff.1 hh).1)]
    exact h
theorem oper_wp_store {P : Program} {d : Option Tmp} {ty : TypeId} {pos : String} {after : Array Edge} {g : Option (Nat × Bool)} {t : TypeId} {p x : Operand} {a : Act} {w w' : World} {next : Act → World → Prop} {Q : Exit → Act → World → Prop} (h : (Instr.storeAt t (a.eval p) (a.eval x)).run P w = .ok () w') (k : next (a.put d undef) w') : Oper.wp P ⟨d, .store t p x, ty, pos, after, g⟩ a w next Q := by
  unfold Oper.wp
  simp only [execOp, Sem.run_bind, h, Result.andThen, Sem.run_pure]
  exact k
theorem oper_wp_value {P : Program} {o : Oper} {a : Act} {w w' : World} {next : Act → World → Prop} {Q : Exit → Act → World → Prop} (v : Value) (h : (execOp a.eval o).run P w = .ok (.value v) w') (k : next (a.put o.dst v) w') : Oper.wp P o a w next Q := by
  unfold Oper.wp
  rw [h]
  exact k
set_option maxRecDepth 100000 in
set_option maxHeartbeats 4000000 in
theorem Errno_in (c : Int) (W : World) (h1 : 1 ≤ c) (h2 : c ≤ 20) : Calls Tryz.prog 24 #[.int .i64 c] W fun e w' => e = .returned (.string (sayB c)) ∧ Below W.heap.size W w' := by
  have g1 : decide (c < 1) = false := decide_eq_false (by omega)
  have g2 : decide (20 < c) = false := decide_eq_false (by omega)
  have E1 : sayB 1 = sayB1 := by rfl
  have E2 : sayB 2 = sayB2 := by rfl
  have E3 : sayB 3 = sayB3 := by rfl
  have E4 : sayB 4 = sayB4 := by rfl
  have E5 : sayB 5 = sayB5 := by rfl
  have E6 : sayB 6 = sayB6 := by rfl
  have E7 : sayB 7 = sayB7 := by rfl
  have E8 : sayB 8 = sayB8 := by rfl
  have E9 : sayB 9 = sayB9 := by rfl
  have E10 : sayB 10 = sayB10 := by rfl
  have E11 : sayB 11 = sayB11 := by rfl
  have E12 : sayB 12 = sayB12 := by rfl
  have E13 : sayB 13 = sayB13 := by rfl
  have E14 : sayB 14 = sayB14 := by rfl
  have E15 : sayB 15 = sayB15 := by rfl
  have E16 : sayB 16 = sayB16 := by rfl
  have E17 : sayB 17 = sayB17 := by rfl
  have E18 : sayB 18 = sayB18 := by rfl
  have E19 : sayB 19 = sayB19 := by rfl
  have E20 : sayB 20 = sayB20 := by rfl
  go_enter Tryz.func24, Tryz.ntmps24
  generalize hs1 : (⟨#[97, 32, 110, 117, 109, 98, 101, 114, 32, 111, 117, 116, 115, 105, 100, 101, 32, 105, 116, 115, 32, 114, 97, 110, 103, 101]⟩ : ByteArray) = s1
  generalize hs2 : (⟨#[116, 111, 111, 32, 108, 111, 110, 103]⟩ : ByteArray) = s2
  generalize hs3 : (⟨#[97, 32, 119, 111, 114, 100, 32, 116, 104, 97, 116, 32, 109, 97, 121, 32, 110, 111, 116, 32, 115, 116, 97, 110, 100, 32, 116, 104, 101, 114, 101]⟩ : ByteArray) = s3
  generalize hs4 : (⟨#[110, 111, 116, 32, 97, 32, 110, 117, 109, 98, 101, 114]⟩ : ByteArray) = s4
  generalize hs5 : (⟨#[97, 32, 119, 111, 114, 100, 32, 111, 114, 32, 97, 32, 108, 105, 110, 101, 32, 108, 97, 99, 107, 115]⟩ : ByteArray) = s5
  generalize hs6 : (⟨#[115, 111, 109, 101, 116, 104, 105, 110, 103, 32, 98, 101, 104, 105, 110, 100, 32, 116, 104, 101, 32, 101, 110, 100]⟩ : ByteArray) = s6
  generalize hs7 : (⟨#[110, 111, 32, 115, 117, 99, 104, 32, 110, 111, 100, 101]⟩ : ByteArray) = s7
  generalize hs8 : (⟨#[97, 32, 119, 101, 105, 103, 104, 116, 32, 111, 117, 116, 115, 105, 100, 101, 32, 105, 116, 115, 32, 114, 97, 110, 103, 101]⟩ : ByteArray) = s8
  generalize hs9 : (⟨#[109, 111, 114, 101, 32, 116, 104, 97, 110, 32, 109, 97, 121, 32, 98, 101]⟩ : ByteArray) = s9
  generalize hs10 : (⟨#[116, 111, 111, 32, 115, 104, 111, 114, 116]⟩ : ByteArray) = s10
  generalize hs11 : (⟨#[110, 111, 32, 105, 109, 97, 103, 101]⟩ : ByteArray) = s11
  generalize hs12 : (⟨#[97, 110, 111, 116, 104, 101, 114, 32, 118, 101, 114, 115, 105, 111, 110]⟩ : ByteArray) = s12
  generalize hs13 : (⟨#[116, 104, 101, 32, 99, 104, 101, 99, 107, 32, 115, 117, 109, 32, 100, 111, 101, 115, 110, 39, 116, 32, 102, 105, 116]⟩ : ByteArray) = s13
  generalize hs14 : (⟨#[110, 111, 116, 32, 105, 110, 32, 102, 111, 114, 109]⟩ : ByteArray) = s14
  generalize hs15 : (⟨#[110, 111, 116, 32, 116, 114, 117, 101]⟩ : ByteArray) = s15
  generalize hs16 : (⟨#[110, 111, 32, 119, 97, 108, 107]⟩ : ByteArray) = s16
  generalize hs17 : (⟨#[110, 111, 32, 115, 117, 99, 104, 32, 104, 97, 110, 100, 108, 101]⟩ : ByteArray) = s17
  generalize hs18 : (⟨#[110, 111, 32, 109, 111, 114, 101, 32, 114, 111, 111, 109]⟩ : ByteArray) = s18
  generalize hs19 : (⟨#[110, 105, 108]⟩ : ByteArray) = s19
  generalize hs20 : (⟨#[110, 111, 32, 111, 114, 100, 101, 114, 32, 111, 102, 32, 116, 104, 101, 32, 110, 111, 100, 101, 115]⟩ : ByteArray) = s20
  replace hs1 : Hid (s1 = sayB 1) := Lib.hid (by rw [E1, ← hs1]; rfl)
  replace hs2 : Hid (s2 = sayB 2) := Lib.hid (by rw [E2, ← hs2]; rfl)
  replace hs3 : Hid (s3 = sayB 3) := Lib.hid (by rw [E3, ← hs3]; rfl)
  replace hs4 : Hid (s4 = sayB 4) := Lib.hid (by rw [E4, ← hs4]; rfl)
  replace hs5 : Hid (s5 = sayB 5) := Lib.hid (by rw [E5, ← hs5]; rfl)
  replace hs6 : Hid (s6 = sayB 6) := Lib.hid (by rw [E6, ← hs6]; rfl)
  replace hs7 : Hid (s7 = sayB 7) := Lib.hid (by rw [E7, ← hs7]; rfl)
  replace hs8 : Hid (s8 = sayB 8) := Lib.hid (by rw [E8, ← hs8]; rfl)
  replace hs9 : Hid (s9 = sayB 9) := Lib.hid (by rw [E9, ← hs9]; rfl)
  replace hs10 : Hid (s10 = sayB 10) := Lib.hid (by rw [E10, ← hs10]; rfl)
  replace hs11 : Hid (s11 = sayB 11) := Lib.hid (by rw [E11, ← hs11]; rfl)
  replace hs12 : Hid (s12 = sayB 12) := Lib.hid (by rw [E12, ← hs12]; rfl)
  replace hs13 : Hid (s13 = sayB 13) := Lib.hid (by rw [E13, ← hs13]; rfl)
  replace hs14 : Hid (s14 = sayB 14) := Lib.hid (by rw [E14, ← hs14]; rfl)
  replace hs15 : Hid (s15 = sayB 15) := Lib.hid (by rw [E15, ← hs15]; rfl)
  replace hs16 : Hid (s16 = sayB 16) := Lib.hid (by rw [E16, ← hs16]; rfl)
  replace hs17 : Hid (s17 = sayB 17) := Lib.hid (by rw [E17, ← hs17]; rfl)
  replace hs18 : Hid (s18 = sayB 18) := Lib.hid (by rw [E18, ← hs18]; rfl)
  replace hs19 : Hid (s19 = sayB 19) := Lib.hid (by rw [E19, ← hs19]; rfl)
  replace hs20 : Hid (s20 = sayB 20) := Lib.hid (by rw [E20, ← hs20]; rfl)
  clear E1 E2 E3 E4 E5 E6 E7 E8 E9 E10 E11 E12 E13 E14 E15 E16 E17 E18 E19 E20
  go_upto_region 3 with fail
  go_step
  go_step
  refine oper_wp_value (w' := W) (.agg #[.string s1, .string s2, .string s3, .string s4, .string s5, .string s6, .string s7, .string s8, .string s9, .string s10, .string s11, .string s12, .string s13, .string s14, .string s15, .string s16, .string s17, .string s18, .string s19, .string s20]) (by kernel_rfl) ?_
  go_frame
  go_step
  go_step
  go_step
  go_step
  go_step
  refine oper_wp_store (run_storeAt_new W 106 _ #[.string s1, .string s2, .string s3, .string s4, .string s5, .string s6, .string s7, .string s8, .string s9, .string s10, .string s11, .string s12, .string s13, .string s14, .string s15, .string s16, .string s17, .string s18, .string s19, .string s20] (by kernel_rfl) rfl (by kernel_rfl)) ?_
  go_frame
  have hcells := cells_new W #[.string s1, .string s2, .string s3, .string s4, .string s5, .string s6, .string s7, .string s8, .string s9, .string s10, .string s11, .string s12, .string s13, .string s14, .string s15, .string s16, .string s17, .string s18, .string s19, .string s20] 106
  have hbel := (Below.refl W.heap.size W).alloc (Nat.le_refl _) (.cells #[.string s1, .string s2, .string s3, .string s4, .string s5, .string s6, .string s7, .string s8, .string s9, .string s10, .string s11, .string s12, .string s13, .string s14, .string s15, .string s16, .string s17, .string s18, .string s19, .string s20] 106)
  generalize W.alloc (.cells #[.string s1, .string s2, .string s3, .string s4, .string s5, .string s6, .string s7, .string s8, .string s9, .string s10, .string s11, .string s12, .string s13, .string s14, .string s15, .string s16, .string s17, .string s18, .string s19, .string s20] 106) = W2 at *
  generalize (Value.agg #[.string s1, .string s2, .string s3, .string s4, .string s5, .string s6, .string s7, .string s8, .string s9, .string s10, .string s11, .string s12, .string s13, .string s14, .string s15, .string s16, .string s17, .string s18, .string s19, .string s20]) = ag at *
  have HC := Lib.hid hcells
  have HB := Lib.hid hbel
  clear hcells hbel
  go_upto_region 4 with fail
  by_cases h : c = 1
  · subst h
    have cc : W2.cell? ⟨W.heap.size, 0, none⟩ = some (.string s1) := HC.out.cell 0
    go_wp2_with fail
    go_ret
    exact ⟨by rw [← hs1.out]; rfl, HB.out⟩
  by_cases h : c = 2
  · subst h
    have cc : W2.cell? ⟨W.heap.size, 1, none⟩ = some (.string s2) := HC.out.cell 1
    go_wp2_with fail
    go_ret
    exact ⟨by rw [← hs2.out]; rfl, HB.out⟩
  by_cases h : c = 3
  · subst h
    have cc : W2.cell? ⟨W.heap.size, 2, none⟩ = some (.string s3) := HC.out.cell 2
    go_wp2_with fail
    go_ret
    exact ⟨by rw [← hs3.out]; rfl, HB.out⟩
  by_cases h : c = 4
  · subst h
    have cc : W2.cell? ⟨W.heap.size, 3, none⟩ = some (.string s4) := HC.out.cell 3
    go_wp2_with fail
    go_ret
    exact ⟨by rw [← hs4.out]; rfl, HB.out⟩
  by_cases h : c = 5
  · subst h
    have cc : W2.cell? ⟨W.heap.size, 4, none⟩ = some (.string s5) := HC.out.cell 4
    go_wp2_with fail
    go_ret
    exact ⟨by rw [← hs5.out]; rfl, HB.out⟩
  by_cases h : c = 6
  · subst h
    have cc : W2.cell? ⟨W.heap.size, 5, none⟩ = some (.string s6) := HC.out.cell 5
    go_wp2_with fail
    go_ret
    exact ⟨by rw [← hs6.out]; rfl, HB.out⟩
  by_cases h : c = 7
  · subst h
    have cc : W2.cell? ⟨W.heap.size, 6, none⟩ = some (.string s7) := HC.out.cell 6
    go_wp2_with fail
    go_ret
    exact ⟨by rw [← hs7.out]; rfl, HB.out⟩
  by_cases h : c = 8
  · subst h
    have cc : W2.cell? ⟨W.heap.size, 7, none⟩ = some (.string s8) := HC.out.cell 7
    go_wp2_with fail
    go_ret
    exact ⟨by rw [← hs8.out]; rfl, HB.out⟩
  by_cases h : c = 9
  · subst h
    have cc : W2.cell? ⟨W.heap.size, 8, none⟩ = some (.string s9) := HC.out.cell 8
    go_wp2_with fail
    go_ret
    exact ⟨by rw [← hs9.out]; rfl, HB.out⟩
  by_cases h : c = 10
  · subst h
    have cc : W2.cell? ⟨W.heap.size, 9, none⟩ = some (.string s10) := HC.out.cell 9
    go_wp2_with fail
    go_ret
    exact ⟨by rw [← hs10.out]; rfl, HB.out⟩
  by_cases h : c = 11
  · subst h
    have cc : W2.cell? ⟨W.heap.size, 10, none⟩ = some (.string s11) := HC.out.cell 10
    go_wp2_with fail
    go_ret
    exact ⟨by rw [← hs11.out]; rfl, HB.out⟩
  by_cases h : c = 12
  · subst h
    have cc : W2.cell? ⟨W.heap.size, 11, none⟩ = some (.string s12) := HC.out.cell 11
    go_wp2_with fail
    go_ret
    exact ⟨by rw [← hs12.out]; rfl, HB.out⟩
  by_cases h : c = 13
  · subst h
    have cc : W2.cell? ⟨W.heap.size, 12, none⟩ = some (.string s13) := HC.out.cell 12
    go_wp2_with fail
    go_ret
    exact ⟨by rw [← hs13.out]; rfl, HB.out⟩
  by_cases h : c = 14
  · subst h
    have cc : W2.cell? ⟨W.heap.size, 13, none⟩ = some (.string s14) := HC.out.cell 13
    go_wp2_with fail
    go_ret
    exact ⟨by rw [← hs14.out]; rfl, HB.out⟩
  by_cases h : c = 15
  · subst h
    have cc : W2.cell? ⟨W.heap.size, 14, none⟩ = some (.string s15) := HC.out.cell 14
    go_wp2_with fail
    go_ret
    exact ⟨by rw [← hs15.out]; rfl, HB.out⟩
  by_cases h : c = 16
  · subst h
    have cc : W2.cell? ⟨W.heap.size, 15, none⟩ = some (.string s16) := HC.out.cell 15
    go_wp2_with fail
    go_ret
    exact ⟨by rw [← hs16.out]; rfl, HB.out⟩
  by_cases h : c = 17
  · subst h
    have cc : W2.cell? ⟨W.heap.size, 16, none⟩ = some (.string s17) := HC.out.cell 16
    go_wp2_with fail
    go_ret
    exact ⟨by rw [← hs17.out]; rfl, HB.out⟩
  by_cases h : c = 18
  · subst h
    have cc : W2.cell? ⟨W.heap.size, 17, none⟩ = some (.string s18) := HC.out.cell 17
    go_wp2_with fail
    go_ret
    exact ⟨by rw [← hs18.out]; rfl, HB.out⟩
  by_cases h : c = 19
  · subst h
    have cc : W2.cell? ⟨W.heap.size, 18, none⟩ = some (.string s19) := HC.out.cell 18
    go_wp2_with fail
    go_ret
    exact ⟨by rw [← hs19.out]; rfl, HB.out⟩
  by_cases h : c = 20
  · subst h
    have cc : W2.cell? ⟨W.heap.size, 19, none⟩ = some (.string s20) := HC.out.cell 19
    go_wp2_with fail
    go_ret
    exact ⟨by rw [← hs20.out]; rfl, HB.out⟩
  omega
abbrev Tab (w : World) : Prop := Lib.TabIs Tryz.prog w "internal/strconv.uint64pow10" .u64 Lib.pow10Tab
def I64 (c : Int) : Prop := -9223372036854775808 ≤ c ∧ c ≤ 9223372036854775807
theorem itoaB_size (n : Int) (h : I64 n) : (itoaB n).size ≤ 21 := by
  have := Lib.itoa_length_le n h.1 h.2
  simpa [itoaB, ByteArray.size] using this
theorem sayB_out (c : Int) (h : ¬ (1 ≤ c ∧ c ≤ 20)) : sayB c = errorB ++ itoaB c := by
  unfold sayB
  rw [if_neg (by omega), if_neg (by omega), if_neg (by omega), if_neg (by omega), if_neg (by omega), if_neg (by omega), if_neg (by omega), if_neg (by omega), if_neg (by omega), if_neg (by omega), if_neg (by omega), if_neg (by omega), if_neg (by omega), if_neg (by omega), if_neg (by omega), if_neg (by omega), if_neg (by omega), if_neg (by omega), if_neg (by omega), if_neg (by omega)]
theorem Errno_out (c : Int) (W : World) (hc : I64 c) (h : ¬ (1 ≤ c ∧ c ≤ 20)) (ht : Tab W) : Calls Tryz.prog 24 #[.int .i64 c] W fun e w' => e = .returned (.string (sayB c)) ∧ Below W.heap.size W w' := by
  have E := Lib.hid (sayB_out c h)
  have HI := Lib.hid (Itoa_any c hc.1 hc.2 W ht)
  have hz := itoaB_size c hc
  clear ht hc
  by_cases h1 : c < 1
  · have g1 : decide (c < 1) = true := decide_eq_true h1
    clear h h1
    go_enter Tryz.func24, Tryz.ntmps24
    go_wp2_with fail
    refine HI.out.mono ?_
    rintro e w2 ⟨rfl, hb⟩
    have HB := Lib.hid hb
    clear hb
    go_wp2_with fail
    go_ret
    exact ⟨by rw [E.out]; rfl, HB.out⟩
  · have g1 : decide (c < 1) = false := decide_eq_false h1
    have g2 : decide (20 < c) = true := decide_eq_true (by omega)
    clear h h1
    go_enter Tryz.func24, Tryz.ntmps24
    go_wp2_with fail
    refine HI.out.mono ?_
    rintro e w2 ⟨rfl, hb⟩
    have HB := Lib.hid hb
    clear hb
    go_wp2_with fail
    go_ret
    exact ⟨by rw [E.out]; rfl, HB.out⟩
theorem Errno_any (c : Int) (W : World) (hc : I64 c) (ht : Tab W) : Calls Tryz.prog 24 #[.int .i64 c] W fun e w' => e = .returned (.string (sayB c)) ∧ Below W.heap.size W w' := by
  by_cases h : 1 ≤ c ∧ c ≤ 20
  · exact Errno_in c W h.1 h.2
  · exact Errno_out c W hc h ht
def spaceB : ByteArray := ⟨#[32]⟩
def wordB (p : Int × Int) : ByteArray := kindB p.1 ++ spaceB ++ itoaB p.2
abbrev strs (b : ByteArray) : List Value := [.string b]
theorem strs_len : ∀ x, (strs x).length = 1 := fun _ => rfl
theorem strs_one : ∀ x, ∀ u ∈ strs x, u.oneCell' = true := fun x u h => by
  simp at h
  subst h
  rfl
theorem info_string : (Tryz.prog.info? 9).map (fun i => (i.zero, i.size, i.bytes)) = some (some (.string ⟨#[]⟩), 1, 16) := by kernel_rfl
abbrev OwnS (w : World) (base : Nat) (v : Value) (l : List ByteArray) : Prop := Own 9 1 strs w base v l
def sepB : ByteArray := ⟨#[58, 32]⟩
def joinB (l : List ByteArray) : ByteArray := ⟨(Lib.join (l.map (·.data.toList)) sepB.data.toList).toArray⟩
theorem lens_le (M : Nat) : ∀ l : List ByteArray, (∀ b ∈ l, b.size ≤ M) → Lib.lens (l.map (·.data.toList)) ≤ M * l.length
  | [], _ => by simp [Lib.lens]
  | b :: r, h => by
    have h1 := h b List.mem_cons_self
    have h2 := lens_le M r fun x hx => h x (List.mem_cons_of_mem _ hx)
    simp only [Lib.lens, List.map_cons, List.sum_cons, List.length_cons, Array.length_toList] at *
    rw [Nat.mul_add]
    have : b.data.size = b.size := rfl
    omega
theorem joinB_len (M : Nat) (l : List ByteArray) (h : ∀ b ∈ l, b.size ≤ M) : (Lib.join (l.map (·.data.toList)) sepB.data.toList).length ≤ (M + 2) * l.length := by
  cases l with
  | nil => simp [Lib.join, List.intercalate]
  | cons b r =>
    have h1 := lens_le M (b :: r) h
    rw [List.map_cons, Lib.join_length]
    rw [List.map_cons] at h1
    have h2 : sepB.data.toList.length = 2 := rfl
    rw [h2, List.length_map]
    simp only [List.length_cons] at *
    rw [Nat.add_mul]
    omega
theorem Join_own {w : World} {base : Nat} {v : Value} {l : List ByteArray} (h : OwnS w base v l) (hs : ∀ b ∈ l, b.size ≤ 64) (hl : l.length ≤ 100) :
    Calls Tryz.prog 25 #[v, .string sepB] w fun e w' => e = .returned (.string (joinB l)) ∧ Below w.heap.size w w' := by
  have hr := h
  rcases h.2 with ⟨rfl, h0⟩ | ⟨g, cap, cur, rfl, hb, hg, hn, hm, hcs, htake⟩
  · obtain rfl : l = [] := List.eq_nil_of_length_eq_zero h0
    exact (Tryz.strings_Join_none none 0 sepB w).mono fun e w' h => ⟨h.1, by rw [h.2]; exact Below.refl _ _⟩
  · have hlen := joinB_len 64 l hs
    refine (Tryz.strings_Join g 0 cap l sepB w ?_ (Array.getElem?_eq_some_iff.1 hg).1 (by omega) hn (by omega)).mono fun e w' h => h
    intro j x hj
    have hj' := (List.getElem?_eq_some_iff.1 hj).1
    obtain ⟨ad, hA, cc⟩ := (hr.rd strs_len rfl).at_ hj'
    obtain rfl := Option.some.inj hA
    have := cc 0 (.string x) (by simp [(List.getElem?_eq_some_iff.1 hj).2])
    have ha : (⟨g, 0, none⟩ : Addr).add j = ⟨g, 0 + j, none⟩ := by unfold Addr.add; split <;> simp_all
    rw [← ha]
    simpa using this
def wordsB (ps : List (Int × Int)) (c : Int) : List ByteArray := ps.map wordB ++ (if c = 0 then [] else [sayB c])
def textB (ps : List (Int × Int)) (c : Int) : ByteArray := joinB (wordsB ps c)
theorem kindB_size (k : Int) : (kindB k).size ≤ 5 := by
  unfold kindB
  repeat' split
  all_goals simp [ByteArray.size]
theorem wordB_size (p : Int × Int) (h : I64 p.2) : (wordB p).size ≤ 27 := by
  have := kindB_size p.1
  have := itoaB_size p.2 h
  have h1 : spaceB.size = 1 := rfl
  unfold wordB
  rw [ByteArray.size_append, ByteArray.size_append, h1]
  omega
theorem sayB_size (c : Int) (h : I64 c) : (sayB c).size ≤ 64 := by
  by_cases hc : 1 ≤ c ∧ c ≤ 20
  · have hcc : c = 1 ∨ c = 2 ∨ c = 3 ∨ c = 4 ∨ c = 5 ∨ c = 6 ∨ c = 7 ∨ c = 8 ∨ c = 9 ∨ c = 10 ∨ c = 11 ∨ c = 12 ∨ c = 13 ∨ c = 14 ∨ c = 15 ∨ c = 16 ∨ c = 17 ∨ c = 18 ∨ c = 19 ∨ c = 20 := by omega
    rcases hcc with rfl | rfl | rfl | rfl | rfl | rfl | rfl | rfl | rfl | rfl | rfl | rfl | rfl | rfl | rfl | rfl | rfl | rfl | rfl | rfl <;> decide
  · have := itoaB_size c h
    have h1 : errorB.size = 6 := rfl
    rw [sayB_out c hc, ByteArray.size_append, h1]
    omega
theorem oper_append_rd {P : Program} {α : Type} {sz : Nat} {enc : α → List Value} {o : Oper} {a : Act} {K : Act → World → Prop} {Q : Exit → Act → World → Prop} {w : World} (s x : Operand) (t : TypeId)
    (ho : o.op = .call { callee := .builtin .append, args := #[s, x], argTypes := #[t, t] }) (e : TypeId) (z : Value) (bytes : Nat) (ht : P.underlying t = some (.slice e))
    (hinfo : (P.info? e).map (fun i => (i.zero, i.size, i.bytes)) = some (some z, sz, bytes)) (hz : z.cells.size = sz) (hsz : 0 < sz) (hb0 : 0 < bytes)
    (hE : ∀ x, (enc x).length = sz) (h1 : ∀ x, ∀ u ∈ enc x, u.oneCell' = true) (base : Nat) (v : Value) (l : List α) (hs : a.eval s = v) (hown : Own e sz enc w base v l)
    (A : Option Addr) (m c : Nat) (k : List α) (hx : a.eval x = .slice A m c) (hr : Rd sz enc w A m k) (hbytes : (l.length + m) * bytes ≤ 140737488355328) (hbase : base ≤ w.heap.size)
    (h : ∀ v' w', Own e sz enc w' base v' (l ++ k) → w.grownBy w' v.ownBlock → (v'.ownBlock = v.ownBlock ∨ v'.ownBlock = some w.heap.size) → K (a.put o.dst v') w') :
    Oper.wp P o a w K Q := by
  obtain ⟨v', w', hrun, h2, h3, h4⟩ := run_append_rd (P := P) w t o.type e z bytes ht hinfo hz hsz hb0 hE h1 base v l hown A m c k hr hbytes hbase
  unfold Oper.wp execOp
  simp only [ho, resolve, invoke, builtin, Sem.run_bind, Sem.run_pure, Result.andThen_ok, List.map_toArray, List.map_cons, List.map_nil, hs, hx, hrun]
  exact h v' w' h2 h3 h4
theorem rd_str (w : World) (x : ByteArray) : Rd 1 strs (w.alloc (.cells #[.string x] 9)) (some ⟨w.heap.size, 0, none⟩) 1 [x] := rd_new strs_len w _ [x]
theorem linkPs_len (ps : List (Int × Int)) : (linkPs ps).length ≤ 64 := by unfold linkPs; rw [List.length_take]; omega
theorem linkPs_mem {ps : List (Int × Int)} (h : ∀ p ∈ ps, I64 p.2) : ∀ p ∈ linkPs ps, I64 p.2 := fun p hp => h p (List.mem_of_mem_take hp)
set_option maxRecDepth 100000 in
set_option maxHeartbeats 2000000 in
theorem Text_any (E : Core) (v : Value) (ps : List (Int × Int)) (W : World) (h : Wrap W E v ps) (hps : ∀ p ∈ ps, I64 p.2) (hE : I64 E.code) (ht : Tab W) :
    Calls Tryz.prog 5 #[v] W fun e w' => e = .returned (.string (textB (linkPs ps) (linkC ps E))) ∧ Below W.heap.size W w' := by
  have hlk := links_any E v ps h
  unfold LinksIs at hlk
  have hpl := linkPs_len ps
  have hpm := linkPs_mem hps
  have hc : I64 (linkC ps E) := by unfold linkC; split; exact hE; exact ⟨by omega, by omega⟩
  generalize linkC ps E = d at *
  generalize linkPs ps = qs at *
  have HLK := Lib.hid hlk
  have HPM := Lib.hid hpm
  have HC := Lib.hid hc
  have HT := Lib.hid ht
  clear hlk hpm hc h hps hE ht
  go_enter Tryz.func5, Tryz.ntmps5
  go_wp2_with fail
  refine HLK.out.mono ?_
  rintro e w2 ⟨p, rfl, ho, hb⟩
  obtain ⟨A, c, rfl, hr, hm⟩ := own_places ho
  have HR := Lib.hid hr
  have HB := Lib.hid hb
  generalize hn : qs.length = n at *
  have HN := Lib.hid hn
  clear hr hb ho hn
  go_wp2_with fail
  go_loopw [5, 15] (fun sv iv wr => ∃ j : Nat, j ≤ n ∧ iv = .int .i64 j ∧ OwnS wr w2.heap.size sv ((qs.take j).map wordB) ∧ Below w2.heap.size w2 wr) (fun _ iv _ => n - (intOf iv).toNat)
  case atStart => exact ⟨0, by omega, rfl, Own.nil _ _ _ _ _, Below.refl _ _⟩
  case round =>
    obtain ⟨j, hj, rfl, ho, hb⟩ := hrel
    have HBR := Lib.hid hb
    have HO := Lib.hid ho
    clear hb ho
    by_cases hlt : j < n
    · have g0 : decide ((j : Int) < (n : Int)) = true := decide_eq_true (by omega)
      obtain ⟨ad, hA, cc⟩ := (HR.out.below HBR.out).at_ hlt
      subst hA
      obtain ⟨c0, c1⟩ := two_places cc
      clear cc
      have hjq : j < qs.length := by have := HN.out; omega
      have htk := List.take_succ_eq_append_getElem hjq
      have hx := HPM.out qs[j] (List.getElem_mem _)
      generalize qs[j] = x at *
      obtain ⟨xk, xa⟩ := x
      dsimp only at c0 c1 hx
      have hz := itoaB_size _ hx
      have hkz := kindB_size xk
      have hk1 : ¬ 9223372036854775807 < (kindB xk).size + 1 := by omega
      have hk2 : ¬ 9223372036854775807 < (kindB xk).size + 1 + (itoaB xa).size := by omega
      have HTK := Lib.hid htk
      have HI := Lib.hid hx
      clear htk hx hjq
      go_wp2_with fail
      have d0 := (cells_new wr #[.int .i64 xk, .int .i64 xa] 37).cell 0
      have d1 := (cells_new wr #[.int .i64 xk, .int .i64 xa] 37).cell 1
      have hb3 := (Below.refl wr.heap.size wr).alloc (Nat.le_refl _) (.cells #[.int .i64 xk, .int .i64 xa] 37)
      generalize wr.alloc (.cells #[.int .i64 xk, .int .i64 xa] 37) = w3 at *
      have e0 : w3.cell? ⟨wr.heap.size, 0, none⟩ = some (.int .i64 xk) := d0
      have e1 : w3.cell? ⟨wr.heap.size, 1, none⟩ = some (.int .i64 xa) := d1
      have HB3 := Lib.hid hb3
      clear d0 d1 hb3 c0 c1
      go_region_held3 (fun w' => w'.cell? ⟨wr.heap.size, 0, none⟩ = some (.int .i64 xk) ∧ w'.cell? ⟨wr.heap.size, 1, none⟩ = some (.int .i64 xa)) (first | exact ⟨e0, e1⟩ | exact ⟨cell_below ((Below.refl _ _).alloc (Nat.le_refl _) _) e0, cell_below ((Below.refl _ _).alloc (Nat.le_refl _) _) e1⟩) (first
        | (go_at_call 22; refine (kind_any _ _).mono ?_; rintro e w5 ⟨rfl, h⟩; obtain rfl := h.symm; clear h)
        | (go_at_call 23; refine (Itoa_any _ HI.out.1 HI.out.2 _ (tab_below HT.out (HB.out.trans ((HBR.out.trans (HB3.out.mono HBR.out.size).drew).mono HB.out.size)))).mono ?_; rintro e w5 ⟨rfl, hb5⟩; have e0 := cell_below hb5 e0; have e1 := cell_below hb5 e1; have HB5 := Lib.hid ((HB3.out.drew).trans (hb5.mono (HB3.out.drew).size)); clear hb5)
        | ((first | rw [if_pos (by rfl)] | skip); refine oper_append_rd (.tmp 19) (.tmp 28) 60 rfl 9 (.string ⟨#[]⟩) 16 Tryz.underlying60 info_string rfl (by omega) (by omega) strs_len strs_one w2.heap.size _ ((qs.take j).map wordB) rfl (HO.out.below (HB5.out.alloc HB5.out.size _)) _ 1 1 [wordB (xk, xa)] rfl (rd_str _ _) (by rw [List.length_map, List.length_take]; omega) (by have := HB5.out.size; have := HBR.out.size; simp; omega) ?_; intro v6 w6 ho6 hg6 hat6; have HO6 := Lib.hid ho6; have HB6 : Hid (Below w2.heap.size w2 w6) := Lib.hid (below_own ((HBR.out.trans ((HB5.out.alloc HB5.out.size _).mono HBR.out.size))) (HO.out.below (HB5.out.alloc HB5.out.size _)) hg6 (Nat.le_refl _) (by have := HB5.out.size; have := HBR.out.size; simp; omega)); have e0 := hg6.cell (cell_below ((Below.refl _ _).alloc (Nat.le_refl _) _) e0) (by intro h; have := (HO.out.block h.symm).2; simp at this); have e1 := hg6.cell (cell_below ((Below.refl _ _).alloc (Nat.le_refl _) _) e1) (by intro h; have := (HO.out.block h.symm).2; simp at this); clear ho6 hg6 hat6))
      all_goals
        go_wp2_with fail
        go_roundw
        case rel => exact ⟨j + 1, by omega, by go_num, by rw [HTK.out, List.map_append]; exact HO6.out, HB6.out⟩
        case measure => simp [intOf]; omega
    · obtain rfl : j = n := by omega
      have g0 : decide ((j : Int) < (j : Int)) = false := decide_eq_false (by omega)
      have htk : qs.take j = qs := List.take_of_length_le (by have := HN.out; omega)
      rw [htk] at HO
      clear htk g0
      by_cases hd : d = 0
      · have HT0 : Hid (textB qs 0 = joinB (qs.map wordB)) := Lib.hid (by unfold textB wordsB; rw [if_pos rfl, List.append_nil])
        have HJ := Lib.hid (Join_own HO.out (fun b hb => by obtain ⟨p, hp, rfl⟩ := List.mem_map.1 hb; have := wordB_size p (HPM.out p hp); omega) (by rw [List.length_map]; have := HN.out; omega))
        subst hd
        go_wp2_with fail
        refine HJ.out.mono ?_
        rintro e w5 ⟨rfl, hb5⟩
        have HB5 := Lib.hid (HB.out.trans ((HBR.out.trans (hb5.mono HBR.out.size)).mono HB.out.size))
        clear hb5
        go_wp2_with fail
        go_ret
        exact ⟨by rw [HT0.out]; rfl, HB5.out⟩
      · have g1 : (d != 0) = true := by simp [bne, hd]
        have HT0 : Hid (textB qs d = joinB (qs.map wordB ++ [sayB d])) := Lib.hid (by unfold textB wordsB; rw [if_neg hd])
        clear hd
        go_wp2_with fail
        refine (Errno_any d _ HC.out (tab_below HT.out (HB.out.trans (HBR.out.mono HB.out.size)))).mono ?_
        rintro e w5 ⟨rfl, hb5⟩
        have HB5 := Lib.hid hb5
        clear hb5
        go_wp2_with (at_builtin; go_loud (refine wpList_append_rd rfl (.tmp 33) (.tmp 36) 60 rfl 9 (.string ⟨#[]⟩) 16 Tryz.underlying60 info_string rfl (by omega) (by omega) strs_len strs_one w2.heap.size _ (qs.map wordB) rfl (HO.out.below (HB5.out.alloc HB5.out.size _)) _ 1 1 [sayB d] rfl (rd_str _ _) (by rw [List.length_map, HN.out]; omega) (by have := HB5.out.size; have := HBR.out.size; simp; omega) ?_; intro v6 w6 ho6 hg6 hat6; have HO6 := Lib.hid ho6; have HB6 : Hid (Below w2.heap.size w2 w6) := Lib.hid (below_own ((HBR.out.trans ((HB5.out.alloc HB5.out.size _).mono HBR.out.size))) (HO.out.below (HB5.out.alloc HB5.out.size _)) hg6 (Nat.le_refl _) (by have := HB5.out.size; have := HBR.out.size; simp; omega)); clear ho6 hg6 hat6))
        refine (Join_own HO6.out (fun b hb => by
          rcases List.mem_append.1 hb with hb | hb
          · obtain ⟨p, hp, rfl⟩ := List.mem_map.1 hb
            have := wordB_size p (HPM.out p hp)
            omega
          · obtain rfl := List.mem_singleton.1 hb
            exact sayB_size d HC.out) (by rw [List.length_append, List.length_map, HN.out]; simp; omega)).mono ?_
        rintro e w7 ⟨rfl, hb7⟩
        have HB7 := Lib.hid (HB.out.trans ((HB6.out.trans (hb7.mono HB6.out.size)).mono HB.out.size))
        clear hb7
        go_wp2_with fail
        go_ret
        exact ⟨by rw [HT0.out]; rfl, HB7.out⟩
section
variable {H : Type} {enc : TypeId × Value → H} {P : Program} {w : World} {base : Nat} {spare : Nat → Bool} {held : Bool}
end
theorem flat_set2 : ∀ (l : List (Int × Int)) (j : Nat) (x : Int × Int), j < l.length → ((l.flatMap places).set (j * 2) (.int .i64 x.1)).set (j * 2 + 1) (.int .i64 x.2) = (l.set j x).flatMap places
  | [], _, _, h => by simp at h
  | y :: r, 0, x, _ => by simp
  | y :: r, j + 1, x, h => by
    have ih := flat_set2 r j x (by simpa using h)
    rw [show (j + 1) * 2 = j * 2 + 1 + 1 by omega]
    simp only [List.flatMap_cons, places, List.set_cons_succ, List.cons_append, List.nil_append]
    rw [ih]
theorem own_some {w : World} {base : Nat} {v : Value} {l : List (Int × Int)} (h : OwnP w base v l) (h0 : 0 < l.length) : ∃ g c, v = .slice (some ⟨g, 0, none⟩) l.length c ∧ base ≤ g ∧ l.length ≤ c ∧ c ≤ maxLen := by
  rcases h.2 with ⟨_, hz⟩ | ⟨g, cap, cur, hv, hb, _, hn, hm, _⟩
  · omega
  · exact ⟨g, cap, hv, hb, hn, hm⟩
def sameB (ps : List (Int × Int)) (E : Core) (qs : List (Int × Int)) (F : Core) : Bool := decide (linkC ps E = linkC qs F ∧ linkPs ps = linkPs qs)
set_option maxRecDepth 100000 in
theorem FSame_any {W : World} (E F : Core) (v u : Value) (ps qs : List (Int × Int)) (hv : Wrap W E v ps) (hu : Wrap W F u qs) :
    Calls Tryz.prog 10 #[v, u] W (BoolBelow (sameB ps E qs F) W) := by
  have HU := Lib.hid hu
  have HL1 := Lib.hid (links_any E v ps hv)
  have HL2 : Hid (∀ w, Below W.heap.size W w → Calls Tryz.prog 21 #[u] w (LinksIs qs F w)) := Lib.hid fun w hb => links_any F u qs (hu.keep hb)
  unfold LinksIs at HL1 HL2
  clear hv hu HU
  unfold sameB
  have l1 := linkPs_len ps
  have l2 := linkPs_len qs
  generalize linkC ps E = c at *
  generalize linkC qs F = d at *
  generalize linkPs ps = xs at *
  generalize linkPs qs = ys at *
  generalize hres : decide (c = d ∧ xs = ys) = r
  have HRES := Lib.hid hres
  clear hres
  go_enter Tryz.func10, Tryz.ntmps10
  go_wp2_with fail
  refine HL1.out.mono ?_
  rintro e w2 ⟨p, rfl, ho, hb⟩
  obtain ⟨Ap, cp, rfl, hr, hm⟩ := own_places ho
  have HP := Lib.hid hr
  have HB := Lib.hid hb
  clear hr hm hb ho
  go_wp2_with fail
  refine (HL2.out w2 HB.out).mono ?_
  rintro e w3 ⟨q, rfl, ho, hb⟩
  obtain ⟨Aq, cq, rfl, hr, hm⟩ := own_places ho
  have HQ := Lib.hid hr
  have HP3 := Lib.hid (HP.out.below hb)
  have HB3 := Lib.hid (HB.out.trans (hb.mono HB.out.size))
  clear hr hm hb ho HP
  generalize hn : xs.length = n at *
  generalize hm : ys.length = m at *
  have HN := Lib.hid hn
  have HM := Lib.hid hm
  clear hn hm
  by_cases hcd : c = d
  · subst hcd
    by_cases hnm : n = m
    · subst hnm
      replace HRES : Hid (decide (xs = ys) = r) := Lib.hid (by rw [← HRES.out]; simp)
      go_wp2_with fail
      go_loopw [32] (fun iv wr => ∃ j : Nat, j ≤ n ∧ iv = .int .i64 j ∧ Below W.heap.size W wr ∧ Below w3.heap.size w3 wr ∧ xs.take j = ys.take j) (fun iv _ => n - (intOf iv).toNat)
      case atStart => exact ⟨0, by omega, rfl, HB3.out, Below.refl _ _, rfl⟩
      case round =>
        obtain ⟨j, hj, rfl, hb, hb3, he⟩ := hrel
        have HB := Lib.hid hb
        have HB4 := Lib.hid hb3
        have HE := Lib.hid he
        clear hb hb3 he
        by_cases hlt : j < n
        · have g0 : decide ((j : Int) < (n : Int)) = true := decide_eq_true (by omega)
          obtain ⟨ad, hA, cc⟩ := (HP3.out.below HB4.out).at_ hlt
          subst hA
          obtain ⟨be, hB, dd⟩ := (HQ.out.below HB4.out).at_ hlt
          subst hB
          have hjp : j < xs.length := by have := HN.out; omega
          have hjq : j < ys.length := by have := HM.out; omega
          obtain ⟨c0, c1⟩ := two_places cc
          obtain ⟨d0, d1⟩ := two_places dd
          clear cc dd
          have htp := List.take_succ_eq_append_getElem hjp
          have htq := List.take_succ_eq_append_getElem hjq
          have hgp : xs[j]? = some xs[j] := List.getElem?_eq_getElem hjp
          have hgq : ys[j]? = some ys[j] := List.getElem?_eq_getElem hjq
          generalize xs[j] = x at *
          generalize ys[j] = y at *
          obtain ⟨xk, xa⟩ := x
          obtain ⟨yk, ya⟩ := y
          dsimp only at c0 c1 d0 d1
          have HTP := Lib.hid htp
          have HTQ := Lib.hid htq
          have HGP := Lib.hid hgp
          have HGQ := Lib.hid hgq
          clear htp htq hgp hgq hjp hjq
          by_cases hx : xk = yk ∧ xa = ya
          · obtain ⟨rfl, rfl⟩ := hx
            go_wp2_with (go_quiet (fail))
            go_roundw
            case rel => exact ⟨j + 1, by omega, by go_num, HB.out.trans ⟨rfl, rfl, rfl, Nat.le_refl _, fun _ _ => rfl⟩, HB4.out.trans ⟨rfl, rfl, rfl, Nat.le_refl _, fun _ _ => rfl⟩, by rw [HTP.out, HTQ.out, HE.out]⟩
            case measure => simp [intOf]; omega
          · have hr : r = false := by
              rw [← HRES.out]
              exact decide_eq_false (fun h => by
                subst h
                have := Option.some.inj (HGP.out.symm.trans HGQ.out)
                simp only [Prod.mk.injEq] at this
                exact hx this)
            subst hr
            clear HRES
            by_cases hk : xk = yk
            · subst hk
              have g2 : (xa == ya) = false := by simpa using fun h => hx ⟨rfl, h⟩
              have g3 : ¬ xa = ya := fun h => hx ⟨rfl, h⟩
              clear hx
              go_wp2_with (go_quiet (fail))
              go_ret
              exact ⟨rfl, HB.out.trans ⟨rfl, rfl, rfl, Nat.le_refl _, fun _ _ => rfl⟩⟩
            · have g2 : (xk == yk) = false := by simpa using hk
              clear hx
              go_wp2_with (go_quiet (fail))
              go_ret
              exact ⟨rfl, HB.out.trans ⟨rfl, rfl, rfl, Nat.le_refl _, fun _ _ => rfl⟩⟩
        · obtain rfl : j = n := by omega
          have hr : r = true := by
            rw [← HRES.out]
            have h1 : xs.take j = xs := List.take_of_length_le (by have := HN.out; omega)
            have h2 : ys.take j = ys := List.take_of_length_le (by have := HM.out; omega)
            have := HE.out
            rw [h1, h2] at this
            exact decide_eq_true this
          subst hr
          clear HRES
          go_wp2_with fail
          go_ret
          exact ⟨rfl, HB.out⟩
    · have hr : r = false := HRES.out.symm.trans (decide_eq_false (fun h => hnm (by rw [← HN.out, ← HM.out, h.2])))
      subst hr
      clear HRES
      have g1 : ((n : Int) != (m : Int)) = true := by simp only [bne, Bool.not_eq_true', beq_eq_false_iff_ne]; omega
      have g2 : (n == m) = false := by simp [hnm]
      clear hnm
      go_wp2_with fail
      go_ret
      exact ⟨rfl, HB3.out⟩
  · have hr : r = false := HRES.out.symm.trans (decide_eq_false (fun h => hcd h.1))
    subst hr
    clear HRES
    have g1 : (c != d) = true := by simp [bne, hcd]
    have g2 : (c == d) = false := by simp [hcd]
    clear hcd
    go_wp2_with fail
    go_ret
    exact ⟨rfl, HB3.out⟩
def wrapI (n : Int) : Int := wrap64 n
def shiftP (k d : Int) (p : Int × Int) : Int × Int := if p.1 = k then (p.1, wrapI (p.2 + d)) else p
def shiftPs (k d : Int) (ps : List (Int × Int)) : List (Int × Int) := ps.map (shiftP k d)
theorem shiftPs_len (k d : Int) (ps : List (Int × Int)) : (shiftPs k d ps).length = ps.length := by simp [shiftPs]
/-- the list under way: what is ahead of place j is moved -/
def halfPs (k d : Int) (ps : List (Int × Int)) (j : Nat) : List (Int × Int) := (ps.take j).map (shiftP k d) ++ ps.drop j
theorem halfPs_len (k d : Int) (ps : List (Int × Int)) (j : Nat) : (halfPs k d ps j).length = ps.length := by
  unfold halfPs
  rw [List.length_append, List.length_map, List.length_take, List.length_drop]
  omega
theorem halfPs_get {k d : Int} {ps : List (Int × Int)} {j : Nat} (h : j < ps.length) : (halfPs k d ps j)[j]? = some ps[j] := by
  unfold halfPs
  rw [List.getElem?_append_right (by rw [List.length_map, List.length_take]; omega), List.length_map, List.length_take, Nat.min_eq_left (by omega), Nat.sub_self, List.getElem?_drop, Nat.add_zero, List.getElem?_eq_getElem h]
theorem halfPs_succ {k d : Int} {ps : List (Int × Int)} {j : Nat} (h : j < ps.length) : halfPs k d ps (j + 1) = (halfPs k d ps j).set j (shiftP k d ps[j]) := by
  unfold halfPs
  rw [List.take_succ_eq_append_getElem h, List.set_append_right _ _ (by rw [List.length_map, List.length_take]; omega), List.length_map, List.length_take, Nat.min_eq_left (by omega), Nat.sub_self, List.drop_eq_getElem_cons h, List.map_append]
  simp only [List.map_cons, List.map_nil, List.set_cons_zero, List.append_assoc, List.cons_append, List.nil_append]
theorem halfPs_all {k d : Int} {ps : List (Int × Int)} {j : Nat} (h : j = ps.length) : halfPs k d ps j = shiftPs k d ps := by
  unfold halfPs shiftPs
  rw [List.take_of_length_le (by omega), List.drop_of_length_le (by omega), List.append_nil]
theorem set_same {l : List (Int × Int)} {j : Nat} {x : Int × Int} (h : l[j]? = some x) : l.set j x = l := by
  obtain ⟨hj, rfl⟩ := List.getElem?_eq_some_iff.1 h
  exact List.set_getElem_self hj
/-- one place's number is stored -/
theorem own_set1 {w : World} {base g cap : Nat} {l : List (Int × Int)} {n : Nat} (h : OwnP w base (.slice (some ⟨g, 0, none⟩) n cap) l) (j : Nat) {x : Int × Int} (hj : l[j]? = some x) (a : Int) :
    OwnP (w.setCell ⟨g, j * 2 + 1, none⟩ (.int .i64 a)) base (.slice (some ⟨g, 0, none⟩) n cap) (l.set j (x.1, a)) := by
  have hn : n = l.length := by
    obtain ⟨A, c, hv, _⟩ := h.form
    injection hv
  subst hn
  obtain ⟨hjl, hx⟩ := List.getElem?_eq_some_iff.1 hj
  have h2 := (World.ownsRow.stored h (j * 2 + 1) (.int .i64 a)).1
  have e := flat_set2 l j (x.1, a) hjl
  have e1 : (l.flatMap places).set (j * 2) (.int .i64 x.1) = l.flatMap places := by
    have hg := flat_get (enc := places) places_len l j 0 (by omega)
    rw [hj, Nat.add_zero] at hg
    obtain ⟨h3, h4⟩ := List.getElem?_eq_some_iff.1 (hg : (l.flatMap places)[j * 2]? = some (.int .i64 x.1))
    rw [← h4]
    exact List.set_getElem_self h3
  dsimp only at e
  rw [e1] at e
  rw [e] at h2
  show World.ownsRow _ _ _ _ _ (l.set j (x.1, a)).length _
  rw [List.length_set]
  exact h2
set_option maxRecDepth 100000 in
theorem FShift_any {W : World} (E : Core) (v : Value) (ps : List (Int × Int)) (k d : Int) (h : Wrap W E v ps) :
    Calls Tryz.prog 11 #[v, .int .i64 k, .int .i64 d] W (MadeW (coreOf (linkC ps E)) (shiftPs k d (linkPs ps)) W) := by
  have HL1 := Lib.hid (links_any E v ps h)
  unfold LinksIs at HL1
  clear h
  have l1 := linkPs_len ps
  generalize linkC ps E = c at *
  generalize linkPs ps = xs at *
  go_enter Tryz.func11, Tryz.ntmps11
  go_wp2_with fail
  refine HL1.out.mono ?_
  rintro e w2 ⟨p, rfl, ho, hb⟩
  obtain ⟨Ap, cp, rfl, hc, hm⟩ := ho.form
  have HO := Lib.hid ho
  have HB := Lib.hid hb
  clear hb ho HL1
  generalize hn : xs.length = n at *
  have HN := Lib.hid hn
  have HC := Lib.hid hc
  simp only [maxLen] at hm
  clear hn hc
  go_wp2_with fail
  go_loopw [17] (fun iv wr => ∃ j : Nat, j ≤ n ∧ iv = .int .i64 j ∧ OwnP wr W.heap.size (.slice Ap n cp) (halfPs k d xs j) ∧ Below W.heap.size W wr) (fun iv _ => n - (intOf iv).toNat)
  case atStart => exact ⟨0, by omega, rfl, by unfold halfPs; simpa using HO.out, HB.out⟩
  case round =>
    obtain ⟨j, hj, rfl, ho2, hb2⟩ := hrel
    have HO2 := Lib.hid ho2
    have HB2 := Lib.hid hb2
    clear ho2 hb2
    by_cases hlt : j < n
    · have hjx : j < xs.length := by have := HN.out; omega
      have hg := halfPs_get (k := k) (d := d) hjx
      have hsu := halfPs_succ (k := k) (d := d) hjx
      have hll : (halfPs k d xs j).length = n := (halfPs_len k d xs j).trans HN.out
      obtain ⟨g, c', hv, hbg, hlc, hcm⟩ := own_some HO2.out (by omega)
      injection hv with h1 h2 h3
      subst h1 h3
      have ho := HO2.out
      rw [← hll] at ho
      have hnc : n ≤ cp := HC.out
      have e0 := (World.ownsRow.cellAt ho (j * 2) (by omega)).trans (flat_get (enc := places) places_len (halfPs k d xs j) j 0 (by omega))
      have e1 := (World.ownsRow.cellAt ho (j * 2 + 1) (by omega)).trans (flat_get (enc := places) places_len (halfPs k d xs j) j 1 (by omega))
      have f1 := World.ownsRow.frozenAt ho (j * 2 + 1)
      rw [hg] at e0 e1
      generalize xs[j] = x at *
      obtain ⟨xk, xa⟩ := x
      replace e0 : wr.cell? ⟨g, j * 2, none⟩ = some (.int .i64 xk) := e0
      replace e1 : wr.cell? ⟨g, j * 2 + 1, none⟩ = some (.int .i64 xa) := e1
      have HG := Lib.hid hg
      have HSU := Lib.hid hsu
      clear hg hsu ho h2 hlc hll hjx hcm
      by_cases hk : xk = k
      · subst hk
        have HS : Hid (shiftP xk d (xk, xa) = (xk, wrapI (xa + d))) := Lib.hid (by unfold shiftP; rw [if_pos rfl])
        go_wp2_with fail
        go_roundw
        case rel => exact ⟨j + 1, by omega, by go_num, by rw [HSU.out, HS.out]; exact own_set1 HO2.out j HG.out (wrap64 (xa + d)), HB2.out.setCell (p := ⟨g, j * 2 + 1, none⟩) hbg _⟩
        case measure => simp [intOf]; omega
      · have HS : Hid (shiftP k d (xk, xa) = (xk, xa)) := Lib.hid (by unfold shiftP; rw [if_neg hk])
        have g1 : (xk == k) = false := by simp [hk]
        clear hk
        go_wp2_with fail
        go_roundw
        case rel => exact ⟨j + 1, by omega, by go_num, by rw [HSU.out, HS.out, set_same HG.out]; exact HO2.out, HB2.out⟩
        case measure => simp [intOf]; omega
    · obtain rfl : j = n := by omega
      have hall := halfPs_all (k := k) (d := d) HN.out.symm
      rw [hall] at HO2
      have hsl : (shiftPs k d xs).length = j := (shiftPs_len k d xs).trans HN.out
      have HR : Hid (RdP wr Ap j (shiftPs k d xs)) := Lib.hid (by have h := HO2.out.rd places_len rfl; exact h)
      clear hall hsl
      go_wp2_with fail
      refine (chain_any Ap j cp (shiftPs k d xs) c wr HR.out (by omega)).mono ?_
      rintro e w3 ⟨v2, rfl, hw, hb3⟩
      have HW := Lib.hid hw
      have HB3 := Lib.hid (HB2.out.trans (hb3.mono HB2.out.size))
      clear hw hb3
      go_wp2_with fail
      go_ret
      exact ⟨_, rfl, HW.out, HB3.out⟩
end Go.Proofs.YtmnnoecjedkdjaaGreatDoor.Ft

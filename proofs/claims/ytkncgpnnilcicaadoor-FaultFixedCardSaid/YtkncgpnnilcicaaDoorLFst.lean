/- FaultFirsts. -/
import Derived.Test.YtkncgpnnilcicaaDoorLAsk
import Derived.OpenShut
import Derived.Lib.SmallJoins
import Derived.Laws.IdiomArrays
set_option linter.unusedSimpArgs false
set_option linter.unusedVariables false
namespace Go.Proofs.YtkncgpnnilcicaaDoor
open Go.RowKit Go.Extern.Stop Go.Stop Go.Extern Go.ChangeShapes Go.WideShapes

/-! ### an array of four bools that came in -/
section
variable {H : Type} {enc : TypeId × Value → H} {W : World} {base : Nat} {spare : Nat → Bool} {held : Bool}
theorem arr4 {α : Type} {cs : Array α} (h : cs.size = 4) : ∃ c0 c1 c2 c3, cs = #[c0, c1, c2, c3] := by
  obtain ⟨l⟩ := cs
  match l, h with
  | [c0, c1, c2, c3], _ => exact ⟨c0, c1, c2, c3, rfl⟩
theorem trod_bool1 {n : Nat} {v : Value} {y : DataW H × List MemPlace} (h : DataW.trod enc Tryd.prog W base spare held n 4 [v] = some y) : ∃ b, v = .bool b ∧ y = (.lit (.bool b), []) := by
  obtain ⟨b, h1, h2⟩ := DataW.trod_bool Tryd.underlying4 h
  injection h1 with h1
  exact ⟨b, h1, h2⟩
set_option maxRecDepth 10000 in
theorem open_bools4 {r : Reach} {b0 : Nat} {v : Value} {d : DataW H} {p : List MemPlace} (hv : Value.okWide Tryd.prog W r b0 49 v) (h : DataW.Trod enc Tryd.prog W base spare held 49 v d p) :
    ∃ x0 x1 x2 x3 : Bool, v = .agg #[.bool x0, .bool x1, .bool x2, .bool x3] ∧ d = .agg [.lit (.bool x0), .lit (.bool x1), .lit (.bool x2), .lit (.bool x3)] ∧ p = [] := by
  simp only [Value.okWide, Tryd.underlying49] at hv
  obtain ⟨cs, rfl, hsz, _⟩ := hv
  obtain ⟨c0, c1, c2, c3, rfl⟩ := arr4 (hsz.trans (show Tryd.prog.cellsOf 49 = 4 by kernel_rfl))
  obtain ⟨fuel, hf⟩ := h
  obtain ⟨y0, y1, y2, y3, n, hx, h0, h1, h2, h3⟩ := trod_array4 Tryd.underlying49 (by kernel_rfl) (by simpa [Value.cells] using hf)
  obtain ⟨x0, rfl, rfl⟩ := trod_bool1 h0
  obtain ⟨x1, rfl, rfl⟩ := trod_bool1 h1
  obtain ⟨x2, rfl, rfl⟩ := trod_bool1 h2
  obtain ⟨x3, rfl, rfl⟩ := trod_bool1 h3
  simp only [Prod.mk.injEq] at hx
  exact ⟨x0, x1, x2, x3, rfl, hx.1, by simpa using hx.2⟩
theorem shut_bools4 (x0 x1 x2 x3 : Bool) : DataW.Trod enc Tryd.prog W base spare held 49 (.agg #[.bool x0, .bool x1, .bool x2, .bool x3]) (.agg [.lit (.bool x0), .lit (.bool x1), .lit (.bool x2), .lit (.bool x3)]) [] := ⟨2, by kernel_rfl⟩
end
/-! ### First -/
abbrev ones (v : Value) : List Value := [v]
theorem ones_len : ∀ x, (ones x).length = 1 := fun _ => rfl
def isErr : Value → Bool
  | .iface _ _ => true
  | _ => false
def firstOf : List Value → Value
  | [] => .nilIface
  | v :: r => if isErr v then v else firstOf r
def AllErr (l : List Value) : Prop := ∀ v ∈ l, v = .nilIface ∨ ∃ u x, v = .iface u x
def okErr : Value → Bool
  | .nilIface => true
  | .iface _ _ => true
  | _ => false
theorem all_err_of {l : List Value} (h : l.all okErr = true) : AllErr l := fun v hv => by
  have h1 := List.all_eq_true.1 h v hv
  cases v with
  | nilIface => exact .inl rfl
  | iface u x => exact .inr ⟨u, x, rfl⟩
  | _ => simp [okErr] at h1
theorem First_any (A : Option Addr) (n cap : Nat) (l : List Value) (W : World) (hp : Rd 1 ones W A n l) (ha : AllErr l) (hn : n ≤ 100) :
    Calls Tryd.prog 22 #[.slice A n cap] W fun e w' => e = .returned (firstOf l) ∧ w' = W := by
  have HP := Lib.hid hp
  have HA := Lib.hid ha
  clear hp ha
  generalize hres : firstOf l = r
  have HR := Lib.hid hres
  clear hres
  go_enter Tryd.func22, Tryd.ntmps22
  go_wp2_with fail
  go_loop [7] (fun kv => ∃ k : Nat, k ≤ n ∧ kv = .int .i64 k ∧ firstOf (l.drop k) = r) (fun kv => n - (intOf kv).toNat)
  case atStart => exact ⟨0, by omega, rfl, HR.out⟩
  case round =>
    obtain ⟨k, hk, rfl, hf⟩ := hrel
    have HF := Lib.hid hf
    clear hf
    by_cases hlt : k < n
    · have g0 : decide ((k : Int) < (n : Int)) = true := decide_eq_true (by omega)
      obtain ⟨ad, hA, cc⟩ := HP.out.at_ hlt
      subst hA
      have hkl : k < l.length := by have := HP.out.1; omega
      have hd := List.drop_eq_getElem_cons hkl
      have hv := HA.out l[k] (List.getElem_mem _)
      have c0 := cc 0 _ rfl
      rw [Nat.mul_one, Nat.add_zero] at c0
      generalize l[k] = v at *
      have HD := Lib.hid hd
      clear hd cc hkl
      rcases hv with rfl | ⟨u, x, rfl⟩
      · go_wp2_with fail
        go_round
        case rel => exact ⟨k + 1, by omega, by go_num, by have h := HF.out; rw [HD.out] at h; exact h⟩
        case measure => simp [intOf]; omega
      · go_wp2_with fail
        go_ret
        exact ⟨by have h := HF.out; rw [HD.out] at h; rw [← h]; rfl, rfl⟩
    · obtain rfl : k = n := by omega
      have HE : Hid (r = .nilIface) := Lib.hid (by have h := HF.out; rw [List.drop_of_length_le (by have := HP.out.1; omega)] at h; exact h.symm)
      go_wp2_with fail
      go_ret
      exact ⟨by rw [HE.out]; rfl, rfl⟩
/-! ### the law -/
def errAt (b : Bool) (i : Nat) : Value := if b then .iface 24 (.int .i64 (i : Int)) else .nilIface
/-- the number of the first one below n, of the first k -/
def firstN (bs : List Bool) (n : Int) : Nat → Nat
  | 0 => 0
  | k + 1 => if bs.getD k false && firstN bs n k == 0 && decide ((k : Int) < n) then k + 1 else firstN bs n k
def allOf (bs : List Bool) (k : Nat) (vs : List Value) : Prop := vs.length = 4 ∧ ∀ i, i < 4 → vs[i]? = some (errAt (bs.getD i false && decide (i < k)) (i + 1))
theorem allOf_zero (bs : List Bool) : allOf bs 0 [.nilIface, .nilIface, .nilIface, .nilIface] := by
  refine ⟨rfl, fun i hi => ?_⟩
  have : i = 0 ∨ i = 1 ∨ i = 2 ∨ i = 3 := by omega
  rcases this with rfl | rfl | rfl | rfl <;> simp [errAt]
theorem allOf_step {bs : List Bool} {k : Nat} {vs : List Value} (h : allOf bs k vs) (hk : k < 4) (hb : bs.getD k false = true) : allOf bs (k + 1) (vs.set k (.iface 24 (.int .i64 ((k : Int) + 1)))) := by
  refine ⟨by rw [List.length_set]; exact h.1, fun i hi => ?_⟩
  by_cases e : i = k
  · subst e
    rw [List.getElem?_set_self (by rw [h.1]; exact hk), hb]
    simp [errAt]
  · rw [List.getElem?_set_ne (fun x => e x.symm), h.2 i hi]
    congr 3
    rw [decide_eq_decide]
    omega
theorem allOf_skip {bs : List Bool} {k : Nat} {vs : List Value} (h : allOf bs k vs) (hb : bs.getD k false = false) : allOf bs (k + 1) vs := by
  refine ⟨h.1, fun i hi => ?_⟩
  by_cases e : i = k
  · subst e
    rw [h.2 i hi, hb]
    simp
  · rw [h.2 i hi]
    congr 3
    rw [decide_eq_decide]
    omega
theorem firstN_neg (bs : List Bool) (n : Int) (h : n ≤ 0) : ∀ k, firstN bs n k = 0
  | 0 => rfl
  | k + 1 => by
    rw [firstN, decide_eq_false (show ¬ (k : Int) < n by omega), Bool.and_false, if_neg (by simp)]
    exact firstN_neg bs n h k
theorem firstN_four (bs : List Bool) (n : Int) (h : 4 ≤ n) : ∀ k, k ≤ 4 → firstN bs n k = firstN bs 4 k
  | 0, _ => rfl
  | k + 1, hk => by
    rw [firstN, firstN, firstN_four bs n h k (by omega), decide_eq_true (show (k : Int) < n by omega), decide_eq_true (show (k : Int) < 4 by omega)]
theorem firstN_big (bs : List Bool) (n : Int) (m : Nat) (h : 4 ≤ n) (e : firstN bs 4 4 = m := by rfl) : firstN bs n 4 = m := (firstN_four bs n h 4 (by omega)).trans e
theorem all_err4 {a b c d : Bool} {i j k l : Nat} : AllErr [errAt a i, errAt b j, errAt c k, errAt d l] := by
  intro v hv
  simp at hv
  rcases hv with rfl | rfl | rfl | rfl <;> (unfold errAt; split; exact .inr ⟨_, _, rfl⟩; exact .inl rfl)
theorem rd_ones (w : World) (l : List Value) (h : ∀ v ∈ l, v.oneCell' = true) : Rd 1 ones (w.alloc (.cells l.toArray 27)) (some ⟨w.heap.size, 0, none⟩) l.length l := by
  have e : l.flatMap ones = l := by simp [ones]
  have := rd_new (enc := ones) ones_len w 27 l
  rwa [e] at this
set_option maxRecDepth 100000 in
set_option maxHeartbeats 2000000 in
theorem FaultFirsts_walk (x0 x1 x2 x3 : Bool) (a1 : Int) (W : World) (w1 : (Lit.int .i64 a1).wf = true) (hg : ErrT W) (ht : Tab W) :
    Calls Tryd.prog 6 #[.agg #[.bool x0, .bool x1, .bool x2, .bool x3], .int .i64 a1] W fun e w' => e = .returned (.bool true) ∧ Below W.heap.size W w' := by
  have HG := Lib.hid hg
  have HT := Lib.hid ht
  clear hg ht w1
  obtain ⟨bs, hbs⟩ : ∃ bs, bs = [x0, x1, x2, x3] := ⟨_, rfl⟩
  have HBS := Lib.hid hbs
  clear hbs
  go_enter Tryd.func6, Tryd.ntmps6
  go_wp2_with fail
  generalize hW1 : W.alloc (.cells #[.bool x0, .bool x1, .bool x2, .bool x3] 49) = w1
  have hb1 : Below W.heap.size W w1 := by rw [← hW1]; exact (Below.refl _ _).alloc (Nat.le_refl _) _
  have hc1 : Cells w1 W.heap.size #[.bool x0, .bool x1, .bool x2, .bool x3] 49 := by rw [← hW1]; exact cells_new _ _ _
  have HB1 := Lib.hid hb1
  have HC1 := Lib.hid hc1
  clear hb1 hc1 hW1
  refine (awake_any (HG.out.below HB1.out) (tab_below HT.out HB1.out)).mono ?_
  rintro e w2 ⟨rfl, hb⟩
  have HB2 := Lib.hid (HB1.out.trans (hb.mono HB1.out.size))
  have HC2 := Lib.hid (HC1.out.below hb)
  clear hb
  go_wp2_with fail
  generalize hW3 : w2.alloc (.cells #[.nilIface, .nilIface, .nilIface, .nilIface] 50) = w3
  have hb3 : Below w2.heap.size w2 w3 := by rw [← hW3]; exact (Below.refl _ _).alloc (Nat.le_refl _) _
  have hc3 : Cells w3 w2.heap.size ([.nilIface, .nilIface, .nilIface, .nilIface] : List Value).toArray 50 := by rw [← hW3]; exact cells_new _ _ _
  have HB3 := Lib.hid (HB2.out.trans (hb3.mono HB2.out.size))
  have HC3 := Lib.hid hc3
  have HH3 := Lib.hid (HC2.out.below hb3)
  have hlt2 : W.heap.size < w2.heap.size := HC2.out.lt
  clear hb3 hc3 hW3
  go_loopw [6, 11] (fun fv iv wr => ∃ (k : Nat) (vs : List Value), k ≤ 4 ∧ iv = .int .i64 k ∧ fv = .int .i64 (firstN bs a1 k) ∧ allOf bs k vs ∧ Cells wr W.heap.size #[.bool x0, .bool x1, .bool x2, .bool x3] 49 ∧ Cells wr w2.heap.size vs.toArray 50 ∧ Below W.heap.size W wr) (fun _ iv _ => 4 - (intOf iv).toNat)
  case atStart => exact ⟨0, _, by omega, rfl, rfl, allOf_zero bs, HH3.out, HC3.out, HB3.out⟩
  case round =>
    obtain ⟨k, vs, hk, rfl, rfl, hal, hch, hca, hb⟩ := hrel
    have HAL := Lib.hid hal
    have HCH := Lib.hid hch
    have HCA := Lib.hid hca
    have HB := Lib.hid hb
    clear hal hch hca hb
    by_cases hlt : k < 4
    · have g0 : decide ((k : Int) < 4) = true := decide_eq_true (by omega)
      have hbk : wr.cell? ⟨W.heap.size, k, none⟩ = some (.bool (bs.getD k false)) := by
        rw [HCH.out.cell k, HBS.out]
        have : k = 0 ∨ k = 1 ∨ k = 2 ∨ k = 3 := by omega
        rcases this with rfl | rfl | rfl | rfl <;> rfl
      have hvk := HCA.out.cell k
      rw [List.getElem?_toArray, HAL.out.2 k hlt] at hvk
      have hfk := HCA.out.frozen k
      have hstep : firstN bs a1 (k + 1) = if bs.getD k false && firstN bs a1 k == 0 && decide ((k : Int) < a1) then k + 1 else firstN bs a1 k := rfl
      generalize hb : bs.getD k false = b at *
      generalize hf : firstN bs a1 k = f at *
      have HSTEP := Lib.hid hstep
      have HBK := Lib.hid hb
      have HFK := Lib.hid hf
      clear hstep hb hf
      cases b with
      | false =>
        go_wp2_with fail
        go_roundw
        case rel => exact ⟨k + 1, vs, by omega, by go_num, by rw [HSTEP.out]; rfl, allOf_skip HAL.out HBK.out, HCH.out, HCA.out, HB.out⟩
        case measure => simp [intOf]; omega
      | true =>
        by_cases hf0 : f = 0
        · subst hf0
          by_cases hka : (k : Int) < a1
          · have HV : Hid (firstN bs a1 (k + 1) = k + 1) := Lib.hid (by rw [HSTEP.out]; simp [hka])
            have g1 : decide ((k : Int) < a1) = true := decide_eq_true hka
            go_wp2_with fail
            go_roundw
            case rel => exact ⟨k + 1, _, by omega, by go_num, by rw [HV.out]; go_num, allOf_step HAL.out hlt HBK.out, HCH.out.far _ _ (by omega), by have h := HCA.out.set_ k (.iface 24 (.int .i64 ((k : Int) + 1))); rwa [List.setIfInBounds_toArray] at h, HB.out.setCell (p := ⟨w2.heap.size, k, none⟩) (by simp; omega) _⟩
            case measure => simp [intOf]; omega
          · have HV : Hid (firstN bs a1 (k + 1) = 0) := Lib.hid (by rw [HSTEP.out]; simp [hka])
            have g1 : decide ((k : Int) < a1) = false := decide_eq_false hka
            go_wp2_with fail
            go_roundw
            case rel => exact ⟨k + 1, _, by omega, by go_num, by rw [HV.out], allOf_step HAL.out hlt HBK.out, HCH.out.far _ _ (by omega), by have h := HCA.out.set_ k (.iface 24 (.int .i64 ((k : Int) + 1))); rwa [List.setIfInBounds_toArray] at h, HB.out.setCell (p := ⟨w2.heap.size, k, none⟩) (by simp; omega) _⟩
            case measure => simp [intOf]; omega
        · have HV : Hid (firstN bs a1 (k + 1) = f) := Lib.hid (by rw [HSTEP.out]; simp [hf0])
          have g1 : (f == 0) = false := by simp [hf0]
          have g2 : ((f : Int) == 0) = false := by simp; omega
          go_wp2_with fail
          go_roundw
          case rel => exact ⟨k + 1, _, by omega, by go_num, by rw [HV.out], allOf_step HAL.out hlt HBK.out, HCH.out.far _ _ (by omega), by have h := HCA.out.set_ k (.iface 24 (.int .i64 ((k : Int) + 1))); rwa [List.setIfInBounds_toArray] at h, HB.out.setCell (p := ⟨w2.heap.size, k, none⟩) (by simp; omega) _⟩
          case measure => simp [intOf]; omega
    · obtain rfl : k = 4 := by omega
      have e0 : wr.cell? ⟨w2.heap.size, 0, none⟩ = some (errAt x0 1) := by rw [HCA.out.cell 0, List.getElem?_toArray, HAL.out.2 0 (by omega), HBS.out]; simp
      have e1 : wr.cell? ⟨w2.heap.size, 1, none⟩ = some (errAt x1 2) := by rw [HCA.out.cell 1, List.getElem?_toArray, HAL.out.2 1 (by omega), HBS.out]; simp
      have e2 : wr.cell? ⟨w2.heap.size, 2, none⟩ = some (errAt x2 3) := by rw [HCA.out.cell 2, List.getElem?_toArray, HAL.out.2 2 (by omega), HBS.out]; simp
      have e3 : wr.cell? ⟨w2.heap.size, 3, none⟩ = some (errAt x3 4) := by rw [HCA.out.cell 3, List.getElem?_toArray, HAL.out.2 3 (by omega), HBS.out]; simp
      generalize hF : firstN bs a1 4 = F at *
      have HF := Lib.hid hF
      have eN := eqNN
      clear hF HAL HCA HCH
      by_cases hn0 : a1 ≤ 0
      · have g1 : decide (a1 ≤ 0) = true := decide_eq_true hn0
        replace HF : Hid (F = 0) := Lib.hid (by rw [← HF.out]; exact firstN_neg _ _ hn0 4)
        obtain rfl := HF.out
        go_wp2_with fail
        refine (First_any none 0 0 [] _ Rd.nil (by intro v hv; cases hv) (by omega)).mono ?_
        rintro e w4 ⟨rfl, h⟩
        obtain rfl := h.symm
        clear h
        rw [show firstOf ([] : List Value) = .nilIface from rfl]
        go_wp2_with fail
        go_ret
        exact ⟨rfl, HB.out⟩
      by_cases hn1 : a1 = 1
      · subst hn1
        cases x0 with
        | false =>
          replace HF : Hid (F = 0) := Lib.hid (by rw [← HF.out, HBS.out]; simp [firstN])
          replace e0 : wr.cell? ⟨w2.heap.size, 0, none⟩ = some (.nilIface) := e0
          obtain rfl := HF.out
          go_wp2_with fail
          refine (First_any (some ⟨wr.heap.size, 0, none⟩) 1 1 [.nilIface] _ (rd_ones wr [.nilIface] (by decide)) (all_err_of rfl) (by omega)).mono ?_
          rintro e w4 ⟨rfl, h⟩
          obtain rfl := h.symm
          clear h
          rw [show firstOf ([.nilIface] : List Value) = .nilIface from rfl]
          go_wp2_with fail
          go_ret
          exact ⟨rfl, HB.out.alloc HB.out.size _⟩
        | true =>
          replace HF : Hid (F = 1) := Lib.hid (by rw [← HF.out, HBS.out]; simp [firstN])
          replace e0 : wr.cell? ⟨w2.heap.size, 0, none⟩ = some (.iface 24 (.int .i64 1)) := e0
          obtain rfl := HF.out
          go_wp2_with fail
          refine (First_any (some ⟨wr.heap.size, 0, none⟩) 1 1 [.iface 24 (.int .i64 1)] _ (rd_ones wr [.iface 24 (.int .i64 1)] (by decide)) (all_err_of rfl) (by omega)).mono ?_
          rintro e w4 ⟨rfl, h⟩
          obtain rfl := h.symm
          clear h
          rw [show firstOf ([.iface 24 (.int .i64 1)] : List Value) = .iface 24 (.int .i64 1) from rfl]
          go_wp2_with fail
          go_ret
          exact ⟨rfl, HB.out.alloc HB.out.size _⟩
      by_cases hn2 : a1 = 2
      · subst hn2
        cases x0 with
        | false =>
          cases x1 with
          | false =>
            replace HF : Hid (F = 0) := Lib.hid (by rw [← HF.out, HBS.out]; simp [firstN])
            replace e0 : wr.cell? ⟨w2.heap.size, 0, none⟩ = some (.nilIface) := e0
            replace e1 : wr.cell? ⟨w2.heap.size, 1, none⟩ = some (.nilIface) := e1
            obtain rfl := HF.out
            go_wp2_with fail
            refine (First_any (some ⟨wr.heap.size, 0, none⟩) 2 2 [.nilIface, .nilIface] _ (rd_ones wr [.nilIface, .nilIface] (by decide)) (all_err_of rfl) (by omega)).mono ?_
            rintro e w4 ⟨rfl, h⟩
            obtain rfl := h.symm
            clear h
            rw [show firstOf ([.nilIface, .nilIface] : List Value) = .nilIface from rfl]
            go_wp2_with fail
            go_ret
            exact ⟨rfl, HB.out.alloc HB.out.size _⟩
          | true =>
            replace HF : Hid (F = 2) := Lib.hid (by rw [← HF.out, HBS.out]; simp [firstN])
            replace e0 : wr.cell? ⟨w2.heap.size, 0, none⟩ = some (.nilIface) := e0
            replace e1 : wr.cell? ⟨w2.heap.size, 1, none⟩ = some (.iface 24 (.int .i64 2)) := e1
            obtain rfl := HF.out
            go_wp2_with fail
            refine (First_any (some ⟨wr.heap.size, 0, none⟩) 2 2 [.nilIface, .iface 24 (.int .i64 2)] _ (rd_ones wr [.nilIface, .iface 24 (.int .i64 2)] (by decide)) (all_err_of rfl) (by omega)).mono ?_
            rintro e w4 ⟨rfl, h⟩
            obtain rfl := h.symm
            clear h
            rw [show firstOf ([.nilIface, .iface 24 (.int .i64 2)] : List Value) = .iface 24 (.int .i64 2) from rfl]
            go_wp2_with fail
            go_ret
            exact ⟨rfl, HB.out.alloc HB.out.size _⟩
        | true =>
          cases x1 with
          | false =>
            replace HF : Hid (F = 1) := Lib.hid (by rw [← HF.out, HBS.out]; simp [firstN])
            replace e0 : wr.cell? ⟨w2.heap.size, 0, none⟩ = some (.iface 24 (.int .i64 1)) := e0
            replace e1 : wr.cell? ⟨w2.heap.size, 1, none⟩ = some (.nilIface) := e1
            obtain rfl := HF.out
            go_wp2_with fail
            refine (First_any (some ⟨wr.heap.size, 0, none⟩) 2 2 [.iface 24 (.int .i64 1), .nilIface] _ (rd_ones wr [.iface 24 (.int .i64 1), .nilIface] (by decide)) (all_err_of rfl) (by omega)).mono ?_
            rintro e w4 ⟨rfl, h⟩
            obtain rfl := h.symm
            clear h
            rw [show firstOf ([.iface 24 (.int .i64 1), .nilIface] : List Value) = .iface 24 (.int .i64 1) from rfl]
            go_wp2_with fail
            go_ret
            exact ⟨rfl, HB.out.alloc HB.out.size _⟩
          | true =>
            replace HF : Hid (F = 1) := Lib.hid (by rw [← HF.out, HBS.out]; simp [firstN])
            replace e0 : wr.cell? ⟨w2.heap.size, 0, none⟩ = some (.iface 24 (.int .i64 1)) := e0
            replace e1 : wr.cell? ⟨w2.heap.size, 1, none⟩ = some (.iface 24 (.int .i64 2)) := e1
            obtain rfl := HF.out
            go_wp2_with fail
            refine (First_any (some ⟨wr.heap.size, 0, none⟩) 2 2 [.iface 24 (.int .i64 1), .iface 24 (.int .i64 2)] _ (rd_ones wr [.iface 24 (.int .i64 1), .iface 24 (.int .i64 2)] (by decide)) (all_err_of rfl) (by omega)).mono ?_
            rintro e w4 ⟨rfl, h⟩
            obtain rfl := h.symm
            clear h
            rw [show firstOf ([.iface 24 (.int .i64 1), .iface 24 (.int .i64 2)] : List Value) = .iface 24 (.int .i64 1) from rfl]
            go_wp2_with fail
            go_ret
            exact ⟨rfl, HB.out.alloc HB.out.size _⟩
      by_cases hn3 : a1 = 3
      · subst hn3
        cases x0 with
        | false =>
          cases x1 with
          | false =>
            cases x2 with
            | false =>
              replace HF : Hid (F = 0) := Lib.hid (by rw [← HF.out, HBS.out]; simp [firstN])
              replace e0 : wr.cell? ⟨w2.heap.size, 0, none⟩ = some (.nilIface) := e0
              replace e1 : wr.cell? ⟨w2.heap.size, 1, none⟩ = some (.nilIface) := e1
              replace e2 : wr.cell? ⟨w2.heap.size, 2, none⟩ = some (.nilIface) := e2
              obtain rfl := HF.out
              go_wp2_with fail
              refine (First_any (some ⟨wr.heap.size, 0, none⟩) 3 3 [.nilIface, .nilIface, .nilIface] _ (rd_ones wr [.nilIface, .nilIface, .nilIface] (by decide)) (all_err_of rfl) (by omega)).mono ?_
              rintro e w4 ⟨rfl, h⟩
              obtain rfl := h.symm
              clear h
              rw [show firstOf ([.nilIface, .nilIface, .nilIface] : List Value) = .nilIface from rfl]
              go_wp2_with fail
              go_ret
              exact ⟨rfl, HB.out.alloc HB.out.size _⟩
            | true =>
              replace HF : Hid (F = 3) := Lib.hid (by rw [← HF.out, HBS.out]; simp [firstN])
              replace e0 : wr.cell? ⟨w2.heap.size, 0, none⟩ = some (.nilIface) := e0
              replace e1 : wr.cell? ⟨w2.heap.size, 1, none⟩ = some (.nilIface) := e1
              replace e2 : wr.cell? ⟨w2.heap.size, 2, none⟩ = some (.iface 24 (.int .i64 3)) := e2
              obtain rfl := HF.out
              go_wp2_with fail
              refine (First_any (some ⟨wr.heap.size, 0, none⟩) 3 3 [.nilIface, .nilIface, .iface 24 (.int .i64 3)] _ (rd_ones wr [.nilIface, .nilIface, .iface 24 (.int .i64 3)] (by decide)) (all_err_of rfl) (by omega)).mono ?_
              rintro e w4 ⟨rfl, h⟩
              obtain rfl := h.symm
              clear h
              rw [show firstOf ([.nilIface, .nilIface, .iface 24 (.int .i64 3)] : List Value) = .iface 24 (.int .i64 3) from rfl]
              go_wp2_with fail
              go_ret
              exact ⟨rfl, HB.out.alloc HB.out.size _⟩
          | true =>
            cases x2 with
            | false =>
              replace HF : Hid (F = 2) := Lib.hid (by rw [← HF.out, HBS.out]; simp [firstN])
              replace e0 : wr.cell? ⟨w2.heap.size, 0, none⟩ = some (.nilIface) := e0
              replace e1 : wr.cell? ⟨w2.heap.size, 1, none⟩ = some (.iface 24 (.int .i64 2)) := e1
              replace e2 : wr.cell? ⟨w2.heap.size, 2, none⟩ = some (.nilIface) := e2
              obtain rfl := HF.out
              go_wp2_with fail
              refine (First_any (some ⟨wr.heap.size, 0, none⟩) 3 3 [.nilIface, .iface 24 (.int .i64 2), .nilIface] _ (rd_ones wr [.nilIface, .iface 24 (.int .i64 2), .nilIface] (by decide)) (all_err_of rfl) (by omega)).mono ?_
              rintro e w4 ⟨rfl, h⟩
              obtain rfl := h.symm
              clear h
              rw [show firstOf ([.nilIface, .iface 24 (.int .i64 2), .nilIface] : List Value) = .iface 24 (.int .i64 2) from rfl]
              go_wp2_with fail
              go_ret
              exact ⟨rfl, HB.out.alloc HB.out.size _⟩
            | true =>
              replace HF : Hid (F = 2) := Lib.hid (by rw [← HF.out, HBS.out]; simp [firstN])
              replace e0 : wr.cell? ⟨w2.heap.size, 0, none⟩ = some (.nilIface) := e0
              replace e1 : wr.cell? ⟨w2.heap.size, 1, none⟩ = some (.iface 24 (.int .i64 2)) := e1
              replace e2 : wr.cell? ⟨w2.heap.size, 2, none⟩ = some (.iface 24 (.int .i64 3)) := e2
              obtain rfl := HF.out
              go_wp2_with fail
              refine (First_any (some ⟨wr.heap.size, 0, none⟩) 3 3 [.nilIface, .iface 24 (.int .i64 2), .iface 24 (.int .i64 3)] _ (rd_ones wr [.nilIface, .iface 24 (.int .i64 2), .iface 24 (.int .i64 3)] (by decide)) (all_err_of rfl) (by omega)).mono ?_
              rintro e w4 ⟨rfl, h⟩
              obtain rfl := h.symm
              clear h
              rw [show firstOf ([.nilIface, .iface 24 (.int .i64 2), .iface 24 (.int .i64 3)] : List Value) = .iface 24 (.int .i64 2) from rfl]
              go_wp2_with fail
              go_ret
              exact ⟨rfl, HB.out.alloc HB.out.size _⟩
        | true =>
          cases x1 with
          | false =>
            cases x2 with
            | false =>
              replace HF : Hid (F = 1) := Lib.hid (by rw [← HF.out, HBS.out]; simp [firstN])
              replace e0 : wr.cell? ⟨w2.heap.size, 0, none⟩ = some (.iface 24 (.int .i64 1)) := e0
              replace e1 : wr.cell? ⟨w2.heap.size, 1, none⟩ = some (.nilIface) := e1
              replace e2 : wr.cell? ⟨w2.heap.size, 2, none⟩ = some (.nilIface) := e2
              obtain rfl := HF.out
              go_wp2_with fail
              refine (First_any (some ⟨wr.heap.size, 0, none⟩) 3 3 [.iface 24 (.int .i64 1), .nilIface, .nilIface] _ (rd_ones wr [.iface 24 (.int .i64 1), .nilIface, .nilIface] (by decide)) (all_err_of rfl) (by omega)).mono ?_
              rintro e w4 ⟨rfl, h⟩
              obtain rfl := h.symm
              clear h
              rw [show firstOf ([.iface 24 (.int .i64 1), .nilIface, .nilIface] : List Value) = .iface 24 (.int .i64 1) from rfl]
              go_wp2_with fail
              go_ret
              exact ⟨rfl, HB.out.alloc HB.out.size _⟩
            | true =>
              replace HF : Hid (F = 1) := Lib.hid (by rw [← HF.out, HBS.out]; simp [firstN])
              replace e0 : wr.cell? ⟨w2.heap.size, 0, none⟩ = some (.iface 24 (.int .i64 1)) := e0
              replace e1 : wr.cell? ⟨w2.heap.size, 1, none⟩ = some (.nilIface) := e1
              replace e2 : wr.cell? ⟨w2.heap.size, 2, none⟩ = some (.iface 24 (.int .i64 3)) := e2
              obtain rfl := HF.out
              go_wp2_with fail
              refine (First_any (some ⟨wr.heap.size, 0, none⟩) 3 3 [.iface 24 (.int .i64 1), .nilIface, .iface 24 (.int .i64 3)] _ (rd_ones wr [.iface 24 (.int .i64 1), .nilIface, .iface 24 (.int .i64 3)] (by decide)) (all_err_of rfl) (by omega)).mono ?_
              rintro e w4 ⟨rfl, h⟩
              obtain rfl := h.symm
              clear h
              rw [show firstOf ([.iface 24 (.int .i64 1), .nilIface, .iface 24 (.int .i64 3)] : List Value) = .iface 24 (.int .i64 1) from rfl]
              go_wp2_with fail
              go_ret
              exact ⟨rfl, HB.out.alloc HB.out.size _⟩
          | true =>
            cases x2 with
            | false =>
              replace HF : Hid (F = 1) := Lib.hid (by rw [← HF.out, HBS.out]; simp [firstN])
              replace e0 : wr.cell? ⟨w2.heap.size, 0, none⟩ = some (.iface 24 (.int .i64 1)) := e0
              replace e1 : wr.cell? ⟨w2.heap.size, 1, none⟩ = some (.iface 24 (.int .i64 2)) := e1
              replace e2 : wr.cell? ⟨w2.heap.size, 2, none⟩ = some (.nilIface) := e2
              obtain rfl := HF.out
              go_wp2_with fail
              refine (First_any (some ⟨wr.heap.size, 0, none⟩) 3 3 [.iface 24 (.int .i64 1), .iface 24 (.int .i64 2), .nilIface] _ (rd_ones wr [.iface 24 (.int .i64 1), .iface 24 (.int .i64 2), .nilIface] (by decide)) (all_err_of rfl) (by omega)).mono ?_
              rintro e w4 ⟨rfl, h⟩
              obtain rfl := h.symm
              clear h
              rw [show firstOf ([.iface 24 (.int .i64 1), .iface 24 (.int .i64 2), .nilIface] : List Value) = .iface 24 (.int .i64 1) from rfl]
              go_wp2_with fail
              go_ret
              exact ⟨rfl, HB.out.alloc HB.out.size _⟩
            | true =>
              replace HF : Hid (F = 1) := Lib.hid (by rw [← HF.out, HBS.out]; simp [firstN])
              replace e0 : wr.cell? ⟨w2.heap.size, 0, none⟩ = some (.iface 24 (.int .i64 1)) := e0
              replace e1 : wr.cell? ⟨w2.heap.size, 1, none⟩ = some (.iface 24 (.int .i64 2)) := e1
              replace e2 : wr.cell? ⟨w2.heap.size, 2, none⟩ = some (.iface 24 (.int .i64 3)) := e2
              obtain rfl := HF.out
              go_wp2_with fail
              refine (First_any (some ⟨wr.heap.size, 0, none⟩) 3 3 [.iface 24 (.int .i64 1), .iface 24 (.int .i64 2), .iface 24 (.int .i64 3)] _ (rd_ones wr [.iface 24 (.int .i64 1), .iface 24 (.int .i64 2), .iface 24 (.int .i64 3)] (by decide)) (all_err_of rfl) (by omega)).mono ?_
              rintro e w4 ⟨rfl, h⟩
              obtain rfl := h.symm
              clear h
              rw [show firstOf ([.iface 24 (.int .i64 1), .iface 24 (.int .i64 2), .iface 24 (.int .i64 3)] : List Value) = .iface 24 (.int .i64 1) from rfl]
              go_wp2_with fail
              go_ret
              exact ⟨rfl, HB.out.alloc HB.out.size _⟩
      have g0 : decide (a1 ≤ 0) = false := decide_eq_false hn0
      have g1 : (a1 == 1) = false := by simp [hn1]
      have g2 : (a1 == 2) = false := by simp [hn2]
      have g3 : (a1 == 3) = false := by simp [hn3]
      have hn5 : 4 ≤ a1 := by omega
      clear hn0 hn1 hn2 hn3
      cases x0 with
      | false =>
        cases x1 with
        | false =>
          cases x2 with
          | false =>
            cases x3 with
            | false =>
              replace HF : Hid (F = 0) := Lib.hid (by rw [← HF.out, HBS.out]; exact firstN_big _ _ _ hn5)
              replace e0 : wr.cell? ⟨w2.heap.size, 0, none⟩ = some (.nilIface) := e0
              replace e1 : wr.cell? ⟨w2.heap.size, 1, none⟩ = some (.nilIface) := e1
              replace e2 : wr.cell? ⟨w2.heap.size, 2, none⟩ = some (.nilIface) := e2
              replace e3 : wr.cell? ⟨w2.heap.size, 3, none⟩ = some (.nilIface) := e3
              obtain rfl := HF.out
              go_wp2_with fail
              refine (First_any (some ⟨wr.heap.size, 0, none⟩) 4 4 [.nilIface, .nilIface, .nilIface, .nilIface] _ (rd_ones wr [.nilIface, .nilIface, .nilIface, .nilIface] (by decide)) (all_err_of rfl) (by omega)).mono ?_
              rintro e w4 ⟨rfl, h⟩
              obtain rfl := h.symm
              clear h
              rw [show firstOf ([.nilIface, .nilIface, .nilIface, .nilIface] : List Value) = .nilIface from rfl]
              go_wp2_with fail
              go_ret
              exact ⟨rfl, HB.out.alloc HB.out.size _⟩
            | true =>
              replace HF : Hid (F = 4) := Lib.hid (by rw [← HF.out, HBS.out]; exact firstN_big _ _ _ hn5)
              replace e0 : wr.cell? ⟨w2.heap.size, 0, none⟩ = some (.nilIface) := e0
              replace e1 : wr.cell? ⟨w2.heap.size, 1, none⟩ = some (.nilIface) := e1
              replace e2 : wr.cell? ⟨w2.heap.size, 2, none⟩ = some (.nilIface) := e2
              replace e3 : wr.cell? ⟨w2.heap.size, 3, none⟩ = some (.iface 24 (.int .i64 4)) := e3
              obtain rfl := HF.out
              go_wp2_with fail
              refine (First_any (some ⟨wr.heap.size, 0, none⟩) 4 4 [.nilIface, .nilIface, .nilIface, .iface 24 (.int .i64 4)] _ (rd_ones wr [.nilIface, .nilIface, .nilIface, .iface 24 (.int .i64 4)] (by decide)) (all_err_of rfl) (by omega)).mono ?_
              rintro e w4 ⟨rfl, h⟩
              obtain rfl := h.symm
              clear h
              rw [show firstOf ([.nilIface, .nilIface, .nilIface, .iface 24 (.int .i64 4)] : List Value) = .iface 24 (.int .i64 4) from rfl]
              go_wp2_with fail
              go_ret
              exact ⟨rfl, HB.out.alloc HB.out.size _⟩
          | true =>
            cases x3 with
            | false =>
              replace HF : Hid (F = 3) := Lib.hid (by rw [← HF.out, HBS.out]; exact firstN_big _ _ _ hn5)
              replace e0 : wr.cell? ⟨w2.heap.size, 0, none⟩ = some (.nilIface) := e0
              replace e1 : wr.cell? ⟨w2.heap.size, 1, none⟩ = some (.nilIface) := e1
              replace e2 : wr.cell? ⟨w2.heap.size, 2, none⟩ = some (.iface 24 (.int .i64 3)) := e2
              replace e3 : wr.cell? ⟨w2.heap.size, 3, none⟩ = some (.nilIface) := e3
              obtain rfl := HF.out
              go_wp2_with fail
              refine (First_any (some ⟨wr.heap.size, 0, none⟩) 4 4 [.nilIface, .nilIface, .iface 24 (.int .i64 3), .nilIface] _ (rd_ones wr [.nilIface, .nilIface, .iface 24 (.int .i64 3), .nilIface] (by decide)) (all_err_of rfl) (by omega)).mono ?_
              rintro e w4 ⟨rfl, h⟩
              obtain rfl := h.symm
              clear h
              rw [show firstOf ([.nilIface, .nilIface, .iface 24 (.int .i64 3), .nilIface] : List Value) = .iface 24 (.int .i64 3) from rfl]
              go_wp2_with fail
              go_ret
              exact ⟨rfl, HB.out.alloc HB.out.size _⟩
            | true =>
              replace HF : Hid (F = 3) := Lib.hid (by rw [← HF.out, HBS.out]; exact firstN_big _ _ _ hn5)
              replace e0 : wr.cell? ⟨w2.heap.size, 0, none⟩ = some (.nilIface) := e0
              replace e1 : wr.cell? ⟨w2.heap.size, 1, none⟩ = some (.nilIface) := e1
              replace e2 : wr.cell? ⟨w2.heap.size, 2, none⟩ = some (.iface 24 (.int .i64 3)) := e2
              replace e3 : wr.cell? ⟨w2.heap.size, 3, none⟩ = some (.iface 24 (.int .i64 4)) := e3
              obtain rfl := HF.out
              go_wp2_with fail
              refine (First_any (some ⟨wr.heap.size, 0, none⟩) 4 4 [.nilIface, .nilIface, .iface 24 (.int .i64 3), .iface 24 (.int .i64 4)] _ (rd_ones wr [.nilIface, .nilIface, .iface 24 (.int .i64 3), .iface 24 (.int .i64 4)] (by decide)) (all_err_of rfl) (by omega)).mono ?_
              rintro e w4 ⟨rfl, h⟩
              obtain rfl := h.symm
              clear h
              rw [show firstOf ([.nilIface, .nilIface, .iface 24 (.int .i64 3), .iface 24 (.int .i64 4)] : List Value) = .iface 24 (.int .i64 3) from rfl]
              go_wp2_with fail
              go_ret
              exact ⟨rfl, HB.out.alloc HB.out.size _⟩
        | true =>
          cases x2 with
          | false =>
            cases x3 with
            | false =>
              replace HF : Hid (F = 2) := Lib.hid (by rw [← HF.out, HBS.out]; exact firstN_big _ _ _ hn5)
              replace e0 : wr.cell? ⟨w2.heap.size, 0, none⟩ = some (.nilIface) := e0
              replace e1 : wr.cell? ⟨w2.heap.size, 1, none⟩ = some (.iface 24 (.int .i64 2)) := e1
              replace e2 : wr.cell? ⟨w2.heap.size, 2, none⟩ = some (.nilIface) := e2
              replace e3 : wr.cell? ⟨w2.heap.size, 3, none⟩ = some (.nilIface) := e3
              obtain rfl := HF.out
              go_wp2_with fail
              refine (First_any (some ⟨wr.heap.size, 0, none⟩) 4 4 [.nilIface, .iface 24 (.int .i64 2), .nilIface, .nilIface] _ (rd_ones wr [.nilIface, .iface 24 (.int .i64 2), .nilIface, .nilIface] (by decide)) (all_err_of rfl) (by omega)).mono ?_
              rintro e w4 ⟨rfl, h⟩
              obtain rfl := h.symm
              clear h
              rw [show firstOf ([.nilIface, .iface 24 (.int .i64 2), .nilIface, .nilIface] : List Value) = .iface 24 (.int .i64 2) from rfl]
              go_wp2_with fail
              go_ret
              exact ⟨rfl, HB.out.alloc HB.out.size _⟩
            | true =>
              replace HF : Hid (F = 2) := Lib.hid (by rw [← HF.out, HBS.out]; exact firstN_big _ _ _ hn5)
              replace e0 : wr.cell? ⟨w2.heap.size, 0, none⟩ = some (.nilIface) := e0
              replace e1 : wr.cell? ⟨w2.heap.size, 1, none⟩ = some (.iface 24 (.int .i64 2)) := e1
              replace e2 : wr.cell? ⟨w2.heap.size, 2, none⟩ = some (.nilIface) := e2
              replace e3 : wr.cell? ⟨w2.heap.size, 3, none⟩ = some (.iface 24 (.int .i64 4)) := e3
              obtain rfl := HF.out
              go_wp2_with fail
              refine (First_any (some ⟨wr.heap.size, 0, none⟩) 4 4 [.nilIface, .iface 24 (.int .i64 2), .nilIface, .iface 24 (.int .i64 4)] _ (rd_ones wr [.nilIface, .iface 24 (.int .i64 2), .nilIface, .iface 24 (.int .i64 4)] (by decide)) (all_err_of rfl) (by omega)).mono ?_
              rintro e w4 ⟨rfl, h⟩
              obtain rfl := h.symm
              clear h
              rw [show firstOf ([.nilIface, .iface 24 (.int .i64 2), .nilIface, .iface 24 (.int .i64 4)] : List Value) = .iface 24 (.int .i64 2) from rfl]
              go_wp2_with fail
              go_ret
              exact ⟨rfl, HB.out.alloc HB.out.size _⟩
          | true =>
            cases x3 with
            | false =>
              replace HF : Hid (F = 2) := Lib.hid (by rw [← HF.out, HBS.out]; exact firstN_big _ _ _ hn5)
              replace e0 : wr.cell? ⟨w2.heap.size, 0, none⟩ = some (.nilIface) := e0
              replace e1 : wr.cell? ⟨w2.heap.size, 1, none⟩ = some (.iface 24 (.int .i64 2)) := e1
              replace e2 : wr.cell? ⟨w2.heap.size, 2, none⟩ = some (.iface 24 (.int .i64 3)) := e2
              replace e3 : wr.cell? ⟨w2.heap.size, 3, none⟩ = some (.nilIface) := e3
              obtain rfl := HF.out
              go_wp2_with fail
              refine (First_any (some ⟨wr.heap.size, 0, none⟩) 4 4 [.nilIface, .iface 24 (.int .i64 2), .iface 24 (.int .i64 3), .nilIface] _ (rd_ones wr [.nilIface, .iface 24 (.int .i64 2), .iface 24 (.int .i64 3), .nilIface] (by decide)) (all_err_of rfl) (by omega)).mono ?_
              rintro e w4 ⟨rfl, h⟩
              obtain rfl := h.symm
              clear h
              rw [show firstOf ([.nilIface, .iface 24 (.int .i64 2), .iface 24 (.int .i64 3), .nilIface] : List Value) = .iface 24 (.int .i64 2) from rfl]
              go_wp2_with fail
              go_ret
              exact ⟨rfl, HB.out.alloc HB.out.size _⟩
            | true =>
              replace HF : Hid (F = 2) := Lib.hid (by rw [← HF.out, HBS.out]; exact firstN_big _ _ _ hn5)
              replace e0 : wr.cell? ⟨w2.heap.size, 0, none⟩ = some (.nilIface) := e0
              replace e1 : wr.cell? ⟨w2.heap.size, 1, none⟩ = some (.iface 24 (.int .i64 2)) := e1
              replace e2 : wr.cell? ⟨w2.heap.size, 2, none⟩ = some (.iface 24 (.int .i64 3)) := e2
              replace e3 : wr.cell? ⟨w2.heap.size, 3, none⟩ = some (.iface 24 (.int .i64 4)) := e3
              obtain rfl := HF.out
              go_wp2_with fail
              refine (First_any (some ⟨wr.heap.size, 0, none⟩) 4 4 [.nilIface, .iface 24 (.int .i64 2), .iface 24 (.int .i64 3), .iface 24 (.int .i64 4)] _ (rd_ones wr [.nilIface, .iface 24 (.int .i64 2), .iface 24 (.int .i64 3), .iface 24 (.int .i64 4)] (by decide)) (all_err_of rfl) (by omega)).mono ?_
              rintro e w4 ⟨rfl, h⟩
              obtain rfl := h.symm
              clear h
              rw [show firstOf ([.nilIface, .iface 24 (.int .i64 2), .iface 24 (.int .i64 3), .iface 24 (.int .i64 4)] : List Value) = .iface 24 (.int .i64 2) from rfl]
              go_wp2_with fail
              go_ret
              exact ⟨rfl, HB.out.alloc HB.out.size _⟩
      | true =>
        cases x1 with
        | false =>
          cases x2 with
          | false =>
            cases x3 with
            | false =>
              replace HF : Hid (F = 1) := Lib.hid (by rw [← HF.out, HBS.out]; exact firstN_big _ _ _ hn5)
              replace e0 : wr.cell? ⟨w2.heap.size, 0, none⟩ = some (.iface 24 (.int .i64 1)) := e0
              replace e1 : wr.cell? ⟨w2.heap.size, 1, none⟩ = some (.nilIface) := e1
              replace e2 : wr.cell? ⟨w2.heap.size, 2, none⟩ = some (.nilIface) := e2
              replace e3 : wr.cell? ⟨w2.heap.size, 3, none⟩ = some (.nilIface) := e3
              obtain rfl := HF.out
              go_wp2_with fail
              refine (First_any (some ⟨wr.heap.size, 0, none⟩) 4 4 [.iface 24 (.int .i64 1), .nilIface, .nilIface, .nilIface] _ (rd_ones wr [.iface 24 (.int .i64 1), .nilIface, .nilIface, .nilIface] (by decide)) (all_err_of rfl) (by omega)).mono ?_
              rintro e w4 ⟨rfl, h⟩
              obtain rfl := h.symm
              clear h
              rw [show firstOf ([.iface 24 (.int .i64 1), .nilIface, .nilIface, .nilIface] : List Value) = .iface 24 (.int .i64 1) from rfl]
              go_wp2_with fail
              go_ret
              exact ⟨rfl, HB.out.alloc HB.out.size _⟩
            | true =>
              replace HF : Hid (F = 1) := Lib.hid (by rw [← HF.out, HBS.out]; exact firstN_big _ _ _ hn5)
              replace e0 : wr.cell? ⟨w2.heap.size, 0, none⟩ = some (.iface 24 (.int .i64 1)) := e0
              replace e1 : wr.cell? ⟨w2.heap.size, 1, none⟩ = some (.nilIface) := e1
              replace e2 : wr.cell? ⟨w2.heap.size, 2, none⟩ = some (.nilIface) := e2
              replace e3 : wr.cell? ⟨w2.heap.size, 3, none⟩ = some (.iface 24 (.int .i64 4)) := e3
              obtain rfl := HF.out
              go_wp2_with fail
              refine (First_any (some ⟨wr.heap.size, 0, none⟩) 4 4 [.iface 24 (.int .i64 1), .nilIface, .nilIface, .iface 24 (.int .i64 4)] _ (rd_ones wr [.iface 24 (.int .i64 1), .nilIface, .nilIface, .iface 24 (.int .i64 4)] (by decide)) (all_err_of rfl) (by omega)).mono ?_
              rintro e w4 ⟨rfl, h⟩
              obtain rfl := h.symm
              clear h
              rw [show firstOf ([.iface 24 (.int .i64 1), .nilIface, .nilIface, .iface 24 (.int .i64 4)] : List Value) = .iface 24 (.int .i64 1) from rfl]
              go_wp2_with fail
              go_ret
              exact ⟨rfl, HB.out.alloc HB.out.size _⟩
          | true =>
            cases x3 with
            | false =>
              replace HF : Hid (F = 1) := Lib.hid (by rw [← HF.out, HBS.out]; exact firstN_big _ _ _ hn5)
              replace e0 : wr.cell? ⟨w2.heap.size, 0, none⟩ = some (.iface 24 (.int .i64 1)) := e0
              replace e1 : wr.cell? ⟨w2.heap.size, 1, none⟩ = some (.nilIface) := e1
              replace e2 : wr.cell? ⟨w2.heap.size, 2, none⟩ = some (.iface 24 (.int .i64 3)) := e2
              replace e3 : wr.cell? ⟨w2.heap.size, 3, none⟩ = some (.nilIface) := e3
              obtain rfl := HF.out
              go_wp2_with fail
              refine (First_any (some ⟨wr.heap.size, 0, none⟩) 4 4 [.iface 24 (.int .i64 1), .nilIface, .iface 24 (.int .i64 3), .nilIface] _ (rd_ones wr [.iface 24 (.int .i64 1), .nilIface, .iface 24 (.int .i64 3), .nilIface] (by decide)) (all_err_of rfl) (by omega)).mono ?_
              rintro e w4 ⟨rfl, h⟩
              obtain rfl := h.symm
              clear h
              rw [show firstOf ([.iface 24 (.int .i64 1), .nilIface, .iface 24 (.int .i64 3), .nilIface] : List Value) = .iface 24 (.int .i64 1) from rfl]
              go_wp2_with fail
              go_ret
              exact ⟨rfl, HB.out.alloc HB.out.size _⟩
            | true =>
              replace HF : Hid (F = 1) := Lib.hid (by rw [← HF.out, HBS.out]; exact firstN_big _ _ _ hn5)
              replace e0 : wr.cell? ⟨w2.heap.size, 0, none⟩ = some (.iface 24 (.int .i64 1)) := e0
              replace e1 : wr.cell? ⟨w2.heap.size, 1, none⟩ = some (.nilIface) := e1
              replace e2 : wr.cell? ⟨w2.heap.size, 2, none⟩ = some (.iface 24 (.int .i64 3)) := e2
              replace e3 : wr.cell? ⟨w2.heap.size, 3, none⟩ = some (.iface 24 (.int .i64 4)) := e3
              obtain rfl := HF.out
              go_wp2_with fail
              refine (First_any (some ⟨wr.heap.size, 0, none⟩) 4 4 [.iface 24 (.int .i64 1), .nilIface, .iface 24 (.int .i64 3), .iface 24 (.int .i64 4)] _ (rd_ones wr [.iface 24 (.int .i64 1), .nilIface, .iface 24 (.int .i64 3), .iface 24 (.int .i64 4)] (by decide)) (all_err_of rfl) (by omega)).mono ?_
              rintro e w4 ⟨rfl, h⟩
              obtain rfl := h.symm
              clear h
              rw [show firstOf ([.iface 24 (.int .i64 1), .nilIface, .iface 24 (.int .i64 3), .iface 24 (.int .i64 4)] : List Value) = .iface 24 (.int .i64 1) from rfl]
              go_wp2_with fail
              go_ret
              exact ⟨rfl, HB.out.alloc HB.out.size _⟩
        | true =>
          cases x2 with
          | false =>
            cases x3 with
            | false =>
              replace HF : Hid (F = 1) := Lib.hid (by rw [← HF.out, HBS.out]; exact firstN_big _ _ _ hn5)
              replace e0 : wr.cell? ⟨w2.heap.size, 0, none⟩ = some (.iface 24 (.int .i64 1)) := e0
              replace e1 : wr.cell? ⟨w2.heap.size, 1, none⟩ = some (.iface 24 (.int .i64 2)) := e1
              replace e2 : wr.cell? ⟨w2.heap.size, 2, none⟩ = some (.nilIface) := e2
              replace e3 : wr.cell? ⟨w2.heap.size, 3, none⟩ = some (.nilIface) := e3
              obtain rfl := HF.out
              go_wp2_with fail
              refine (First_any (some ⟨wr.heap.size, 0, none⟩) 4 4 [.iface 24 (.int .i64 1), .iface 24 (.int .i64 2), .nilIface, .nilIface] _ (rd_ones wr [.iface 24 (.int .i64 1), .iface 24 (.int .i64 2), .nilIface, .nilIface] (by decide)) (all_err_of rfl) (by omega)).mono ?_
              rintro e w4 ⟨rfl, h⟩
              obtain rfl := h.symm
              clear h
              rw [show firstOf ([.iface 24 (.int .i64 1), .iface 24 (.int .i64 2), .nilIface, .nilIface] : List Value) = .iface 24 (.int .i64 1) from rfl]
              go_wp2_with fail
              go_ret
              exact ⟨rfl, HB.out.alloc HB.out.size _⟩
            | true =>
              replace HF : Hid (F = 1) := Lib.hid (by rw [← HF.out, HBS.out]; exact firstN_big _ _ _ hn5)
              replace e0 : wr.cell? ⟨w2.heap.size, 0, none⟩ = some (.iface 24 (.int .i64 1)) := e0
              replace e1 : wr.cell? ⟨w2.heap.size, 1, none⟩ = some (.iface 24 (.int .i64 2)) := e1
              replace e2 : wr.cell? ⟨w2.heap.size, 2, none⟩ = some (.nilIface) := e2
              replace e3 : wr.cell? ⟨w2.heap.size, 3, none⟩ = some (.iface 24 (.int .i64 4)) := e3
              obtain rfl := HF.out
              go_wp2_with fail
              refine (First_any (some ⟨wr.heap.size, 0, none⟩) 4 4 [.iface 24 (.int .i64 1), .iface 24 (.int .i64 2), .nilIface, .iface 24 (.int .i64 4)] _ (rd_ones wr [.iface 24 (.int .i64 1), .iface 24 (.int .i64 2), .nilIface, .iface 24 (.int .i64 4)] (by decide)) (all_err_of rfl) (by omega)).mono ?_
              rintro e w4 ⟨rfl, h⟩
              obtain rfl := h.symm
              clear h
              rw [show firstOf ([.iface 24 (.int .i64 1), .iface 24 (.int .i64 2), .nilIface, .iface 24 (.int .i64 4)] : List Value) = .iface 24 (.int .i64 1) from rfl]
              go_wp2_with fail
              go_ret
              exact ⟨rfl, HB.out.alloc HB.out.size _⟩
          | true =>
            cases x3 with
            | false =>
              replace HF : Hid (F = 1) := Lib.hid (by rw [← HF.out, HBS.out]; exact firstN_big _ _ _ hn5)
              replace e0 : wr.cell? ⟨w2.heap.size, 0, none⟩ = some (.iface 24 (.int .i64 1)) := e0
              replace e1 : wr.cell? ⟨w2.heap.size, 1, none⟩ = some (.iface 24 (.int .i64 2)) := e1
              replace e2 : wr.cell? ⟨w2.heap.size, 2, none⟩ = some (.iface 24 (.int .i64 3)) := e2
              replace e3 : wr.cell? ⟨w2.heap.size, 3, none⟩ = some (.nilIface) := e3
              obtain rfl := HF.out
              go_wp2_with fail
              refine (First_any (some ⟨wr.heap.size, 0, none⟩) 4 4 [.iface 24 (.int .i64 1), .iface 24 (.int .i64 2), .iface 24 (.int .i64 3), .nilIface] _ (rd_ones wr [.iface 24 (.int .i64 1), .iface 24 (.int .i64 2), .iface 24 (.int .i64 3), .nilIface] (by decide)) (all_err_of rfl) (by omega)).mono ?_
              rintro e w4 ⟨rfl, h⟩
              obtain rfl := h.symm
              clear h
              rw [show firstOf ([.iface 24 (.int .i64 1), .iface 24 (.int .i64 2), .iface 24 (.int .i64 3), .nilIface] : List Value) = .iface 24 (.int .i64 1) from rfl]
              go_wp2_with fail
              go_ret
              exact ⟨rfl, HB.out.alloc HB.out.size _⟩
            | true =>
              replace HF : Hid (F = 1) := Lib.hid (by rw [← HF.out, HBS.out]; exact firstN_big _ _ _ hn5)
              replace e0 : wr.cell? ⟨w2.heap.size, 0, none⟩ = some (.iface 24 (.int .i64 1)) := e0
              replace e1 : wr.cell? ⟨w2.heap.size, 1, none⟩ = some (.iface 24 (.int .i64 2)) := e1
              replace e2 : wr.cell? ⟨w2.heap.size, 2, none⟩ = some (.iface 24 (.int .i64 3)) := e2
              replace e3 : wr.cell? ⟨w2.heap.size, 3, none⟩ = some (.iface 24 (.int .i64 4)) := e3
              obtain rfl := HF.out
              go_wp2_with fail
              refine (First_any (some ⟨wr.heap.size, 0, none⟩) 4 4 [.iface 24 (.int .i64 1), .iface 24 (.int .i64 2), .iface 24 (.int .i64 3), .iface 24 (.int .i64 4)] _ (rd_ones wr [.iface 24 (.int .i64 1), .iface 24 (.int .i64 2), .iface 24 (.int .i64 3), .iface 24 (.int .i64 4)] (by decide)) (all_err_of rfl) (by omega)).mono ?_
              rintro e w4 ⟨rfl, h⟩
              obtain rfl := h.symm
              clear h
              rw [show firstOf ([.iface 24 (.int .i64 1), .iface 24 (.int .i64 2), .iface 24 (.int .i64 3), .iface 24 (.int .i64 4)] : List Value) = .iface 24 (.int .i64 1) from rfl]
              go_wp2_with fail
              go_ret
              exact ⟨rfl, HB.out.alloc HB.out.size _⟩
end Go.Proofs.YtkncgpnnilcicaaDoor

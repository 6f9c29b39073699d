/- Words: of a kind, of a number. -/
import Derived.Test.YtkncgpnnilcicaaDoorFa4
import Derived.Test.YtkncgpnnilcicaaDoorShelf
import Derived.Deep.Cut
import Derived.Deep.WholeRow
import Derived.Lib.AppendIntMem
set_option linter.unusedSimpArgs false
set_option linter.unusedVariables false
namespace Go.Proofs.YtkncgpnnilcicaaDoor
open Go.RowKit Go.Extern.Stop Go.Stop Go.Extern

def kindB (k : Int) : ByteArray := if k = 1 then ⟨#[108, 105, 110, 101]⟩ else if k = 2 then ⟨#[98, 121, 116, 101]⟩ else if k = 3 then ⟨#[110, 111, 100, 101]⟩ else if k = 4 then ⟨#[97, 114, 99]⟩ else if k = 5 then ⟨#[115, 116, 101, 112]⟩ else ⟨#[112, 108, 97, 99, 101]⟩
def sayB1 : ByteArray := ⟨#[97, 32, 110, 117, 109, 98, 101, 114, 32, 111, 117, 116, 115, 105, 100, 101, 32, 105, 116, 115, 32, 114, 97, 110, 103, 101]⟩
def sayB2 : ByteArray := ⟨#[116, 111, 111, 32, 108, 111, 110, 103]⟩
def sayB3 : ByteArray := ⟨#[97, 32, 119, 111, 114, 100, 32, 116, 104, 97, 116, 32, 109, 97, 121, 32, 110, 111, 116, 32, 115, 116, 97, 110, 100, 32, 116, 104, 101, 114, 101]⟩
def sayB4 : ByteArray := ⟨#[110, 111, 116, 32, 97, 32, 110, 117, 109, 98, 101, 114]⟩
def sayB5 : ByteArray := ⟨#[97, 32, 119, 111, 114, 100, 32, 111, 114, 32, 97, 32, 108, 105, 110, 101, 32, 108, 97, 99, 107, 115]⟩
def sayB6 : ByteArray := ⟨#[115, 111, 109, 101, 116, 104, 105, 110, 103, 32, 98, 101, 104, 105, 110, 100, 32, 116, 104, 101, 32, 101, 110, 100]⟩
def sayB7 : ByteArray := ⟨#[110, 111, 32, 115, 117, 99, 104, 32, 110, 111, 100, 101]⟩
def sayB8 : ByteArray := ⟨#[97, 32, 119, 101, 105, 103, 104, 116, 32, 111, 117, 116, 115, 105, 100, 101, 32, 105, 116, 115, 32, 114, 97, 110, 103, 101]⟩
def sayB9 : ByteArray := ⟨#[109, 111, 114, 101, 32, 116, 104, 97, 110, 32, 109, 97, 121, 32, 98, 101]⟩
def sayB10 : ByteArray := ⟨#[116, 111, 111, 32, 115, 104, 111, 114, 116]⟩
def sayB11 : ByteArray := ⟨#[110, 111, 32, 105, 109, 97, 103, 101]⟩
def sayB12 : ByteArray := ⟨#[97, 110, 111, 116, 104, 101, 114, 32, 118, 101, 114, 115, 105, 111, 110]⟩
def sayB13 : ByteArray := ⟨#[116, 104, 101, 32, 99, 104, 101, 99, 107, 32, 115, 117, 109, 32, 100, 111, 101, 115, 110, 39, 116, 32, 102, 105, 116]⟩
def sayB14 : ByteArray := ⟨#[110, 111, 116, 32, 105, 110, 32, 102, 111, 114, 109]⟩
def sayB15 : ByteArray := ⟨#[110, 111, 116, 32, 116, 114, 117, 101]⟩
def sayB16 : ByteArray := ⟨#[110, 111, 32, 119, 97, 108, 107]⟩
def sayB17 : ByteArray := ⟨#[110, 111, 32, 115, 117, 99, 104, 32, 104, 97, 110, 100, 108, 101]⟩
def sayB18 : ByteArray := ⟨#[110, 111, 32, 109, 111, 114, 101, 32, 114, 111, 111, 109]⟩
def sayB19 : ByteArray := ⟨#[110, 105, 108]⟩
def sayB20 : ByteArray := ⟨#[110, 111, 32, 111, 114, 100, 101, 114, 32, 111, 102, 32, 116, 104, 101, 32, 110, 111, 100, 101, 115]⟩
def errorB : ByteArray := ⟨#[101, 114, 114, 111, 114, 32]⟩
def itoaB (n : Int) : ByteArray := ⟨(Lib.itoa n).toArray⟩
def sayB (c : Int) : ByteArray := if c = 1 then sayB1 else if c = 2 then sayB2 else if c = 3 then sayB3 else if c = 4 then sayB4 else if c = 5 then sayB5 else if c = 6 then sayB6 else if c = 7 then sayB7 else if c = 8 then sayB8 else if c = 9 then sayB9 else if c = 10 then sayB10 else if c = 11 then sayB11 else if c = 12 then sayB12 else if c = 13 then sayB13 else if c = 14 then sayB14 else if c = 15 then sayB15 else if c = 16 then sayB16 else if c = 17 then sayB17 else if c = 18 then sayB18 else if c = 19 then sayB19 else if c = 20 then sayB20 else errorB ++ itoaB c
theorem kind_any (k : Int) (W : World) : Calls Tryd.prog 39 #[.int .i64 k] W fun e w' => e = .returned (.string (kindB k)) ∧ w' = W := by
  by_cases h1 : k = 1
  · subst h1
    go_enter Tryd.func39, Tryd.ntmps39
    go_wp2_with fail
    go_ret
    exact ⟨rfl, rfl⟩
  by_cases h2 : k = 2
  · subst h2
    go_enter Tryd.func39, Tryd.ntmps39
    go_wp2_with fail
    go_ret
    exact ⟨rfl, rfl⟩
  by_cases h3 : k = 3
  · subst h3
    go_enter Tryd.func39, Tryd.ntmps39
    go_wp2_with fail
    go_ret
    exact ⟨rfl, rfl⟩
  by_cases h4 : k = 4
  · subst h4
    go_enter Tryd.func39, Tryd.ntmps39
    go_wp2_with fail
    go_ret
    exact ⟨rfl, rfl⟩
  by_cases h5 : k = 5
  · subst h5
    go_enter Tryd.func39, Tryd.ntmps39
    go_wp2_with fail
    go_ret
    exact ⟨rfl, rfl⟩
  have hk : kindB k = ⟨#[112, 108, 97, 99, 101]⟩ := by unfold kindB; rw [if_neg h1, if_neg h2, if_neg h3, if_neg h4, if_neg h5]
  rw [hk]
  have g1 : (k == 1) = false := by simp [h1]
  have g2 : (k == 2) = false := by simp [h2]
  have g3 : (k == 3) = false := by simp [h3]
  have g4 : (k == 4) = false := by simp [h4]
  have g5 : (k == 5) = false := by simp [h5]
  clear h1 h2 h3 h4 h5
  go_enter Tryd.func39, Tryd.ntmps39
  go_wp2_with fail
  go_ret
  exact ⟨rfl, rfl⟩
theorem Itoa_any (n : Int) (h0 : -9223372036854775808 ≤ n) (h1 : n ≤ 9223372036854775807) (w : World) (htab : Lib.TabIs Tryd.prog w "internal/strconv.uint64pow10" .u64 Lib.pow10Tab) :
    Calls Tryd.prog 40 #[.int .i64 n] w fun e w' => e = .returned (.string (itoaB n)) ∧ Below w.heap.size w w' := by
  refine (Tryd.strconv_Itoa n h0 h1 w htab).mono ?_
  rintro e w' ⟨rfl, k, os, rfl⟩
  exact ⟨rfl, Lib.below_grow _ _ (Nat.le_refl _) _ _⟩
theorem tab_below {w w' : World} {name : String} {zs : List Int} (h : Lib.TabIs Tryd.prog w name .u64 zs) (hb : Below w.heap.size w w') : Lib.TabIs Tryd.prog w' name .u64 zs := by
  unfold Lib.TabIs World.var? at *
  cases hg : Tryd.prog.globalNamed name with
  | none => rw [hg] at h; exact h
  | some g =>
    rw [hg] at h
    simp only [Option.bind_some] at h ⊢
    rw [hb.block g (by
      cases hh : w.heap[g]? with
      | none => rw [hh] at h; cases h
      | some o => exact (Array.getElem?_eq_some_iff.1 hh).1)]
    exact h
theorem oper_wp_store {P : Program} {d : Option Tmp} {ty : TypeId} {pos : String} {after : Array Edge} {g : Option (Nat × Bool)} {t : TypeId} {p x : Operand} {a : Act} {w w' : World} {next : Act → World → Prop} {Q : Exit → Act → World → Prop} (h : (Instr.storeAt t (a.eval p) (a.eval x)).run P w = .ok () w') (k : next (a.put d undef) w') : Oper.wp P ⟨d, .store t p x, ty, pos, after, g⟩ a w next Q := by
  unfold Oper.wp
  simp only [execOp, Sem.run_bind, h, Result.andThen, Sem.run_pure]
  exact k
theorem oper_wp_value {P : Program} {o : Oper} {a : Act} {w w' : World} {next : Act → World → Prop} {Q : Exit → Act → World → Prop} (v : Value) (h : (execOp a.eval o).run P w = .ok (.value v) w') (k : next (a.put o.dst v) w') : Oper.wp P o a w next Q := by
  unfold Oper.wp
  rw [h]
  exact k
set_option maxRecDepth 100000 in
set_option maxHeartbeats 4000000 in
theorem Errno_in (c : Int) (W : World) (h1 : 1 ≤ c) (h2 : c ≤ 20) : Calls Tryd.prog 41 #[.int .i64 c] W fun e w' => e = .returned (.string (sayB c)) ∧ Below W.heap.size W w' := by
  have g1 : decide (c < 1) = false := decide_eq_false (by omega)
  have g2 : decide (20 < c) = false := decide_eq_false (by omega)
  have E1 : sayB 1 = sayB1 := by rfl
  have E2 : sayB 2 = sayB2 := by rfl
  have E3 : sayB 3 = sayB3 := by rfl
  have E4 : sayB 4 = sayB4 := by rfl
  have E5 : sayB 5 = sayB5 := by rfl
  have E6 : sayB 6 = sayB6 := by rfl
  have E7 : sayB 7 = sayB7 := by rfl
  have E8 : sayB 8 = sayB8 := by rfl
  have E9 : sayB 9 = sayB9 := by rfl
  have E10 : sayB 10 = sayB10 := by rfl
  have E11 : sayB 11 = sayB11 := by rfl
  have E12 : sayB 12 = sayB12 := by rfl
  have E13 : sayB 13 = sayB13 := by rfl
  have E14 : sayB 14 = sayB14 := by rfl
  have E15 : sayB 15 = sayB15 := by rfl
  have E16 : sayB 16 = sayB16 := by rfl
  have E17 : sayB 17 = sayB17 := by rfl
  have E18 : sayB 18 = sayB18 := by rfl
  have E19 : sayB 19 = sayB19 := by rfl
  have E20 : sayB 20 = sayB20 := by rfl
  go_enter Tryd.func41, Tryd.ntmps41
  generalize hs1 : (⟨#[97, 32, 110, 117, 109, 98, 101, 114, 32, 111, 117, 116, 115, 105, 100, 101, 32, 105, 116, 115, 32, 114, 97, 110, 103, 101]⟩ : ByteArray) = s1
  generalize hs2 : (⟨#[116, 111, 111, 32, 108, 111, 110, 103]⟩ : ByteArray) = s2
  generalize hs3 : (⟨#[97, 32, 119, 111, 114, 100, 32, 116, 104, 97, 116, 32, 109, 97, 121, 32, 110, 111, 116, 32, 115, 116, 97, 110, 100, 32, 116, 104, 101, 114, 101]⟩ : ByteArray) = s3
  generalize hs4 : (⟨#[110, 111, 116, 32, 97, 32, 110, 117, 109, 98, 101, 114]⟩ : ByteArray) = s4
  generalize hs5 : (⟨#[97, 32, 119, 111, 114, 100, 32, 111, 114, 32, 97, 32, 108, 105, 110, 101, 32, 108, 97, 99, 107, 115]⟩ : ByteArray) = s5
  generalize hs6 : (⟨#[115, 111, 109, 101, 116, 104, 105, 110, 103, 32, 98, 101, 104, 105, 110, 100, 32, 116, 104, 101, 32, 101, 110, 100]⟩ : ByteArray) = s6
  generalize hs7 : (⟨#[110, 111, 32, 115, 117, 99, 104, 32, 110, 111, 100, 101]⟩ : ByteArray) = s7
  generalize hs8 : (⟨#[97, 32, 119, 101, 105, 103, 104, 116, 32, 111, 117, 116, 115, 105, 100, 101, 32, 105, 116, 115, 32, 114, 97, 110, 103, 101]⟩ : ByteArray) = s8
  generalize hs9 : (⟨#[109, 111, 114, 101, 32, 116, 104, 97, 110, 32, 109, 97, 121, 32, 98, 101]⟩ : ByteArray) = s9
  generalize hs10 : (⟨#[116, 111, 111, 32, 115, 104, 111, 114, 116]⟩ : ByteArray) = s10
  generalize hs11 : (⟨#[110, 111, 32, 105, 109, 97, 103, 101]⟩ : ByteArray) = s11
  generalize hs12 : (⟨#[97, 110, 111, 116, 104, 101, 114, 32, 118, 101, 114, 115, 105, 111, 110]⟩ : ByteArray) = s12
  generalize hs13 : (⟨#[116, 104, 101, 32, 99, 104, 101, 99, 107, 32, 115, 117, 109, 32, 100, 111, 101, 115, 110, 39, 116, 32, 102, 105, 116]⟩ : ByteArray) = s13
  generalize hs14 : (⟨#[110, 111, 116, 32, 105, 110, 32, 102, 111, 114, 109]⟩ : ByteArray) = s14
  generalize hs15 : (⟨#[110, 111, 116, 32, 116, 114, 117, 101]⟩ : ByteArray) = s15
  generalize hs16 : (⟨#[110, 111, 32, 119, 97, 108, 107]⟩ : ByteArray) = s16
  generalize hs17 : (⟨#[110, 111, 32, 115, 117, 99, 104, 32, 104, 97, 110, 100, 108, 101]⟩ : ByteArray) = s17
  generalize hs18 : (⟨#[110, 111, 32, 109, 111, 114, 101, 32, 114, 111, 111, 109]⟩ : ByteArray) = s18
  generalize hs19 : (⟨#[110, 105, 108]⟩ : ByteArray) = s19
  generalize hs20 : (⟨#[110, 111, 32, 111, 114, 100, 101, 114, 32, 111, 102, 32, 116, 104, 101, 32, 110, 111, 100, 101, 115]⟩ : ByteArray) = s20
  replace hs1 : Hid (s1 = sayB 1) := Lib.hid (by rw [E1, ← hs1]; rfl)
  replace hs2 : Hid (s2 = sayB 2) := Lib.hid (by rw [E2, ← hs2]; rfl)
  replace hs3 : Hid (s3 = sayB 3) := Lib.hid (by rw [E3, ← hs3]; rfl)
  replace hs4 : Hid (s4 = sayB 4) := Lib.hid (by rw [E4, ← hs4]; rfl)
  replace hs5 : Hid (s5 = sayB 5) := Lib.hid (by rw [E5, ← hs5]; rfl)
  replace hs6 : Hid (s6 = sayB 6) := Lib.hid (by rw [E6, ← hs6]; rfl)
  replace hs7 : Hid (s7 = sayB 7) := Lib.hid (by rw [E7, ← hs7]; rfl)
  replace hs8 : Hid (s8 = sayB 8) := Lib.hid (by rw [E8, ← hs8]; rfl)
  replace hs9 : Hid (s9 = sayB 9) := Lib.hid (by rw [E9, ← hs9]; rfl)
  replace hs10 : Hid (s10 = sayB 10) := Lib.hid (by rw [E10, ← hs10]; rfl)
  replace hs11 : Hid (s11 = sayB 11) := Lib.hid (by rw [E11, ← hs11]; rfl)
  replace hs12 : Hid (s12 = sayB 12) := Lib.hid (by rw [E12, ← hs12]; rfl)
  replace hs13 : Hid (s13 = sayB 13) := Lib.hid (by rw [E13, ← hs13]; rfl)
  replace hs14 : Hid (s14 = sayB 14) := Lib.hid (by rw [E14, ← hs14]; rfl)
  replace hs15 : Hid (s15 = sayB 15) := Lib.hid (by rw [E15, ← hs15]; rfl)
  replace hs16 : Hid (s16 = sayB 16) := Lib.hid (by rw [E16, ← hs16]; rfl)
  replace hs17 : Hid (s17 = sayB 17) := Lib.hid (by rw [E17, ← hs17]; rfl)
  replace hs18 : Hid (s18 = sayB 18) := Lib.hid (by rw [E18, ← hs18]; rfl)
  replace hs19 : Hid (s19 = sayB 19) := Lib.hid (by rw [E19, ← hs19]; rfl)
  replace hs20 : Hid (s20 = sayB 20) := Lib.hid (by rw [E20, ← hs20]; rfl)
  clear E1 E2 E3 E4 E5 E6 E7 E8 E9 E10 E11 E12 E13 E14 E15 E16 E17 E18 E19 E20
  go_upto_region 3 with fail
  go_step
  go_step
  refine oper_wp_value (w' := W) (.agg #[.string s1, .string s2, .string s3, .string s4, .string s5, .string s6, .string s7, .string s8, .string s9, .string s10, .string s11, .string s12, .string s13, .string s14, .string s15, .string s16, .string s17, .string s18, .string s19, .string s20]) (by kernel_rfl) ?_
  go_frame
  go_step
  go_step
  go_step
  go_step
  go_step
  refine oper_wp_store (run_storeAt_new W 107 _ #[.string s1, .string s2, .string s3, .string s4, .string s5, .string s6, .string s7, .string s8, .string s9, .string s10, .string s11, .string s12, .string s13, .string s14, .string s15, .string s16, .string s17, .string s18, .string s19, .string s20] (by kernel_rfl) rfl (by kernel_rfl)) ?_
  go_frame
  have hcells := cells_new W #[.string s1, .string s2, .string s3, .string s4, .string s5, .string s6, .string s7, .string s8, .string s9, .string s10, .string s11, .string s12, .string s13, .string s14, .string s15, .string s16, .string s17, .string s18, .string s19, .string s20] 107
  have hbel := (Below.refl W.heap.size W).alloc (Nat.le_refl _) (.cells #[.string s1, .string s2, .string s3, .string s4, .string s5, .string s6, .string s7, .string s8, .string s9, .string s10, .string s11, .string s12, .string s13, .string s14, .string s15, .string s16, .string s17, .string s18, .string s19, .string s20] 107)
  generalize W.alloc (.cells #[.string s1, .string s2, .string s3, .string s4, .string s5, .string s6, .string s7, .string s8, .string s9, .string s10, .string s11, .string s12, .string s13, .string s14, .string s15, .string s16, .string s17, .string s18, .string s19, .string s20] 107) = W2 at *
  generalize (Value.agg #[.string s1, .string s2, .string s3, .string s4, .string s5, .string s6, .string s7, .string s8, .string s9, .string s10, .string s11, .string s12, .string s13, .string s14, .string s15, .string s16, .string s17, .string s18, .string s19, .string s20]) = ag at *
  have HC := Lib.hid hcells
  have HB := Lib.hid hbel
  clear hcells hbel
  go_upto_region 4 with fail
  by_cases h : c = 1
  · subst h
    have cc : W2.cell? ⟨W.heap.size, 0, none⟩ = some (.string s1) := HC.out.cell 0
    go_wp2_with fail
    go_ret
    exact ⟨by rw [← hs1.out]; rfl, HB.out⟩
  by_cases h : c = 2
  · subst h
    have cc : W2.cell? ⟨W.heap.size, 1, none⟩ = some (.string s2) := HC.out.cell 1
    go_wp2_with fail
    go_ret
    exact ⟨by rw [← hs2.out]; rfl, HB.out⟩
  by_cases h : c = 3
  · subst h
    have cc : W2.cell? ⟨W.heap.size, 2, none⟩ = some (.string s3) := HC.out.cell 2
    go_wp2_with fail
    go_ret
    exact ⟨by rw [← hs3.out]; rfl, HB.out⟩
  by_cases h : c = 4
  · subst h
    have cc : W2.cell? ⟨W.heap.size, 3, none⟩ = some (.string s4) := HC.out.cell 3
    go_wp2_with fail
    go_ret
    exact ⟨by rw [← hs4.out]; rfl, HB.out⟩
  by_cases h : c = 5
  · subst h
    have cc : W2.cell? ⟨W.heap.size, 4, none⟩ = some (.string s5) := HC.out.cell 4
    go_wp2_with fail
    go_ret
    exact ⟨by rw [← hs5.out]; rfl, HB.out⟩
  by_cases h : c = 6
  · subst h
    have cc : W2.cell? ⟨W.heap.size, 5, none⟩ = some (.string s6) := HC.out.cell 5
    go_wp2_with fail
    go_ret
    exact ⟨by rw [← hs6.out]; rfl, HB.out⟩
  by_cases h : c = 7
  · subst h
    have cc : W2.cell? ⟨W.heap.size, 6, none⟩ = some (.string s7) := HC.out.cell 6
    go_wp2_with fail
    go_ret
    exact ⟨by rw [← hs7.out]; rfl, HB.out⟩
  by_cases h : c = 8
  · subst h
    have cc : W2.cell? ⟨W.heap.size, 7, none⟩ = some (.string s8) := HC.out.cell 7
    go_wp2_with fail
    go_ret
    exact ⟨by rw [← hs8.out]; rfl, HB.out⟩
  by_cases h : c = 9
  · subst h
    have cc : W2.cell? ⟨W.heap.size, 8, none⟩ = some (.string s9) := HC.out.cell 8
    go_wp2_with fail
    go_ret
    exact ⟨by rw [← hs9.out]; rfl, HB.out⟩
  by_cases h : c = 10
  · subst h
    have cc : W2.cell? ⟨W.heap.size, 9, none⟩ = some (.string s10) := HC.out.cell 9
    go_wp2_with fail
    go_ret
    exact ⟨by rw [← hs10.out]; rfl, HB.out⟩
  by_cases h : c = 11
  · subst h
    have cc : W2.cell? ⟨W.heap.size, 10, none⟩ = some (.string s11) := HC.out.cell 10
    go_wp2_with fail
    go_ret
    exact ⟨by rw [← hs11.out]; rfl, HB.out⟩
  by_cases h : c = 12
  · subst h
    have cc : W2.cell? ⟨W.heap.size, 11, none⟩ = some (.string s12) := HC.out.cell 11
    go_wp2_with fail
    go_ret
    exact ⟨by rw [← hs12.out]; rfl, HB.out⟩
  by_cases h : c = 13
  · subst h
    have cc : W2.cell? ⟨W.heap.size, 12, none⟩ = some (.string s13) := HC.out.cell 12
    go_wp2_with fail
    go_ret
    exact ⟨by rw [← hs13.out]; rfl, HB.out⟩
  by_cases h : c = 14
  · subst h
    have cc : W2.cell? ⟨W.heap.size, 13, none⟩ = some (.string s14) := HC.out.cell 13
    go_wp2_with fail
    go_ret
    exact ⟨by rw [← hs14.out]; rfl, HB.out⟩
  by_cases h : c = 15
  · subst h
    have cc : W2.cell? ⟨W.heap.size, 14, none⟩ = some (.string s15) := HC.out.cell 14
    go_wp2_with fail
    go_ret
    exact ⟨by rw [← hs15.out]; rfl, HB.out⟩
  by_cases h : c = 16
  · subst h
    have cc : W2.cell? ⟨W.heap.size, 15, none⟩ = some (.string s16) := HC.out.cell 15
    go_wp2_with fail
    go_ret
    exact ⟨by rw [← hs16.out]; rfl, HB.out⟩
  by_cases h : c = 17
  · subst h
    have cc : W2.cell? ⟨W.heap.size, 16, none⟩ = some (.string s17) := HC.out.cell 16
    go_wp2_with fail
    go_ret
    exact ⟨by rw [← hs17.out]; rfl, HB.out⟩
  by_cases h : c = 18
  · subst h
    have cc : W2.cell? ⟨W.heap.size, 17, none⟩ = some (.string s18) := HC.out.cell 17
    go_wp2_with fail
    go_ret
    exact ⟨by rw [← hs18.out]; rfl, HB.out⟩
  by_cases h : c = 19
  · subst h
    have cc : W2.cell? ⟨W.heap.size, 18, none⟩ = some (.string s19) := HC.out.cell 18
    go_wp2_with fail
    go_ret
    exact ⟨by rw [← hs19.out]; rfl, HB.out⟩
  by_cases h : c = 20
  · subst h
    have cc : W2.cell? ⟨W.heap.size, 19, none⟩ = some (.string s20) := HC.out.cell 19
    go_wp2_with fail
    go_ret
    exact ⟨by rw [← hs20.out]; rfl, HB.out⟩
  omega
end Go.Proofs.YtkncgpnnilcicaaDoor

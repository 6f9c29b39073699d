/- The link of a number; the link as an arc. -/
import Derived.Test.YtkcnnamghpdplaaCl16
set_option linter.unusedSimpArgs false
set_option linter.unusedVariables false
namespace Go.Proofs.Ytkcnnamghpdplaa
open Go.RowKit

def lkAt (h : HierT) (i : Nat) : Lk := (h.up ++ h.dn).getD i ⟨0, 0, 0, 0⟩
theorem lkAt_up {h : HierT} {i : Nat} (hi : i < h.up.length) : lkAt h i = h.up[i] := by
  unfold lkAt
  rw [List.getD_eq_getElem?_getD, List.getElem?_append_left hi, List.getElem?_eq_getElem hi]
  rfl
theorem lkAt_dn {h : HierT} {i : Nat} (hi : ¬ i < h.up.length) (h2 : i - h.up.length < h.dn.length) : lkAt h i = h.dn[i - h.up.length] := by
  unfold lkAt
  rw [List.getD_eq_getElem?_getD, List.getElem?_append_right (by omega), List.getElem?_eq_getElem h2]
  rfl
set_option maxRecDepth 100000 in
theorem Link_any (k : HV) (h : HierT) (i : Nat) (W : World) (hp : RdH W k h) (hs : Small k h) (hi : i < h.up.length + h.dn.length) (hm : h.up.length + h.dn.length ≤ 1048576) :
    Calls Try.prog 56 #[hierV k h, .int .i64 i] W fun e w' => e = .returned (linkV (lkAt h i)) ∧ Below W.heap.size W w' := by
  have HL := Lib.hid hp.r2
  have HM := Lib.hid hp.r4
  have HI := Lib.hid hi
  have hup := @lkAt_up h i
  have hdn := @lkAt_dn h i
  clear hp hs
  generalize lkAt h i = L at *
  unfold hierV
  have w0 : Below W.heap.size W ((W.alloc (.cells #[.slice k.a0 h.node.length k.c0, .slice k.a1 h.uf.length k.c1, .slice k.a2 h.up.length k.c2, .slice k.a3 h.df.length k.c3, .slice k.a4 h.dn.length k.c4] 25)).alloc (.cells #[.int .u32 0, .int .u64 0, .int .u32 0, .int .u32 0] 68)) := two_al _ _ _
  by_cases hlt : i < h.up.length
  · have hL := hup hlt
    obtain ⟨ad, hA, cc⟩ := (HL.out.below w0).at_ hlt
    rw [← hL] at cc
    obtain ⟨c0, c1, c2, c3⟩ := four_cells cc
    clear hup hdn cc hL
    generalize h.up.length = n2 at *
    generalize h.dn.length = n4 at *
    obtain ⟨x0, x1, x2, x3⟩ := L
    dsimp only at c0 c1 c2 c3
    rw [hA] at *
    clear hA
    have g1 : decide ((i : Int) < (n2 : Int)) = true := decide_eq_true (by omega)
    go_enter Try.func56, Try.ntmps56
    go_wp2_with fail
    go_returns
    exact ⟨rfl, two_al _ _ _⟩
  · have hlt2 : i - h.up.length < h.dn.length := by omega
    have hL := hdn hlt hlt2
    obtain ⟨ad, hA, cc⟩ := (HM.out.below w0).at_ hlt2
    rw [← hL] at cc
    obtain ⟨c0, c1, c2, c3⟩ := four_cells cc
    clear hup hdn cc hL
    generalize h.up.length = n2 at *
    generalize h.dn.length = n4 at *
    obtain ⟨x0, x1, x2, x3⟩ := L
    dsimp only at c0 c1 c2 c3
    rw [hA] at *
    clear hA
    have g1 : decide ((i : Int) < (n2 : Int)) = false := decide_eq_false (by omega)
    have w1 : IntKind.i64.wrap ((i : Int) - (n2 : Int)) = (i : Int) - (n2 : Int) := by rw [IntKind.wrap_i64]; omega
    have w2 : ((i : Int) - (n2 : Int)).toNat = i - n2 := by omega
    have w3 : (0 : Int) ≤ (i : Int) - (n2 : Int) := by omega
    have w4 : (i : Int) - (n2 : Int) < (n4 : Int) := by omega
    go_enter Try.func56, Try.ntmps56
    go_wp2_with fail
    go_returns
    exact ⟨rfl, two_al _ _ _⟩
/-- an arc: tail, head, and the rank at which the link stands -/
def endT (h : HierT) (rk : List Int) (i : Nat) : Int × Int × Int := if i < h.up.length then (rk.getD i 0, (lkAt h i).to, rk.getD i 0) else ((lkAt h i).to, rk.getD i 0, rk.getD i 0)
set_option maxRecDepth 100000 in
theorem field_to (x0 x2 x3 x1 : Int) (w : World) : (Instr.field 68 (.agg #[.int .u32 x0, .int .u64 x1, .int .u32 x2, .int .u32 x3]) 0).run Try.prog w = .ok (.int .u32 x0) w := by
  kernel_rfl
set_option maxRecDepth 100000 in
theorem EndOf_any (k : HV) (h : HierT) (B : Option Addr) (n cb i : Nat) (rk : List Int) (W : World) (hp : RdH W k h) (hs : Small k h) (hi : i < h.up.length + h.dn.length) (hm : h.up.length + h.dn.length ≤ 1048576) (hr : Stp.RdI W B n rk) (hin : i < n) (hto : In32 (lkAt h i).to) :
    Calls Try.prog 58 #[hierV k h, .slice B n cb, .int .i64 i] W fun e w' => e = .returned (.agg #[.int .i64 (endT h rk i).1, .int .i64 (endT h rk i).2.1, .int .i64 (endT h rk i).2.2]) ∧ Below W.heap.size W w' := by
  have HLK : Hid (∀ w, Below W.heap.size W w → Calls Try.prog 56 #[hierV k h, .int .i64 i] w fun e w' => e = .returned (linkV (lkAt h i)) ∧ Below w.heap.size w w') := Lib.hid fun w hb => Link_any k h i w (hp.below hb) hs hi hm
  have HR := Lib.hid hr
  have HE : Hid (endT h rk i = endT h rk i) := Lib.hid rfl
  have hE1 : i < h.up.length → endT h rk i = (rk.getD i 0, ((lkAt h i).to : Int), rk.getD i 0) := fun e => by unfold endT; rw [if_pos e]
  have hE2 : ¬ i < h.up.length → endT h rk i = (((lkAt h i).to : Int), rk.getD i 0, rk.getD i 0) := fun e => by unfold endT; rw [if_neg e]
  have hgd : rk.getD i 0 = rk.getD i 0 := rfl
  have hrl : rk.length = n := HR.out.1
  have hget : rk[i]? = some (rk.getD i 0) := by rw [List.getD_eq_getElem?_getD, List.getElem?_eq_getElem (by omega)]; rfl
  have HGET := Lib.hid hget
  clear hp hs hr hget hgd HE
  generalize endT h rk i = E at *
  generalize rk.getD i 0 = rv at *
  unfold In32 at hto
  unfold hierV linkV at *
  generalize lkAt h i = L at *
  obtain ⟨x0, x1, x2, x3⟩ := L
  dsimp only at *
  have w0 : IntKind.i64.wrap (x0 : Int) = x0 := by rw [IntKind.wrap_i64]; omega
  have hcr : ∀ w, Below W.heap.size W w → ∃ ad, B = some ad ∧ w.cell? (ad.add i) = some (.int .i64 rv) := fun w hb => by
    obtain ⟨ad, hA, hc⟩ := (HR.out.below hb).2 (by omega)
    have := hc i _ 0 _ HGET.out rfl
    rw [Nat.mul_one, Nat.add_zero] at this
    exact ⟨ad, hA, this⟩
  have HCR := Lib.hid hcr
  clear hcr hrl
  generalize h.node.length = n0 at *
  generalize h.uf.length = n1 at *
  generalize h.up.length = n2 at *
  generalize h.df.length = n3 at *
  generalize h.dn.length = n4 at *
  by_cases hlt : i < n2
  · have HEE := Lib.hid (hE1 hlt)
    have g1 : decide ((i : Int) < (n2 : Int)) = true := decide_eq_true (by omega)
    clear hE1 hE2
    go_enter Try.func58, Try.ntmps58
    go_wp2_with fail
    have hb2 : Below W.heap.size W ((W.alloc (.cells #[.slice k.a0 n0 k.c0, .slice k.a1 n1 k.c1, .slice k.a2 n2 k.c2, .slice k.a3 n3 k.c3, .slice k.a4 n4 k.c4] 25)).alloc (.cells #[.int .i64 0, .int .i64 0, .int .i64 0] 119)) := two_al _ _ _
    have hca : Cells ((W.alloc (.cells #[.slice k.a0 n0 k.c0, .slice k.a1 n1 k.c1, .slice k.a2 n2 k.c2, .slice k.a3 n3 k.c3, .slice k.a4 n4 k.c4] 25)).alloc (.cells #[.int .i64 0, .int .i64 0, .int .i64 0] 119)) W.heap.size #[.slice k.a0 n0 k.c0, .slice k.a1 n1 k.c1, .slice k.a2 n2 k.c2, .slice k.a3 n3 k.c3, .slice k.a4 n4 k.c4] 25 := (cells_new W _ _).below ((Below.refl _ _).alloc (Nat.le_refl _) _)
    have hcb : Cells ((W.alloc (.cells #[.slice k.a0 n0 k.c0, .slice k.a1 n1 k.c1, .slice k.a2 n2 k.c2, .slice k.a3 n3 k.c3, .slice k.a4 n4 k.c4] 25)).alloc (.cells #[.int .i64 0, .int .i64 0, .int .i64 0] 119)) (W.heap.size + 1) #[.int .i64 0, .int .i64 0, .int .i64 0] 119 := by have := cells_new (W.alloc (.cells #[.slice k.a0 n0 k.c0, .slice k.a1 n1 k.c1, .slice k.a2 n2 k.c2, .slice k.a3 n3 k.c3, .slice k.a4 n4 k.c4] 25)) #[.int .i64 0, .int .i64 0, .int .i64 0] 119; rwa [size_alloc] at this
    generalize (W.alloc (.cells #[.slice k.a0 n0 k.c0, .slice k.a1 n1 k.c1, .slice k.a2 n2 k.c2, .slice k.a3 n3 k.c3, .slice k.a4 n4 k.c4] 25)).alloc (.cells #[.int .i64 0, .int .i64 0, .int .i64 0] 119) = W2 at *
    refine (HLK.out W2 hb2).mono ?_
    rintro e w3 ⟨rfl, hb3⟩
    have hx3 : Below W.heap.size W w3 := hb2.trans (hb3.mono hb2.size)
    have hca3 := hca.below hb3
    have hcb3 := hcb.below hb3
    have b2 : w3.cell? ⟨W.heap.size, 2, none⟩ = some (.slice k.a2 n2 k.c2) := hca3.cell 2
    obtain ⟨ad, hA, cr⟩ := HCR.out w3 hx3
    rw [hA]
    have z0 : w3.cell? ⟨W.heap.size + 1, 0, none⟩ = some (.int .i64 0) := hcb3.cell 0
    have z1 : w3.cell? ⟨W.heap.size + 1, 1, none⟩ = some (.int .i64 0) := hcb3.cell 1
    have z2 : w3.cell? ⟨W.heap.size + 1, 2, none⟩ = some (.int .i64 0) := hcb3.cell 2
    have f0 := hcb3.frozen 0
    have f1 := hcb3.frozen 1
    have f2 := hcb3.frozen 2
    have HX3 := Lib.hid hx3
    have HCB3 := Lib.hid hcb3
    have i1 : (0 : Int) ≤ (i : Int) := by omega
    have i2 : (i : Int) < (n : Int) := by omega
    have hfd := field_to (x0 : Int) (x2 : Int) (x3 : Int) x1 w3
    clear hb2 hca hcb hb3 hx3 hca3 hcb3 hA
    go_wp2_with go_region
    all_goals
      have hfin := (((HCB3.out.set_ 0 (.int .i64 rv)).set_ 1 (.int .i64 (x0 : Int))).set_ 2 (.int .i64 rv)).below (Below.drew (Below.refl _ _))
      have hbel : Below W.heap.size W (((w3.setCell ⟨W.heap.size + 1, 0, none⟩ (.int .i64 rv)).setCell ⟨W.heap.size + 1, 1, none⟩ (.int .i64 (x0 : Int))).setCell ⟨W.heap.size + 1, 2, none⟩ (.int .i64 rv)).drew := Below.drew (((HX3.out.setCell (p := ⟨W.heap.size + 1, 0, none⟩) (by simp) _).setCell (p := ⟨W.heap.size + 1, 1, none⟩) (by simp) _).setCell (p := ⟨W.heap.size + 1, 2, none⟩) (by simp) _)
      generalize (((w3.setCell ⟨W.heap.size + 1, 0, none⟩ (.int .i64 rv)).setCell ⟨W.heap.size + 1, 1, none⟩ (.int .i64 (x0 : Int))).setCell ⟨W.heap.size + 1, 2, none⟩ (.int .i64 rv)).drew = wz at *
      have r0 : wz.cell? ⟨W.heap.size + 1, 0, none⟩ = some (.int .i64 rv) := hfin.cell 0
      have r1 : wz.cell? ⟨W.heap.size + 1, 1, none⟩ = some (.int .i64 (x0 : Int)) := hfin.cell 1
      have r2 : wz.cell? ⟨W.heap.size + 1, 2, none⟩ = some (.int .i64 rv) := hfin.cell 2
      refine bodyPost_ret (by simp [results, Try.results58, go_sem, r0, r1, r2]; try rfl) rfl ?_
      exact ⟨by rw [HEE.out]; try rfl, hbel⟩
  · have HEE := Lib.hid (hE2 hlt)
    have g1 : decide ((i : Int) < (n2 : Int)) = false := decide_eq_false (by omega)
    clear hE1 hE2
    go_enter Try.func58, Try.ntmps58
    go_wp2_with fail
    have hb2 : Below W.heap.size W ((W.alloc (.cells #[.slice k.a0 n0 k.c0, .slice k.a1 n1 k.c1, .slice k.a2 n2 k.c2, .slice k.a3 n3 k.c3, .slice k.a4 n4 k.c4] 25)).alloc (.cells #[.int .i64 0, .int .i64 0, .int .i64 0] 119)) := two_al _ _ _
    have hca : Cells ((W.alloc (.cells #[.slice k.a0 n0 k.c0, .slice k.a1 n1 k.c1, .slice k.a2 n2 k.c2, .slice k.a3 n3 k.c3, .slice k.a4 n4 k.c4] 25)).alloc (.cells #[.int .i64 0, .int .i64 0, .int .i64 0] 119)) W.heap.size #[.slice k.a0 n0 k.c0, .slice k.a1 n1 k.c1, .slice k.a2 n2 k.c2, .slice k.a3 n3 k.c3, .slice k.a4 n4 k.c4] 25 := (cells_new W _ _).below ((Below.refl _ _).alloc (Nat.le_refl _) _)
    have hcb : Cells ((W.alloc (.cells #[.slice k.a0 n0 k.c0, .slice k.a1 n1 k.c1, .slice k.a2 n2 k.c2, .slice k.a3 n3 k.c3, .slice k.a4 n4 k.c4] 25)).alloc (.cells #[.int .i64 0, .int .i64 0, .int .i64 0] 119)) (W.heap.size + 1) #[.int .i64 0, .int .i64 0, .int .i64 0] 119 := by have := cells_new (W.alloc (.cells #[.slice k.a0 n0 k.c0, .slice k.a1 n1 k.c1, .slice k.a2 n2 k.c2, .slice k.a3 n3 k.c3, .slice k.a4 n4 k.c4] 25)) #[.int .i64 0, .int .i64 0, .int .i64 0] 119; rwa [size_alloc] at this
    generalize (W.alloc (.cells #[.slice k.a0 n0 k.c0, .slice k.a1 n1 k.c1, .slice k.a2 n2 k.c2, .slice k.a3 n3 k.c3, .slice k.a4 n4 k.c4] 25)).alloc (.cells #[.int .i64 0, .int .i64 0, .int .i64 0] 119) = W2 at *
    refine (HLK.out W2 hb2).mono ?_
    rintro e w3 ⟨rfl, hb3⟩
    have hx3 : Below W.heap.size W w3 := hb2.trans (hb3.mono hb2.size)
    have hca3 := hca.below hb3
    have hcb3 := hcb.below hb3
    have b2 : w3.cell? ⟨W.heap.size, 2, none⟩ = some (.slice k.a2 n2 k.c2) := hca3.cell 2
    obtain ⟨ad, hA, cr⟩ := HCR.out w3 hx3
    rw [hA]
    have z0 : w3.cell? ⟨W.heap.size + 1, 0, none⟩ = some (.int .i64 0) := hcb3.cell 0
    have z1 : w3.cell? ⟨W.heap.size + 1, 1, none⟩ = some (.int .i64 0) := hcb3.cell 1
    have z2 : w3.cell? ⟨W.heap.size + 1, 2, none⟩ = some (.int .i64 0) := hcb3.cell 2
    have f0 := hcb3.frozen 0
    have f1 := hcb3.frozen 1
    have f2 := hcb3.frozen 2
    have HX3 := Lib.hid hx3
    have HCB3 := Lib.hid hcb3
    have i1 : (0 : Int) ≤ (i : Int) := by omega
    have i2 : (i : Int) < (n : Int) := by omega
    have hfd := field_to (x0 : Int) (x2 : Int) (x3 : Int) x1 w3
    clear hb2 hca hcb hb3 hx3 hca3 hcb3 hA
    go_wp2_with go_region
    all_goals
      have hfin := (((HCB3.out.set_ 0 (.int .i64 (x0 : Int))).set_ 1 (.int .i64 rv)).set_ 2 (.int .i64 rv)).below (Below.drew (Below.refl _ _))
      have hbel : Below W.heap.size W (((w3.setCell ⟨W.heap.size + 1, 0, none⟩ (.int .i64 (x0 : Int))).setCell ⟨W.heap.size + 1, 1, none⟩ (.int .i64 rv)).setCell ⟨W.heap.size + 1, 2, none⟩ (.int .i64 rv)).drew := Below.drew (((HX3.out.setCell (p := ⟨W.heap.size + 1, 0, none⟩) (by simp) _).setCell (p := ⟨W.heap.size + 1, 1, none⟩) (by simp) _).setCell (p := ⟨W.heap.size + 1, 2, none⟩) (by simp) _)
      generalize (((w3.setCell ⟨W.heap.size + 1, 0, none⟩ (.int .i64 (x0 : Int))).setCell ⟨W.heap.size + 1, 1, none⟩ (.int .i64 rv)).setCell ⟨W.heap.size + 1, 2, none⟩ (.int .i64 rv)).drew = wz at *
      have r0 : wz.cell? ⟨W.heap.size + 1, 0, none⟩ = some (.int .i64 (x0 : Int)) := hfin.cell 0
      have r1 : wz.cell? ⟨W.heap.size + 1, 1, none⟩ = some (.int .i64 rv) := hfin.cell 1
      have r2 : wz.cell? ⟨W.heap.size + 1, 2, none⟩ = some (.int .i64 rv) := hfin.cell 2
      refine bodyPost_ret (by simp [results, Try.results58, go_sem, r0, r1, r2]; try rfl) rfl ?_
      exact ⟨by rw [HEE.out]; try rfl, hbel⟩
end Go.Proofs.Ytkcnnamghpdplaa

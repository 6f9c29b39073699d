/- Several texts in one (squeeze.py): Cl17 Cl18 Cl19. -/
import Derived.Test.YtkcnnamghpdplaaDoorClC
/- The link of a number; the link as an arc. -/
set_option linter.unusedSimpArgs false
set_option linter.unusedVariables false
namespace Go.Proofs.YtkcnnamghpdplaaDoor
open Go.RowKit

def lkAt (h : HierT) (i : Nat) : Lk := (h.up ++ h.dn).getD i ⟨0, 0, 0, 0⟩
theorem lkAt_up {h : HierT} {i : Nat} (hi : i < h.up.length) : lkAt h i = h.up[i] := by
  unfold lkAt
  rw [List.getD_eq_getElem?_getD, List.getElem?_append_left hi, List.getElem?_eq_getElem hi]
  rfl
theorem lkAt_dn {h : HierT} {i : Nat} (hi : ¬ i < h.up.length) (h2 : i - h.up.length < h.dn.length) : lkAt h i = h.dn[i - h.up.length] := by
  unfold lkAt
  rw [List.getD_eq_getElem?_getD, List.getElem?_append_right (by omega), List.getElem?_eq_getElem h2]
  rfl
set_option maxRecDepth 100000 in
theorem Link_any (k : HV) (h : HierT) (i : Nat) (W : World) (hp : RdH W k h) (hs : Small k h) (hi : i < h.up.length + h.dn.length) (hm : h.up.length + h.dn.length ≤ 1048576) :
    Calls Tryd.prog 58 #[hierV k h, .int .i64 i] W fun e w' => e = .returned (linkV (lkAt h i)) ∧ Below W.heap.size W w' := by
  have HL := Lib.hid hp.r2
  have HM := Lib.hid hp.r4
  have HI := Lib.hid hi
  have hup := @lkAt_up h i
  have hdn := @lkAt_dn h i
  clear hp hs
  generalize lkAt h i = L at *
  unfold hierV
  have w0 : Below W.heap.size W ((W.alloc (.cells #[.slice k.a0 h.node.length k.c0, .slice k.a1 h.uf.length k.c1, .slice k.a2 h.up.length k.c2, .slice k.a3 h.df.length k.c3, .slice k.a4 h.dn.length k.c4] 25)).alloc (.cells #[.int .u32 0, .int .u64 0, .int .u32 0, .int .u32 0] 52)) := two_al _ _ _
  by_cases hlt : i < h.up.length
  · have hL := hup hlt
    obtain ⟨ad, hA, cc⟩ := (HL.out.below w0).at_ hlt
    rw [← hL] at cc
    obtain ⟨c0, c1, c2, c3⟩ := four_cells cc
    clear hup hdn cc hL
    generalize h.up.length = n2 at *
    generalize h.dn.length = n4 at *
    obtain ⟨x0, x1, x2, x3⟩ := L
    dsimp only at c0 c1 c2 c3
    rw [hA] at *
    clear hA
    have g1 : decide ((i : Int) < (n2 : Int)) = true := decide_eq_true (by omega)
    go_enter Tryd.func58, Tryd.ntmps58
    go_wp2_with fail
    go_returns
    exact ⟨rfl, two_al _ _ _⟩
  · have hlt2 : i - h.up.length < h.dn.length := by omega
    have hL := hdn hlt hlt2
    obtain ⟨ad, hA, cc⟩ := (HM.out.below w0).at_ hlt2
    rw [← hL] at cc
    obtain ⟨c0, c1, c2, c3⟩ := four_cells cc
    clear hup hdn cc hL
    generalize h.up.length = n2 at *
    generalize h.dn.length = n4 at *
    obtain ⟨x0, x1, x2, x3⟩ := L
    dsimp only at c0 c1 c2 c3
    rw [hA] at *
    clear hA
    have g1 : decide ((i : Int) < (n2 : Int)) = false := decide_eq_false (by omega)
    have w1 : IntKind.i64.wrap ((i : Int) - (n2 : Int)) = (i : Int) - (n2 : Int) := by rw [IntKind.wrap_i64]; omega
    have w2 : ((i : Int) - (n2 : Int)).toNat = i - n2 := by omega
    have w3 : (0 : Int) ≤ (i : Int) - (n2 : Int) := by omega
    have w4 : (i : Int) - (n2 : Int) < (n4 : Int) := by omega
    go_enter Tryd.func58, Tryd.ntmps58
    go_wp2_with fail
    go_returns
    exact ⟨rfl, two_al _ _ _⟩
/-- an arc: tail, head, and the rank at which the link stands -/
def endT (h : HierT) (rk : List Int) (i : Nat) : Int × Int × Int := if i < h.up.length then (rk.getD i 0, (lkAt h i).to, rk.getD i 0) else ((lkAt h i).to, rk.getD i 0, rk.getD i 0)
set_option maxRecDepth 100000 in
theorem field_to (x0 x2 x3 x1 : Int) (w : World) : (Instr.field 52 (.agg #[.int .u32 x0, .int .u64 x1, .int .u32 x2, .int .u32 x3]) 0).run Tryd.prog w = .ok (.int .u32 x0) w := by
  kernel_rfl
set_option maxRecDepth 100000 in
theorem EndOf_any (k : HV) (h : HierT) (B : Option Addr) (n cb i : Nat) (rk : List Int) (W : World) (hp : RdH W k h) (hs : Small k h) (hi : i < h.up.length + h.dn.length) (hm : h.up.length + h.dn.length ≤ 1048576) (hr : Stp.RdI W B n rk) (hin : i < n) (hto : In32 (lkAt h i).to) :
    Calls Tryd.prog 60 #[hierV k h, .slice B n cb, .int .i64 i] W fun e w' => e = .returned (.agg #[.int .i64 (endT h rk i).1, .int .i64 (endT h rk i).2.1, .int .i64 (endT h rk i).2.2]) ∧ Below W.heap.size W w' := by
  have HLK : Hid (∀ w, Below W.heap.size W w → Calls Tryd.prog 58 #[hierV k h, .int .i64 i] w fun e w' => e = .returned (linkV (lkAt h i)) ∧ Below w.heap.size w w') := Lib.hid fun w hb => Link_any k h i w (hp.below hb) hs hi hm
  have HR := Lib.hid hr
  have HE : Hid (endT h rk i = endT h rk i) := Lib.hid rfl
  have hE1 : i < h.up.length → endT h rk i = (rk.getD i 0, ((lkAt h i).to : Int), rk.getD i 0) := fun e => by unfold endT; rw [if_pos e]
  have hE2 : ¬ i < h.up.length → endT h rk i = (((lkAt h i).to : Int), rk.getD i 0, rk.getD i 0) := fun e => by unfold endT; rw [if_neg e]
  have hgd : rk.getD i 0 = rk.getD i 0 := rfl
  have hrl : rk.length = n := HR.out.1
  have hget : rk[i]? = some (rk.getD i 0) := by rw [List.getD_eq_getElem?_getD, List.getElem?_eq_getElem (by omega)]; rfl
  have HGET := Lib.hid hget
  clear hp hs hr hget hgd HE
  generalize endT h rk i = E at *
  generalize rk.getD i 0 = rv at *
  unfold In32 at hto
  unfold hierV linkV at *
  generalize lkAt h i = L at *
  obtain ⟨x0, x1, x2, x3⟩ := L
  dsimp only at *
  have w0 : IntKind.i64.wrap (x0 : Int) = x0 := by rw [IntKind.wrap_i64]; omega
  have hcr : ∀ w, Below W.heap.size W w → ∃ ad, B = some ad ∧ w.cell? (ad.add i) = some (.int .i64 rv) := fun w hb => by
    obtain ⟨ad, hA, hc⟩ := (HR.out.below hb).2 (by omega)
    have := hc i _ 0 _ HGET.out rfl
    rw [Nat.mul_one, Nat.add_zero] at this
    exact ⟨ad, hA, this⟩
  have HCR := Lib.hid hcr
  clear hcr hrl
  generalize h.node.length = n0 at *
  generalize h.uf.length = n1 at *
  generalize h.up.length = n2 at *
  generalize h.df.length = n3 at *
  generalize h.dn.length = n4 at *
  by_cases hlt : i < n2
  · have HEE := Lib.hid (hE1 hlt)
    have g1 : decide ((i : Int) < (n2 : Int)) = true := decide_eq_true (by omega)
    clear hE1 hE2
    go_enter Tryd.func60, Tryd.ntmps60
    go_wp2_with fail
    have hb2 : Below W.heap.size W ((W.alloc (.cells #[.slice k.a0 n0 k.c0, .slice k.a1 n1 k.c1, .slice k.a2 n2 k.c2, .slice k.a3 n3 k.c3, .slice k.a4 n4 k.c4] 25)).alloc (.cells #[.int .i64 0, .int .i64 0, .int .i64 0] 123)) := two_al _ _ _
    have hca : Cells ((W.alloc (.cells #[.slice k.a0 n0 k.c0, .slice k.a1 n1 k.c1, .slice k.a2 n2 k.c2, .slice k.a3 n3 k.c3, .slice k.a4 n4 k.c4] 25)).alloc (.cells #[.int .i64 0, .int .i64 0, .int .i64 0] 123)) W.heap.size #[.slice k.a0 n0 k.c0, .slice k.a1 n1 k.c1, .slice k.a2 n2 k.c2, .slice k.a3 n3 k.c3, .slice k.a4 n4 k.c4] 25 := (cells_new W _ _).below ((Below.refl _ _).alloc (Nat.le_refl _) _)
    have hcb : Cells ((W.alloc (.cells #[.slice k.a0 n0 k.c0, .slice k.a1 n1 k.c1, .slice k.a2 n2 k.c2, .slice k.a3 n3 k.c3, .slice k.a4 n4 k.c4] 25)).alloc (.cells #[.int .i64 0, .int .i64 0, .int .i64 0] 123)) (W.heap.size + 1) #[.int .i64 0, .int .i64 0, .int .i64 0] 123 := by have := cells_new (W.alloc (.cells #[.slice k.a0 n0 k.c0, .slice k.a1 n1 k.c1, .slice k.a2 n2 k.c2, .slice k.a3 n3 k.c3, .slice k.a4 n4 k.c4] 25)) #[.int .i64 0, .int .i64 0, .int .i64 0] 123; rwa [size_alloc] at this
    generalize (W.alloc (.cells #[.slice k.a0 n0 k.c0, .slice k.a1 n1 k.c1, .slice k.a2 n2 k.c2, .slice k.a3 n3 k.c3, .slice k.a4 n4 k.c4] 25)).alloc (.cells #[.int .i64 0, .int .i64 0, .int .i64 0] 123) = W2 at *
    refine (HLK.out W2 hb2).mono ?_
    rintro e w3 ⟨rfl, hb3⟩
    have hx3 : Below W.heap.size W w3 := hb2.trans (hb3.mono hb2.size)
    have hca3 := hca.below hb3
    have hcb3 := hcb.below hb3
    have b2 : w3.cell? ⟨W.heap.size, 2, none⟩ = some (.slice k.a2 n2 k.c2) := hca3.cell 2
    obtain ⟨ad, hA, cr⟩ := HCR.out w3 hx3
    rw [hA]
    have z0 : w3.cell? ⟨W.heap.size + 1, 0, none⟩ = some (.int .i64 0) := hcb3.cell 0
    have z1 : w3.cell? ⟨W.heap.size + 1, 1, none⟩ = some (.int .i64 0) := hcb3.cell 1
    have z2 : w3.cell? ⟨W.heap.size + 1, 2, none⟩ = some (.int .i64 0) := hcb3.cell 2
    have f0 := hcb3.frozen 0
    have f1 := hcb3.frozen 1
    have f2 := hcb3.frozen 2
    have HX3 := Lib.hid hx3
    have HCB3 := Lib.hid hcb3
    have i1 : (0 : Int) ≤ (i : Int) := by omega
    have i2 : (i : Int) < (n : Int) := by omega
    have hfd := field_to (x0 : Int) (x2 : Int) (x3 : Int) x1 w3
    clear hb2 hca hcb hb3 hx3 hca3 hcb3 hA
    go_wp2_with go_region
    all_goals
      have hfin := (((HCB3.out.set_ 0 (.int .i64 rv)).set_ 1 (.int .i64 (x0 : Int))).set_ 2 (.int .i64 rv)).below (Below.drew (Below.refl _ _))
      have hbel : Below W.heap.size W (((w3.setCell ⟨W.heap.size + 1, 0, none⟩ (.int .i64 rv)).setCell ⟨W.heap.size + 1, 1, none⟩ (.int .i64 (x0 : Int))).setCell ⟨W.heap.size + 1, 2, none⟩ (.int .i64 rv)).drew := Below.drew (((HX3.out.setCell (p := ⟨W.heap.size + 1, 0, none⟩) (by simp) _).setCell (p := ⟨W.heap.size + 1, 1, none⟩) (by simp) _).setCell (p := ⟨W.heap.size + 1, 2, none⟩) (by simp) _)
      generalize (((w3.setCell ⟨W.heap.size + 1, 0, none⟩ (.int .i64 rv)).setCell ⟨W.heap.size + 1, 1, none⟩ (.int .i64 (x0 : Int))).setCell ⟨W.heap.size + 1, 2, none⟩ (.int .i64 rv)).drew = wz at *
      have r0 : wz.cell? ⟨W.heap.size + 1, 0, none⟩ = some (.int .i64 rv) := hfin.cell 0
      have r1 : wz.cell? ⟨W.heap.size + 1, 1, none⟩ = some (.int .i64 (x0 : Int)) := hfin.cell 1
      have r2 : wz.cell? ⟨W.heap.size + 1, 2, none⟩ = some (.int .i64 rv) := hfin.cell 2
      refine bodyPost_ret (by simp [results, Tryd.results60, go_sem, r0, r1, r2]; try rfl) rfl ?_
      exact ⟨by rw [HEE.out]; try rfl, hbel⟩
  · have HEE := Lib.hid (hE2 hlt)
    have g1 : decide ((i : Int) < (n2 : Int)) = false := decide_eq_false (by omega)
    clear hE1 hE2
    go_enter Tryd.func60, Tryd.ntmps60
    go_wp2_with fail
    have hb2 : Below W.heap.size W ((W.alloc (.cells #[.slice k.a0 n0 k.c0, .slice k.a1 n1 k.c1, .slice k.a2 n2 k.c2, .slice k.a3 n3 k.c3, .slice k.a4 n4 k.c4] 25)).alloc (.cells #[.int .i64 0, .int .i64 0, .int .i64 0] 123)) := two_al _ _ _
    have hca : Cells ((W.alloc (.cells #[.slice k.a0 n0 k.c0, .slice k.a1 n1 k.c1, .slice k.a2 n2 k.c2, .slice k.a3 n3 k.c3, .slice k.a4 n4 k.c4] 25)).alloc (.cells #[.int .i64 0, .int .i64 0, .int .i64 0] 123)) W.heap.size #[.slice k.a0 n0 k.c0, .slice k.a1 n1 k.c1, .slice k.a2 n2 k.c2, .slice k.a3 n3 k.c3, .slice k.a4 n4 k.c4] 25 := (cells_new W _ _).below ((Below.refl _ _).alloc (Nat.le_refl _) _)
    have hcb : Cells ((W.alloc (.cells #[.slice k.a0 n0 k.c0, .slice k.a1 n1 k.c1, .slice k.a2 n2 k.c2, .slice k.a3 n3 k.c3, .slice k.a4 n4 k.c4] 25)).alloc (.cells #[.int .i64 0, .int .i64 0, .int .i64 0] 123)) (W.heap.size + 1) #[.int .i64 0, .int .i64 0, .int .i64 0] 123 := by have := cells_new (W.alloc (.cells #[.slice k.a0 n0 k.c0, .slice k.a1 n1 k.c1, .slice k.a2 n2 k.c2, .slice k.a3 n3 k.c3, .slice k.a4 n4 k.c4] 25)) #[.int .i64 0, .int .i64 0, .int .i64 0] 123; rwa [size_alloc] at this
    generalize (W.alloc (.cells #[.slice k.a0 n0 k.c0, .slice k.a1 n1 k.c1, .slice k.a2 n2 k.c2, .slice k.a3 n3 k.c3, .slice k.a4 n4 k.c4] 25)).alloc (.cells #[.int .i64 0, .int .i64 0, .int .i64 0] 123) = W2 at *
    refine (HLK.out W2 hb2).mono ?_
    rintro e w3 ⟨rfl, hb3⟩
    have hx3 : Below W.heap.size W w3 := hb2.trans (hb3.mono hb2.size)
    have hca3 := hca.below hb3
    have hcb3 := hcb.below hb3
    have b2 : w3.cell? ⟨W.heap.size, 2, none⟩ = some (.slice k.a2 n2 k.c2) := hca3.cell 2
    obtain ⟨ad, hA, cr⟩ := HCR.out w3 hx3
    rw [hA]
    have z0 : w3.cell? ⟨W.heap.size + 1, 0, none⟩ = some (.int .i64 0) := hcb3.cell 0
    have z1 : w3.cell? ⟨W.heap.size + 1, 1, none⟩ = some (.int .i64 0) := hcb3.cell 1
    have z2 : w3.cell? ⟨W.heap.size + 1, 2, none⟩ = some (.int .i64 0) := hcb3.cell 2
    have f0 := hcb3.frozen 0
    have f1 := hcb3.frozen 1
    have f2 := hcb3.frozen 2
    have HX3 := Lib.hid hx3
    have HCB3 := Lib.hid hcb3
    have i1 : (0 : Int) ≤ (i : Int) := by omega
    have i2 : (i : Int) < (n : Int) := by omega
    have hfd := field_to (x0 : Int) (x2 : Int) (x3 : Int) x1 w3
    clear hb2 hca hcb hb3 hx3 hca3 hcb3 hA
    go_wp2_with go_region
    all_goals
      have hfin := (((HCB3.out.set_ 0 (.int .i64 (x0 : Int))).set_ 1 (.int .i64 rv)).set_ 2 (.int .i64 rv)).below (Below.drew (Below.refl _ _))
      have hbel : Below W.heap.size W (((w3.setCell ⟨W.heap.size + 1, 0, none⟩ (.int .i64 (x0 : Int))).setCell ⟨W.heap.size + 1, 1, none⟩ (.int .i64 rv)).setCell ⟨W.heap.size + 1, 2, none⟩ (.int .i64 rv)).drew := Below.drew (((HX3.out.setCell (p := ⟨W.heap.size + 1, 0, none⟩) (by simp) _).setCell (p := ⟨W.heap.size + 1, 1, none⟩) (by simp) _).setCell (p := ⟨W.heap.size + 1, 2, none⟩) (by simp) _)
      generalize (((w3.setCell ⟨W.heap.size + 1, 0, none⟩ (.int .i64 (x0 : Int))).setCell ⟨W.heap.size + 1, 1, none⟩ (.int .i64 rv)).setCell ⟨W.heap.size + 1, 2, none⟩ (.int .i64 rv)).drew = wz at *
      have r0 : wz.cell? ⟨W.heap.size + 1, 0, none⟩ = some (.int .i64 (x0 : Int)) := hfin.cell 0
      have r1 : wz.cell? ⟨W.heap.size + 1, 1, none⟩ = some (.int .i64 rv) := hfin.cell 1
      have r2 : wz.cell? ⟨W.heap.size + 1, 2, none⟩ = some (.int .i64 rv) := hfin.cell 2
      refine bodyPost_ret (by simp [results, Tryd.results60, go_sem, r0, r1, r2]; try rfl) rfl ?_
      exact ⟨by rw [HEE.out]; try rfl, hbel⟩
end Go.Proofs.YtkcnnamghpdplaaDoor
/- What is wrong with a hierarchy: one plain answer for the document and the program. No program in sight. -/
set_option linter.unusedSimpArgs false
set_option linter.unusedVariables false
namespace Go.Proofs.YtkcnnamghpdplaaDoor

/-- a link as an arc, and the rank at which it stands -/
structure EndS where
  lk : Lk
  tail : Nat
  head : Nat
  rank : Nat
def upEnds (f : List Nat) (ls : List Lk) (k : Nat) : List EndS := (List.range k).flatMap fun r => (seg f ls r).map fun l => ⟨l, r, l.to, r⟩
def dnEnds (f : List Nat) (ls : List Lk) (k : Nat) : List EndS := (List.range k).flatMap fun r => (seg f ls r).map fun l => ⟨l, l.to, r, r⟩
/-- all links, by their numbers -/
def endsT (h : HierT) : List EndS := upEnds h.uf h.up h.node.length ++ dnEnds h.df h.dn h.node.length
/-- the links in front of a rank: so many of the list -/
theorem segs_take {n m : Nat} {f : List Nat} {ls : List Lk} (h : Fst n f m) (hm : ls.length = m) : ∀ {k : Nat}, k ≤ n → (List.range k).flatMap (seg f ls) = ls.take (f.getD k 0) := by
  intro k
  induction k with
  | zero => intro _; rw [h.z]; simp
  | succ k ih =>
    intro hk
    have hmo := h.mono k (by omega)
    rw [List.range_succ, List.flatMap_append, ih (by omega)]
    unfold seg
    simp only [List.flatMap_cons, List.flatMap_nil, List.append_nil]
    rw [← List.take_add, show f.getD k 0 + (f.getD (k + 1) 0 - f.getD k 0) = f.getD (k + 1) 0 by omega]
theorem segs_all {n m : Nat} {f : List Nat} {ls : List Lk} (h : Fst n f m) (hm : ls.length = m) : (List.range n).flatMap (seg f ls) = ls := by
  rw [segs_take h hm (Nat.le_refl _), h.e, ← hm, List.take_length]
theorem upEnds_lk {n m : Nat} {f : List Nat} {ls : List Lk} (h : Fst n f m) (hm : ls.length = m) : (upEnds f ls n).map EndS.lk = ls := by
  unfold upEnds
  rw [List.map_flatMap]
  have e : (fun r => List.map EndS.lk (List.map (fun l => (⟨l, r, l.to, r⟩ : EndS)) (seg f ls r))) = seg f ls := by
    funext r
    rw [List.map_map]
    exact List.map_id _
  rw [e, segs_all h hm]
theorem dnEnds_lk {n m : Nat} {f : List Nat} {ls : List Lk} (h : Fst n f m) (hm : ls.length = m) : (dnEnds f ls n).map EndS.lk = ls := by
  unfold dnEnds
  rw [List.map_flatMap]
  have e : (fun r => List.map EndS.lk (List.map (fun l => (⟨l, l.to, r, r⟩ : EndS)) (seg f ls r))) = seg f ls := by
    funext r
    rw [List.map_map]
    exact List.map_id _
  rw [e, segs_all h hm]
theorem seg_len {n m : Nat} {f : List Nat} {ls : List Lk} (h : Fst n f m) (hm : ls.length = m) {r : Nat} (hr : r < n) : (seg f ls r).length = f.getD (r + 1) 0 - f.getD r 0 := by
  unfold seg
  rw [List.length_take, List.length_drop]
  have h1 := h.mono r hr
  have h2 := h.le (r := r + 1) (by omega)
  omega
theorem flatMap_ext {α : Type} {n : Nat} {p q : Nat → List α} (h : ∀ r, r < n → p r = q r) : (List.range n).flatMap p = (List.range n).flatMap q := by
  induction n with
  | zero => rfl
  | succ n ih => rw [List.range_succ, List.flatMap_append, List.flatMap_append, ih (fun r hr => h r (by omega))]; simp [h n (by omega)]
theorem upEnds_rank {n m : Nat} {f : List Nat} {ls : List Lk} (h : Fst n f m) (hm : ls.length = m) : (upEnds f ls n).map (fun e => (e.rank : Int)) = rankTo f n := by
  unfold upEnds rankTo
  rw [List.map_flatMap]
  refine flatMap_ext fun r hr => ?_
  rw [List.map_map, ← seg_len h hm hr]
  have e : ∀ l : List Lk, List.map (fun _ : Lk => (r : Int)) l = List.replicate l.length (r : Int) := fun l => by induction l with | nil => rfl | cons x l ih => rw [List.map_cons, ih]; rfl
  exact e _
theorem dnEnds_rank {n m : Nat} {f : List Nat} {ls : List Lk} (h : Fst n f m) (hm : ls.length = m) : (dnEnds f ls n).map (fun e => (e.rank : Int)) = rankTo f n := by
  unfold dnEnds rankTo
  rw [List.map_flatMap]
  refine flatMap_ext fun r hr => ?_
  rw [List.map_map, ← seg_len h hm hr]
  have e : ∀ l : List Lk, List.map (fun _ : Lk => (r : Int)) l = List.replicate l.length (r : Int) := fun l => by induction l with | nil => rfl | cons x l ih => rw [List.map_cons, ih]; rfl
  exact e _
def lkOf (h : HierT) (i : Nat) : Lk := (h.up ++ h.dn).getD i ⟨0, 0, 0, 0⟩
def rkOf (h : HierT) (i : Nat) : Int := (ranksT h).getD i 0
def headOf (h : HierT) (i : Nat) : Int := if i < h.up.length then (lkOf h i).to else rkOf h i
def tailOf (h : HierT) (i : Nat) : Int := if i < h.up.length then rkOf h i else (lkOf h i).to
/-- the form of the link i -/
def shapeB (h : HierT) (i : Nat) : Bool :=
  decide (((lkOf h i).to : Int) < h.node.length ∧ rkOf h i < (lkOf h i).to) &&
  !decide (0 < i ∧ i ≠ h.up.length ∧ rkOf h (i - 1) = rkOf h i ∧ (lkOf h i).to ≤ (lkOf h (i - 1)).to) &&
  (plainB (lkOf h i) ||
    decide (h.up.length ≤ (lkOf h i).l ∧ (lkOf h i).l < h.up.length + h.dn.length ∧ (lkOf h i).r < h.up.length ∧
      tailOf h (lkOf h i).l = tailOf h i ∧ headOf h (lkOf h i).r = headOf h i ∧ rkOf h (lkOf h i).l = rkOf h (lkOf h i).r))
/-- its weight -/
def weightB (h : HierT) (i : Nat) : Bool :=
  if plainB (lkOf h i) then decide ((lkOf h i).w ≤ 2147483647)
  else decide ((lkOf h i).w ≤ topI ∧ (lkOf h (lkOf h i).l).w ≤ topI ∧ (lkOf h (lkOf h i).r).w ≤ topI ∧ (lkOf h (lkOf h i).l).w + (lkOf h (lkOf h i).r).w = (lkOf h i).w)
def linkB (h : HierT) (i : Nat) : Option Int := if shapeB h i then (if weightB h i then none else some 8) else some 14
def linksB (h : HierT) : Bug := match (List.range (h.up.length + h.dn.length)).find? (fun i => (linkB h i).isSome) with
  | some i => (linkB h i).map fun c => (c, some (4, (i : Int)))
  | none => none
/-- what is wrong with a hierarchy -/
def chkB (h : HierT) : Bug :=
  if 65536 < h.node.length ∨ 1048576 < h.up.length + h.dn.length then some (9, none)
  else if h.uf.length ≠ h.node.length + 1 ∨ h.df.length ≠ h.node.length + 1 then some (14, none)
  else match firstsB h.uf h.node.length h.up.length with
    | some b => some b
    | none => match firstsB h.df h.node.length h.dn.length with
      | some b => some b
      | none => match orderB h.node h.node.length with
        | some b => some b
        | none => linksB h
end Go.Proofs.YtkcnnamghpdplaaDoor
/- A hierarchy in which nothing is wrong: both its sides are fit to be climbed. -/
set_option linter.unusedSimpArgs false
set_option linter.unusedVariables false
namespace Go.Proofs.YtkcnnamghpdplaaDoor

theorem at_map {α β : Type} {l : List α} {g : α → β} {m : List β} (h : l.map g = m) {i : Nat} (hi : i < l.length) : m[i]? = some (g l[i]) := by
  rw [← h, List.getElem?_map, List.getElem?_eq_getElem hi]
  rfl
theorem up_index {h : HierT} (hu : Fst h.node.length h.uf h.up.length) {r : Nat} {l : Lk} (hr : r < h.node.length) (hl : l ∈ seg h.uf h.up r) : ∃ i, i < h.up.length ∧ lkOf h i = l ∧ rkOf h i = r := by
  have hmem : (⟨l, r, l.to, r⟩ : EndS) ∈ upEnds h.uf h.up h.node.length := by
    unfold upEnds
    exact List.mem_flatMap.2 ⟨r, List.mem_range.2 hr, List.mem_map.2 ⟨l, hl, rfl⟩⟩
  obtain ⟨i, hi, he⟩ := List.mem_iff_getElem.1 hmem
  have h1 := at_map (upEnds_lk hu rfl) hi
  have h2 := at_map (upEnds_rank hu rfl) hi
  rw [he] at h1 h2
  have hlt : i < h.up.length := by
    have := congrArg List.length (upEnds_lk hu rfl)
    rw [List.length_map] at this
    omega
  have hrl := rankTo_len hu (Nat.le_refl _)
  rw [hu.e] at hrl
  refine ⟨i, hlt, ?_, ?_⟩
  · unfold lkOf
    rw [List.getD_eq_getElem?_getD, List.getElem?_append_left hlt, h1]
    rfl
  · unfold rkOf ranksT
    rw [List.getD_eq_getElem?_getD, List.getElem?_append_left (by omega), h2]
    rfl
theorem dn_index {h : HierT} (hu : Fst h.node.length h.uf h.up.length) (hd : Fst h.node.length h.df h.dn.length) {r : Nat} {l : Lk} (hr : r < h.node.length) (hl : l ∈ seg h.df h.dn r) : ∃ i, i < h.up.length + h.dn.length ∧ lkOf h i = l ∧ rkOf h i = r := by
  have hmem : (⟨l, l.to, r, r⟩ : EndS) ∈ dnEnds h.df h.dn h.node.length := by
    unfold dnEnds
    exact List.mem_flatMap.2 ⟨r, List.mem_range.2 hr, List.mem_map.2 ⟨l, hl, rfl⟩⟩
  obtain ⟨i, hi, he⟩ := List.mem_iff_getElem.1 hmem
  have h1 := at_map (dnEnds_lk hd rfl) hi
  have h2 := at_map (dnEnds_rank hd rfl) hi
  rw [he] at h1 h2
  have hlt : i < h.dn.length := by
    have := congrArg List.length (dnEnds_lk hd rfl)
    rw [List.length_map] at this
    omega
  have hrl := rankTo_len hu (Nat.le_refl _)
  rw [hu.e] at hrl
  refine ⟨h.up.length + i, by omega, ?_, ?_⟩
  · unfold lkOf
    rw [List.getD_eq_getElem?_getD, List.getElem?_append_right (by omega), Nat.add_sub_cancel_left, h1]
    rfl
  · unfold rkOf ranksT
    rw [List.getD_eq_getElem?_getD, List.getElem?_append_right (by omega), hrl, Nat.add_sub_cancel_left, h2]
    rfl
structure Sound (h : HierT) : Prop where
  n_le : h.node.length ≤ 65536
  m_le : h.up.length + h.dn.length ≤ 1048576
  u : Fst h.node.length h.uf h.up.length
  d : Fst h.node.length h.df h.dn.length
  links : ∀ i, i < h.up.length + h.dn.length → shapeB h i = true ∧ weightB h i = true
theorem Sound.of_none {h : HierT} (hc : chkB h = none) : Sound h := by
  unfold chkB at hc
  split at hc
  · cases hc
  · rename_i c1
    split at hc
    · cases hc
    · rename_i c2
      split at hc
      · cases hc
      · rename_i c3
        split at hc
        · cases hc
        · rename_i c4
          split at hc
          · cases hc
          · refine ⟨by omega, by omega, Fst.of_none (by omega) c3, Fst.of_none (by omega) c4, fun i hi => ?_⟩
            unfold linksB at hc
            split at hc
            · rename_i j hj
              have h1 := List.find?_some hj
              cases hlb : linkB h j with
              | none => rw [hlb] at h1; cases h1
              | some c => rw [hlb] at hc; cases hc
            · rename_i hn
              have h1 := List.find?_eq_none.1 hn i (List.mem_range.2 hi)
              unfold linkB at h1
              cases hs : shapeB h i with
              | false => rw [hs] at h1; simp at h1
              | true =>
                cases hw : weightB h i with
                | false => rw [hs, hw] at h1; simp at h1
                | true => exact ⟨rfl, rfl⟩
theorem Sound.link {h : HierT} (s : Sound h) {i : Nat} (hi : i < h.up.length + h.dn.length) : ((lkOf h i).to : Int) < h.node.length ∧ rkOf h i < (lkOf h i).to ∧ (lkOf h i).w ≤ topI := by
  obtain ⟨h1, h2⟩ := s.links i hi
  unfold shapeB at h1
  rw [Bool.and_eq_true, Bool.and_eq_true, decide_eq_true_eq] at h1
  refine ⟨h1.1.1.1, h1.1.1.2, ?_⟩
  unfold weightB at h2
  split at h2
  · have := of_decide_eq_true h2
    unfold topI
    omega
  · exact (of_decide_eq_true h2).1
theorem Sound.up {h : HierT} (s : Sound h) (hin : InH h) : Side h.node.length h.uf h.up := by
  refine ⟨s.u.fl, fun r hr => ⟨s.u.mono r hr, s.u.le (by omega)⟩, ⟨fun r l hr hl => ?_, fun r l hr hl => ?_⟩, s.n_le, by have := s.m_le; omega⟩
  · obtain ⟨i, hi, e1, e2⟩ := up_index s.u hr hl
    have := s.link (i := i) (by omega)
    rw [e1, e2] at this
    omega
  · obtain ⟨i, hi, e1, e2⟩ := up_index s.u hr hl
    have h1 := s.link (i := i) (by omega)
    rw [e1] at h1
    exact ⟨(hin.i2 l (List.mem_of_mem_drop (List.mem_of_mem_take hl))).w.1, h1.2.2⟩
theorem Sound.dn {h : HierT} (s : Sound h) (hin : InH h) : Side h.node.length h.df h.dn := by
  refine ⟨s.d.fl, fun r hr => ⟨s.d.mono r hr, s.d.le (by omega)⟩, ⟨fun r l hr hl => ?_, fun r l hr hl => ?_⟩, s.n_le, by have := s.m_le; omega⟩
  · obtain ⟨i, hi, e1, e2⟩ := dn_index s.u s.d hr hl
    have := s.link (i := i) (by omega)
    rw [e1, e2] at this
    omega
  · obtain ⟨i, hi, e1, e2⟩ := dn_index s.u s.d hr hl
    have h1 := s.link (i := i) (by omega)
    rw [e1] at h1
    exact ⟨(hin.i4 l (List.mem_of_mem_drop (List.mem_of_mem_take hl))).w.1, h1.2.2⟩
end Go.Proofs.YtkcnnamghpdplaaDoor

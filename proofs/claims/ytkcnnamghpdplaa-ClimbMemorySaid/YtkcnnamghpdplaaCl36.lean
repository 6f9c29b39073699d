/- ClimbMemory: the walk. -/
import Derived.Test.YtkcnnamghpdplaaCl33
import Derived.Test.YtkcnnamghpdplaaClRecs
import Derived.Deep.DeepCutAuto
import Derived.Deep.Upon
set_option linter.unusedSimpArgs false
set_option linter.unusedVariables false
namespace Go.Proofs.Ytkcnnamghpdplaa
open Go.RowKit

structure LawI (k q : HV) (h : HierT) (W : World) (G : Nat) (w : World) : Prop where
  below : Below W.heap.size W w
  hier : Cells w W.heap.size #[.slice k.a0 h.node.length k.c0, .slice k.a1 h.uf.length k.c1, .slice k.a2 h.up.length k.c2, .slice k.a3 h.df.length k.c3, .slice k.a4 h.dn.length k.c4] 25
  twin : Cells w G #[.slice q.a0 h.node.length q.c0, .slice q.a1 h.uf.length q.c1, .slice q.a2 h.up.length q.c2, .slice q.a3 h.df.length q.c3, .slice q.a4 h.dn.length q.c4] 25
  rd : RdH w q h
  lt : W.heap.size < G
theorem LawI.step {k q : HV} {h : HierT} {W w w' : World} {G : Nat} (i : LawI k q h W G w) (hb : Below w.heap.size w w') : LawI k q h W G w' :=
  ⟨i.below.trans (hb.mono i.below.size), i.hier.below hb, i.twin.below hb, i.rd.below hb, i.lt⟩
set_option maxRecDepth 100000 in
set_option maxHeartbeats 8000000 in
theorem ClimbMemory_any (k : HV) (h : HierT) (s : Int) (W : World) (hp : RdH W k h) (hs : Small k h) (hin : InH h) (hs0 : -9223372036854775808 ≤ s) (hs1 : s ≤ 9223372036854775807) :
    Calls Try.prog 3 #[hierV k h, .int .i64 s] W (BoolBelow true W) := by
  have HP := Lib.hid hp
  have HS := Lib.hid hs
  obtain ⟨L, hL, hLu, hLd⟩ := up_lists h s hin hs0 hs1
  obtain ⟨M, hM, hMu, hMd⟩ := dn_lists h s hin hs0 hs1
  have HLU := Lib.hid hLu
  have HLD := Lib.hid hLd
  have HMU := Lib.hid hMu
  have HMD := Lib.hid hMd
  clear hp hs hin hLu hLd hMu hMd
  unfold hierV
  go_enter Try.func3, Try.ntmps3
  refine wp_post_named' ?_
  intro Q0 hQ0
  have HQ0 := Lib.hid hQ0
  clear hQ0
  go_upto_region 1 with fail
  have hb1 := (Below.refl W.heap.size W).alloc (Nat.le_refl _) (.cells #[.slice k.a0 h.node.length k.c0, .slice k.a1 h.uf.length k.c1, .slice k.a2 h.up.length k.c2, .slice k.a3 h.df.length k.c3, .slice k.a4 h.dn.length k.c4] 25)
  have hc1 := cells_new W #[.slice k.a0 h.node.length k.c0, .slice k.a1 h.uf.length k.c1, .slice k.a2 h.up.length k.c2, .slice k.a3 h.df.length k.c3, .slice k.a4 h.dn.length k.c4] 25
  have hz1 : (W.alloc (.cells #[.slice k.a0 h.node.length k.c0, .slice k.a1 h.uf.length k.c1, .slice k.a2 h.up.length k.c2, .slice k.a3 h.df.length k.c3, .slice k.a4 h.dn.length k.c4] 25)).heap.size = W.heap.size + 1 := by simp
  generalize W.alloc (.cells #[.slice k.a0 h.node.length k.c0, .slice k.a1 h.uf.length k.c1, .slice k.a2 h.up.length k.c2, .slice k.a3 h.df.length k.c3, .slice k.a4 h.dn.length k.c4] 25) = w1 at *
  have HB1 := Lib.hid hb1
  have HC1 := Lib.hid hc1
  have HZ1 := Lib.hid hz1
  clear hb1 hc1 hz1
  go_wp2_with fail
  refine (awake_any w1).mono ?_
  rintro e w2 ⟨rfl, hb⟩
  have HB2 := Lib.hid (HB1.out.trans (hb.mono HB1.out.size))
  have HC2 := Lib.hid (HC1.out.below hb)
  have hx2 : W.heap.size + 1 ≤ w2.heap.size := by have := hb.size; have := HZ1.out; omega
  have HX2 := Lib.hid hx2
  clear hb HB1 HC1 HZ1 hx2
  have HG := Lib.hid (great_any k h w2 HS.out)
  unfold hierV at HG
  have d0 : w2.cell? ⟨W.heap.size, 0, none⟩ = some (.slice k.a0 h.node.length k.c0) := HC2.out.cell 0
  have d1 : w2.cell? ⟨W.heap.size, 1, none⟩ = some (.slice k.a1 h.uf.length k.c1) := HC2.out.cell 1
  have d2 : w2.cell? ⟨W.heap.size, 2, none⟩ = some (.slice k.a2 h.up.length k.c2) := HC2.out.cell 2
  have d3 : w2.cell? ⟨W.heap.size, 3, none⟩ = some (.slice k.a3 h.df.length k.c3) := HC2.out.cell 3
  have d4 : w2.cell? ⟨W.heap.size, 4, none⟩ = some (.slice k.a4 h.dn.length k.c4) := HC2.out.cell 4
  go_wp2_with fail
  refine HG.out.mono ?_
  rintro e w3 ⟨rfl, hb⟩
  have HB3 := Lib.hid (HB2.out.trans (hb.mono HB2.out.size))
  have HC3 := Lib.hid (HC2.out.below hb)
  have HX3 : Hid (W.heap.size + 1 ≤ w3.heap.size) := Lib.hid (Nat.le_trans HX2.out hb.size)
  clear hb d0 d1 d2 d3 d4 HB2 HC2 HX2 HG
  cases greatB h
  rotate_left
  · go_wp2_with fail
    rw [HQ0.out]
    go_ret
    exact ⟨rfl, HB3.out⟩
  have HTW := Lib.hid (Twin_any k h w3 (HP.out.below HB3.out) HS.out)
  unfold hierV at HTW
  have d0 : w3.cell? ⟨W.heap.size, 0, none⟩ = some (.slice k.a0 h.node.length k.c0) := HC3.out.cell 0
  have d1 : w3.cell? ⟨W.heap.size, 1, none⟩ = some (.slice k.a1 h.uf.length k.c1) := HC3.out.cell 1
  have d2 : w3.cell? ⟨W.heap.size, 2, none⟩ = some (.slice k.a2 h.up.length k.c2) := HC3.out.cell 2
  have d3 : w3.cell? ⟨W.heap.size, 3, none⟩ = some (.slice k.a3 h.df.length k.c3) := HC3.out.cell 3
  have d4 : w3.cell? ⟨W.heap.size, 4, none⟩ = some (.slice k.a4 h.dn.length k.c4) := HC3.out.cell 4
  go_wp2_with fail
  refine HTW.out.mono ?_
  rintro e w4 ⟨q, rfl, hrq, hsq, hb⟩
  have HB4 := Lib.hid (HB3.out.trans (hb.mono HB3.out.size))
  have HC4 := Lib.hid (HC3.out.below hb)
  have HX4 : Hid (W.heap.size + 1 ≤ w4.heap.size) := Lib.hid (Nat.le_trans HX3.out hb.size)
  have HRQ4 := Lib.hid hrq
  have HSQ := Lib.hid hsq
  clear hb d0 d1 d2 d3 d4 HB3 HC3 HX3 HTW hrq hsq
  unfold hierV
  go_upto_region 6 with fail
  have hb5 := (Below.refl w4.heap.size w4).alloc (Nat.le_refl _) (.cells #[.slice q.a0 h.node.length q.c0, .slice q.a1 h.uf.length q.c1, .slice q.a2 h.up.length q.c2, .slice q.a3 h.df.length q.c3, .slice q.a4 h.dn.length q.c4] 25)
  have hc5 := cells_new w4 #[.slice q.a0 h.node.length q.c0, .slice q.a1 h.uf.length q.c1, .slice q.a2 h.up.length q.c2, .slice q.a3 h.df.length q.c3, .slice q.a4 h.dn.length q.c4] 25
  have hi5 : LawI k q h W w4.heap.size (w4.alloc (.cells #[.slice q.a0 h.node.length q.c0, .slice q.a1 h.uf.length q.c1, .slice q.a2 h.up.length q.c2, .slice q.a3 h.df.length q.c3, .slice q.a4 h.dn.length q.c4] 25)) := ⟨HB4.out.trans (hb5.mono HB4.out.size), HC4.out.below hb5, hc5, HRQ4.out.below hb5, HX4.out⟩
  have hgl : w4.heap.size < (w4.alloc (.cells #[.slice q.a0 h.node.length q.c0, .slice q.a1 h.uf.length q.c1, .slice q.a2 h.up.length q.c2, .slice q.a3 h.df.length q.c3, .slice q.a4 h.dn.length q.c4] 25)).heap.size := by simp
  generalize w4.alloc (.cells #[.slice q.a0 h.node.length q.c0, .slice q.a1 h.uf.length q.c1, .slice q.a2 h.up.length q.c2, .slice q.a3 h.df.length q.c3, .slice q.a4 h.dn.length q.c4] 25) = w5 at *
  generalize w4.heap.size = G at *
  have HI5 := Lib.hid hi5
  have HGL := Lib.hid hgl
  clear hb5 hc5 hi5 hgl HB4 HC4 HX4 HRQ4
  have HCC := Lib.hid (HLU.out q w5 HI5.out.rd HSQ.out)
  unfold hierV at HCC
  have d0 : w5.cell? ⟨G, 0, none⟩ = some (.slice q.a0 h.node.length q.c0) := HI5.out.twin.cell 0
  have d1 : w5.cell? ⟨G, 1, none⟩ = some (.slice q.a1 h.uf.length q.c1) := HI5.out.twin.cell 1
  have d2 : w5.cell? ⟨G, 2, none⟩ = some (.slice q.a2 h.up.length q.c2) := HI5.out.twin.cell 2
  have d3 : w5.cell? ⟨G, 3, none⟩ = some (.slice q.a3 h.df.length q.c3) := HI5.out.twin.cell 3
  have d4 : w5.cell? ⟨G, 4, none⟩ = some (.slice q.a4 h.dn.length q.c4) := HI5.out.twin.cell 4
  go_wp2_with fail
  refine HCC.out.mono ?_
  rintro e w6 ⟨AA, cA, vA, rfl, ho, hb⟩
  have HI6 := Lib.hid (HI5.out.step hb)
  have HOA6 := Lib.hid ho
  have HBA : Hid (∀ k, (Value.slice AA L.length cA).ownBlock = some k → w5.heap.size ≤ k ∧ k < w6.heap.size) := Lib.hid fun k hk => ho.block hk
  have HS0 : Hid (w5.heap.size ≤ w6.heap.size) := Lib.hid hb.size
  clear hb ho d0 d1 d2 d3 d4 HCC HI5
  have HCC := Lib.hid (HLU.out q w6 HI6.out.rd HSQ.out)
  unfold hierV at HCC
  have d0 : w6.cell? ⟨G, 0, none⟩ = some (.slice q.a0 h.node.length q.c0) := HI6.out.twin.cell 0
  have d1 : w6.cell? ⟨G, 1, none⟩ = some (.slice q.a1 h.uf.length q.c1) := HI6.out.twin.cell 1
  have d2 : w6.cell? ⟨G, 2, none⟩ = some (.slice q.a2 h.up.length q.c2) := HI6.out.twin.cell 2
  have d3 : w6.cell? ⟨G, 3, none⟩ = some (.slice q.a3 h.df.length q.c3) := HI6.out.twin.cell 3
  have d4 : w6.cell? ⟨G, 4, none⟩ = some (.slice q.a4 h.dn.length q.c4) := HI6.out.twin.cell 4
  go_wp2_with fail
  refine HCC.out.mono ?_
  rintro e w7 ⟨AB, cB, vB, rfl, ho, hb⟩
  have HI7 := Lib.hid (HI6.out.step hb)
  have HOA7 := Lib.hid (HOA6.out.below hb)
  have HOB7 := Lib.hid ho
  have HBB : Hid (∀ k, (Value.slice AB L.length cB).ownBlock = some k → w6.heap.size ≤ k ∧ k < w7.heap.size) := Lib.hid fun k hk => ho.block hk
  have HS1 : Hid (w6.heap.size ≤ w7.heap.size) := Lib.hid hb.size
  clear hb ho d0 d1 d2 d3 d4 HCC HI6 HOA6
  have HCC := Lib.hid (HMU.out q w7 HI7.out.rd HSQ.out)
  unfold hierV at HCC
  have d0 : w7.cell? ⟨G, 0, none⟩ = some (.slice q.a0 h.node.length q.c0) := HI7.out.twin.cell 0
  have d1 : w7.cell? ⟨G, 1, none⟩ = some (.slice q.a1 h.uf.length q.c1) := HI7.out.twin.cell 1
  have d2 : w7.cell? ⟨G, 2, none⟩ = some (.slice q.a2 h.up.length q.c2) := HI7.out.twin.cell 2
  have d3 : w7.cell? ⟨G, 3, none⟩ = some (.slice q.a3 h.df.length q.c3) := HI7.out.twin.cell 3
  have d4 : w7.cell? ⟨G, 4, none⟩ = some (.slice q.a4 h.dn.length q.c4) := HI7.out.twin.cell 4
  go_wp2_with fail
  refine HCC.out.mono ?_
  rintro e w8 ⟨AC, cC, vC, rfl, ho, hb⟩
  have HI8 := Lib.hid (HI7.out.step hb)
  have HOA8 := Lib.hid (HOA7.out.below hb)
  have HOB8 := Lib.hid (HOB7.out.below hb)
  have HOC8 := Lib.hid ho
  have HBC : Hid (∀ k, (Value.slice AC M.length cC).ownBlock = some k → w7.heap.size ≤ k ∧ k < w8.heap.size) := Lib.hid fun k hk => ho.block hk
  have HS2 : Hid (w7.heap.size ≤ w8.heap.size) := Lib.hid hb.size
  clear hb ho d0 d1 d2 d3 d4 HCC HI7 HOA7 HOB7
  have HCC := Lib.hid (HMU.out q w8 HI8.out.rd HSQ.out)
  unfold hierV at HCC
  have d0 : w8.cell? ⟨G, 0, none⟩ = some (.slice q.a0 h.node.length q.c0) := HI8.out.twin.cell 0
  have d1 : w8.cell? ⟨G, 1, none⟩ = some (.slice q.a1 h.uf.length q.c1) := HI8.out.twin.cell 1
  have d2 : w8.cell? ⟨G, 2, none⟩ = some (.slice q.a2 h.up.length q.c2) := HI8.out.twin.cell 2
  have d3 : w8.cell? ⟨G, 3, none⟩ = some (.slice q.a3 h.df.length q.c3) := HI8.out.twin.cell 3
  have d4 : w8.cell? ⟨G, 4, none⟩ = some (.slice q.a4 h.dn.length q.c4) := HI8.out.twin.cell 4
  go_wp2_with fail
  refine HCC.out.mono ?_
  rintro e w9 ⟨AD, cD, vD, rfl, ho, hb⟩
  have HI9 := Lib.hid (HI8.out.step hb)
  have HOA9 := Lib.hid (HOA8.out.below hb)
  have HOB9 := Lib.hid (HOB8.out.below hb)
  have HOC9 := Lib.hid (HOC8.out.below hb)
  have HOD9 := Lib.hid ho
  have HBD : Hid (∀ k, (Value.slice AD M.length cD).ownBlock = some k → w8.heap.size ≤ k ∧ k < w9.heap.size) := Lib.hid fun k hk => ho.block hk
  have HS3 : Hid (w8.heap.size ≤ w9.heap.size) := Lib.hid hb.size
  clear hb ho d0 d1 d2 d3 d4 HCC HI8 HOA8 HOB8 HOC8
  have HSM := Lib.hid (Same10_eq q k h w9 HI9.out.rd (HP.out.below HI9.out.below) HSQ.out)
  unfold hierV at HSM
  have d0 : w9.cell? ⟨G, 0, none⟩ = some (.slice q.a0 h.node.length q.c0) := HI9.out.twin.cell 0
  have d1 : w9.cell? ⟨G, 1, none⟩ = some (.slice q.a1 h.uf.length q.c1) := HI9.out.twin.cell 1
  have d2 : w9.cell? ⟨G, 2, none⟩ = some (.slice q.a2 h.up.length q.c2) := HI9.out.twin.cell 2
  have d3 : w9.cell? ⟨G, 3, none⟩ = some (.slice q.a3 h.df.length q.c3) := HI9.out.twin.cell 3
  have d4 : w9.cell? ⟨G, 4, none⟩ = some (.slice q.a4 h.dn.length q.c4) := HI9.out.twin.cell 4
  have e0 : w9.cell? ⟨W.heap.size, 0, none⟩ = some (.slice k.a0 h.node.length k.c0) := HI9.out.hier.cell 0
  have e1 : w9.cell? ⟨W.heap.size, 1, none⟩ = some (.slice k.a1 h.uf.length k.c1) := HI9.out.hier.cell 1
  have e2 : w9.cell? ⟨W.heap.size, 2, none⟩ = some (.slice k.a2 h.up.length k.c2) := HI9.out.hier.cell 2
  have e3 : w9.cell? ⟨W.heap.size, 3, none⟩ = some (.slice k.a3 h.df.length k.c3) := HI9.out.hier.cell 3
  have e4 : w9.cell? ⟨W.heap.size, 4, none⟩ = some (.slice k.a4 h.dn.length k.c4) := HI9.out.hier.cell 4
  go_wp2_with fail
  refine HSM.out.mono ?_
  rintro e w10 ⟨rfl, hb⟩
  have HI10 := Lib.hid (HI9.out.step hb)
  have HOA10 := Lib.hid (HOA9.out.below hb)
  have HOB10 := Lib.hid (HOB9.out.below hb)
  have HOC10 := Lib.hid (HOC9.out.below hb)
  have HOD10 := Lib.hid (HOD9.out.below hb)
  have HS4 : Hid (w9.heap.size ≤ w10.heap.size) := Lib.hid hb.size
  clear hb d0 d1 d2 d3 d4 e0 e1 e2 e3 e4 HSM HI9 HOA9 HOB9 HOC9 HOD9
  go_upto_region 13 with fail
  have hb11 := (Below.refl w10.heap.size w10).alloc (Nat.le_refl _) (.cells #[.slice AA L.length cA, .slice AC M.length cC] 29)
  have hc11 := cells_new w10 #[.slice AA L.length cA, .slice AC M.length cC] 29
  have hz11 : (w10.alloc (.cells #[.slice AA L.length cA, .slice AC M.length cC] 29)).heap.size = w10.heap.size + 1 := by simp
  generalize w10.alloc (.cells #[.slice AA L.length cA, .slice AC M.length cC] 29) = w11 at *
  have HZ11 : Hid (w10.heap.size < w11.heap.size) := Lib.hid (by omega)
  generalize hE : w10.heap.size = E at *
  have HEE := Lib.hid hE
  have HI11 := Lib.hid (HI10.out.step (by rw [HEE.out]; exact hb11))
  have HOA11 := Lib.hid (HOA10.out.below (by rw [HEE.out]; exact hb11))
  have HOB11 := Lib.hid (HOB10.out.below (by rw [HEE.out]; exact hb11))
  have HOC11 := Lib.hid (HOC10.out.below (by rw [HEE.out]; exact hb11))
  have HOD11 := Lib.hid (HOD10.out.below (by rw [HEE.out]; exact hb11))
  have HCE := Lib.hid hc11
  -- where the four lists lie
  have HPA : Hid (∀ k, (Value.slice AA L.length cA).ownBlock = some k → w5.heap.size ≤ k ∧ k < w6.heap.size) := HBA
  have HPB : Hid (∀ k, (Value.slice AB L.length cB).ownBlock = some k → w6.heap.size ≤ k ∧ k < w7.heap.size) := HBB
  have HPC : Hid (∀ k, (Value.slice AC M.length cC).ownBlock = some k → w7.heap.size ≤ k ∧ k < w8.heap.size) := HBC
  have HPD : Hid (∀ k, (Value.slice AD M.length cD).ownBlock = some k → w8.heap.size ≤ k ∧ k < w9.heap.size) := HBD
  have hr : w5.heap.size ≤ w6.heap.size ∧ w6.heap.size ≤ w7.heap.size ∧ w7.heap.size ≤ w8.heap.size ∧ w8.heap.size ≤ w9.heap.size ∧ w9.heap.size ≤ E ∧ E < w11.heap.size ∧ W.heap.size < G ∧ G < w5.heap.size := ⟨HS0.out, HS1.out, HS2.out, HS3.out, HEE.out ▸ HS4.out, HZ11.out, HI11.out.lt, HGL.out⟩
  have HR := Lib.hid hr
  have HLA : Hid (Live3 w11 W.heap.size (.slice AA L.length cA) L.length) := Lib.hid (Live3.of HOA11.out (by omega))
  have HLC : Hid (Live3 w11 W.heap.size (.slice AC M.length cC) M.length) := Lib.hid (Live3.of HOC11.out (by omega))
  clear hb11 hc11 hz11 hE hr HBA HBB HBC HBD HI10 HOA10 HOB10 HOC10 HOD10 HS0 HS1 HS2 HS3 HS4 HZ11 HGL HOA11 HOC11
  go_loopw [60] (fun iv wr => ∃ i : Nat, i ≤ 2 ∧ iv = .int .i64 i ∧ Kept (fun k => (Value.slice AA L.length cA).ownBlock = some k ∨ (Value.slice AC M.length cC).ownBlock = some k) w11 wr ∧ (i = 0 → Live3 wr W.heap.size (.slice AA L.length cA) L.length) ∧ (i ≤ 1 → Live3 wr W.heap.size (.slice AC M.length cC) M.length)) (fun iv _ => 2 - (intOf iv).toNat)
  case atStart => exact ⟨0, by omega, rfl, Kept.refl _ _, fun _ => HLA.out, fun _ => HLC.out⟩
  case round =>
    obtain ⟨i, hi, rfl, hk, hla, hlc⟩ := hrel
    have HK := Lib.hid hk
    have HA := Lib.hid hla
    have HC := Lib.hid hlc
    clear hk hla hlc
    by_cases hlt : i < 2
    · have hrow : ∃ Al nl cl, wr.cell? ⟨E, i, none⟩ = some (.slice Al nl cl) ∧ Live3 wr W.heap.size (.slice Al nl cl) nl ∧ nl ≤ 65536 ∧ (∀ k, (Value.slice Al nl cl).ownBlock = some k → (Value.slice AA L.length cA).ownBlock = some k ∨ (Value.slice AC M.length cC).ownBlock = some k) ∧ (∀ w', Kept (fun k => (Value.slice Al nl cl).ownBlock = some k) wr w' → i + 1 ≤ 1 → Live3 w' W.heap.size (.slice AC M.length cC) M.length) := by
        have hce : Cells wr E #[.slice AA L.length cA, .slice AC M.length cC] 29 := HK.out.cells HCE.out (by
          have hr := HR.out
          rintro (e | e)
          · have := HPA.out E e; omega
          · have := HPC.out E e; omega)
        by_cases h0 : i = 0
        · subst h0
          refine ⟨AA, L.length, cA, hce.cell 0, HA.out rfl, hL, fun k e => .inl e, fun w' hk' _ => (HC.out (by omega)).keptS hk' fun k e e' => ?_⟩
          have h1 := HPA.out k e'
          have h2 := HPC.out k e
          have hr := HR.out
          omega
        · obtain rfl : i = 1 := by omega
          exact ⟨AC, M.length, cC, hce.cell 1, HC.out (by omega), hM, fun k e => .inr e, fun w' _ h => absurd h (by omega)⟩
      obtain ⟨Al, nl, cl, hcell, hlv, hnl, hS, hnext⟩ := hrow
      have HLV := Lib.hid hlv
      have HSS := Lib.hid hS
      have HNX := Lib.hid hnext
      have g0 : decide ((i : Int) < 2) = true := decide_eq_true (by omega)
      clear hlv hS hnext HA HC
      go_wp2_with fail
      generalize wr = wo at *
      go_loopw [66] (fun jv ww => ∃ j : Nat, j ≤ nl ∧ jv = .int .i64 j ∧ Kept (fun k => (Value.slice Al nl cl).ownBlock = some k) wo ww ∧ Live3 ww W.heap.size (.slice Al nl cl) nl) (fun jv _ => nl - (intOf jv).toNat)
      case atStart => exact ⟨0, by omega, rfl, Kept.refl _ _, HLV.out⟩
      case round =>
        obtain ⟨j, hj, rfl, hk, hlv⟩ := hrel
        have HKJ := Lib.hid hk
        have HLJ := Lib.hid hlv
        clear hk hlv
        by_cases hjn : j < nl
        · obtain ⟨g, x0, x1, x2, hA, hge, hgl, t0, t1, t2, f0, f1, f2⟩ := HLJ.out.get hjn
          subst hA
          have g1 : decide ((j : Int) < (nl : Int)) = true := decide_eq_true (by omega)
          have g1n : decide (j < nl) = true := decide_eq_true hjn
          have HP3 := Lib.hid (HLJ.out.put hjn (-1, 0, false))
          have HK3 := Lib.hid (((HKJ.out.set_ (p := ⟨g, j * 3, none⟩) (.inl rfl) (.int .i64 (-1))).set_ (p := ⟨g, j * 3 + 1, none⟩) (.inl rfl) (.int .u64 0)).set_ (p := ⟨g, j * 3 + 2, none⟩) (.inl rfl) (.bool false))
          go_wp2_with fail
          go_roundw
          case rel => exact ⟨j + 1, by omega, by go_num, HK3.out, HP3.out⟩
          case measure => simp [intOf]; omega
        · obtain rfl : j = nl := by omega
          have g1 : decide ((j : Int) < (j : Int)) = false := decide_eq_false (by omega)
          have g1n : decide (j < j) = false := decide_eq_false hjn
          obtain ⟨l, hl, ho⟩ := HLJ.out
          have HOW := Lib.hid ho
          have HLL := Lib.hid hl
          have hwz : W.heap.size ≤ wr.heap.size := Nat.le_trans (HI11.out.below.size) (Nat.le_trans HK.out.size HKJ.out.size)
          clear ho hl
          go_wp2_with (at_builtin; go_loud (refine wpList_append_rd rfl (.tmp 74) (.tmp 77) 29 rfl 38 (.agg #[.int .i64 0, .int .u64 0, .bool false]) 24 Try.underlying29 info_seen rfl (by omega) (by omega) enc3_len enc3_one W.heap.size _ l rfl (HOW.out.below ((Below.refl _ _).alloc (Nat.le_refl _) _)) _ 2 2 [((0, 0, false) : Int × Int × Bool), (0, 0, false)] rfl (rd_new enc3_len wr _ [((0, 0, false) : Int × Int × Bool), (0, 0, false)]) (by rw [HLL.out]; omega) (by simp; omega) ?_; intro v6 w6' ho6 hg6 hat6; obtain ⟨A6, c6, rfl, h6c, h6m⟩ := ho6.form; have hl6 : (l ++ [((0, 0, false) : Int × Int × Bool), (0, 0, false)]).length = j + 2 := (by rw [List.length_append, HLL.out]; rfl); rw [hl6]; have HK6 : Hid (Kept (fun k => (Value.slice Al j cl).ownBlock = some k) wo w6') := Lib.hid ((HKJ.out.alloc _).trans (Kept.of_grown hg6)); clear ho6 hg6 hat6 h6c h6m hl6))
          go_roundw
          case rel => exact ⟨i + 1, by omega, by go_num, HK.out.trans (HK6.out.weak HSS.out), fun e => absurd e (by omega), fun e => HNX.out _ HK6.out e⟩
          case measure => simp [intOf]; omega
    · obtain rfl : i = 2 := by omega
      have hr := HR.out
      have hS : ∀ k, (Value.slice AA L.length cA).ownBlock = some k ∨ (Value.slice AC M.length cC).ownBlock = some k → w5.heap.size ≤ k ∧ k < w8.heap.size ∧ (k < w6.heap.size ∨ w7.heap.size ≤ k) := by
        rintro k (e | e)
        · have := HPA.out k e; omega
        · have := HPC.out k e; omega
      have HBW := Lib.hid (HK.out.below HI11.out.below (fun k e => by have := hS k e; omega) HI11.out.below.size)
      have HCW := Lib.hid (HK.out.cells HI11.out.hier (fun e => by have := hS _ e; omega))
      have HOB := Lib.hid (HOB11.out.keptS HK.out (fun k e e' => by have h1 := hS k e'; have h2 := HPB.out k e; omega))
      have HOD := Lib.hid (HOD11.out.keptS HK.out (fun k e e' => by have h1 := hS k e'; have h2 := HPD.out k e; omega))
      have HSW : Hid (w11.heap.size ≤ wr.heap.size) := Lib.hid HK.out.size
      clear hr hS HK HA HC HOB11 HOD11 HI11
      have HDC := Lib.hid (HLD.out k wr (HP.out.below HBW.out) HS.out)
      unfold hierV at HDC
      have e0 : wr.cell? ⟨W.heap.size, 0, none⟩ = some (.slice k.a0 h.node.length k.c0) := HCW.out.cell 0
      have e1 : wr.cell? ⟨W.heap.size, 1, none⟩ = some (.slice k.a1 h.uf.length k.c1) := HCW.out.cell 1
      have e2 : wr.cell? ⟨W.heap.size, 2, none⟩ = some (.slice k.a2 h.up.length k.c2) := HCW.out.cell 2
      have e3 : wr.cell? ⟨W.heap.size, 3, none⟩ = some (.slice k.a3 h.df.length k.c3) := HCW.out.cell 3
      have e4 : wr.cell? ⟨W.heap.size, 4, none⟩ = some (.slice k.a4 h.dn.length k.c4) := HCW.out.cell 4
      go_wp2_with fail
      refine HDC.out.mono ?_
      rintro e w12 ⟨AU, cU, xU, rfl, ho, hb⟩
      have HBW12 := Lib.hid (HBW.out.trans (hb.mono HBW.out.size))
      have HCW12 := Lib.hid (HCW.out.below hb)
      have HOB12 := Lib.hid (HOB.out.below hb)
      have HOD12 := Lib.hid (HOD.out.below hb)
      have HOU12 := Lib.hid ho
      clear hb ho e0 e1 e2 e3 e4 HDC HBW HCW HOB HOD
      go_upto_region 25 with fail
      have hb := (Below.refl w12.heap.size w12).alloc (Nat.le_refl _) (.cells #[.int .i64 xU.c, .slice xU.A xU.n xU.k] 42)
      generalize w12.alloc (.cells #[.int .i64 xU.c, .slice xU.A xU.n xU.k] 42) = w13 at *
      have HBW13 := Lib.hid (HBW12.out.trans (hb.mono HBW12.out.size))
      have HCW13 := Lib.hid (HCW12.out.below hb)
      have HOB13 := Lib.hid (HOB12.out.below hb)
      have HOD13 := Lib.hid (HOD12.out.below hb)
      have HOU13 := Lib.hid (HOU12.out.below hb)
      clear hb HBW12 HCW12 HOB12 HOD12 HOU12
      have HDC := Lib.hid (HMD.out k w13 (HP.out.below HBW13.out) HS.out)
      unfold hierV at HDC
      have e0 : w13.cell? ⟨W.heap.size, 0, none⟩ = some (.slice k.a0 h.node.length k.c0) := HCW13.out.cell 0
      have e1 : w13.cell? ⟨W.heap.size, 1, none⟩ = some (.slice k.a1 h.uf.length k.c1) := HCW13.out.cell 1
      have e2 : w13.cell? ⟨W.heap.size, 2, none⟩ = some (.slice k.a2 h.up.length k.c2) := HCW13.out.cell 2
      have e3 : w13.cell? ⟨W.heap.size, 3, none⟩ = some (.slice k.a3 h.df.length k.c3) := HCW13.out.cell 3
      have e4 : w13.cell? ⟨W.heap.size, 4, none⟩ = some (.slice k.a4 h.dn.length k.c4) := HCW13.out.cell 4
      go_wp2_with fail
      refine HDC.out.mono ?_
      rintro e w14 ⟨AV, cV, xV, rfl, ho, hb⟩
      have HBW14 := Lib.hid (HBW13.out.trans (hb.mono HBW13.out.size))
      have HOB14 := Lib.hid (HOB13.out.below hb)
      have HOD14 := Lib.hid (HOD13.out.below hb)
      have HOU14 := Lib.hid (HOU13.out.below hb)
      have HOV14 := Lib.hid ho
      clear hb ho e0 e1 e2 e3 e4 HDC HBW13 HCW13 HOB13 HOD13 HOU13
      go_upto_region 26 with fail
      have hb := (Below.refl w14.heap.size w14).alloc (Nat.le_refl _) (.cells #[.int .i64 xV.c, .slice xV.A xV.n xV.k] 42)
      generalize w14.alloc (.cells #[.int .i64 xV.c, .slice xV.A xV.n xV.k] 42) = w15 at *
      have HBW15 := Lib.hid (HBW14.out.trans (hb.mono HBW14.out.size))
      have HOB15 := Lib.hid (HOB14.out.below hb)
      have HOD15 := Lib.hid (HOD14.out.below hb)
      have HOU15 := Lib.hid (HOU14.out.below hb)
      have HOV15 := Lib.hid (HOV14.out.below hb)
      clear hb HBW14 HOB14 HOD14 HOU14 HOV14
      go_wp2_with fail
      refine (Of_any AB L.length cB L w15 (HOB15.out.rd encSn_len rfl) (by omega)).mono ?_
      rintro e w16 ⟨A1, c1, rfl, ho, hb⟩
      have HBW16 := Lib.hid (HBW15.out.trans (hb.mono HBW15.out.size))
      have HOD16 := Lib.hid (HOD15.out.below hb)
      have HOU16 := Lib.hid (HOU15.out.below hb)
      have HOV16 := Lib.hid (HOV15.out.below hb)
      have HO1 := Lib.hid ho
      clear hb ho HBW15 HOB15 HOD15 HOU15 HOV15
      go_wp2_with fail
      refine (SameSn_eq A1 AU L.length c1 cU L w16 (HO1.out.rd encSn_len rfl) (HOU16.out.rd encSn_len rfl) (by omega)).mono ?_
      rintro e w17 ⟨rfl, hb⟩
      have HBW17 := Lib.hid (HBW16.out.trans (hb.mono HBW16.out.size))
      have HOD17 := Lib.hid (HOD16.out.below hb)
      have HOV17 := Lib.hid (HOV16.out.below hb)
      clear hb HBW16 HOD16 HOU16 HOV16 HO1
      go_wp2_with fail
      refine (Of_any AD M.length cD M w17 (HOD17.out.rd encSn_len rfl) (by omega)).mono ?_
      rintro e w18 ⟨A2, c2, rfl, ho, hb⟩
      have HBW18 := Lib.hid (HBW17.out.trans (hb.mono HBW17.out.size))
      have HOV18 := Lib.hid (HOV17.out.below hb)
      have HO2 := Lib.hid ho
      clear hb ho HBW17 HOD17 HOV17
      go_wp2_with fail
      refine (SameSn_eq A2 AV M.length c2 cV M w18 (HO2.out.rd encSn_len rfl) (HOV18.out.rd encSn_len rfl) (by omega)).mono ?_
      rintro e w19 ⟨rfl, hb⟩
      have HBW19 := Lib.hid (HBW18.out.trans (hb.mono HBW18.out.size))
      clear hb HBW18 HOV18 HO2
      go_wp2_with fail
      rw [HQ0.out]
      go_ret
      exact ⟨rfl, HBW19.out⟩
theorem ClimbMemory_walk (k : HV) (h : HierT) (s : Int) (W : World) (hp : RdH W k h) (hs : Small k h) (hin : InH h) (hw : (Lit.int .i64 s).wf = true) :
    Calls Try.prog 3 #[hierV k h, .int .i64 s] W fun e W' => e = .returned (.bool true) ∧ Below W.heap.size W W' := by
  have h0 : -9223372036854775808 ≤ s ∧ s ≤ 9223372036854775807 := by
    simp only [Lit.wf, Bool.and_eq_true, decide_eq_true_eq] at hw
    exact hw
  exact ClimbMemory_any k h s W hp hs hin h0.1 h0.2
end Go.Proofs.Ytkcnnamghpdplaa

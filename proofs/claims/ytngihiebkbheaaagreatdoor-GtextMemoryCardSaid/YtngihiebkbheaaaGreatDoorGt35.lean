/- GtextMemory. -/
import Derived.Test.YtngihiebkbheaaaGreatDoorGt34
set_option linter.unusedSimpArgs false
set_option linter.unusedVariables false
namespace Go.Proofs.YtngihiebkbheaaaGreatDoor
open Go.RowKit Txt

def strR : Except Er Bs → ByteArray
  | .error _ => ⟨#[]⟩
  | .ok s => toB s
def resG : Except Er GrT → GrT
  | .error _ => ⟨0, []⟩
  | .ok g => g
theorem PrintIs.str {r : Except Er Bs} {W w' : World} {e : Ending} (h : PrintIs r W e w') : ∃ v, e = .returned (.tuple #[.string (strR r), v]) ∧ Below W.heap.size W w' := by
  obtain ⟨hb, h⟩ := h
  cases r with
  | error b => obtain ⟨v, h, -⟩ := h; exact ⟨v, h, hb⟩
  | ok s => exact ⟨_, h, hb⟩
theorem PrintDoc.str {r : Except Er Bs} {W w' : World} {e : Ending} (h : PrintDoc r W e w') : ∃ x, e = .returned (.tuple #[.string (strR r), errV x]) ∧ Below W.heap.size W w' := by
  obtain ⟨hb, h⟩ := h
  cases r with
  | error b => obtain ⟨v, h, -⟩ := h; exact ⟨v, h, hb⟩
  | ok s => exact ⟨zX, h, hb⟩
theorem ParseIs.res {r : Except Er GrT} {W w' : World} {e : Ending} (h : ParseIs r W e w') : ∃ A c v, e = .returned (.tuple #[.agg #[.int .i64 (resG r).n, .slice A (resG r).arcs.length c], v]) ∧ Own 54 3 encA w' W.heap.size (.slice A (resG r).arcs.length c) (resG r).arcs ∧ Below W.heap.size W w' := by
  obtain ⟨hb, h⟩ := h
  cases r with
  | error b => obtain ⟨v, h, -⟩ := h; exact ⟨none, 0, v, h, Own.nil _ _ _ _ _, hb⟩
  | ok s => obtain ⟨A, c, h, ho⟩ := h; exact ⟨A, c, _, h, ho, hb⟩
theorem ParseDoc.res {r : Except Er GrT} {W w' : World} {e : Ending} (h : ParseDoc r W e w') : ∃ A c x, e = .returned (.tuple #[.agg #[.int .i64 (resG r).n, .slice A (resG r).arcs.length c], errV x]) ∧ Own 54 3 encA w' W.heap.size (.slice A (resG r).arcs.length c) (resG r).arcs ∧ Below W.heap.size W w' := by
  obtain ⟨hb, h⟩ := h
  cases r with
  | error b => obtain ⟨v, h, -⟩ := h; exact ⟨none, 0, v, h, Own.nil _ _ _ _ _, hb⟩
  | ok s => obtain ⟨A, c, h, ho⟩ := h; exact ⟨A, c, _, h, ho, hb⟩
theorem resG_len (t : Bs) : (resG (parseT t)).arcs.length ≤ 262144 := by
  cases h : parseT t with
  | error e => exact Nat.zero_le _
  | ok g => exact (chkT_none.1 (parse_ok h)).2.2.1
theorem flat_set3 : ∀ (l : List ArcT) (j : Nat) (x : ArcT), j < l.length → (((l.flatMap encA).set (j * 3) (.int .i64 x.f)).set (j * 3 + 1) (.int .i64 x.t)).set (j * 3 + 2) (.int .i64 x.w) = (l.set j x).flatMap encA
  | [], _, _, h => by simp at h
  | y :: r, 0, x, _ => by simp
  | y :: r, j + 1, x, h => by
    have ih := flat_set3 r j x (by simpa using h)
    rw [show (j + 1) * 3 = j * 3 + 1 + 1 + 1 by omega]
    simp only [List.flatMap_cons, encA, List.set_cons_succ, List.cons_append, List.nil_append]
    rw [ih]
abbrev OwnA (w : World) (base : Nat) (v : Value) (l : List ArcT) : Prop := Own 54 3 encA w base v l
theorem own_set3 {w : World} {base g cap : Nat} {l : List ArcT} {n : Nat} (h : OwnA w base (.slice (some ⟨g, 0, none⟩) n cap) l) (j : Nat) (hj : j < l.length) (x : ArcT) :
    OwnA (((w.setCell ⟨g, j * 3, none⟩ (.int .i64 x.f)).setCell ⟨g, j * 3 + 1, none⟩ (.int .i64 x.t)).setCell ⟨g, j * 3 + 2, none⟩ (.int .i64 x.w)) base (.slice (some ⟨g, 0, none⟩) n cap) (l.set j x) := by
  have hn : n = l.length := by
    obtain ⟨A, c, hv, _⟩ := h.form
    injection hv
  subst hn
  have h2 := (World.ownsRow.stored (World.ownsRow.stored (World.ownsRow.stored h (j * 3) (.int .i64 x.f)).1 (j * 3 + 1) (.int .i64 x.t)).1 (j * 3 + 2) (.int .i64 x.w)).1
  rw [flat_set3 l j x hj] at h2
  show World.ownsRow _ _ _ _ _ (l.set j x).length _
  rw [List.length_set]
  exact h2
theorem own_someA {w : World} {base : Nat} {v : Value} {l : List ArcT} (h : OwnA w base v l) (h0 : 0 < l.length) : ∃ g c, v = .slice (some ⟨g, 0, none⟩) l.length c ∧ base ≤ g ∧ l.length ≤ c ∧ c ≤ maxLen := by
  rcases h.2 with ⟨_, hz⟩ | ⟨g, cap, cur, hv, hb, _, hn, hm, _⟩
  · omega
  · exact ⟨g, cap, hv, hb, hn, hm⟩
def Bel (w w' : World) : Prop := Below w.heap.size w w'
theorem Bel.below {w w' w'' : World} (h : Bel w w') (hb : Below w'.heap.size w' w'') : Bel w w'' := Below.trans h (hb.mono (Below.size h))
theorem Kept.of_grownA {w w' : World} {row : Option Nat} (h : w.grownBy w' row) : Kept (fun k => row = some k) w w' :=
  ⟨h.1, h.2, h.3, h.4, fun k hk hs => h.5 k hk (fun e => hs e.symm)⟩
set_option maxRecDepth 100000 in
set_option maxHeartbeats 16000000 in
theorem GtextMemory_walk (A0 : Option Addr) (kk0 : Nat) (g0 : GrT) (a1 : ByteArray) (W : World) (rd0 : RdA W A0 g0.arcs.length g0.arcs) (sh0 : g0.arcs.length * 24 ≤ 140737488351232) (w1 : a1.size ≤ 140737488351232) (hw : Env W) :
    Calls Tryz.prog 9 #[.agg #[.int .i64 g0.n, .slice A0 g0.arcs.length kk0], .string a1] W (BoolBelow true W) := by
  have HRD := Lib.hid rd0
  have HW := Lib.hid hw
  obtain ⟨n, hn⟩ : ∃ n, g0.arcs.length = n := ⟨_, rfl⟩
  have HN := Lib.hid hn
  have hsa : a1.size ≤ 140737488355328 := by omega
  have hml := resG_len a1.data.toList
  have HDP := Lib.hid (fun w (hb : Below W.heap.size W w) => DocPrint_any g0 A0 kk0 w (rd0.below hb) (by omega) (hw.below hb).tab)
  have HSP := Lib.hid (fun w (hb : Below W.heap.size W w) => Spare_any g0 A0 n kk0 w hn (by have h := rd0.below hb; rw [hn] at h; exact h) (by omega))
  rw [hn] at HRD HDP sh0 ⊢
  clear hn rd0 hw w1
  have HPA := Lib.hid (fun w (hb : Below W.heap.size W w) => Parse_any a1 w hsa (HW.out.below hb).maxL (HW.out.below hb).rng)
  have HPD := Lib.hid (fun w => DocParse_any a1 w hsa)
  have HB1 := Lib.hid (law_start (n := g0.n) (A := A0) (m := n) (kk := kk0) W).1
  have HP1 := Lib.hid (law_start (n := g0.n) (A := A0) (m := n) (kk := kk0) W).2
  obtain ⟨m, hm⟩ : ∃ m, (resG (parseT a1.data.toList)).arcs.length = m := ⟨_, rfl⟩
  have HM := Lib.hid hm
  rw [hm] at hml
  clear hm
  go_enter Tryz.func9, Tryz.ntmps9
  refine wp_named ?_
  intro Q0 hQ0
  have HQ0 := Lib.hid hQ0
  clear hQ0
  go_upto_region 1 with fail
  generalize W.alloc (.cells #[.int .i64 g0.n, .slice A0 n kk0] 24) = w1 at *
  go_wp2_with fail
  refine (awake_any w1 (HW.out.below HB1.out)).mono ?_
  rintro e w2 ⟨rfl, hb2⟩
  have HB2 := Lib.hid (HB1.out.trans (hb2.mono HB1.out.size))
  have HP2 := Lib.hid (HP1.out.below hb2)
  have hs2 := hb2.size
  clear hb2
  have Pc0 : w2.cell? ⟨W.heap.size, 0, none⟩ = some (.int .i64 g0.n) := HP2.out.cell 0
  have Pc1 : w2.cell? ⟨W.heap.size, 1, none⟩ = some (.slice A0 n kk0) := HP2.out.cell 1
  go_upto_region 3 with fail
  go_wp2_with fail
  refine (HSP.out w2 HB2.out).mono ?_
  rintro e w3 ⟨A3, c3, rfl, ho, h3c, h3m, hb3⟩
  have HF3 := Lib.hid ho
  have H3C := Lib.hid h3c
  have H3M := Lib.hid h3m
  clear ho h3c h3m HSP
  have HB3 := Lib.hid (HB2.out.trans (hb3.mono HB2.out.size))
  have HP3 := Lib.hid (HP2.out.below hb3)
  have hs3 := hb3.size
  clear hb3 Pc0 Pc1
  have hb4 := (Below.refl w3.heap.size w3).alloc (Nat.le_refl _) (.cells #[.int .i64 g0.n, .slice A3 n c3] 24)
  have hx4 := cells_new w3 #[.int .i64 g0.n, .slice A3 n c3] 24
  have HB4 := Lib.hid (HB3.out.trans (hb4.mono HB3.out.size))
  have HP4 := Lib.hid (HP3.out.below hb4)
  have HF4 := Lib.hid (HF3.out.below hb4)
  have hs4 := hb4.size
  clear hb4
  have HX4 := Lib.hid hx4
  clear hx4
  go_upto_region 4 with fail
  generalize w3.alloc (.cells #[.int .i64 g0.n, .slice A3 n c3] 24) = w4 at *
  have Xc0 : w4.cell? ⟨w3.heap.size, 0, none⟩ = some (.int .i64 g0.n) := HX4.out.cell 0
  have Xc1 : w4.cell? ⟨w3.heap.size, 1, none⟩ = some (.slice A3 n c3) := HX4.out.cell 1
  have HXR : Hid (∀ w, OwnA w w2.heap.size (.slice A3 (n + 2) c3) (g0.arcs ++ [sp41, sp42]) → RdA w A3 n g0.arcs) := Lib.hid (fun w h => by
    have h2 := (Own.rd encA_len h rfl).take (k := n) (by omega)
    rw [List.take_left' HN.out] at h2
    exact h2)
  have HCK : Hid (Calls Tryz.prog 14 #[.agg #[.int .i64 g0.n, .slice A3 n c3]] w4 (ErrProg (chkT g0) w4)) := Lib.hid (by
    have h := GCheck_any g0 A3 c3 w4 (by rw [HN.out]; exact HXR.out w4 HF4.out) (by rw [HN.out]; omega)
    rw [HN.out] at h
    exact h)
  go_wp2_with fail
  refine HCK.out.mono ?_
  intro e w5 he
  obtain ⟨v5, rfl, -, hb5⟩ := he.px2
  clear he HCK
  have HB5 := Lib.hid (HB4.out.trans (hb5.mono HB4.out.size))
  have HP5 := Lib.hid (HP4.out.below hb5)
  have HX5 := Lib.hid (HX4.out.below hb5)
  have HF5 := Lib.hid (HF4.out.below hb5)
  have hs5 := hb5.size
  clear hb5 Xc0 Xc1
  have Xc0 : w5.cell? ⟨w3.heap.size, 0, none⟩ = some (.int .i64 g0.n) := HX5.out.cell 0
  have Xc1 : w5.cell? ⟨w3.heap.size, 1, none⟩ = some (.slice A3 n c3) := HX5.out.cell 1
  have HPR : Hid (Calls Tryz.prog 11 #[.agg #[.int .i64 g0.n, .slice A3 n c3]] w5 (PrintIs (printT g0) w5)) := Lib.hid (by
    have h := Print_any g0 A3 c3 w5 (by rw [HN.out]; exact HXR.out w5 HF5.out) (by rw [HN.out]; omega) (HW.out.below HB5.out).tab
    rw [HN.out] at h
    exact h)
  go_upto_region 5 with fail
  go_wp2_with fail
  refine HPR.out.mono ?_
  intro e w6 he
  obtain ⟨v6, rfl, hb6⟩ := he.str
  clear he HPR
  have HB6 := Lib.hid (HB5.out.trans (hb6.mono HB5.out.size))
  have HP6 := Lib.hid (HP5.out.below hb6)
  have HX6 := Lib.hid (HX5.out.below hb6)
  have HF6 := Lib.hid (HF5.out.below hb6)
  have hs6 := hb6.size
  clear hb6 Xc0 Xc1
  have Pc0 : w6.cell? ⟨W.heap.size, 0, none⟩ = some (.int .i64 g0.n) := HP6.out.cell 0
  have Pc1 : w6.cell? ⟨W.heap.size, 1, none⟩ = some (.slice A0 n kk0) := HP6.out.cell 1
  go_upto_region 6 with fail
  go_wp2_with fail
  refine (HDP.out w6 HB6.out).mono ?_
  intro e w7 he
  obtain ⟨x7, rfl, hb7⟩ := he.str
  clear he HDP
  unfold errV
  have HB7 := Lib.hid (HB6.out.trans (hb7.mono HB6.out.size))
  have HP7 := Lib.hid (HP6.out.below hb7)
  have HX7 := Lib.hid (HX6.out.below hb7)
  have HF7 := Lib.hid (HF6.out.below hb7)
  have hs7 := hb7.size
  clear hb7 Pc0 Pc1
  have hb8 := (Below.refl w7.heap.size w7).alloc (Nat.le_refl _) (.cells #[.int .i64 x7.c, .slice x7.A x7.n x7.k] 32)
  have hx8 := cells_new w7 #[.int .i64 x7.c, .slice x7.A x7.n x7.k] 32
  have HB8 := Lib.hid (HB7.out.trans (hb8.mono HB7.out.size))
  have HP8 := Lib.hid (HP7.out.below hb8)
  have HX8 := Lib.hid (HX7.out.below hb8)
  have HF8 := Lib.hid (HF7.out.below hb8)
  have hs8 := hb8.size
  clear hb8
  have HY8 := Lib.hid hx8
  clear hx8
  go_upto_region 7 with fail
  generalize w7.alloc (.cells #[.int .i64 x7.c, .slice x7.A x7.n x7.k] 32) = w8 at *
  have Pc0 : w8.cell? ⟨W.heap.size, 0, none⟩ = some (.int .i64 g0.n) := HP8.out.cell 0
  have Pc1 : w8.cell? ⟨W.heap.size, 1, none⟩ = some (.slice A0 n kk0) := HP8.out.cell 1
  have HKP := Lib.hid (Kept_any g0 A0 A3 n (n + 2) kk0 c3 w8 HN.out rfl (HRD.out.below HB8.out) (Own.rd encA_len HF8.out rfl) H3C.out H3M.out (by omega))
  generalize strR (printT g0) = S at *
  have hse1 : (S.toList == S.toList) = true := beq_self_eq_true _
  have hse2 : (S.toList != S.toList) = false := by simp
  go_wp2_with fail
  refine HKP.out.mono ?_
  rintro e w9 ⟨rfl, hb9⟩
  clear HKP
  have HB9 := Lib.hid (HB8.out.trans (hb9.mono HB8.out.size))
  have HP9 := Lib.hid (HP8.out.below hb9)
  have HX9 := Lib.hid (HX8.out.below hb9)
  have hs9 := hb9.size
  clear hb9 Pc0 Pc1
  clear HXR
  go_upto_region 9 with fail
  go_wp2_with fail
  refine (HPA.out w9 HB9.out).mono ?_
  intro e w10 he
  obtain ⟨A10, c10, v10, rfl, ho, hb10⟩ := he.res
  rw [HM.out] at ho ⊢
  have HOA10 := Lib.hid ho
  have HBL9 : Hid (Bel w9 w9) := Lib.hid (Below.refl _ _)
  clear ho he
  have HB10 := Lib.hid (HB9.out.trans (hb10.mono HB9.out.size))
  have HBL10 := Lib.hid (HBL9.out.below hb10)
  have hs10 := hb10.size
  clear hb10
  have hbk : ∀ k, (Value.slice A10 m c10).ownBlock = some k → w9.heap.size ≤ k ∧ k < w10.heap.size := fun k h => HOA10.out.block h
  have hb11 := (Below.refl w10.heap.size w10).alloc (Nat.le_refl _) (.cells #[.int .i64 (resG (parseT a1.data.toList)).n, .slice A10 m c10] 24)
  have hx11 := cells_new w10 #[.int .i64 (resG (parseT a1.data.toList)).n, .slice A10 m c10] 24
  have HB11 := Lib.hid (HB10.out.trans (hb11.mono HB10.out.size))
  have HOA11 := Lib.hid (HOA10.out.below hb11)
  have HBL11 := Lib.hid (HBL10.out.below hb11)
  have hs11 := hb11.size
  clear hb11
  have HGa11 := Lib.hid hx11
  clear hx11
  go_upto_region 10 with fail
  generalize w10.alloc (.cells #[.int .i64 (resG (parseT a1.data.toList)).n, .slice A10 m c10] 24) = w11 at *
  have hlGa11 := HGa11.out.lt
  go_wp2_with fail
  refine (HPA.out w11 HB11.out).mono ?_
  intro e w12 he
  obtain ⟨A12, c12, v12, rfl, ho, hb12⟩ := he.res
  rw [HM.out] at ho ⊢
  have HOB12 := Lib.hid ho
  clear ho he
  have HB12 := Lib.hid (HB11.out.trans (hb12.mono HB11.out.size))
  have HGa12 := Lib.hid (HGa11.out.below hb12)
  have HOA12 := Lib.hid (HOA11.out.below hb12)
  have HBL12 := Lib.hid (HBL11.out.below hb12)
  have hs12 := hb12.size
  clear hb12
  have hb13 := (Below.refl w12.heap.size w12).alloc (Nat.le_refl _) (.cells #[.int .i64 (resG (parseT a1.data.toList)).n, .slice A12 m c12] 24)
  have hx13 := cells_new w12 #[.int .i64 (resG (parseT a1.data.toList)).n, .slice A12 m c12] 24
  have HB13 := Lib.hid (HB12.out.trans (hb13.mono HB12.out.size))
  have HGa13 := Lib.hid (HGa12.out.below hb13)
  have HOA13 := Lib.hid (HOA12.out.below hb13)
  have HOB13 := Lib.hid (HOB12.out.below hb13)
  have HBL13 := Lib.hid (HBL12.out.below hb13)
  have hs13 := hb13.size
  clear hb13
  have HGb13 := Lib.hid hx13
  clear hx13
  go_upto_region 11 with fail
  generalize w12.alloc (.cells #[.int .i64 (resG (parseT a1.data.toList)).n, .slice A12 m c12] 24) = w13 at *
  have hlGb13 := HGb13.out.lt
  have Gac0 : w13.cell? ⟨w10.heap.size, 0, none⟩ = some (.int .i64 (resG (parseT a1.data.toList)).n) := HGa13.out.cell 0
  have Gac1 : w13.cell? ⟨w10.heap.size, 1, none⟩ = some (.slice A10 m c10) := HGa13.out.cell 1
  have HB913 : Hid (Below w9.heap.size w9 w13) := HBL13
  have hs13W := HB13.out.size
  have hs9W := HB9.out.size
  generalize hgn : (resG (parseT a1.data.toList)).n = gn at *
  have HGN := Lib.hid hgn
  clear hgn
  go_upto_region 12 with fail
  go_loopw [60] (fun iv wr => ∃ (j : Nat) (l : List ArcT), j ≤ m ∧ l.length = m ∧ iv = .int .i64 j ∧ OwnA wr w9.heap.size (.slice A10 m c10) l ∧ Kept (fun k => (Value.slice A10 m c10).ownBlock = some k) w13 wr) (fun iv _ => m - (intOf iv).toNat)
  case atStart => exact ⟨0, _, by omega, HM.out, rfl, HOA13.out, Kept.refl _ _⟩
  case round =>
    obtain ⟨j, l, hj, hl, rfl, ho, hk⟩ := hrel
    have HO := Lib.hid ho
    have HK := Lib.hid hk
    have HL := Lib.hid hl
    have hsr := hk.size
    have HBR := Lib.hid (hk.cells HGa13.out (fun h => by have := (hbk _ h).2; omega))
    have HCR := Lib.hid (hk.cells HGb13.out (fun h => by have := (hbk _ h).2; omega))
    clear Gac0 Gac1
    have Gac1 : wr.cell? ⟨w10.heap.size, 1, none⟩ = some (.slice A10 m c10) := HBR.out.cell 1
    clear ho hk hl
    by_cases hlt : j < m
    · obtain ⟨g, c', hv, hbg, hlc, hcm⟩ := own_someA HO.out (by have := HL.out; omega)
      injection hv with h1 h2 h3
      subst h1 h3
      have ho := HO.out
      have hh := HL.out
      have q0 : decide ((j : Int) < (m : Int)) = true := decide_eq_true (by omega)
      have hw1 : IntKind.i64.wrap ((j : Int) + 1) = (j : Int) + 1 := by rw [IntKind.wrap_i64]; omega
      have hnc : m ≤ c10 := by have := HL.out; omega
      rw [show m = l.length by omega] at ho
      have e0 := (World.ownsRow.cellAt ho (j * 3) (by omega)).trans (flat_get (enc := encA) encA_len l j 0 (by omega))
      have e1 := (World.ownsRow.cellAt ho (j * 3 + 1) (by omega)).trans (flat_get (enc := encA) encA_len l j 1 (by omega))
      have e2 := (World.ownsRow.cellAt ho (j * 3 + 2) (by omega)).trans (flat_get (enc := encA) encA_len l j 2 (by omega))
      have f0 := World.ownsRow.frozenAt ho (j * 3)
      have f1 := World.ownsRow.frozenAt ho (j * 3 + 1)
      have f2 := World.ownsRow.frozenAt ho (j * 3 + 2)
      have hgx := List.getElem?_eq_getElem (show j < l.length by omega)
      generalize l[j]'(by omega) = x at hgx
      rw [hgx] at e0 e1 e2
      replace e0 : wr.cell? ⟨g, j * 3, none⟩ = some (.int .i64 x.f) := e0
      replace e1 : wr.cell? ⟨g, j * 3 + 1, none⟩ = some (.int .i64 x.t) := e1
      replace e2 : wr.cell? ⟨g, j * 3 + 2, none⟩ = some (.int .i64 x.w) := e2
      clear hgx hh ho h2
      go_wp2_with fail
      go_roundw
      case rel => exact ⟨j + 1, l.set j ⟨-1, 0, 0⟩, by omega, by rw [List.length_set]; exact HL.out, by go_num, own_set3 HO.out j (by have := HL.out; omega) ⟨-1, 0, 0⟩, ((HK.out.set_ (p := ⟨g, j * 3, none⟩) (.inl rfl) _).set_ (p := ⟨g, j * 3 + 1, none⟩) (.inl rfl) _).set_ (p := ⟨g, j * 3 + 2, none⟩) (.inl rfl) _⟩
      case measure => simp [intOf]; omega
    · obtain rfl : j = m := by omega
      have q0 : decide ((j : Int) < (j : Int)) = false := decide_eq_false (by omega)
      have hw2 : IntKind.i64.wrap ((j : Int) + 2) = (j : Int) + 2 := by rw [IntKind.wrap_i64]; omega
      have hb14 := (Below.refl wr.heap.size wr).alloc (Nat.le_refl _) (.cells #[.int .i64 0, .int .i64 0, .int .i64 0, .int .i64 0, .int .i64 0, .int .i64 0] 54)
      have hr14 : Rd 3 encA (wr.alloc (.cells #[.int .i64 0, .int .i64 0, .int .i64 0, .int .i64 0, .int .i64 0, .int .i64 0] 54)) (some ⟨wr.heap.size, 0, none⟩) 2 [⟨0, 0, 0⟩, ⟨0, 0, 0⟩] := rd_new encA_len wr 54 [⟨0, 0, 0⟩, ⟨0, 0, 0⟩]
      have HR14 := Lib.hid hr14
      have HO14 := Lib.hid (HO.out.below hb14)
      have HK14 : Hid (Kept (fun k => (Value.slice A10 j c10).ownBlock = some k) w13 (wr.alloc (.cells #[.int .i64 0, .int .i64 0, .int .i64 0, .int .i64 0, .int .i64 0, .int .i64 0] 54))) := Lib.hid (HK.out.alloc _)
      have HBR14 := Lib.hid (HBR.out.below hb14)
      have hs14 := hb14.size
      clear hb14 hr14
      go_upto_region 16 with fail
      go_wp2_with (at_builtin; go_loud (refine wpList_append_rd rfl (.tmp 70) (.tmp 73) 22 rfl 54 (.agg #[.int .i64 0, .int .i64 0, .int .i64 0]) 24 Tryz.underlying22 info_arc rfl (by omega) (by omega) encA_len encA_one w9.heap.size _ l rfl HO14.out _ 2 2 [⟨0, 0, 0⟩, ⟨0, 0, 0⟩] rfl HR14.out (by rw [HL.out]; omega) (by omega) ?_; intro v15 w15 ho15 hg15 hat15; obtain ⟨A15, c15, rfl, h15c, h15m⟩ := ho15.form; have hl15 : (l ++ [(⟨0, 0, 0⟩ : ArcT), ⟨0, 0, 0⟩]).length = j + 2 := (by rw [List.length_append, HL.out]; rfl); rw [hl15]; have HK15 : Hid (Kept (fun k => (Value.slice A10 j c10).ownBlock = some k) w13 w15) := Lib.hid (HK14.out.trans (Kept.of_grownA hg15)); have hbr15 := HK15.out.cells HGa13.out (fun h => by have := (hbk _ h).2; omega); have Gac1 : w15.cell? ⟨w10.heap.size, 1, none⟩ = some (.slice A10 j c10) := hbr15.cell 1; clear ho15 hg15 hat15 h15c h15m hl15 hbr15))
      have hb15 : Below w9.heap.size w9 w15 := HK15.out.below HB913.out (fun k h => (hbk k h).1) (by omega)
      have HB15 := Lib.hid (HB9.out.trans (hb15.mono hs9W))
      have HGb15 := Lib.hid (HK15.out.cells HGb13.out (fun h => by have := (hbk _ h).2; omega))
      have HOB15 : Hid (OwnA w15 w11.heap.size (.slice A12 j c12) (resG (parseT a1.data.toList)).arcs) := Lib.hid (keptS_own HOB13.out HK15.out (fun k h h2 => by have h3 := (hbk _ h2).2; have h4 := (HOB13.out.block h).1; omega))
      clear hb15 Gac1
      go_upto_region 19 with fail
      go_wp2_with fail
      refine (HPD.out w15).mono ?_
      intro e w16 he
      obtain ⟨A16, c16, x16, rfl, ho, hb16⟩ := he.res
      rw [HM.out] at ho ⊢
      have hGN := HGN.out
      rw [hGN]
      clear hGN
      have HOD16 : Hid (OwnA w16 w15.heap.size (.slice A16 j c16) (resG (parseT a1.data.toList)).arcs) := Lib.hid ho
      unfold errV
      clear ho he
      have HB16 := Lib.hid (HB15.out.trans (hb16.mono HB15.out.size))
      have HGb16 := Lib.hid (HGb15.out.below hb16)
      have HOB16 := Lib.hid (HOB15.out.below hb16)
      have hs16 := hb16.size
      clear hb16
      have hb17 := two_alG w16 (.cells #[.int .i64 gn, .slice A16 j c16] 24) (.cells #[.int .i64 x16.c, .slice x16.A x16.n x16.k] 32)
      have hx17 := (cells_new w16 #[.int .i64 gn, .slice A16 j c16] 24).below ((Below.refl _ _).alloc (Nat.le_refl _) (.cells #[.int .i64 x16.c, .slice x16.A x16.n x16.k] 32))
      have hy17 := cells_new (w16.alloc (.cells #[.int .i64 gn, .slice A16 j c16] 24)) #[.int .i64 x16.c, .slice x16.A x16.n x16.k] 32
      have hz17 : ((w16.alloc (.cells #[.int .i64 gn, .slice A16 j c16] 24)).alloc (.cells #[.int .i64 x16.c, .slice x16.A x16.n x16.k] 32)).heap.size = w16.heap.size + 1 + 1 := by simp
      rw [size_alloc] at hy17
      have HB17 := Lib.hid (HB16.out.trans (hb17.mono HB16.out.size))
      have HGb17 := Lib.hid (HGb16.out.below hb17)
      have HOB17 := Lib.hid (HOB16.out.below hb17)
      have HOD17 := Lib.hid (HOD16.out.below hb17)
      have hs17 := hb17.size
      clear hb17
      have HU17 := Lib.hid hx17
      have HV17 := Lib.hid hy17
      clear hx17 hy17
      go_upto_region 20 with fail
      generalize (w16.alloc (.cells #[.int .i64 gn, .slice A16 j c16] 24)).alloc (.cells #[.int .i64 x16.c, .slice x16.A x16.n x16.k] 32) = w17 at *
      have Gbc0 : w17.cell? ⟨w12.heap.size, 0, none⟩ = some (.int .i64 gn) := HGb17.out.cell 0
      have Gbc1 : w17.cell? ⟨w12.heap.size, 1, none⟩ = some (.slice A12 j c12) := HGb17.out.cell 1
      have Uc0 : w17.cell? ⟨w16.heap.size, 0, none⟩ = some (.int .i64 gn) := HU17.out.cell 0
      have Uc1 : w17.cell? ⟨w16.heap.size, 1, none⟩ = some (.slice A16 j c16) := HU17.out.cell 1
      have HS := Lib.hid (Same03_eq A12 A16 j c12 c16 gn (resG (parseT a1.data.toList)).arcs w17 (Own.rd encA_len HOB17.out rfl) (Own.rd encA_len HOD17.out rfl) (by omega))
      go_wp2_with fail
      refine HS.out.mono ?_
      rintro e w18 ⟨rfl, hb18⟩
      clear HS
      have HB18 := Lib.hid (HB17.out.trans (hb18.mono HB17.out.size))
      have HGb18 := Lib.hid (HGb17.out.below hb18)
      have HU18 := Lib.hid (HU17.out.below hb18)
      have HV18 := Lib.hid (HV17.out.below hb18)
      have HOB18 := Lib.hid (HOB17.out.below hb18)
      have HOD18 := Lib.hid (HOD17.out.below hb18)
      have hs18 := hb18.size
      clear hb18 Gbc0 Gbc1 Uc0 Uc1
      go_wp2_with fail
      rw [HQ0.out]
      go_ret
      exact ⟨rfl, HB18.out⟩
end Go.Proofs.YtngihiebkbheaaaGreatDoor

/- WholeTexts: what is written is read as the same graph, and made normal it has its distances; what can't be written is told at its first bad arc, and with that arc mended the error moves on or goes. -/
import Derived.Test.YtmnnoecjedkdjaaGreatDoorWn9
import Derived.Test.YtmnnoecjedkdjaaGreatDoorWd3
import Derived.Test.YtmnnoecjedkdjaaGreatDoorWp3
import Derived.Test.YtmnnoecjedkdjaaGreatDoorGt25
import Derived.Test.YtmnnoecjedkdjaaGreatDoorGt14
set_option linter.unusedSimpArgs false
set_option linter.unusedVariables false
namespace Go.Proofs.YtmnnoecjedkdjaaGreatDoor
open Go.RowKit Txt

/-- the library's variables are as they were laid -/
structure Env (w : World) : Prop where
  errT : ErrT w
  rng : RangeV w
  maxL : MaxL w
  tab : TabP w
theorem Env.below {w w' : World} (h : Env w) (hb : Below w.heap.size w w') : Env w' :=
  ⟨h.errT.below hb, h.rng.kept (S := fun _ => False) (Kept.of_below hb) (fun h => h), h.maxL.below hb, h.tab.below hb⟩
theorem check_neg (W : World) : Calls Tryz.prog 12 #[.agg #[.int .i64 (-1), .slice none 0 0]] W fun e w' => e = .returned (.iface 27 (.int .i64 9)) ∧ Below W.heap.size W w' := by
  have h := GCheck_any ⟨-1, []⟩ none 0 W Rd.nil (by decide)
  rw [show chkT ⟨-1, []⟩ = some (9, none) from rfl] at h
  exact h.mono fun e w' he => ⟨he.2, he.1⟩
theorem print_len {n : Int} {l : List ArcT} (h : chkT ⟨n, l⟩ = none) (hl : l.length ≤ 100) : (printB ⟨n, l⟩).length ≤ 1048576 := by
  obtain ⟨h1, h2, h3, h4⟩ := chkT_none.1 h
  dsimp only at h1 h2 h3 h4
  rw [printB_lines]
  have k1 := lineB_len graphW [n, (l.length : Int)] (fun x hx => by simp only [List.mem_cons, List.not_mem_nil, or_false] at hx; rcases hx with rfl | rfl <;> omega)
  have k2 := arcs_len l (fun a ha => arc_bounds h2 (h4 a ha))
  have k3 := lineB_len endW [] (fun x hx => by cases hx)
  have e1 : graphW.length = 5 := rfl
  have e2 : endW.length = 3 := rfl
  simp only [List.length_append, List.length_cons, List.length_nil] at k1 k3 ⊢
  omega
/-- a right graph's normal graph is right -/
theorem norm_ok {n : Int} {l al : List ArcT} (h : chkT ⟨n, l⟩ = none) (hn : NormOf l al) : chkT ⟨n, al⟩ = none := by
  obtain ⟨h1, h2, h3, h4⟩ := chkT_none.1 h
  refine chkT_none.2 ⟨h1, h2, Nat.le_trans hn.len h3, fun a ha => h4 a (hn.mem a ha).1⟩
theorem arcs_right {n : Int} {l : List ArcT} (h : chkT ⟨n, l⟩ = none) : ∀ a ∈ l, 0 ≤ a.f ∧ a.f < n ∧ 0 ≤ a.t ∧ a.t < n ∧ 0 ≤ a.w ∧ a.w ≤ 2147483647 := fun a ha => arcBug_none.1 ((chkT_none.1 h).2.2.2 a ha)
theorem skip_unwanted {c : Prop} [Decidable c] {p q : Prop} (hc : ¬ c) (hq : q) : if c then p else q := by rw [if_neg hc]; exact hq
/-- errors.As at a fault, nothing but the target's block is turned -/
theorem As_hitK {W : World} (e t : Addr) (old : Value) (hg : ErrT W) (ht : W.cell? t = some old) (hf : W.frozen? t = false) :
    Calls Tryz.prog 20 #[.iface 50 (.pointer (some e)), .iface 52 (.pointer (some t))] W fun ev w' => ev = .returned (.bool true) ∧ Kept (fun k => k = t.block) W w' ∧ w'.cell? t = some (.pointer (some e)) := by
  have bt := World.block_lt_of_cell? W _ ht
  refine (As_ofF 50 (.pointer (some e)) t hg (as_hitF e t W.heap.size old (by rw [World.cell?_alloc_lt _ _ _ (by simp)]; simp) (by rw [World.cell?_alloc_lt _ _ t (by simp; omega), World.cell?_alloc_lt _ _ t bt]; exact ht) (by rw [World.frozen?_alloc_old _ _ t (by simp; omega), World.frozen?_alloc_old _ _ t (by omega)]; exact hf))).mono ?_
  rintro ev w' ⟨r, rfl, rfl, W2, hb, rfl⟩
  have h2 := (two_allocs W _ _).trans (hb.mono (by simp; omega))
  exact ⟨rfl, ((Kept.of_below (S := fun k => k = t.block) h2).set_ (.inl rfl) _), cell_set _ (cell_below h2 ht)⟩
/-- a matrix in memory -/
def MatD (w : World) (G t : Nat) (D : Mat) : Prop := ∃ base f, MatAt w base G t f ∧ MatF t f D
theorem MatD.below {w w' : World} {G t : Nat} {D : Mat} (h : MatD w G t D) (hb : Below w.heap.size w w') : MatD w' G t D := by
  obtain ⟨b, f, h1, h2⟩ := h
  exact ⟨b, f, h1.below hb, h2⟩
theorem MatD.drew {w : World} {G t : Nat} {D : Mat} (h : MatD w G t D) : MatD w.drew G t D := h.below (Below.drew (Below.refl _ _))
theorem same_matD {W : World} {G1 G2 t : Nat} {D : Mat} (h1 : MatD W G1 t D) (h2 : MatD W G2 t D) (ht : t ≤ 65536) : Calls Tryz.prog 17 #[.slice (some ⟨G1, 0, none⟩) t t, .slice (some ⟨G2, 0, none⟩) t t] W (BoolBelow true W) := by
  obtain ⟨b1, f1, k1, k2⟩ := h1
  obtain ⟨b2, f2, k3, k4⟩ := h2
  exact SameMatrix_any b1 b2 G1 G2 t f1 f2 D W k1 k3 k2 k4 ht
def DistD (t : Nat) (D : Mat) (W : World) (e : Ending) (w' : World) : Prop := ∃ G, e = .returned (.slice (some ⟨G, 0, none⟩) t t) ∧ MatD w' G t D ∧ Below W.heap.size W w'
theorem dist_right (t : Nat) (l : List ArcT) (A : Option Addr) (m kk : Nat) (W : World) (hrd : RdA W A m l) (hok : chkT ⟨(t : Int), l⟩ = none) : Calls Tryz.prog 18 #[.agg #[.int .i64 (t : Int), .slice A m kk]] W (DistD t (fwM t t (initM l)) W) := by
  have h := chkT_none.1 hok
  dsimp only at h
  refine (Distances_any t l A m kk W hrd (by omega) (by have := hrd.1; omega) (arcs_right hok)).mono ?_
  rintro e w' ⟨G, f, rfl, h1, h2, h3⟩
  exact ⟨G, rfl, ⟨_, f, h1, h2⟩, h3⟩
set_option maxRecDepth 100000 in
set_option maxHeartbeats 16000000 in
theorem WholeTexts_walk (A0 : Option Addr) (kk0 : Nat) (g0 : GrT) (W : World) (rd0 : RdA W A0 g0.arcs.length g0.arcs) (sh0 : g0.arcs.length * 24 ≤ 140737488351232) (hw : Env W) :
    Calls Tryz.prog 4 #[.agg #[.int .i64 g0.n, .slice A0 g0.arcs.length kk0]] W (BoolBelow true W) := by
  obtain ⟨n, l⟩ := g0
  dsimp only at *
  have HPR := Lib.hid (fun w (hb : Below W.heap.size W w) => Print_any ⟨n, l⟩ A0 kk0 w (rd0.below hb) (by dsimp only; omega) (hw.below hb).tab)
  obtain ⟨m, hm⟩ : ∃ m, l.length = m := ⟨_, rfl⟩
  dsimp only at HPR
  rw [hm] at rd0 HPR sh0 ⊢
  have HRD := Lib.hid rd0
  have HW := Lib.hid hw
  have HM := Lib.hid hm
  clear rd0 hw hm
  have hb1 := (Below.refl W.heap.size W).alloc (Nat.le_refl _) (.cells #[.int .i64 n, .slice A0 m kk0] 30)
  have hc1 := cells_new W #[.int .i64 n, .slice A0 m kk0] 30
  go_enter Tryz.func4, Tryz.ntmps4
  refine wp_named ?_
  intro Q0 hQ0
  have HQ0 := Lib.hid hQ0
  clear hQ0
  go_upto_region 1 with fail
  generalize W.alloc (.cells #[.int .i64 n, .slice A0 m kk0] 30) = w1 at *
  have HB1 := Lib.hid hb1
  have HC1 := Lib.hid hc1
  clear hb1 hc1
  go_wp2_with fail
  refine (check_neg w1).mono ?_
  rintro e w2 ⟨rfl, hb⟩
  have HB2 := Lib.hid (HB1.out.trans (hb.mono HB1.out.size))
  have HC2 := Lib.hid (HC1.out.below hb)
  clear hb HB1 HC1
  go_wp2_with fail
  refine (Is_num 9 9 (by decide) (by decide) w2).mono ?_
  rintro e w3 ⟨rfl, rfl⟩
  simp only [decide_true]
  have d1 : w2.cell? ⟨W.heap.size, 1, none⟩ = some (.slice A0 m kk0) := HC2.out.cell 1
  by_cases h100 : 100 < m
  · have q0 : decide ((100 : Int) < (m : Int)) = true := decide_eq_true (by omega)
    have q1 : decide (100 < m) = true := decide_eq_true h100
    go_wp2_with fail
    rw [HQ0.out]
    go_ret
    exact ⟨rfl, HB2.out⟩
  have q0 : decide ((100 : Int) < (m : Int)) = false := decide_eq_false (by omega)
  have q1 : decide (100 < m) = false := decide_eq_false h100
  have hm100 : m ≤ 100 := by omega
  have d0 : w2.cell? ⟨W.heap.size, 0, none⟩ = some (.int .i64 n) := HC2.out.cell 0
  go_wp2_with fail
  refine (HPR.out w2 HB2.out).mono ?_
  clear d0 d1 q0 q1 h100 HPR
  rintro e w4 ⟨hb, he⟩
  have HB4 := Lib.hid (HB2.out.trans (hb.mono HB2.out.size))
  have HC4 := Lib.hid (HC2.out.below hb)
  have HB24 := Lib.hid hb
  clear hb
  cases hck : chkT ⟨n, l⟩ with
  | none =>
    have HOK := Lib.hid hck
    have hpt : printT ⟨n, l⟩ = .ok (printB ⟨n, l⟩) := by unfold printT; rw [hck]
    rw [hpt] at he
    have HPP := Lib.hid (parse_print hck (print_len hck (by rw [HM.out]; exact hm100)))
    have HPL := Lib.hid (print_len hck (by rw [HM.out]; exact hm100))
    clear hpt hck HB24 HC2
    generalize printB ⟨n, l⟩ = S at *
    have he' : e = .returned (.tuple #[.string (toB S), .nilIface]) := he
    subst he'
    clear he
    have HPA := Lib.hid (Parse_any (toB S) w4 (by rw [toB_size]; have := HPL.out; omega) (HW.out.below HB4.out).maxL (HW.out.below HB4.out).rng)
    rw [toB_list, HPP.out] at HPA
    go_wp2_with fail
    refine HPA.out.mono ?_
    rintro e w5 ⟨hb, A2, k2, rfl, ho⟩
    dsimp only at ho
    rw [HM.out] at ho ⊢
    have HB5 := Lib.hid (HB4.out.trans (hb.mono HB4.out.size))
    have HC5 := Lib.hid (HC4.out.below hb)
    have hrd := ho.rd encA_len rfl
    have HRH := Lib.hid hrd
    clear hb ho hrd HB4 HC4 HPA HPP HPL
    go_upto_region 9 with fail
    have hb6 := (Below.refl w5.heap.size w5).alloc (Nat.le_refl _) (.cells #[.int .i64 n, .slice A2 m k2] 30)
    have HB6 := Lib.hid (HB5.out.trans (hb6.mono HB5.out.size))
    have HC6 := Lib.hid (HC5.out.below hb6)
    have HH6 := Lib.hid (cells_new w5 #[.int .i64 n, .slice A2 m k2] 30)
    have HRH6 := Lib.hid (HRH.out.below hb6)
    have hHW : W.heap.size < w5.heap.size := Nat.lt_of_lt_of_le HC5.out.lt (Nat.le_refl _)
    clear hb6 HB5 HC5 HRH
    generalize w5.alloc (.cells #[.int .i64 n, .slice A2 m k2] 30) = w6 at *
    generalize w5.heap.size = H at *
    have h0 : w6.cell? ⟨H, 0, none⟩ = some (.int .i64 n) := HH6.out.cell 0
    have h1 : w6.cell? ⟨H, 1, none⟩ = some (.slice A2 m k2) := HH6.out.cell 1
    go_wp2_with fail
    refine (Of_any n l A2 m k2 w6 HRH6.out HOK.out).mono ?_
    rintro e w7 ⟨al, A3, k3, rfl, ho, hno, hb⟩
    have HB7 := Lib.hid (HB6.out.trans (hb.mono HB6.out.size))
    have HC7 := Lib.hid (HC6.out.below hb)
    have HH7 := Lib.hid (HH6.out.below hb)
    have HRH7 := Lib.hid (HRH6.out.below hb)
    have HRN7 := Lib.hid (ho.rd encA_len rfl)
    have HNO := Lib.hid hno
    have HNK := Lib.hid (norm_ok HOK.out hno)
    have hHN : H < w7.heap.size := HH7.out.lt
    have hq100 : al.length ≤ 100 := Nat.le_trans hno.len (by rw [HM.out]; exact hm100)
    clear hb ho hno h0 h1 HB6 HC6 HH6 HRH6
    obtain ⟨q, hq⟩ : ∃ q, al.length = q := ⟨_, rfl⟩
    rw [hq] at HRN7 hq100 ⊢
    have HQ := Lib.hid hq
    clear hq
    go_upto_region 10 with fail
    have hb8 := (Below.refl w7.heap.size w7).alloc (Nat.le_refl _) (.cells #[.int .i64 n, .slice A3 q k3] 30)
    have HB8 := Lib.hid (HB7.out.trans (hb8.mono HB7.out.size))
    have HC8 := Lib.hid (HC7.out.below hb8)
    have HH8 := Lib.hid (HH7.out.below hb8)
    have HN8 := Lib.hid (cells_new w7 #[.int .i64 n, .slice A3 q k3] 30)
    have HRH8 := Lib.hid (HRH7.out.below hb8)
    have HRN8 := Lib.hid (HRN7.out.below hb8)
    clear hb8 HB7 HC7 HH7 HRH7 HRN7
    generalize w7.alloc (.cells #[.int .i64 n, .slice A3 q k3] 30) = w8 at *
    generalize w7.heap.size = N at *
    have HSM : Hid (∀ w, Below w8.heap.size w8 w → Calls Tryz.prog 8 #[.agg #[.int .i64 n, .slice A2 m k2], .agg #[.int .i64 n, .slice A0 m kk0]] w (BoolBelow true w)) := Lib.hid fun w hb => Same03_eq A2 A0 m k2 kk0 n l w (HRH8.out.below hb) (HRD.out.below (HB8.out.trans (hb.mono HB8.out.size))) (by omega)
    have HS1 : Hid (∀ w, Below w8.heap.size w8 w → Calls Tryz.prog 16 #[.agg #[.int .i64 n, .slice A0 m kk0], .int .i64 10] w (BoolBelow (decide (n ≤ 10)) w)) := Lib.hid fun w hb => small_any n l A0 m kk0 w (HRD.out.below (HB8.out.trans (hb.mono HB8.out.size))) HOK.out hm100
    have HS2 : Hid (∀ w, Below w8.heap.size w8 w → Calls Tryz.prog 16 #[.agg #[.int .i64 n, .slice A3 q k3], .int .i64 10] w (BoolBelow (decide (n ≤ 10)) w)) := Lib.hid fun w hb => small_any n al A3 q k3 w (HRN8.out.below hb) HNK.out hq100
    have c0 : w8.cell? ⟨W.heap.size, 0, none⟩ = some (.int .i64 n) := HC8.out.cell 0
    have c1 : w8.cell? ⟨W.heap.size, 1, none⟩ = some (.slice A0 m kk0) := HC8.out.cell 1
    have h0 : w8.cell? ⟨H, 0, none⟩ = some (.int .i64 n) := HH8.out.cell 0
    have h1 : w8.cell? ⟨H, 1, none⟩ = some (.slice A2 m k2) := HH8.out.cell 1
    have n0 : w8.cell? ⟨N, 0, none⟩ = some (.int .i64 n) := HN8.out.cell 0
    have n1 : w8.cell? ⟨N, 1, none⟩ = some (.slice A3 q k3) := HN8.out.cell 1
    have HX : Hid (Below w8.heap.size w8 w8) := Lib.hid (Below.refl _ _)
    by_cases hn10 : n ≤ 10
    · have hd10 : decide (n ≤ 10) = true := decide_eq_true hn10
      rw [hd10] at HS1 HS2
      obtain ⟨t, rfl⟩ : ∃ t : Nat, n = (t : Int) := ⟨n.toNat, by have h := (chkT_none.1 HOK.out).1; dsimp only at h; omega⟩
      have ht : t ≤ 65536 := by omega
      have HD1 : Hid (∀ w, Below w8.heap.size w8 w → Calls Tryz.prog 18 #[.agg #[.int .i64 (t : Int), .slice A3 q k3]] w (DistD t (fwM t t (initM l)) w)) := Lib.hid fun w hb => by
        have h := dist_right t al A3 q k3 w (HRN8.out.below hb) HNK.out
        rwa [initM_eq HNO.out (fun a ha => by have h := arcs_right HOK.out a ha; omega)] at h
      have HD2 : Hid (∀ w, Below w8.heap.size w8 w → Calls Tryz.prog 18 #[.agg #[.int .i64 (t : Int), .slice A0 m kk0]] w (DistD t (fwM t t (initM l)) w)) := Lib.hid fun w hb => dist_right t l A0 m kk0 w (HRD.out.below (HB8.out.trans (hb.mono HB8.out.size))) HOK.out
      generalize fwM t t (initM l) = D at *
      clear hd10 hn10
      go_region_held3 (fun w' => ((w'.cell? ⟨W.heap.size, 0, none⟩ = some (.int .i64 (t : Int)) ∧ w'.cell? ⟨W.heap.size, 1, none⟩ = some (.slice A0 m kk0)) ∧ w'.cell? ⟨H, 0, none⟩ = some (.int .i64 (t : Int)) ∧ w'.cell? ⟨H, 1, none⟩ = some (.slice A2 m k2)) ∧ w'.cell? ⟨N, 0, none⟩ = some (.int .i64 (t : Int)) ∧ w'.cell? ⟨N, 1, none⟩ = some (.slice A3 q k3)) (first | with_reducible exact ⟨⟨⟨c0, c1⟩, h0, h1⟩, n0, n1⟩ | go_keep) (first
        | (go_at_call 8; (with_reducible refine (HSM.out _ (by first | exact HX.out | exact HX.out.drew)).mono ?_); rintro e v0 ⟨rfl, hb5⟩; have c0 := cell_below hb5 c0; have c1 := cell_below hb5 c1; have h0 := cell_below hb5 h0; have h1 := cell_below hb5 h1; have n0 := cell_below hb5 n0; have n1 := cell_below hb5 n1; have HX : Hid (Below w8.heap.size w8 v0) := Lib.hid (by first | exact HX.out.trans (hb5.mono HX.out.size) | exact HX.out.drew.trans (hb5.mono HX.out.drew.size)); (try replace HA := Lib.hid (by first | exact HA.out.below hb5 | exact HA.out.drew.below hb5)); (try replace HE := Lib.hid (by first | exact HE.out.below hb5 | exact HE.out.drew.below hb5)); clear hb5)
        | (go_at_call 16; (with_reducible refine (HS1.out _ (by first | exact HX.out | exact HX.out.drew)).mono ?_); rintro e v0 ⟨rfl, hb5⟩; have c0 := cell_below hb5 c0; have c1 := cell_below hb5 c1; have h0 := cell_below hb5 h0; have h1 := cell_below hb5 h1; have n0 := cell_below hb5 n0; have n1 := cell_below hb5 n1; have HX : Hid (Below w8.heap.size w8 v0) := Lib.hid (by first | exact HX.out.trans (hb5.mono HX.out.size) | exact HX.out.drew.trans (hb5.mono HX.out.drew.size)); (try replace HA := Lib.hid (by first | exact HA.out.below hb5 | exact HA.out.drew.below hb5)); (try replace HE := Lib.hid (by first | exact HE.out.below hb5 | exact HE.out.drew.below hb5)); clear hb5)
        | (go_at_call 16; (with_reducible refine (HS2.out _ (by first | exact HX.out | exact HX.out.drew)).mono ?_); rintro e v0 ⟨rfl, hb5⟩; have c0 := cell_below hb5 c0; have c1 := cell_below hb5 c1; have h0 := cell_below hb5 h0; have h1 := cell_below hb5 h1; have n0 := cell_below hb5 n0; have n1 := cell_below hb5 n1; have HX : Hid (Below w8.heap.size w8 v0) := Lib.hid (by first | exact HX.out.trans (hb5.mono HX.out.size) | exact HX.out.drew.trans (hb5.mono HX.out.drew.size)); (try replace HA := Lib.hid (by first | exact HA.out.below hb5 | exact HA.out.drew.below hb5)); (try replace HE := Lib.hid (by first | exact HE.out.below hb5 | exact HE.out.drew.below hb5)); clear hb5)
        | (go_at_call 18; (with_reducible refine (HD1.out _ (by first | exact HX.out | exact HX.out.drew)).mono ?_); rintro e v0 ⟨G1, rfl, hm5, hb5⟩; have c0 := cell_below hb5 c0; have c1 := cell_below hb5 c1; have h0 := cell_below hb5 h0; have h1 := cell_below hb5 h1; have n0 := cell_below hb5 n0; have n1 := cell_below hb5 n1; have HX : Hid (Below w8.heap.size w8 v0) := Lib.hid (by first | exact HX.out.trans (hb5.mono HX.out.size) | exact HX.out.drew.trans (hb5.mono HX.out.drew.size)); (try replace HA := Lib.hid (by first | exact HA.out.below hb5 | exact HA.out.drew.below hb5)); (try replace HE := Lib.hid (by first | exact HE.out.below hb5 | exact HE.out.drew.below hb5)); have HA := Lib.hid hm5; clear hb5 hm5)
        | (go_at_call 18; (with_reducible refine (HD2.out _ (by first | exact HX.out | exact HX.out.drew)).mono ?_); rintro e v0 ⟨G2, rfl, hm5, hb5⟩; have c0 := cell_below hb5 c0; have c1 := cell_below hb5 c1; have h0 := cell_below hb5 h0; have h1 := cell_below hb5 h1; have n0 := cell_below hb5 n0; have n1 := cell_below hb5 n1; have HX : Hid (Below w8.heap.size w8 v0) := Lib.hid (by first | exact HX.out.trans (hb5.mono HX.out.size) | exact HX.out.drew.trans (hb5.mono HX.out.drew.size)); (try replace HA := Lib.hid (by first | exact HA.out.below hb5 | exact HA.out.drew.below hb5)); (try replace HE := Lib.hid (by first | exact HE.out.below hb5 | exact HE.out.drew.below hb5)); have HE := Lib.hid hm5; clear hb5 hm5)
        | (go_at_call 17; (with_reducible refine (same_matD (by first | exact HA.out | exact HA.out.drew) (by first | exact HE.out | exact HE.out.drew) ht).mono ?_); rintro e v0 ⟨rfl, hb5⟩; have c0 := cell_below hb5 c0; have c1 := cell_below hb5 c1; have h0 := cell_below hb5 h0; have h1 := cell_below hb5 h1; have n0 := cell_below hb5 n0; have n1 := cell_below hb5 n1; have HX : Hid (Below w8.heap.size w8 v0) := Lib.hid (by first | exact HX.out.trans (hb5.mono HX.out.size) | exact HX.out.drew.trans (hb5.mono HX.out.drew.size)); (try replace HA := Lib.hid (by first | exact HA.out.below hb5 | exact HA.out.drew.below hb5)); (try replace HE := Lib.hid (by first | exact HE.out.below hb5 | exact HE.out.drew.below hb5)); clear hb5))
      all_goals
        rename_i hHeld
        clear hHeld c0 c1 h0 h1 n0 n1
        have HBE := Lib.hid (HB8.out.trans (HX.out.mono HB8.out.size))
        go_wp2_with fail
        rw [HQ0.out]
        go_ret
        exact ⟨rfl, by first | exact HBE.out | exact HBE.out.drew⟩
    · have hd10 : decide (n ≤ 10) = false := decide_eq_false hn10
      rw [hd10] at HS1 HS2
      clear hd10 hn10
      have hQ := HQ0.out
      clear HQ0
      subst hQ
      have c0 := cell_below (Below.drew (Below.refl w8.heap.size w8)) c0
      have c1 := cell_below (Below.drew (Below.refl w8.heap.size w8)) c1
      have h0 := cell_below (Below.drew (Below.refl w8.heap.size w8)) h0
      have h1 := cell_below (Below.drew (Below.refl w8.heap.size w8)) h1
      have n0 := cell_below (Below.drew (Below.refl w8.heap.size w8)) n0
      have n1 := cell_below (Below.drew (Below.refl w8.heap.size w8)) n1
      have HX : Hid (Below w8.heap.size w8 w8.drew) := Lib.hid (Below.drew (Below.refl _ _))
      refine wp_region_held_drew (S := (fun w' => ((w'.cell? ⟨W.heap.size, 0, none⟩ = some (.int .i64 n) ∧ w'.cell? ⟨W.heap.size, 1, none⟩ = some (.slice A0 m kk0)) ∧ w'.cell? ⟨H, 0, none⟩ = some (.int .i64 n) ∧ w'.cell? ⟨H, 1, none⟩ = some (.slice A2 m k2)) ∧ w'.cell? ⟨N, 0, none⟩ = some (.int .i64 n) ∧ w'.cell? ⟨N, 1, none⟩ = some (.slice A3 q k3))) (by kernel_rfl) ?_ (fun hHeld => ?_)
      · exact ⟨⟨⟨c0, c1⟩, h0, h1⟩, n0, n1⟩
      refine wpAnyH_take (i := 0) (v := ?v0) rfl (by kernel_rfl) (by kernel_rfl) (by kernel_rfl) (fun _ _ _ h => h) (Or.inl ⟨by rfl, ?hy0⟩) hHeld ?_
      case hy0 => (intro w hSw; (try dsimp only at hSw); go_simp; try with_reducible rfl)
      simp only [Act.put, List.setIfInBounds_toArray, List.set_cons_zero, List.set_cons_succ, List.getElem_toArray, List.getElem_cons_zero, List.getElem_cons_succ]
      refine wpAnyH_take (i := 1) (v := ?v1) rfl (by kernel_rfl) (by kernel_rfl) (by kernel_rfl) (fun _ _ _ h => h) (Or.inl ⟨by rfl, ?hy1⟩) hHeld ?_
      case hy1 => (intro w hSw; (try dsimp only at hSw); go_simp; try with_reducible rfl)
      simp only [Act.put, List.setIfInBounds_toArray, List.set_cons_zero, List.set_cons_succ, List.getElem_toArray, List.getElem_cons_zero, List.getElem_cons_succ]
      refine wpAnyH_take (i := 2) (v := ?v2) rfl (by kernel_rfl) (by kernel_rfl) (by kernel_rfl) (fun _ _ _ h => h) (Or.inl ⟨by rfl, ?hy2⟩) hHeld ?_
      case hy2 => (intro w hSw; (try dsimp only at hSw); go_simp; try with_reducible rfl)
      simp only [Act.put, List.setIfInBounds_toArray, List.set_cons_zero, List.set_cons_succ, List.getElem_toArray, List.getElem_cons_zero, List.getElem_cons_succ]
      refine wpAnyH_take (i := 3) (v := ?v3) rfl (by kernel_rfl) (by kernel_rfl) (by kernel_rfl) (fun _ _ _ h => h) (Or.inl ⟨by rfl, ?hy3⟩) hHeld ?_
      case hy3 => (intro w hSw; (try dsimp only at hSw); go_simp; try with_reducible rfl)
      simp only [Act.put, List.setIfInBounds_toArray, List.set_cons_zero, List.set_cons_succ, List.getElem_toArray, List.getElem_cons_zero, List.getElem_cons_succ]
      refine wpAnyH_take (i := 4) (v := ?v4) rfl (by kernel_rfl) (by kernel_rfl) (by kernel_rfl) (fun _ _ _ h => h) (Or.inl ⟨by rfl, ?hy4⟩) hHeld ?_
      case hy4 => (intro w hSw; (try dsimp only at hSw); go_simp; try with_reducible rfl)
      simp only [Act.put, List.setIfInBounds_toArray, List.set_cons_zero, List.set_cons_succ, List.getElem_toArray, List.getElem_cons_zero, List.getElem_cons_succ]
      refine wpAnyH_take (i := 5) (v := ?v5) rfl (by kernel_rfl) (by kernel_rfl) (by kernel_rfl) (fun _ _ _ h => h) (Or.inl ⟨by rfl, ?hy5⟩) hHeld ?_
      case hy5 => (intro w hSw; (try dsimp only at hSw); go_simp; try with_reducible rfl)
      simp only [Act.put, List.setIfInBounds_toArray, List.set_cons_zero, List.set_cons_succ, List.getElem_toArray, List.getElem_cons_zero, List.getElem_cons_succ]
      refine wpAnyH_take (i := 6) (v := ?v6) rfl (by kernel_rfl) (by kernel_rfl) (by kernel_rfl) (fun _ _ _ h => h) (Or.inl ⟨by rfl, ?hy6⟩) hHeld ?_
      case hy6 => (intro w hSw; (try dsimp only at hSw); go_simp; try with_reducible rfl)
      simp only [Act.put, List.setIfInBounds_toArray, List.set_cons_zero, List.set_cons_succ, List.getElem_toArray, List.getElem_cons_zero, List.getElem_cons_succ]
      refine wpAnyH_take (i := 7) (v := ?v7) rfl (by kernel_rfl) (by kernel_rfl) (by kernel_rfl) (fun _ _ _ h => h) (Or.inl ⟨by rfl, ?hy7⟩) hHeld ?_
      case hy7 => (intro w hSw; (try dsimp only at hSw); go_simp; try with_reducible rfl)
      simp only [Act.put, List.setIfInBounds_toArray, List.set_cons_zero, List.set_cons_succ, List.getElem_toArray, List.getElem_cons_zero, List.getElem_cons_succ]
      refine wpAnyH_take (i := 8) (v := ?v8) rfl (by kernel_rfl) (by kernel_rfl) (by kernel_rfl) (fun _ _ _ h => h) (Or.inl ⟨by rfl, ?hy8⟩) hHeld ?_
      case hy8 => (intro w hSw; (try dsimp only at hSw); go_simp; try with_reducible rfl)
      simp only [Act.put, List.setIfInBounds_toArray, List.set_cons_zero, List.set_cons_succ, List.getElem_toArray, List.getElem_cons_zero, List.getElem_cons_succ]
      refine wpAnyH_ready (rs := [9]) (by kernel_rfl) (by simp) (AllReadyH.cons rfl (fun K hK => ?_) AllReadyH.nil)
      rw [if_pos (by rfl)]
      go_simp
      go_at_call 8
      refine (HSM.out _ HX.out).mono ?_
      rintro e v0 ⟨rfl, hb5⟩
      have c0 := cell_below hb5 c0; have c1 := cell_below hb5 c1; have h0 := cell_below hb5 h0; have h1 := cell_below hb5 h1; have n0 := cell_below hb5 n0; have n1 := cell_below hb5 n1
      have HX := Lib.hid (HX.out.trans (hb5.mono HX.out.size))
      clear hb5
      go_simp
      refine hK.out _ _ ?_ (fun hHeld => ?_)
      · exact ⟨⟨⟨c0, c1⟩, h0, h1⟩, n0, n1⟩
      clear hK K
      try simp only [Act.put, List.setIfInBounds_toArray, List.set_cons_zero, List.set_cons_succ, List.getElem_toArray, List.getElem_cons_zero, List.getElem_cons_succ]
      refine wpAnyH_take (i := 10) (v := ?v10) rfl (by kernel_rfl) (by kernel_rfl) (by kernel_rfl) (fun _ _ _ h => h) (Or.inl ⟨by rfl, ?hy10⟩) hHeld ?_
      case hy10 => (intro w hSw; (try dsimp only at hSw); go_simp; try with_reducible rfl)
      simp only [Act.put, List.setIfInBounds_toArray, List.set_cons_zero, List.set_cons_succ, List.getElem_toArray, List.getElem_cons_zero, List.getElem_cons_succ]
      refine wpAnyH_take (i := 11) (v := ?v11) rfl (by kernel_rfl) (by kernel_rfl) (by kernel_rfl) (fun _ _ _ h => h) (Or.inl ⟨by rfl, ?hy11⟩) hHeld ?_
      case hy11 => (intro w hSw; (try dsimp only at hSw); go_simp; try with_reducible rfl)
      simp only [Act.put, List.setIfInBounds_toArray, List.set_cons_zero, List.set_cons_succ, List.getElem_toArray, List.getElem_cons_zero, List.getElem_cons_succ]
      refine wpAnyH_take (i := 12) (v := ?v12) rfl (by kernel_rfl) (by kernel_rfl) (by kernel_rfl) (fun _ _ _ h => h) (Or.inl ⟨by rfl, ?hy12⟩) hHeld ?_
      case hy12 => (intro w hSw; (try dsimp only at hSw); go_simp; try with_reducible rfl)
      simp only [Act.put, List.setIfInBounds_toArray, List.set_cons_zero, List.set_cons_succ, List.getElem_toArray, List.getElem_cons_zero, List.getElem_cons_succ]
      refine wpAnyH_ready (rs := [13]) (by kernel_rfl) (by simp) (AllReadyH.cons rfl (fun K hK => ?_) AllReadyH.nil)
      rw [if_pos (by rfl)]
      go_simp
      go_at_call 16
      refine (HS1.out _ HX.out).mono ?_
      rintro e v0 ⟨rfl, hb5⟩
      have c0 := cell_below hb5 c0; have c1 := cell_below hb5 c1; have h0 := cell_below hb5 h0; have h1 := cell_below hb5 h1; have n0 := cell_below hb5 n0; have n1 := cell_below hb5 n1
      have HX := Lib.hid (HX.out.trans (hb5.mono HX.out.size))
      clear hb5
      go_simp
      refine hK.out _ _ ?_ (fun hHeld => ?_)
      · exact ⟨⟨⟨c0, c1⟩, h0, h1⟩, n0, n1⟩
      clear hK K
      try simp only [Act.put, List.setIfInBounds_toArray, List.set_cons_zero, List.set_cons_succ, List.getElem_toArray, List.getElem_cons_zero, List.getElem_cons_succ]
      refine wpAnyH_take (i := 14) (v := ?v14) rfl (by kernel_rfl) (by kernel_rfl) (by kernel_rfl) (fun _ _ _ h => h) (Or.inl ⟨by rfl, ?hy14⟩) hHeld ?_
      case hy14 => (intro w hSw; (try dsimp only at hSw); go_simp; try with_reducible rfl)
      simp only [Act.put, List.setIfInBounds_toArray, List.set_cons_zero, List.set_cons_succ, List.getElem_toArray, List.getElem_cons_zero, List.getElem_cons_succ]
      refine wpAnyH_take (i := 15) (v := ?v15) rfl (by kernel_rfl) (by kernel_rfl) (by kernel_rfl) (fun _ _ _ h => h) (Or.inl ⟨by rfl, ?hy15⟩) hHeld ?_
      case hy15 => (intro w hSw; (try dsimp only at hSw); go_simp; try with_reducible rfl)
      simp only [Act.put, List.setIfInBounds_toArray, List.set_cons_zero, List.set_cons_succ, List.getElem_toArray, List.getElem_cons_zero, List.getElem_cons_succ]
      refine wpAnyH_take (i := 16) (v := undef) rfl (by kernel_rfl) (by kernel_rfl) (by kernel_rfl) (fun _ _ _ h => h) (Or.inr ⟨by rfl, rfl⟩) hHeld ?_
      simp only [Act.put, List.setIfInBounds_toArray, List.set_cons_zero, List.set_cons_succ, List.getElem_toArray, List.getElem_cons_zero, List.getElem_cons_succ]
      refine wpAnyH_take (i := 17) (v := undef) rfl (by kernel_rfl) (by kernel_rfl) (by kernel_rfl) (fun _ _ _ h => h) (Or.inr ⟨by rfl, rfl⟩) hHeld ?_
      simp only [Act.put, List.setIfInBounds_toArray, List.set_cons_zero, List.set_cons_succ, List.getElem_toArray, List.getElem_cons_zero, List.getElem_cons_succ]
      refine wpAnyH_take (i := 18) (v := undef) rfl (by kernel_rfl) (by kernel_rfl) (by kernel_rfl) (fun _ _ _ h => h) (Or.inr ⟨by rfl, rfl⟩) hHeld ?_
      simp only [Act.put, List.setIfInBounds_toArray, List.set_cons_zero, List.set_cons_succ, List.getElem_toArray, List.getElem_cons_zero, List.getElem_cons_succ]
      refine wpAnyH_take (i := 19) (v := undef) rfl (by kernel_rfl) (by kernel_rfl) (by kernel_rfl) (fun _ _ _ h => h) (Or.inr ⟨by rfl, rfl⟩) hHeld ?_
      simp only [Act.put, List.setIfInBounds_toArray, List.set_cons_zero, List.set_cons_succ, List.getElem_toArray, List.getElem_cons_zero, List.getElem_cons_succ]
      refine wpAnyH_take (i := 20) (v := undef) rfl (by kernel_rfl) (by kernel_rfl) (by kernel_rfl) (fun _ _ _ h => h) (Or.inr ⟨by rfl, rfl⟩) hHeld ?_
      simp only [Act.put, List.setIfInBounds_toArray, List.set_cons_zero, List.set_cons_succ, List.getElem_toArray, List.getElem_cons_zero, List.getElem_cons_succ]
      refine wpAnyH_take (i := 21) (v := undef) rfl (by kernel_rfl) (by kernel_rfl) (by kernel_rfl) (fun _ _ _ h => h) (Or.inr ⟨by rfl, rfl⟩) hHeld ?_
      simp only [Act.put, List.setIfInBounds_toArray, List.set_cons_zero, List.set_cons_succ, List.getElem_toArray, List.getElem_cons_zero, List.getElem_cons_succ]
      refine wpAnyH_take (i := 22) (v := undef) rfl (by kernel_rfl) (by kernel_rfl) (by kernel_rfl) (fun _ _ _ h => h) (Or.inr ⟨by rfl, rfl⟩) hHeld ?_
      simp only [Act.put, List.setIfInBounds_toArray, List.set_cons_zero, List.set_cons_succ, List.getElem_toArray, List.getElem_cons_zero, List.getElem_cons_succ]
      refine wpAnyH_take (i := 23) (v := undef) rfl (by kernel_rfl) (by kernel_rfl) (by kernel_rfl) (fun _ _ _ h => h) (Or.inr ⟨by rfl, rfl⟩) hHeld ?_
      simp only [Act.put, List.setIfInBounds_toArray, List.set_cons_zero, List.set_cons_succ, List.getElem_toArray, List.getElem_cons_zero, List.getElem_cons_succ]
      refine wpAnyH_take (i := 24) (v := undef) rfl (by kernel_rfl) (by kernel_rfl) (by kernel_rfl) (fun _ _ _ h => h) (Or.inr ⟨by rfl, rfl⟩) hHeld ?_
      simp only [Act.put, List.setIfInBounds_toArray, List.set_cons_zero, List.set_cons_succ, List.getElem_toArray, List.getElem_cons_zero, List.getElem_cons_succ]
      refine wpAnyH_take (i := 25) (v := ?v25) rfl (by kernel_rfl) (by kernel_rfl) (by kernel_rfl) (fun _ _ _ h => h) (Or.inl ⟨by rfl, ?hy25⟩) hHeld ?_
      case hy25 => (intro w hSw; (try dsimp only at hSw); go_simp; try with_reducible rfl)
      simp only [Act.put, List.setIfInBounds_toArray, List.set_cons_zero, List.set_cons_succ, List.getElem_toArray, List.getElem_cons_zero, List.getElem_cons_succ]
      refine wpAnyH_take (i := 26) (v := ?v26) rfl (by kernel_rfl) (by kernel_rfl) (by kernel_rfl) (fun _ _ _ h => h) (Or.inl ⟨by rfl, ?hy26⟩) hHeld ?_
      case hy26 => (intro w hSw; (try dsimp only at hSw); go_simp; try with_reducible rfl)
      simp only [Act.put, List.setIfInBounds_toArray, List.set_cons_zero, List.set_cons_succ, List.getElem_toArray, List.getElem_cons_zero, List.getElem_cons_succ]
      refine wpAnyH_take (i := 27) (v := ?v27) rfl (by kernel_rfl) (by kernel_rfl) (by kernel_rfl) (fun _ _ _ h => h) (Or.inl ⟨by rfl, ?hy27⟩) hHeld ?_
      case hy27 => (intro w hSw; (try dsimp only at hSw); go_simp; try with_reducible rfl)
      simp only [Act.put, List.setIfInBounds_toArray, List.set_cons_zero, List.set_cons_succ, List.getElem_toArray, List.getElem_cons_zero, List.getElem_cons_succ]
      refine wpAnyH_done (by kernel_rfl) ?_ _
      all_goals
        rename_i hHeld
        clear hHeld c0 c1 h0 h1 n0 n1
        have HBE := Lib.hid (HB8.out.trans (HX.out.mono HB8.out.size))
        go_wp2_with fail
        go_ret
        exact ⟨rfl, by first | exact HBE.out | exact HBE.out.drew⟩
  | some b =>
    have hpt : printT ⟨n, l⟩ = .error b := by unfold printT; rw [hck]
    rw [hpt] at he
    have HME : Hid (Mend n m 0 (-1) l) := Lib.hid (by have h := Mend.start (n := n) (l := l) (by rw [hck]; simp); rwa [HM.out] at h)
    clear hpt hck
    obtain ⟨v, rfl, hpx⟩ := he
    obtain ⟨vt, vx, rfl, hvt⟩ : ∃ vt vx, v = .iface vt vx ∧ (vt = 27 ∨ vt = 50) := by
      obtain ⟨c, p⟩ := b
      cases p with
      | none => exact ⟨_, _, hpx, .inl rfl⟩
      | some p =>
        obtain ⟨k, a⟩ := p
        obtain ⟨g, h1, _⟩ := hpx
        exact ⟨_, _, h1, .inr rfl⟩
    have c0 : w4.cell? ⟨W.heap.size, 0, none⟩ = some (.int .i64 n) := HC4.out.cell 0
    have c1 : w4.cell? ⟨W.heap.size, 1, none⟩ = some (.slice A0 m kk0) := HC4.out.cell 1
    have HTW := Lib.hid (Twin_any n l A0 m kk0 w4 (HRD.out.below HB4.out) (by omega))
    have hvn : ∀ w, (binOp .eql 24 (.iface vt vx) .nilIface).run Tryz.prog w = .ok (.bool false) w := by
      intro w
      rcases hvt with rfl | rfl <;> rfl
    clear hpx HB24
    go_wp2_with fail
    refine HTW.out.mono ?_
    rintro e w5 ⟨A5, k5, rfl, ho5, hb5⟩
    rw [HM.out] at ho5 ⊢
    have HB5 := Lib.hid (HB4.out.trans (hb5.mono HB4.out.size))
    have HC5 := Lib.hid (HC4.out.below hb5)
    have HO5 := Lib.hid ho5
    have hown : ∀ k, (Value.slice A5 m k5).ownBlock = some k → W.heap.size ≤ k ∧ k < w5.heap.size := fun k h => by
      have h1 := ho5.block h
      have h2 := HB4.out.size
      exact ⟨by omega, h1.2⟩
    have hz4 := HB4.out.size
    clear ho5 hb5 c0 c1 HTW hvn hvt
    go_upto_region 13 with fail
    have hb6 := (Below.refl w5.heap.size w5).alloc (Nat.le_refl _) (.cells #[.int .i64 n, .slice A5 m k5] 30)
    have HB6 := Lib.hid (HB5.out.trans (hb6.mono HB5.out.size))
    have HC6 := Lib.hid (HC5.out.below hb6)
    have HG6 := Lib.hid (cells_new w5 #[.int .i64 n, .slice A5 m k5] 30)
    have HO6 := Lib.hid (HO5.out.below hb6)
    have hCW : W.heap.size < w5.heap.size := HC5.out.lt
    clear hb6 HB5 HC5 HO5
    generalize w5.alloc (.cells #[.int .i64 n, .slice A5 m k5] 30) = w6 at *
    generalize w5.heap.size = C at *
    generalize w4.heap.size = bs at *
    have c1 : w6.cell? ⟨W.heap.size, 1, none⟩ = some (.slice A0 m kk0) := HC6.out.cell 1
    have hm1 : IntKind.i64.wrap ((m : Int) + 1) = ((m + 1 : Nat) : Int) := by rw [IntKind.wrap_i64]; omega
    go_wp2_with fail
    clear c1 hm1
    go_loopw [10, 74] (fun lv iv wr => ∃ (i : Nat) (last : Int) (L : List ArcT), lv = .int .i64 last ∧ iv = .int .i64 i ∧ i ≤ m + 1 ∧ Mend n m i last L ∧ Cells wr C #[.int .i64 n, .slice A5 m k5] 30 ∧ OwnA wr bs (.slice A5 m k5) L ∧ Below W.heap.size W wr) (fun _ iv _ => m + 1 - (intOf iv).toNat)
    case atStart => exact ⟨0, -1, l, rfl, rfl, by omega, HME.out, HG6.out, HO6.out, HB6.out⟩
    case round =>
      clear HME HG6 HO6
      obtain ⟨i, last, L, rfl, rfl, hi, hme, hcg, ho, hb⟩ := hrel
      have HME := Lib.hid hme
      have HCG := Lib.hid hcg
      have HO := Lib.hid ho
      have HB := Lib.hid hb
      have hlo := hme.lo
      have hhi := hme.hi
      clear hme hcg ho hb
      by_cases hlt : i < m + 1
      · have g0 : decide ((i : Int) < ((m + 1 : Nat) : Int)) = true := decide_eq_true (by omega)
        go_upto_region 16 with fail
        have hb7 := (Below.refl wr.heap.size wr).alloc (Nat.le_refl _) (.cells #[.pointer none] 50)
        have HB7 := Lib.hid (HB.out.trans (hb7.mono HB.out.size))
        have HG7 := Lib.hid (HCG.out.below hb7)
        have hPz : wr.heap.size < (wr.alloc (.cells #[.pointer none] 50)).heap.size := by rw [size_alloc]; omega
        have HP7 := Lib.hid (cells_new wr #[.pointer none] 50)
        have HO7 := Lib.hid (HO.out.below hb7)
        have hCP : C < wr.heap.size := HCG.out.lt
        clear hb7 HB HCG HO
        generalize wr.alloc (.cells #[.pointer none] 50) = w7 at *
        generalize wr.heap.size = P at *
        have c0 : w7.cell? ⟨C, 0, none⟩ = some (.int .i64 n) := HG7.out.cell 0
        have c1 : w7.cell? ⟨C, 1, none⟩ = some (.slice A5 m k5) := HG7.out.cell 1
        have hck := GCheck_any ⟨n, L⟩ A5 k5 w7 (by dsimp only; rw [HME.out.len]; exact HO7.out.rd encA_len rfl) (by dsimp only; rw [HME.out.len]; omega)
        dsimp only at hck
        rw [HME.out.len] at hck
        have HCK := Lib.hid hck
        clear hck
        go_wp2_with fail
        refine HCK.out.mono ?_
        rintro e w8 ⟨hb8, he⟩
        have HB8 := Lib.hid (HB7.out.trans (hb8.mono HB7.out.size))
        have HG8 := Lib.hid (HG7.out.below hb8)
        have HP8 := Lib.hid (HP7.out.below hb8)
        have HO8 := Lib.hid (HO7.out.below hb8)
        have hz7 := HB7.out.size
        clear hb8 c0 c1 HB7 HG7 HO7 HCK
        rcases chkT_cases n L with ⟨hc, hl⟩ | ⟨hc, hl⟩ | ⟨c, j, hj, hc, hl, ha⟩
        · rw [hc] at he
          dsimp only at he
          subst he
          have h0 := HME.out.none_ hc
          have q0 : decide ((0 : Int) ≤ last) = true := decide_eq_true h0
          clear hc hl
          go_wp2_with fail
          rw [HQ0.out]
          go_ret
          exact ⟨rfl, HB8.out⟩
        · rw [hc] at he
          dsimp only at he
          subst he
          have h0 := HME.out.lim_ hl
          have q0 : decide (last < (0 : Int)) = true := decide_eq_true h0
          have HMI := Lib.hid (As_missF 9 ⟨P, 0, none⟩ (HW.out.below HB8.out).errT)
          clear hc hl
          go_wp2_with fail
          refine HMI.out.mono ?_
          rintro e w9 ⟨rfl, hb9⟩
          have HB9 := Lib.hid (HB8.out.trans (hb9.mono HB8.out.size))
          clear hb9 HMI
          go_wp2_with fail
          refine (Is_num 9 9 (by decide) (by decide) w9).mono ?_
          rintro e w10 ⟨rfl, rfl⟩
          simp only [decide_true]
          go_wp2_with fail
          rw [HQ0.out]
          go_ret
          exact ⟨rfl, HB9.out⟩
        · rw [hc] at he
          dsimp only at he
          obtain ⟨g, rfl, hcf, hgb⟩ := he
          have HF8 := Lib.hid hcf
          have HHI := Lib.hid (As_hitK ⟨g, 0, none⟩ ⟨P, 0, none⟩ (.pointer none) (HW.out.below HB8.out).errT (HP8.out.cell 0) (HP8.out.frozen 0))
          have hlj := HME.out.at_ hj ha
          have hjm : j < m := by have := HME.out.len; omega
          have HST := Lib.hid (fun h => HME.out.step hj hc ha hl h)
          have HAC := Lib.hid ha
          have hn0 : 0 ≤ n := hl.1
          clear hcf hc hl ha
          go_wp2_with fail
          refine HHI.out.mono ?_
          rintro e w9 ⟨rfl, hk9, hp9⟩
          have hzg : P < g := by have := hgb; have := hPz; omega
          have HG9 := Lib.hid (hk9.cells HG8.out (by show ¬ C = P; omega))
          have HF9 := Lib.hid (hk9.cells HF8.out (by show ¬ g = P; omega))
          have HO9 := Lib.hid (keptS_own HO8.out hk9 (fun k h => by have := hown k h; show ¬ k = P; omega))
          have HB9 := Lib.hid (hk9.below HB8.out (fun k h => by have h : k = P := h; omega) HB8.out.size)
          clear hk9 HHI
          have c0 : w9.cell? ⟨C, 0, none⟩ = some (.int .i64 n) := HG9.out.cell 0
          have c1 : w9.cell? ⟨C, 1, none⟩ = some (.slice A5 m k5) := HG9.out.cell 1
          have y0 : w9.cell? ⟨g, 0, none⟩ = some (.int .i64 4) := HF9.out.cell 0
          have y1 : w9.cell? ⟨g, 1, none⟩ = some (.int .i64 (j : Int)) := HF9.out.cell 1
          have q0 : decide ((j : Int) ≤ last) = false := decide_eq_false (by omega)
          have q1 : decide ((m : Int) ≤ (j : Int)) = false := decide_eq_false (by omega)
          have q1' : decide (m ≤ j) = false := decide_eq_false (by omega)
          have q2 : decide (n < (0 : Int)) = false := decide_eq_false (by omega)
          go_upto_region 24 with (go_quiet (fail))
          have hdr : Drawn w9 (w9.drewN nq) := ⟨nq, rfl⟩
          generalize w9.drewN nq = wA at hdr ⊢
          have hba := hdr.below w9.heap.size
          have HGA := Lib.hid (HG9.out.below hba)
          have HFA := Lib.hid (HF9.out.below hba)
          have HOA := Lib.hid (HO9.out.below hba)
          have HBA := Lib.hid (HB9.out.trans (hba.mono HB9.out.size))
          clear c0 c1 y0 y1 q0 q1 q1' q2 hp9 hba hdr HG9 HF9 HO9 HB9
          have c0 : wA.cell? ⟨C, 0, none⟩ = some (.int .i64 n) := HGA.out.cell 0
          have c1 : wA.cell? ⟨C, 1, none⟩ = some (.slice A5 m k5) := HGA.out.cell 1
          by_cases hn : n = 0
          · have e0 : (n == 0) = true := beq_iff_eq.2 hn
            have hc7 : c = 7 := by
              have h := HAC.out
              rw [hn] at h
              exact arcBug_no h
            have HIS := Lib.hid (Is_chain (W := wA) 7 (by decide) _ _ [(4, (j : Int))] c (.wrap g 0 4 (j : Int) _ [] c (HFA.out.cell 0) (HFA.out.cell 1) (HFA.out.cell 2) (.num c (by omega))))
            rw [show decide (c = 7) = true from decide_eq_true hc7] at HIS
            clear hn hc7
            go_wp2_with fail
            refine HIS.out.mono ?_
            rintro e wB ⟨rfl, rfl⟩
            go_wp2_with fail
            rw [HQ0.out]
            go_ret
            exact ⟨rfl, HBA.out⟩
          · have e0 : (n == 0) = false := beq_eq_false_iff_ne.2 hn
            have HMN := Lib.hid (HST.out hn)
            obtain ⟨gA, hA5⟩ : ∃ gA, A5 = some ⟨gA, 0, none⟩ := by
              rcases own_cases HOA.out with ⟨h1, h2⟩ | ⟨gA, cap, h1⟩
              · rw [h2] at hj
                exact absurd hj (by simp)
              · injection h1 with h1
                exact ⟨gA, h1⟩
            subst hA5
            have hgA := hown gA rfl
            have HX := Lib.hid (own_set3 HOA.out j hj zA)
            obtain ⟨z, hz⟩ : ∃ z, L[j]? = some z := ⟨_, List.getElem?_eq_getElem hj⟩
            obtain ⟨⟨z0, z1, z2⟩, f0, f1, f2⟩ := own_at HOA.out hz
            have HGB := Lib.hid (((HGA.out.far (k := gA) (j * 3) (.int .i64 0) (by omega)).far (k := gA) (j * 3 + 1) (.int .i64 0) (by omega)).far (k := gA) (j * 3 + 2) (.int .i64 0) (by omega))
            have HBB := Lib.hid (((HBA.out.setCell (p := ⟨gA, j * 3, none⟩) hgA.1 (.int .i64 0)).setCell (p := ⟨gA, j * 3 + 1, none⟩) hgA.1 (.int .i64 0)).setCell (p := ⟨gA, j * 3 + 2, none⟩) hgA.1 (.int .i64 0))
            have hw1 : IntKind.i64.wrap ((i : Int) + 1) = (i : Int) + 1 := by rw [IntKind.wrap_i64]; omega
            clear hn hz
            go_wp2_with fail
            go_roundw
            case rel => exact ⟨i + 1, (j : Int), L.set j zA, rfl, by go_num, by omega, HMN.out, HGB.out, HX.out, HBB.out⟩
            case measure => simp [intOf]; omega
      · have := hlo
        omega
end Go.Proofs.YtmnnoecjedkdjaaGreatDoor

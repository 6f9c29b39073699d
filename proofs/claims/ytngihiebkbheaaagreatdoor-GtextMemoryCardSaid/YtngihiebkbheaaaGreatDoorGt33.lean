/- GtextParses. -/
import Derived.Test.YtngihiebkbheaaaGreatDoorGt21
import Derived.Test.YtngihiebkbheaaaGreatDoorGt27
set_option linter.unusedSimpArgs false
set_option linter.unusedVariables false
namespace Go.Proofs.YtngihiebkbheaaaGreatDoor
open Go.RowKit Txt

theorem formR_code {r : RowT} {w : Bs} {c : Nat} {x : Int} (h : formR r w c = some x) : x ≠ 0 := by
  unfold formR at h
  (repeat' split at h) <;> simp_all <;> omega
theorem arcsGo_code {n : Nat} : ∀ (m : Nat) (ln : Int) (rs : List RowT) (e : Int × Int), arcsGo n m ln rs = .error e → e.1 ≠ 0
  | 0, ln, rs, e, h => by cases h
  | m + 1, ln, [], e, h => by
    injection h with h
    subst h
    exact (by decide : (5 : Int) ≠ 0)
  | m + 1, ln, r :: rs, e, h => by
    rw [arcsGo] at h
    split at h
    · rename_i c hc
      injection h with h
      subst h
      exact arcR_code hc
    · split at h
      · rename_i e' he
        injection h with h
        subst h
        exact arcsGo_code m _ rs _ he
      · cases h
theorem graphT_code {rs : List RowT} {e : Int × Int} (h : graphT rs = .error e) : e.1 ≠ 0 := by
  cases rs with
  | nil => injection h with h; subst h; decide
  | cons r rs =>
    unfold graphT at h
    dsimp only at h
    split at h
    · rename_i c hc
      injection h with h
      subst h
      exact formR_code hc
    split at h
    · rename_i c hc
      injection h with h
      subst h
      exact numE_code hc (by decide)
    split at h
    · rename_i c hc
      injection h with h
      subst h
      exact numE_code hc (by decide)
    split at h
    · rename_i e' he
      injection h with h
      subst h
      exact arcsGo_code _ _ _ _ he
    · rename_i al ln rs' ha
      unfold endR at h
      split at h
      · injection h with h; subst h; exact (by decide : (5 : Int) ≠ 0)
      · split at h
        · rename_i c hc
          injection h with h
          subst h
          exact formR_code hc
        · split at h
          · cases h
          · injection h with h; subst h; exact (by decide : (6 : Int) ≠ 0)
theorem parseT_good {t : Bs} {b : Er} (h : parseT t = .error b) : GoodB (some b) := by
  intro p hp
  injection hp with hp
  subst hp
  unfold parseT at h
  split at h
  · rename_i e he
    injection h with h
    subst h
    exact rowsT_code he
  · unfold lineEr at h
    split at h
    · rename_i e he
      injection h with h
      subst h
      exact graphT_code he
    · cases h
set_option maxRecDepth 100000 in
set_option maxHeartbeats 8000000 in
theorem GtextParses_walk (a0 : ByteArray) (W : World) (w0 : a0.size ≤ 140737488351232) (hw : Env W) : Calls Tryz.prog 4 #[.string a0] W (BoolBelow true W) := by
  have HW := Lib.hid hw
  clear hw
  go_enter Tryz.func4, Tryz.ntmps4
  go_wp2_with fail
  refine (awake_any W HW.out).mono ?_
  rintro e w1 ⟨rfl, hb1⟩
  have HB1 := Lib.hid hb1
  clear hb1
  go_wp2_with fail
  refine (Parse_any a0 w1 (by omega) (HW.out.below HB1.out).maxL (HW.out.below HB1.out).rng).mono ?_
  rintro e w2 ⟨hb2, he⟩
  cases hp : parseT a0.data.toList with
  | error b =>
    rw [hp] at he
    obtain ⟨v, rfl, hpx⟩ := he
    have HPX2 := Lib.hid hpx
    have hgood := parseT_good hp
    clear hpx
    have HB2 := Lib.hid (HB1.out.trans (hb2.mono HB1.out.size))
    have hs2 := hb2.size
    clear hb2
    have hb3 := (Below.refl w2.heap.size w2).alloc (Nat.le_refl _) (.cells #[.int .i64 0, .slice none 0 0] 24)
    have hx3 := cells_new w2 #[.int .i64 0, .slice none 0 0] 24
    have HB3 := Lib.hid (HB2.out.trans (hb3.mono HB2.out.size))
    have HPX3 := Lib.hid (HPX2.out.below hb3)
    have hs3 := hb3.size
    clear hb3
    have HP3 := Lib.hid hx3
    clear hx3
    go_upto_region 4 with fail
    generalize w2.alloc (.cells #[.int .i64 0, .slice none 0 0] 24) = w3 at *
    go_wp2_with fail
    refine (DocParse_any a0 w3 (by omega)).mono ?_
    rintro e w4 ⟨hb4, he⟩
    rw [hp] at he
    obtain ⟨x, rfl, hdx⟩ := he
    have HDX4 := Lib.hid hdx
    clear hdx hp
    unfold errV
    have HB4 := Lib.hid (HB3.out.trans (hb4.mono HB3.out.size))
    have HP4 := Lib.hid (HP3.out.below hb4)
    have HPX4 := Lib.hid (HPX3.out.below hb4)
    have hs4 := hb4.size
    clear hb4
    have hb5 := two_alG w4 (.cells #[.int .i64 0, .slice none 0 0] 24) (.cells #[.int .i64 x.c, .slice x.A x.n x.k] 32)
    have hx5 := (cells_new w4 #[.int .i64 0, .slice none 0 0] 24).below ((Below.refl _ _).alloc (Nat.le_refl _) (.cells #[.int .i64 x.c, .slice x.A x.n x.k] 32))
    have hy5 := cells_new (w4.alloc (.cells #[.int .i64 0, .slice none 0 0] 24)) #[.int .i64 x.c, .slice x.A x.n x.k] 32
    have hz5 : ((w4.alloc (.cells #[.int .i64 0, .slice none 0 0] 24)).alloc (.cells #[.int .i64 x.c, .slice x.A x.n x.k] 32)).heap.size = w4.heap.size + 1 + 1 := by simp
    rw [size_alloc] at hy5
    have HB5 := Lib.hid (HB4.out.trans (hb5.mono HB4.out.size))
    have HP5 := Lib.hid (HP4.out.below hb5)
    have HPX5 := Lib.hid (HPX4.out.below hb5)
    have HDX5 := Lib.hid (HDX4.out.below hb5)
    have hs5 := hb5.size
    clear hb5
    have HQ5 := Lib.hid hx5
    have HF5 := Lib.hid hy5
    clear hx5 hy5
    go_upto_region 5 with fail
    generalize (w4.alloc (.cells #[.int .i64 0, .slice none 0 0] 24)).alloc (.cells #[.int .i64 x.c, .slice x.A x.n x.k] 32) = w5 at *
    have Pc0 : w5.cell? ⟨w2.heap.size, 0, none⟩ = some (.int .i64 0) := HP5.out.cell 0
    have Pc1 : w5.cell? ⟨w2.heap.size, 1, none⟩ = some (.slice none 0 0) := HP5.out.cell 1
    have Qc0 : w5.cell? ⟨w4.heap.size, 0, none⟩ = some (.int .i64 0) := HQ5.out.cell 0
    have Qc1 : w5.cell? ⟨w4.heap.size, 1, none⟩ = some (.slice none 0 0) := HQ5.out.cell 1
    have HS := Lib.hid (Same03_eq none none 0 0 0 0 [] w5 Rd.nil Rd.nil (by decide))
    go_wp2_with fail
    refine HS.out.mono ?_
    rintro e w6 ⟨rfl, hb6⟩
    clear HS
    have HB6 := Lib.hid (HB5.out.trans (hb6.mono HB5.out.size))
    have HP6 := Lib.hid (HP5.out.below hb6)
    have HQ6 := Lib.hid (HQ5.out.below hb6)
    have HF6 := Lib.hid (HF5.out.below hb6)
    have HPX6 := Lib.hid (HPX5.out.below hb6)
    have HDX6 := Lib.hid (HDX5.out.below hb6)
    have hs6 := hb6.size
    clear hb6 Pc0 Pc1 Qc0 Qc1
    have Fc0 : w6.cell? ⟨w4.heap.size + 1, 0, none⟩ = some (.int .i64 x.c) := HF6.out.cell 0
    have Fc1 : w6.cell? ⟨w4.heap.size + 1, 1, none⟩ = some (.slice x.A x.n x.k) := HF6.out.cell 1
    have HS := Lib.hid (same_bug HPX6.out HDX6.out hgood (HW.out.below HB6.out).errT)
    go_wp2_with fail
    refine HS.out.mono ?_
    rintro e w7 ⟨rfl, hb7⟩
    have HB7 := Lib.hid (HB6.out.trans (hb7.mono HB6.out.size))
    have HP7 := Lib.hid (HP6.out.below hb7)
    have HQ7 := Lib.hid (HQ6.out.below hb7)
    have HF7 := Lib.hid (HF6.out.below hb7)
    have HPX7 := Lib.hid (HPX6.out.below hb7)
    have HDX7 := Lib.hid (HDX6.out.below hb7)
    have hs7 := hb7.size
    clear hb7 Fc0 Fc1
    go_wp2_with fail
    go_ret
    exact ⟨rfl, HB7.out⟩
  | ok g =>
    rw [hp] at he
    obtain ⟨A2, k2, rfl, ho⟩ := he
    have HOA2 := Lib.hid ho
    clear ho
    have HB2 := Lib.hid (HB1.out.trans (hb2.mono HB1.out.size))
    have hs2 := hb2.size
    clear hb2
    have hb3 := (Below.refl w2.heap.size w2).alloc (Nat.le_refl _) (.cells #[.int .i64 g.n, .slice A2 g.arcs.length k2] 24)
    have hx3 := cells_new w2 #[.int .i64 g.n, .slice A2 g.arcs.length k2] 24
    have HB3 := Lib.hid (HB2.out.trans (hb3.mono HB2.out.size))
    have HOA3 := Lib.hid (HOA2.out.below hb3)
    have hs3 := hb3.size
    clear hb3
    have HP3 := Lib.hid hx3
    clear hx3
    go_upto_region 4 with fail
    generalize w2.alloc (.cells #[.int .i64 g.n, .slice A2 g.arcs.length k2] 24) = w3 at *
    go_wp2_with fail
    refine (DocParse_any a0 w3 (by omega)).mono ?_
    rintro e w4 ⟨hb4, he⟩
    rw [hp] at he
    obtain ⟨A4, k4, rfl, ho⟩ := he
    have HOB4 := Lib.hid ho
    have hgl := (chkT_none.1 (parse_ok hp)).2.2.1
    clear ho hp
    unfold errV zX
    have HB4 := Lib.hid (HB3.out.trans (hb4.mono HB3.out.size))
    have HP4 := Lib.hid (HP3.out.below hb4)
    have HOA4 := Lib.hid (HOA3.out.below hb4)
    have hs4 := hb4.size
    clear hb4
    have hb5 := two_alG w4 (.cells #[.int .i64 g.n, .slice A4 g.arcs.length k4] 24) (.cells #[.int .i64 0, .slice none 0 0] 32)
    have hx5 := (cells_new w4 #[.int .i64 g.n, .slice A4 g.arcs.length k4] 24).below ((Below.refl _ _).alloc (Nat.le_refl _) (.cells #[.int .i64 0, .slice none 0 0] 32))
    have hy5 := cells_new (w4.alloc (.cells #[.int .i64 g.n, .slice A4 g.arcs.length k4] 24)) #[.int .i64 0, .slice none 0 0] 32
    have hz5 : ((w4.alloc (.cells #[.int .i64 g.n, .slice A4 g.arcs.length k4] 24)).alloc (.cells #[.int .i64 0, .slice none 0 0] 32)).heap.size = w4.heap.size + 1 + 1 := by simp
    rw [size_alloc] at hy5
    have HB5 := Lib.hid (HB4.out.trans (hb5.mono HB4.out.size))
    have HP5 := Lib.hid (HP4.out.below hb5)
    have HOA5 := Lib.hid (HOA4.out.below hb5)
    have HOB5 := Lib.hid (HOB4.out.below hb5)
    have hs5 := hb5.size
    clear hb5
    have HQ5 := Lib.hid hx5
    have HF5 := Lib.hid hy5
    clear hx5 hy5
    go_upto_region 5 with fail
    generalize (w4.alloc (.cells #[.int .i64 g.n, .slice A4 g.arcs.length k4] 24)).alloc (.cells #[.int .i64 0, .slice none 0 0] 32) = w5 at *
    have Pc0 : w5.cell? ⟨w2.heap.size, 0, none⟩ = some (.int .i64 g.n) := HP5.out.cell 0
    have Pc1 : w5.cell? ⟨w2.heap.size, 1, none⟩ = some (.slice A2 g.arcs.length k2) := HP5.out.cell 1
    have Qc0 : w5.cell? ⟨w4.heap.size, 0, none⟩ = some (.int .i64 g.n) := HQ5.out.cell 0
    have Qc1 : w5.cell? ⟨w4.heap.size, 1, none⟩ = some (.slice A4 g.arcs.length k4) := HQ5.out.cell 1
    have HS := Lib.hid (Same03_eq A2 A4 g.arcs.length k2 k4 g.n g.arcs w5 (HOA5.out.rd encA_len rfl) (HOB5.out.rd encA_len rfl) (by omega))
    go_wp2_with fail
    refine HS.out.mono ?_
    rintro e w6 ⟨rfl, hb6⟩
    clear HS
    have HB6 := Lib.hid (HB5.out.trans (hb6.mono HB5.out.size))
    have HP6 := Lib.hid (HP5.out.below hb6)
    have HQ6 := Lib.hid (HQ5.out.below hb6)
    have HF6 := Lib.hid (HF5.out.below hb6)
    have HOA6 := Lib.hid (HOA5.out.below hb6)
    have HOB6 := Lib.hid (HOB5.out.below hb6)
    have hs6 := hb6.size
    clear hb6 Pc0 Pc1 Qc0 Qc1
    have Fc0 : w6.cell? ⟨w4.heap.size + 1, 0, none⟩ = some (.int .i64 0) := HF6.out.cell 0
    have Fc1 : w6.cell? ⟨w4.heap.size + 1, 1, none⟩ = some (.slice none 0 0) := HF6.out.cell 1
    have HS := Lib.hid (same_bug (bug := none) (w := w6) (v := .nilIface) (x := zX) (base := 0) (base' := 0) rfl rfl (fun p hp => by cases hp) (HW.out.below HB6.out).errT)
    unfold zX at HS
    go_wp2_with fail
    refine HS.out.mono ?_
    rintro e w7 ⟨rfl, hb7⟩
    have HB7 := Lib.hid (HB6.out.trans (hb7.mono HB6.out.size))
    have HP7 := Lib.hid (HP6.out.below hb7)
    have HQ7 := Lib.hid (HQ6.out.below hb7)
    have HF7 := Lib.hid (HF6.out.below hb7)
    have HOA7 := Lib.hid (HOA6.out.below hb7)
    have HOB7 := Lib.hid (HOB6.out.below hb7)
    have hs7 := hb7.size
    clear hb7 Fc0 Fc1
    go_wp2_with fail
    go_ret
    exact ⟨rfl, HB7.out⟩
end Go.Proofs.YtngihiebkbheaaaGreatDoor

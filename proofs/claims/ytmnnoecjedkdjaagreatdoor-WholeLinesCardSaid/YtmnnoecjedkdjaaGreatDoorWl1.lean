/- WholeLines: with lines that say nothing ahead of it a text is the same graph; its error is the same, its line counted on by as many. -/
import Derived.Test.YtmnnoecjedkdjaaGreatDoorGt15
import Derived.Test.YtmnnoecjedkdjaaGreatDoorFt1
import Derived.Test.YtmnnoecjedkdjaaGreatDoorWp1
set_option linter.unusedSimpArgs false
set_option linter.unusedVariables false
namespace Go.Proofs.YtmnnoecjedkdjaaGreatDoor
open Go.RowKit Txt

abbrev TabP (w : World) : Prop := Ft.Tab w
/-- the library's variables are as they were laid -/
structure Env (w : World) : Prop where
  rng : RangeV w
  maxL : MaxL w
  tab : TabP w
theorem Env.below {w w' : World} (h : Env w) (hb : Below w.heap.size w w') : Env w' :=
  ⟨h.rng.kept (S := fun _ => False) (Kept.of_below hb) (fun h => h), h.maxL.below hb, Ft.tab_below h.tab hb⟩
theorem itoaB_2' : Ft.itoaB 2 = ⟨#[50]⟩ := by
  unfold Ft.itoaB Lib.itoa
  rw [if_neg (by omega), show (2 : Int).toNat = 2 from rfl, Lib.decDigits_one (by omega)]
  rfl
def line2 : ByteArray := ⟨#[108, 105, 110, 101, 32, 50, 58, 32, 110, 111, 32, 115, 117, 99, 104, 32, 110, 111, 100, 101]⟩
theorem line2_eq : Ft.textB (Ft.linkPs [(1, 2)]) (Ft.linkC [(1, 2)] (.num 7)) = line2 := by
  unfold Ft.textB Ft.wordsB
  show Ft.joinB ([Ft.wordB (1, 2)] ++ [Ft.sayB 7]) = _
  unfold Ft.wordB
  simp only [itoaB_2']
  rfl
theorem wideS {S : ByteArray} {j : Nat} (h : S.data.toList = wideL j) : (S ++ ⟨#[35, 32, 10]⟩ : ByteArray).data.toList = wideL (j + 1) := by
  rw [← wideL_succ, ← h]
  simp [ByteArray.data_append, emptyU]
theorem size_of {S : ByteArray} {j : Nat} (h : S.data.toList = wideL j) : S.size = 3 * j := by
  rw [← size_list, h, wideL_len]
theorem joinS {S a : ByteArray} {j : Nat} (h : S.data.toList = wideL j) : (S ++ a : ByteArray).data.toList = wideL j ++ a.data.toList := by
  rw [← h]
  simp [ByteArray.data_append]
theorem own_someP {w : World} {base : Nat} {v : Value} {l : List (Int × Int)} (h : Ft.OwnP w base v l) (h0 : 0 < l.length) : ∃ g c, v = .slice (some ⟨g, 0, none⟩) l.length c ∧ base ≤ g := by
  rcases h.2 with ⟨_, hz⟩ | ⟨g, cap, cur, hv, hb, _, hn, hm, _⟩
  · omega
  · exact ⟨g, cap, hv, hb⟩
theorem same_none (x : Int) : Ft.sameB [] .none (Ft.shiftPs 1 x (Ft.linkPs [])) (Ft.coreOf (Ft.linkC [] .none)) = true := by
  simp [Ft.sameB, Ft.linkC, Ft.linkPs, Ft.shiftPs, Ft.coreOf, Ft.Core.code]
theorem wrapI_id' {n : Int} (h : -9223372036854775808 ≤ n ∧ n ≤ 9223372036854775807) : Ft.wrapI n = n := by
  unfold Ft.wrapI wrap64
  omega
theorem same_one (c l : Int) (k : Nat) (h0 : 0 ≤ l) (h1 : l ≤ 100001) (hk : k ≤ 255) : Ft.sameB [(1, if l = 0 then 0 else l + k)] (.num c) (Ft.shiftPs 1 (if l = 0 then 0 else (k : Int)) (Ft.linkPs [(1, l)])) (Ft.coreOf (Ft.linkC [(1, l)] (.num c))) = true := by
  have e : Ft.wrapI (l + if l = 0 then 0 else (k : Int)) = if l = 0 then 0 else l + k := by
    rw [wrapI_id' (by split <;> omega)]
    split <;> omega
  have e2 : Ft.shiftPs 1 (if l = 0 then 0 else (k : Int)) (Ft.linkPs [(1, l)]) = [(1, if l = 0 then 0 else l + k)] := by
    show [Ft.shiftP 1 _ (1, l)] = _
    unfold Ft.shiftP
    rw [if_pos rfl, e]
  rw [e2]
  show decide (_ ∧ _) = true
  refine decide_eq_true ⟨?_, rfl⟩
  show c = Ft.Core.code (Ft.coreOf c)
  unfold Ft.coreOf
  by_cases h : c = 0
  · rw [if_pos h, h]; rfl
  · rw [if_neg h]; rfl
set_option maxRecDepth 100000 in
set_option maxHeartbeats 16000000 in
theorem WholeLines_walk (a0 : ByteArray) (a1 : Int) (W : World) (w0 : a0.size ≤ 140737488351232) (w1 : (Lit.int .u8 a1).wf = true) (hw : Env W) :
    Calls Tryz.prog 3 #[.string a0, .int .u8 a1] W (BoolBelow true W) := by
  have h1 : 0 ≤ a1 ∧ a1 ≤ 255 := by simpa [Lit.wf, IntKind.min, IntKind.max, IntKind.signed, IntKind.bits] using w1
  obtain ⟨k, rfl⟩ := Int.eq_ofNat_of_zero_le h1.1
  have hk : k ≤ 255 := by have := h1.2; omega
  clear h1 w1
  have HW := Lib.hid hw
  clear hw
  go_enter Tryz.func3, Tryz.ntmps3
  refine wp_named ?_
  intro Q0 hQ0
  have HQ0 := Lib.hid hQ0
  clear hQ0
  go_wp2_with fail
  refine (FaultAt_any 1 2 7 W).mono ?_
  rintro e w1 ⟨rfl, hc1, hb1⟩
  have HE1 : Hid (Ft.Wrap w1 (.num 7) (.iface 50 (.pointer (some ⟨W.heap.size, 0, none⟩))) [(1, 2)]) := Lib.hid (.link _ _ _ _ _ _ (hc1.cell 0) (hc1.cell 1) (hc1.cell 2) .core)
  have HB1 := Lib.hid hb1
  clear hc1 hb1
  go_wp2_with fail
  refine (Ft.Text_any (.num 7) _ [(1, 2)] w1 HE1.out (by intro p hp; simp at hp; subst hp; exact ⟨by decide, by decide⟩) ⟨by decide, by decide⟩ (HW.out.below HB1.out).tab).mono ?_
  rintro e w2 ⟨rfl, hb2⟩
  rw [line2_eq]
  have HB2 := Lib.hid (HB1.out.trans (hb2.mono HB1.out.size))
  clear hb2 HE1
  simp only [line2]
  by_cases hbig : 100000 < a0.size
  · have g0 : decide ((100000 : Int) < (a0.size : Int)) = true := decide_eq_true (by omega)
    have g1 : decide (100000 < a0.size) = true := decide_eq_true hbig
    go_wp2_with fail
    rw [HQ0.out]
    go_ret
    exact ⟨rfl, HB2.out⟩
  have g0 : decide ((100000 : Int) < (a0.size : Int)) = false := decide_eq_false (by omega)
  have g1 : decide (100000 < a0.size) = false := decide_eq_false hbig
  go_upto_region 6 with fail
  go_wp2_with fail
  go_loopw [5, 21] (fun sv iv wr => ∃ (j : Nat) (S : ByteArray), j ≤ k ∧ iv = .int .u8 j ∧ sv = .string S ∧ S.data.toList = wideL j ∧ w2 = wr) (fun _ iv _ => k - (intOf iv).toNat)
  case atStart => exact ⟨0, _, by omega, rfl, rfl, rfl, rfl⟩
  case round =>
    obtain ⟨j, S, hj, rfl, rfl, hS, rfl⟩ := hrel
    have HS := Lib.hid hS
    have hsz := size_of hS
    have hcat : (9223372036854775807 < S.size + 3) = False := eq_false (by omega)
    clear hS hsz
    by_cases hlt : j < k
    · have q0 : decide ((j : Int) < (k : Int)) = true := decide_eq_true (by omega)
      have q1 : decide (j < k) = true := decide_eq_true hlt
      have wu : IntKind.u8.wrap ((j : Int) + 1) = (j : Int) + 1 := by simp [IntKind.wrap, IntKind.signed, IntKind.bits]; omega
      go_wp2_with fail
      go_roundw
      case rel => exact ⟨j + 1, _, by omega, by go_num, rfl, wideS HS.out, by first | rfl | trivial⟩
      case measure => simp [intOf]; omega
    · obtain rfl : j = k := by omega
      have q0 : decide ((j : Int) < (j : Int)) = false := decide_eq_false (by omega)
      have q1 : decide (j < j) = false := decide_eq_false (by omega)
      clear hcat
      have hsz2 := size_of HS.out
      have hcat : (9223372036854775807 < S.size + a0.size) = False := eq_false (by omega)
      have hSa : (S ++ a0 : ByteArray).size ≤ 140737488355328 := by rw [ByteArray.size_append]; omega
      have hpl := parse_lines a0.data.toList j (by rw [size_list]; omega) hk
      rw [← joinS HS.out] at hpl
      have HPA := Lib.hid (fun w (hb : Below W.heap.size W w) => Parse_any a0 w (by omega) (HW.out.below hb).maxL (HW.out.below hb).rng)
      have HPW := Lib.hid (fun w (hb : Below W.heap.size W w) => Parse_any (S ++ a0) w hSa (HW.out.below hb).maxL (HW.out.below hb).rng)
      clear hsz2 hSa HS
      rcases hpl with ⟨g, e1, e2⟩ | ⟨c, l, e1, hl0, hl1, e2⟩
      · rw [e1] at HPA
        rw [e2] at HPW
        clear e1 e2
        obtain ⟨m, hm⟩ : ∃ m, g.arcs.length = m := ⟨_, rfl⟩
        have HM := Lib.hid hm
        clear hm
        go_upto_region 10 with fail
        go_wp2_with fail
        refine (HPA.out w2 HB2.out).mono ?_
        intro e w3 he
        clear HPA
        obtain ⟨hb3, A, ca, rfl, ho⟩ := he
        rw [HM.out] at ho ⊢
        have HE3 := Lib.hid ho
        clear ho
        have HB3 := Lib.hid (HB2.out.trans (hb3.mono HB2.out.size))
        have hs3 := hb3.size
        clear hb3
        have hb4 := (Below.refl w3.heap.size w3).alloc (Nat.le_refl _) (.cells #[.int .i64 g.n, .slice A m ca] 30)
        have hx4 := cells_new w3 #[.int .i64 g.n, .slice A m ca] 30
        have HB4 := Lib.hid (HB3.out.trans (hb4.mono HB3.out.size))
        have HE4 := Lib.hid (HE3.out.below hb4)
        have hs4 := hb4.size
        clear hb4
        have HP4 := Lib.hid hx4
        clear hx4
        go_upto_region 11 with fail
        generalize w3.alloc (.cells #[.int .i64 g.n, .slice A m ca] 30) = w4 at *
        go_wp2_with fail
        refine (HPW.out w4 HB4.out).mono ?_
        intro e w5 he
        clear HPW
        obtain ⟨hb5, B, cb, rfl, ho⟩ := he
        rw [HM.out] at ho ⊢
        have HF5 := Lib.hid ho
        clear ho
        have HB5 := Lib.hid (HB4.out.trans (hb5.mono HB4.out.size))
        have HP5 := Lib.hid (HP4.out.below hb5)
        have HE5 := Lib.hid (HE4.out.below hb5)
        have hs5 := hb5.size
        clear hb5
        have hb6 := (Below.refl w5.heap.size w5).alloc (Nat.le_refl _) (.cells #[.int .i64 g.n, .slice B m cb] 30)
        have hx6 := cells_new w5 #[.int .i64 g.n, .slice B m cb] 30
        have HB6 := Lib.hid (HB5.out.trans (hb6.mono HB5.out.size))
        have HP6 := Lib.hid (HP5.out.below hb6)
        have HE6 := Lib.hid (HE5.out.below hb6)
        have HF6 := Lib.hid (HF5.out.below hb6)
        have hs6 := hb6.size
        clear hb6
        have HQ6 := Lib.hid hx6
        clear hx6
        go_upto_region 12 with fail
        generalize w5.alloc (.cells #[.int .i64 g.n, .slice B m cb] 30) = w6 at *
        have Pc0 : w6.cell? ⟨w3.heap.size, 0, none⟩ = some (.int .i64 g.n) := HP6.out.cell 0
        have Pc1 : w6.cell? ⟨w3.heap.size, 1, none⟩ = some (.slice A m ca) := HP6.out.cell 1
        have Qc0 : w6.cell? ⟨w5.heap.size, 0, none⟩ = some (.int .i64 g.n) := HQ6.out.cell 0
        have Qc1 : w6.cell? ⟨w5.heap.size, 1, none⟩ = some (.slice B m cb) := HQ6.out.cell 1
        have hS1 : ∀ w, Below w6.heap.size w6 w → Calls Tryz.prog 8 #[.agg #[.int .i64 g.n, .slice A m ca], .agg #[.int .i64 g.n, .slice B m cb]] w (BoolBelow true w) := fun w hb => Same03_eq A B m ca cb g.n g.arcs w (Own.rd encA_len (HE6.out.below hb) rfl) (Own.rd encA_len (HF6.out.below hb) rfl) (by obtain ⟨_, _, _, h1, h2⟩ := HE6.out.form; simp only [maxLen] at h2; rw [← HM.out]; omega)
        have HV := Lib.hid (fun w (hb : Below w6.heap.size w6 w) => (Ft.Wrap.core : Ft.Wrap w Ft.Core.none .nilIface []))
        have HU := HV
        have HS1 := Lib.hid hS1
        clear hS1
        have HX : Hid (Below w6.heap.size w6 w6) := Lib.hid (Below.refl _ _)
        go_region_held3 (fun w' => (w'.cell? ⟨w3.heap.size, 0, none⟩ = some (.int .i64 g.n) ∧ w'.cell? ⟨w3.heap.size, 1, none⟩ = some (.slice A m ca)) ∧ w'.cell? ⟨w5.heap.size, 0, none⟩ = some (.int .i64 g.n) ∧ w'.cell? ⟨w5.heap.size, 1, none⟩ = some (.slice B m cb)) (first | with_reducible exact ⟨⟨Pc0, Pc1⟩, Qc0, Qc1⟩ | go_keep) (first
          | (go_at_call 8; (with_reducible refine (HS1.out _ (by first | exact HX.out | exact HX.out.drew)).mono ?_); rintro e v0 ⟨rfl, hb7⟩; have Pc0 := cell_below hb7 Pc0; have Pc1 := cell_below hb7 Pc1; have Qc0 := cell_below hb7 Qc0; have Qc1 := cell_below hb7 Qc1; have HX : Hid (Below w6.heap.size w6 v0) := Lib.hid (by first | exact HX.out.trans (hb7.mono HX.out.size) | exact HX.out.drew.trans (hb7.mono HX.out.drew.size)); clear hb7))
        all_goals
          rename_i hHeld
          clear hHeld
          go_wp2_with fail
          refine (Ft.Places_any .none (.nilIface) [] (HV.out _ (by first | exact HX.out | exact HX.out.drew))).mono ?_
          rintro e w7 ⟨p, rfl, ho, hb7⟩
          have HX7 : Hid (Below w6.heap.size w6 w7) := Lib.hid (by first | exact HX.out.trans (hb7.mono HX.out.size) | exact HX.out.drew.trans (hb7.mono HX.out.drew.size))
          clear hb7 HX
          obtain ⟨Ap, cp, rfl, hr, -⟩ := Ft.own_places ho
          have hl : (Ft.linkPs []).length = 0 := rfl
          rw [hl]
          clear hl hr ho
          go_wp2_with fail
          go_loopw [10, 54] (fun bv iv wr => bv = .int .i64 j ∧ iv = .int .i64 0 ∧ w7 = wr) (fun _ _ _ => 0)
          case atStart => exact ⟨rfl, rfl, rfl⟩
          case round =>
            obtain ⟨rfl, rfl, rfl⟩ := hrel
            have HXr := HX7
            go_wp2_with fail
            refine (Ft.FShift_any .none (.nilIface) [] 1 j (HV.out w7 HXr.out)).mono ?_
            rintro e w9 ⟨u9, rfl, hw9, hb9⟩
            have HU9 := Lib.hid hw9
            have HX9 := Lib.hid (HXr.out.trans (hb9.mono HXr.out.size))
            clear hw9 hb9
            go_wp2_with fail
            refine (Ft.FSame_any .none _ (.nilIface) _ [] _ (HU.out w9 HX9.out) HU9.out).mono ?_
            rw [same_none]
            rintro e w10 ⟨rfl, hb10⟩
            have HX10 := Lib.hid (HX9.out.trans (hb10.mono HX9.out.size))
            clear hb10
            go_wp2_with fail
            rw [HQ0.out]
            go_ret
            exact ⟨rfl, HB6.out.trans (HX10.out.mono HB6.out.size)⟩
      · rw [e1] at HPA
        rw [e2] at HPW
        clear e1 e2
        have HLL : Hid (0 ≤ l ∧ l ≤ 100001) := Lib.hid ⟨hl0, hl1⟩
        clear hl0 hl1
        go_upto_region 10 with fail
        go_wp2_with fail
        refine (HPA.out w2 HB2.out).mono ?_
        intro e w3 he
        clear HPA
        obtain ⟨hb3, v3, rfl, hx⟩ := he
        obtain ⟨b3, rfl, hc3, -⟩ := hx
        have HX3 := Lib.hid hc3
        clear hc3
        have HB3 := Lib.hid (HB2.out.trans (hb3.mono HB2.out.size))
        have hs3 := hb3.size
        clear hb3
        have hb4 := (Below.refl w3.heap.size w3).alloc (Nat.le_refl _) (.cells #[.int .i64 0, .slice none 0 0] 30)
        have hx4 := cells_new w3 #[.int .i64 0, .slice none 0 0] 30
        have HB4 := Lib.hid (HB3.out.trans (hb4.mono HB3.out.size))
        have HX4 := Lib.hid (HX3.out.below hb4)
        have hs4 := hb4.size
        clear hb4
        have HP4 := Lib.hid hx4
        clear hx4
        go_upto_region 11 with fail
        generalize w3.alloc (.cells #[.int .i64 0, .slice none 0 0] 30) = w4 at *
        go_wp2_with fail
        refine (HPW.out w4 HB4.out).mono ?_
        intro e w5 he
        clear HPW
        obtain ⟨hb5, v5, rfl, hx⟩ := he
        obtain ⟨b5, rfl, hc5, -⟩ := hx
        have HY5 := Lib.hid hc5
        clear hc5
        have HB5 := Lib.hid (HB4.out.trans (hb5.mono HB4.out.size))
        have HP5 := Lib.hid (HP4.out.below hb5)
        have HX5 := Lib.hid (HX4.out.below hb5)
        have hs5 := hb5.size
        clear hb5
        have hb6 := (Below.refl w5.heap.size w5).alloc (Nat.le_refl _) (.cells #[.int .i64 0, .slice none 0 0] 30)
        have hx6 := cells_new w5 #[.int .i64 0, .slice none 0 0] 30
        have HB6 := Lib.hid (HB5.out.trans (hb6.mono HB5.out.size))
        have HP6 := Lib.hid (HP5.out.below hb6)
        have HX6 := Lib.hid (HX5.out.below hb6)
        have HY6 := Lib.hid (HY5.out.below hb6)
        have hs6 := hb6.size
        clear hb6
        have HQ6 := Lib.hid hx6
        clear hx6
        go_upto_region 12 with fail
        generalize w5.alloc (.cells #[.int .i64 0, .slice none 0 0] 30) = w6 at *
        have Pc0 : w6.cell? ⟨w3.heap.size, 0, none⟩ = some (.int .i64 0) := HP6.out.cell 0
        have Pc1 : w6.cell? ⟨w3.heap.size, 1, none⟩ = some (.slice none 0 0) := HP6.out.cell 1
        have Qc0 : w6.cell? ⟨w5.heap.size, 0, none⟩ = some (.int .i64 0) := HQ6.out.cell 0
        have Qc1 : w6.cell? ⟨w5.heap.size, 1, none⟩ = some (.slice none 0 0) := HQ6.out.cell 1
        have hS1 : ∀ w, Below w6.heap.size w6 w → Calls Tryz.prog 8 #[.agg #[.int .i64 0, .slice none 0 0], .agg #[.int .i64 0, .slice none 0 0]] w (BoolBelow true w) := fun w hb => Same03_eq none none 0 0 0 0 [] w (Own.rd encA_len (Own.nil 56 3 encA w 0) rfl) (Own.rd encA_len (Own.nil 56 3 encA w 0) rfl) (by omega)
        have HV := Lib.hid (fun w (hb : Below w6.heap.size w6 w) => (Ft.Wrap.link b3 0 1 l _ [] ((HX6.out.below hb).cell 0) ((HX6.out.below hb).cell 1) ((HX6.out.below hb).cell 2) .core : Ft.Wrap w (.num c) (.iface 50 (.pointer (some ⟨b3, 0, none⟩))) [(1, l)]))
        have HU := Lib.hid (fun w (hb : Below w6.heap.size w6 w) => (Ft.Wrap.link b5 0 1 (if l = 0 then 0 else l + j) _ [] ((HY6.out.below hb).cell 0) ((HY6.out.below hb).cell 1) ((HY6.out.below hb).cell 2) .core : Ft.Wrap w (.num c) (.iface 50 (.pointer (some ⟨b5, 0, none⟩))) [(1, if l = 0 then 0 else l + j)]))
        have HS1 := Lib.hid hS1
        clear hS1
        have HX : Hid (Below w6.heap.size w6 w6) := Lib.hid (Below.refl _ _)
        go_region_held3 (fun w' => (w'.cell? ⟨w3.heap.size, 0, none⟩ = some (.int .i64 0) ∧ w'.cell? ⟨w3.heap.size, 1, none⟩ = some (.slice none 0 0)) ∧ w'.cell? ⟨w5.heap.size, 0, none⟩ = some (.int .i64 0) ∧ w'.cell? ⟨w5.heap.size, 1, none⟩ = some (.slice none 0 0)) (first | with_reducible exact ⟨⟨Pc0, Pc1⟩, Qc0, Qc1⟩ | go_keep) (first
          | (go_at_call 8; (with_reducible refine (HS1.out _ (by first | exact HX.out | exact HX.out.drew)).mono ?_); rintro e v0 ⟨rfl, hb7⟩; have Pc0 := cell_below hb7 Pc0; have Pc1 := cell_below hb7 Pc1; have Qc0 := cell_below hb7 Qc0; have Qc1 := cell_below hb7 Qc1; have HX : Hid (Below w6.heap.size w6 v0) := Lib.hid (by first | exact HX.out.trans (hb7.mono HX.out.size) | exact HX.out.drew.trans (hb7.mono HX.out.drew.size)); clear hb7))
        all_goals
          rename_i hHeld
          clear hHeld
          go_wp2_with fail
          refine (Ft.Places_any (.num c) (.iface 50 (.pointer (some ⟨b3, 0, none⟩))) [(1, l)] (HV.out _ (by first | exact HX.out | exact HX.out.drew))).mono ?_
          rintro e w7 ⟨p, rfl, ho, hb7⟩
          have HX7 : Hid (Below w6.heap.size w6 w7) := Lib.hid (by first | exact HX.out.trans (hb7.mono HX.out.size) | exact HX.out.drew.trans (hb7.mono HX.out.drew.size))
          clear hb7 HX
          obtain ⟨gp, cp, rfl, -⟩ := own_someP ho (by show 0 < 1; omega)
          have hl : (Ft.linkPs [(1, l)]).length = 1 := rfl
          rw [hl] at ho ⊢
          have ep0 := (World.ownsRow.cellAt ho 0 (by show 0 < 2; omega))
          have ep1 := (World.ownsRow.cellAt ho 1 (by show 1 < 2; omega))
          have HP0 : Hid (w7.cell? ⟨gp, 0, none⟩ = some (.int .i64 1)) := Lib.hid ep0
          have HP1 : Hid (w7.cell? ⟨gp, 1, none⟩ = some (.int .i64 l)) := Lib.hid ep1
          clear hl ho ep0 ep1
          go_wp2_with fail
          go_loopw [10, 54] (fun bv iv wr => ∃ i : Nat, i ≤ 1 ∧ bv = .int .i64 (if i = 0 then (j : Int) else if l = 0 then 0 else (j : Int)) ∧ iv = .int .i64 i ∧ Below w7.heap.size w7 wr) (fun _ iv _ => 1 - (intOf iv).toNat)
          case atStart => exact ⟨0, by omega, rfl, rfl, Below.refl _ _⟩
          case round =>
            obtain ⟨i, hi, rfl, rfl, hbr⟩ := hrel
            have HXr := Lib.hid (HX7.out.trans (hbr.mono HX7.out.size))
            by_cases hi0 : i = 0
            · subst hi0
              rw [if_pos rfl]
              have c0 := cell_below hbr HP0.out
              have c1 := cell_below hbr HP1.out
              have HBR := Lib.hid (hbr.trans (((Below.refl _ _).alloc (Nat.le_refl _) (.cells #[.int .i64 1, .int .i64 l] 37)).mono hbr.size))
              have hx8 := cells_new wr #[.int .i64 1, .int .i64 l] 37
              have d0 := hx8.cell 0
              have d1 := hx8.cell 1
              clear hbr hx8
              by_cases hl0 : l = 0
              · subst hl0
                go_wp2_with fail
                go_roundw
                case rel => exact ⟨1, by omega, by simp, by go_num, HBR.out⟩
                case measure => simp [intOf]
              · have z0 : (l == 0) = false := beq_eq_false_iff_ne.2 hl0
                go_wp2_with fail
                go_roundw
                case rel => exact ⟨1, by omega, by simp [hl0], by go_num, HBR.out⟩
                case measure => simp [intOf]
            · obtain rfl : i = 1 := by omega
              rw [if_neg (show ¬ (1 : Nat) = 0 by omega)]
              have hby : Hid ((if l = 0 then 0 else (j : Int)) = if l = 0 then 0 else (j : Int)) := Lib.hid rfl
              clear hbr
              obtain ⟨by', hb'⟩ : ∃ x, (if l = 0 then 0 else (j : Int)) = x := ⟨_, rfl⟩
              have HBY := Lib.hid hb'
              rw [hb']
              clear hb' hby
              have HSM : Hid (Ft.sameB [(1, if l = 0 then 0 else l + j)] (.num c) (Ft.shiftPs 1 by' (Ft.linkPs [(1, l)])) (Ft.coreOf (Ft.linkC [(1, l)] (.num c))) = true) := Lib.hid (by rw [← HBY.out]; exact same_one c l j HLL.out.1 HLL.out.2 hk)
              go_wp2_with fail
              refine (Ft.FShift_any (.num c) (.iface 50 (.pointer (some ⟨b3, 0, none⟩))) [(1, l)] 1 by' (HV.out wr HXr.out)).mono ?_
              rintro e w9 ⟨u9, rfl, hw9, hb9⟩
              have HU9 := Lib.hid hw9
              have HX9 := Lib.hid (HXr.out.trans (hb9.mono HXr.out.size))
              clear hw9 hb9
              go_wp2_with fail
              refine (Ft.FSame_any (.num c) _ (.iface 50 (.pointer (some ⟨b5, 0, none⟩))) _ [(1, if l = 0 then 0 else l + j)] _ (HU.out w9 HX9.out) HU9.out).mono ?_
              rw [HSM.out]
              rintro e w10 ⟨rfl, hb10⟩
              have HX10 := Lib.hid (HX9.out.trans (hb10.mono HX9.out.size))
              clear hb10
              go_wp2_with fail
              rw [HQ0.out]
              go_ret
              exact ⟨rfl, HB6.out.trans (HX10.out.mono HB6.out.size)⟩
end Go.Proofs.YtmnnoecjedkdjaaGreatDoor

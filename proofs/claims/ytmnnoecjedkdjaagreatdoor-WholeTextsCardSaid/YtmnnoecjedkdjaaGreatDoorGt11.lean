/- The reader's next row. -/
import Derived.Test.YtmnnoecjedkdjaaGreatDoorGt10
import Derived.Deep.DeepCutAuto
set_option linter.unusedSimpArgs false
set_option linter.unusedVariables false
namespace Go.Proofs.YtmnnoecjedkdjaaGreatDoor
open Go.RowKit Txt

theorem slice_rows1 (A : Option Addr) (n k : Nat) (h1 : 1 ≤ n) (w : World) :
    (Instr.slice 65 (.slice A n k) (some (.int .i64 1)) none none).run Tryz.prog w = .ok (.slice (if k = 1 then A else A.map (·.add (1 * 2))) (n - 1) (k - 1)) w := by
  rw [run_slice_l (P := Tryz.prog) (w := w) (t := 65) (a := A) (len := n) (cap := k) (ht := by kernel_rfl) (kl := .i64) (l := 1) (h0 := by omega) (h1 := by omega)]
  have hs : (sizeOf (Tryz.prog.elem 65)).run Tryz.prog w = .ok 2 w := by kernel_rfl
  rw [hs]
  rfl
theorem slice_strs1 (A : Option Addr) (n k : Nat) (h1 : 1 ≤ n) (w : World) :
    (Instr.slice 60 (.slice A n k) (some (.int .i64 1)) none none).run Tryz.prog w = .ok (.slice (if k = 1 then A else A.map (·.add (1 * 1))) (n - 1) (k - 1)) w := by
  rw [run_slice_l (P := Tryz.prog) (w := w) (t := 60) (a := A) (len := n) (cap := k) (ht := by kernel_rfl) (kl := .i64) (l := 1) (h0 := by omega) (h1 := by omega)]
  have hs : (sizeOf (Tryz.prog.elem 60)).run Tryz.prog w = .ok 1 w := by kernel_rfl
  rw [hs]
  rfl
theorem str_eqB {x y : ByteArray} : (x.toList == y.toList) = decide (x.data.toList = y.data.toList) := by
  rw [Lib.toList_data, Lib.toList_data]
  by_cases h : x.data.toList = y.data.toList
  · rw [h, decide_eq_true rfl, beq_self_eq_true]
  · rw [decide_eq_false h, beq_eq_false_iff_ne.2 h]
theorem rdRow_kept {w w' : World} {A : Option Addr} {n R : Nat} {L : List RowV} (h : RdRow w A n L) (hk : Kept (fun k => k = R) w w') (h1 : 0 < n → ∀ ad, A = some ad → ad.block ≠ R) (h2 : ∀ x ∈ L, ∀ ad, x.A = some ad → ad.block ≠ R) : RdRow w' A n L := by
  refine ⟨⟨h.rows.1, fun hp => ?_⟩, fun z hz => ⟨rd_kept (h.ws z hz).1 hk (fun ad hA e => h2 z hz ad hA e), (h.ws z hz).2⟩⟩
  obtain ⟨ad', hA', hc'⟩ := h.rows.2 hp
  refine ⟨ad', hA', fun j x i u hj hi => ?_⟩
  have h3 := hc' j x i u hj hi
  have hlt := World.block_lt_of_cell? _ _ h3
  rw [World.cell?_of_block (hk.block _ hlt (by rw [block_of_add]; exact h1 hp ad' hA'))]
  exact h3
/-- the reader; its rows lie as they lay in W0 -/
structure RdrAt (W0 : World) (R : Nat) (L : List RowV) (ln : Int) (w : World) : Prop where
  kept : Kept (fun k => k = R) W0 w
  at_ : ∃ A k, Cells w R #[.slice A L.length k, .int .i64 ln] 70 ∧ L.length ≤ k ∧ k ≤ maxLen ∧ RdRow W0 A L.length L ∧ (0 < L.length → ∀ ad, A = some ad → ad.block ≠ R) ∧ ∀ x ∈ L, ∀ ad, x.A = some ad → ad.block ≠ R
theorem RdrAt.step {W0 w w' : World} {R : Nat} {L : List RowV} {ln : Int} {S : Nat → Prop} (h : RdrAt W0 R L ln w) (hk : Kept S w w') (hS : ∀ k, S k → k ≠ R ∧ W0.heap.size ≤ k) : RdrAt W0 R L ln w' := by
  obtain ⟨h0, A, k, hc, r⟩ := h
  exact ⟨h0.trans2 hk fun k hk => .inr (hS k hk).2, A, k, hk.cells hc (fun h => (hS R h).1 rfl), r⟩
theorem RdrAt.below {W0 w w' : World} {R : Nat} {L : List RowV} {ln : Int} (h : RdrAt W0 R L ln w) (hb : Below w.heap.size w w') : RdrAt W0 R L ln w' :=
  h.step (S := fun _ => False) (Kept.of_below hb) fun k h => h.elim
def NextIs (W0 : World) (R : Nat) (L : List RowV) (ln : Int) (word : Bs) (cnt : Nat) (W : World) (e : Ending) (w' : World) : Prop := Kept (fun k => k = R) W w' ∧ match L with
  | [] => e = .returned (.tuple #[.slice none 0 0, .iface 27 (.int .i64 5)]) ∧ RdrAt W0 R [] ln w'
  | x :: L' => RdrAt W0 R L' x.line w' ∧ match formR x.t word cnt with
    | some c => e = .returned (.tuple #[.slice none 0 0, .iface 27 (.int .i64 c)])
    | none => ∃ A k, e = .returned (.tuple #[.slice A (x.ws.length - 1) k, .nilIface]) ∧ RdS w' A (x.ws.length - 1) ((x.ws.drop 1).map toB)
set_option maxRecDepth 100000 in
set_option maxHeartbeats 4000000 in
theorem next_any (R : Nat) (L : List RowV) (ln : Int) (s : ByteArray) (cnt : Nat) (W0 W : World) (hcnt : cnt ≤ 1000) (hlL : L.length ≤ 1048577) (hr : RdrAt W0 R L ln W) :
    Calls Tryz.prog 51 #[.pointer (some ⟨R, 0, none⟩), .string s, .int .i64 (cnt : Int)] W (NextIs W0 R L ln s.data.toList cnt W) := by
  obtain ⟨hk0, A, k, hc, hk1, hk2, hrd0, hoff2, hoff⟩ := hr
  have hrd := rdRow_kept hrd0 hk0 hoff2 hoff
  have HK0 := Lib.hid hk0
  have HRD0 := Lib.hid hrd0
  clear hk0 hrd0
  have HC := Lib.hid hc
  have HRD := Lib.hid hrd
  have HOF := Lib.hid hoff
  have HOF2 := Lib.hid hoff2
  clear hc hrd hoff hoff2
  unfold maxLen at hk2
  cases L with
  | nil =>
    have d0 : W.cell? ⟨R, 0, none⟩ = some (.slice A 0 k) := HC.out.cell 0
    go_enter Tryz.func51, Tryz.ntmps51
    refine wp_named ?_
    intro Q0 hQ0
    have HQ0 := Lib.hid hQ0
    clear hQ0
    go_wp2_with fail
    rw [HQ0.out]
    go_ret2
    exact ⟨Kept.refl _ _, rfl, HK0.out, A, k, HC.out, hk1, hk2, HRD0.out, HOF2.out, fun x hx => by simp at hx⟩
  | cons x L =>
    rw [List.length_cons] at *
    obtain ⟨hx1, hx2, hx3, hx4⟩ := HRD.out.ws x (by simp)
    unfold maxLen at hx4
    have d0 : W.cell? ⟨R, 0, none⟩ = some (.slice A (L.length + 1) k) := HC.out.cell 0
    obtain ⟨ad, hA, cc⟩ := HRD.out.rows.at_ (j := 0) (by omega)
    have e0 := cc 0 _ rfl
    have e1 := cc 1 _ rfl
    have ea : ad.add (0 * 2 + 0) = ad := rfl
    have eb : ad.add (0 * 2 + 1) = ⟨ad.block, ad.off + 1, none⟩ := rfl
    rw [ea] at e0
    rw [eb] at e1
    simp only [List.getElem_cons_zero] at e0 e1
    have hsl := fun w => slice_rows1 A (L.length + 1) k (by omega) w
    have hrd' : Rd 2 encRw W0 (if k = 1 then A else A.map (·.add (1 * 2))) (L.length + 1 - 1) L := HRD0.out.rows.drop (k := 1) (cap := k) (by omega) hk1
    rw [Nat.add_sub_cancel] at hrd'
    simp only [Nat.add_sub_cancel] at hsl
    have hoffA : ∀ ad', (if k = 1 then A else A.map (·.add (1 * 2))) = some ad' → ad'.block ≠ R := fun ad' h => by
      split at h
      · exact HOF2.out (by simp) ad' h
      · rw [hA] at h
        injection h with h
        rw [← h, block_of_add]
        exact HOF2.out (by simp) ad hA
    have q0 : (((L.length : Int) + 1) == 0) = false := by rw [beq_eq_false_iff_ne]; omega
    have q1 : (((L.length + 1 : Nat) : Int) == 0) = false := by rw [beq_eq_false_iff_ne]; omega
    have q2 : (0 : Int) < (L.length : Int) + 1 := by omega
    have q3 : (0 : Int) < ((L.length + 1 : Nat) : Int) := by omega
    generalize (if k = 1 then A else A.map (·.add (1 * 2))) = A' at *
    have HRD' := Lib.hid hrd'
    have HOFA := Lib.hid hoffA
    subst hA
    clear cc ea eb hrd' hoffA
    go_enter Tryz.func51, Tryz.ntmps51
    refine wp_named ?_
    intro Q0 hQ0
    have HQ0 := Lib.hid hQ0
    clear hQ0
    go_upto_region 4 with fail
    have hb1 := (Below.refl W.heap.size W).alloc (Nat.le_refl _) (.cells #[.int .i64 x.line, .slice x.A x.ws.length x.k] 112)
    have hX := cells_new W #[.int .i64 x.line, .slice x.A x.ws.length x.k] 112
    have hRX := HC.out.lt
    generalize W.alloc (.cells #[.int .i64 x.line, .slice x.A x.ws.length x.k] 112) = w1 at *
    have hc1 : Cells w1 R #[.slice (some ad) (L.length + 1) k, .int .i64 ln] 70 := HC.out.below hb1
    generalize hXe : W.heap.size = X at *
    have HSZ := Lib.hid hXe
    clear hXe
    have HB1 := Lib.hid hb1
    have HX := Lib.hid hX
    have r0 : w1.cell? ⟨R, 0, none⟩ = some (.slice (some ad) (L.length + 1) k) := hc1.cell 0
    have f0 := hc1.frozen 0
    have f1 := hc1.frozen 1
    have r1 : w1.cell? ⟨R, 1, none⟩ = some (.int .i64 ln) := hc1.cell 1
    have x0 : w1.cell? ⟨X, 0, none⟩ = some (.int .i64 x.line) := hX.cell 0
    have hfin := (hc1.set_ 0 (.slice A' L.length (k - 1))).set_ 1 (.int .i64 x.line)
    simp only [List.setIfInBounds_toArray, List.set_cons_zero, List.set_cons_succ] at hfin
    have hkz : Kept (fun k => k = R) w1 ((w1.setCell ⟨R, 0, none⟩ (.slice A' L.length (k - 1))).setCell ⟨R, 1, none⟩ (.int .i64 x.line)) := ((Kept.refl (fun k => k = R) w1).set_ (p := ⟨R, 0, none⟩) (.inl rfl) _).set_ (p := ⟨R, 1, none⟩) (.inl rfl) _
    have HFIN := Lib.hid hfin
    have HKZ := Lib.hid hkz
    clear hfin hkz hb1 hX hc1 e0 e1 d0
    go_cut [] from 22 to 34 (fun wx => Kept (fun k => k = R) w1 wx ∧ Cells wx R #[.slice A' L.length (k - 1), .int .i64 x.line] 70)
    case first =>
      go_region
      all_goals
        go_wp2_with fail
        go_meet
        exact ⟨HKZ.out.trans (Kept.of_below (Below.drew (Below.refl _ _))), HFIN.out.below (Below.drew (Below.refl _ _))⟩
    case rest =>
      obtain ⟨hkc, hcR⟩ := hcut
      have HKW : Hid (Kept (fun k => k = R) W wc) := Lib.hid ((Kept.of_below (by rw [HSZ.out]; exact HB1.out)).trans hkc)
      have hXc := hkc.cells HX.out (show ¬ X = R by omega)
      have HRDR : Hid (RdrAt W0 R L x.line wc) := Lib.hid ⟨HK0.out.trans HKW.out, A', k - 1, hcR, by omega, by unfold maxLen; omega, ⟨HRD'.out, fun z hz => HRD0.out.ws z (by simp [hz])⟩, (fun _ => HOFA.out), fun z hz => HOF.out z (by simp [hz])⟩
      have hwx := rd_kept hx1 HKW.out (fun ad hA e => HOF.out x (by simp) ad hA e)
      have HWX := Lib.hid hwx
      obtain ⟨ad2, hA2, cc2⟩ := hwx.at_ (j := 0) hx2
      have e0 := cc2 0 _ rfl
      have ea : ad2.add (0 * 1 + 0) = ad2 := rfl
      rw [ea] at e0
      obtain ⟨w0, wr, hws⟩ : ∃ w0 wr, x.ws = w0 :: wr := by
        cases h : x.ws with
        | nil => rw [h] at hx2; simp at hx2
        | cons a b => exact ⟨a, b, rfl⟩
      have e0' : wc.cell? ad2 = some (.string (toB w0)) := by
        rw [e0]
        congr 1
        simp [hws]
      have xc1 : wc.cell? ⟨X, 1, none⟩ = some (.slice x.A x.ws.length x.k) := hXc.cell 1
      have hcmp := str_eqB (x := toB w0) (y := s)
      rw [toB_list] at hcmp
      have hform : formR x.t s.data.toList cnt = if w0 ≠ s.data.toList then some 3 else if x.ws.length < cnt then some 5 else if cnt < x.ws.length then some 6 else none := by
        have hh : x.t.ws.head? = some w0 := by show x.ws.head? = _; rw [hws]; rfl
        unfold formR
        rw [hh]
        by_cases h : w0 = s.data.toList
        · have a1 : ¬ (some w0 ≠ some s.data.toList) := by simp [h]
          have a2 : ¬ (w0 ≠ s.data.toList) := by simp [h]
          rw [if_neg a1, if_neg a2]; rfl
        · have a1 : some w0 ≠ some s.data.toList := by simpa using h
          rw [if_pos a1, if_pos h]
      have HFO := Lib.hid hform
      have hsl2 := fun w => slice_strs1 x.A x.ws.length x.k (by omega) w
      have hdrop : RdS wc (if x.k = 1 then x.A else x.A.map (·.add (1 * 1))) (x.ws.length - 1) ((x.ws.map toB).drop 1) := HWX.out.drop (k := 1) (cap := x.k) (by omega) hx3
      rw [← List.map_drop] at hdrop
      generalize (if x.k = 1 then x.A else x.A.map (·.add (1 * 1))) = A2 at *
      have HDR := Lib.hid hdrop
      have p0 : (0 : Int) < (x.ws.length : Int) := by omega
      have p1 : (1 : Int) ≤ (x.ws.length : Int) := by omega
      rw [hA2] at xc1 hsl2
      clear hkc hcR hXc hwx cc2 e0 ea hws hform hdrop hx1
      by_cases hw : w0 = s.data.toList
      · rw [decide_eq_true hw] at hcmp
        have a2 : ¬ (w0 ≠ s.data.toList) := fun h => h hw
        rw [if_neg a2] at HFO
        clear a2
        clear hw
        by_cases h1 : x.ws.length < cnt
        · have g1 : decide ((x.ws.length : Int) < (cnt : Int)) = true := decide_eq_true (by omega)
          rw [if_pos h1] at HFO
          go_wp2_with fail
          rw [HQ0.out]
          go_ret2
          refine ⟨HKW.out, HRDR.out, ?_⟩
          rw [HFO.out]
          rfl
        · have g1 : decide ((x.ws.length : Int) < (cnt : Int)) = false := decide_eq_false (by omega)
          rw [if_neg h1] at HFO
          by_cases h2 : cnt < x.ws.length
          · have g2 : decide ((cnt : Int) < (x.ws.length : Int)) = true := decide_eq_true (by omega)
            rw [if_pos h2] at HFO
            go_wp2_with fail
            rw [HQ0.out]
            go_ret2
            refine ⟨HKW.out, HRDR.out, ?_⟩
            rw [HFO.out]
            rfl
          · have g2 : decide ((cnt : Int) < (x.ws.length : Int)) = false := decide_eq_false (by omega)
            rw [if_neg h2] at HFO
            go_wp2_with fail
            rw [HQ0.out]
            go_ret2
            refine ⟨HKW.out, HRDR.out, ?_⟩
            rw [HFO.out]
            exact ⟨_, _, rfl, HDR.out⟩
      · rw [decide_eq_false hw] at hcmp
        rw [if_pos hw] at HFO
        clear hw
        go_wp2_with fail
        rw [HQ0.out]
        go_ret2
        refine ⟨HKW.out, HRDR.out, ?_⟩
        rw [HFO.out]
        rfl
end Go.Proofs.YtmnnoecjedkdjaaGreatDoor

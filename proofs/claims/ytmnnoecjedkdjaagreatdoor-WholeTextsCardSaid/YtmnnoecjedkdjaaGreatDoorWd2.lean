/- The document's distances: the walk. -/
import Derived.Test.YtmnnoecjedkdjaaGreatDoorWd1
set_option linter.unusedSimpArgs false
set_option linter.unusedVariables false
namespace Go.Proofs.YtmnnoecjedkdjaaGreatDoor
open Go.RowKit Txt

def DistIs (n : Nat) (D : Mat) (W : World) (e : Ending) (w' : World) : Prop := ∃ G f, e = .returned (.slice (some ⟨G, 0, none⟩) n n) ∧ MatAt w' W.heap.size G n f ∧ MatF n f D ∧ Below W.heap.size W w'
set_option maxRecDepth 100000 in
set_option maxHeartbeats 16000000 in
theorem Distances_any (n : Nat) (l : List ArcT) (A : Option Addr) (m kk : Nat) (W : World) (hrd : RdA W A m l) (hn : n ≤ 65536) (hm : m ≤ 262144) (hg : ∀ a ∈ l, 0 ≤ a.f ∧ a.f < n ∧ 0 ≤ a.t ∧ a.t < n ∧ 0 ≤ a.w ∧ a.w ≤ 2147483647) :
    Calls Tryz.prog 18 #[.agg #[.int .i64 n, .slice A m kk]] W (DistIs n (fwM n n (initM l)) W) := by
  have HRD := Lib.hid hrd
  have hml := hrd.1
  have HG := Lib.hid hg
  clear hrd hg
  have hmk := make_rows n hn
  have hmr := make_row n hn
  go_enter Tryz.func18, Tryz.ntmps18
  refine wp_named ?_
  intro Q0 hQ0
  have HQ0 := Lib.hid hQ0
  clear hQ0
  go_upto_region 1 with fail
  have hb1 := (Below.refl W.heap.size W).alloc (Nat.le_refl _) (.cells #[.int .i64 n, .slice A m kk] 30)
  have hc1 := cells_new W #[.int .i64 n, .slice A m kk] 30
  have hsz : (W.alloc (.cells #[.int .i64 n, .slice A m kk] 30)).heap.size = W.heap.size + 1 := size_alloc _ _
  generalize W.alloc (.cells #[.int .i64 n, .slice A m kk] 30) = w1 at *
  have d0' := hc1.cell 0
  have HB1 := Lib.hid hb1
  have HC1 := Lib.hid hc1
  have HRD1 := Lib.hid (HRD.out.below hb1)
  clear hb1 hc1 HRD
  go_upto_region 2 with fail
  clear hmk
  have hb2 : Below w1.heap.size w1 (w1.alloc (.cells (rowsA n (fun _ => none)) 93)) := (Below.refl _ _).alloc (Nat.le_refl _) _
  have hm2 : MatAt (w1.alloc (.cells (rowsA n (fun _ => none)) 93)) w1.heap.size w1.heap.size n (fun _ => none) := ⟨cells_new _ _ _, fun i R l _ h => (by cases h), fun i j R l l' _ _ h => (by cases h), Nat.le_refl _⟩
  generalize w1.alloc (.cells (rowsA n (fun _ => none)) 93) = w2 at *
  rw [hsz] at hb2 hm2
  have HS1 := Lib.hid hsz
  have hGW : W.heap.size < W.heap.size + 1 := Nat.lt_succ_self _
  clear hsz
  generalize W.heap.size + 1 = G at *
  have HB2 := Lib.hid hb2
  have HM2 := Lib.hid hm2
  clear hb2 hm2 d0'
  go_wp2_with fail
  go_loopw [16] (fun iv wr => ∃ (r : Nat) (f : Nat → Option (Nat × List Int)), r ≤ n ∧ iv = .int .i64 r ∧ MatAt wr G G n f ∧ MatTo n r f ∧ Below G w1 wr) (fun iv _ => n - (intOf iv).toNat)
  case atStart => exact ⟨0, _, by omega, rfl, HM2.out, MatTo.start n, HB2.out⟩
  case round =>
    obtain ⟨r, f, hr, rfl, hmat, hto, hb⟩ := hrel
    have HM := Lib.hid hmat
    have HT := Lib.hid hto
    have HB := Lib.hid hb
    clear hmat hto hb HM2 HB2
    by_cases hlt : r < n
    · have g0 : decide ((r : Int) < (n : Int)) = true := decide_eq_true (by omega)
      have b0 : wr.cell? ⟨W.heap.size, 0, none⟩ = some (.int .i64 n) := (HC1.out.below (by rw [HS1.out]; exact HB.out)).cell 0
      have ff := HM.out.rows.frozen r
      have cc : wr.cell? ⟨G, r, none⟩ = some (.slice none 0 0) := by
        have h := HM.out.rows.cell r
        rw [rowsA_at _ hlt] at h
        unfold rowV at h
        rw [HT.out.none_ r (Nat.le_refl _) hlt] at h
        exact h
      have hglt : G < wr.heap.size := HM.out.rows.lt
      go_upto_region 6 with fail
      have hput := RowsAt.put (i := r) (R := wr.heap.size) (l := List.replicate n 0) (HM.out.below ((Below.refl _ _).alloc (Nat.le_refl _) (.cells (uA (List.replicate n 0)) 94))) (cells_new _ _ _) (by omega) (by omega) (fun j R' l' hj hne hf => by have := (HM.out.row j R' l' hj hf).1.lt; omega)
      rw [World.setCell_alloc_past _ _ _ _ hglt, List.length_replicate] at hput
      have hb3 : Below G w1 ((wr.setCell ⟨G, r, none⟩ (.slice (some ⟨wr.heap.size, 0, none⟩) n n)).alloc (.cells (uA (List.replicate n 0)) 94)) := (HB.out.setCell (p := ⟨G, r, none⟩) (Nat.le_refl _) _).alloc (by simp; omega) _
      generalize (wr.setCell ⟨G, r, none⟩ (.slice (some ⟨wr.heap.size, 0, none⟩) n n)).alloc (.cells (uA (List.replicate n 0)) 94) = w3 at *
      generalize wr.heap.size = R at *
      rw [← rowI_zero n r] at hput
      have c3 : w3.cell? ⟨G, r, none⟩ = some (.slice (some ⟨R, 0, none⟩) n n) := by
        have h := (MatAt.cell hput hlt (by unfold updF; rw [if_pos rfl])).1
        rwa [rowI_len] at h
      have HM3 := Lib.hid hput
      have HB3 := Lib.hid hb3
      clear hput hb3 b0 ff cc HM HB
      go_wp2_with fail
      go_loopw [30] (fun iv wi => ∃ (j : Nat), j ≤ n ∧ iv = .int .i64 j ∧ MatAt wi G G n (updF f r (some (R, rowI n r j))) ∧ Below G w1 wi) (fun iv _ => n - (intOf iv).toNat)
      case atStart => exact ⟨0, by omega, rfl, HM3.out, HB3.out⟩
      case round =>
        clear c3
        obtain ⟨j, hj, rfl, hmat, hb⟩ := hrel
        have HM := Lib.hid hmat
        have HB := Lib.hid hb
        clear hmat hb HM3 HB3
        by_cases hlj : j < n
        · have g0 : decide ((j : Int) < (n : Int)) = true := decide_eq_true (by omega)
          by_cases hrj : r = j
          · subst hrj
            have HM4 : Hid (MatAt wr G G n (updF f r (some (R, rowI n r (r + 1))))) := Lib.hid (by have h := HM.out; rw [rowI_same hlt] at h; exact h)
            clear HM
            go_wp2_with fail
            go_roundw
            case rel => exact ⟨r + 1, by omega, by go_num, HM4.out, HB.out⟩
            case measure => simp [intOf]; omega
          · have e0 : ((r : Int) == (j : Int)) = false := by rw [beq_eq_false_iff_ne]; omega
            have e1 : ((r : Int) != (j : Int)) = true := by rw [bne_iff_ne]; omega
            have hfr : updF f r (some (R, rowI n r j)) r = some (R, rowI n r j) := by unfold updF; rw [if_pos rfl]
            have c3 : wr.cell? ⟨G, r, none⟩ = some (.slice (some ⟨R, 0, none⟩) n n) := by
              have h := (MatAt.cell HM.out hlt hfr).1
              rwa [rowI_len] at h
            have c4 := (MatAt.cell HM.out hlt hfr).2 j (by rw [rowI_len]; exact hlj)
            have f4 := (HM.out.row r R _ hlt hfr).1.frozen j
            have hset := RowsAt.set_ (j := j) HM.out hlt hfr 18446744073709551615
            rw [updF_twice, rowI_far hlj hrj] at hset
            have hb4 : Below G w1 (wr.setCell ⟨R, j, none⟩ (.int .u64 18446744073709551615)) := HB.out.setCell (p := ⟨R, j, none⟩) (HM.out.row r R _ hlt hfr).2.1 _
            have HM4 := Lib.hid hset
            have HB4 := Lib.hid hb4
            clear hset hb4 hfr
            go_wp2_with fail
            go_roundw
            case rel => exact ⟨j + 1, by omega, by go_num, HM4.out, HB4.out⟩
            case measure => simp [intOf]; omega
        · obtain rfl : n = j := by omega
          go_wp2_with fail
          go_roundw
          case rel => exact ⟨r + 1, _, by omega, by go_num, HM.out, HT.out.step (rowI_all _ _), HB.out⟩
          case measure => simp [intOf]; omega
    · obtain rfl : n = r := by omega
      have HF := Lib.hid HT.out.end_
      clear HT
      have b1 : wr.cell? ⟨W.heap.size, 1, none⟩ = some (.slice A m kk) := (HC1.out.below (by rw [HS1.out]; exact HB.out)).cell 1
      go_wp2_with fail
      clear b1
      go_loopw [47] (fun iv wi => ∃ (j : Nat) (f : Nat → Option (Nat × List Int)), j ≤ m ∧ iv = .int .i64 j ∧ MatAt wi G G n f ∧ MatF n f (initM (l.take j)) ∧ Below G w1 wi) (fun iv _ => m - (intOf iv).toNat)
      case atStart => exact ⟨0, f, by omega, rfl, HM.out, HF.out, HB.out⟩
      case round =>
        clear HM HF HB
        obtain ⟨j, f, hj, rfl, hmat, hmf, hb⟩ := hrel
        have HM := Lib.hid hmat
        have HF := Lib.hid hmf
        have HB := Lib.hid hb
        clear hmat hmf hb
        by_cases hlj : j < m
        · have g0 : decide ((j : Int) < (m : Int)) = true := decide_eq_true (by omega)
          obtain ⟨ad, hA, cc⟩ := (HRD1.out.below (by rw [HS1.out]; exact HB.out)).at_ hlj
          subst hA
          obtain ⟨c0, c1, c2⟩ := arc_cells cc
          have hjl : j < l.length := by omega
          have hga := HG.out _ (List.getElem_mem hjl)
          have hsn : initM (l.take (j + 1)) = addA (initM (l.take j)) l[j] := by
            unfold initM
            rw [List.take_succ_eq_append_getElem hjl, List.foldl_append]
            rfl
          generalize l[j] = a at *
          obtain ⟨a0, a1, a2⟩ := a
          dsimp only at c0 c1 c2 hga
          obtain ⟨x0, rfl⟩ : ∃ t : Nat, a0 = (t : Int) := ⟨a0.toNat, by omega⟩
          obtain ⟨x1, rfl⟩ : ∃ t : Nat, a1 = (t : Int) := ⟨a1.toNat, by omega⟩
          obtain ⟨x2, rfl⟩ : ∃ t : Nat, a2 = (t : Int) := ⟨a2.toNat, by omega⟩
          unfold addA at hsn
          dsimp only at hsn
          rw [Int.toNat_natCast, Int.toNat_natCast, Int.toNat_natCast] at hsn
          have hx0 : x0 < n := by omega
          have hx1 : x1 < n := by omega
          have hw2 : IntKind.u64.wrap (x2 : Int) = (x2 : Int) := by rw [IntKind.wrap_u64]; omega
          have HSN := Lib.hid hsn
          clear hsn cc hga
          go_wp2_with fail
          have hba := (Below.refl wr.heap.size wr).alloc (Nat.le_refl _) (.cells #[.int .i64 (x0 : Int), .int .i64 (x1 : Int), .int .i64 (x2 : Int)] 56)
          have hca := cells_new wr #[.int .i64 (x0 : Int), .int .i64 (x1 : Int), .int .i64 (x2 : Int)] 56
          generalize wr.alloc (.cells #[.int .i64 (x0 : Int), .int .i64 (x1 : Int), .int .i64 (x2 : Int)] 56) = w8 at *
          have k0 : w8.cell? ⟨wr.heap.size, 0, none⟩ = some (.int .i64 (x0 : Int)) := hca.cell 0
          have k1 : w8.cell? ⟨wr.heap.size, 1, none⟩ = some (.int .i64 (x1 : Int)) := hca.cell 1
          have k2 : w8.cell? ⟨wr.heap.size, 2, none⟩ = some (.int .i64 (x2 : Int)) := hca.cell 2
          have HM8 := Lib.hid (HM.out.below hba)
          have HB8 := Lib.hid (HB.out.trans (hba.mono (Nat.le_of_lt HM.out.rows.lt)))
          generalize wr.heap.size = lb at *
          clear hba hca c0 c1 c2
          obtain ⟨R, hR⟩ := HF.out x0 hx0
          have q1 := (MatAt.cell HM8.out hx0 hR).1
          have q2 := (MatAt.cell HM8.out hx0 hR).2 x1 (by rw [rowD_len]; exact hx1)
          rw [rowD_len] at q1
          rw [rowD_at _ _ hx1] at q2
          have q3 := (HM8.out.row x0 R _ hx0 hR).1.frozen x1
          have hRG := (HM8.out.row x0 R _ hx0 hR).2.1
          have hmf := HF.out.set_ hR hx0 x1 (min (initM (l.take j) x0 x1) x2)
          rw [← HSN.out] at hmf
          have HMF := Lib.hid hmf
          clear hmf HSN
          generalize initM (l.take j) x0 x1 = v at *
          have hmin : (if x2 < v then (x2 : Int) else (v : Int)) = ((min v x2 : Nat) : Int) := by
            rw [Nat.min_def]
            split <;> split <;> omega
          refine wp_region_still_tail 21 (by kernel_rfl) (by kernel_rfl) ?_
          simp only [List.take_succ_cons, List.take_zero, List.drop_succ_cons, List.drop_zero]
          refine still_of_quiet _ _ ?_
          repeat (go_big_quiet_step (fail))
          refine wpQuiet_nil ?_
          change wpList _ _ _ _ _ w8.drew
          have HM9 := Lib.hid (HM8.out.below (Below.drew (Below.refl _ _)))
          have HB9 := Lib.hid (Below.drew HB8.out)
          generalize w8.drew = w9 at *
          clear k0 k1 k2 q1 q2 q3
          have q3 := (HM9.out.row x0 R _ hx0 hR).1.frozen x1
          have q4 := (MatAt.cell HM9.out hx0 hR).2 x1 (by rw [rowD_len]; exact hx1)
          have hset := RowsAt.set_ (j := x1) HM9.out hx0 hR ((min v x2 : Nat) : Int)
          have HSET := Lib.hid hset
          have hb9 := HB9.out.setCell (p := ⟨R, x1, none⟩) hRG (.int .u64 ((min v x2 : Nat) : Int))
          have HBS := Lib.hid hb9
          clear hset hb9
          go_wp2_with fail
          have hmc : min (v : Int) (x2 : Int) = ((min v x2 : Nat) : Int) := by omega
          try rw [hmc]
          exact ⟨⟨j + 1, _, by omega, by go_num, HSET.out, HMF.out, HBS.out⟩, by simp [intOf]; omega⟩
        · obtain rfl : m = j := by omega
          have HF0 : Hid (MatF n f (fwM n 0 (initM l))) := Lib.hid (by have h := HF.out; rw [List.take_of_length_le (by omega)] at h; exact h)
          clear HF
          go_wp2_with fail
          generalize wr = wo at *
          go_loopw [75] (fun iv wi => ∃ (k : Nat) (f : Nat → Option (Nat × List Int)), k ≤ n ∧ iv = .int .i64 k ∧ MatAt wi G G n f ∧ MatF n f (fwM n k (initM l)) ∧ Below G w1 wi) (fun iv _ => n - (intOf iv).toNat)
          case atStart => exact ⟨0, f, by omega, rfl, HM.out, HF0.out, HB.out⟩
          case round =>
            clear HM HF0 HB
            obtain ⟨k, f, hk, rfl, hmat, hmf, hb⟩ := hrel
            have HM := Lib.hid hmat
            have HF := Lib.hid hmf
            have HB := Lib.hid hb
            clear hmat hmf hb
            by_cases hlk : k < n
            · have g0 : decide ((k : Int) < (n : Int)) = true := decide_eq_true (by omega)
              have HF2 : Hid (MatF n f (midM k n 0 (fwM n k (initM l)))) := Lib.hid HF.out
              clear HF
              go_wp2_with fail
              generalize wr = wo2 at *
              go_loopw [80] (fun iv wi => ∃ (i : Nat) (f : Nat → Option (Nat × List Int)), i ≤ n ∧ iv = .int .i64 i ∧ MatAt wi G G n f ∧ MatF n f (midM k n i (fwM n k (initM l))) ∧ Below G w1 wi) (fun iv _ => n - (intOf iv).toNat)
              case atStart => exact ⟨0, f, by omega, rfl, HM.out, HF2.out, HB.out⟩
              case round =>
                clear HM HF2 HB
                obtain ⟨i, f, hi, rfl, hmat, hmf, hb⟩ := hrel
                have HM := Lib.hid hmat
                have HF := Lib.hid hmf
                have HB := Lib.hid hb
                clear hmat hmf hb
                by_cases hli : i < n
                · have g1 : decide ((i : Int) < (n : Int)) = true := decide_eq_true (by omega)
                  have HF2 : Hid (MatF n f (rowM k i 0 (midM k n i (fwM n k (initM l))))) := Lib.hid HF.out
                  clear HF
                  go_wp2_with fail
                  generalize wr = wo3 at *
                  go_loopw [85] (fun iv wi => ∃ (j : Nat) (f : Nat → Option (Nat × List Int)), j ≤ n ∧ iv = .int .i64 j ∧ MatAt wi G G n f ∧ MatF n f (rowM k i j (midM k n i (fwM n k (initM l)))) ∧ Below G w1 wi) (fun iv _ => n - (intOf iv).toNat)
                  case atStart => exact ⟨0, f, by omega, rfl, HM.out, HF2.out, HB.out⟩
                  case round =>
                    clear HM HF2 HB
                    obtain ⟨j, f, hj, rfl, hmat, hmf, hb⟩ := hrel
                    have HM := Lib.hid hmat
                    have HF := Lib.hid hmf
                    have HB := Lib.hid hb
                    have HS := Lib.hid (rowM_succ k i j (midM k n i (fwM n k (initM l))))
                    clear hmat hmf hb
                    by_cases hlj : j < n
                    · have g2 : decide ((j : Int) < (n : Int)) = true := decide_eq_true (by omega)
                      generalize rowM k i j (midM k n i (fwM n k (initM l))) = D at *
                      obtain ⟨Ri, hRi⟩ := HF.out i hli
                      obtain ⟨Rk, hRk⟩ := HF.out k hlk
                      have q1 := (MatAt.cell HM.out hli hRi).1
                      have q2 := (MatAt.cell HM.out hli hRi).2 k (by rw [rowD_len]; exact hlk)
                      have q3 := (MatAt.cell HM.out hlk hRk).1
                      have q4 := (MatAt.cell HM.out hlk hRk).2 j (by rw [rowD_len]; exact hlj)
                      rw [rowD_len] at q1 q3
                      rw [rowD_at _ _ hlk] at q2
                      rw [rowD_at _ _ hlj] at q4
                      by_cases ha : D i k = far
                      · have e0 : (((D i k : Nat) : Int) == 18446744073709551615) = true := by rw [ha]; rfl
                        have e1 : (((D i k : Nat) : Int) != 18446744073709551615) = false := by rw [ha]; rfl
                        have HF3 : Hid (MatF n f (rowM k i (j + 1) (midM k n i (fwM n k (initM l))))) := Lib.hid (by rw [HS.out]; unfold relaxM; rw [if_neg (fun h => h.1 ha)]; exact HF.out)
                        go_wp2_with fail
                        go_roundw
                        case rel => exact ⟨j + 1, f, by omega, by go_num, HM.out, HF3.out, HB.out⟩
                        case measure => simp [intOf]; omega
                      · have e0 : (((D i k : Nat) : Int) == 18446744073709551615) = false := by
                          rw [beq_eq_false_iff_ne]
                          unfold far at ha
                          omega
                        have e1 : (((D i k : Nat) : Int) != 18446744073709551615) = true := by
                          rw [bne_iff_ne]
                          unfold far at ha
                          omega
                        by_cases hb : D k j = far
                        · have e2 : (((D k j : Nat) : Int) == 18446744073709551615) = true := by rw [hb]; rfl
                          have e3 : (((D k j : Nat) : Int) != 18446744073709551615) = false := by rw [hb]; rfl
                          have HF3 : Hid (MatF n f (rowM k i (j + 1) (midM k n i (fwM n k (initM l))))) := Lib.hid (by rw [HS.out]; unfold relaxM; rw [if_neg (fun h => h.2 hb)]; exact HF.out)
                          go_wp2_with fail
                          go_roundw
                          case rel => exact ⟨j + 1, f, by omega, by go_num, HM.out, HF3.out, HB.out⟩
                          case measure => simp [intOf]; omega
                        · have e2 : (((D k j : Nat) : Int) == 18446744073709551615) = false := by
                            rw [beq_eq_false_iff_ne]
                            unfold far at hb
                            omega
                          have e3 : (((D k j : Nat) : Int) != 18446744073709551615) = true := by
                            rw [bne_iff_ne]
                            unfold far at hb
                            omega
                          have hmf := HF.out.set_ hRi hli j (min (D i j) ((D i k + D k j) % 18446744073709551616))
                          have hrx : relaxM D k i j = updM D i j (min (D i j) ((D i k + D k j) % 18446744073709551616)) := by unfold relaxM; rw [if_pos ⟨ha, hb⟩]
                          rw [← hrx, ← HS.out] at hmf
                          have HF3 := Lib.hid hmf
                          have q5 := (MatAt.cell HM.out hli hRi).2 j (by rw [rowD_len]; exact hlj)
                          rw [rowD_at _ _ hlj] at q5
                          have hwr : IntKind.u64.wrap (((D i k : Nat) : Int) + ((D k j : Nat) : Int)) = (((D i k + D k j) % 18446744073709551616 : Nat) : Int) := by rw [IntKind.wrap_u64]; omega
                          have hRG := (HM.out.row i Ri _ hli hRi).2.1
                          clear hmf hrx HF HS ha hb
                          go_upto_region 28 with fail
                          generalize ((D i k + D k j) % 18446744073709551616 : Nat) = sm at *
                          generalize D i k = vik at *
                          generalize D k j = vkj at *
                          have HM3 : Hid (MatAt wr G G n f) := HM
                          generalize hv : D i j = v at *
                          have hmin : (if sm < v then (sm : Int) else (v : Int)) = ((min v sm : Nat) : Int) := by
                            rw [Nat.min_def]
                            split <;> split <;> omega
                          refine wp_region_still_tail 29 (by kernel_rfl) (by kernel_rfl) ?_
                          simp only [List.take_succ_cons, List.take_zero, List.drop_succ_cons, List.drop_zero]
                          refine still_of_quiet _ _ ?_
                          repeat (go_big_quiet_step (fail))
                          refine wpQuiet_nil ?_
                          change wpList _ _ _ _ _ wr.drew
                          have HM9 := Lib.hid (HM.out.below (Below.drew (Below.refl _ _)))
                          have HB9 := Lib.hid (Below.drew HB.out)
                          generalize wr.drew = w9 at *
                          clear q1 q2 q3 q4 q5
                          have q3 := (HM9.out.row i Ri _ hli hRi).1.frozen j
                          have q4 := (MatAt.cell HM9.out hli hRi).2 j (by rw [rowD_len]; exact hlj)
                          have hset := RowsAt.set_ (j := j) HM9.out hli hRi ((min v sm : Nat) : Int)
                          have HSET := Lib.hid hset
                          have hb9 := HB9.out.setCell (p := ⟨Ri, j, none⟩) hRG (.int .u64 ((min v sm : Nat) : Int))
                          have HBS := Lib.hid hb9
                          clear hset hb9
                          go_wp2_with fail
                          have hmc : min (v : Int) (sm : Int) = ((min v sm : Nat) : Int) := by omega
                          try rw [hmc]
                          exact ⟨⟨j + 1, _, by omega, by go_num, HSET.out, HF3.out, HBS.out⟩, by simp [intOf]; omega⟩
                    · obtain rfl : n = j := by omega
                      have HF3 : Hid (MatF n f (midM k n (i + 1) (fwM n k (initM l)))) := Lib.hid (by rw [midM_succ]; exact HF.out)
                      go_wp2_with fail
                      go_roundw
                      case rel => exact ⟨i + 1, f, by omega, by go_num, HM.out, HF3.out, HB.out⟩
                      case measure => simp [intOf]; omega
                · obtain rfl : n = i := by omega
                  have HF3 : Hid (MatF n f (fwM n (k + 1) (initM l))) := Lib.hid (by rw [fwM_succ]; exact HF.out)
                  go_wp2_with fail
                  go_roundw
                  case rel => exact ⟨k + 1, f, by omega, by go_num, HM.out, HF3.out, HB.out⟩
                  case measure => simp [intOf]; omega
            · obtain rfl : n = k := by omega
              have HEND : Hid (DistIs n (fwM n n (initM l)) W (.returned (.slice (some ⟨G, 0, none⟩) n n)) wr) := Lib.hid ⟨G, f, rfl, HM.out.mono (Nat.le_of_lt hGW), HF.out, HB1.out.trans (HB.out.mono (Nat.le_of_lt hGW))⟩
              go_wp2_with fail
              rw [HQ0.out]
              go_ret
              exact HEND.out
end Go.Proofs.YtmnnoecjedkdjaaGreatDoor

/- sound's search from a rank over steps above another one. -/
import Derived.Test.YtkcnnamghpdplaaDoorCk7
import Derived.Test.YtkcnnamghpdplaaDoorCl7
import Derived.Deep.LoopGhost
import Derived.IntWalk
import Derived.BigQuiet
set_option linter.unusedSimpArgs false
set_option linter.unusedVariables false
namespace Go.Proofs.YtkcnnamghpdplaaDoor
open Go.RowKit

def rowS (O : List (List StT)) : Nat → List StT := fun x => O.getD x []
def FromIs (n : Nat) (S : Nat → List StT) (k u : Nat) (W : World) (e : Ending) (w' : World) : Prop := ∃ D d, e = .returned (.slice (some ⟨D, 0, none⟩) n n) ∧ Cells w' D (nA d) 46 ∧ d.length = n ∧ (∀ x, LeastW (ES S) k u x (dg d x)) ∧ (∀ x, 0 ≤ dg d x ∧ (dg d x = farI ∨ dg d x ≤ 9223372036854775808)) ∧ Below W.heap.size W w' ∧ W.heap.size ≤ D
theorem Rlx.two {n : Nat} {S : Nat → List StT} {k u : Nat} {d : List Int} {q : List (Option Int)} {t j : Nat} (h : Rlx n S k u d q t j) (hn : n ≤ 65536) : ∀ x, 0 ≤ dg d x ∧ (dg d x = farI ∨ dg d x ≤ 9223372036854775808) := fun x => by
  refine ⟨h.nn x, ?_⟩
  by_cases hx : dg d x = farI
  · exact .inl hx
  · have := (h.safe hn x hx).2
    unfold topI at this
    exact .inr (by omega)
theorem dg_relax {d : List Int} {t y : Nat} {v w : Int} (hy : y < d.length) (hv : v = dg d t + w) (hw : 0 ≤ w) (hlt : v < dg d y) : dg (d.set y v) t = dg d t := by
  rw [dg_set hy]
  by_cases h : t = y
  · subst h; omega
  · rw [if_neg h]
theorem two_stc {w : World} {ad : Addr} {j : Nat} {x : StT} (h : ∀ i u, (encSt x)[i]? = some u → w.cell? (ad.add (j * 2 + i)) = some u) :
    w.cell? (ad.add (j * 2)) = some (.int .i64 (x.to : Int)) ∧ w.cell? ⟨(ad.add (j * 2)).block, (ad.add (j * 2)).off + 1, none⟩ = some (.int .u64 x.w) := by
  have h0 := h 0 _ rfl
  have h1 := h 1 _ rfl
  rw [← add_of_add] at h1
  rw [Nat.add_zero] at h0
  exact ⟨h0, h1⟩
set_option maxRecDepth 100000 in
set_option maxHeartbeats 16000000 in
theorem from_any (base G n : Nat) (sv : Nat → Value) (O : List (List StT)) (r : Int) (u : Nat) (W : World) (hW : WebAt W base G n sv O) (hweb : Web n (rowS O)) (hn : n ≤ 65536) (hr : -1 ≤ r ∧ r ≤ 65536) (hu : u < n) :
    Calls Tryd.prog 42 #[.agg #[.slice (some ⟨G, 0, none⟩) n n], .int .i64 r, .int .i64 (u : Int)] W (FromIs n (rowS O) (r + 1).toNat u W) := by
  have HWB := Lib.hid hW
  have HWE := Lib.hid hweb
  clear hW hweb
  have hmk := make_u64 n hn
  generalize hk : (r + 1).toNat = k
  have hkr : (k : Int) = r + 1 := by omega
  have HS0 : Hid (Rlx n (rowS O) k u ((List.replicate n farI).set u 0) ((List.replicate n none).set u (some 0)) n 0) := Lib.hid (Rlx.start hu)
  clear hk
  go_enter Tryd.func42, Tryd.ntmps42
  go_upto_region 1 with fail
  have hb1 := (Below.refl W.heap.size W).alloc (Nat.le_refl _) (.cells #[.slice (some ⟨G, 0, none⟩) n n] 90)
  have hc1 := cells_new W #[.slice (some ⟨G, 0, none⟩) n n] 90
  have hz1 : (W.alloc (.cells #[.slice (some ⟨G, 0, none⟩) n n] 90)).heap.size = W.heap.size + 1 := size_alloc _ _
  generalize W.alloc (.cells #[.slice (some ⟨G, 0, none⟩) n n] 90) = w1 at *
  have d0 : w1.cell? ⟨W.heap.size, 0, none⟩ = some (.slice (some ⟨G, 0, none⟩) n n) := hc1.cell 0
  have HB1 := Lib.hid hb1
  have HC1 := Lib.hid hc1
  have HW1 := Lib.hid (HWB.out.below hb1)
  clear hb1 hc1 HWB
  go_upto_region 2 with fail
  have hc2 := cells_new w1 (nA (List.replicate n 0)) 46
  have hb2 : Below w1.heap.size w1 (w1.alloc (.cells (nA (List.replicate n 0)) 46)) := (Below.refl _ _).alloc (Nat.le_refl _) _
  have hz2 : (w1.alloc (.cells (nA (List.replicate n 0)) 46)).heap.size = w1.heap.size + 1 := size_alloc _ _
  rw [hz1] at hc2
  rw [hz1] at hz2
  have hc2' : Cells (w1.alloc (.cells (nA (List.replicate n 0)) 46)) (W.heap.size + 1) (nA (fillL n 0)) 46 := hc2
  generalize w1.alloc (.cells (nA (List.replicate n 0)) 46) = w2 at *
  have HZ1 := Lib.hid hz1
  have HZ2 := Lib.hid hz2
  have hWD : W.heap.size < W.heap.size + 1 := Nat.lt_succ_self _
  clear hz1 hz2 hc2 hmk d0
  obtain ⟨D, hD⟩ : ∃ D, W.heap.size + 1 = D := ⟨_, rfl⟩
  rw [hD] at hWD hc2' HZ1 ⊢
  have HDD := Lib.hid hD
  clear hD
  have HC2 := Lib.hid hc2'
  have HB2 := Lib.hid hb2
  clear hc2' hb2
  go_wp2_with fail
  go_loopw [22] (fun iv wr => ∃ (j : Nat), j ≤ n ∧ iv = .int .i64 j ∧ Cells wr D (nA (fillL n j)) 46 ∧ Below D w1 wr) (fun iv _ => n - (intOf iv).toNat)
  case atStart => exact ⟨0, by omega, rfl, HC2.out, by have h := HB2.out; rwa [HZ1.out] at h⟩
  case round =>
    obtain ⟨j, hj, rfl, hc, hb⟩ := hrel
    have HC := Lib.hid hc
    have HB := Lib.hid hb
    clear HC2 HB2 hc hb
    by_cases hlt : j < n
    · have g0 : decide ((j : Int) < (n : Int)) = true := decide_eq_true (by omega)
      have cc := HC.out.cell j
      rw [nA_at (by rw [fillL_len hj]; exact hlt)] at cc
      have ff := HC.out.frozen j
      go_wp2_with fail
      go_roundw
      case rel =>
        refine ⟨j + 1, by omega, by go_num, ?_, HB.out.setCell (p := ⟨D, j, none⟩) (Nat.le_refl _) _⟩
        have e := HC.out.set_ j (.int .u64 farI)
        rwa [nA_set, fillL_set hlt] at e
      case measure => simp [intOf]; omega
    · obtain rfl : n = j := by omega
      rw [fillL_all] at HC
      have d0 : wr.cell? ⟨W.heap.size, 0, none⟩ = some (.slice (some ⟨G, 0, none⟩) n n) := Cells.cell ((HB.out.block W.heap.size hWD).trans HC1.out) 0
      go_wp2_with fail
      refine (New_ok n wr hn wr.heap.size (Nat.le_refl _)).mono ?_
      rintro e w3 ⟨hb, ga, rfl, hhp, hbel, hhb, hga⟩
      have HHP := Lib.hid hhp
      have HC3 := Lib.hid (HC.out.below hbel)
      have HB3 := Lib.hid (HB.out.trans (hbel.mono (Nat.le_of_lt HC.out.lt)))
      have hDwr : D < wr.heap.size := HC.out.lt
      have hz3 := hbel.size
      clear hhp hbel d0 hhb hga
      generalize wr.heap.size = B at *
      have cc := HC3.out.cell u
      rw [nA_at (by simpa using hu)] at cc
      have ff := HC3.out.frozen u
      go_upto_region 11 with fail
      have hset := HC3.out.set_ u (.int .u64 0)
      rw [nA_set] at hset
      have hk4 : Kept (fun q => q = D) w3 (w3.setCell ⟨D, u, none⟩ (.int .u64 0)) := (Kept.refl (fun q => q = D) w3).set_ (p := ⟨D, u, none⟩) (.inl rfl) _
      have HHP4 := Lib.hid (HHP.out.kept hk4 (fun q h hs => by have h1 := (HHP.out.lt q h).1; have hs : q = D := hs; omega))
      have HB4 := Lib.hid (HB3.out.setCell (p := ⟨D, u, none⟩) (Nat.le_refl _) (.int .u64 0))
      have HC4 := Lib.hid hset
      have hz4 : B ≤ (w3.setCell ⟨D, u, none⟩ (.int .u64 0)).heap.size := Nat.le_trans hz3 hk4.size
      clear hset hk4 cc ff HC3 HB3 HHP
      generalize w3.setCell ⟨D, u, none⟩ (.int .u64 0) = w4 at *
      have hwu : IntKind.u32.wrap (u : Int) = (u : Int) := by rw [IntKind.wrap_u32]; omega
      go_wp2_with fail
      refine (Push_any HHP4.out u (by omega) 0 hz4).mono ?_
      rintro e w5 ⟨rfl, v5, hh5, hk5, hf5⟩
      have hms : pushM (noneH n) u 0 = (List.replicate n none).set u (some 0) := by
        unfold pushM
        have : lookH (noneH n) u = none := by
          unfold lookH noneH
          rw [List.getD_eq_getElem?_getD, List.getElem?_replicate]
          split <;> rfl
        rw [this]
        rfl
      rw [hms] at hh5
      have HH5 := Lib.hid hh5
      have HC5 := Lib.hid (hk5.cells HC4.out (fun h => by have := (HHP4.out.lt _ h).1; omega))
      have HB5 := Lib.hid (hk5.below HB4.out (fun q h => by have := (HHP4.out.lt q h).1; omega) (by omega))
      have HZ5 : Hid (B ≤ w5.heap.size) := Lib.hid (Nat.le_trans hz4 hk5.size)
      clear hms hh5 hk5 hf5 HHP4 HC4 HB4 hwu
      go_wp2_with fail
      go_loopg [11] (pot ((List.replicate n farI).set u 0) ((List.replicate n none).set u (some 0))) (fun gk _ wr => ∃ (d : List Int) (q : List (Option Int)) (t j : Nat) (v : Value), Rlx n (rowS O) k u d q t j ∧ (rowS O t).length ≤ j ∧ pot d q ≤ gk ∧ Hp wr B hb ga v q ∧ Cells wr D (nA d) 46 ∧ Below D w1 wr ∧ B ≤ wr.heap.size)
      case atStart => exact ⟨_, _, n, 0, v5, HS0.out, by rw [HWE.out.nil]; exact Nat.le_refl _, Nat.le_refl _, HH5.out, HC5.out, HB5.out, HZ5.out⟩
      case round =>
        clear HH5 HC5 HB5 HZ5 HS0 hz4 hz3
        obtain ⟨d, q, t, j, v, hD, hj, hg, hh, hc, hb', hz⟩ := hrel
        have HD := Lib.hid hD
        have HJ := Lib.hid hj
        have HG := Lib.hid hg
        have HH := Lib.hid hh
        have HC := Lib.hid hc
        have HB := Lib.hid hb'
        have HZ := Lib.hid hz
        clear hD hj hg hh hc hb' hz
        go_wp2_with fail
        refine (Pop_any HH.out).mono ?_
        rintro e w5 ⟨r', ⟨rfl, htop⟩, v5, hh5, hk5, hf5⟩
        have HH5 := Lib.hid hh5
        have HC5 := Lib.hid (hk5.cells HC.out (fun h => by have := (HH.out.lt _ h).1; omega))
        have HB5 : Hid (Below D w1 w5) := Lib.hid (hk5.below HB.out (fun q h => by have := (HH.out.lt q h).1; omega) (by have := HZ.out; omega))
        have HZ5 : Hid (B ≤ w5.heap.size) := Lib.hid (Nat.le_trans HZ.out hk5.size)
        have HT := Lib.hid htop
        clear hh5 hk5 hf5 htop HH HC HB HZ
        cases r' with
        | none =>
          have HEND : Hid (FromIs n (rowS O) k u W (.returned (.slice (some ⟨D, 0, none⟩) n n)) w5) := Lib.hid ⟨D, d, rfl, HC5.out, HD.out.dl, fun x => HD.out.end_ HWE.out hn HJ.out HT.out x, HD.out.two hn, HB1.out.trans (HB5.out.mono (Nat.le_of_lt hWD)), Nat.le_of_lt hWD⟩
          simp only [topV]
          go_wp2_with fail
          go_ret
          exact HEND.out
        | some xd =>
          obtain ⟨b, x⟩ := xd
          simp only [topV]
          have hqx : getO q x = some b := HT.out.1
          have hxn : x < n := by have := getO_lt hqx; rw [HD.out.ql] at this; exact this
          obtain ⟨hbd, hbf⟩ := HD.out.q_ x b hqx
          have hsf := HD.out.safe hn x (by rw [← hbd]; exact hbf)
          rw [← hbd] at hsf
          obtain ⟨hpop, hpp⟩ := HD.out.pop HJ.out hqx
          have HD' := Lib.hid hpop
          have HPP : Hid (pot d (q.set x none) ≤ gk - 1 ∧ 0 < gk) := Lib.hid (by have := HG.out; omega)
          have HBD : Hid (dg d x = b ∧ b ≠ farI) := Lib.hid ⟨hbd.symm, hbf⟩
          have hb0 := hsf.1
          have hb1 : b + 140737488355328 ≤ 9223372036854775808 := hsf.2
          clear hpop hpp hqx hbd hbf hsf HT HJ HG HD
          have d0 : w5.cell? ⟨W.heap.size, 0, none⟩ = some (.slice (some ⟨G, 0, none⟩) n n) := Cells.cell ((HB5.out.block W.heap.size hWD).trans HC1.out) 0
          have HWB5 := Lib.hid (HW1.out.below (w' := w5) (by rw [HZ1.out]; exact HB5.out))
          have q1 : w5.cell? ⟨G, x, none⟩ = some (sv x) := by rw [HWB5.out.rows.cell x, vA_at _ hxn]
          have hown := HW1.out.own x hxn
          obtain ⟨A3, c3, hv3, hc3, hm3⟩ := hown.form
          have HRT := Lib.hid (hown.rd encSt_len hv3)
          rw [hv3] at q1
          have hc3' : c3 ≤ 9223372036854775807 := by unfold maxLen at hm3; omega
          have i1 : (0 : Int) ≤ (x : Int) := by omega
          have i2 : (x : Int) < (n : Int) := by omega
          obtain ⟨sl, hsl⟩ : ∃ sl, (O.getD x []).length = sl := ⟨_, rfl⟩
          rw [hsl] at q1 hc3 HRT
          have HSL : Hid ((rowS O x).length = sl) := Lib.hid hsl
          clear hown hv3 hm3 hsl HWB5
          go_wp2_with fail
          clear d0 q1
          go_loopw [61] (fun iv wi => ∃ (j : Nat) (d' : List Int) (q' : List (Option Int)) (v : Value), j ≤ sl ∧ iv = .int .i64 j ∧ Rlx n (rowS O) k u d' q' x j ∧ dg d' x = b ∧ pot d' q' ≤ gk - 1 ∧ Hp wi B hb ga v q' ∧ Cells wi D (nA d') 46 ∧ Below D w1 wi ∧ B ≤ wi.heap.size) (fun iv _ => sl - (intOf iv).toNat)
          case atStart => exact ⟨0, d, _, v5, by omega, rfl, HD'.out, HBD.out.1, HPP.out.1, HH5.out, HC5.out, HB5.out, HZ5.out⟩
          case round =>
            clear HD' HH5 HC5 HB5 HZ5
            obtain ⟨j, d, q, v, hj, rfl, hD, hdx, hpt, hh, hc, hb', hz⟩ := hrel
            have HD := Lib.hid hD
            have HDX := Lib.hid hdx
            have HPT := Lib.hid hpt
            have HH := Lib.hid hh
            have HC := Lib.hid hc
            have HB := Lib.hid hb'
            have HZ := Lib.hid hz
            clear hD hdx hpt hh hc hb' hz
            by_cases hlj : j < sl
            · have g0 : decide ((j : Int) < (sl : Int)) = true := decide_eq_true (by omega)
              have hjl : j < (rowS O x).length := by rw [HSL.out]; exact hlj
              obtain ⟨ad2, hA2, cc⟩ := (HRT.out.below (w' := wr) (by rw [HZ1.out]; exact HB.out)).at_ hlj
              subst hA2
              obtain ⟨c0, c1⟩ := two_stc cc
              have hto := HWE.out.to x _ (List.getElem_mem hjl)
              have hww := HWE.out.w x _ (List.getElem_mem hjl)
              have hskip := HD.out.skip hjl
              have hrelax := HD.out.relax HWE.out hn hjl
              change wr.cell? (ad2.add (j * 2)) = some (.int .i64 (((rowS O x)[j]).to : Int)) at c0
              change wr.cell? ⟨(ad2.add (j * 2)).block, (ad2.add (j * 2)).off + 1, none⟩ = some (.int .u64 ((rowS O x)[j]).w) at c1
              generalize (rowS O x)[j] = e at *
              obtain ⟨t0, t1⟩ := e
              dsimp only at c0 c1 hto hww hskip hrelax
              unfold topI at hww
              rw [HDX.out] at hskip hrelax
              have HSK := Lib.hid hskip
              have HRX := Lib.hid hrelax
              have ht0 := hto.2
              have hb2 := (HD.out.two hn t0)
              clear cc hskip hrelax hto
              go_upto_region 18 with fail
              have hb8 := (Below.refl wr.heap.size wr).alloc (Nat.le_refl _) (.cells #[.int .i64 (t0 : Int), .int .u64 t1] 127)
              have hc8 := cells_new wr #[.int .i64 (t0 : Int), .int .u64 t1] 127
              have HH8 := Lib.hid (HH.out.below hb8)
              have HC8 := Lib.hid (HC.out.below hb8)
              have HB8 := Lib.hid (HB.out.trans (hb8.mono (Nat.le_of_lt HC.out.lt)))
              have HZ8 := Lib.hid (Nat.le_trans HZ.out hb8.size)
              have hlbB : B ≤ wr.heap.size := HZ.out
              clear hb8 c0 c1 HH HC HB HZ
              generalize wr.alloc (.cells #[.int .i64 (t0 : Int), .int .u64 t1] 127) = w8 at *
              generalize wr.heap.size = lb at *
              have HK8 := Lib.hid hc8
              have k0 : w8.cell? ⟨lb, 0, none⟩ = some (.int .i64 (t0 : Int)) := hc8.cell 0
              have k1 : w8.cell? ⟨lb, 1, none⟩ = some (.int .u64 t1) := hc8.cell 1
              have cd := HC8.out.cell t0
              rw [nA_at (by rw [HD.out.dl]; exact ht0)] at cd
              have hsum : IntKind.u64.wrap (b + t1) = b + t1 := by rw [IntKind.wrap_u64]; omega
              have i3 : (0 : Int) ≤ (t0 : Int) := by omega
              have i4 : (t0 : Int) < (n : Int) := by omega
              have hw1 : IntKind.i64.wrap ((j : Int) + 1) = (j : Int) + 1 := by rw [IntKind.wrap_i64]; omega
              clear hc8
              by_cases hkt : k ≤ t0
              · have g1 : decide (r < (t0 : Int)) = true := decide_eq_true (by omega)
                by_cases hlt : b + t1 < dg d t0
                · obtain ⟨hrx, hpx⟩ := HRX.out hkt HBD.out.2 hlt
                  have HRD := Lib.hid hrx
                  have HPX : Hid (pot (d.set t0 (b + t1)) (pushO q t0 (b + t1)) ≤ gk - 1) := Lib.hid (Nat.le_trans hpx HPT.out)
                  have HDX2 : Hid (dg (d.set t0 (b + t1)) x = b) := Lib.hid (by rw [dg_relax (w := t1) (by rw [HD.out.dl]; exact ht0) (by rw [HDX.out]) hww.1 hlt]; exact HDX.out)
                  have g2 : decide (b + t1 < dg d t0) = true := decide_eq_true hlt
                  clear hrx hpx
                  generalize dg d t0 = dt at *
                  go_upto_region 19 with (go_quiet (fail))
                  have hdr := Drawn.below (w := w8) (w' := w8.drewN nq) ⟨nq, rfl⟩ w8.heap.size
                  have HH9 := Lib.hid (HH8.out.below hdr)
                  have HC9 := Lib.hid (HC8.out.below hdr)
                  have HB9 := Lib.hid (HB8.out.trans (hdr.mono (Nat.le_of_lt HC8.out.lt)))
                  have HK9 := Lib.hid (HK8.out.below hdr)
                  have HZ9 : Hid (B ≤ (w8.drewN nq).heap.size) := Lib.hid HZ8.out
                  clear hdr k0 k1 cd HH8 HC8 HB8 HK8 HZ8
                  generalize w8.drewN nq = w9 at *
                  have k0 : w9.cell? ⟨lb, 0, none⟩ = some (.int .i64 (t0 : Int)) := HK9.out.cell 0
                  have k1 : w9.cell? ⟨lb, 1, none⟩ = some (.int .u64 t1) := HK9.out.cell 1
                  have cd := HC9.out.cell t0
                  rw [nA_at (by rw [HD.out.dl]; exact ht0)] at cd
                  have ff := HC9.out.frozen t0
                  have hset := HC9.out.set_ t0 (.int .u64 (b + t1))
                  rw [nA_set] at hset
                  have hk := (Kept.refl (fun q => q = D) w9).set_ (p := ⟨D, t0, none⟩) (.inl rfl) (.int .u64 (b + t1))
                  have HHA := Lib.hid (HH9.out.kept hk (fun q h hs => by have h1 := (HH9.out.lt q h).1; have hs : q = D := hs; omega))
                  have HCA := Lib.hid hset
                  have HBA := Lib.hid (HB9.out.setCell (p := ⟨D, t0, none⟩) (Nat.le_refl _) (.int .u64 (b + t1)))
                  have HKA := Lib.hid (hk.cells HK9.out (show ¬ lb = D by omega))
                  have HZA : Hid (B ≤ (w9.setCell ⟨D, t0, none⟩ (.int .u64 (b + t1))).heap.size) := Lib.hid (Nat.le_trans HZ9.out hk.size)
                  clear hset hk
                  go_upto_region 20 with fail
                  clear k0 k1 cd ff HH9 HC9 HB9 HK9 HZ9
                  generalize w9.setCell ⟨D, t0, none⟩ (.int .u64 (b + t1)) = wA at *
                  have k0 : wA.cell? ⟨lb, 0, none⟩ = some (.int .i64 (t0 : Int)) := HKA.out.cell 0
                  have cd := HCA.out.cell t0
                  rw [nA_at (by rw [List.length_set, HD.out.dl]; exact ht0), dg_set (by rw [HD.out.dl]; exact ht0), if_pos rfl] at cd
                  have hwt : IntKind.u32.wrap (t0 : Int) = (t0 : Int) := by rw [IntKind.wrap_u32]; omega
                  refine wp_region_still_tail 9 (by kernel_rfl) (by kernel_rfl) ?_
                  simp only [List.take_succ_cons, List.take_zero, List.drop_succ_cons, List.drop_zero]
                  refine still_of_quiet6 _ _ ?_
                  repeat (go_big_quiet_step (fail))
                  refine wpQuiet_nil ?_
                  change wpList _ _ _ _ _ wA.drew
                  have hdr : Below wA.heap.size wA wA.drew := Below.drew (Below.refl _ _)
                  have HHB := Lib.hid (HHA.out.below hdr)
                  have HCB := Lib.hid (HCA.out.below hdr)
                  have HBB := Lib.hid (HBA.out.trans (hdr.mono (Nat.le_of_lt HCA.out.lt)))
                  have HZB : Hid (B ≤ wA.drew.heap.size) := Lib.hid HZA.out
                  clear hdr k0 cd HHA HCA HBA HKA HZA
                  generalize wA.drew = wB at *
                  go_wp2_with fail
                  refine (Push_any HHB.out t0 (by omega) (b + t1) HZB.out).mono ?_
                  rintro e wC ⟨rfl, vC, hhC, hkC, hfC⟩
                  have HCC := Lib.hid (hkC.cells HCB.out (fun h => by have := (HHB.out.lt _ h).1; omega))
                  have HBC : Hid (Below D w1 wC) := Lib.hid (hkC.below HBB.out (fun q h => by have := (HHB.out.lt q h).1; omega) (by have := HZB.out; omega))
                  have HZC : Hid (B ≤ wC.heap.size) := Lib.hid (Nat.le_trans HZB.out hkC.size)
                  have HHC := Lib.hid hhC
                  clear hhC hkC hfC
                  go_wp2_with fail
                  go_roundw
                  case rel => exact ⟨j + 1, _, _, vC, by omega, by go_num, HRD.out, HDX2.out, HPX.out, HHC.out, HCC.out, HBC.out, HZC.out⟩
                  case measure => simp [intOf]; omega
                · have HSK2 := Lib.hid (HSK.out (fun _ => by omega))
                  have g2 : decide (b + t1 < dg d t0) = false := decide_eq_false hlt
                  generalize dg d t0 = dt at *
                  go_wp2_with (go_quiet (fail))
                  have hdr := Drawn.below (w := w8) (w' := w8.drewN nq) ⟨nq, rfl⟩ w8.heap.size
                  exact ⟨⟨j + 1, d, q, v, by omega, by go_num, HSK2.out, HDX.out, HPT.out, HH8.out.below hdr, HC8.out.below hdr, HB8.out.trans (hdr.mono (Nat.le_of_lt HC8.out.lt)), HZ8.out⟩, by simp [intOf]; omega⟩
              · have g1 : decide (r < (t0 : Int)) = false := decide_eq_false (by omega)
                have HSK2 := Lib.hid (HSK.out (fun h => absurd h hkt))
                go_wp2_with (go_quiet (fail))
                have hdr := Drawn.below (w := w8) (w' := w8.drewN nq) ⟨nq, rfl⟩ w8.heap.size
                exact ⟨⟨j + 1, d, q, v, by omega, by go_num, HSK2.out, HDX.out, HPT.out, HH8.out.below hdr, HC8.out.below hdr, HB8.out.trans (hdr.mono (Nat.le_of_lt HC8.out.lt)), HZ8.out⟩, by simp [intOf]; omega⟩
            · obtain rfl : sl = j := by omega
              have HJ : Hid ((rowS O x).length ≤ sl) := Lib.hid (by rw [HSL.out]; exact Nat.le_refl _)
              go_wp2_with fail
              go_roundg (gk - 1)
              case measure => have := HPP.out.2; omega
              case rel => exact ⟨d, q, x, sl, v, HD.out, HJ.out, HPT.out, HH.out, HC.out, HB.out, HZ.out⟩
end Go.Proofs.YtkcnnamghpdplaaDoor

/- The document's distances. -/
import Derived.Test.YtkcnnamghpdplaaDoorClA
import Derived.Test.YtkcnnamghpdplaaDoorClM2
import Derived.BigRegion
import Derived.RegionTactic
import Derived.BigQuiet
set_option linter.unusedSimpArgs false
set_option linter.unusedVariables false
namespace Go.Proofs.YtkcnnamghpdplaaDoor
open Go.RowKit

def nA (d : List Int) : Array Value := (d.map (Value.int .u64)).toArray
theorem nA_at {d : List Int} {i : Nat} (hi : i < d.length) : (nA d)[i]? = some (.int .u64 (dg d i)) := by
  unfold nA dg
  rw [List.getElem?_toArray, List.getElem?_map, List.getD_eq_getElem?_getD, List.getElem?_eq_getElem hi]
  rfl
theorem nA_set (d : List Int) (i : Nat) (v : Int) : (nA d).setIfInBounds i (.int .u64 v) = nA (d.set i v) := by
  unfold nA
  rw [List.setIfInBounds_toArray, List.map_set]
theorem info_u64 : (Tryd.prog.info? 46).map (fun i => (i.zero, i.size, i.bytes)) = some (some (.int .u64 0), 1, 8) := by kernel_rfl
theorem made_nA (n : Nat) : madeCells #[Value.int .u64 0] n = nA (List.replicate n 0) := by
  apply Array.toList_inj.1
  rw [toList_madeCells_one]
  simp [nA]
theorem make_u64 (n : Nat) (hn : n ≤ 65536) (W : World) : (Instr.makeSlice 45 (.int .i64 (n : Int)) (.int .i64 (n : Int))).run Tryd.prog W = .ok (.slice (some ⟨W.heap.size, 0, none⟩) n n) (W.alloc (.cells (nA (List.replicate n 0)) 46)) := by
  obtain ⟨i, hi, hz0, hz1, hz2⟩ := info_parts info_u64
  have h := run_make (P := Tryd.prog) W 45 46 i _ Tryd.underlying45 hi hz0 .i64 .i64 (n : Int) (n : Int) (by omega) (by omega) (by rw [hz2]; omega) (by omega)
  rw [h, hz1, Int.toNat_natCast, Nat.mul_one]
  exact congrArg (fun c => Result.ok (Value.slice (some ⟨W.heap.size, 0, none⟩) n n) (W.alloc (.cells c 46))) (made_nA n)
def fillL (n k : Nat) : List Int := List.replicate k farI ++ List.replicate (n - k) 0
theorem fillL_set {n k : Nat} (hk : k < n) : (fillL n k).set k farI = fillL n (k + 1) := by
  unfold fillL
  rw [List.set_append_right _ _ (by simp), List.length_replicate, Nat.sub_self, show n - k = (n - (k + 1)) + 1 by omega, List.replicate_succ, List.set_cons_zero, List.replicate_succ', List.append_assoc]
  rfl
theorem fillL_len {n k : Nat} (hk : k ≤ n) : (fillL n k).length = n := by simp [fillL]; omega
theorem fillL_all (n : Nat) : fillL n n = List.replicate n farI := by simp [fillL]
def DistsIs (n : Nat) (S : Nat → List Lk) (s : Nat) (W : World) (e : Ending) (w' : World) : Prop :=
  ∃ g d, e = .returned (.slice (some ⟨g, 0, none⟩) n n) ∧ Cells w' g (nA d) 46 ∧ Dst n S s d n 0 ∧ Below W.heap.size W w' ∧ W.heap.size ≤ g
set_option maxRecDepth 100000 in
set_option maxHeartbeats 4000000 in
theorem Dists_any (k : HV) (h : HierT) (s : Nat) (W : World) (hS : Side h.node.length h.uf h.up) (hs : s < h.node.length) (hp : RdH W k h) (hm : Small k h) (hk : ∀ l ∈ h.up, InK l) :
    Calls Tryd.prog 50 #[hierV k h, .int .i64 s] W (DistsIs h.node.length (seg h.uf h.up) s W) := by
  have hn := hS.n_le
  have hfl := hS.fl
  have HS := Lib.hid hS
  have HF := Lib.hid hp.r1
  have HL := Lib.hid hp.r2
  have HK := Lib.hid hk
  have ht1 := hm.t1
  have ht2 := hm.t2
  have hl0 := hS.l_le
  clear hS hp hm hk
  unfold hierV
  generalize h.node.length = n at *
  generalize h.dn.length = n4 at *
  generalize h.df.length = n3 at *
  generalize h.uf = f at *
  generalize h.up = ls at *
  rw [hfl] at HF ht1 ⊢
  generalize hll : ls.length = nl at *
  have HLL := Lib.hid hll
  have hmk := make_u64 n hn
  clear hll hfl
  go_enter Tryd.func50, Tryd.ntmps50
  go_wp2_with fail
  generalize hW1 : W.alloc (.cells #[.slice k.a0 n k.c0, .slice k.a1 (n + 1) k.c1, .slice k.a2 nl k.c2, .slice k.a3 n3 k.c3, .slice k.a4 n4 k.c4] 25) = W1
  have hb1 : Below W.heap.size W W1 := by rw [← hW1]; exact (Below.refl _ _).alloc (Nat.le_refl _) _
  have hc1 : Cells W1 W.heap.size #[.slice k.a0 n k.c0, .slice k.a1 (n + 1) k.c1, .slice k.a2 nl k.c2, .slice k.a3 n3 k.c3, .slice k.a4 n4 k.c4] 25 := by rw [← hW1]; exact cells_new _ _ _
  have hsz : W1.heap.size = W.heap.size + 1 := by rw [← hW1, size_alloc]
  have HB1 := Lib.hid hb1
  have HBX := Lib.hid hc1
  have HF1 := Lib.hid (HF.out.below hb1)
  have HL1 := Lib.hid (HL.out.below hb1)
  clear hb1 hc1 hW1 HF HL
  go_wp2_with fail
  have hc2 : Cells (W1.alloc (.cells (nA (List.replicate n 0)) 46)) (W.heap.size + 1) (nA (fillL n 0)) 46 := by
    rw [← hsz]; exact cells_new _ _ _
  have hb2 : Below W1.heap.size W1 (W1.alloc (.cells (nA (List.replicate n 0)) 46)) := (Below.refl _ _).alloc (Nat.le_refl _) _
  generalize (W1.alloc (.cells (nA (List.replicate n 0)) 46)) = W2 at *
  generalize hG : W.heap.size + 1 = G at *
  have HC2 := Lib.hid hc2
  have HB2 := Lib.hid hb2
  have hGW : W.heap.size ≤ G := by omega
  clear hc2 hb2 hmk
  go_loopw [16] (fun iv wr => ∃ (j : Nat), j ≤ n ∧ iv = .int .i64 j ∧ Cells wr G (nA (fillL n j)) 46 ∧ Below W1.heap.size W1 wr) (fun iv _ => n - (intOf iv).toNat)
  case atStart => exact ⟨0, by omega, rfl, HC2.out, HB2.out⟩
  case round =>
    obtain ⟨j, hj, rfl, hc, hb⟩ := hrel
    have HC := Lib.hid hc
    have HB := Lib.hid hb
    clear HC2 HB2 hc hb
    by_cases hlt : j < n
    · have g0 : decide ((j : Int) < (n : Int)) = true := decide_eq_true (by omega)
      have cc := HC.out.cell j
      rw [nA_at (by rw [fillL_len hj]; exact hlt)] at cc
      have ff := HC.out.frozen j
      go_wp2_with fail
      go_roundw
      case rel =>
        refine ⟨j + 1, by omega, by go_num, ?_, HB.out.setCell (show W1.heap.size ≤ G by omega) _⟩
        have e := HC.out.set_ j (.int .u64 farI)
        rwa [nA_set, fillL_set hlt] at e
      case measure => simp [intOf]; omega
    · obtain rfl : n = j := by omega
      rw [fillL_all] at HC
      have cc := HC.out.cell s
      rw [nA_at (by simpa using hs)] at cc
      have ff := HC.out.frozen s
      go_wp2_with fail
      have hc2 : Cells (wr.setCell ⟨G, s, none⟩ (.int .u64 0)) G (nA ((List.replicate n farI).set s 0)) 46 := by
        have e := HC.out.set_ s (.int .u64 0)
        rwa [nA_set] at e
      have hb2 : Below W1.heap.size W1 (wr.setCell ⟨G, s, none⟩ (.int .u64 0)) := HB.out.setCell (show W1.heap.size ≤ G by omega) _
      generalize wr.setCell ⟨G, s, none⟩ (.int .u64 0) = W3 at *
      have HC2 := Lib.hid hc2
      have HB2 := Lib.hid hb2
      clear hc2 hb2 cc ff HC HB
      go_loopw [28] (fun iv wi => ∃ (r : Nat) (d : List Int), r ≤ n ∧ iv = .int .i64 r ∧ Dst n (seg f ls) s d r 0 ∧ Cells wi G (nA d) 46 ∧ Below W1.heap.size W1 wi) (fun iv _ => n - (intOf iv).toNat)
      case atStart => exact ⟨0, _, by omega, rfl, Dst.start hs, HC2.out, HB2.out⟩
      case round =>
        obtain ⟨r, d, hr, rfl, hd, hc, hb⟩ := hrel
        have HD := Lib.hid hd
        have HC := Lib.hid hc
        have HB := Lib.hid hb
        clear HC2 HB2 hc hb hd
        by_cases hlt : r < n
        · have g0 : decide ((r : Int) < (n : Int)) = true := decide_eq_true (by omega)
          have cc := HC.out.cell r
          rw [nA_at (by rw [HD.out.len]; exact hlt)] at cc
          by_cases hfar : dg d r = farI
          · have hb0 : (dg d r == 18446744073709551615) = true := by rw [hfar]; rfl
            go_wp2_with fail
            go_roundw
            case rel => exact ⟨r + 1, d, by omega, by go_num, HD.out.next (.inr hfar), HC.out, HB.out⟩
            case measure => simp [intOf]; omega
          · have hb0 : (dg d r == 18446744073709551615) = false := by
              rw [beq_eq_false_iff_ne]; exact hfar

            have b1 : wr.cell? ⟨W.heap.size, 1, none⟩ = some (.slice k.a1 (n + 1) k.c1) := (HBX.out.below HB.out).cell 1
            have b2 : wr.cell? ⟨W.heap.size, 2, none⟩ = some (.slice k.a2 nl k.c2) := (HBX.out.below HB.out).cell 2
            obtain ⟨ad, hA, e0, e1⟩ := two_firsts (HF1.out.below HB.out) hlt
            rw [hA] at b1
            have e1' : wr.cell? ⟨ad.block, ad.off + (r + 1), none⟩ = some (.int .u32 (f.getD (r + 1) 0 : Nat)) := e1
            have hmono := HS.out.mono r hlt
            rw [HLL.out] at hmono
            have hslen := HS.out.len hlt
            have hsl := fun w => slice_links k.a2 nl k.c2 (f.getD r 0) (f.getD (r + 1) 0) hmono.1 (by omega) w
            have hrd := rd_seg HS.out hlt (by rw [HLL.out]; exact HL1.out) (by rw [HLL.out]; exact ht2.1)
            generalize (if k.c2 = f.getD r 0 then k.a2 else k.a2.map (·.add (f.getD r 0 * 4))) = AA at hsl hrd
            generalize f.getD r 0 = lo at *
            generalize f.getD (r + 1) 0 = hi at *
            obtain ⟨sl, hsl2⟩ : ∃ sl, hi - lo = sl := ⟨_, rfl⟩
            rw [hsl2] at hsl hrd hslen
            have HRD := Lib.hid hrd
            have HSL := Lib.hid hslen
            have hlo : lo ≤ 1048576 := by omega
            have hhi : hi ≤ 1048576 := by omega
            have hsle : sl ≤ 1048576 := by omega
            have hlh : lo ≤ hi := hmono.1
            have hhn : hi ≤ nl := hmono.2
            have w1 : IntKind.i64.wrap ((r : Int) + 1) = (r : Int) + 1 := by rw [IntKind.wrap_i64]; omega
            have w2' : (0 : Int) ≤ (r : Int) + 1 := by omega
            have w3' : ((r : Int) + 1).toNat = r + 1 := by omega
            have hcap : n + 1 ≤ k.c1 := ht1.1
            have i1 : (0 : Int) ≤ (r : Int) := by omega
            have i2 : (r : Int) < (n : Int) + 1 := by omega
            have i3 : (r : Int) + 1 < (n : Int) + 1 := by omega
            have i4 : (r : Int) < ((n + 1 : Nat) : Int) := by omega
            have i5 : (r : Int) + 1 < ((n + 1 : Nat) : Int) := by omega
            have i6 : (0 : Int) ≤ (lo : Int) := by omega
            have i7 : (lo : Int) ≤ (hi : Int) := by omega
            have i8 : (hi : Int) ≤ (k.c2 : Int) := by omega
            clear hmono hrd hslen hsl2 hA
            go_wp2_with fail
            go_quiet (fail)
            have hdr : Drawn wr (wr.drewN nq) := ⟨nq, rfl⟩
            generalize wr.drewN nq = w7 at hdr ⊢
            have HC7 : Hid (Cells w7 G (nA d) 46) := Lib.hid (HC.out.below (hdr.below _))
            have HB7 : Hid (Below W1.heap.size W1 w7) := Lib.hid (HB.out.trans (hdr.below _))
            clear cc hdr HC HB b1 b2 e0 e1 e1' hsl w1 w2' w3' i1 i2 i3 i4 i5 i6 i7 i8
            go_wp2_with fail
            go_loopw [51] (fun iv wi => ∃ (j : Nat) (d : List Int), j ≤ sl ∧ iv = .int .i64 j ∧ Dst n (seg f ls) s d r j ∧ dg d r ≠ farI ∧ Cells wi G (nA d) 46 ∧ Below W1.heap.size W1 wi) (fun iv _ => sl - (intOf iv).toNat)
            case atStart => exact ⟨0, d, by omega, rfl, HD.out, hfar, HC7.out, HB7.out⟩
            case round =>
              clear hfar hb0 HD HC7 HB7
              obtain ⟨j, dd, hj, rfl, hd, hfar, hc, hb⟩ := hrel
              have HD := Lib.hid hd
              have HC := Lib.hid hc
              have HB := Lib.hid hb
              clear hd hc hb
              by_cases hlj : j < sl
              · have g0 : decide ((j : Int) < (sl : Int)) = true := decide_eq_true (by omega)
                have hks : j < (seg f ls r).length := by have := HSL.out; omega
                obtain ⟨ad2, hA2, cc⟩ := (HRD.out.below HB.out).at_ hlj
                subst hA2
                obtain ⟨c0, c1', c2', c3'⟩ := four_cells cc
                have hmem : (seg f ls r)[j] ∈ ls := List.mem_of_mem_drop (List.mem_of_mem_take (List.getElem_mem hks))
                have hik := HK.out _ hmem
                have hww := HS.out.ups.w r _ hlt (List.getElem_mem hks)
                have hup := HS.out.ups.up r _ hlt (List.getElem_mem hks)
                have hstep := HD.out.step HS.out.ups hn hlt hks hfar
                have hsafe := HD.out.safe hn
                generalize (seg f ls r)[j] = L at *
                have hLto := hik.to
                unfold In32 at hLto
                unfold topI at hww
                obtain ⟨t0, t1, t2, t3⟩ := L
                dsimp only at c0 c1' c2' c3' hww hup hstep hLto hsafe
                have HSTEP := Lib.hid hstep
                have ft0 := hsafe t0
                have fr0 : 0 ≤ dg dd r ∧ dg dd r ≤ 9223231299366420480 := (hsafe r).resolve_left hfar
                have cr := HC.out.cell r
                rw [nA_at (by rw [HD.out.len]; exact hlt)] at cr
                have ct := HC.out.cell t0
                rw [nA_at (by rw [HD.out.len]; exact hup.2)] at ct
                have ff := HC.out.frozen t0
                have HFAR := Lib.hid hfar
                have hCset := HC.out.set_ t0 (.int .u64 (min (dg dd t0) (dg dd r + t1)))
                rw [nA_set] at hCset
                clear hsafe hstep hmem hik cc hfar
                generalize hgr : dg dd r = gr at *
                generalize hgt : dg dd t0 = gt at *
                have hsum : IntKind.u64.wrap (gr + t1) = gr + t1 := by rw [IntKind.wrap_u64]; omega
                go_wp2_with fail
                have hba := (Below.refl wr.heap.size wr).alloc (Nat.le_refl _) (.cells #[.int .u32 (t0 : Int), .int .u64 t1, .int .u32 (t2 : Int), .int .u32 (t3 : Int)] 52)
                have hca := cells_new wr #[.int .u32 (t0 : Int), .int .u64 t1, .int .u32 (t2 : Int), .int .u32 (t3 : Int)] 52
                generalize wr.alloc (.cells #[.int .u32 (t0 : Int), .int .u64 t1, .int .u32 (t2 : Int), .int .u32 (t3 : Int)] 52) = w8 at *
                have k0 : w8.cell? ⟨wr.heap.size, 0, none⟩ = some (.int .u32 (t0 : Int)) := hca.cell 0
                have k1 : w8.cell? ⟨wr.heap.size, 1, none⟩ = some (.int .u64 t1) := hca.cell 1
                have HC8 := Lib.hid (HC.out.below hba)
                have cr8 := HC8.out.cell r
                rw [nA_at (by rw [HD.out.len]; exact hlt), hgr] at cr8
                have ct8 := HC8.out.cell t0
                rw [nA_at (by rw [HD.out.len]; exact hup.2), hgt] at ct8
                have ff8 := HC8.out.frozen t0
                have HB8 := Lib.hid (HB.out.trans (hba.mono HB.out.size))
                have hup2 := hup.2
                generalize wr.heap.size = lb at *
                clear hba hca cr ct ff hCset c0 c1' c2' c3'
                go_wp2_with go_region
                have hmin : (if gr + t1 < gt then gr + t1 else gt) = min gt (gr + t1) := by rw [Int.min_def]; split <;> split <;> omega
                rw [hmin]
                have hcs : Cells (w8.setCell ⟨G, t0, none⟩ (.int .u64 (min gt (gr + t1)))) G (nA (dd.set t0 (min gt (gr + t1)))) 46 := by
                  have e := HC8.out.set_ t0 (.int .u64 (min gt (gr + t1)))
                  rwa [nA_set] at e
                refine ⟨⟨j + 1, _, by omega, by go_num, HSTEP.out, ?_, hcs.below (Below.drew (Below.refl _ _)), Below.drew (HB8.out.setCell (show W1.heap.size ≤ G by omega) _)⟩, by simp [intOf]; omega⟩
                rw [dg_set (by rw [HD.out.len]; exact hup2), if_neg (by omega), hgr]
                exact HFAR.out
              · obtain rfl : sl = j := by omega
                go_wp2_with fail
                go_roundw
                case rel => exact ⟨r + 1, dd, by omega, by go_num, HD.out.next (.inl (by have := HSL.out; omega)), HC.out, HB.out⟩
                case measure => simp [intOf]; omega
        · obtain rfl : n = r := by omega
          go_wp2_with fail
          go_ret
          exact ⟨G, d, rfl, HC.out, HD.out, HB1.out.trans (HB.out.mono (by omega)), hGW⟩
end Go.Proofs.YtkcnnamghpdplaaDoor

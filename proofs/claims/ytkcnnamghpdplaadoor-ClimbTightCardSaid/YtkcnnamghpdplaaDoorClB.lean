/- Several texts in one (squeeze.py): Cl8 Cl9 Cl10 Cl11. -/
import Derived.Test.YtkcnnamghpdplaaDoorCl7
import Derived.Deep.RegionHeld3
/- The document's list of what is reached. -/
set_option linter.unusedSimpArgs false
set_option linter.unusedVariables false
namespace Go.Proofs.YtkcnnamghpdplaaDoor
open Go.RowKit

theorem info_seenr : (Tryd.prog.info? 54).map (fun i => (i.zero, i.size, i.bytes)) = some (some (.agg #[.int .i64 0, .int .u64 0, .bool false]), 3, 24) := by kernel_rfl
abbrev OwnSr (w : World) (base : Nat) (v : Value) (l : List SeenT) : Prop := Own 54 3 encSn w base v l
theorem rd_Sr {w : World} {k : Nat} {x : SeenT} (hk : w.heap.size = k) : Rd 3 encSn (w.alloc (.cells #[.int .i64 (x.rank : Int), .int .u64 x.dist, .bool x.st] 54)) (some ⟨k, 0, none⟩) 1 [x] := by
  subst hk
  exact rd_new (enc := encSn) encSn_len w _ [x]
theorem overB_far {d : List Int} {L : Lk} (h : dg d L.to = farI) (x : Int) : overB (dOf d) x L = false := by
  unfold overB dOf
  rw [if_pos h]
theorem overB_near {d : List Int} {L : Lk} (h : dg d L.to ≠ farI) (x : Int) : overB (dOf d) x L = decide (dg d L.to + L.w < x) := by
  unfold overB dOf
  rw [if_neg h]
theorem dOf_far {d : List Int} {r : Nat} (h : dg d r = farI) : dOf d r = none := by unfold dOf; rw [if_pos h]
theorem dOf_near {d : List Int} {r : Nat} (h : dg d r ≠ farI) : dOf d r = some (dg d r) := by unfold dOf; rw [if_neg h]
def UpIs (n : Nat) (S S' : Nat → List Lk) (s : Nat) (W : World) (e : Ending) (w' : World) : Prop :=
  ∃ D A c, Sol n S s D ∧ e = .returned (.slice A (seenTo D S' n).length c) ∧ OwnSr w' W.heap.size (.slice A (seenTo D S' n).length c) (seenTo D S' n) ∧ Below W.heap.size W w'
set_option maxRecDepth 100000 in
set_option maxHeartbeats 4000000 in
theorem UpDoc_any (k : HV) (h : HierT) (s : Nat) (W : World) (hS : Side h.node.length h.uf h.up) (hS' : Side h.node.length h.df h.dn) (hs : s < h.node.length) (hp : RdH W k h) (hm : Small k h) (hk : ∀ l ∈ h.up, InK l) (hkb : ∀ l ∈ h.dn, InK l) :
    Calls Tryd.prog 32 #[hierV k h, .int .i64 s] W (UpIs h.node.length (seg h.uf h.up) (seg h.df h.dn) s W) := by
  have hn := hS.n_le
  have hfl := hS.fl
  have hfl' := hS'.fl
  have hups := hS.ups
  have HD0 : Hid (∀ w, Below W.heap.size W w → Calls Tryd.prog 50 #[hierV k h, .int .i64 s] w (DistsIs h.node.length (seg h.uf h.up) s w)) := Lib.hid fun w hb => Dists_any k h s w hS hs (hp.below hb) hm hk
  have HS := Lib.hid hS'
  have HF := Lib.hid hp.r3
  have HL := Lib.hid hp.r4
  have HK := Lib.hid hkb
  have ht1 := hm.t3
  have ht2 := hm.t4
  have hl0 := hS'.l_le
  clear hS hS' hp hm hk hkb
  unfold hierV at HD0 ⊢
  unfold DistsIs at HD0
  have HUPS := Lib.hid hups
  generalize seg h.uf h.up = U at *
  generalize h.node.length = n at *
  generalize h.up.length = n2 at *
  generalize h.uf.length = n1 at *
  generalize h.df = f at *
  generalize h.dn = ls at *
  rw [hfl'] at HF ht1 HD0 ⊢
  generalize hll : ls.length = nl at *
  have HLL := Lib.hid hll
  clear hll hfl hfl' hups
  go_enter Tryd.func32, Tryd.ntmps32
  go_wp2_with fail
  generalize hW1 : W.alloc (.cells #[.slice k.a0 n k.c0, .slice k.a1 n1 k.c1, .slice k.a2 n2 k.c2, .slice k.a3 (n + 1) k.c3, .slice k.a4 nl k.c4] 25) = W1
  have hb1 : Below W.heap.size W W1 := by rw [← hW1]; exact (Below.refl _ _).alloc (Nat.le_refl _) _
  have hc1 : Cells W1 W.heap.size #[.slice k.a0 n k.c0, .slice k.a1 n1 k.c1, .slice k.a2 n2 k.c2, .slice k.a3 (n + 1) k.c3, .slice k.a4 nl k.c4] 25 := by rw [← hW1]; exact cells_new _ _ _
  have HB1 := Lib.hid hb1
  have HBX := Lib.hid hc1
  have HF1 := Lib.hid (HF.out.below hb1)
  have HL1 := Lib.hid (HL.out.below hb1)
  clear hb1 hc1 hW1 HF HL
  refine (HD0.out W1 HB1.out).mono ?_
  rintro e w2 ⟨g, d, rfl, hc2, hd, hb2, hg⟩
  have HC2 := Lib.hid hc2
  have HD := Lib.hid hd
  have HX2 := Lib.hid hb2
  have HG : Hid (W1.heap.size ≤ g) := Lib.hid hg
  have HZ2 : Hid (W.heap.size ≤ w2.heap.size) := Lib.hid (Nat.le_trans HB1.out.size hb2.size)
  clear hc2 hd hb2 hg HD0
  go_wp2_with fail
  go_loopw [6, 16] (fun sv iv wr => ∃ r : Nat, r ≤ n ∧ iv = .int .i64 r ∧ OwnSr wr w2.heap.size sv (seenTo (dOf d) (seg f ls) r) ∧ Below w2.heap.size w2 wr) (fun _ iv _ => n - (intOf iv).toNat)
  case atStart => exact ⟨0, by omega, rfl, by unfold seenTo; exact Own.nil _ _ _ _ _, Below.refl _ _⟩
  case round =>
    obtain ⟨r, hr, rfl, ho, hb⟩ := hrel
    have HO := Lib.hid ho
    have HB := Lib.hid hb
    clear ho hb
    have HXR : Hid (Below W1.heap.size W1 wr) := Lib.hid (HX2.out.trans (HB.out.mono HX2.out.size))
    by_cases hlt : r < n
    · have g0 : decide ((r : Int) < (n : Int)) = true := decide_eq_true (by omega)
      have HC := Lib.hid (HC2.out.below HB.out)
      have cr := HC.out.cell r
      rw [nA_at (by rw [HD.out.len]; exact hlt)] at cr
      have hsu := seenTo_succ (dOf d) (seg f ls) r
      have HSU := Lib.hid hsu
      clear hsu
      by_cases hfar : dg d r = farI
      · have hb0 : (dg d r == 18446744073709551615) = true := by rw [hfar]; rfl
        have HSU2 : Hid (seenTo (dOf d) (seg f ls) (r + 1) = seenTo (dOf d) (seg f ls) r) := Lib.hid (by rw [HSU.out, dOf_far hfar, List.append_nil])
        go_wp2_with fail
        go_roundw
        case rel => exact ⟨r + 1, by omega, by go_num, by rw [HSU2.out]; exact HO.out, HB.out⟩
        case measure => simp [intOf]; omega
      · have hb0 : (dg d r == 18446744073709551615) = false := by
          rw [beq_eq_false_iff_ne]; exact hfar
        have HSU2 : Hid (seenTo (dOf d) (seg f ls) (r + 1) = seenTo (dOf d) (seg f ls) r ++ [⟨r, dg d r, stalledB (seg f ls) (dOf d) r (dg d r)⟩]) := Lib.hid (by rw [HSU.out, dOf_near hfar])
        go_wp2_with fail
        have hsafe := HD.out.safe hn
        have hgr : dg d r = dg d r := rfl
        have hcs := cells_new wr #[.int .i64 (r : Int), .int .u64 (dg d r), .bool false] 54
        have hba := (Below.refl wr.heap.size wr).alloc (Nat.le_refl _) (.cells #[.int .i64 (r : Int), .int .u64 (dg d r), .bool false] 54)
        generalize wr.alloc (.cells #[.int .i64 (r : Int), .int .u64 (dg d r), .bool false] 54) = wa at *
        have hxa : Below W1.heap.size W1 wa := HXR.out.trans (hba.mono HXR.out.size)
        have b1 : wa.cell? ⟨W.heap.size, 3, none⟩ = some (.slice k.a3 (n + 1) k.c3) := (HBX.out.below hxa).cell 3
        have b2 : wa.cell? ⟨W.heap.size, 4, none⟩ = some (.slice k.a4 nl k.c4) := (HBX.out.below hxa).cell 4
        obtain ⟨ad, hA, e0, e1⟩ := two_firsts (HF1.out.below hxa) hlt
        rw [hA] at b1
        have e1' : wa.cell? ⟨ad.block, ad.off + (r + 1), none⟩ = some (.int .u32 (f.getD (r + 1) 0 : Nat)) := e1
        have hmono := HS.out.mono r hlt
        rw [HLL.out] at hmono
        have hslen := HS.out.len hlt
        have hsl := fun w => slice_links k.a4 nl k.c4 (f.getD r 0) (f.getD (r + 1) 0) hmono.1 (by omega) w
        have hrd := rd_seg HS.out hlt (by rw [HLL.out]; exact HL1.out) (by rw [HLL.out]; exact ht2.1)
        generalize (if k.c4 = f.getD r 0 then k.a4 else k.a4.map (·.add (f.getD r 0 * 4))) = AA at hsl hrd
        generalize f.getD r 0 = lo at *
        generalize f.getD (r + 1) 0 = hi at *
        obtain ⟨sl, hsl2⟩ : ∃ sl, hi - lo = sl := ⟨_, rfl⟩
        rw [hsl2] at hsl hrd hslen
        have HRD := Lib.hid hrd
        have HSL := Lib.hid hslen
        have hlo : lo ≤ 1048576 := by omega
        have hhi : hi ≤ 1048576 := by omega
        have hsle : sl ≤ 1048576 := by omega
        have hlh : lo ≤ hi := hmono.1
        have hhn : hi ≤ nl := hmono.2
        have w1 : IntKind.i64.wrap ((r : Int) + 1) = (r : Int) + 1 := by rw [IntKind.wrap_i64]; omega
        have w2' : (0 : Int) ≤ (r : Int) + 1 := by omega
        have w3' : ((r : Int) + 1).toNat = r + 1 := by omega
        have hcap : n + 1 ≤ k.c3 := ht1.1
        have i1 : (0 : Int) ≤ (r : Int) := by omega
        have i2 : (r : Int) < (n : Int) + 1 := by omega
        have i3 : (r : Int) + 1 < (n : Int) + 1 := by omega
        have i4 : (r : Int) < ((n + 1 : Nat) : Int) := by omega
        have i5 : (r : Int) + 1 < ((n + 1 : Nat) : Int) := by omega
        have i6 : (0 : Int) ≤ (lo : Int) := by omega
        have i7 : (lo : Int) ≤ (hi : Int) := by omega
        have i8 : (hi : Int) ≤ (k.c4 : Int) := by omega
        have HCS := Lib.hid hcs
        have HBA := Lib.hid hba
        have HXA := Lib.hid hxa
        have HSAFE := Lib.hid hsafe
        clear hmono hrd hslen hsl2 hA hcs hba hxa hsafe hgr cr
        go_quiet (fail)
        have hdr : Drawn wa (wa.drewN nq) := ⟨nq, rfl⟩
        generalize wa.drewN nq = w7 at hdr ⊢
        have HCS7 : Hid (Cells w7 wr.heap.size #[.int .i64 (r : Int), .int .u64 (dg d r), .bool false] 54) := Lib.hid (HCS.out.below (hdr.below _))
        have HBA7 : Hid (Below wr.heap.size wr w7) := Lib.hid (HBA.out.trans (hdr.below _))
        clear hdr HCS HBA b1 b2 e0 e1 e1' hsl w1 w2' w3' i1 i2 i3 i4 i5 i6 i7 i8
        have HZR : Hid (g < wr.heap.size) := Lib.hid HC.out.lt
        have hsz2 : w2.heap.size ≤ wr.heap.size := HB.out.size
        generalize hwb : wr.heap.size = wb at *
        obtain ⟨wo, rfl⟩ : ∃ x, x = wr := ⟨_, rfl⟩
        have HWB := Lib.hid hwb
        go_wp2_with fail
        go_loopw [45] (fun iv wi => ∃ j : Nat, j ≤ sl ∧ iv = .int .i64 j ∧ Cells wi wb #[.int .i64 (r : Int), .int .u64 (dg d r), .bool (((seg f ls r).take j).any (overB (dOf d) (dg d r)))] 54 ∧ Below wb wo wi) (fun iv _ => sl - (intOf iv).toNat)
        case atStart => exact ⟨0, by omega, rfl, HCS7.out, HBA7.out⟩
        case round =>
          obtain ⟨j, hj, rfl, hcs, hbo⟩ := hrel
          have HCS := Lib.hid hcs
          have HBO := Lib.hid hbo
          have HXI : Hid (Below W1.heap.size W1 wr) := Lib.hid (HXR.out.trans (HBO.out.mono (by have := HXR.out.size; omega)))
          have HB2 : Hid (Below w2.heap.size w2 wr) := Lib.hid (HB.out.trans (HBO.out.mono hsz2))
          clear HCS7 HBA7 hcs hbo
          by_cases hlj : j < sl
          · have g0 : decide ((j : Int) < (sl : Int)) = true := decide_eq_true (by omega)
            have hks : j < (seg f ls r).length := by have := HSL.out; omega
            obtain ⟨ad2, hA2, cc⟩ := (HRD.out.below HXI.out).at_ hlj
            subst hA2
            obtain ⟨c0, c1', c2', c3'⟩ := four_cells cc
            have hmem : (seg f ls r)[j] ∈ ls := List.mem_of_mem_drop (List.mem_of_mem_take (List.getElem_mem hks))
            have hik := HK.out _ hmem
            have hww := HS.out.ups.w r _ hlt (List.getElem_mem hks)
            have hup := HS.out.ups.up r _ hlt (List.getElem_mem hks)
            have htk := List.take_succ_eq_append_getElem hks
            generalize hL : (seg f ls r)[j] = L at *
            have hany : ((seg f ls r).take (j + 1)).any (overB (dOf d) (dg d r)) = (((seg f ls r).take j).any (overB (dOf d) (dg d r)) || overB (dOf d) (dg d r) L) := by rw [htk, List.any_append]; simp
            have hfo := @overB_far d L
            have hne := @overB_near d L
            have hLto := hik.to
            unfold In32 at hLto
            unfold topI at hww
            obtain ⟨t0, t1, t2, t3⟩ := L
            dsimp only at c0 c1' c2' c3' hww hup hLto hany hfo hne
            have HANY := Lib.hid hany
            have hba := (Below.refl wr.heap.size wr).alloc (Nat.le_refl _) (.cells #[.int .u32 (t0 : Int), .int .u64 t1, .int .u32 (t2 : Int), .int .u32 (t3 : Int)] 52)
            have hca := cells_new wr #[.int .u32 (t0 : Int), .int .u64 t1, .int .u32 (t2 : Int), .int .u32 (t3 : Int)] 52
            have ct0 := HSAFE.out t0
            have fr0 : 0 ≤ dg d r ∧ dg d r ≤ 9223231299366420480 := (HSAFE.out r).resolve_left hfar
            have HCx := HC2.out.below HB2.out
            have HCS8 := Lib.hid (HCS.out.below hba)
            have HBO8 : Hid (Below wb wo (wr.alloc (.cells #[.int .u32 (t0 : Int), .int .u64 t1, .int .u32 (t2 : Int), .int .u32 (t3 : Int)] 52))) := Lib.hid (HBO.out.trans (hba.mono (by have := HBO.out.size; omega)))
            have cr8 := (HCx.below hba).cell r
            rw [nA_at (by rw [HD.out.len]; exact hlt)] at cr8
            have ct8 := (HCx.below hba).cell t0
            rw [nA_at (by rw [HD.out.len]; exact hup.2)] at ct8
            have k0 := hca.cell 0
            have k1 := hca.cell 1
            have hup2 := hup.2
            have st8 := HCS8.out.cell 2
            have sf8 := HCS8.out.frozen 2
            generalize hany0 : ((seg f ls r).take j).any (overB (dOf d) (dg d r)) = st at *
            generalize hgr : dg d r = gr at *
            generalize hgt : dg d t0 = gt at *
            have hdrop : overB (dOf d) gr ⟨t0, t1, t2, t3⟩ = overB (dOf d) gr ⟨t0, t1, t2, t3⟩ := rfl
            clear cc hmem hik htk hany hL hba hca HCx hdrop
            have hlb : w2.heap.size ≤ wr.heap.size := HB2.out.size
            go_wp2_with fail
            generalize wr.alloc (.cells #[.int .u32 (t0 : Int), .int .u64 t1, .int .u32 (t2 : Int), .int .u32 (t3 : Int)] 52) = w8 at *
            generalize wr.heap.size = lb at *
            by_cases hgf : gt = farI
            · have HN : Hid (((seg f ls r).take (j + 1)).any (overB (dOf d) gr) = st) := Lib.hid (by rw [HANY.out, hfo hgf, Bool.or_false])
              clear hfo hne ct0
              obtain rfl : gt = 18446744073709551615 := hgf
              go_quiet (fail)
              have hdr : Drawn w8 (w8.drewN nq) := ⟨nq, rfl⟩
              generalize w8.drewN nq = w9 at hdr ⊢
              have HCS9 := Lib.hid (HCS8.out.below (hdr.below _))
              have HBO9 := Lib.hid (HBO8.out.trans ((hdr.below w8.heap.size).mono (by have := HBO8.out.size; omega)))
              clear hdr
              go_wp2_with fail
              go_roundw
              case rel => exact ⟨j + 1, by omega, by go_num, by rw [HN.out]; exact HCS9.out, HBO9.out⟩
              case measure => simp [intOf]; omega
            · have g1 : (gt == 18446744073709551615) = false := beq_eq_false_iff_ne.2 hgf
              have hgb := ct0.resolve_left hgf
              have hgf2 : gt ≠ 18446744073709551615 := hgf
              have hsum : IntKind.u64.wrap (gt + t1) = gt + t1 := by rw [IntKind.wrap_u64]; omega
              by_cases hlt2 : gt + t1 < gr
              · have g2 : decide (gt + t1 < gr) = true := decide_eq_true hlt2
                have HN : Hid (((seg f ls r).take (j + 1)).any (overB (dOf d) gr) = true) := Lib.hid (by rw [HANY.out, hne hgf, g2, Bool.or_true])
                clear hfo hne ct0 hgf
                go_quiet (fail)
                have hdr : Drawn w8 (w8.drewN nq) := ⟨nq, rfl⟩
                generalize w8.drewN nq = w9 at hdr ⊢
                have HCS9 := Lib.hid (HCS8.out.below (hdr.below _))
                have HBO9 := Lib.hid (HBO8.out.trans ((hdr.below w8.heap.size).mono (by have := HBO8.out.size; omega)))
                have st9 : w9.cell? ⟨wb, 2, none⟩ = some (.bool st) := HCS9.out.cell 2
                have sf9 : w9.frozen? ⟨wb, 2, none⟩ = false := HCS9.out.frozen 2
                clear hdr st8 sf8
                have HCSZ : Hid (Cells (w9.setCell ⟨wb, 2, none⟩ (.bool true)) wb #[.int .i64 (r : Int), .int .u64 gr, .bool true] 54) := Lib.hid (HCS9.out.set_ 2 (.bool true))
                have HBOZ : Hid (Below wb wo (w9.setCell ⟨wb, 2, none⟩ (.bool true))) := Lib.hid (HBO9.out.setCell (Nat.le_refl _) _)
                go_wp2_with fail
                go_roundw
                case rel => exact ⟨j + 1, by omega, by go_num, by rw [HN.out]; exact HCSZ.out, HBOZ.out⟩
                case measure => simp [intOf]; omega
              · have g2 : decide (gt + t1 < gr) = false := decide_eq_false hlt2
                have HN : Hid (((seg f ls r).take (j + 1)).any (overB (dOf d) gr) = st) := Lib.hid (by rw [HANY.out, hne hgf, g2, Bool.or_false])
                clear hfo hne ct0 hgf
                go_quiet (fail)
                have hdr : Drawn w8 (w8.drewN nq) := ⟨nq, rfl⟩
                generalize w8.drewN nq = w9 at hdr ⊢
                have HCS9 := Lib.hid (HCS8.out.below (hdr.below _))
                have HBO9 := Lib.hid (HBO8.out.trans ((hdr.below w8.heap.size).mono (by have := HBO8.out.size; omega)))
                clear hdr
                go_wp2_with fail
                go_roundw
                case rel => exact ⟨j + 1, by omega, by go_num, by rw [HN.out]; exact HCS9.out, HBO9.out⟩
                case measure => simp [intOf]; omega
          · obtain rfl : sl = j := by omega
            have hall : (seg f ls r).take sl = seg f ls r := List.take_of_length_le (by have := HSL.out; omega)
            have hst : ((seg f ls r).take sl).any (overB (dOf d) (dg d r)) = stalledB (seg f ls) (dOf d) r (dg d r) := by rw [hall]; rfl
            rw [hst] at HCS
            generalize stalledB (seg f ls) (dOf d) r (dg d r) = st at *
            have q0 : wr.cell? ⟨wb, 0, none⟩ = some (.int .i64 (r : Int)) := HCS.out.cell 0
            have q1 : wr.cell? ⟨wb, 1, none⟩ = some (.int .u64 (dg d r)) := HCS.out.cell 1
            have q2 : wr.cell? ⟨wb, 2, none⟩ = some (.bool st) := HCS.out.cell 2
            have hol : (seenTo (dOf d) (seg f ls) r).length ≤ r := seenTo_len _ _ _
            have HO5 : Hid (OwnSr wr w2.heap.size u6 (seenTo (dOf d) (seg f ls) r)) := Lib.hid (HO.out.below (by rw [hwb]; exact HBO.out))
            have hs5 : w2.heap.size ≤ wr.heap.size := HB2.out.size
            clear hall hst
            go_wp2_with (at_builtin; go_loud (refine wpList_append_rd rfl (.tmp 72) (.tmp 74) 34 rfl 54 (.agg #[.int .i64 0, .int .u64 0, .bool false]) 24 Tryd.underlying34 info_seenr rfl (by omega) (by omega) encSn_len encSn_one w2.heap.size _ (seenTo (dOf d) (seg f ls) r) rfl (HO5.out.below ((Below.refl _ _).alloc (Nat.le_refl _) _)) _ 1 1 [(⟨r, dg d r, st⟩ : SeenT)] rfl (rd_Sr rfl) (by omega) (by simp; omega) ?_; intro v6 w6 ho6 hg6 hat6; have HO6 := Lib.hid ho6; have HB6 : Hid (Below w2.heap.size w2 w6) := Lib.hid (below_own (HB2.out.alloc HB2.out.size _) (HO5.out.below ((Below.refl _ _).alloc (Nat.le_refl _) _)) hg6 (Nat.le_refl _) (by simp; omega)); clear ho6 hg6 hat6))
            go_roundw
            case rel => exact ⟨r + 1, by omega, by go_num, by rw [HSU2.out]; exact HO6.out, HB6.out⟩
            case measure => simp [intOf]; omega
    · obtain rfl : n = r := by omega
      obtain ⟨A2, c2', rfl, _, _⟩ := HO.out.form
      have HEND : Hid (UpIs n U (seg f ls) s W (.returned (.slice A2 (seenTo (dOf d) (seg f ls) n).length c2')) wr) := Lib.hid ⟨dOf d, A2, c2', HD.out.sol HUPS.out hn (Nat.le_refl _), rfl, HO.out.mono HZ2.out, HB1.out.trans (HXR.out.mono HB1.out.size)⟩
      go_wp2_with fail
      go_ret
      exact HEND.out
end Go.Proofs.YtkcnnamghpdplaaDoor
/- The program's list as the document's; two such lists that read alike are told alike. -/
set_option linter.unusedSimpArgs false
set_option linter.unusedVariables false
namespace Go.Proofs.YtkcnnamghpdplaaDoor
open Go.RowKit

theorem three_cells {w : World} {ad : Addr} {j : Nat} {x : SeenT} (h : ∀ i u, (encSn x)[i]? = some u → w.cell? (ad.add (j * 3 + i)) = some u) :
    w.cell? (ad.add (j * 3)) = some (.int .i64 (x.rank : Int)) ∧ w.cell? ⟨(ad.add (j * 3)).block, (ad.add (j * 3)).off + 1, none⟩ = some (.int .u64 x.dist) ∧ w.cell? ⟨(ad.add (j * 3)).block, (ad.add (j * 3)).off + 2, none⟩ = some (.bool x.st) := by
  have h0 := h 0 _ rfl
  have h1 := h 1 _ rfl
  have h2 := h 2 _ rfl
  rw [← add_of_add] at h1 h2
  rw [Nat.add_zero] at h0
  exact ⟨h0, h1, h2⟩
abbrev RdSn (w : World) (A : Option Addr) (n : Nat) (l : List SeenT) : Prop := Rd 3 encSn w A n l
def MadeSr (l : List SeenT) (W : World) (e : Ending) (w' : World) : Prop := ∃ A c, e = .returned (.slice A l.length c) ∧ OwnSr w' W.heap.size (.slice A l.length c) l ∧ Below W.heap.size W w'
set_option maxRecDepth 100000 in
theorem Of_any (A : Option Addr) (n cap : Nat) (l : List SeenT) (W : World) (hp : RdSn W A n l) (hn : n * 24 ≤ 140737488351232) :
    Calls Tryd.prog 13 #[.slice A n cap] W (MadeSr l W) := by
  have HP := Lib.hid hp
  clear hp
  go_enter Tryd.func13, Tryd.ntmps13
  go_wp2_with fail
  go_loopw [3, 8] (fun sv iv wr => ∃ j : Nat, j ≤ n ∧ iv = .int .i64 j ∧ OwnSr wr W.heap.size sv (l.take j) ∧ Below W.heap.size W wr) (fun _ iv _ => n - (intOf iv).toNat)
  case atStart => exact ⟨0, by omega, rfl, Own.nil _ _ _ _ _, Below.refl _ _⟩
  case round =>
    obtain ⟨j, hj, rfl, ho, hb⟩ := hrel
    have HB := Lib.hid hb
    have HO := Lib.hid ho
    clear ho hb
    by_cases hlt : j < n
    · have g0 : decide ((j : Int) < (n : Int)) = true := decide_eq_true (by omega)
      obtain ⟨ad, hA, cc⟩ := (HP.out.below HB.out).at_ hlt
      subst hA
      have hjq : j < l.length := by have := HP.out.1; omega
      obtain ⟨c0, c1, c2⟩ := three_cells cc
      clear cc
      have htk := List.take_succ_eq_append_getElem hjq
      generalize l[j] = x at *
      obtain ⟨x0, x1, x2⟩ := x
      dsimp only at c0 c1 c2
      have HTK := Lib.hid htk
      have HJQ := Lib.hid hjq
      clear htk hjq
      have hs := HB.out.size
      go_wp2_with (at_builtin; go_loud (refine wpList_append_rd rfl (.tmp 12) (.tmp 20) 34 rfl 54 (.agg #[.int .i64 0, .int .u64 0, .bool false]) 24 Tryd.underlying34 info_seenr rfl (by omega) (by omega) encSn_len encSn_one W.heap.size _ (l.take j) rfl (HO.out.below (((Below.refl _ _).alloc (Nat.le_refl _) _).alloc (by simp) _)) _ 1 1 [(⟨x0, x1, x2⟩ : SeenT)] rfl (rd_Sr (by simp)) (by rw [List.length_take]; omega) (by simp; omega) ?_; intro v2 w2 ho2 hg2 hat2; have HO2 := Lib.hid ho2; have HB2 : Hid (Below W.heap.size W w2) := Lib.hid (below_own ((HB.out.alloc HB.out.size _).alloc (by simp; omega) _) (HO.out.below (((Below.refl _ _).alloc (Nat.le_refl _) _).alloc (by simp) _)) hg2 (Nat.le_refl _) (by simp; omega)); clear ho2 hg2 hat2))
      go_roundw
      case rel => exact ⟨j + 1, by omega, by go_num, by rw [HTK.out]; exact HO2.out, HB2.out⟩
      case measure => simp [intOf]; omega
    · obtain rfl : j = n := by omega
      have htk : l.take j = l := List.take_of_length_le (by have := HP.out.1; omega)
      rw [htk] at HO
      obtain ⟨A2, c2, rfl, _, _⟩ := HO.out.form
      clear htk
      go_wp2_with fail
      go_ret
      exact ⟨A2, c2, rfl, HO.out, HB.out⟩
theorem SameSn_eq (A B : Option Addr) (n c d : Nat) (l : List SeenT) (W : World) (hp : RdSn W A n l) (hq : RdSn W B n l) (hn : n ≤ 9223372036854775807) :
    Calls Tryd.prog 12 #[.slice A n c, .slice B n d] W (BoolBelow true W) := by
  have HP := Lib.hid hp
  have HQ := Lib.hid hq
  clear hp hq
  go_enter Tryd.func12, Tryd.ntmps12
  go_wp2_with fail
  go_loopw [13] (fun iv wr => ∃ j : Nat, j ≤ n ∧ iv = .int .i64 j ∧ Below W.heap.size W wr) (fun iv _ => n - (intOf iv).toNat)
  case atStart => exact ⟨0, by omega, rfl, Below.refl _ _⟩
  case round =>
    obtain ⟨j, hj, rfl, hb⟩ := hrel
    have HB := Lib.hid hb
    clear hb
    by_cases hlt : j < n
    · have g0 : decide ((j : Int) < (n : Int)) = true := decide_eq_true (by omega)
      obtain ⟨ad, hA, cc⟩ := (HP.out.below HB.out).at_ hlt
      subst hA
      obtain ⟨be, hB, dd⟩ := (HQ.out.below HB.out).at_ hlt
      subst hB
      have hjp : j < l.length := by have := HP.out.1; omega
      obtain ⟨c0, c1, c2⟩ := three_cells cc
      obtain ⟨d0, d1, d2⟩ := three_cells dd
      clear cc dd
      generalize l[j] = x at *
      obtain ⟨x0, x1, x2⟩ := x
      dsimp only at c0 c1 c2 d0 d1 d2
      clear hjp
      go_wp2_with (go_quiet (fail))
      go_roundw
      case rel => exact ⟨j + 1, by omega, by go_num, HB.out.trans ⟨rfl, rfl, rfl, Nat.le_refl _, fun _ _ => rfl⟩⟩
      case measure => simp [intOf]; omega
    · obtain rfl : j = n := by omega
      go_wp2_with fail
      go_ret
      exact ⟨rfl, HB.out⟩
end Go.Proofs.YtkcnnamghpdplaaDoor
/- Hierarchies turned about: the document's. -/
set_option linter.unusedSimpArgs false
set_option linter.unusedVariables false
namespace Go.Proofs.YtkcnnamghpdplaaDoor
open Go.RowKit

/-- the new number of a child -/
def numT (nu nd i : Nat) : Nat := if i = 4294967295 then i else if i < nu then nd + i else i - nu
def turnL (nu nd : Nat) (l : Lk) : Lk := ⟨l.to, l.w, numT nu nd l.r, numT nu nd l.l⟩
def turnT (h : HierT) : HierT := ⟨h.node, h.df, h.dn.map (turnL h.up.length h.dn.length), h.uf, h.up.map (turnL h.up.length h.dn.length)⟩
theorem number_any (k : HV) (h : HierT) (i : Nat) (W : World) (hu : h.up.length ≤ 1048576) (hd : h.dn.length ≤ 1048576) (hi : In32 i) :
    Calls Tryd.prog 73 #[hierV k h, .int .u32 i] W fun e w' => e = .returned (.int .u32 (numT h.up.length h.dn.length i : Nat)) ∧ Below W.heap.size W w' := by
  unfold In32 at hi
  unfold hierV
  generalize h.up.length = n2 at *
  generalize h.dn.length = n4 at *
  generalize hr : numT n2 n4 i = res
  have HR := Lib.hid hr
  unfold numT at HR
  clear hr
  by_cases h0 : i = 4294967295
  · have e : Hid ((res : Int) = 4294967295) := Lib.hid (by have := HR.out; rw [if_pos h0] at this; omega)
    subst h0
    go_enter Tryd.func73, Tryd.ntmps73
    go_wp2_with fail
    go_ret
    exact ⟨by rw [e.out]; rfl, (Below.refl _ W).alloc (Nat.le_refl _) _⟩
  · have g0 : ((i : Int) == 4294967295) = false := by rw [beq_eq_false_iff_ne]; omega
    have g0' : (i : Int) ≠ 4294967295 := by omega
    have w0 : IntKind.i64.wrap (i : Int) = i := by rw [IntKind.wrap_i64]; omega
    by_cases h1 : i < n2
    · have e : Hid ((res : Int) = (n4 : Int) + (i : Int)) := Lib.hid (by have := HR.out; rw [if_neg h0, if_pos h1] at this; omega)
      have g1 : decide ((i : Int) < (n2 : Int)) = true := decide_eq_true (by omega)
      have w1 : IntKind.u32.wrap (n4 : Int) = n4 := by rw [IntKind.wrap_u32]; omega
      have w2 : IntKind.u32.wrap ((n4 : Int) + (i : Int)) = (n4 : Int) + (i : Int) := by rw [IntKind.wrap_u32]; omega
      go_enter Tryd.func73, Tryd.ntmps73
      go_wp2_with fail
      go_ret
      exact ⟨by rw [e.out]; rfl, (Below.refl _ W).alloc (Nat.le_refl _) _⟩
    · have e : Hid ((res : Int) = (i : Int) - (n2 : Int)) := Lib.hid (by have := HR.out; rw [if_neg h0, if_neg h1] at this; omega)
      have g1 : decide ((i : Int) < (n2 : Int)) = false := decide_eq_false (by omega)
      have w1 : IntKind.u32.wrap (n2 : Int) = n2 := by rw [IntKind.wrap_u32]; omega
      have w2 : IntKind.u32.wrap ((i : Int) - (n2 : Int)) = (i : Int) - (n2 : Int) := by rw [IntKind.wrap_u32]; omega
      go_enter Tryd.func73, Tryd.ntmps73
      go_wp2_with fail
      go_ret
      exact ⟨by rw [e.out]; rfl, (Below.refl _ W).alloc (Nat.le_refl _) _⟩
end Go.Proofs.YtkcnnamghpdplaaDoor
/- Links turned about: the document's. -/
set_option linter.unusedSimpArgs false
set_option linter.unusedVariables false
namespace Go.Proofs.YtkcnnamghpdplaaDoor
open Go.RowKit

theorem oper_append_rd {P : Program} {α : Type} {sz : Nat} {enc : α → List Value} {o : Oper} {a : Act} {K : Act → World → Prop} {Q : Exit → Act → World → Prop} {w : World} (s x : Operand) (t : TypeId)
    (ho : o.op = .call { callee := .builtin .append, args := #[s, x], argTypes := #[t, t] }) (e : TypeId) (z : Value) (bytes : Nat) (ht : P.underlying t = some (.slice e))
    (hinfo : (P.info? e).map (fun i => (i.zero, i.size, i.bytes)) = some (some z, sz, bytes)) (hz : z.cells.size = sz) (hsz : 0 < sz) (hb0 : 0 < bytes)
    (hE : ∀ x, (enc x).length = sz) (h1 : ∀ x, ∀ u ∈ enc x, u.oneCell' = true) (base : Nat) (v : Value) (l : List α) (hs : a.eval s = v) (hown : Own e sz enc w base v l)
    (A : Option Addr) (m c : Nat) (k : List α) (hx : a.eval x = .slice A m c) (hr : Rd sz enc w A m k) (hbytes : (l.length + m) * bytes ≤ 140737488355328) (hbase : base ≤ w.heap.size)
    (h : ∀ v' w', Own e sz enc w' base v' (l ++ k) → w.grownBy w' v.ownBlock → (v'.ownBlock = v.ownBlock ∨ v'.ownBlock = some w.heap.size) → K (a.put o.dst v') w') :
    Oper.wp P o a w K Q := by
  obtain ⟨v', w', hrun, h2, h3, h4⟩ := run_append_rd (P := P) w t o.type e z bytes ht hinfo hz hsz hb0 hE h1 base v l hown A m c k hr hbytes hbase
  unfold Oper.wp execOp
  simp only [ho, resolve, invoke, builtin, Sem.run_bind, Sem.run_pure, Result.andThen_ok, List.map_toArray, List.map_cons, List.map_nil, hs, hx, hrun]
  exact h v' w' h2 h3 h4
set_option maxRecDepth 100000 in
set_option maxHeartbeats 4000000 in
theorem turned_any (k : HV) (h : HierT) (A : Option Addr) (n cap : Nat) (l : List Lk) (W : World) (hu : h.up.length ≤ 1048576) (hd : h.dn.length ≤ 1048576) (hp : RdK W A n l) (hin : ∀ x ∈ l, InK x) (hn : n * 24 ≤ 140737488351232) :
    Calls Tryd.prog 57 #[hierV k h, .slice A n cap] W (MadeK (l.map (turnL h.up.length h.dn.length)) W) := by
  have HNUM : Hid (∀ (w : World) (i : Nat), In32 i → Calls Tryd.prog 73 #[.agg #[.slice k.a0 h.node.length k.c0, .slice k.a1 h.uf.length k.c1, .slice k.a2 h.up.length k.c2, .slice k.a3 h.df.length k.c3, .slice k.a4 h.dn.length k.c4], .int .u32 i] w fun e w' => e = .returned (.int .u32 (numT h.up.length h.dn.length i : Nat)) ∧ Below w.heap.size w w') := Lib.hid fun w i hi => number_any k h i w hu hd hi
  have HP := Lib.hid hp
  have HIN := Lib.hid hin
  clear hp hin hu hd
  unfold hierV
  generalize h.up.length = n2 at *
  generalize h.dn.length = n4 at *
  generalize h.node.length = n0 at *
  generalize h.uf.length = n1 at *
  generalize h.df.length = n3 at *
  go_enter Tryd.func57, Tryd.ntmps57
  go_wp2_with fail
  generalize hW1 : W.alloc (.cells #[.slice k.a0 n0 k.c0, .slice k.a1 n1 k.c1, .slice k.a2 n2 k.c2, .slice k.a3 n3 k.c3, .slice k.a4 n4 k.c4] 25) = W1
  have hb1 : Below W.heap.size W W1 := by rw [← hW1]; exact (Below.refl _ _).alloc (Nat.le_refl _) _
  have hc1 : Cells W1 W.heap.size #[.slice k.a0 n0 k.c0, .slice k.a1 n1 k.c1, .slice k.a2 n2 k.c2, .slice k.a3 n3 k.c3, .slice k.a4 n4 k.c4] 25 := by rw [← hW1]; exact cells_new _ _ _
  have HB1 := Lib.hid hb1
  have HBX := Lib.hid hc1
  have HP1 := Lib.hid (HP.out.below hb1)
  have hz1 : W.heap.size < W1.heap.size := HBX.out.lt
  clear hb1 hc1 hW1 HP
  go_loopw [5, 10] (fun sv iv wr => ∃ j : Nat, j ≤ n ∧ iv = .int .i64 j ∧ OwnK wr W1.heap.size sv ((l.take j).map (turnL n2 n4)) ∧ Below W1.heap.size W1 wr) (fun _ iv _ => n - (intOf iv).toNat)
  case atStart => exact ⟨0, by omega, rfl, Own.nil _ _ _ _ _, Below.refl _ _⟩
  case round =>
    obtain ⟨j, hj, rfl, ho, hb⟩ := hrel
    have HB := Lib.hid hb
    have HO := Lib.hid ho
    clear ho hb
    by_cases hlt : j < n
    · have g0 : decide ((j : Int) < (n : Int)) = true := decide_eq_true (by omega)
      obtain ⟨ad, hA, cc⟩ := (HP1.out.below HB.out).at_ hlt
      subst hA
      have hjq : j < l.length := by have := HP1.out.1; omega
      obtain ⟨c0, c1, c2, c3⟩ := four_cells cc
      clear cc
      have htk := List.take_succ_eq_append_getElem hjq
      have hx := HIN.out l[j] (List.getElem_mem _)
      generalize l[j] = x at *
      obtain ⟨x0, x1, x2, x3⟩ := x
      have hx2 : In32 x2 := hx.l_
      have hx3 : In32 x3 := hx.r
      dsimp only at c0 c1 c2 c3
      have hTK : (l.take (j + 1)).map (turnL n2 n4) = (l.take j).map (turnL n2 n4) ++ [⟨x0, x1, numT n2 n4 x3, numT n2 n4 x2⟩] := by rw [htk, List.map_append]; rfl
      have HTK := Lib.hid hTK
      have HLEN : Hid (((l.take j).map (turnL n2 n4)).length = j) := Lib.hid (by rw [List.length_map, List.length_take]; omega)
      have HN3 : Hid (∀ w, Calls Tryd.prog 73 #[.agg #[.slice k.a0 n0 k.c0, .slice k.a1 n1 k.c1, .slice k.a2 n2 k.c2, .slice k.a3 n3 k.c3, .slice k.a4 n4 k.c4], .int .u32 x3] w fun e w' => e = .returned (.int .u32 (numT n2 n4 x3 : Nat)) ∧ Below w.heap.size w w') := Lib.hid fun w => HNUM.out w x3 hx3
      have HN2 : Hid (∀ w, Calls Tryd.prog 73 #[.agg #[.slice k.a0 n0 k.c0, .slice k.a1 n1 k.c1, .slice k.a2 n2 k.c2, .slice k.a3 n3 k.c3, .slice k.a4 n4 k.c4], .int .u32 x2] w fun e w' => e = .returned (.int .u32 (numT n2 n4 x2 : Nat)) ∧ Below w.heap.size w w') := Lib.hid fun w => HNUM.out w x2 hx2
      generalize numT n2 n4 x3 = y3 at *
      generalize numT n2 n4 x2 = y2 at *
      generalize hLL : (l.take j).map (turnL n2 n4) = LL at *
      clear htk hjq hx hx2 hx3 hTK hLL
      go_wp2_with fail
      have hca := cells_new wr #[.int .u32 (x0 : Int), .int .u64 x1, .int .u32 (x2 : Int), .int .u32 (x3 : Int)] 52
      have hba := (Below.refl wr.heap.size wr).alloc (Nat.le_refl _) (.cells #[.int .u32 (x0 : Int), .int .u64 x1, .int .u32 (x2 : Int), .int .u32 (x3 : Int)] 52)
      generalize wr.alloc (.cells #[.int .u32 (x0 : Int), .int .u64 x1, .int .u32 (x2 : Int), .int .u32 (x3 : Int)] 52) = wa at *
      have e0 : wa.cell? ⟨wr.heap.size, 0, none⟩ = some (.int .u32 (x0 : Int)) := hca.cell 0
      have e1 : wa.cell? ⟨wr.heap.size, 1, none⟩ = some (.int .u64 x1) := hca.cell 1
      have e2 : wa.cell? ⟨wr.heap.size, 2, none⟩ = some (.int .u32 (x2 : Int)) := hca.cell 2
      have e3 : wa.cell? ⟨wr.heap.size, 3, none⟩ = some (.int .u32 (x3 : Int)) := hca.cell 3
      have hxa : Below W1.heap.size W1 wa := HB.out.trans (hba.mono HB.out.size)
      have hca2 := HBX.out.below hxa
      have d0 : wa.cell? ⟨W.heap.size, 0, none⟩ = some (.slice k.a0 n0 k.c0) := hca2.cell 0
      have d1 : wa.cell? ⟨W.heap.size, 1, none⟩ = some (.slice k.a1 n1 k.c1) := hca2.cell 1
      have d2 : wa.cell? ⟨W.heap.size, 2, none⟩ = some (.slice k.a2 n2 k.c2) := hca2.cell 2
      have d3 : wa.cell? ⟨W.heap.size, 3, none⟩ = some (.slice k.a3 n3 k.c3) := hca2.cell 3
      have d4 : wa.cell? ⟨W.heap.size, 4, none⟩ = some (.slice k.a4 n4 k.c4) := hca2.cell 4
      have hs1 : W1.heap.size ≤ wr.heap.size := HB.out.size
      have HXA := Lib.hid hxa
      have HBA := Lib.hid hba
      have HX : Hid (Below wr.heap.size wr wa) := Lib.hid hba
      clear hca hba hxa hca2 c0 c1 c2 c3
      go_region_held3 (fun w' => (w'.cell? ⟨wr.heap.size, 0, none⟩ = some (.int .u32 (x0 : Int)) ∧ w'.cell? ⟨wr.heap.size, 1, none⟩ = some (.int .u64 x1) ∧ w'.cell? ⟨wr.heap.size, 2, none⟩ = some (.int .u32 (x2 : Int)) ∧ w'.cell? ⟨wr.heap.size, 3, none⟩ = some (.int .u32 (x3 : Int))) ∧ w'.cell? ⟨W.heap.size, 0, none⟩ = some (.slice k.a0 n0 k.c0) ∧ w'.cell? ⟨W.heap.size, 1, none⟩ = some (.slice k.a1 n1 k.c1) ∧ w'.cell? ⟨W.heap.size, 2, none⟩ = some (.slice k.a2 n2 k.c2) ∧ w'.cell? ⟨W.heap.size, 3, none⟩ = some (.slice k.a3 n3 k.c3) ∧ w'.cell? ⟨W.heap.size, 4, none⟩ = some (.slice k.a4 n4 k.c4)) (first | with_reducible exact ⟨⟨e0, e1, e2, e3⟩, d0, d1, d2, d3, d4⟩ | go_keep) (first
        | (go_at_call 73; (with_reducible refine (HN3.out _).mono ?_); rintro e v0 ⟨rfl, hb5⟩; have e0 := cell_below hb5 e0; have e1 := cell_below hb5 e1; have e2 := cell_below hb5 e2; have e3 := cell_below hb5 e3; have d0 := cell_below hb5 d0; have d1 := cell_below hb5 d1; have d2 := cell_below hb5 d2; have d3 := cell_below hb5 d3; have d4 := cell_below hb5 d4; have HX : Hid (Below wr.heap.size wr v0) := Lib.hid (by first | exact HX.out.trans (hb5.mono HX.out.size) | exact HX.out.drew.trans (hb5.mono HX.out.drew.size)); clear hb5)
        | (go_at_call 73; (with_reducible refine (HN2.out _).mono ?_); rintro e v1 ⟨rfl, hb5⟩; have e0 := cell_below hb5 e0; have e1 := cell_below hb5 e1; have e2 := cell_below hb5 e2; have e3 := cell_below hb5 e3; have d0 := cell_below hb5 d0; have d1 := cell_below hb5 d1; have d2 := cell_below hb5 d2; have d3 := cell_below hb5 d3; have d4 := cell_below hb5 d4; have HX : Hid (Below wr.heap.size wr v1) := Lib.hid (by first | exact HX.out.trans (hb5.mono HX.out.size) | exact HX.out.drew.trans (hb5.mono HX.out.drew.size)); have HX1 := HX; clear hb5)
        | ((first | rw [if_pos (by rfl)] | skip); refine oper_append_rd (.tmp 14) (.tmp 28) 23 rfl 52 (.agg #[.int .u32 0, .int .u64 0, .int .u32 0, .int .u32 0]) 24 Tryd.underlying23 info_link rfl (by omega) (by omega) encK_len encK_one W1.heap.size _ LL rfl (HO.out.below (HX.out.alloc HX.out.size _)) _ 1 1 [(⟨x0, x1, y3, y2⟩ : Lk)] rfl (rd_K (by rfl)) (by rw [HLEN.out]; omega) (by have := HX.out.size; simp; omega) ?_; intro v6 w6 ho6 hg6 hat6; have HO6 := Lib.hid ho6; have HB6 : Hid (Below W1.heap.size W1 w6) := Lib.hid (below_own (HB.out.trans ((HX.out.alloc HX.out.size _).mono HB.out.size)) (HO.out.below (HX.out.alloc HX.out.size _)) hg6 (Nat.le_refl _) (by have := HX.out.size; simp; omega)); have e0 := hg6.cell (cell_below ((Below.refl _ _).alloc (Nat.le_refl _) _) e0) (by intro h; have := (HO.out.block h.symm).2; simp at this); have e1 := hg6.cell (cell_below ((Below.refl _ _).alloc (Nat.le_refl _) _) e1) (by intro h; have := (HO.out.block h.symm).2; simp at this); have e2 := hg6.cell (cell_below ((Below.refl _ _).alloc (Nat.le_refl _) _) e2) (by intro h; have := (HO.out.block h.symm).2; simp at this); have e3 := hg6.cell (cell_below ((Below.refl _ _).alloc (Nat.le_refl _) _) e3) (by intro h; have := (HO.out.block h.symm).2; simp at this); have d0 := hg6.cell (cell_below ((Below.refl _ _).alloc (Nat.le_refl _) _) d0) (by intro h; have h7 := (HO.out.block h.symm).1; simp at h7; omega); have d1 := hg6.cell (cell_below ((Below.refl _ _).alloc (Nat.le_refl _) _) d1) (by intro h; have h7 := (HO.out.block h.symm).1; simp at h7; omega); have d2 := hg6.cell (cell_below ((Below.refl _ _).alloc (Nat.le_refl _) _) d2) (by intro h; have h7 := (HO.out.block h.symm).1; simp at h7; omega); have d3 := hg6.cell (cell_below ((Below.refl _ _).alloc (Nat.le_refl _) _) d3) (by intro h; have h7 := (HO.out.block h.symm).1; simp at h7; omega); have d4 := hg6.cell (cell_below ((Below.refl _ _).alloc (Nat.le_refl _) _) d4) (by intro h; have h7 := (HO.out.block h.symm).1; simp at h7; omega); clear ho6 hg6 hat6))
      all_goals
        go_wp2_with fail
        go_roundw
        case rel => exact ⟨j + 1, by omega, by go_num, by rw [HTK.out]; exact HO6.out, HB6.out⟩
        case measure => simp [intOf]; omega
    · obtain rfl : j = n := by omega
      have htk : l.take j = l := List.take_of_length_le (by have := HP1.out.1; omega)
      rw [htk] at HO
      obtain ⟨A2, c2, rfl, _, _⟩ := HO.out.form
      have HEND : Hid (MadeK (l.map (turnL n2 n4)) W (.returned (.slice A2 (l.map (turnL n2 n4)).length c2)) wr) := Lib.hid ⟨A2, c2, rfl, HO.out.mono HB1.out.size, HB1.out.trans (HB.out.mono HB1.out.size)⟩
      clear htk
      go_wp2_with fail
      go_ret
      exact HEND.out
end Go.Proofs.YtkcnnamghpdplaaDoor

/- The document's list of what is reached. -/
import Derived.Test.YtkcnnamghpdplaaCl7
set_option linter.unusedSimpArgs false
set_option linter.unusedVariables false
namespace Go.Proofs.Ytkcnnamghpdplaa
open Go.RowKit

theorem info_seenr : (Try.prog.info? 51).map (fun i => (i.zero, i.size, i.bytes)) = some (some (.agg #[.int .i64 0, .int .u64 0, .bool false]), 3, 24) := by kernel_rfl
abbrev OwnSr (w : World) (base : Nat) (v : Value) (l : List SeenT) : Prop := Own 51 3 encSn w base v l
theorem rd_Sr {w : World} {k : Nat} {x : SeenT} (hk : w.heap.size = k) : Rd 3 encSn (w.alloc (.cells #[.int .i64 (x.rank : Int), .int .u64 x.dist, .bool x.st] 51)) (some ⟨k, 0, none⟩) 1 [x] := by
  subst hk
  exact rd_new (enc := encSn) encSn_len w _ [x]
theorem overB_far {d : List Int} {L : Lk} (h : dg d L.to = farI) (x : Int) : overB (dOf d) x L = false := by
  unfold overB dOf
  rw [if_pos h]
theorem overB_near {d : List Int} {L : Lk} (h : dg d L.to ≠ farI) (x : Int) : overB (dOf d) x L = decide (dg d L.to + L.w < x) := by
  unfold overB dOf
  rw [if_neg h]
theorem dOf_far {d : List Int} {r : Nat} (h : dg d r = farI) : dOf d r = none := by unfold dOf; rw [if_pos h]
theorem dOf_near {d : List Int} {r : Nat} (h : dg d r ≠ farI) : dOf d r = some (dg d r) := by unfold dOf; rw [if_neg h]
def UpIs (n : Nat) (S S' : Nat → List Lk) (s : Nat) (W : World) (e : Ending) (w' : World) : Prop :=
  ∃ D A c, Sol n S s D ∧ e = .returned (.slice A (seenTo D S' n).length c) ∧ OwnSr w' W.heap.size (.slice A (seenTo D S' n).length c) (seenTo D S' n) ∧ Below W.heap.size W w'
set_option maxRecDepth 100000 in
set_option maxHeartbeats 4000000 in
theorem UpDoc_any (k : HV) (h : HierT) (s : Nat) (W : World) (hS : Side h.node.length h.uf h.up) (hS' : Side h.node.length h.df h.dn) (hs : s < h.node.length) (hp : RdH W k h) (hm : Small k h) (hk : ∀ l ∈ h.up, InK l) (hkb : ∀ l ∈ h.dn, InK l) :
    Calls Try.prog 28 #[hierV k h, .int .i64 s] W (UpIs h.node.length (seg h.uf h.up) (seg h.df h.dn) s W) := by
  have hn := hS.n_le
  have hfl := hS.fl
  have hfl' := hS'.fl
  have hups := hS.ups
  have HD0 : Hid (∀ w, Below W.heap.size W w → Calls Try.prog 43 #[hierV k h, .int .i64 s] w (DistsIs h.node.length (seg h.uf h.up) s w)) := Lib.hid fun w hb => Dists_any k h s w hS hs (hp.below hb) hm hk
  have HS := Lib.hid hS'
  have HF := Lib.hid hp.r3
  have HL := Lib.hid hp.r4
  have HK := Lib.hid hkb
  have ht1 := hm.t3
  have ht2 := hm.t4
  have hl0 := hS'.l_le
  clear hS hS' hp hm hk hkb
  unfold hierV at HD0 ⊢
  unfold DistsIs at HD0
  have HUPS := Lib.hid hups
  generalize seg h.uf h.up = U at *
  generalize h.node.length = n at *
  generalize h.up.length = n2 at *
  generalize h.uf.length = n1 at *
  generalize h.df = f at *
  generalize h.dn = ls at *
  rw [hfl'] at HF ht1 HD0 ⊢
  generalize hll : ls.length = nl at *
  have HLL := Lib.hid hll
  clear hll hfl hfl' hups
  go_enter Try.func28, Try.ntmps28
  go_wp2_with fail
  generalize hW1 : W.alloc (.cells #[.slice k.a0 n k.c0, .slice k.a1 n1 k.c1, .slice k.a2 n2 k.c2, .slice k.a3 (n + 1) k.c3, .slice k.a4 nl k.c4] 25) = W1
  have hb1 : Below W.heap.size W W1 := by rw [← hW1]; exact (Below.refl _ _).alloc (Nat.le_refl _) _
  have hc1 : Cells W1 W.heap.size #[.slice k.a0 n k.c0, .slice k.a1 n1 k.c1, .slice k.a2 n2 k.c2, .slice k.a3 (n + 1) k.c3, .slice k.a4 nl k.c4] 25 := by rw [← hW1]; exact cells_new _ _ _
  have HB1 := Lib.hid hb1
  have HBX := Lib.hid hc1
  have HF1 := Lib.hid (HF.out.below hb1)
  have HL1 := Lib.hid (HL.out.below hb1)
  clear hb1 hc1 hW1 HF HL
  refine (HD0.out W1 HB1.out).mono ?_
  rintro e w2 ⟨g, d, rfl, hc2, hd, hb2, hg⟩
  have HC2 := Lib.hid hc2
  have HD := Lib.hid hd
  have HX2 := Lib.hid hb2
  have HG : Hid (W1.heap.size ≤ g) := Lib.hid hg
  have HZ2 : Hid (W.heap.size ≤ w2.heap.size) := Lib.hid (Nat.le_trans HB1.out.size hb2.size)
  clear hc2 hd hb2 hg HD0
  go_wp2_with fail
  go_loopw [6, 16] (fun sv iv wr => ∃ r : Nat, r ≤ n ∧ iv = .int .i64 r ∧ OwnSr wr w2.heap.size sv (seenTo (dOf d) (seg f ls) r) ∧ Below w2.heap.size w2 wr) (fun _ iv _ => n - (intOf iv).toNat)
  case atStart => exact ⟨0, by omega, rfl, by unfold seenTo; exact Own.nil _ _ _ _ _, Below.refl _ _⟩
  case round =>
    obtain ⟨r, hr, rfl, ho, hb⟩ := hrel
    have HO := Lib.hid ho
    have HB := Lib.hid hb
    clear ho hb
    have HXR : Hid (Below W1.heap.size W1 wr) := Lib.hid (HX2.out.trans (HB.out.mono HX2.out.size))
    by_cases hlt : r < n
    · have g0 : decide ((r : Int) < (n : Int)) = true := decide_eq_true (by omega)
      have HC := Lib.hid (HC2.out.below HB.out)
      have cr := HC.out.cell r
      rw [nA_at (by rw [HD.out.len]; exact hlt)] at cr
      have hsu := seenTo_succ (dOf d) (seg f ls) r
      have HSU := Lib.hid hsu
      clear hsu
      by_cases hfar : dg d r = farI
      · have hb0 : (dg d r == 18446744073709551615) = true := by rw [hfar]; rfl
        have HSU2 : Hid (seenTo (dOf d) (seg f ls) (r + 1) = seenTo (dOf d) (seg f ls) r) := Lib.hid (by rw [HSU.out, dOf_far hfar, List.append_nil])
        go_wp2_with fail
        go_roundw
        case rel => exact ⟨r + 1, by omega, by go_num, by rw [HSU2.out]; exact HO.out, HB.out⟩
        case measure => simp [intOf]; omega
      · have hb0 : (dg d r == 18446744073709551615) = false := by
          rw [beq_eq_false_iff_ne]; exact hfar
        have HSU2 : Hid (seenTo (dOf d) (seg f ls) (r + 1) = seenTo (dOf d) (seg f ls) r ++ [⟨r, dg d r, stalledB (seg f ls) (dOf d) r (dg d r)⟩]) := Lib.hid (by rw [HSU.out, dOf_near hfar])
        go_wp2_with fail
        have hsafe := HD.out.safe hn
        have hgr : dg d r = dg d r := rfl
        have hcs := cells_new wr #[.int .i64 (r : Int), .int .u64 (dg d r), .bool false] 51
        have hba := (Below.refl wr.heap.size wr).alloc (Nat.le_refl _) (.cells #[.int .i64 (r : Int), .int .u64 (dg d r), .bool false] 51)
        generalize wr.alloc (.cells #[.int .i64 (r : Int), .int .u64 (dg d r), .bool false] 51) = wa at *
        have hxa : Below W1.heap.size W1 wa := HXR.out.trans (hba.mono HXR.out.size)
        have b1 : wa.cell? ⟨W.heap.size, 3, none⟩ = some (.slice k.a3 (n + 1) k.c3) := (HBX.out.below hxa).cell 3
        have b2 : wa.cell? ⟨W.heap.size, 4, none⟩ = some (.slice k.a4 nl k.c4) := (HBX.out.below hxa).cell 4
        obtain ⟨ad, hA, e0, e1⟩ := two_firsts (HF1.out.below hxa) hlt
        rw [hA] at b1
        have e1' : wa.cell? ⟨ad.block, ad.off + (r + 1), none⟩ = some (.int .u32 (f.getD (r + 1) 0 : Nat)) := e1
        have hmono := HS.out.mono r hlt
        rw [HLL.out] at hmono
        have hslen := HS.out.len hlt
        have hsl := fun w => slice_links k.a4 nl k.c4 (f.getD r 0) (f.getD (r + 1) 0) hmono.1 (by omega) w
        have hrd := rd_seg HS.out hlt (by rw [HLL.out]; exact HL1.out) (by rw [HLL.out]; exact ht2.1)
        generalize (if k.c4 = f.getD r 0 then k.a4 else k.a4.map (·.add (f.getD r 0 * 4))) = AA at hsl hrd
        generalize f.getD r 0 = lo at *
        generalize f.getD (r + 1) 0 = hi at *
        obtain ⟨sl, hsl2⟩ : ∃ sl, hi - lo = sl := ⟨_, rfl⟩
        rw [hsl2] at hsl hrd hslen
        have HRD := Lib.hid hrd
        have HSL := Lib.hid hslen
        have hlo : lo ≤ 1048576 := by omega
        have hhi : hi ≤ 1048576 := by omega
        have hsle : sl ≤ 1048576 := by omega
        have hlh : lo ≤ hi := hmono.1
        have hhn : hi ≤ nl := hmono.2
        have w1 : IntKind.i64.wrap ((r : Int) + 1) = (r : Int) + 1 := by rw [IntKind.wrap_i64]; omega
        have w2' : (0 : Int) ≤ (r : Int) + 1 := by omega
        have w3' : ((r : Int) + 1).toNat = r + 1 := by omega
        have hcap : n + 1 ≤ k.c3 := ht1.1
        have i1 : (0 : Int) ≤ (r : Int) := by omega
        have i2 : (r : Int) < (n : Int) + 1 := by omega
        have i3 : (r : Int) + 1 < (n : Int) + 1 := by omega
        have i4 : (r : Int) < ((n + 1 : Nat) : Int) := by omega
        have i5 : (r : Int) + 1 < ((n + 1 : Nat) : Int) := by omega
        have i6 : (0 : Int) ≤ (lo : Int) := by omega
        have i7 : (lo : Int) ≤ (hi : Int) := by omega
        have i8 : (hi : Int) ≤ (k.c4 : Int) := by omega
        have HCS := Lib.hid hcs
        have HBA := Lib.hid hba
        have HXA := Lib.hid hxa
        have HSAFE := Lib.hid hsafe
        clear hmono hrd hslen hsl2 hA hcs hba hxa hsafe hgr cr
        go_quiet (fail)
        have hdr : Drawn wa (wa.drewN nq) := ⟨nq, rfl⟩
        generalize wa.drewN nq = w7 at hdr ⊢
        have HCS7 : Hid (Cells w7 wr.heap.size #[.int .i64 (r : Int), .int .u64 (dg d r), .bool false] 51) := Lib.hid (HCS.out.below (hdr.below _))
        have HBA7 : Hid (Below wr.heap.size wr w7) := Lib.hid (HBA.out.trans (hdr.below _))
        clear hdr HCS HBA b1 b2 e0 e1 e1' hsl w1 w2' w3' i1 i2 i3 i4 i5 i6 i7 i8
        have HZR : Hid (g < wr.heap.size) := Lib.hid HC.out.lt
        have hsz2 : w2.heap.size ≤ wr.heap.size := HB.out.size
        generalize hwb : wr.heap.size = wb at *
        obtain ⟨wo, rfl⟩ : ∃ x, x = wr := ⟨_, rfl⟩
        have HWB := Lib.hid hwb
        go_wp2_with fail
        go_loopw [45] (fun iv wi => ∃ j : Nat, j ≤ sl ∧ iv = .int .i64 j ∧ Cells wi wb #[.int .i64 (r : Int), .int .u64 (dg d r), .bool (((seg f ls r).take j).any (overB (dOf d) (dg d r)))] 51 ∧ Below wb wo wi) (fun iv _ => sl - (intOf iv).toNat)
        case atStart => exact ⟨0, by omega, rfl, HCS7.out, HBA7.out⟩
        case round =>
          obtain ⟨j, hj, rfl, hcs, hbo⟩ := hrel
          have HCS := Lib.hid hcs
          have HBO := Lib.hid hbo
          have HXI : Hid (Below W1.heap.size W1 wr) := Lib.hid (HXR.out.trans (HBO.out.mono (by have := HXR.out.size; omega)))
          have HB2 : Hid (Below w2.heap.size w2 wr) := Lib.hid (HB.out.trans (HBO.out.mono hsz2))
          clear HCS7 HBA7 hcs hbo
          by_cases hlj : j < sl
          · have g0 : decide ((j : Int) < (sl : Int)) = true := decide_eq_true (by omega)
            have hks : j < (seg f ls r).length := by have := HSL.out; omega
            obtain ⟨ad2, hA2, cc⟩ := (HRD.out.below HXI.out).at_ hlj
            subst hA2
            obtain ⟨c0, c1', c2', c3'⟩ := four_cells cc
            have hmem : (seg f ls r)[j] ∈ ls := List.mem_of_mem_drop (List.mem_of_mem_take (List.getElem_mem hks))
            have hik := HK.out _ hmem
            have hww := HS.out.ups.w r _ hlt (List.getElem_mem hks)
            have hup := HS.out.ups.up r _ hlt (List.getElem_mem hks)
            have htk := List.take_succ_eq_append_getElem hks
            generalize hL : (seg f ls r)[j] = L at *
            have hany : ((seg f ls r).take (j + 1)).any (overB (dOf d) (dg d r)) = (((seg f ls r).take j).any (overB (dOf d) (dg d r)) || overB (dOf d) (dg d r) L) := by rw [htk, List.any_append]; simp
            have hfo := @overB_far d L
            have hne := @overB_near d L
            have hLto := hik.to
            unfold In32 at hLto
            unfold topI at hww
            obtain ⟨t0, t1, t2, t3⟩ := L
            dsimp only at c0 c1' c2' c3' hww hup hLto hany hfo hne
            have HANY := Lib.hid hany
            have hba := (Below.refl wr.heap.size wr).alloc (Nat.le_refl _) (.cells #[.int .u32 (t0 : Int), .int .u64 t1, .int .u32 (t2 : Int), .int .u32 (t3 : Int)] 68)
            have hca := cells_new wr #[.int .u32 (t0 : Int), .int .u64 t1, .int .u32 (t2 : Int), .int .u32 (t3 : Int)] 68
            have ct0 := HSAFE.out t0
            have fr0 : 0 ≤ dg d r ∧ dg d r ≤ 9223231299366420480 := (HSAFE.out r).resolve_left hfar
            have HCx := HC2.out.below HB2.out
            have HCS8 := Lib.hid (HCS.out.below hba)
            have HBO8 : Hid (Below wb wo (wr.alloc (.cells #[.int .u32 (t0 : Int), .int .u64 t1, .int .u32 (t2 : Int), .int .u32 (t3 : Int)] 68))) := Lib.hid (HBO.out.trans (hba.mono (by have := HBO.out.size; omega)))
            have cr8 := (HCx.below hba).cell r
            rw [nA_at (by rw [HD.out.len]; exact hlt)] at cr8
            have ct8 := (HCx.below hba).cell t0
            rw [nA_at (by rw [HD.out.len]; exact hup.2)] at ct8
            have k0 := hca.cell 0
            have k1 := hca.cell 1
            have hup2 := hup.2
            have st8 := HCS8.out.cell 2
            have sf8 := HCS8.out.frozen 2
            generalize hany0 : ((seg f ls r).take j).any (overB (dOf d) (dg d r)) = st at *
            generalize hgr : dg d r = gr at *
            generalize hgt : dg d t0 = gt at *
            have hdrop : overB (dOf d) gr ⟨t0, t1, t2, t3⟩ = overB (dOf d) gr ⟨t0, t1, t2, t3⟩ := rfl
            clear cc hmem hik htk hany hL hba hca HCx hdrop
            have hlb : w2.heap.size ≤ wr.heap.size := HB2.out.size
            go_wp2_with fail
            generalize wr.alloc (.cells #[.int .u32 (t0 : Int), .int .u64 t1, .int .u32 (t2 : Int), .int .u32 (t3 : Int)] 68) = w8 at *
            generalize wr.heap.size = lb at *
            by_cases hgf : gt = farI
            · have HN : Hid (((seg f ls r).take (j + 1)).any (overB (dOf d) gr) = st) := Lib.hid (by rw [HANY.out, hfo hgf, Bool.or_false])
              clear hfo hne ct0
              obtain rfl : gt = 18446744073709551615 := hgf
              go_quiet (fail)
              have hdr : Drawn w8 (w8.drewN nq) := ⟨nq, rfl⟩
              generalize w8.drewN nq = w9 at hdr ⊢
              have HCS9 := Lib.hid (HCS8.out.below (hdr.below _))
              have HBO9 := Lib.hid (HBO8.out.trans ((hdr.below w8.heap.size).mono (by have := HBO8.out.size; omega)))
              clear hdr
              go_wp2_with fail
              go_roundw
              case rel => exact ⟨j + 1, by omega, by go_num, by rw [HN.out]; exact HCS9.out, HBO9.out⟩
              case measure => simp [intOf]; omega
            · have g1 : (gt == 18446744073709551615) = false := beq_eq_false_iff_ne.2 hgf
              have hgb := ct0.resolve_left hgf
              have hgf2 : gt ≠ 18446744073709551615 := hgf
              have hsum : IntKind.u64.wrap (gt + t1) = gt + t1 := by rw [IntKind.wrap_u64]; omega
              by_cases hlt2 : gt + t1 < gr
              · have g2 : decide (gt + t1 < gr) = true := decide_eq_true hlt2
                have HN : Hid (((seg f ls r).take (j + 1)).any (overB (dOf d) gr) = true) := Lib.hid (by rw [HANY.out, hne hgf, g2, Bool.or_true])
                clear hfo hne ct0 hgf
                go_quiet (fail)
                have hdr : Drawn w8 (w8.drewN nq) := ⟨nq, rfl⟩
                generalize w8.drewN nq = w9 at hdr ⊢
                have HCS9 := Lib.hid (HCS8.out.below (hdr.below _))
                have HBO9 := Lib.hid (HBO8.out.trans ((hdr.below w8.heap.size).mono (by have := HBO8.out.size; omega)))
                have st9 : w9.cell? ⟨wb, 2, none⟩ = some (.bool st) := HCS9.out.cell 2
                have sf9 : w9.frozen? ⟨wb, 2, none⟩ = false := HCS9.out.frozen 2
                clear hdr st8 sf8
                have HCSZ : Hid (Cells (w9.setCell ⟨wb, 2, none⟩ (.bool true)) wb #[.int .i64 (r : Int), .int .u64 gr, .bool true] 51) := Lib.hid (HCS9.out.set_ 2 (.bool true))
                have HBOZ : Hid (Below wb wo (w9.setCell ⟨wb, 2, none⟩ (.bool true))) := Lib.hid (HBO9.out.setCell (Nat.le_refl _) _)
                go_wp2_with fail
                go_roundw
                case rel => exact ⟨j + 1, by omega, by go_num, by rw [HN.out]; exact HCSZ.out, HBOZ.out⟩
                case measure => simp [intOf]; omega
              · have g2 : decide (gt + t1 < gr) = false := decide_eq_false hlt2
                have HN : Hid (((seg f ls r).take (j + 1)).any (overB (dOf d) gr) = st) := Lib.hid (by rw [HANY.out, hne hgf, g2, Bool.or_false])
                clear hfo hne ct0 hgf
                go_quiet (fail)
                have hdr : Drawn w8 (w8.drewN nq) := ⟨nq, rfl⟩
                generalize w8.drewN nq = w9 at hdr ⊢
                have HCS9 := Lib.hid (HCS8.out.below (hdr.below _))
                have HBO9 := Lib.hid (HBO8.out.trans ((hdr.below w8.heap.size).mono (by have := HBO8.out.size; omega)))
                clear hdr
                go_wp2_with fail
                go_roundw
                case rel => exact ⟨j + 1, by omega, by go_num, by rw [HN.out]; exact HCS9.out, HBO9.out⟩
                case measure => simp [intOf]; omega
          · obtain rfl : sl = j := by omega
            have hall : (seg f ls r).take sl = seg f ls r := List.take_of_length_le (by have := HSL.out; omega)
            have hst : ((seg f ls r).take sl).any (overB (dOf d) (dg d r)) = stalledB (seg f ls) (dOf d) r (dg d r) := by rw [hall]; rfl
            rw [hst] at HCS
            generalize stalledB (seg f ls) (dOf d) r (dg d r) = st at *
            have q0 : wr.cell? ⟨wb, 0, none⟩ = some (.int .i64 (r : Int)) := HCS.out.cell 0
            have q1 : wr.cell? ⟨wb, 1, none⟩ = some (.int .u64 (dg d r)) := HCS.out.cell 1
            have q2 : wr.cell? ⟨wb, 2, none⟩ = some (.bool st) := HCS.out.cell 2
            have hol : (seenTo (dOf d) (seg f ls) r).length ≤ r := seenTo_len _ _ _
            have HO5 : Hid (OwnSr wr w2.heap.size u6 (seenTo (dOf d) (seg f ls) r)) := Lib.hid (HO.out.below (by rw [hwb]; exact HBO.out))
            have hs5 : w2.heap.size ≤ wr.heap.size := HB2.out.size
            clear hall hst
            go_wp2_with (at_builtin; go_loud (refine wpList_append_rd rfl (.tmp 72) (.tmp 74) 39 rfl 51 (.agg #[.int .i64 0, .int .u64 0, .bool false]) 24 Try.underlying39 info_seenr rfl (by omega) (by omega) encSn_len encSn_one w2.heap.size _ (seenTo (dOf d) (seg f ls) r) rfl (HO5.out.below ((Below.refl _ _).alloc (Nat.le_refl _) _)) _ 1 1 [(⟨r, dg d r, st⟩ : SeenT)] rfl (rd_Sr rfl) (by omega) (by simp; omega) ?_; intro v6 w6 ho6 hg6 hat6; have HO6 := Lib.hid ho6; have HB6 : Hid (Below w2.heap.size w2 w6) := Lib.hid (below_own (HB2.out.alloc HB2.out.size _) (HO5.out.below ((Below.refl _ _).alloc (Nat.le_refl _) _)) hg6 (Nat.le_refl _) (by simp; omega)); clear ho6 hg6 hat6))
            go_roundw
            case rel => exact ⟨r + 1, by omega, by go_num, by rw [HSU2.out]; exact HO6.out, HB6.out⟩
            case measure => simp [intOf]; omega
    · obtain rfl : n = r := by omega
      obtain ⟨A2, c2', rfl, _, _⟩ := HO.out.form
      have HEND : Hid (UpIs n U (seg f ls) s W (.returned (.slice A2 (seenTo (dOf d) (seg f ls) n).length c2')) wr) := Lib.hid ⟨dOf d, A2, c2', HD.out.sol HUPS.out hn (Nat.le_refl _), rfl, HO.out.mono HZ2.out, HB1.out.trans (HXR.out.mono HB1.out.size)⟩
      go_wp2_with fail
      go_ret
      exact HEND.out
end Go.Proofs.Ytkcnnamghpdplaa

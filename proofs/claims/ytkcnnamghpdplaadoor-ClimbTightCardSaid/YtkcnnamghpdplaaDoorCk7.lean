/- sound.weave: the links as steps from each rank. (Printed by gen_weave.py.) -/
import Derived.Test.YtkcnnamghpdplaaDoorCk6
import Derived.Test.YtkcnnamghpdplaaDoorClB
import Derived.Deep.RegionHeld3
import Derived.IntWalk
set_option linter.unusedSimpArgs false
set_option linter.unusedVariables false
namespace Go.Proofs.YtkcnnamghpdplaaDoor
open Go.RowKit

theorem info_steps : (Tryd.prog.info? 125).map (fun i => (i.zero, i.size, i.bytes)) = some (some (.slice none 0 0), 1, 24) := by kernel_rfl
theorem made_steps (n : Nat) : madeCells #[Value.slice none 0 0] n = vA n (fun _ => .slice none 0 0) := by
  apply Array.toList_inj.1
  rw [toList_madeCells_one]
  unfold vA
  apply List.ext_getElem
  · simp
  · intro k h1 h2
    simp
theorem make_steps (n : Nat) (hn : n ≤ 65536) (W : World) : (Instr.makeSlice 88 (.int .i64 (n : Int)) (.int .i64 (n : Int))).run Tryd.prog W = .ok (.slice (some ⟨W.heap.size, 0, none⟩) n n) (W.alloc (.cells (vA n (fun _ => .slice none 0 0)) 125)) := by
  obtain ⟨i, hi, hz0, hz1, hz2⟩ := info_parts info_steps
  have h := run_make (P := Tryd.prog) W 88 125 i _ Tryd.underlying88 hi hz0 .i64 .i64 (n : Int) (n : Int) (by omega) (by omega) (by rw [hz2]; omega) (by omega)
  rw [h, hz1, Int.toNat_natCast, Nat.mul_one]
  exact congrArg (fun c => Result.ok (Value.slice (some ⟨W.heap.size, 0, none⟩) n n) (W.alloc (.cells c 125))) (made_steps n)
theorem web_new (w : World) (base n : Nat) : WebAt (w.alloc (.cells (vA n (fun _ => .slice none 0 0)) 125)) base w.heap.size n (fun _ => .slice none 0 0) (List.replicate n []) := by
  have h : ∀ x, (List.replicate n ([] : List StT)).getD x [] = [] := fun x => by
    rw [List.getD_eq_getElem?_getD, List.getElem?_replicate]
    split <;> rfl
  exact ⟨cells_new _ _ _, by simp, fun i hi => by rw [h]; exact Own.nil _ _ _ _ _, fun i j k _ _ h => (by cases h), fun i k _ h => (by cases h)⟩
def WeaveIs (n : Nat) (U V : Nat → List Lk) (W : World) (e : Ending) (w' : World) : Prop := ∃ G sv O, e = .returned (.agg #[.slice (some ⟨G, 0, none⟩) n n]) ∧ WebAt w' W.heap.size G n sv O ∧ Woven n O (entsTo U V n) ∧ Below W.heap.size W w' ∧ W.heap.size ≤ G
theorem ents_up (U V : Nat → List Lk) (r j : Nat) (p : List (Nat × StT)) (hj : j < (U r).length) : (p ++ ((U r).take j).map (upE r)) ++ [upE r ((U r)[j])] = p ++ ((U r).take (j + 1)).map (upE r) := by
  rw [List.take_succ_eq_append_getElem hj, List.map_append, List.append_assoc]
  rfl
theorem ents_dn (U V : Nat → List Lk) (r j : Nat) (p : List (Nat × StT)) (hj : j < (V r).length) : (p ++ ((V r).take j).map (dnE r)) ++ [dnE r ((V r)[j])] = p ++ ((V r).take (j + 1)).map (dnE r) := by
  rw [List.take_succ_eq_append_getElem hj, List.map_append, List.append_assoc]
  rfl
set_option maxRecDepth 100000 in
set_option maxHeartbeats 16000000 in
theorem weave_any (k : HV) (h : HierT) (W : World) (hp : RdH W k h) (hs : Small k h) (hin : InH h) (hU : Side h.node.length h.uf h.up) (hV : Side h.node.length h.df h.dn) :
    Calls Tryd.prog 41 #[hierV k h] W (WeaveIs h.node.length (seg h.uf h.up) (seg h.df h.dn) W) := by
  have hn := hU.n_le
  have HU := Lib.hid hU
  have HV := Lib.hid hV
  have HF1 := Lib.hid hp.r1
  have HL1 := Lib.hid hp.r2
  have HF2 := Lib.hid hp.r3
  have HL2 := Lib.hid hp.r4
  have HK1 := Lib.hid hin.i2
  have HK2 := Lib.hid hin.i4
  have HENT : Hid (∀ r, r ≤ h.node.length → (entsTo (seg h.uf h.up) (seg h.df h.dn) r).length ≤ h.up.length + h.dn.length) := Lib.hid fun r hr => ents_le hU hV r hr
  have ht1 := hs.t1
  have ht2 := hs.t2
  have ht3 := hs.t3
  have ht4 := hs.t4
  have hl1 := hU.l_le
  have hl2 := hV.l_le
  have hfl1 := hU.fl
  have hfl2 := hV.fl
  clear hU hV hp hs hin
  unfold hierV
  generalize h.node.length = n at *
  generalize h.uf = f1 at *
  generalize h.df = f2 at *
  generalize h.up = ls1 at *
  generalize h.dn = ls2 at *
  rw [hfl1] at HF1 ht1 ⊢
  rw [hfl2] at HF2 ht3 ⊢
  generalize hll1 : ls1.length = nl1 at *
  generalize hll2 : ls2.length = nl2 at *
  have HLL1 := Lib.hid hll1
  have HLL2 := Lib.hid hll2
  have hmk := make_steps n hn
  clear hfl1 hfl2 hll1 hll2
  go_enter Tryd.func41, Tryd.ntmps41
  go_upto_region 1 with fail
  have hx0 := (cells_new W #[.slice k.a0 n k.c0, .slice k.a1 (n + 1) k.c1, .slice k.a2 nl1 k.c2, .slice k.a3 (n + 1) k.c3, .slice k.a4 nl2 k.c4] 25).below (w' := (W.alloc (.cells #[.slice k.a0 n k.c0, .slice k.a1 (n + 1) k.c1, .slice k.a2 nl1 k.c2, .slice k.a3 (n + 1) k.c3, .slice k.a4 nl2 k.c4] 25)).alloc (.cells #[.slice none 0 0] 90)) ((Below.refl _ _).alloc (Nat.le_refl _) _)
  have hx1 := cells_new (W.alloc (.cells #[.slice k.a0 n k.c0, .slice k.a1 (n + 1) k.c1, .slice k.a2 nl1 k.c2, .slice k.a3 (n + 1) k.c3, .slice k.a4 nl2 k.c4] 25)) #[.slice none 0 0] 90
  have hb1 := ((Below.refl W.heap.size W).alloc (Nat.le_refl _) (.cells #[.slice k.a0 n k.c0, .slice k.a1 (n + 1) k.c1, .slice k.a2 nl1 k.c2, .slice k.a3 (n + 1) k.c3, .slice k.a4 nl2 k.c4] 25)).alloc (by simp) (.cells #[.slice none 0 0] 90)
  have hz1 : ((W.alloc (.cells #[.slice k.a0 n k.c0, .slice k.a1 (n + 1) k.c1, .slice k.a2 nl1 k.c2, .slice k.a3 (n + 1) k.c3, .slice k.a4 nl2 k.c4] 25)).alloc (.cells #[.slice none 0 0] 90)).heap.size = W.heap.size + 1 + 1 := by simp
  rw [size_alloc] at hx1
  generalize (W.alloc (.cells #[.slice k.a0 n k.c0, .slice k.a1 (n + 1) k.c1, .slice k.a2 nl1 k.c2, .slice k.a3 (n + 1) k.c3, .slice k.a4 nl2 k.c4] 25)).alloc (.cells #[.slice none 0 0] 90) = w1 at *
  have d0 : w1.cell? ⟨W.heap.size, 0, none⟩ = some (.slice k.a0 n k.c0) := hx0.cell 0
  have hwn := web_new w1 (W.heap.size + 4) n
  have hb2 : Below w1.heap.size w1 (w1.alloc (.cells (vA n (fun _ => .slice none 0 0)) 125)) := (Below.refl _ _).alloc (Nat.le_refl _) _
  have hb3 : Below (w1.alloc (.cells (vA n (fun _ => .slice none 0 0)) 125)).heap.size (w1.alloc (.cells (vA n (fun _ => .slice none 0 0)) 125)) ((w1.alloc (.cells (vA n (fun _ => .slice none 0 0)) 125)).alloc (.cells #[.slice (some ⟨w1.heap.size, 0, none⟩) n n] 90)) := (Below.refl _ _).alloc (Nat.le_refl _) _
  have hx3 := cells_new (w1.alloc (.cells (vA n (fun _ => .slice none 0 0)) 125)) #[.slice (some ⟨w1.heap.size, 0, none⟩) n n] 90
  rw [size_alloc] at hx3
  rw [hz1] at hwn hx3
  go_upto_region 2 with fail
  have hb4 := hb1.trans ((hb2.trans (hb3.mono hb2.size)).mono hb1.size)
  have hx0' := (hx0.below hb2).below hb3
  have hx1' := (hx1.below (w' := w1.alloc (.cells (vA n (fun _ => .slice none 0 0)) 125)) hb2).below hb3
  have hwn' := hwn.below hb3
  have HZ1 : Hid (w1.heap.size = W.heap.size + 1 + 1) := Lib.hid hz1
  clear hz1
  rw [HZ1.out] at hb4 hx0' hx1' hwn'
  have hz4 : ((w1.alloc (.cells (vA n (fun _ => .slice none 0 0)) 125)).alloc (.cells #[.slice (some ⟨W.heap.size + 1 + 1, 0, none⟩) n n] 90)).heap.size = W.heap.size + 4 := by
    rw [size_alloc, size_alloc, HZ1.out]
  generalize (w1.alloc (.cells (vA n (fun _ => .slice none 0 0)) 125)).alloc (.cells #[.slice (some ⟨W.heap.size + 1 + 1, 0, none⟩) n n] 90) = w4 at *
  have HB4 := Lib.hid hb4
  have HH4 := Lib.hid hx0'
  have HR4 := Lib.hid hx1'
  have HX4 := Lib.hid hx3
  have HW4 := Lib.hid hwn'
  clear hb1 hb2 hb3 hb4 hx0 hx0' hx1 hx1' hx3 hwn hwn' d0 hmk HZ1
  obtain ⟨X, hX⟩ : ∃ X, W.heap.size + 1 + 1 + 1 = X := ⟨_, rfl⟩
  obtain ⟨G, hG⟩ : ∃ G, W.heap.size + 1 + 1 = G := ⟨_, rfl⟩
  obtain ⟨R, hR⟩ : ∃ R, W.heap.size + 1 = R := ⟨_, rfl⟩
  obtain ⟨B, hB⟩ : ∃ B, W.heap.size + 4 = B := ⟨_, rfl⟩
  rw [hX] at HX4 ⊢
  rw [hG] at HW4 HX4 ⊢
  rw [hR] at HR4 ⊢
  rw [hB] at HW4 hz4
  have hWR : W.heap.size < R := by omega
  have hRG : R < G := by omega
  have hGX : G < X := by omega
  have hXB : X < B := by omega
  have n1 : ¬ G = X := by omega
  have n2 : ¬ X = G := by omega
  have HZ4 := Lib.hid hz4
  clear hX hG hR hB hz4
  have d0 : w4.cell? ⟨W.heap.size, 0, none⟩ = some (.slice k.a0 n k.c0) := HH4.out.cell 0
  go_wp2_with fail
  clear d0
  go_loopw [17] (fun iv wr => ∃ (r : Nat) (sv : Nat → Value) (O : List (List StT)), r ≤ n ∧ iv = .int .i64 r ∧ WebAt wr B G n sv O ∧ Woven n O (entsTo (seg f1 ls1) (seg f2 ls2) r) ∧ Cells wr X #[.slice (some ⟨G, 0, none⟩) n n] 90 ∧ Cells wr R #[.slice none 0 0] 90 ∧ Below R w4 wr) (fun iv _ => n - (intOf iv).toNat)
  case atStart => exact ⟨0, _, _, by omega, rfl, HW4.out, Woven.start n, HX4.out, HR4.out, Below.refl _ _⟩
  case round =>
    obtain ⟨r, sv, O, hr, rfl, hw, ho, hx, hrr, hb⟩ := hrel
    have HWB := Lib.hid hw
    have HWO := Lib.hid ho
    have HX := Lib.hid hx
    have HR := Lib.hid hrr
    have HB := Lib.hid hb
    clear hw ho hx hrr hb HW4 HX4 HR4
    by_cases hlt : r < n
    · have g0 : decide ((r : Int) < (n : Int)) = true := decide_eq_true (by omega)
      have i1 : (0 : Int) ≤ (r : Int) := by omega
      have i2 : (r : Int) < (n : Int) := by omega
      have b1 : wr.cell? ⟨W.heap.size, 1, none⟩ = some (.slice k.a1 (n + 1) k.c1) := Cells.cell ((HB.out.block W.heap.size hWR).trans HH4.out) 1
      have b2 : wr.cell? ⟨W.heap.size, 2, none⟩ = some (.slice k.a2 nl1 k.c2) := Cells.cell ((HB.out.block W.heap.size hWR).trans HH4.out) 2
      have HBW := Lib.hid (HB4.out.trans (HB.out.mono (show W.heap.size ≤ R by omega)))
      obtain ⟨ad, hA, e0, e1⟩ := two_firsts (HF1.out.below HBW.out) hlt
      rw [hA] at b1
      have e1' : wr.cell? ⟨ad.block, ad.off + (r + 1), none⟩ = some (.int .u32 (f1.getD (r + 1) 0 : Nat)) := e1
      have hmono := HU.out.mono r hlt
      rw [HLL1.out] at hmono
      have hslen := HU.out.len hlt
      have hsl := fun w => slice_links k.a2 nl1 k.c2 (f1.getD r 0) (f1.getD (r + 1) 0) hmono.1 (by omega) w
      have hrd := rd_seg HU.out hlt (by rw [HLL1.out]; exact HL1.out) (by rw [HLL1.out]; exact ht2.1)
      generalize (if k.c2 = f1.getD r 0 then k.a2 else k.a2.map (·.add (f1.getD r 0 * 4))) = AA at hsl hrd
      generalize f1.getD r 0 = lo at *
      generalize f1.getD (r + 1) 0 = hi at *
      obtain ⟨sl, hsl2⟩ : ∃ sl, hi - lo = sl := ⟨_, rfl⟩
      rw [hsl2] at hsl hrd hslen
      have HRD := Lib.hid hrd
      have HSL := Lib.hid hslen
      have hlo : lo ≤ 1048576 := by omega
      have hhi : hi ≤ 1048576 := by omega
      have hsle : sl ≤ 1048576 := by omega
      have hlh : lo ≤ hi := hmono.1
      have hhn : hi ≤ nl1 := hmono.2
      have w1' : IntKind.i64.wrap ((r : Int) + 1) = (r : Int) + 1 := by rw [IntKind.wrap_i64]; omega
      have w2' : (0 : Int) ≤ (r : Int) + 1 := by omega
      have w3' : ((r : Int) + 1).toNat = r + 1 := by omega
      have hcap : n + 1 ≤ k.c1 := ht1.1
      have j2 : (r : Int) < (n : Int) + 1 := by omega
      have j3 : (r : Int) + 1 < (n : Int) + 1 := by omega
      have j4 : (r : Int) < ((n + 1 : Nat) : Int) := by omega
      have j5 : (r : Int) + 1 < ((n + 1 : Nat) : Int) := by omega
      have j6 : (0 : Int) ≤ (lo : Int) := by omega
      have j7 : (lo : Int) ≤ (hi : Int) := by omega
      have j8 : (hi : Int) ≤ (k.c2 : Int) := by omega
      clear hmono hrd hslen hsl2 hA
      go_wp2_with fail
      go_quiet (fail)
      have hdr : Drawn wr (wr.drewN nq) := ⟨nq, rfl⟩
      generalize wr.drewN nq = w7 at hdr ⊢
      have HWB7 := Lib.hid (HWB.out.below (hdr.below _))
      have HX7 := Lib.hid (HX.out.below (hdr.below _))
      have HR7 := Lib.hid (HR.out.below (hdr.below _))
      have HB7 := Lib.hid (HB.out.trans (hdr.below _))
      clear hdr HWB HX HR HB b1 b2 e0 e1 e1' hsl w1' w2' w3' j2 j3 j4 j5 j6 j7 j8 HBW
      go_wp2_with fail
      go_loopw [35] (fun jv wi => ∃ (j : Nat) (sv : Nat → Value) (O : List (List StT)), j ≤ sl ∧ jv = .int .i64 j ∧ WebAt wi B G n sv O ∧ Woven n O (entsTo (seg f1 ls1) (seg f2 ls2) r ++ ((seg f1 ls1 r).take j).map (upE r)) ∧ Cells wi X #[.slice (some ⟨G, 0, none⟩) n n] 90 ∧ Cells wi R #[.slice none 0 0] 90 ∧ Below R w4 wi) (fun jv _ => sl - (intOf jv).toNat)
      case atStart => exact ⟨0, _, _, by omega, rfl, HWB7.out, by rw [List.take_zero, List.map_nil, List.append_nil]; exact HWO.out, HX7.out, HR7.out, HB7.out⟩
      case round =>
        clear HWB7 HX7 HR7 HB7 HWO
        obtain ⟨j, sv, O, hj, rfl, hw, ho, hx, hrr, hb⟩ := hrel
        have HWB := Lib.hid hw
        have HWO := Lib.hid ho
        have HX := Lib.hid hx
        have HR := Lib.hid hrr
        have HB := Lib.hid hb
        clear hw ho hx hrr hb
        by_cases hlj : j < sl
        · have g1 : decide ((j : Int) < (sl : Int)) = true := decide_eq_true (by omega)
          have hks : j < (seg f1 ls1 r).length := by have := HSL.out; omega
          obtain ⟨ad2, hA2, cc⟩ := (HRD.out.below (HB4.out.trans (HB.out.mono (show W.heap.size ≤ R by omega)))).at_ hlj
          subst hA2
          obtain ⟨c0, c1', c2', c3'⟩ := four_cells cc
          have hmem : (seg f1 ls1 r)[j] ∈ ls1 := List.mem_of_mem_drop (List.mem_of_mem_take (List.getElem_mem hks))
          have hik := HK1.out _ hmem
          have hww := HU.out.ups.w r _ hlt (List.getElem_mem hks)
          have hup := HU.out.ups.up r _ hlt (List.getElem_mem hks)
          have hent := ents_up (seg f1 ls1) (seg f2 ls2) r j (entsTo (seg f1 ls1) (seg f2 ls2) r) hks
          have hple : (entsTo (seg f1 ls1) (seg f2 ls2) r ++ ((seg f1 ls1 r).take j).map (upE r)).length ≤ 4194304 := by
            have h1 := HENT.out r hr
            have h3 := HU.out.len hlt
            have h4 := HU.out.mono r hlt
            have h5 := HU.out.len hlt
            have h6 := HU.out.mono r hlt
            rw [HLL1.out] at h4
            rw [HLL1.out] at h6
            simp only [List.length_append, List.length_map, List.length_take]
            omega
          generalize hL : (seg f1 ls1 r)[j] = L at *
          have hLto := hik.to
          unfold In32 at hLto
          unfold topI at hww
          obtain ⟨t0, t1, t2, t3⟩ := L
          dsimp only at c0 c1' c2' c3' hww hup hLto
          have HENTS := Lib.hid hent
          have HPLE := Lib.hid hple
          clear cc hmem hik hent hple hL
          go_upto_region 8 with fail
          have hb8 := (Below.refl wr.heap.size wr).alloc (Nat.le_refl _) (.cells #[.int .u32 (t0 : Int), .int .u64 t1, .int .u32 (t2 : Int), .int .u32 (t3 : Int)] 52)
          have hc8 := cells_new wr #[.int .u32 (t0 : Int), .int .u64 t1, .int .u32 (t2 : Int), .int .u32 (t3 : Int)] 52
          have hown8 : ∀ x g, x < n → (sv x).ownBlock = some g → g < wr.heap.size := fun x g hx hg => ((HWB.out.own x hx).block hg).2
          have HWB8 := Lib.hid (HWB.out.below hb8)
          have HX8 := Lib.hid (HX.out.below hb8)
          have HR8 := Lib.hid (HR.out.below hb8)
          have HB8 := Lib.hid (HB.out.trans (hb8.mono (by have := HB.out.size; rw [HZ4.out] at this; omega)))
          have hzb : B ≤ wr.heap.size := by have := HB.out.size; rw [HZ4.out] at this; exact this
          clear hb8 c0 c1' c2' c3' HWB HX HR HB
          generalize wr.alloc (.cells #[.int .u32 (t0 : Int), .int .u64 t1, .int .u32 (t2 : Int), .int .u32 (t3 : Int)] 52) = w8 at *
          generalize wr.heap.size = lb at *
          have k0 : w8.cell? ⟨lb, 0, none⟩ = some (.int .u32 (t0 : Int)) := hc8.cell 0
          have k1 : w8.cell? ⟨lb, 1, none⟩ = some (.int .u64 t1) := hc8.cell 1
          have x0 : w8.cell? ⟨X, 0, none⟩ = some (.slice (some ⟨G, 0, none⟩) n n) := HX8.out.cell 0
          have n3 : ¬ G = lb := by omega
          have n4 : ¬ lb = G := by omega
          have hlbl := hc8.lt
          obtain ⟨x, hx⟩ : ∃ x, r = x := ⟨_, rfl⟩
          have hxn : x < n := by omega
          have HOL := Lib.hid (HWB8.out.own x hxn)
          have hol := HWO.out.le x
          have HADD := Lib.hid (HWO.out.add hxn ⟨t0, t1⟩)
          have q1 : w8.cell? ⟨G, x, none⟩ = some (sv x) := by rw [HWB8.out.rows.cell x, vA_at _ hxn]
          have q2 := HWB8.out.rows.frozen x
          generalize hO : O.getD x [] = ol at *
          have HLE : Hid (ol.length ≤ 4194304) := Lib.hid (Nat.le_trans hol HPLE.out)
          have x1 : (0 : Int) ≤ (x : Int) := by omega
          have x2 : (x : Int) < (n : Int) := by omega
          obtain ⟨v, hv⟩ : ∃ v, sv x = v := ⟨_, rfl⟩
          rw [hv] at q1 HOL
          have HV' := Lib.hid hv
          have HDA : Hid (∀ o, Below w8.heap.size w8 (w8.drew.alloc o)) := Lib.hid fun o => (Below.drew (Below.refl _ _)).alloc (Nat.le_refl _) _
          have hsz8 : lb < w8.heap.size := hlbl
          have hoB : ∀ g, v.ownBlock = some g → B ≤ g ∧ g < w8.heap.size := fun g hg => HOL.out.block hg
          have hsl8 : B ≤ w8.heap.size := by omega
          have HKL := Lib.hid hc8
          have n5 : v.ownBlock ≠ some lb := fun h => by have := hown8 x lb hxn (by rw [HV'.out]; exact h); omega
          clear hol hO hv hc8
          subst hx
          obtain ⟨jl, hjl⟩ : ∃ jl, ol ++ [(⟨t0, t1⟩ : StT)] = jl := ⟨_, rfl⟩
          rw [hjl] at HADD
          have HJL := Lib.hid hjl
          clear hjl
          have HNW : Hid (Woven n (O.set (r) jl) (entsTo (seg f1 ls1) (seg f2 ls2) r ++ ((seg f1 ls1 r).take (j + 1)).map (upE r))) := Lib.hid (by rw [← HENTS.out]; exact HADD.out)
          have hwt : IntKind.i64.wrap (t0 : Int) = (t0 : Int) := by rw [IntKind.wrap_i64]; omega
          obtain ⟨wA, hwA⟩ : ∃ wA, (w8.alloc (.cells #[.int .i64 (t0 : Int), .int .u64 t1] 127)).drew = wA := ⟨_, rfl⟩
          have hda := Below.drew (Below.refl w8.heap.size w8)
          have haa : Below w8.heap.size w8 wA := by rw [← hwA]; exact Below.drew ((Below.refl _ _).alloc (Nat.le_refl _) _)
          have x0d := cell_below hda x0
          have k0d := cell_below hda k0
          have k1d := cell_below hda k1
          have q1d := cell_below hda q1
          have x0a := cell_below haa x0
          have k0a := cell_below haa k0
          have k1a := cell_below haa k1
          have q1a := cell_below haa q1
          have hza : w8.heap.size ≤ wA.heap.size := haa.size
          have HWBA := Lib.hid (HWB8.out.below haa)
          have HRD' : Hid (Rd 2 encSt wA (some ⟨w8.heap.size, 0, none⟩) 1 [(⟨t0, t1⟩ : StT)]) := Lib.hid (by rw [← hwA]; exact (rd_step (x := ⟨t0, t1⟩) rfl).below (Below.drew (Below.refl _ _)))
          have HOA := Lib.hid (HOL.out.below haa)
          have HXA := Lib.hid (HX8.out.below haa)
          have HRA := Lib.hid (HR8.out.below haa)
          have HBA := Lib.hid (HB8.out.trans (haa.mono (show R ≤ w8.heap.size by omega)))
          have HWA := Lib.hid hwA
          clear hda haa hwA x0 k0 k1 q1 q2
          refine wp_region_held_drew (S := (fun w' => w'.cell? ⟨X, 0, none⟩ = some (.slice (some ⟨G, 0, none⟩) n n) ∧ w'.cell? ⟨lb, 0, none⟩ = some (.int .u32 (t0 : Int)) ∧ w'.cell? ⟨lb, 1, none⟩ = some (.int .u64 t1))) (by kernel_rfl) ?_ (fun hHeld => ?_)
          · exact ⟨x0d, k0d, k1d⟩
          refine wpAnyH_take (i := 0) (v := ?vf10) rfl (by kernel_rfl) (by kernel_rfl) (by kernel_rfl) (fun _ _ _ h => h) (Or.inl ⟨by rfl, ?hyf10⟩) hHeld ?_
          case hyf10 => (intro w hSw; (try dsimp only at hSw); go_simp; try with_reducible rfl)
          simp only [Act.put, List.setIfInBounds_toArray, List.set_cons_zero, List.set_cons_succ, List.getElem_toArray, List.getElem_cons_zero, List.getElem_cons_succ]
          refine wpAnyH_take (i := 1) (v := ?vf11) rfl (by kernel_rfl) (by kernel_rfl) (by kernel_rfl) (fun _ _ _ h => h) (Or.inl ⟨by rfl, ?hyf11⟩) hHeld ?_
          case hyf11 => (intro w hSw; (try dsimp only at hSw); go_simp; try with_reducible rfl)
          simp only [Act.put, List.setIfInBounds_toArray, List.set_cons_zero, List.set_cons_succ, List.getElem_toArray, List.getElem_cons_zero, List.getElem_cons_succ]
          refine wpAnyH_take (i := 2) (v := ?vf12) rfl (by kernel_rfl) (by kernel_rfl) (by kernel_rfl) (fun _ _ _ h => h) (Or.inl ⟨by rfl, ?hyf12⟩) hHeld ?_
          case hyf12 => (intro w hSw; (try dsimp only at hSw); go_simp; try with_reducible rfl)
          simp only [Act.put, List.setIfInBounds_toArray, List.set_cons_zero, List.set_cons_succ, List.getElem_toArray, List.getElem_cons_zero, List.getElem_cons_succ]
          refine wpAnyH_take (i := 3) (v := ?vf13) rfl (by kernel_rfl) (by kernel_rfl) (by kernel_rfl) (fun _ _ _ h => h) (Or.inl ⟨by rfl, ?hyf13⟩) hHeld ?_
          case hyf13 => (intro w hSw; (try dsimp only at hSw); go_simp; try with_reducible rfl)
          simp only [Act.put, List.setIfInBounds_toArray, List.set_cons_zero, List.set_cons_succ, List.getElem_toArray, List.getElem_cons_zero, List.getElem_cons_succ]
          refine wpAnyH_take (i := 4) (v := ?vf14) rfl (by kernel_rfl) (by kernel_rfl) (by kernel_rfl) (fun _ _ _ h => h) (Or.inl ⟨by rfl, ?hyf14⟩) hHeld ?_
          case hyf14 => (intro w hSw; (try dsimp only at hSw); go_simp; try with_reducible rfl)
          simp only [Act.put, List.setIfInBounds_toArray, List.set_cons_zero, List.set_cons_succ, List.getElem_toArray, List.getElem_cons_zero, List.getElem_cons_succ]
          refine wpAnyH_take (i := 5) (v := ?vf15) rfl (by kernel_rfl) (by kernel_rfl) (by kernel_rfl) (fun _ _ _ h => h) (Or.inl ⟨by rfl, ?hyf15⟩) hHeld ?_
          case hyf15 => (intro w hSw; (try dsimp only at hSw); go_simp; try with_reducible rfl)
          simp only [Act.put, List.setIfInBounds_toArray, List.set_cons_zero, List.set_cons_succ, List.getElem_toArray, List.getElem_cons_zero, List.getElem_cons_succ]
          refine wpAnyH_take (i := 6) (v := ?vf16) rfl (by kernel_rfl) (by kernel_rfl) (by kernel_rfl) (fun _ _ _ h => h) (Or.inl ⟨by rfl, ?hyf16⟩) hHeld ?_
          case hyf16 => (intro w hSw; (try dsimp only at hSw); go_simp; try with_reducible rfl)
          simp only [Act.put, List.setIfInBounds_toArray, List.set_cons_zero, List.set_cons_succ, List.getElem_toArray, List.getElem_cons_zero, List.getElem_cons_succ]
          refine wpAnyH_take (i := 8) (v := ?vf18) rfl (by kernel_rfl) (by kernel_rfl) (by kernel_rfl) (fun _ _ _ h => h) (Or.inl ⟨by rfl, ?hyf18⟩) hHeld ?_
          case hyf18 => (intro w hSw; (try dsimp only at hSw); go_simp; try with_reducible rfl)
          simp only [Act.put, List.setIfInBounds_toArray, List.set_cons_zero, List.set_cons_succ, List.getElem_toArray, List.getElem_cons_zero, List.getElem_cons_succ]
          refine wpAnyH_take (i := 9) (v := ?vf19) rfl (by kernel_rfl) (by kernel_rfl) (by kernel_rfl) (fun _ _ _ h => h) (Or.inl ⟨by rfl, ?hyf19⟩) hHeld ?_
          case hyf19 => (intro w hSw; (try dsimp only at hSw); go_simp; try with_reducible rfl)
          simp only [Act.put, List.setIfInBounds_toArray, List.set_cons_zero, List.set_cons_succ, List.getElem_toArray, List.getElem_cons_zero, List.getElem_cons_succ]
          refine wpAnyH_take (i := 10) (v := ?vf110) rfl (by kernel_rfl) (by kernel_rfl) (by kernel_rfl) (fun _ _ _ h => h) (Or.inl ⟨by rfl, ?hyf110⟩) hHeld ?_
          case hyf110 => (intro w hSw; (try dsimp only at hSw); go_simp; try with_reducible rfl)
          simp only [Act.put, List.setIfInBounds_toArray, List.set_cons_zero, List.set_cons_succ, List.getElem_toArray, List.getElem_cons_zero, List.getElem_cons_succ]
          refine wpAnyH_take (i := 11) (v := ?vf111) rfl (by kernel_rfl) (by kernel_rfl) (by kernel_rfl) (fun _ _ _ h => h) (Or.inl ⟨by rfl, ?hyf111⟩) hHeld ?_
          case hyf111 => (intro w hSw; (try dsimp only at hSw); go_simp; try with_reducible rfl)
          simp only [Act.put, List.setIfInBounds_toArray, List.set_cons_zero, List.set_cons_succ, List.getElem_toArray, List.getElem_cons_zero, List.getElem_cons_succ]
          refine wpAnyH_take (i := 12) (v := ?vf112) rfl (by kernel_rfl) (by kernel_rfl) (by kernel_rfl) (fun _ _ _ h => h) (Or.inl ⟨by rfl, ?hyf112⟩) hHeld ?_
          case hyf112 => (intro w hSw; (try dsimp only at hSw); go_simp; try with_reducible rfl)
          simp only [Act.put, List.setIfInBounds_toArray, List.set_cons_zero, List.set_cons_succ, List.getElem_toArray, List.getElem_cons_zero, List.getElem_cons_succ]
          refine wpAnyH_take (i := 13) (v := ?vf113) rfl (by kernel_rfl) (by kernel_rfl) (by kernel_rfl) (fun _ _ _ h => h) (Or.inl ⟨by rfl, ?hyf113⟩) hHeld ?_
          case hyf113 => (intro w hSw; (try dsimp only at hSw); go_simp; try with_reducible rfl)
          simp only [Act.put, List.setIfInBounds_toArray, List.set_cons_zero, List.set_cons_succ, List.getElem_toArray, List.getElem_cons_zero, List.getElem_cons_succ]
          refine wpAnyH_ready (rs := [7, 14]) (by kernel_rfl) (by simp) (AllReadyH.cons rfl (fun K hK => ?_) (AllReadyH.cons rfl (fun K hK => ?_) AllReadyH.nil))
          · rw [if_pos (by rfl)]
            go_simp
            refine hK.out _ _ ⟨x0d, k0d, k1d⟩ (fun hHeld => ?_)
            clear hK K
            try simp only [Act.put, List.setIfInBounds_toArray, List.set_cons_zero, List.set_cons_succ, List.getElem_toArray, List.getElem_cons_zero, List.getElem_cons_succ]
            refine wpAnyH_ready (rs := [14]) (by kernel_rfl) (by simp) (AllReadyH.cons rfl (fun K hK => ?_) AllReadyH.nil)
            rw [if_pos (by rfl)]
            go_simp
            rw [HWA.out]
            refine hK.out _ _ ⟨x0a, k0a, k1a⟩ (fun hHeld => ?_)
            clear hK K
            try simp only [Act.put, List.setIfInBounds_toArray, List.set_cons_zero, List.set_cons_succ, List.getElem_toArray, List.getElem_cons_zero, List.getElem_cons_succ]
            refine wpAnyH_ready (rs := [15]) (by kernel_rfl) (by simp) (AllReadyH.cons rfl (fun K hK => ?_) AllReadyH.nil)
            rw [if_pos (by rfl)]
            refine oper_append_rd (.tmp 46) (.tmp 53) 125 rfl 127 (.agg #[.int .i64 0, .int .u64 0]) 16 Tryd.underlying125 info_step rfl (by omega) (by omega) encSt_len encSt_one B _ ol rfl HOA.out _ 1 1 [(⟨t0, t1⟩ : StT)] rfl HRD'.out (by have := HLE.out; omega) (by omega) ?_
            intro v6 w6 ho6 hg6 hat6
            rw [HJL.out] at ho6
            obtain ⟨A6, c6, rfl, h6c, h6m⟩ := ho6.form
            have x06 := hg6.cell x0a (fun h => absurd (hoB _ h.symm).1 (show ¬ B ≤ X by omega))
            have k06 := hg6.cell k0a (by intro h; exact n5 h.symm)
            have k16 := hg6.cell k1a (by intro h; exact n5 h.symm)
            have hG6 : Cells w6 G (vA n sv) 125 := (hg6.block G HWBA.out.rows.lt (fun h => absurd (hoB _ h.symm).1 (show ¬ B ≤ G by omega))).trans HWBA.out.rows
            have q16 : w6.cell? ⟨G, r, none⟩ = some v := by rw [hG6.cell, vA_at _ hxn, HV'.out]
            have q26 := hG6.frozen r
            have hkA := hg6
            have hxg6 := hg6.block X HXA.out.lt (fun h => absurd (hoB _ h.symm).1 (show ¬ B ≤ X by omega))
            have hrg6 : w6.heap[R]? = wA.heap[R]? := hg6.block R HRA.out.lt (fun h => absurd (hoB _ h.symm).1 (show ¬ B ≤ R by omega))
            have HX6 := Lib.hid ((Cells.far (hxg6.trans HXA.out) (k := G) r (.slice A6 jl.length c6) n2))
            have HR6 := Lib.hid ((Cells.far (hrg6.trans HRA.out) (k := G) r (.slice A6 jl.length c6) (show R ≠ G by omega)))
            have HB6 : Hid (Below R w4 (w6.setCell ⟨G, r, none⟩ (.slice A6 jl.length c6))) := Lib.hid ((below_own HBA.out HOA.out hg6 (show R ≤ B by omega) (by omega)).setCell (p := ⟨G, r, none⟩) (show R ≤ G by omega) _)
            clear hG6 hkA hxg6 hrg6
            have hwb := WebAt.append HWBA.out hxn (by rw [HV'.out]; exact hg6) ho6 (by rw [HV'.out]; exact hat6)
            have HWB6 := Lib.hid hwb
            clear hwb
            refine hK.out _ _ ⟨x06, k06, k16⟩ (fun hHeld => ?_)
            clear hK K
            try simp only [Act.put, List.setIfInBounds_toArray, List.set_cons_zero, List.set_cons_succ, List.getElem_toArray, List.getElem_cons_zero, List.getElem_cons_succ]
            refine wpAnyH_take (i := 16) (v := ?vf116) rfl (by kernel_rfl) (by kernel_rfl) (by kernel_rfl) (fun _ _ _ h => h) (Or.inl ⟨by rfl, ?hyf116⟩) hHeld ?_
            case hyf116 => (intro w hSw; (try dsimp only at hSw); go_simp; try with_reducible rfl)
            simp only [Act.put, List.setIfInBounds_toArray, List.set_cons_zero, List.set_cons_succ, List.getElem_toArray, List.getElem_cons_zero, List.getElem_cons_succ]
            refine wpAnyH_ready (rs := [17]) (by kernel_rfl) (by simp) (AllReadyH.cons rfl (fun K hK => ?_) AllReadyH.nil)
            rw [if_pos (by rfl)]
            go_simp
            have x07 : (w6.setCell ⟨G, r, none⟩ (.slice A6 jl.length c6)).cell? ⟨X, 0, none⟩ = some (.slice (some ⟨G, 0, none⟩) n n) := HX6.out.cell 0
            have k07 : (w6.setCell ⟨G, r, none⟩ (.slice A6 jl.length c6)).cell? ⟨lb, 0, none⟩ = some (.int .u32 (t0 : Int)) := (World.cell?_setCell_other _ _ _ _ (fun e => n3 (congrArg Addr.block e))).trans k06
            have k17 : (w6.setCell ⟨G, r, none⟩ (.slice A6 jl.length c6)).cell? ⟨lb, 1, none⟩ = some (.int .u64 t1) := (World.cell?_setCell_other _ _ _ _ (fun e => n3 (congrArg Addr.block e))).trans k16
            refine hK.out _ _ ⟨x07, k07, k17⟩ (fun hHeld => ?_)
            clear hK K
            try simp only [Act.put, List.setIfInBounds_toArray, List.set_cons_zero, List.set_cons_succ, List.getElem_toArray, List.getElem_cons_zero, List.getElem_cons_succ]
            refine wpAnyH_done (by kernel_rfl) ?_ _
            clear x06 k06 k16 q16 q26 x07 k07 k17 hHeld
            go_wp2_with fail
            go_roundw
            case rel => exact ⟨j + 1, _, _, by omega, by go_num, HWB6.out, HNW.out, HX6.out, HR6.out, HB6.out⟩
            case measure => simp [intOf]; omega
          · rw [if_pos (by rfl)]
            go_simp
            rw [HWA.out]
            refine hK.out _ _ ⟨x0a, k0a, k1a⟩ (fun hHeld => ?_)
            clear hK K
            try simp only [Act.put, List.setIfInBounds_toArray, List.set_cons_zero, List.set_cons_succ, List.getElem_toArray, List.getElem_cons_zero, List.getElem_cons_succ]
            refine wpAnyH_ready (rs := [7]) (by kernel_rfl) (by simp) (AllReadyH.cons rfl (fun K hK => ?_) AllReadyH.nil)
            rw [if_pos (by rfl)]
            go_simp
            refine hK.out _ _ ⟨x0a, k0a, k1a⟩ (fun hHeld => ?_)
            clear hK K
            try simp only [Act.put, List.setIfInBounds_toArray, List.set_cons_zero, List.set_cons_succ, List.getElem_toArray, List.getElem_cons_zero, List.getElem_cons_succ]
            refine wpAnyH_ready (rs := [15]) (by kernel_rfl) (by simp) (AllReadyH.cons rfl (fun K hK => ?_) AllReadyH.nil)
            rw [if_pos (by rfl)]
            refine oper_append_rd (.tmp 46) (.tmp 53) 125 rfl 127 (.agg #[.int .i64 0, .int .u64 0]) 16 Tryd.underlying125 info_step rfl (by omega) (by omega) encSt_len encSt_one B _ ol rfl HOA.out _ 1 1 [(⟨t0, t1⟩ : StT)] rfl HRD'.out (by have := HLE.out; omega) (by omega) ?_
            intro v6 w6 ho6 hg6 hat6
            rw [HJL.out] at ho6
            obtain ⟨A6, c6, rfl, h6c, h6m⟩ := ho6.form
            have x06 := hg6.cell x0a (fun h => absurd (hoB _ h.symm).1 (show ¬ B ≤ X by omega))
            have k06 := hg6.cell k0a (by intro h; exact n5 h.symm)
            have k16 := hg6.cell k1a (by intro h; exact n5 h.symm)
            have hG6 : Cells w6 G (vA n sv) 125 := (hg6.block G HWBA.out.rows.lt (fun h => absurd (hoB _ h.symm).1 (show ¬ B ≤ G by omega))).trans HWBA.out.rows
            have q16 : w6.cell? ⟨G, r, none⟩ = some v := by rw [hG6.cell, vA_at _ hxn, HV'.out]
            have q26 := hG6.frozen r
            have hkA := hg6
            have hxg6 := hg6.block X HXA.out.lt (fun h => absurd (hoB _ h.symm).1 (show ¬ B ≤ X by omega))
            have hrg6 : w6.heap[R]? = wA.heap[R]? := hg6.block R HRA.out.lt (fun h => absurd (hoB _ h.symm).1 (show ¬ B ≤ R by omega))
            have HX6 := Lib.hid ((Cells.far (hxg6.trans HXA.out) (k := G) r (.slice A6 jl.length c6) n2))
            have HR6 := Lib.hid ((Cells.far (hrg6.trans HRA.out) (k := G) r (.slice A6 jl.length c6) (show R ≠ G by omega)))
            have HB6 : Hid (Below R w4 (w6.setCell ⟨G, r, none⟩ (.slice A6 jl.length c6))) := Lib.hid ((below_own HBA.out HOA.out hg6 (show R ≤ B by omega) (by omega)).setCell (p := ⟨G, r, none⟩) (show R ≤ G by omega) _)
            clear hG6 hkA hxg6 hrg6
            have hwb := WebAt.append HWBA.out hxn (by rw [HV'.out]; exact hg6) ho6 (by rw [HV'.out]; exact hat6)
            have HWB6 := Lib.hid hwb
            clear hwb
            refine hK.out _ _ ⟨x06, k06, k16⟩ (fun hHeld => ?_)
            clear hK K
            try simp only [Act.put, List.setIfInBounds_toArray, List.set_cons_zero, List.set_cons_succ, List.getElem_toArray, List.getElem_cons_zero, List.getElem_cons_succ]
            refine wpAnyH_take (i := 16) (v := ?vf116) rfl (by kernel_rfl) (by kernel_rfl) (by kernel_rfl) (fun _ _ _ h => h) (Or.inl ⟨by rfl, ?hyf116⟩) hHeld ?_
            case hyf116 => (intro w hSw; (try dsimp only at hSw); go_simp; try with_reducible rfl)
            simp only [Act.put, List.setIfInBounds_toArray, List.set_cons_zero, List.set_cons_succ, List.getElem_toArray, List.getElem_cons_zero, List.getElem_cons_succ]
            refine wpAnyH_ready (rs := [17]) (by kernel_rfl) (by simp) (AllReadyH.cons rfl (fun K hK => ?_) AllReadyH.nil)
            rw [if_pos (by rfl)]
            go_simp
            have x07 : (w6.setCell ⟨G, r, none⟩ (.slice A6 jl.length c6)).cell? ⟨X, 0, none⟩ = some (.slice (some ⟨G, 0, none⟩) n n) := HX6.out.cell 0
            have k07 : (w6.setCell ⟨G, r, none⟩ (.slice A6 jl.length c6)).cell? ⟨lb, 0, none⟩ = some (.int .u32 (t0 : Int)) := (World.cell?_setCell_other _ _ _ _ (fun e => n3 (congrArg Addr.block e))).trans k06
            have k17 : (w6.setCell ⟨G, r, none⟩ (.slice A6 jl.length c6)).cell? ⟨lb, 1, none⟩ = some (.int .u64 t1) := (World.cell?_setCell_other _ _ _ _ (fun e => n3 (congrArg Addr.block e))).trans k16
            refine hK.out _ _ ⟨x07, k07, k17⟩ (fun hHeld => ?_)
            clear hK K
            try simp only [Act.put, List.setIfInBounds_toArray, List.set_cons_zero, List.set_cons_succ, List.getElem_toArray, List.getElem_cons_zero, List.getElem_cons_succ]
            refine wpAnyH_done (by kernel_rfl) ?_ _
            clear x06 k06 k16 q16 q26 x07 k07 k17 hHeld
            go_wp2_with fail
            go_roundw
            case rel => exact ⟨j + 1, _, _, by omega, by go_num, HWB6.out, HNW.out, HX6.out, HR6.out, HB6.out⟩
            case measure => simp [intOf]; omega
        · obtain rfl : sl = j := by omega
          have HWO2 : Hid (Woven n O (entsTo (seg f1 ls1) (seg f2 ls2) r ++ (seg f1 ls1 r).map (upE r))) := Lib.hid (by have h := HWO.out; rwa [List.take_of_length_le (by rw [HSL.out]; exact Nat.le_refl _)] at h)
          clear HWO
          have HWO := HWO2
          clear HWO2
          generalize wr = wo at *

          have b1 : wo.cell? ⟨W.heap.size, 3, none⟩ = some (.slice k.a3 (n + 1) k.c3) := Cells.cell ((HB.out.block W.heap.size hWR).trans HH4.out) 3
          have b2 : wo.cell? ⟨W.heap.size, 4, none⟩ = some (.slice k.a4 nl2 k.c4) := Cells.cell ((HB.out.block W.heap.size hWR).trans HH4.out) 4
          have HBW := Lib.hid (HB4.out.trans (HB.out.mono (show W.heap.size ≤ R by omega)))
          obtain ⟨ad, hA, e0, e1⟩ := two_firsts (HF2.out.below HBW.out) hlt
          rw [hA] at b1
          have e1' : wo.cell? ⟨ad.block, ad.off + (r + 1), none⟩ = some (.int .u32 (f2.getD (r + 1) 0 : Nat)) := e1
          have hmono := HV.out.mono r hlt
          rw [HLL2.out] at hmono
          have hslen := HV.out.len hlt
          have hsl := fun w => slice_links k.a4 nl2 k.c4 (f2.getD r 0) (f2.getD (r + 1) 0) hmono.1 (by omega) w
          have hrd := rd_seg HV.out hlt (by rw [HLL2.out]; exact HL2.out) (by rw [HLL2.out]; exact ht4.1)
          generalize (if k.c4 = f2.getD r 0 then k.a4 else k.a4.map (·.add (f2.getD r 0 * 4))) = AA at hsl hrd
          generalize f2.getD r 0 = lo at *
          generalize f2.getD (r + 1) 0 = hi at *
          obtain ⟨sl, hsl2⟩ : ∃ sl, hi - lo = sl := ⟨_, rfl⟩
          rw [hsl2] at hsl hrd hslen
          have HRD := Lib.hid hrd
          have HSL := Lib.hid hslen
          have hlo : lo ≤ 1048576 := by omega
          have hhi : hi ≤ 1048576 := by omega
          have hsle : sl ≤ 1048576 := by omega
          have hlh : lo ≤ hi := hmono.1
          have hhn : hi ≤ nl2 := hmono.2
          have w1' : IntKind.i64.wrap ((r : Int) + 1) = (r : Int) + 1 := by rw [IntKind.wrap_i64]; omega
          have w2' : (0 : Int) ≤ (r : Int) + 1 := by omega
          have w3' : ((r : Int) + 1).toNat = r + 1 := by omega
          have hcap : n + 1 ≤ k.c3 := ht3.1
          have j2 : (r : Int) < (n : Int) + 1 := by omega
          have j3 : (r : Int) + 1 < (n : Int) + 1 := by omega
          have j4 : (r : Int) < ((n + 1 : Nat) : Int) := by omega
          have j5 : (r : Int) + 1 < ((n + 1 : Nat) : Int) := by omega
          have j6 : (0 : Int) ≤ (lo : Int) := by omega
          have j7 : (lo : Int) ≤ (hi : Int) := by omega
          have j8 : (hi : Int) ≤ (k.c4 : Int) := by omega
          clear hmono hrd hslen hsl2 hA
          go_wp2_with fail
          go_quiet (fail)
          have hdr : Drawn wo (wo.drewN nq) := ⟨nq, rfl⟩
          generalize wo.drewN nq = w7 at hdr ⊢
          have HWB7 := Lib.hid (HWB.out.below (hdr.below _))
          have HX7 := Lib.hid (HX.out.below (hdr.below _))
          have HR7 := Lib.hid (HR.out.below (hdr.below _))
          have HB7 := Lib.hid (HB.out.trans (hdr.below _))
          clear hdr HWB HX HR HB b1 b2 e0 e1 e1' hsl w1' w2' w3' j2 j3 j4 j5 j6 j7 j8 HBW
          go_wp2_with fail
          go_loopw [72] (fun jv wi => ∃ (j : Nat) (sv : Nat → Value) (O : List (List StT)), j ≤ sl ∧ jv = .int .i64 j ∧ WebAt wi B G n sv O ∧ Woven n O (entsTo (seg f1 ls1) (seg f2 ls2) r ++ (seg f1 ls1 r).map (upE r) ++ ((seg f2 ls2 r).take j).map (dnE r)) ∧ Cells wi X #[.slice (some ⟨G, 0, none⟩) n n] 90 ∧ Cells wi R #[.slice none 0 0] 90 ∧ Below R w4 wi) (fun jv _ => sl - (intOf jv).toNat)
          case atStart => exact ⟨0, _, _, by omega, rfl, HWB7.out, by rw [List.take_zero, List.map_nil, List.append_nil]; exact HWO.out, HX7.out, HR7.out, HB7.out⟩
          case round =>
            clear HWB7 HX7 HR7 HB7 HWO
            obtain ⟨j, sv, O, hj, rfl, hw, ho, hx, hrr, hb⟩ := hrel
            have HWB := Lib.hid hw
            have HWO := Lib.hid ho
            have HX := Lib.hid hx
            have HR := Lib.hid hrr
            have HB := Lib.hid hb
            clear hw ho hx hrr hb
            by_cases hlj : j < sl
            · have g1 : decide ((j : Int) < (sl : Int)) = true := decide_eq_true (by omega)
              have hks : j < (seg f2 ls2 r).length := by have := HSL.out; omega
              obtain ⟨ad2, hA2, cc⟩ := (HRD.out.below (HB4.out.trans (HB.out.mono (show W.heap.size ≤ R by omega)))).at_ hlj
              subst hA2
              obtain ⟨c0, c1', c2', c3'⟩ := four_cells cc
              have hmem : (seg f2 ls2 r)[j] ∈ ls2 := List.mem_of_mem_drop (List.mem_of_mem_take (List.getElem_mem hks))
              have hik := HK2.out _ hmem
              have hww := HV.out.ups.w r _ hlt (List.getElem_mem hks)
              have hup := HV.out.ups.up r _ hlt (List.getElem_mem hks)
              have hent := ents_dn (seg f1 ls1) (seg f2 ls2) r j (entsTo (seg f1 ls1) (seg f2 ls2) r ++ (seg f1 ls1 r).map (upE r)) hks
              have hple : (entsTo (seg f1 ls1) (seg f2 ls2) r ++ (seg f1 ls1 r).map (upE r) ++ ((seg f2 ls2 r).take j).map (dnE r)).length ≤ 4194304 := by
                have h1 := HENT.out r hr
                have h3 := HV.out.len hlt
                have h4 := HV.out.mono r hlt
                have h5 := HU.out.len hlt
                have h6 := HU.out.mono r hlt
                rw [HLL2.out] at h4
                rw [HLL1.out] at h6
                simp only [List.length_append, List.length_map, List.length_take]
                omega
              generalize hL : (seg f2 ls2 r)[j] = L at *
              have hLto := hik.to
              unfold In32 at hLto
              unfold topI at hww
              obtain ⟨t0, t1, t2, t3⟩ := L
              dsimp only at c0 c1' c2' c3' hww hup hLto
              have HENTS := Lib.hid hent
              have HPLE := Lib.hid hple
              clear cc hmem hik hent hple hL
              go_upto_region 13 with fail
              have hb8 := (Below.refl wr.heap.size wr).alloc (Nat.le_refl _) (.cells #[.int .u32 (t0 : Int), .int .u64 t1, .int .u32 (t2 : Int), .int .u32 (t3 : Int)] 52)
              have hc8 := cells_new wr #[.int .u32 (t0 : Int), .int .u64 t1, .int .u32 (t2 : Int), .int .u32 (t3 : Int)] 52
              have hown8 : ∀ x g, x < n → (sv x).ownBlock = some g → g < wr.heap.size := fun x g hx hg => ((HWB.out.own x hx).block hg).2
              have HWB8 := Lib.hid (HWB.out.below hb8)
              have HX8 := Lib.hid (HX.out.below hb8)
              have HR8 := Lib.hid (HR.out.below hb8)
              have HB8 := Lib.hid (HB.out.trans (hb8.mono (by have := HB.out.size; rw [HZ4.out] at this; omega)))
              have hzb : B ≤ wr.heap.size := by have := HB.out.size; rw [HZ4.out] at this; exact this
              clear hb8 c0 c1' c2' c3' HWB HX HR HB
              generalize wr.alloc (.cells #[.int .u32 (t0 : Int), .int .u64 t1, .int .u32 (t2 : Int), .int .u32 (t3 : Int)] 52) = w8 at *
              generalize wr.heap.size = lb at *
              have k0 : w8.cell? ⟨lb, 0, none⟩ = some (.int .u32 (t0 : Int)) := hc8.cell 0
              have k1 : w8.cell? ⟨lb, 1, none⟩ = some (.int .u64 t1) := hc8.cell 1
              have x0 : w8.cell? ⟨X, 0, none⟩ = some (.slice (some ⟨G, 0, none⟩) n n) := HX8.out.cell 0
              have n3 : ¬ G = lb := by omega
              have n4 : ¬ lb = G := by omega
              have hlbl := hc8.lt
              obtain ⟨x, hx⟩ : ∃ x, t0 = x := ⟨_, rfl⟩
              have hxn : x < n := by omega
              have HOL := Lib.hid (HWB8.out.own x hxn)
              have hol := HWO.out.le x
              have HADD := Lib.hid (HWO.out.add hxn ⟨r, t1⟩)
              have q1 : w8.cell? ⟨G, x, none⟩ = some (sv x) := by rw [HWB8.out.rows.cell x, vA_at _ hxn]
              have q2 := HWB8.out.rows.frozen x
              generalize hO : O.getD x [] = ol at *
              have HLE : Hid (ol.length ≤ 4194304) := Lib.hid (Nat.le_trans hol HPLE.out)
              have x1 : (0 : Int) ≤ (x : Int) := by omega
              have x2 : (x : Int) < (n : Int) := by omega
              obtain ⟨v, hv⟩ : ∃ v, sv x = v := ⟨_, rfl⟩
              rw [hv] at q1 HOL
              have HV' := Lib.hid hv
              have HDA : Hid (∀ o, Below w8.heap.size w8 (w8.drew.alloc o)) := Lib.hid fun o => (Below.drew (Below.refl _ _)).alloc (Nat.le_refl _) _
              have hsz8 : lb < w8.heap.size := hlbl
              have hoB : ∀ g, v.ownBlock = some g → B ≤ g ∧ g < w8.heap.size := fun g hg => HOL.out.block hg
              have hsl8 : B ≤ w8.heap.size := by omega
              have HKL := Lib.hid hc8
              have n5 : v.ownBlock ≠ some lb := fun h => by have := hown8 x lb hxn (by rw [HV'.out]; exact h); omega
              clear hol hO hv hc8
              subst hx
              obtain ⟨jl, hjl⟩ : ∃ jl, ol ++ [(⟨r, t1⟩ : StT)] = jl := ⟨_, rfl⟩
              rw [hjl] at HADD
              have HJL := Lib.hid hjl
              clear hjl
              have HNW : Hid (Woven n (O.set (t0) jl) (entsTo (seg f1 ls1) (seg f2 ls2) r ++ (seg f1 ls1 r).map (upE r) ++ ((seg f2 ls2 r).take (j + 1)).map (dnE r))) := Lib.hid (by rw [← HENTS.out]; exact HADD.out)
              have hwt : IntKind.i64.wrap (t0 : Int) = (t0 : Int) := by rw [IntKind.wrap_i64]; omega
              obtain ⟨wA, hwA⟩ : ∃ wA, (w8.alloc (.cells #[.int .i64 (r : Int), .int .u64 t1] 127)).drew = wA := ⟨_, rfl⟩
              have hda := Below.drew (Below.refl w8.heap.size w8)
              have haa : Below w8.heap.size w8 wA := by rw [← hwA]; exact Below.drew ((Below.refl _ _).alloc (Nat.le_refl _) _)
              have x0d := cell_below hda x0
              have k0d := cell_below hda k0
              have k1d := cell_below hda k1
              have q1d := cell_below hda q1
              have x0a := cell_below haa x0
              have k0a := cell_below haa k0
              have k1a := cell_below haa k1
              have q1a := cell_below haa q1
              have hza : w8.heap.size ≤ wA.heap.size := haa.size
              have HWBA := Lib.hid (HWB8.out.below haa)
              have HRD' : Hid (Rd 2 encSt wA (some ⟨w8.heap.size, 0, none⟩) 1 [(⟨r, t1⟩ : StT)]) := Lib.hid (by rw [← hwA]; exact (rd_step (x := ⟨r, t1⟩) rfl).below (Below.drew (Below.refl _ _)))
              have HOA := Lib.hid (HOL.out.below haa)
              have HXA := Lib.hid (HX8.out.below haa)
              have HRA := Lib.hid (HR8.out.below haa)
              have HBA := Lib.hid (HB8.out.trans (haa.mono (show R ≤ w8.heap.size by omega)))
              have HWA := Lib.hid hwA
              clear hda haa hwA x0 k0 k1 q1 q2
              refine wp_region_held_drew (S := (fun w' => w'.cell? ⟨X, 0, none⟩ = some (.slice (some ⟨G, 0, none⟩) n n) ∧ w'.cell? ⟨lb, 0, none⟩ = some (.int .u32 (t0 : Int)) ∧ w'.cell? ⟨lb, 1, none⟩ = some (.int .u64 t1))) (by kernel_rfl) ?_ (fun hHeld => ?_)
              · exact ⟨x0d, k0d, k1d⟩
              refine wpAnyH_take (i := 0) (v := ?vf20) rfl (by kernel_rfl) (by kernel_rfl) (by kernel_rfl) (fun _ _ _ h => h) (Or.inl ⟨by rfl, ?hyf20⟩) hHeld ?_
              case hyf20 => (intro w hSw; (try dsimp only at hSw); go_simp; try with_reducible rfl)
              simp only [Act.put, List.setIfInBounds_toArray, List.set_cons_zero, List.set_cons_succ, List.getElem_toArray, List.getElem_cons_zero, List.getElem_cons_succ]
              refine wpAnyH_take (i := 1) (v := ?vf21) rfl (by kernel_rfl) (by kernel_rfl) (by kernel_rfl) (fun _ _ _ h => h) (Or.inl ⟨by rfl, ?hyf21⟩) hHeld ?_
              case hyf21 => (intro w hSw; (try dsimp only at hSw); go_simp; try with_reducible rfl)
              simp only [Act.put, List.setIfInBounds_toArray, List.set_cons_zero, List.set_cons_succ, List.getElem_toArray, List.getElem_cons_zero, List.getElem_cons_succ]
              refine wpAnyH_take (i := 2) (v := ?vf22) rfl (by kernel_rfl) (by kernel_rfl) (by kernel_rfl) (fun _ _ _ h => h) (Or.inl ⟨by rfl, ?hyf22⟩) hHeld ?_
              case hyf22 => (intro w hSw; (try dsimp only at hSw); go_simp; try with_reducible rfl)
              simp only [Act.put, List.setIfInBounds_toArray, List.set_cons_zero, List.set_cons_succ, List.getElem_toArray, List.getElem_cons_zero, List.getElem_cons_succ]
              refine wpAnyH_take (i := 3) (v := ?vf23) rfl (by kernel_rfl) (by kernel_rfl) (by kernel_rfl) (fun _ _ _ h => h) (Or.inl ⟨by rfl, ?hyf23⟩) hHeld ?_
              case hyf23 => (intro w hSw; (try dsimp only at hSw); go_simp; try with_reducible rfl)
              simp only [Act.put, List.setIfInBounds_toArray, List.set_cons_zero, List.set_cons_succ, List.getElem_toArray, List.getElem_cons_zero, List.getElem_cons_succ]
              refine wpAnyH_take (i := 4) (v := ?vf24) rfl (by kernel_rfl) (by kernel_rfl) (by kernel_rfl) (fun _ _ _ h => h) (Or.inl ⟨by rfl, ?hyf24⟩) hHeld ?_
              case hyf24 => (intro w hSw; (try dsimp only at hSw); go_simp; try with_reducible rfl)
              simp only [Act.put, List.setIfInBounds_toArray, List.set_cons_zero, List.set_cons_succ, List.getElem_toArray, List.getElem_cons_zero, List.getElem_cons_succ]
              refine wpAnyH_take (i := 5) (v := ?vf25) rfl (by kernel_rfl) (by kernel_rfl) (by kernel_rfl) (fun _ _ _ h => h) (Or.inl ⟨by rfl, ?hyf25⟩) hHeld ?_
              case hyf25 => (intro w hSw; (try dsimp only at hSw); go_simp; try with_reducible rfl)
              simp only [Act.put, List.setIfInBounds_toArray, List.set_cons_zero, List.set_cons_succ, List.getElem_toArray, List.getElem_cons_zero, List.getElem_cons_succ]
              refine wpAnyH_take (i := 6) (v := ?vf26) rfl (by kernel_rfl) (by kernel_rfl) (by kernel_rfl) (fun _ _ _ h => h) (Or.inl ⟨by rfl, ?hyf26⟩) hHeld ?_
              case hyf26 => (intro w hSw; (try dsimp only at hSw); go_simp; try with_reducible rfl)
              simp only [Act.put, List.setIfInBounds_toArray, List.set_cons_zero, List.set_cons_succ, List.getElem_toArray, List.getElem_cons_zero, List.getElem_cons_succ]
              refine wpAnyH_take (i := 7) (v := ?vf27) rfl (by kernel_rfl) (by kernel_rfl) (by kernel_rfl) (fun _ _ _ h => h) (Or.inl ⟨by rfl, ?hyf27⟩) hHeld ?_
              case hyf27 => (intro w hSw; (try dsimp only at hSw); go_simp; try with_reducible rfl)
              simp only [Act.put, List.setIfInBounds_toArray, List.set_cons_zero, List.set_cons_succ, List.getElem_toArray, List.getElem_cons_zero, List.getElem_cons_succ]
              refine wpAnyH_take (i := 8) (v := ?vf28) rfl (by kernel_rfl) (by kernel_rfl) (by kernel_rfl) (fun _ _ _ h => h) (Or.inl ⟨by rfl, ?hyf28⟩) hHeld ?_
              case hyf28 => (intro w hSw; (try dsimp only at hSw); go_simp; try with_reducible rfl)
              simp only [Act.put, List.setIfInBounds_toArray, List.set_cons_zero, List.set_cons_succ, List.getElem_toArray, List.getElem_cons_zero, List.getElem_cons_succ]
              refine wpAnyH_take (i := 10) (v := ?vf210) rfl (by kernel_rfl) (by kernel_rfl) (by kernel_rfl) (fun _ _ _ h => h) (Or.inl ⟨by rfl, ?hyf210⟩) hHeld ?_
              case hyf210 => (intro w hSw; (try dsimp only at hSw); go_simp; try with_reducible rfl)
              simp only [Act.put, List.setIfInBounds_toArray, List.set_cons_zero, List.set_cons_succ, List.getElem_toArray, List.getElem_cons_zero, List.getElem_cons_succ]
              refine wpAnyH_take (i := 11) (v := ?vf211) rfl (by kernel_rfl) (by kernel_rfl) (by kernel_rfl) (fun _ _ _ h => h) (Or.inl ⟨by rfl, ?hyf211⟩) hHeld ?_
              case hyf211 => (intro w hSw; (try dsimp only at hSw); go_simp; try with_reducible rfl)
              simp only [Act.put, List.setIfInBounds_toArray, List.set_cons_zero, List.set_cons_succ, List.getElem_toArray, List.getElem_cons_zero, List.getElem_cons_succ]
              refine wpAnyH_take (i := 12) (v := ?vf212) rfl (by kernel_rfl) (by kernel_rfl) (by kernel_rfl) (fun _ _ _ h => h) (Or.inl ⟨by rfl, ?hyf212⟩) hHeld ?_
              case hyf212 => (intro w hSw; (try dsimp only at hSw); go_simp; try with_reducible rfl)
              simp only [Act.put, List.setIfInBounds_toArray, List.set_cons_zero, List.set_cons_succ, List.getElem_toArray, List.getElem_cons_zero, List.getElem_cons_succ]
              refine wpAnyH_take (i := 13) (v := ?vf213) rfl (by kernel_rfl) (by kernel_rfl) (by kernel_rfl) (fun _ _ _ h => h) (Or.inl ⟨by rfl, ?hyf213⟩) hHeld ?_
              case hyf213 => (intro w hSw; (try dsimp only at hSw); go_simp; try with_reducible rfl)
              simp only [Act.put, List.setIfInBounds_toArray, List.set_cons_zero, List.set_cons_succ, List.getElem_toArray, List.getElem_cons_zero, List.getElem_cons_succ]
              refine wpAnyH_ready (rs := [9, 14]) (by kernel_rfl) (by simp) (AllReadyH.cons rfl (fun K hK => ?_) (AllReadyH.cons rfl (fun K hK => ?_) AllReadyH.nil))
              · rw [if_pos (by rfl)]
                go_simp
                refine hK.out _ _ ⟨x0d, k0d, k1d⟩ (fun hHeld => ?_)
                clear hK K
                try simp only [Act.put, List.setIfInBounds_toArray, List.set_cons_zero, List.set_cons_succ, List.getElem_toArray, List.getElem_cons_zero, List.getElem_cons_succ]
                refine wpAnyH_ready (rs := [14]) (by kernel_rfl) (by simp) (AllReadyH.cons rfl (fun K hK => ?_) AllReadyH.nil)
                rw [if_pos (by rfl)]
                go_simp
                rw [HWA.out]
                refine hK.out _ _ ⟨x0a, k0a, k1a⟩ (fun hHeld => ?_)
                clear hK K
                try simp only [Act.put, List.setIfInBounds_toArray, List.set_cons_zero, List.set_cons_succ, List.getElem_toArray, List.getElem_cons_zero, List.getElem_cons_succ]
                refine wpAnyH_ready (rs := [15]) (by kernel_rfl) (by simp) (AllReadyH.cons rfl (fun K hK => ?_) AllReadyH.nil)
                rw [if_pos (by rfl)]
                refine oper_append_rd (.tmp 85) (.tmp 90) 125 rfl 127 (.agg #[.int .i64 0, .int .u64 0]) 16 Tryd.underlying125 info_step rfl (by omega) (by omega) encSt_len encSt_one B _ ol rfl HOA.out _ 1 1 [(⟨r, t1⟩ : StT)] rfl HRD'.out (by have := HLE.out; omega) (by omega) ?_
                intro v6 w6 ho6 hg6 hat6
                rw [HJL.out] at ho6
                obtain ⟨A6, c6, rfl, h6c, h6m⟩ := ho6.form
                have x06 := hg6.cell x0a (fun h => absurd (hoB _ h.symm).1 (show ¬ B ≤ X by omega))
                have k06 := hg6.cell k0a (by intro h; exact n5 h.symm)
                have k16 := hg6.cell k1a (by intro h; exact n5 h.symm)
                have hG6 : Cells w6 G (vA n sv) 125 := (hg6.block G HWBA.out.rows.lt (fun h => absurd (hoB _ h.symm).1 (show ¬ B ≤ G by omega))).trans HWBA.out.rows
                have q16 : w6.cell? ⟨G, t0, none⟩ = some v := by rw [hG6.cell, vA_at _ hxn, HV'.out]
                have q26 := hG6.frozen t0
                have hkA := hg6
                have hxg6 := hg6.block X HXA.out.lt (fun h => absurd (hoB _ h.symm).1 (show ¬ B ≤ X by omega))
                have hrg6 : w6.heap[R]? = wA.heap[R]? := hg6.block R HRA.out.lt (fun h => absurd (hoB _ h.symm).1 (show ¬ B ≤ R by omega))
                have HX6 := Lib.hid ((Cells.far (hxg6.trans HXA.out) (k := G) t0 (.slice A6 jl.length c6) n2))
                have HR6 := Lib.hid ((Cells.far (hrg6.trans HRA.out) (k := G) t0 (.slice A6 jl.length c6) (show R ≠ G by omega)))
                have HB6 : Hid (Below R w4 (w6.setCell ⟨G, t0, none⟩ (.slice A6 jl.length c6))) := Lib.hid ((below_own HBA.out HOA.out hg6 (show R ≤ B by omega) (by omega)).setCell (p := ⟨G, t0, none⟩) (show R ≤ G by omega) _)
                clear hG6 hkA hxg6 hrg6
                have hwb := WebAt.append HWBA.out hxn (by rw [HV'.out]; exact hg6) ho6 (by rw [HV'.out]; exact hat6)
                have HWB6 := Lib.hid hwb
                clear hwb
                refine hK.out _ _ ⟨x06, k06, k16⟩ (fun hHeld => ?_)
                clear hK K
                try simp only [Act.put, List.setIfInBounds_toArray, List.set_cons_zero, List.set_cons_succ, List.getElem_toArray, List.getElem_cons_zero, List.getElem_cons_succ]
                refine wpAnyH_take (i := 16) (v := ?vf216) rfl (by kernel_rfl) (by kernel_rfl) (by kernel_rfl) (fun _ _ _ h => h) (Or.inl ⟨by rfl, ?hyf216⟩) hHeld ?_
                case hyf216 => (intro w hSw; (try dsimp only at hSw); go_simp; try with_reducible rfl)
                simp only [Act.put, List.setIfInBounds_toArray, List.set_cons_zero, List.set_cons_succ, List.getElem_toArray, List.getElem_cons_zero, List.getElem_cons_succ]
                refine wpAnyH_ready (rs := [17]) (by kernel_rfl) (by simp) (AllReadyH.cons rfl (fun K hK => ?_) AllReadyH.nil)
                rw [if_pos (by rfl)]
                go_simp
                have x07 : (w6.setCell ⟨G, t0, none⟩ (.slice A6 jl.length c6)).cell? ⟨X, 0, none⟩ = some (.slice (some ⟨G, 0, none⟩) n n) := HX6.out.cell 0
                have k07 : (w6.setCell ⟨G, t0, none⟩ (.slice A6 jl.length c6)).cell? ⟨lb, 0, none⟩ = some (.int .u32 (t0 : Int)) := (World.cell?_setCell_other _ _ _ _ (fun e => n3 (congrArg Addr.block e))).trans k06
                have k17 : (w6.setCell ⟨G, t0, none⟩ (.slice A6 jl.length c6)).cell? ⟨lb, 1, none⟩ = some (.int .u64 t1) := (World.cell?_setCell_other _ _ _ _ (fun e => n3 (congrArg Addr.block e))).trans k16
                refine hK.out _ _ ⟨x07, k07, k17⟩ (fun hHeld => ?_)
                clear hK K
                try simp only [Act.put, List.setIfInBounds_toArray, List.set_cons_zero, List.set_cons_succ, List.getElem_toArray, List.getElem_cons_zero, List.getElem_cons_succ]
                refine wpAnyH_done (by kernel_rfl) ?_ _
                clear x06 k06 k16 q16 q26 x07 k07 k17 hHeld
                go_wp2_with fail
                go_roundw
                case rel => exact ⟨j + 1, _, _, by omega, by go_num, HWB6.out, HNW.out, HX6.out, HR6.out, HB6.out⟩
                case measure => simp [intOf]; omega
              · rw [if_pos (by rfl)]
                go_simp
                rw [HWA.out]
                refine hK.out _ _ ⟨x0a, k0a, k1a⟩ (fun hHeld => ?_)
                clear hK K
                try simp only [Act.put, List.setIfInBounds_toArray, List.set_cons_zero, List.set_cons_succ, List.getElem_toArray, List.getElem_cons_zero, List.getElem_cons_succ]
                refine wpAnyH_ready (rs := [9]) (by kernel_rfl) (by simp) (AllReadyH.cons rfl (fun K hK => ?_) AllReadyH.nil)
                rw [if_pos (by rfl)]
                go_simp
                refine hK.out _ _ ⟨x0a, k0a, k1a⟩ (fun hHeld => ?_)
                clear hK K
                try simp only [Act.put, List.setIfInBounds_toArray, List.set_cons_zero, List.set_cons_succ, List.getElem_toArray, List.getElem_cons_zero, List.getElem_cons_succ]
                refine wpAnyH_ready (rs := [15]) (by kernel_rfl) (by simp) (AllReadyH.cons rfl (fun K hK => ?_) AllReadyH.nil)
                rw [if_pos (by rfl)]
                refine oper_append_rd (.tmp 85) (.tmp 90) 125 rfl 127 (.agg #[.int .i64 0, .int .u64 0]) 16 Tryd.underlying125 info_step rfl (by omega) (by omega) encSt_len encSt_one B _ ol rfl HOA.out _ 1 1 [(⟨r, t1⟩ : StT)] rfl HRD'.out (by have := HLE.out; omega) (by omega) ?_
                intro v6 w6 ho6 hg6 hat6
                rw [HJL.out] at ho6
                obtain ⟨A6, c6, rfl, h6c, h6m⟩ := ho6.form
                have x06 := hg6.cell x0a (fun h => absurd (hoB _ h.symm).1 (show ¬ B ≤ X by omega))
                have k06 := hg6.cell k0a (by intro h; exact n5 h.symm)
                have k16 := hg6.cell k1a (by intro h; exact n5 h.symm)
                have hG6 : Cells w6 G (vA n sv) 125 := (hg6.block G HWBA.out.rows.lt (fun h => absurd (hoB _ h.symm).1 (show ¬ B ≤ G by omega))).trans HWBA.out.rows
                have q16 : w6.cell? ⟨G, t0, none⟩ = some v := by rw [hG6.cell, vA_at _ hxn, HV'.out]
                have q26 := hG6.frozen t0
                have hkA := hg6
                have hxg6 := hg6.block X HXA.out.lt (fun h => absurd (hoB _ h.symm).1 (show ¬ B ≤ X by omega))
                have hrg6 : w6.heap[R]? = wA.heap[R]? := hg6.block R HRA.out.lt (fun h => absurd (hoB _ h.symm).1 (show ¬ B ≤ R by omega))
                have HX6 := Lib.hid ((Cells.far (hxg6.trans HXA.out) (k := G) t0 (.slice A6 jl.length c6) n2))
                have HR6 := Lib.hid ((Cells.far (hrg6.trans HRA.out) (k := G) t0 (.slice A6 jl.length c6) (show R ≠ G by omega)))
                have HB6 : Hid (Below R w4 (w6.setCell ⟨G, t0, none⟩ (.slice A6 jl.length c6))) := Lib.hid ((below_own HBA.out HOA.out hg6 (show R ≤ B by omega) (by omega)).setCell (p := ⟨G, t0, none⟩) (show R ≤ G by omega) _)
                clear hG6 hkA hxg6 hrg6
                have hwb := WebAt.append HWBA.out hxn (by rw [HV'.out]; exact hg6) ho6 (by rw [HV'.out]; exact hat6)
                have HWB6 := Lib.hid hwb
                clear hwb
                refine hK.out _ _ ⟨x06, k06, k16⟩ (fun hHeld => ?_)
                clear hK K
                try simp only [Act.put, List.setIfInBounds_toArray, List.set_cons_zero, List.set_cons_succ, List.getElem_toArray, List.getElem_cons_zero, List.getElem_cons_succ]
                refine wpAnyH_take (i := 16) (v := ?vf216) rfl (by kernel_rfl) (by kernel_rfl) (by kernel_rfl) (fun _ _ _ h => h) (Or.inl ⟨by rfl, ?hyf216⟩) hHeld ?_
                case hyf216 => (intro w hSw; (try dsimp only at hSw); go_simp; try with_reducible rfl)
                simp only [Act.put, List.setIfInBounds_toArray, List.set_cons_zero, List.set_cons_succ, List.getElem_toArray, List.getElem_cons_zero, List.getElem_cons_succ]
                refine wpAnyH_ready (rs := [17]) (by kernel_rfl) (by simp) (AllReadyH.cons rfl (fun K hK => ?_) AllReadyH.nil)
                rw [if_pos (by rfl)]
                go_simp
                have x07 : (w6.setCell ⟨G, t0, none⟩ (.slice A6 jl.length c6)).cell? ⟨X, 0, none⟩ = some (.slice (some ⟨G, 0, none⟩) n n) := HX6.out.cell 0
                have k07 : (w6.setCell ⟨G, t0, none⟩ (.slice A6 jl.length c6)).cell? ⟨lb, 0, none⟩ = some (.int .u32 (t0 : Int)) := (World.cell?_setCell_other _ _ _ _ (fun e => n3 (congrArg Addr.block e))).trans k06
                have k17 : (w6.setCell ⟨G, t0, none⟩ (.slice A6 jl.length c6)).cell? ⟨lb, 1, none⟩ = some (.int .u64 t1) := (World.cell?_setCell_other _ _ _ _ (fun e => n3 (congrArg Addr.block e))).trans k16
                refine hK.out _ _ ⟨x07, k07, k17⟩ (fun hHeld => ?_)
                clear hK K
                try simp only [Act.put, List.setIfInBounds_toArray, List.set_cons_zero, List.set_cons_succ, List.getElem_toArray, List.getElem_cons_zero, List.getElem_cons_succ]
                refine wpAnyH_done (by kernel_rfl) ?_ _
                clear x06 k06 k16 q16 q26 x07 k07 k17 hHeld
                go_wp2_with fail
                go_roundw
                case rel => exact ⟨j + 1, _, _, by omega, by go_num, HWB6.out, HNW.out, HX6.out, HR6.out, HB6.out⟩
                case measure => simp [intOf]; omega
            · obtain rfl : sl = j := by omega
              have HWO2 : Hid (Woven n O (entsTo (seg f1 ls1) (seg f2 ls2) r ++ (seg f1 ls1 r).map (upE r) ++ (seg f2 ls2 r).map (dnE r))) := Lib.hid (by have h := HWO.out; rwa [List.take_of_length_le (by rw [HSL.out]; exact Nat.le_refl _)] at h)
              clear HWO
              have HWO3 : Hid (Woven n O (entsTo (seg f1 ls1) (seg f2 ls2) (r + 1))) := Lib.hid HWO2.out
              clear HWO2
              go_wp2_with fail
              go_roundw
              case rel => exact ⟨r + 1, sv, O, by omega, by go_num, HWB.out, HWO3.out, HX.out, HR.out, HB.out⟩
              case measure => simp [intOf]; omega
    · obtain rfl : n = r := by omega
      have x0 := HX.out.cell 0
      have r0 := HR.out.cell 0
      have f0 := HR.out.frozen 0
      have hfin := HR.out.set_ 0 (.slice (some ⟨G, 0, none⟩) n n)
      simp only [List.setIfInBounds_toArray, List.set_cons_zero, List.set_cons_succ] at hfin
      have hkz : Kept (fun q => q = R) wr (wr.setCell ⟨R, 0, none⟩ (.slice (some ⟨G, 0, none⟩) n n)) := (Kept.refl (fun q => q = R) wr).set_ (p := ⟨R, 0, none⟩) (.inl rfl) _
      have HFIN := Lib.hid hfin
      have HBW := Lib.hid (HB4.out.trans (HB.out.mono (by omega)))
      have HBZ := Lib.hid (hkz.below HBW.out (fun q h => by have h : q = R := h; omega) HBW.out.size)
      have HWZ : Hid (WebAt (wr.setCell ⟨R, 0, none⟩ (.slice (some ⟨G, 0, none⟩) n n)) W.heap.size G n sv O) := Lib.hid ⟨hkz.cells HWB.out.rows (show ¬ G = R by omega), HWB.out.len, fun i hi => (own_far2 (HWB.out.own i hi) (p := ⟨R, 0, none⟩) (fun e => absurd ((HWB.out.own i hi).block e).1 (show ¬ B ≤ R by omega)) _).mono (by omega), HWB.out.inj, HWB.out.ne⟩
      clear hfin hkz
      go_wp2_with fail
      generalize wr.setCell ⟨R, 0, none⟩ (.slice (some ⟨G, 0, none⟩) n n) = wz at *
      have r0 : wz.cell? ⟨R, 0, none⟩ = some (.slice (some ⟨G, 0, none⟩) n n) := HFIN.out.cell 0
      have HEND : Hid (WeaveIs n (seg f1 ls1) (seg f2 ls2) W (.returned (.agg #[.slice (some ⟨G, 0, none⟩) n n])) wz) := Lib.hid ⟨G, sv, O, rfl, HWZ.out, HWO.out, HBZ.out, by omega⟩
      refine bodyPost_ret (v := .agg #[.slice (some ⟨G, 0, none⟩) n n]) ?hres rfl HEND.out
      case hres => simp [results, Tryd.results41, go_sem, r0]
end Go.Proofs.YtkcnnamghpdplaaDoor

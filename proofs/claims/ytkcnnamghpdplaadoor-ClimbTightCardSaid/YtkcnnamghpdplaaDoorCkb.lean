/- sound.Matrix. -/
import Derived.Test.YtkcnnamghpdplaaDoorCka
set_option linter.unusedSimpArgs false
set_option linter.unusedVariables false
namespace Go.Proofs.YtkcnnamghpdplaaDoor
open Go.RowKit

theorem info_u64s : (Tryd.prog.info? 45).map (fun i => (i.zero, i.size, i.bytes)) = some (some (.slice none 0 0), 1, 24) := by kernel_rfl
theorem made_rows (n : Nat) : madeCells #[Value.slice none 0 0] n = rowsA n (fun _ => none) := by
  apply Array.toList_inj.1
  rw [toList_madeCells_one]
  unfold rowsA
  apply List.ext_getElem
  · simp
  · intro k h1 h2
    simp [rowV]
theorem make_rows (n : Nat) (hn : n ≤ 65536) (W : World) : (Instr.makeSlice 57 (.int .i64 (n : Int)) (.int .i64 (n : Int))).run Tryd.prog W = .ok (.slice (some ⟨W.heap.size, 0, none⟩) n n) (W.alloc (.cells (rowsA n (fun _ => none)) 45)) := by
  obtain ⟨i, hi, hz0, hz1, hz2⟩ := info_parts info_u64s
  have h := run_make (P := Tryd.prog) W 57 45 i _ Tryd.underlying57 hi hz0 .i64 .i64 (n : Int) (n : Int) (by omega) (by omega) (by rw [hz2]; omega) (by omega)
  rw [h, hz1, Int.toNat_natCast, Nat.mul_one]
  exact congrArg (fun c => Result.ok (Value.slice (some ⟨W.heap.size, 0, none⟩) n n) (W.alloc (.cells c 45))) (made_rows n)
/-- a row of the matrix: the distances from the rank r, by nodes -/
def GoodRow (n : Nat) (E : Nat → Nat → Int → Prop) (node : List Nat) (r : Nat) (l : List Int) : Prop := l.length = n ∧ ∀ x, x < n → ∃ m, l[node.getD x 0]? = some m ∧ LeastW E 0 r x m ∧ 0 ≤ m ∧ m ≤ farI
def GoodMat (n : Nat) (E : Nat → Nat → Int → Prop) (node : List Nat) (k : Nat) (f : Nat → Option (Nat × List Int)) : Prop := (∀ r, r < k → ∃ R l, f (node.getD r 0) = some (R, l) ∧ GoodRow n E node r l)
def MatrixIs (n : Nat) (E : Nat → Nat → Int → Prop) (node : List Nat) (W : World) (e : Ending) (w' : World) : Prop := ∃ G f, e = .returned (.tuple #[.slice (some ⟨G, 0, none⟩) n n, .nilIface]) ∧ RowsU w' W.heap.size G n f ∧ GoodMat n E node n f ∧ Below W.heap.size W w'
def MatrixRes (bug : Bug) (n : Nat) (E : Nat → Nat → Int → Prop) (node : List Nat) (W : World) (e : Ending) (w' : World) : Prop := match bug with
  | some b => ∃ v, e = .returned (.tuple #[.slice none 0 0, v]) ∧ ErrProg (some b) W (.returned v) w'
  | none => MatrixIs n E node W e w'
theorem node_at {w : World} {A : Option Addr} {n r : Nat} {l : List Nat} (h : Rd32 w A n l) (hr : r < n) : ∃ ad, A = some ad ∧ w.cell? (ad.add r) = some (.int .u32 (l.getD r 0 : Nat)) := by
  obtain ⟨ad, hA, hc⟩ := h.2 (by omega)
  have hl := h.1
  have h1 : l[r]? = some (l.getD r 0) := by rw [List.getD_eq_getElem?_getD, List.getElem?_eq_getElem (by omega)]; rfl
  have := hc r _ 0 _ h1 rfl
  rw [Nat.mul_one, Nat.add_zero] at this
  exact ⟨ad, hA, this⟩
set_option maxRecDepth 100000 in
set_option maxHeartbeats 16000000 in
theorem Matrix_any (k : HV) (h : HierT) (W : World) (hp : RdH W k h) (hs : Small k h) (hin : InH h) (h14 : h.node.length ≤ 14) :
    Calls Tryd.prog 22 #[hierV k h] W (MatrixRes (chkB h) h.node.length (Ed h.node.length (seg h.uf h.up) (seg h.df h.dn)) h.node W) := by
  have hb1 := (Below.refl W.heap.size W).alloc (Nat.le_refl _) (.cells #[.slice k.a0 h.node.length k.c0, .slice k.a1 h.uf.length k.c1, .slice k.a2 h.up.length k.c2, .slice k.a3 h.df.length k.c3, .slice k.a4 h.dn.length k.c4] 25)
  have hc1 := cells_new W #[.slice k.a0 h.node.length k.c0, .slice k.a1 h.uf.length k.c1, .slice k.a2 h.up.length k.c2, .slice k.a3 h.df.length k.c3, .slice k.a4 h.dn.length k.c4] 25
  have HCK := Lib.hid (Check_any k h _ (hp.below hb1) hs hin)
  have hmk := make_rows h.node.length (by omega)
  have hmr := make_u64 h.node.length (by omega)
  have HP := Lib.hid hp
  have HS := Lib.hid hs
  have HIN := Lib.hid hin
  clear hp hs hin
  unfold hierV at *
  generalize hch : chkB h = bug at *
  go_enter Tryd.func22, Tryd.ntmps22
  refine wp_post_named6 ?_
  intro Q0 hQ0
  have HQ0 := Lib.hid hQ0
  clear hQ0
  go_upto_region 1 with fail
  generalize W.alloc (.cells #[.slice k.a0 h.node.length k.c0, .slice k.a1 h.uf.length k.c1, .slice k.a2 h.up.length k.c2, .slice k.a3 h.df.length k.c3, .slice k.a4 h.dn.length k.c4] 25) = w1 at *
  have HB1 := Lib.hid hb1
  have HC1 := Lib.hid hc1
  clear hb1 hc1
  have d0 : w1.cell? ⟨W.heap.size, 0, none⟩ = some (.slice k.a0 h.node.length k.c0) := HC1.out.cell 0
  have d1 : w1.cell? ⟨W.heap.size, 1, none⟩ = some (.slice k.a1 h.uf.length k.c1) := HC1.out.cell 1
  have d2 : w1.cell? ⟨W.heap.size, 2, none⟩ = some (.slice k.a2 h.up.length k.c2) := HC1.out.cell 2
  have d3 : w1.cell? ⟨W.heap.size, 3, none⟩ = some (.slice k.a3 h.df.length k.c3) := HC1.out.cell 3
  have d4 : w1.cell? ⟨W.heap.size, 4, none⟩ = some (.slice k.a4 h.dn.length k.c4) := HC1.out.cell 4
  go_wp2_with fail
  refine HCK.out.mono ?_
  rintro e w2 he
  clear d0 d1 d2 d3 d4 HCK
  have HB2 := Lib.hid (HB1.out.trans (he.1.mono HB1.out.size))
  have HC2 := Lib.hid (HC1.out.below he.1)
  cases bug with
  | some b =>
    obtain ⟨c, p⟩ := b
    have hv : ∃ t x, e = .returned (.iface t x) ∧ (t = 56 ∨ t = 74) := by
      cases p with
      | none => exact ⟨_, _, he.2, .inl rfl⟩
      | some p =>
        obtain ⟨k', a'⟩ := p
        obtain ⟨g, h1, -⟩ := he.2
        exact ⟨_, _, h1, .inr rfl⟩
    obtain ⟨t, x, rfl, ht⟩ := hv
    have he' : ErrProg (some (c, p)) W (.returned (.iface t x)) w2 := by
      refine ⟨HB2.out, ?_⟩
      cases p with
      | none => exact he.2
      | some p =>
        obtain ⟨k', a'⟩ := p
        obtain ⟨g, h1, h2, h3⟩ := he.2
        exact ⟨g, h1, h2, Nat.le_trans HB1.out.size h3⟩
    have HEND : Hid (MatrixRes (some (c, p)) h.node.length (Ed h.node.length (seg h.uf h.up) (seg h.df h.dn)) h.node W (.returned (.tuple #[.slice none 0 0, .iface t x])) w2) := Lib.hid ⟨_, rfl, he'⟩
    clear he he' hch hmk hmr
    rcases ht with rfl | rfl
    all_goals
      go_wp2_with fail
      rw [HQ0.out]
      go_ret2
      exact HEND.out
  | none =>
    have he2 : e = .returned .nilIface := he.2
    subst he2
    have so := Sound.of_none hch
    have hU := so.up HIN.out
    have hV := so.dn HIN.out
    have HPM := Lib.hid (chk_perm hch)
    have HWV := Lib.hid (weave_is k h w2 (HP.out.below HB2.out) HS.out HIN.out hU hV)
    have HND := Lib.hid HP.out.r0
    have HN32 := Lib.hid HIN.out.i0
    have ht0 := HS.out.t0
    clear he hch so hU hV HP HS HIN HC1 HB1
    unfold hierV at HWV
    generalize seg h.uf h.up = U at *
    generalize seg h.df h.dn = V at *
    generalize hnn : h.node.length = n at *
    generalize h.node = node at *
    generalize h.uf.length = n1 at *
    generalize h.up.length = n2 at *
    generalize h.df.length = n3 at *
    generalize h.dn.length = n4 at *
    clear hnn
    generalize k.a0 = a0 at *
    have d0 : w2.cell? ⟨W.heap.size, 0, none⟩ = some (.slice a0 n k.c0) := HC2.out.cell 0
    have d1 : w2.cell? ⟨W.heap.size, 1, none⟩ = some (.slice k.a1 n1 k.c1) := HC2.out.cell 1
    have d2 : w2.cell? ⟨W.heap.size, 2, none⟩ = some (.slice k.a2 n2 k.c2) := HC2.out.cell 2
    have d3 : w2.cell? ⟨W.heap.size, 3, none⟩ = some (.slice k.a3 n3 k.c3) := HC2.out.cell 3
    have d4 : w2.cell? ⟨W.heap.size, 4, none⟩ = some (.slice k.a4 n4 k.c4) := HC2.out.cell 4
    have hnn : n * n ≤ 196 := Nat.mul_le_mul h14 h14
    have hmul : IntKind.i64.wrap ((n : Int) * (n : Int)) = ((n * n : Nat) : Int) := by
      rw [Int.natCast_mul, IntKind.wrap_i64]
      have e : ((n * n : Nat) : Int) = (n : Int) * (n : Int) := Int.natCast_mul n n
      omega
    generalize hq : n * n = nn at hnn hmul
    have q0 : decide ((1048576 : Int) < ((nn : Nat) : Int)) = false := decide_eq_false (by omega)
    have q1 : decide (1048576 < nn) = false := decide_eq_false (by omega)
    clear hq
    go_wp2_with fail
    refine HWV.out.mono ?_
    rintro e w3 ⟨G0, sv, O, rfl, hw, hb⟩
    have HB3 := Lib.hid (HB2.out.trans (hb.mono HB2.out.size))
    have HC3 := Lib.hid (HC2.out.below hb)
    generalize w2.heap.size = base at *
    have HWB3 := Lib.hid hw
    clear hb hw d0 d1 d2 d3 d4 HB2 HC2 HWV q0 q1 hmul hnn
    go_upto_region 8 with fail
    have hb4 := (Below.refl w3.heap.size w3).alloc (Nat.le_refl _) (.cells #[.slice (some ⟨G0, 0, none⟩) n n] 90)
    have HX4 := Lib.hid (cells_new w3 #[.slice (some ⟨G0, 0, none⟩) n n] 90)
    have HB4 := Lib.hid (HB3.out.trans (hb4.mono HB3.out.size))
    have HC4 := Lib.hid (HC3.out.below hb4)
    have HWB4 := Lib.hid (HWB3.out.below hb4)
    clear hb4 HB3 HC3 HWB3
    generalize w3.alloc (.cells #[.slice (some ⟨G0, 0, none⟩) n n] 90) = w4 at *
    generalize w3.heap.size = X at *
    go_upto_region 9 with fail
    have hm5 : RowsU (w4.alloc (.cells (rowsA n (fun _ => none)) 45)) w4.heap.size w4.heap.size n (fun _ => none) := ⟨cells_new _ _ _, fun i R l _ h => (by cases h), fun i j R l l' _ _ h => (by cases h), Nat.le_refl _⟩
    have hb5 : Below w4.heap.size w4 (w4.alloc (.cells (rowsA n (fun _ => none)) 45)) := (Below.refl _ _).alloc (Nat.le_refl _) _
    have hzG : W.heap.size ≤ w4.heap.size := HB4.out.size
    have hXG : X < w4.heap.size := HX4.out.lt
    have hCG : W.heap.size < w4.heap.size := HC4.out.lt
    have HZ4 : Hid (∃ g, w4.heap.size = g) := Lib.hid ⟨_, rfl⟩
    obtain ⟨G, hG⟩ := HZ4.out
    rw [hG] at hm5 hb5 hzG hXG hCG
    have HG := Lib.hid hG
    have HM5 := Lib.hid hm5
    have HB5 := Lib.hid hb5
    clear hm5 hb5 HZ4
    generalize w4.alloc (.cells (rowsA n (fun _ => none)) 45) = w5 at *
    rw [hG]
    clear hG hmk
    have d0 : w5.cell? ⟨W.heap.size, 0, none⟩ = some (.slice a0 n k.c0) := Cells.cell ((HB5.out.block W.heap.size hCG).trans HC4.out) 0
    go_wp2_with fail
    clear d0
    go_loopw [33] (fun iv wr => ∃ (r : Nat) (f : Nat → Option (Nat × List Int)), r ≤ n ∧ iv = .int .i64 r ∧ RowsU wr G G n f ∧ GoodMat n (Ed n U V) node r f ∧ Below G w4 wr) (fun iv _ => n - (intOf iv).toNat)
    case atStart => exact ⟨0, _, by omega, rfl, HM5.out, fun r hr => by omega, HB5.out⟩
    case round =>
      clear HM5 HB5
      obtain ⟨r, f, hr, rfl, hm, hg, hb⟩ := hrel
      have HM := Lib.hid hm
      have HGM := Lib.hid hg
      have HB := Lib.hid hb
      clear hm hg hb
      by_cases hlt : r < n
      · have g0 : decide ((r : Int) < (n : Int)) = true := decide_eq_true (by omega)
        have HBW := Lib.hid (HB4.out.trans (HB.out.mono hzG))
        obtain ⟨ad, hA, nd⟩ := node_at (HND.out.below HBW.out) hlt
        have hv := HPM.out.lt r hlt
        have HVV : Hid (∃ v, node.getD r 0 = v) := Lib.hid ⟨_, rfl⟩
        obtain ⟨v, hv2⟩ := HVV.out
        rw [hv2] at hv nd
        have HV2 := Lib.hid hv2
        clear hv2 HVV
        subst hA
        have i1 : (0 : Int) ≤ (r : Int) := by omega
        have i2 : (r : Int) < (n : Int) := by omega
        go_upto_region 13 with fail
        have hb6 := (Below.refl wr.heap.size wr).alloc (Nat.le_refl _) (.cells (nA (List.replicate n 0)) 46)
        have HRW6 := Lib.hid (cells_new wr (nA (List.replicate n 0)) 46)
        have HB6 := Lib.hid (HB.out.trans (hb6.mono (Nat.le_of_lt HM.out.rows.lt)))
        have HW6 : Hid (Below wr.heap.size wr (wr.alloc (.cells (nA (List.replicate n 0)) 46))) := Lib.hid hb6
        have hGw : G < wr.heap.size := HM.out.rows.lt
        clear hb6
        generalize wr.alloc (.cells (nA (List.replicate n 0)) 46) = w6 at *
        have HZR : Hid (∃ g, wr.heap.size = g) := Lib.hid ⟨_, rfl⟩
        obtain ⟨Rb, hRb⟩ := HZR.out
        rw [hRb] at HRW6 hGw ⊢
        have HRB := Lib.hid hRb
        clear hRb HZR nd
        have x0 : w6.cell? ⟨X, 0, none⟩ = some (.slice (some ⟨G0, 0, none⟩) n n) := Cells.cell ((HB6.out.block X hXG).trans HX4.out) 0
        have hwb6 : WebIs w6 base G0 n U V sv O := HWB4.out.below (by rw [HG.out]; exact HB6.out)
        have HFR := Lib.hid (from_any base G0 n sv O (-1) r w6 hwb6.at_ hwb6.web (by omega) (by omega) hlt)
        have HEQ := Lib.hid hwb6.eq
        clear hwb6
        go_wp2_with fail
        refine HFR.out.mono ?_
        rintro e w7 ⟨D, d, rfl, hcD, hdl, hle, htwo, hb7, hDb⟩
        have HLE : Hid (∀ x, LeastW (Ed n U V) 0 r x (dg d x)) := Lib.hid (fun x => by
          have h := hle x
          rw [HEQ.out] at h
          exact h)
        have HTWO := Lib.hid htwo
        have HDL := Lib.hid hdl
        have hRD : Rb < D := Nat.lt_of_lt_of_le HRW6.out.lt hDb
        have HR7 := Lib.hid (HRW6.out.below hb7)
        have HD7 := Lib.hid hcD
        have HW7 : Hid (Below Rb wr w7) := Lib.hid (by have h := HW6.out; rw [HRB.out] at h; exact h.trans (hb7.mono (Nat.le_of_lt HRW6.out.lt)))
        clear hcD hdl hle htwo hb7 hDb HRW6 HB6 HW6 HFR HEQ x0
        have d0 : w7.cell? ⟨W.heap.size, 0, none⟩ = some (.slice (some ad) n k.c0) := Cells.cell ((HB.out.trans (HW7.out.mono (Nat.le_of_lt hGw))).block W.heap.size hCG |>.trans HC4.out) 0
        go_wp2_with fail
        clear d0
        generalize wr = wo at *
        go_loopw [44] (fun jv wi => ∃ (j : Nat) (l : List Int), j ≤ n ∧ jv = .int .i64 j ∧ l.length = n ∧ (∀ x, x < j → l[node.getD x 0]? = some (dg d x)) ∧ Cells wi Rb (nA l) 46 ∧ Cells wi D (nA d) 46 ∧ Below Rb wo wi) (fun jv _ => n - (intOf jv).toNat)
        case atStart => exact ⟨0, _, by omega, rfl, by simp, fun x hx => by omega, HR7.out, HD7.out, HW7.out⟩
        case round =>
          clear HR7 HD7 HW7
          obtain ⟨j, l, hj, rfl, hll, hset, hcr, hcd, hb⟩ := hrel
          have HLL := Lib.hid hll
          have HSET := Lib.hid hset
          have HCR := Lib.hid hcr
          have HCD := Lib.hid hcd
          have HBI := Lib.hid hb
          clear hll hset hcr hcd hb
          have HB4I := Lib.hid (HB.out.trans (HBI.out.mono (Nat.le_of_lt hGw)))
          by_cases hlj : j < n
          · have g1 : decide ((j : Int) < (n : Int)) = true := decide_eq_true (by omega)
            have cd := HCD.out.cell j
            rw [nA_at (by rw [HDL.out]; exact hlj)] at cd
            obtain ⟨ad', hA', nd⟩ := node_at (HND.out.below (HB4.out.trans (HB4I.out.mono hzG))) hlj
            cases hA'
            have hnj := HPM.out.lt j hlj
            have HINJ : Hid (∀ x, x < j → node.getD x 0 ≠ node.getD j 0) := Lib.hid (fun x hx e => by have := HPM.out.inj x j (by omega) hlj e; omega)
            obtain ⟨y, hy⟩ : ∃ y, node.getD j 0 = y := ⟨_, rfl⟩
            rw [hy] at nd hnj HINJ
            have HY := Lib.hid hy
            clear hy
            have cr := HCR.out.cell y
            rw [nA_at (by rw [HLL.out]; exact hnj)] at cr
            have fr := HCR.out.frozen y
            have d0 : wr.cell? ⟨W.heap.size, 0, none⟩ = some (.slice (some ad) n k.c0) := Cells.cell ((HB4I.out.block W.heap.size hCG).trans HC4.out) 0
            have i3 : (0 : Int) ≤ (j : Int) := by omega
            have i4 : (j : Int) < (n : Int) := by omega
            have i5 : (0 : Int) ≤ (y : Int) := by omega
            have i6 : (y : Int) < (n : Int) := by omega
            have hcr2 := HCR.out.set_ y (.int .u64 (dg d j))
            rw [nA_set] at hcr2
            have HCR2 := Lib.hid hcr2
            have HCD2 := Lib.hid (HCD.out.far (k := Rb) y (.int .u64 (dg d j)) (show D ≠ Rb by omega))
            have HBI2 := Lib.hid (HBI.out.setCell (p := ⟨Rb, y, none⟩) (Nat.le_refl _) (.int .u64 (dg d j)))
            have HSET2 : Hid (∀ x, x < j + 1 → (l.set y (dg d j))[node.getD x 0]? = some (dg d x)) := Lib.hid (by
              intro x hx
              rw [List.getElem?_set]
              rcases Nat.lt_or_ge x j with h | h
              · rw [if_neg (fun e => HINJ.out x h e.symm)]
                exact HSET.out x h
              · obtain rfl : x = j := by omega
                rw [HY.out, if_pos rfl, if_pos (by rw [HLL.out]; exact hnj)])
            clear hcr2
            generalize dg d j = dj at *
            go_wp2_with fail
            go_roundw
            case rel => exact ⟨j + 1, _, by omega, by go_num, by rw [List.length_set]; exact HLL.out, HSET2.out, HCR2.out, HCD2.out, HBI2.out⟩
            case measure => simp [intOf]; omega
          · obtain rfl : n = j := by omega
            have HMI := Lib.hid (HM.out.below (w' := wr) (by rw [HRB.out]; exact HBI.out))
            have hput := RowsAt.put (i := v) (R := Rb) (l := l) HMI.out HCR.out (Nat.le_of_lt hGw) (show Rb ≠ G by omega) (fun q R' l' hq hne hf => by have := (HM.out.row q R' l' hq hf).1.lt; have := HRB.out; omega)
            rw [HLL.out] at hput
            have hgm : GoodMat n (Ed n U V) node (r + 1) (updF f v (some (Rb, l))) := by
              intro q hq
              rcases Nat.lt_or_ge q r with h | h
              · obtain ⟨R', l', h1, h2⟩ := HGM.out q h
                refine ⟨R', l', ?_, h2⟩
                unfold updF
                rw [if_neg (fun e => by have := HPM.out.inj q r (by omega) hlt (by rw [e, HV2.out]); omega)]
                exact h1
              · obtain rfl : q = r := by omega
                refine ⟨Rb, l, by unfold updF; rw [if_pos HV2.out], HLL.out, fun x hx => ⟨dg d x, HSET.out x hx, HLE.out x, (HTWO.out x).1, ?_⟩⟩
                rcases (HTWO.out x).2 with h3 | h3
                · omega
                · unfold farI; omega
            have HPUT := Lib.hid hput
            have HGM2 := Lib.hid hgm
            have gc := HMI.out.rows.cell v
            rw [rowsA_at _ hv] at gc
            have gf := HMI.out.rows.frozen v
            have HBE := Lib.hid (HB4I.out.setCell (p := ⟨G, v, none⟩) (Nat.le_refl _) (.slice (some ⟨Rb, 0, none⟩) n n))
            have i5 : (0 : Int) ≤ (v : Int) := by omega
            have i6 : (v : Int) < (n : Int) := by omega
            clear hput hgm
            generalize rowV f v = rv at *
            go_wp2_with fail
            go_roundw
            case rel => exact ⟨r + 1, _, by omega, by go_num, HPUT.out, HGM2.out, HBE.out⟩
            case measure => simp [intOf]; omega
      · obtain rfl : n = r := by omega
        have HEND : Hid (MatrixRes none n (Ed n U V) node W (.returned (.tuple #[.slice (some ⟨G, 0, none⟩) n n, .nilIface])) wr) := Lib.hid ⟨G, f, rfl, HM.out.mono hzG, HGM.out, HB4.out.trans (HB.out.mono hzG)⟩
        go_wp2_with fail
        rw [HQ0.out]
        go_ret2
        exact HEND.out
end Go.Proofs.YtkcnnamghpdplaaDoor

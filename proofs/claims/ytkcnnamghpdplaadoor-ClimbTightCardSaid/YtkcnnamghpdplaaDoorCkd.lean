/- ClimbTight: the walk. -/
import Derived.Test.YtkcnnamghpdplaaDoorCkc
import Derived.Test.YtkcnnamghpdplaaDoorCd1
import Derived.Test.YtkcnnamghpdplaaDoorCd3
import Derived.Test.YtkcnnamghpdplaaDoorCl33
import Derived.Test.YtkcnnamghpdplaaDoorClRecs
import Derived.Deep.DeepCutAuto
import Derived.BigRegion
import Derived.RegionTactic
import Derived.BigQuiet
import Derived.StillTailTactics
set_option linter.unusedSimpArgs false
set_option linter.unusedVariables false
namespace Go.Proofs.YtkcnnamghpdplaaDoor
open Go.RowKit

set_option maxRecDepth 100000 in
set_option maxHeartbeats 16000000 in
theorem ClimbTight_any (k : HV) (h : HierT) (W : World) (hg : ErrT W) (hp : RdH W k h) (hs : Small k h) (hin : InH h) :
    Calls Tryd.prog 6 #[hierV k h] W (BoolBelow true W) := by
  have HGT := Lib.hid hg
  have HIN := Lib.hid hin
  have HGB := Lib.hid (good_chk h)
  have HFEW := Lib.hid (fun w => few_any k h w hs)
  have h14 : fewB h = true → h.node.length ≤ 14 := fun e => (of_decide_eq_true e).1
  have HMT : Hid (∀ w, Below W.heap.size W w → h.node.length ≤ 14 → Calls Tryd.prog 22 #[hierV k h] w (MatrixRes (chkB h) h.node.length (Ed h.node.length (seg h.uf h.up) (seg h.df h.dn)) h.node w)) := Lib.hid fun w hb hn => Matrix_any k h w (hp.below hb) hs hin hn
  have HCK : Hid (∀ w, Below W.heap.size W w → Calls Tryd.prog 17 #[hierV k h] w (ErrDoc (chkB h) w)) := Lib.hid fun w hb => DocCheck_any k h w (hp.below hb) hs hin
  have HUP : Hid (chkB h = none → ∀ w r, Below W.heap.size W w → r < h.node.length → Calls Tryd.prog 9 #[hierV k h, .int .i64 (r : Int)] w (SeesIs h.node.length (seg h.uf h.up) (seg h.df h.dn) r w)) := Lib.hid fun hc w r hb hr => Up_is k h w (hp.below hb) hs hin hc hr
  have HDN : Hid (chkB h = none → ∀ w r, Below W.heap.size W w → r < h.node.length → Calls Tryd.prog 15 #[hierV k h, .int .i64 (r : Int)] w (SeesIs h.node.length (seg h.df h.dn) (seg h.uf h.up) r w)) := Lib.hid fun hc w r hb hr => Down_is k h w (hp.below hb) hs hin hc hr
  have HSC : Hid (chkB h = none → ∀ w, Below W.heap.size W w → Calls Tryd.prog 24 #[hierV k h] w (SCheckIs h.node.length (seg h.uf h.up) (seg h.df h.dn) w)) := Lib.hid fun hc w hb => SCheck_any k h w (hp.below hb) hs hin hc
  have HND := Lib.hid hp.r0
  have HFM : Hid (chkB h = none → Perm h.node h.node.length ∧ Ups h.node.length (seg h.uf h.up) ∧ Ups h.node.length (seg h.df h.dn)) := Lib.hid fun hc => ⟨chk_perm hc, ((Sound.of_none hc).up hin).ups, ((Sound.of_none hc).dn hin).ups⟩
  have ht0 := hs.t0
  clear hg hp hs hin
  unfold hierV at *
  generalize hch : chkB h = bug at *
  clear hch
  generalize seg h.uf h.up = U at *
  generalize seg h.df h.dn = V at *
  generalize fewB h = fb at *
  generalize h.node.length = n at *
  generalize h.uf.length = n1 at *
  generalize h.up.length = n2 at *
  generalize h.df.length = n3 at *
  generalize h.dn.length = n4 at *
  generalize h.node = node at *
  go_enter Tryd.func6, Tryd.ntmps6
  refine wp_post_named6 ?_
  intro Q0 hQ0
  have HQ0 := Lib.hid hQ0
  clear hQ0
  go_upto_region 1 with fail
  have hb1 := (Below.refl W.heap.size W).alloc (Nat.le_refl _) (.cells #[.slice k.a0 n k.c0, .slice k.a1 n1 k.c1, .slice k.a2 n2 k.c2, .slice k.a3 n3 k.c3, .slice k.a4 n4 k.c4] 25)
  have hc1 := cells_new W #[.slice k.a0 n k.c0, .slice k.a1 n1 k.c1, .slice k.a2 n2 k.c2, .slice k.a3 n3 k.c3, .slice k.a4 n4 k.c4] 25
  generalize W.alloc (.cells #[.slice k.a0 n k.c0, .slice k.a1 n1 k.c1, .slice k.a2 n2 k.c2, .slice k.a3 n3 k.c3, .slice k.a4 n4 k.c4] 25) = w1 at *
  have HB1 := Lib.hid hb1
  have HC1 := Lib.hid hc1
  clear hb1 hc1
  go_wp2_with fail
  refine (awake_any w1).mono ?_
  rintro e w2 ⟨rfl, hb⟩
  have HB2 := Lib.hid (HB1.out.trans (hb.mono HB1.out.size))
  have HC2 := Lib.hid (HC1.out.below hb)
  clear hb HB1 HC1
  have d0 : w2.cell? ⟨W.heap.size, 0, none⟩ = some (.slice k.a0 n k.c0) := HC2.out.cell 0
  have d1 : w2.cell? ⟨W.heap.size, 1, none⟩ = some (.slice k.a1 n1 k.c1) := HC2.out.cell 1
  have d2 : w2.cell? ⟨W.heap.size, 2, none⟩ = some (.slice k.a2 n2 k.c2) := HC2.out.cell 2
  have d3 : w2.cell? ⟨W.heap.size, 3, none⟩ = some (.slice k.a3 n3 k.c3) := HC2.out.cell 3
  have d4 : w2.cell? ⟨W.heap.size, 4, none⟩ = some (.slice k.a4 n4 k.c4) := HC2.out.cell 4
  go_wp2_with fail
  refine (HFEW.out _).mono ?_
  rintro e w3 ⟨rfl, hb⟩
  have HB3 := Lib.hid (HB2.out.trans (hb.mono HB2.out.size))
  have HC3 := Lib.hid (HC2.out.below hb)
  clear hb d0 d1 d2 d3 d4 HB2 HC2 HFEW
  cases fb
  · go_wp2_with fail
    rw [HQ0.out]
    go_ret
    exact ⟨rfl, HB3.out⟩
  have hn14 := h14 rfl
  clear h14
  have d0 : w3.cell? ⟨W.heap.size, 0, none⟩ = some (.slice k.a0 n k.c0) := HC3.out.cell 0
  have d1 : w3.cell? ⟨W.heap.size, 1, none⟩ = some (.slice k.a1 n1 k.c1) := HC3.out.cell 1
  have d2 : w3.cell? ⟨W.heap.size, 2, none⟩ = some (.slice k.a2 n2 k.c2) := HC3.out.cell 2
  have d3 : w3.cell? ⟨W.heap.size, 3, none⟩ = some (.slice k.a3 n3 k.c3) := HC3.out.cell 3
  have d4 : w3.cell? ⟨W.heap.size, 4, none⟩ = some (.slice k.a4 n4 k.c4) := HC3.out.cell 4
  go_wp2_with fail
  refine (HMT.out w3 HB3.out hn14).mono ?_
  clear HMT d0 d1 d2 d3 d4
  rintro e w4 he
  cases bug with
  | some b => as_aux_lemma =>
      obtain ⟨v, rfl, hv⟩ := he
      have HV4 := Lib.hid hv.px
      have HB4 := Lib.hid (HB3.out.trans (hv.1.mono HB3.out.size))
      have HC4 := Lib.hid (HC3.out.below hv.1)
      clear hv HB3 HC3
      have d0 : w4.cell? ⟨W.heap.size, 0, none⟩ = some (.slice k.a0 n k.c0) := HC4.out.cell 0
      have d1 : w4.cell? ⟨W.heap.size, 1, none⟩ = some (.slice k.a1 n1 k.c1) := HC4.out.cell 1
      have d2 : w4.cell? ⟨W.heap.size, 2, none⟩ = some (.slice k.a2 n2 k.c2) := HC4.out.cell 2
      have d3 : w4.cell? ⟨W.heap.size, 3, none⟩ = some (.slice k.a3 n3 k.c3) := HC4.out.cell 3
      have d4 : w4.cell? ⟨W.heap.size, 4, none⟩ = some (.slice k.a4 n4 k.c4) := HC4.out.cell 4
      go_wp2_with fail
      refine (HCK.out w4 HB4.out).mono ?_
      rintro e w5 he
      obtain ⟨x, rfl, hx, hb⟩ := he.x
      have HB5 := Lib.hid (HB4.out.trans (hb.mono HB4.out.size))
      have HV5 := Lib.hid (HV4.out.below hb)
      have HX5 := Lib.hid hx
      have hbad := hx.bad HGB.out
      obtain ⟨x0, x1, x2, x3⟩ := x
      have HBD : Hid (decide (x0 ≠ 0 ∨ 0 < x2) = true) := Lib.hid hbad
      clear hb hx he hbad HV4 HB4 HC4 d0 d1 d2 d3 d4
      dsimp only [errV]
      go_upto_region 7 with fail
      have hb6 := (Below.refl w5.heap.size w5).alloc (Nat.le_refl _) (.cells #[.int .i64 x0, .slice x1 x2 x3] 37)
      have HB6 := Lib.hid (HB5.out.trans (hb6.mono HB5.out.size))
      have HV6 := Lib.hid (HV5.out.below hb6)
      have HX6 := Lib.hid (HX5.out.below hb6)
      have HE6 := Lib.hid (cells_new w5 #[.int .i64 x0, .slice x1 x2 x3] 37)
      clear hb6 HB5 HV5 HX5
      generalize w5.alloc (.cells #[.int .i64 x0, .slice x1 x2 x3] 37) = w6 at *
      generalize w5.heap.size = E at *
      have y0 : w6.cell? ⟨E, 0, none⟩ = some (.int .i64 x0) := HE6.out.cell 0
      have y1 : w6.cell? ⟨E, 1, none⟩ = some (.slice x1 x2 x3) := HE6.out.cell 1
      go_wp2_with fail
      refine (Bad_any x0 x1 x2 x3 w6).mono ?_
      rw [HBD.out]
      rintro e w7 ⟨rfl, hb⟩
      have HB7 := Lib.hid (HB6.out.trans (hb.mono HB6.out.size))
      have HV7 := Lib.hid (HV6.out.below hb)
      have HX7 := Lib.hid (HX6.out.below hb)
      have HE7 := Lib.hid (HE6.out.below hb)
      have HSB := Lib.hid (same_bug HV7.out HX7.out HGB.out (HGT.out.below HB7.out))
      clear hb y0 y1 HB6 HV6 HX6 HE6
      have y0 : w7.cell? ⟨E, 0, none⟩ = some (.int .i64 x0) := HE7.out.cell 0
      have y1 : w7.cell? ⟨E, 1, none⟩ = some (.slice x1 x2 x3) := HE7.out.cell 1
      go_wp2_with fail
      refine HSB.out.mono ?_
      rintro e w8 ⟨rfl, hb⟩
      have HB8 := Lib.hid (HB7.out.trans (hb.mono HB7.out.size))
      clear hb y0 y1 HB7 HV7 HX7 HE7 HSB
      go_wp2_with fail
      rw [HQ0.out]
      go_ret
      exact ⟨rfl, HB8.out⟩
  | none =>
    obtain ⟨G, f, rfl, hm, hgm, hb4⟩ := he
    have HB4 := Lib.hid (HB3.out.trans (hb4.mono HB3.out.size))
    have HC4 := Lib.hid (HC3.out.below hb4)
    have HM4 := Lib.hid hm
    have HGM := Lib.hid hgm
    clear hm hgm hb4 HB3 HC3
    generalize w3.heap.size = base at *
    have d0 : w4.cell? ⟨W.heap.size, 0, none⟩ = some (.slice k.a0 n k.c0) := HC4.out.cell 0
    have d1 : w4.cell? ⟨W.heap.size, 1, none⟩ = some (.slice k.a1 n1 k.c1) := HC4.out.cell 1
    have d2 : w4.cell? ⟨W.heap.size, 2, none⟩ = some (.slice k.a2 n2 k.c2) := HC4.out.cell 2
    have d3 : w4.cell? ⟨W.heap.size, 3, none⟩ = some (.slice k.a3 n3 k.c3) := HC4.out.cell 3
    have d4 : w4.cell? ⟨W.heap.size, 4, none⟩ = some (.slice k.a4 n4 k.c4) := HC4.out.cell 4
    go_wp2_with fail
    refine (HCK.out w4 HB4.out).mono ?_
    rintro e w5 he
    obtain ⟨x, rfl, hx, hb⟩ := he.x
    have HB5 := Lib.hid (HB4.out.trans (hb.mono HB4.out.size))
    have HC5 := Lib.hid (HC4.out.below hb)
    have HM5 := Lib.hid (HM4.out.below hb)
    have hx5 : x = zX := hx
    subst hx5
    clear hb hx he HB4 HC4 HM4 HCK HGB HGT d0 d1 d2 d3 d4
    dsimp only [errV, zX]
    go_upto_region 7 with fail
    have hb6 := (Below.refl w5.heap.size w5).alloc (Nat.le_refl _) (.cells #[.int .i64 0, .slice none 0 0] 37)
    have HB6 := Lib.hid (HB5.out.trans (hb6.mono HB5.out.size))
    have HC6 := Lib.hid (HC5.out.below hb6)
    have HM6 := Lib.hid (HM5.out.below hb6)
    have HE6 := Lib.hid (cells_new w5 #[.int .i64 0, .slice none 0 0] 37)
    clear hb6 HB5 HC5 HM5
    generalize w5.alloc (.cells #[.int .i64 0, .slice none 0 0] 37) = w6 at *
    generalize w5.heap.size = E at *
    have y0 : w6.cell? ⟨E, 0, none⟩ = some (.int .i64 0) := HE6.out.cell 0
    have y1 : w6.cell? ⟨E, 1, none⟩ = some (.slice none 0 0) := HE6.out.cell 1
    go_wp2_with fail
    refine (Bad_any 0 none 0 0 w6).mono ?_
    rintro e w7 ⟨rfl, hb⟩
    have HB7 := Lib.hid (HB6.out.trans (hb.mono HB6.out.size))
    have HC7 := Lib.hid (HC6.out.below hb)
    have HM7 := Lib.hid (HM6.out.below hb)
    clear hb y0 y1 HB6 HC6 HM6 HE6
    obtain ⟨hpm, hU, hV⟩ := HFM.out trivial
    have HPM := Lib.hid hpm
    have HSU := Lib.hid hU
    have HSV := Lib.hid hV
    clear hpm hU hV HFM
    have HSQ := Lib.hid (square_any base G n f w7 HM7.out (fun i hi => by
      obtain ⟨r, hr, rfl⟩ := HPM.out.all i hi
      obtain ⟨R, l, h1, h2, -⟩ := HGM.out r hr
      exact ⟨R, l, h1, h2⟩) (by omega))
    have d0 : w7.cell? ⟨W.heap.size, 0, none⟩ = some (.slice k.a0 n k.c0) := HC7.out.cell 0
    go_wp2_with fail
    refine HSQ.out.mono ?_
    rintro e w7' ⟨rfl, rfl⟩
    clear HSQ
    go_wp2_with fail
    clear d0
    have HT : Hid (∀ w, Below w7.heap.size w7 w → Cells w W.heap.size #[.slice k.a0 n k.c0, .slice k.a1 n1 k.c1, .slice k.a2 n2 k.c2, .slice k.a3 n3 k.c3, .slice k.a4 n4 k.c4] 25 ∧ RowsU w base G n f ∧ Rd32 w k.a0 n node ∧ Below W.heap.size W w) :=
      Lib.hid fun w hb => ⟨HC7.out.below hb, HM7.out.below hb, HND.out.below (HB7.out.trans (hb.mono HB7.out.size)), HB7.out.trans (hb.mono HB7.out.size)⟩
    have hz7 : Below w7.heap.size w7 w7 := Below.refl _ _
    have ht7 := Two.start w7 w7.heap.size
    generalize hB : w7.heap.size = B at *
    have HZ7 := Lib.hid hz7
    have HT7 := Lib.hid ht7
    have HBE := Lib.hid hB
    clear hz7 ht7 HC7 HM7 HND HB7 hB
    go_loopw [6, 7, 54] (fun uv dv iv wr => ∃ (r : Nat) (us ds : List SlT) (Ls Ms : List (List SeenT)), r ≤ n ∧ iv = .int .i64 r ∧ Two wr B uv dv us ds Ls Ms ∧ Ls.length = r ∧ Ms.length = r ∧ (∀ i L, Ls[i]? = some L → UpL n U V i L) ∧ (∀ i L, Ms[i]? = some L → UpL n V U i L) ∧ Below B w7 wr) (fun _ _ iv _ => n - (intOf iv).toNat)
    case atStart => exact ⟨0, [], [], [], [], by omega, rfl, HT7.out, rfl, rfl, fun i L h => (by simp at h), fun i L h => (by simp at h), HZ7.out⟩
    case round =>
      clear HZ7 HT7
      obtain ⟨r, us, ds, Ls, Ms, hr, rfl, htw, hll, hml, hls, hms, hb⟩ := hrel
      have HTW := Lib.hid htw
      have HLS := Lib.hid hls
      have HMS := Lib.hid hms
      have HB := Lib.hid hb
      clear htw hls hms hb
      generalize wr = wo at *
      generalize u6 = uv at *
      generalize u7 = dv at *
      by_cases hlt : r < n
      · have g0 : decide ((r : Int) < (n : Int)) = true := decide_eq_true (by omega)
        have HBO : Hid (B ≤ wo.heap.size) := Lib.hid (by have := HB.out.size; have := HBE.out; omega)
        have hbox := (HT.out wo HB.out).1
        have d0 : wo.cell? ⟨W.heap.size, 0, none⟩ = some (.slice k.a0 n k.c0) := hbox.cell 0
        have d1 : wo.cell? ⟨W.heap.size, 1, none⟩ = some (.slice k.a1 n1 k.c1) := hbox.cell 1
        have d2 : wo.cell? ⟨W.heap.size, 2, none⟩ = some (.slice k.a2 n2 k.c2) := hbox.cell 2
        have d3 : wo.cell? ⟨W.heap.size, 3, none⟩ = some (.slice k.a3 n3 k.c3) := hbox.cell 3
        have d4 : wo.cell? ⟨W.heap.size, 4, none⟩ = some (.slice k.a4 n4 k.c4) := hbox.cell 4
        clear hbox
        go_wp2_with fail
        refine (HUP.out trivial wo r (HT.out wo HB.out).2.2.2 hlt).mono ?_
        clear d0 d1 d2 d3 d4
        rintro e wa ⟨Lu, Au, cu, hLu, rfl, hou, hba⟩
        have HLU := Lib.hid hLu
        have HOU := Lib.hid hou
        have HBA := Lib.hid hba
        have HBAA := Lib.hid (HB.out.trans (hba.mono HBO.out))
        clear hLu hou hba
        have hbox := (HT.out wa HBAA.out).1
        have d0 : wa.cell? ⟨W.heap.size, 0, none⟩ = some (.slice k.a0 n k.c0) := hbox.cell 0
        have d1 : wa.cell? ⟨W.heap.size, 1, none⟩ = some (.slice k.a1 n1 k.c1) := hbox.cell 1
        have d2 : wa.cell? ⟨W.heap.size, 2, none⟩ = some (.slice k.a2 n2 k.c2) := hbox.cell 2
        have d3 : wa.cell? ⟨W.heap.size, 3, none⟩ = some (.slice k.a3 n3 k.c3) := hbox.cell 3
        have d4 : wa.cell? ⟨W.heap.size, 4, none⟩ = some (.slice k.a4 n4 k.c4) := hbox.cell 4
        clear hbox
        go_wp2_with fail
        refine (HDN.out trivial wa r (HT.out wa HBAA.out).2.2.2 hlt).mono ?_
        clear d0 d1 d2 d3 d4
        rintro e wb ⟨Ld, Ad, cd, hLd, rfl, hod, hbb⟩
        have HLD := Lib.hid hLd
        have hAO : wo.heap.size ≤ wa.heap.size := HBA.out.size
        have HBAB := Lib.hid (HBA.out.trans (hbb.mono hAO))
        have HTB := Lib.hid (HTW.out.below HBAB.out)
        have HBB := Lib.hid (HB.out.trans (HBAB.out.mono HBO.out))
        have HBZ : Hid (B ≤ wb.heap.size) := Lib.hid (by have := HBAB.out.size; have := HBO.out; omega)
        have HNU : Hid (∀ q, (Value.slice Au Lu.length cu).ownBlock = some q → uv.ownBlock ≠ some q ∧ dv.ownBlock ≠ some q) := Lib.hid (fun q hq => by
          have h1 := (HOU.out.block hq).1
          exact ⟨fun h2 => by have := (HTW.out.u.block h2).2; omega, fun h2 => by have := (HTW.out.d.block h2).2; omega⟩)
        have HND2 : Hid (∀ q, (Value.slice Ad Ld.length cd).ownBlock = some q → uv.ownBlock ≠ some q ∧ dv.ownBlock ≠ some q) := Lib.hid (fun q hq => by
          have h1 := (hod.block hq).1
          exact ⟨fun h2 => by have := (HTW.out.u.block h2).2; omega, fun h2 => by have := (HTW.out.d.block h2).2; omega⟩)
        have HOUB : Hid (OwnSn wb B (.slice Au Lu.length cu) Lu) := Lib.hid ((HOU.out.below hbb).mono HBO.out)
        have HODB : Hid (OwnSn wb B (.slice Ad Ld.length cd) Ld) := Lib.hid (hod.mono (Nat.le_trans HBO.out hAO))
        clear hLd hod hbb hAO HTW HOU HBA HBAA HBAB HBO HB
        go_wp2_with fail
        have hln := HLU.out.len
        have hld := HLD.out.len
        go_loopw [77] (fun iv wi => ∃ i : Nat, i ≤ Lu.length ∧ iv = .int .i64 i ∧ Below wb.heap.size wb wi) (fun iv _ => Lu.length - (intOf iv).toNat)
        case atStart => exact ⟨0, by omega, rfl, Below.refl _ _⟩
        case round =>
          obtain ⟨i, hi, rfl, hb⟩ := hrel
          have HB := Lib.hid hb
          clear hb
          by_cases hli : i < Lu.length
          · as_aux_lemma =>
              have g0 : decide ((i : Int) < (Lu.length : Int)) = true := decide_eq_true (by omega)
              have HBW := Lib.hid (HBB.out.trans (HB.out.mono HBZ.out))
              have hrl : RdSn wr Au Lu.length Lu := (HOUB.out.below HB.out).rd encSn_len rfl
              obtain ⟨ad2, hA2, cc⟩ := hrl.at_ hli
              obtain ⟨c0, c1, c2⟩ := three_cells cc
              obtain ⟨e1, e2, e3⟩ := UpL.entry (V := V) HSU.out HLU.out (List.getElem_mem hli)
              generalize Lu[i] = x at *
              obtain ⟨x0, x1, x2⟩ := x
              dsimp only at c0 c1 c2 e1 e2 e3
              clear cc hrl
              obtain ⟨hbox, hmx, hnd, -⟩ := HT.out wr HBW.out
              obtain ⟨R, m, m1, m2, m3, -⟩ := mat_cells hmx HGM.out HPM.out hlt e2
              obtain ⟨f1, f2⟩ := e3 m m3
              obtain ⟨ad, hA, nd1⟩ := node_at hnd hlt
              obtain ⟨ad', hA', nd2⟩ := node_at hnd e2
              rw [hA] at hA'
              obtain rfl := Option.some.inj hA'
              have v1 := HPM.out.lt r hlt
              have v2 := HPM.out.lt x0 e2
              have d0 : wr.cell? ⟨W.heap.size, 0, none⟩ = some (.slice k.a0 n k.c0) := hbox.cell 0
              rw [hA] at d0
              clear hbox hmx hnd e3 m3 hA hA'
              subst hA2
              generalize node.getD r 0 = y1 at *
              generalize node.getD x0 0 = y2 at *
              have hcx := cells_new wr #[.int .i64 (x0 : Int), .int .u64 x1, .bool x2] 48
              have hbx := (Below.refl wr.heap.size wr).alloc (Nat.le_refl _) (.cells #[.int .i64 (x0 : Int), .int .u64 x1, .bool x2] 48)
              have i1 : (0 : Int) ≤ (i : Int) := by omega
              go_upto_region 22 with fail
              have hcs : wb.heap.size ≤ wr.heap.size := HB.out.size
              generalize wr.alloc (.cells #[.int .i64 (x0 : Int), .int .u64 x1, .bool x2] 48) = w8 at *
              have HB8 := Lib.hid (HB.out.trans (hbx.mono hcs))
              have k0 : w8.cell? ⟨wr.heap.size, 0, none⟩ = some (.int .i64 (x0 : Int)) := hcx.cell 0
              have k1 : w8.cell? ⟨wr.heap.size, 1, none⟩ = some (.int .u64 x1) := hcx.cell 1
              have k2 : w8.cell? ⟨wr.heap.size, 2, none⟩ = some (.bool x2) := hcx.cell 2
              have d0 := cell_below hbx d0
              have nd1 := cell_below hbx nd1
              have nd2 := cell_below hbx nd2
              have m1 := cell_below hbx m1
              have m2 := cell_below hbx m2
              clear c0 c1 c2 hbx hcx hcs HBW HB
              generalize wr.heap.size = X at *
              have q1 : decide ((x0 : Int) < (r : Int)) = false := decide_eq_false (by omega)
              have q1' : decide (x0 < r) = false := decide_eq_false (by omega)
              have q2 : decide ((n : Int) ≤ (x0 : Int)) = false := decide_eq_false (by omega)
              have q2' : decide (n ≤ x0) = false := decide_eq_false (by omega)
              have q3 : decide (x1 < m) = false := decide_eq_false (by omega)
              have j1 : (0 : Int) ≤ (r : Int) := by omega
              have j2 : (r : Int) < (n : Int) := by omega
              have j3 : (0 : Int) ≤ (x0 : Int) := by omega
              have j4 : (x0 : Int) < (n : Int) := by omega
              have j5 : (0 : Int) ≤ (y1 : Int) := by omega
              have j6 : (y1 : Int) < (n : Int) := by omega
              have j7 : (0 : Int) ≤ (y2 : Int) := by omega
              have j8 : (y2 : Int) < (n : Int) := by omega
              cases x2 with
              | false =>
                clear f2
                go_quiet (fail)
                have hdr : Drawn w8 (w8.drewN nq) := ⟨nq, rfl⟩
                generalize w8.drewN nq = wA at hdr ⊢
                have HB9 := Lib.hid (HB8.out.trans (hdr.below _))
                clear k0 k1 k2 d0 nd1 nd2 m1 m2
                go_wp2_with fail
                go_roundw
                case rel => exact ⟨i + 1, by omega, by go_num, HB9.out⟩
                case measure => simp [intOf]; omega
              | true =>
                have f3 := f2 rfl
                have q4 : (x1 == m) = false := by rw [beq_eq_false_iff_ne]; omega
                clear f2
                go_quiet (fail)
                have hdr : Drawn w8 (w8.drewN nq) := ⟨nq, rfl⟩
                generalize w8.drewN nq = wA at hdr ⊢
                have HB9 := Lib.hid (HB8.out.trans (hdr.below _))
                clear k0 k1 k2 d0 nd1 nd2 m1 m2
                go_wp2_with fail
                go_roundw
                case rel => exact ⟨i + 1, by omega, by go_num, HB9.out⟩
                case measure => simp [intOf]; omega
          · obtain rfl : Lu.length = i := by omega
            have HTC := Lib.hid (HTB.out.below HB.out)
            have HBC := Lib.hid (HBB.out.trans (HB.out.mono HBZ.out))
            have HBY : Hid (B ≤ wr.heap.size) := Lib.hid (Nat.le_trans HBZ.out HB.out.size)
            have HOUC := Lib.hid (HOUB.out.below HB.out)
            have HODC := Lib.hid (HODB.out.below HB.out)
            clear HTB HBB HBZ HOUB HODB HB
            generalize wr = wc at *
            go_wp2_with fail
            go_loopw [141] (fun iv wi => ∃ i : Nat, i ≤ Ld.length ∧ iv = .int .i64 i ∧ Below wc.heap.size wc wi) (fun iv _ => Ld.length - (intOf iv).toNat)
            case atStart => exact ⟨0, by omega, rfl, Below.refl _ _⟩
            case round =>
              obtain ⟨i, hi, rfl, hb⟩ := hrel
              have HB := Lib.hid hb
              clear hb
              by_cases hli : i < Ld.length
              · as_aux_lemma =>
                  have g0 : decide ((i : Int) < (Ld.length : Int)) = true := decide_eq_true (by omega)
                  have HBW := Lib.hid (HBC.out.trans (HB.out.mono HBY.out))
                  have hrl : RdSn wr Ad Ld.length Ld := (HODC.out.below HB.out).rd encSn_len rfl
                  obtain ⟨ad2, hA2, cc⟩ := hrl.at_ hli
                  obtain ⟨c0, c1, c2⟩ := three_cells cc
                  obtain ⟨e1, e2, e3⟩ := DnL.entry (U := U) HSV.out HLD.out (List.getElem_mem hli)
                  generalize Ld[i] = x at *
                  obtain ⟨x0, x1, x2⟩ := x
                  dsimp only at c0 c1 c2 e1 e2 e3
                  clear cc hrl
                  obtain ⟨hbox, hmx, hnd, -⟩ := HT.out wr HBW.out
                  obtain ⟨R, m, m1, m2, m3, -⟩ := mat_cells hmx HGM.out HPM.out e2 hlt
                  obtain ⟨f1, f2⟩ := e3 m m3
                  obtain ⟨ad, hA, nd1⟩ := node_at hnd hlt
                  obtain ⟨ad', hA', nd2⟩ := node_at hnd e2
                  rw [hA] at hA'
                  obtain rfl := Option.some.inj hA'
                  have v1 := HPM.out.lt r hlt
                  have v2 := HPM.out.lt x0 e2
                  have d0 : wr.cell? ⟨W.heap.size, 0, none⟩ = some (.slice k.a0 n k.c0) := hbox.cell 0
                  rw [hA] at d0
                  clear hbox hmx hnd e3 m3 hA hA'
                  subst hA2
                  generalize node.getD r 0 = y1 at *
                  generalize node.getD x0 0 = y2 at *
                  have hcx := cells_new wr #[.int .i64 (x0 : Int), .int .u64 x1, .bool x2] 48
                  have hbx := (Below.refl wr.heap.size wr).alloc (Nat.le_refl _) (.cells #[.int .i64 (x0 : Int), .int .u64 x1, .bool x2] 48)
                  have i1 : (0 : Int) ≤ (i : Int) := by omega
                  go_upto_region 28 with fail
                  have hcs : wc.heap.size ≤ wr.heap.size := HB.out.size
                  generalize wr.alloc (.cells #[.int .i64 (x0 : Int), .int .u64 x1, .bool x2] 48) = w8 at *
                  have HB8 := Lib.hid (HB.out.trans (hbx.mono hcs))
                  have k0 : w8.cell? ⟨wr.heap.size, 0, none⟩ = some (.int .i64 (x0 : Int)) := hcx.cell 0
                  have k1 : w8.cell? ⟨wr.heap.size, 1, none⟩ = some (.int .u64 x1) := hcx.cell 1
                  have k2 : w8.cell? ⟨wr.heap.size, 2, none⟩ = some (.bool x2) := hcx.cell 2
                  have d0 := cell_below hbx d0
                  have nd1 := cell_below hbx nd1
                  have nd2 := cell_below hbx nd2
                  have m1 := cell_below hbx m1
                  have m2 := cell_below hbx m2
                  clear c0 c1 c2 hbx hcx hcs HBW HB
                  generalize wr.heap.size = X at *
                  have q1 : decide ((x0 : Int) < (r : Int)) = false := decide_eq_false (by omega)
                  have q1' : decide (x0 < r) = false := decide_eq_false (by omega)
                  have q2 : decide ((n : Int) ≤ (x0 : Int)) = false := decide_eq_false (by omega)
                  have q2' : decide (n ≤ x0) = false := decide_eq_false (by omega)
                  have q3 : decide (x1 < m) = false := decide_eq_false (by omega)
                  have j1 : (0 : Int) ≤ (r : Int) := by omega
                  have j2 : (r : Int) < (n : Int) := by omega
                  have j3 : (0 : Int) ≤ (x0 : Int) := by omega
                  have j4 : (x0 : Int) < (n : Int) := by omega
                  have j5 : (0 : Int) ≤ (y1 : Int) := by omega
                  have j6 : (y1 : Int) < (n : Int) := by omega
                  have j7 : (0 : Int) ≤ (y2 : Int) := by omega
                  have j8 : (y2 : Int) < (n : Int) := by omega
                  cases x2 with
                  | false =>
                    clear f2
                    go_quiet (fail)
                    have hdr : Drawn w8 (w8.drewN nq) := ⟨nq, rfl⟩
                    generalize w8.drewN nq = wA at hdr ⊢
                    have HB9 := Lib.hid (HB8.out.trans (hdr.below _))
                    clear k0 k1 k2 d0 nd1 nd2 m1 m2
                    go_wp2_with fail
                    go_roundw
                    case rel => exact ⟨i + 1, by omega, by go_num, HB9.out⟩
                    case measure => simp [intOf]; omega
                  | true =>
                    have f3 := f2 rfl
                    have q4 : (x1 == m) = false := by rw [beq_eq_false_iff_ne]; omega
                    clear f2
                    go_quiet (fail)
                    have hdr : Drawn w8 (w8.drewN nq) := ⟨nq, rfl⟩
                    generalize w8.drewN nq = wA at hdr ⊢
                    have HB9 := Lib.hid (HB8.out.trans (hdr.below _))
                    clear k0 k1 k2 d0 nd1 nd2 m1 m2
                    go_wp2_with fail
                    go_roundw
                    case rel => exact ⟨i + 1, by omega, by go_num, HB9.out⟩
                    case measure => simp [intOf]; omega
              · as_aux_lemma =>
                  obtain rfl : Ld.length = i := by omega
                  have HTD := Lib.hid (HTC.out.below HB.out)
                  have HBD := Lib.hid (HBC.out.trans (HB.out.mono HBY.out))
                  have HBX : Hid (B ≤ wr.heap.size) := Lib.hid (Nat.le_trans HBY.out HB.out.size)
                  have HOUD := Lib.hid (HOUC.out.below HB.out)
                  have HODD := Lib.hid (HODC.out.below HB.out)
                  have hul := HTD.out.ul
                  have hdl := HTD.out.dl
                  clear HTC HBC HBY HOUC HODC HB
                  have HNN : Hid (n ≤ 14) := Lib.hid hn14
                  generalize hn1 : Lu.length = lu at *
                  generalize hn2 : Ld.length = ld at *
                  have hb9 := (Below.refl wr.heap.size wr).alloc (Nat.le_refl _) (.cells #[.slice Au lu cu] 28)
                  go_upto_region 31 with fail
                  go_upto_region 32 with (at_builtin; go_loud (refine wpList_append_rd rfl (.tmp 203) (.tmp 205) 61 rfl 28 (.slice none 0 0) 24 Tryd.underlying61 info_seens rfl (by omega) (by omega) encL_len encL_one B uv us rfl (HTD.out.u.below hb9) _ 1 1 [(⟨Au, lu, cu⟩ : SlT)] rfl (rd_sl (x := (⟨Au, lu, cu⟩ : SlT)) rfl) (by omega) (by have := HBX.out; simp; omega) ?_; intro v2 w2 ho2 hg2 hat2))
                  have hp2 := Two.push2 (s := (⟨Au, lu, cu⟩ : SlT)) (t := (⟨Ad, ld, cd⟩ : SlT)) (HTD.out.below hb9) hg2 ho2 hat2 (HOUD.out.below hb9) HNU.out (HODD.out.below hb9) HND2.out
                  have HB2 : Hid (Below B w7 w2) := Lib.hid (below_own (HBD.out.alloc HBX.out _) (HTD.out.u.below hb9) hg2 (Nat.le_refl _) (by have := HBX.out; simp; omega))
                  have HT2 := Lib.hid hp2.1
                  have HO2 := Lib.hid hp2.2.1
                  have HN2 := Lib.hid hp2.2.2
                  have HBX2 : Hid (B ≤ w2.heap.size) := Lib.hid (by have := HB2.out.size; have := HBE.out; omega)
                  have hb9 := (Below.refl w2.heap.size w2).alloc (Nat.le_refl _) (.cells #[.slice Ad ld cd] 28)
                  clear hp2 ho2 hg2 hat2 HTD HOUD HODD HNU HND2 HBD HBX
                  go_upto_region 33 with (at_builtin; go_loud (refine wpList_append_rd rfl (.tmp 207) (.tmp 209) 61 rfl 28 (.slice none 0 0) 24 Tryd.underlying61 info_seens rfl (by omega) (by omega) encL_len encL_one B dv ds rfl (HT2.out.u.below hb9) _ 1 1 [(⟨Ad, ld, cd⟩ : SlT)] rfl (rd_sl (x := (⟨Ad, ld, cd⟩ : SlT)) rfl) (by omega) (by have := HBX2.out; simp; omega) ?_; intro v3 w3' ho3 hg3 hat3))
                  have hp3 := Two.push (s := (⟨Ad, ld, cd⟩ : SlT)) (HT2.out.below hb9) hg3 ho3 hat3 (HO2.out.below hb9) HN2.out
                  have HB3 : Hid (Below B w7 w3') := Lib.hid (below_own (HB2.out.alloc HBX2.out _) (HT2.out.u.below hb9) hg3 (Nat.le_refl _) (by have := HBX2.out; simp; omega))
                  have HT3 := Lib.hid hp3.1.swap
                  clear hp3 ho3 hg3 hat3 HT2 HO2 HN2 HBX2 HB2
                  subst hn1 hn2
                  go_wp2_with fail
                  go_roundw
                  case rel => exact ⟨r + 1, _, _, _, _, by omega, by go_num, HT3.out, by rw [List.length_append, hll]; rfl, by rw [List.length_append, hml]; rfl, snoc_all HLS.out (by rw [hll]; exact HLU.out), snoc_all HMS.out (by rw [hml]; exact HLD.out), HB3.out⟩
                  case measure => simp [intOf]; omega
      · obtain rfl : n = r := by omega
        have hul : us.length = n := by rw [HTW.out.ul]; exact hll
        have hdl : ds.length = n := by rw [HTW.out.dl]; exact hml
        have hbox := (HT.out wo HB.out).1
        have d0 : wo.cell? ⟨W.heap.size, 0, none⟩ = some (.slice k.a0 n k.c0) := hbox.cell 0
        have d1 : wo.cell? ⟨W.heap.size, 1, none⟩ = some (.slice k.a1 n1 k.c1) := hbox.cell 1
        have d2 : wo.cell? ⟨W.heap.size, 2, none⟩ = some (.slice k.a2 n2 k.c2) := hbox.cell 2
        have d3 : wo.cell? ⟨W.heap.size, 3, none⟩ = some (.slice k.a3 n3 k.c3) := hbox.cell 3
        have d4 : wo.cell? ⟨W.heap.size, 4, none⟩ = some (.slice k.a4 n4 k.c4) := hbox.cell 4
        have hf1 := HTW.out.u.form
        have hf2 := HTW.out.d.form
        rw [hul] at hf1
        rw [hdl] at hf2
        obtain ⟨A6, c6, rfl, -, -⟩ := hf1
        obtain ⟨A7, c7, rfl, -, -⟩ := hf2
        have HBO : Hid (B ≤ wo.heap.size) := Lib.hid (by have := HB.out.size; have := HBE.out; omega)
        clear hbox
        go_wp2_with fail
        refine (HSC.out trivial wo (HT.out wo HB.out).2.2.2).mono ?_
        clear d0 d1 d2 d3 d4
        rintro e wz ⟨hbz, hr2⟩
        have HTZ := Lib.hid (HTW.out.below hbz)
        have HBZ := Lib.hid (HB.out.trans (hbz.mono HBO.out))
        have HBO2 : Hid (B ≤ wz.heap.size) := Lib.hid (Nat.le_trans HBO.out hbz.size)
        clear HTW HB HBO hbz
        rcases hr2 with ⟨rfl, htr⟩ | ⟨g, rfl⟩
        rotate_left
        · go_wp2_with fail
          rw [HQ0.out]
          go_ret
          exact ⟨rfl, (HT.out _ HBZ.out).2.2.2⟩
        have HTR := Lib.hid htr
        clear htr
        go_wp2_with fail
        go_loopw [217] (fun iv wi => ∃ i : Nat, i ≤ n ∧ iv = .int .i64 i ∧ Below wz.heap.size wz wi) (fun iv _ => n - (intOf iv).toNat)
        case atStart => exact ⟨0, by omega, rfl, Below.refl _ _⟩
        case round =>
          obtain ⟨i, hi, rfl, hb⟩ := hrel
          have HB := Lib.hid hb
          clear hb
          generalize wr = wi at *
          by_cases hli : i < n
          · have g0 : decide ((i : Int) < (n : Int)) = true := decide_eq_true (by omega)
            go_wp2_with fail
            go_loopw [222] (fun jv wj => ∃ j : Nat, j ≤ n ∧ jv = .int .i64 j ∧ Below wz.heap.size wz wj) (fun jv _ => n - (intOf jv).toNat)
            case atStart => exact ⟨0, by omega, rfl, HB.out⟩
            case round =>
              clear HB
              obtain ⟨j, hj, rfl, hb⟩ := hrel
              have HB := Lib.hid hb
              clear hb
              by_cases hlj : j < n
              · as_aux_lemma =>
                  have g1 : decide ((j : Int) < (n : Int)) = true := decide_eq_true (by omega)
                  have HTJ := Lib.hid (HTZ.out.below HB.out)
                  have HBJ := Lib.hid (HBZ.out.trans (HB.out.mono HBO2.out))
                  obtain ⟨hbox, hmx, hnd, -⟩ := HT.out wr HBJ.out
                  obtain ⟨R, m, m1, m2, m3, m4⟩ := mat_cells hmx HGM.out HPM.out hli hlj
                  obtain ⟨ad, hA, nd1⟩ := node_at hnd hli
                  obtain ⟨ad', hA', nd2⟩ := node_at hnd hlj
                  rw [hA] at hA'
                  obtain rfl := Option.some.inj hA'
                  have v1 := HPM.out.lt i hli
                  have v2 := HPM.out.lt j hlj
                  have d0 : wr.cell? ⟨W.heap.size, 0, none⟩ = some (.slice k.a0 n k.c0) := hbox.cell 0
                  rw [hA] at d0
                  obtain ⟨au, s, hAu, hus, r1⟩ := own_cell HTJ.out.u hul hli
                  obtain ⟨av, t, hAv, hds, r2⟩ := own_cell HTJ.out.d hdl hlj
                  obtain ⟨L, hL⟩ : ∃ L, Ls[i]? = some L := ⟨_, List.getElem?_eq_getElem (by omega)⟩
                  obtain ⟨M, hM⟩ : ∃ M, Ms[j]? = some M := ⟨_, List.getElem?_eq_getElem (by omega)⟩
                  have hLU := HLS.out i L hL
                  have hMD := HMS.out j M hM
                  have hoL := HTJ.out.ur i s L hus hL
                  have hoM := HTJ.out.dr j t M hds hM
                  have hrL : RdSn wr s.a s.n L := hoL.rd encSn_len rfl
                  have hrM : RdSn wr t.a t.n M := hoM.rd encSn_len rfl
                  have hmeet := meet_lists HSU.out HSV.out HTR.out hLU hMD m3 m4
                  have HMT : Hid (∀ w, Below wr.heap.size wr w → Calls Tryd.prog 25 #[.slice s.a s.n s.c, .slice t.a t.n t.c] w fun e w' => e = .returned (.int .u64 m) ∧ Below w.heap.size w w') := Lib.hid fun w hb => by
                    rw [← hmeet]
                    exact meet_any s.a t.a s.n t.n s.c t.c L M w (hrL.below hb) (hrM.below hb) (hLU.safe HSU.out (by omega)) (hMD.safe HSV.out (by omega)) (by have := hrL.1; have := hLU.len; omega) (by have := hrM.1; have := hMD.len; omega)
                  have HX : Hid (Below wr.heap.size wr wr) := Lib.hid (Below.refl _ _)
                  have HWR : Hid (wz.heap.size ≤ wr.heap.size) := Lib.hid HB.out.size
                  have HZR : Hid (Below wz.heap.size wz wr) := Lib.hid HB.out
                  clear hbox hmx hnd m3 m4 hA hA' hL hM hLU hMD hoL hoM hrL hrM hmeet hus hds HTJ HBJ HB
                  subst hAu hAv
                  obtain ⟨s1, s2, s3⟩ := s
                  obtain ⟨t1, t2, t3⟩ := t
                  dsimp only at r1 r2 HMT
                  generalize node.getD i 0 = y1 at *
                  generalize node.getD j 0 = y2 at *
                  have j1 : (0 : Int) ≤ (i : Int) := by omega
                  have j2 : (i : Int) < (n : Int) := by omega
                  have j3 : (0 : Int) ≤ (j : Int) := by omega
                  have j4 : (j : Int) < (n : Int) := by omega
                  have j5 : (0 : Int) ≤ (y1 : Int) := by omega
                  have j6 : (y1 : Int) < (n : Int) := by omega
                  have j7 : (0 : Int) ≤ (y2 : Int) := by omega
                  have j8 : (y2 : Int) < (n : Int) := by omega
                  have q0 : (m != m) = false := by simp
                  go_upto_region 42 with fail
                  generalize hw0 : wr = w0' at *
                  have hx0 := HX.out
                  clear HX
                  have HX : Hid (Below w0'.heap.size w0' w0') := Lib.hid hx0
                  clear hx0
                  go_region_held3 (fun w' => w'.cell? ⟨W.heap.size, 0, none⟩ = some (.slice (some ad) n k.c0) ∧ w'.cell? (ad.add i) = some (.int .u32 (y1 : Nat)) ∧ w'.cell? (ad.add j) = some (.int .u32 (y2 : Nat)) ∧ w'.cell? ⟨G, y1, none⟩ = some (.slice (some ⟨R, 0, none⟩) n n) ∧ w'.cell? ⟨R, y2, none⟩ = some (.int .u64 m) ∧ w'.cell? (au.add i) = some (.slice s1 s2 s3) ∧ w'.cell? (av.add j) = some (.slice t1 t2 t3)) (first | with_reducible exact ⟨d0, nd1, nd2, m1, m2, r1, r2⟩ | go_keep) (first
                    | (go_at_call 25; (with_reducible refine (HMT.out _ (by first | exact HX.out | exact HX.out.drew)).mono ?_); rintro e v0 ⟨rfl, hb5⟩; have d0 := cell_below hb5 d0; have nd1 := cell_below hb5 nd1; have nd2 := cell_below hb5 nd2; have m1 := cell_below hb5 m1; have m2 := cell_below hb5 m2; have r1 := cell_below hb5 r1; have r2 := cell_below hb5 r2; have HX : Hid (Below w0'.heap.size w0' v0) := Lib.hid (by first | exact HX.out.trans (hb5.mono HX.out.size) | exact HX.out.drew.trans (hb5.mono HX.out.drew.size)); clear hb5))
                  all_goals
                    rename_i hHeld
                    clear hHeld
                    have HEND := Lib.hid (HZR.out.trans (HX.out.mono HWR.out))
                    go_wp2_with fail
                    go_roundw
                    case rel => exact ⟨j + 1, by omega, by go_num, HEND.out⟩
                    case measure => simp [intOf]; omega
              · obtain rfl : n = j := by omega
                go_wp2_with fail
                go_roundw
                case rel => exact ⟨i + 1, by omega, by go_num, HB.out⟩
                case measure => simp [intOf]; omega
          · obtain rfl : n = i := by omega
            have HEND := Lib.hid (HT.out _ (HBZ.out.trans (HB.out.mono HBO2.out))).2.2.2
            go_wp2_with fail
            rw [HQ0.out]
            go_ret
            exact ⟨rfl, HEND.out⟩
theorem ClimbTight_walk (k : HV) (h : HierT) (W : World) (hp : RdH W k h) (hs : Small k h) (hin : InH h) (hg : ErrT W) :
    Calls Tryd.prog 6 #[hierV k h] W fun e W' => e = .returned (.bool true) ∧ Below W.heap.size W W' := ClimbTight_any k h W hg hp hs hin
end Go.Proofs.YtkcnnamghpdplaaDoor

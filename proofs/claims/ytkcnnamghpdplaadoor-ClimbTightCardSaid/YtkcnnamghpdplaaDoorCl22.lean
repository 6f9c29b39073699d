/- The links of a hierarchy: the iterator. (Printed by gen_links.py.) -/
import Derived.RangeFuncNested
import Derived.RangeFuncBound
import Derived.RangeFuncCalls
import Derived.RangeFuncLeaves
import Derived.Shelf.Abstract
import Derived.Shelf.RegionOpen
import Derived.WalkKit
import Derived.OwnWalkIn
import Derived.TacticsInMore
import Derived.RegionIn
import Derived.LoopNIn
import Derived.LoopIn
import Derived.Test.YtkcnnamghpdplaaDoorClF
import Derived.Test.YtkcnnamghpdplaaDoorClQ
set_option linter.unusedSimpArgs false
set_option linter.unusedVariables false
namespace Go.Proofs.YtkcnnamghpdplaaDoor
open Go.RowKit Go.Shelf

/-- a list with its numbers -/
def en (l : List EndS) : List (Nat × EndS) := l.zipIdx.map fun p => (p.2, p.1)
theorem en_len (l : List EndS) : (en l).length = l.length := by simp [en]
theorem en_snoc (l : List EndS) (x : EndS) : en (l ++ [x]) = en l ++ [(l.length, x)] := by simp [en, List.zipIdx_append]
theorem en_snd (l : List EndS) : (en l).map (·.2) = l := by
  unfold en
  rw [List.map_map]
  show List.map (fun p : EndS × Nat => p.1) l.zipIdx = l
  exact List.zipIdx_map_fst 0 l
def upTo (f : List Nat) (us : List Lk) (r : Nat) : List EndS := upEnds f us r
def dnTo (B : List EndS) (g : List Nat) (ds : List Lk) (r : Nat) : List EndS := B ++ dnEnds g ds r
theorem upTo_succ (f : List Nat) (us : List Lk) (r : Nat) : upTo f us (r + 1) = upTo f us r ++ (seg f us r).map (fun l => (⟨l, r, l.to, r⟩ : EndS)) := by
  unfold upTo upEnds
  rw [List.range_succ, List.flatMap_append]
  simp
theorem dnTo_zero (B : List EndS) (g : List Nat) (ds : List Lk) : dnTo B g ds 0 = B := by simp [dnTo, dnEnds]
theorem dnTo_succ (B : List EndS) (g : List Nat) (ds : List Lk) (r : Nat) : dnTo B g ds (r + 1) = dnTo B g ds r ++ (seg g ds r).map (fun l => (⟨l, l.to, r, r⟩ : EndS)) := by
  unfold dnTo dnEnds
  rw [List.range_succ, List.flatMap_append, List.append_assoc]
  simp
theorem ends_len {n m : Nat} {f : List Nat} {ls : List Lk} (h : Fst n f m) (hm : ls.length = m) (mk : Nat → Lk → EndS) {r : Nat} (hr : r ≤ n) : ((List.range r).flatMap fun x => (seg f ls x).map (mk x)).length = f.getD r 0 := by
  have e : ((List.range r).flatMap fun x => (seg f ls x).map (mk x)).length = ((List.range r).flatMap (seg f ls)).length := by
    simp [List.length_flatMap]
  rw [e, segs_take h hm hr, List.length_take]
  have := h.le hr
  omega
theorem upTo_len {n m : Nat} {f : List Nat} {ls : List Lk} (h : Fst n f m) (hm : ls.length = m) {r : Nat} (hr : r ≤ n) : (upTo f ls r).length = 0 + f.getD r 0 := by
  rw [Nat.zero_add]
  exact ends_len h hm (fun r l => ⟨l, r, l.to, r⟩) hr
theorem dnTo_len {b n m : Nat} {B : List EndS} (hB : B.length = b) {f : List Nat} {ls : List Lk} (h : Fst n f m) (hm : ls.length = m) {r : Nat} (hr : r ≤ n) : (dnTo B f ls r).length = b + f.getD r 0 := by
  unfold dnTo
  rw [List.length_append, hB]
  exact congrArg _ (ends_len h hm (fun r l => ⟨l, l.to, r, r⟩) hr)
theorem rd_segF {w : World} {A : Option Addr} {c : Nat} {f : List Nat} {ls : List Lk} {n m r : Nat} (hs : Fst n f m) (hr : r < n) (h : RdK w A m ls) (hm : ls.length = m) (hc : m ≤ c) :
    RdK w (if c = f.getD r 0 then A else A.map (·.add (f.getD r 0 * 4))) (f.getD (r + 1) 0 - f.getD r 0) (seg f ls r) := by
  have hm := hs.mono r hr
  have h0 := hs.le (r := r) (by omega)
  have h2 := hs.le (r := r + 1) (by omega)
  have h1 := h.drop (k := f.getD r 0) (cap := c) (by omega) hc
  exact h1.take (by omega)
theorem links_in (n : Nat) (v0 v1 v2 v3 v4 : Value) (w : World) :
    CallsIn Fence.wide n Tryd.prog 66 #[.agg #[v0, v1, v2, v3, v4]] w fun e w' => e = .returned (.func (.func 78) #[] #[.pointer (some ⟨w.heap.size, 0, none⟩)]) ∧ w' = w.alloc (.cells #[v0, v1, v2, v3, v4] 25) := by
  refine callsIn_of_wp Tryd.func66 rfl trivial ?_ rfl
  simp only [Tryd.ntmps66, List.size_toArray, List.length_cons, List.length_nil, Nat.reduceAdd, Nat.reduceSub, Array.replicate_succ, Array.replicate_zero, List.push_toArray, List.append_toArray, List.nil_append, List.cons_append]
  gi_wp2
  go_ret
  exact ⟨rfl, rfl⟩
/-- what the loop's body must keep: the lists and the hierarchy's own block -/
abbrev KpL (n₀ Bs : Nat) : World → World → Prop := Kept (fun k => n₀ ≤ k ∧ k ≠ Bs)
set_option maxRecDepth 100000 in
set_option maxHeartbeats 8000000 in
theorem links_walk (n : Nat) (hn : 1 ≤ n) (w0 : World) (k : HV) (n0 n2 n4 Bs : Nat) (f g : List Nat) (us ds : List Lk) (hF : Rd32 w0 k.a1 (n0 + 1) f) (hL : RdK w0 k.a2 n2 us) (hG : Rd32 w0 k.a3 (n0 + 1) g) (hM : RdK w0 k.a4 n4 ds)
    (ht2 : n2 ≤ k.c2) (ht4 : n4 ≤ k.c4) (hc2 : k.c2 ≤ 9223372036854775807) (hc4 : k.c4 ≤ 9223372036854775807) (hu : Fst n0 f n2) (hd : Fst n0 g n4) (hn0 : n0 ≤ 65536) (hnm : n2 + n4 ≤ 1048576) (hi2 : ∀ x ∈ us, In32 x.to) (hi4 : ∀ x ∈ ds, In32 x.to)
    (l : Nat) (J Jx : List (Nat × EndS) → World → Prop) (W : World) (hb0 : Below w0.heap.size w0 W) (hc0 : Cells W Bs #[.slice k.a0 n0 k.c0, .slice k.a1 (n0 + 1) k.c1, .slice k.a2 n2 k.c2, .slice k.a3 (n0 + 1) k.c3, .slice k.a4 n4 k.c4] 25) (hJ : AbidesFrom W.heap.size J)
    (hY : ∀ pre x W1, J pre W1 → pre.length < n2 + n4 → YieldAt Fence.wide (n - 1) Tryd.prog l #[.int .i64 (x.1 : Nat), endV x.2] W1 fun e W' =>
      (e = .returned (.bool true) ∧ J (pre ++ [x]) W' ∧ KpL w0.heap.size Bs W1 W') ∨ (e = .returned (.bool false) ∧ Jx (pre ++ [x]) W')) (h0 : J [] W) :
    CallsIn Fence.wide n Tryd.prog 78 #[.func (.yield l) #[] #[], .pointer (some ⟨Bs, 0, none⟩)] W fun e W' => (∃ v, e = .returned v) ∧ ((∃ xs, xs = en (dnTo (upTo f us n0) g ds n0) ∧ J xs W') ∨ (∃ pre, True ∧ Jx pre W')) := by
  have HF := Lib.hid hF
  have HL := Lib.hid hL
  have HG := Lib.hid hG
  have HM := Lib.hid hM
  have HU := Lib.hid hu
  have HD := Lib.hid hd
  have HI2 := Lib.hid hi2
  have HI4 := Lib.hid hi4
  have HJA := Lib.hid hJ
  have HY := Lib.hid hY
  have H0 : Hid (J (en (upTo f us 0)) W) := Lib.hid h0
  have HB0 := Lib.hid hb0
  have HC0 := Lib.hid hc0
  have HUL0 : Hid (us.length = n2) := Lib.hid hL.1
  have HDL0 : Hid (ds.length = n4) := Lib.hid hM.1
  have HUA : Hid ((upTo f us n0).length = n2) := Lib.hid (by rw [upTo_len hu hL.1 (Nat.le_refl _), hu.e, Nat.zero_add])
  have b0 := hc0.cell 0
  have b0 : W.cell? ⟨Bs, 0, none⟩ = some (.slice k.a0 n0 k.c0) := hc0.cell 0
  clear hF hL hG hM hu hd hi2 hi4 hJ hY h0 hb0 hc0
  refine callsIn_of_wp Tryd.func78 rfl trivial ?_ rfl
  simp only [Tryd.ntmps78, List.size_toArray, List.length_cons, List.length_nil, Nat.reduceAdd, Nat.reduceSub, Array.replicate_succ, Array.replicate_zero, List.push_toArray, List.append_toArray, List.nil_append, List.cons_append]
  gi_wp2
  clear b0
  gi_loopw [3, 13] (fun iv rv wr => ∃ r : Nat, r ≤ n0 ∧ rv = .int .i64 r ∧ iv = .int .i64 ((upTo f us r).length : Nat) ∧ J (en (upTo f us r)) wr ∧ Below w0.heap.size w0 wr ∧ Cells wr Bs #[.slice k.a0 n0 k.c0, .slice k.a1 (n0 + 1) k.c1, .slice k.a2 n2 k.c2, .slice k.a3 (n0 + 1) k.c3, .slice k.a4 n4 k.c4] 25) (fun _ rv _ => n0 - (intOf rv).toNat)
  case atStart => exact ⟨0, by omega, rfl, rfl, H0.out, HB0.out, HC0.out⟩
  case round =>
    clear H0 HB0 HC0
    obtain ⟨r, hr, rfl, rfl, hj, hb, hc⟩ := hrel
    have HJ := Lib.hid hj
    have HB := Lib.hid hb
    have HC := Lib.hid hc
    clear hj hb hc
    by_cases hlt : r < n0
    · have g0 : decide ((r : Int) < (n0 : Int)) = true := decide_eq_true (by omega)
      have b1 : wr.cell? ⟨Bs, 1, none⟩ = some (.slice k.a1 (n0 + 1) k.c1) := HC.out.cell 1
      have b2 : wr.cell? ⟨Bs, 2, none⟩ = some (.slice k.a2 n2 k.c2) := HC.out.cell 2
      obtain ⟨ad, hA, e0, e1⟩ := two_firsts (HF.out.below HB.out) hlt
      rw [hA] at b1
      have e1' : wr.cell? ⟨ad.block, ad.off + (r + 1), none⟩ = some (.int .u32 (f.getD (r + 1) 0 : Nat)) := e1
      have hmono := HU.out.mono r hlt
      have hle := HU.out.le (r := r + 1) (by omega)
      have hsl := slice_links k.a2 n2 k.c2 (f.getD r 0) (f.getD (r + 1) 0) hmono (by omega)
      have hrd := rd_segF HU.out hlt HL.out HUL0.out ht2
      have hsu := upTo_succ f us r
      have hul := upTo_len HU.out HUL0.out (r := r) (by omega)
      have hsm : ∀ l ∈ seg f us r, In32 l.to := fun l hl => HI2.out l (List.mem_of_mem_drop (List.mem_of_mem_take hl))
      generalize (if k.c2 = f.getD r 0 then k.a2 else k.a2.map (·.add (f.getD r 0 * 4))) = AA at hsl hrd
      generalize hsg : seg f us r = sg at *
      generalize f.getD r 0 = lo at *
      generalize f.getD (r + 1) 0 = hi at *
      have HSU := Lib.hid hsu
      have HRD := Lib.hid hrd
      have HUL := Lib.hid hul
      have HSM := Lib.hid hsm
      have hsl0 := hsl wr
      have w1 : IntKind.i64.wrap ((r : Int) + 1) = (r : Int) + 1 := by rw [IntKind.wrap_i64]; omega
      have w2 : (0 : Int) ≤ (r : Int) + 1 := by omega
      have w3 : ((r : Int) + 1).toNat = r + 1 := by omega
      have i2 : (r : Int) < (n0 : Int) + 1 := by omega
      have i3 : (r : Int) + 1 < (n0 : Int) + 1 := by omega
      have i4 : r < n0 + 1 := by omega
      have HDR : Hid (∀ q, J (en (upTo f us r)) (wr.drewN q) ∧ Below w0.heap.size w0 (wr.drewN q) ∧ Cells (wr.drewN q) Bs #[.slice k.a0 n0 k.c0, .slice k.a1 (n0 + 1) k.c1, .slice k.a2 n2 k.c2, .slice k.a3 (n0 + 1) k.c3, .slice k.a4 n4 k.c4] 25) := Lib.hid fun q => ⟨HJA.out _ _ _ none HJ.out ⟨rfl, rfl, rfl, Nat.le_refl _, fun _ _ _ => rfl⟩ (fun _ h => by cases h), HB.out.trans ⟨rfl, rfl, rfl, Nat.le_refl _, fun _ _ => rfl⟩, HC.out⟩
      generalize hP0 : upTo f us r = P0 at *
      have HP0 := Lib.hid hP0
      clear hA hrd hsu hul hsg hsm HJ HB HC hP0
      gi_wp2
      refine wpIn_region_quiet_lit hn (by kernel_rfl) (by kernel_rfl) ?_
      repeat (go_big_quiet_step (fail))
      refine wpQuiet_nil ?_
      intro _ hw'
      obtain ⟨nq, hw''⟩ := hw'
      subst hw''
      have hdr := HDR.out nq
      generalize wr.drewN nq = wd at *
      obtain ⟨hj, hb, hc⟩ := hdr
      have HJ := Lib.hid hj
      have HB := Lib.hid hb
      have HC := Lib.hid hc
      clear hj hb hc HDR b1 b2 e0 e1 e1' hsl hsl0
      gi_wp2
      gi_loopw [3, 31] (fun iv qv wi => ∃ q : Nat, q ≤ hi - lo ∧ qv = .int .i64 q ∧ iv = .int .i64 ((P0 ++ (sg.take q).map (fun l => (⟨l, r, l.to, r⟩ : EndS))).length : Nat) ∧ J (en (P0 ++ (sg.take q).map (fun l => (⟨l, r, l.to, r⟩ : EndS)))) wi ∧ Below w0.heap.size w0 wi ∧ Cells wi Bs #[.slice k.a0 n0 k.c0, .slice k.a1 (n0 + 1) k.c1, .slice k.a2 n2 k.c2, .slice k.a3 (n0 + 1) k.c3, .slice k.a4 n4 k.c4] 25) (fun _ qv _ => (hi - lo) - (intOf qv).toNat)
      case atStart => exact ⟨0, by omega, rfl, by simp, by simpa using HJ.out, HB.out, HC.out⟩
      case round =>
        clear HJ HB HC
        obtain ⟨q, hq, rfl, rfl, hj, hb, hc⟩ := hrel
        have HB := Lib.hid hb
        have HC := Lib.hid hc
        have HJ := Lib.hid hj
        clear hj hb hc
        by_cases hlt2 : q < hi - lo
        · have g1 : decide ((q : Int) < ((hi - lo : Nat) : Int)) = true := decide_eq_true (by omega)
          have g1' : decide (q < hi - lo) = true := decide_eq_true hlt2
          obtain ⟨ad, hA, cc⟩ := (HRD.out.below HB.out).at_ hlt2
          have hjq : q < sg.length := by have := HRD.out.1; omega
          obtain ⟨c0, c1, c2, c3⟩ := four_cells cc
          have htk := List.take_succ_eq_append_getElem hjq
          have hto := HSM.out sg[q] (List.getElem_mem _)
          have hpl : (P0 ++ (sg.take q).map (fun l => (⟨l, r, l.to, r⟩ : EndS))).length = 0 + lo + q := by rw [List.length_append, HUL.out, List.length_map, List.length_take]; omega
          have hps : P0 ++ (sg.take (q + 1)).map (fun l => (⟨l, r, l.to, r⟩ : EndS)) = (P0 ++ (sg.take q).map (fun l => (⟨l, r, l.to, r⟩ : EndS))) ++ [(fun l => (⟨l, r, l.to, r⟩ : EndS)) sg[q]] := by rw [htk, List.map_append, List.append_assoc]; rfl
          generalize P0 ++ (sg.take q).map (fun l => (⟨l, r, l.to, r⟩ : EndS)) = P at *
          generalize hP1 : P0 ++ (sg.take (q + 1)).map (fun l => (⟨l, r, l.to, r⟩ : EndS)) = P' at *
          have HP1 := Lib.hid hP1
          clear hP1
          generalize sg[q] = x at *
          obtain ⟨x0, x1, x2, x3⟩ := x
          dsimp only at c0 c1 c2 c3 hps hto
          unfold In32 at hto
          generalize hN : P.length = N at *
          have hNb : N ≤ 1048576 := by omega
          have HPS := Lib.hid hps
          have HPL : Hid (P'.length = N + 1) := Lib.hid (by rw [hps, List.length_append, hN]; rfl)
          have HN := Lib.hid hN
          have hjal := HJA.out _ _ _ none HJ.out (World.grownBy_alloc wr (.cells #[.int .u32 x0, .int .u64 x1, .int .u32 x2, .int .u32 x3] 52) none) (fun _ h => by cases h)
          obtain ⟨fn, tmps, assign, body, hy, hR⟩ := HY.out _ (N, ⟨⟨x0, x1, x2, x3⟩, r, x0, r⟩) _ hjal (by rw [en_len, hN]; omega)
          dsimp only [endV] at hy
          have HR := Lib.hid hR
          have HB2 := Lib.hid (HB.out.alloc HB.out.size (.cells #[.int .u32 x0, .int .u64 x1, .int .u32 x2, .int .u32 x3] 52))
          have HC2 := Lib.hid (HC.out.below ((Below.refl _ _).alloc (Nat.le_refl _) (.cells #[.int .u32 x0, .int .u64 x1, .int .u32 x2, .int .u32 x3] 52)))
          have w0' : IntKind.i64.wrap (x0 : Int) = x0 := by rw [IntKind.wrap_i64]; omega
          subst hA
          clear cc htk hps hN hR hjal HB HC HJ hjq hpl
          gi_wp2
          refine HR.out.mono ?_
          rintro e W3 (⟨rfl, hJ3, hk3⟩ | ⟨rfl, hJx3⟩)
          · have HB3 := Lib.hid (hk3.below HB2.out (fun _ h => h.1) HB2.out.size)
            have HC3 := Lib.hid (hk3.cells HC2.out (fun h => h.2 rfl))
            have HJ3 : Hid (J (en P') W3) := Lib.hid (by rw [HPS.out, en_snoc, HN.out]; exact hJ3)
            clear hJ3 hk3 HY HR hy
            gi_wp2
            go_roundw
            case rel => exact ⟨q + 1, by omega, by go_num, by rw [HP1.out, HPL.out]; go_num, by rw [HP1.out]; exact HJ3.out, HB3.out, HC3.out⟩
            case measure => simp [intOf]; omega
          · clear HY HR hy
            gi_wp2
            refine bodyPost_ret (results_none rfl _ _ _) rfl ?_
            exact ⟨⟨_, rfl⟩, .inr ⟨_, trivial, hJx3⟩⟩
        · obtain rfl : q = hi - lo := by omega
          have g1 : decide (((hi - lo : Nat) : Int) < ((hi - lo : Nat) : Int)) = false := decide_eq_false (by omega)
          have hall : sg.take (hi - lo) = sg := List.take_of_length_le (by have := HRD.out.1; omega)
          have HFJ : Hid (J (en (upTo f us (r + 1))) wr) := Lib.hid (by rw [HSU.out]; have h := HJ.out; rwa [hall] at h)
          have HLN : Hid ((P0 ++ (sg.take (hi - lo)).map (fun l => (⟨l, r, l.to, r⟩ : EndS))).length = (upTo f us (r + 1)).length) := Lib.hid (by rw [HSU.out, hall])
          clear hall
          gi_wp2
          go_roundw
          case rel => exact ⟨r + 1, by omega, by go_num, by rw [HLN.out], HFJ.out, HB.out, HC.out⟩
          case measure => simp [intOf]; omega
    · obtain rfl : n0 = r := by omega
      have g0 : decide ((n0 : Int) < (n0 : Int)) = false := decide_eq_false (by omega)
      have c0 : wr.cell? ⟨Bs, 0, none⟩ = some (.slice k.a0 n0 k.c0) := HC.out.cell 0
      gi_wp2
      clear c0
      gi_loopw [3, 53] (fun iv rv wr => ∃ r : Nat, r ≤ n0 ∧ rv = .int .i64 r ∧ iv = .int .i64 ((dnTo (upTo f us n0) g ds r).length : Nat) ∧ J (en (dnTo (upTo f us n0) g ds r)) wr ∧ Below w0.heap.size w0 wr ∧ Cells wr Bs #[.slice k.a0 n0 k.c0, .slice k.a1 (n0 + 1) k.c1, .slice k.a2 n2 k.c2, .slice k.a3 (n0 + 1) k.c3, .slice k.a4 n4 k.c4] 25) (fun _ rv _ => n0 - (intOf rv).toNat)
      case atStart => exact ⟨0, by omega, rfl, by simp [dnTo, dnEnds], by rw [dnTo_zero]; exact HJ.out, HB.out, HC.out⟩
      case round =>
        clear HJ HB HC
        obtain ⟨r, hr, rfl, rfl, hj, hb, hc⟩ := hrel
        have HJ := Lib.hid hj
        have HB := Lib.hid hb
        have HC := Lib.hid hc
        clear hj hb hc
        by_cases hlt : r < n0
        · have g0 : decide ((r : Int) < (n0 : Int)) = true := decide_eq_true (by omega)
          have b1 : wr.cell? ⟨Bs, 3, none⟩ = some (.slice k.a3 (n0 + 1) k.c3) := HC.out.cell 3
          have b2 : wr.cell? ⟨Bs, 4, none⟩ = some (.slice k.a4 n4 k.c4) := HC.out.cell 4
          obtain ⟨ad, hA, e0, e1⟩ := two_firsts (HG.out.below HB.out) hlt
          rw [hA] at b1
          have e1' : wr.cell? ⟨ad.block, ad.off + (r + 1), none⟩ = some (.int .u32 (g.getD (r + 1) 0 : Nat)) := e1
          have hmono := HD.out.mono r hlt
          have hle := HD.out.le (r := r + 1) (by omega)
          have hsl := slice_links k.a4 n4 k.c4 (g.getD r 0) (g.getD (r + 1) 0) hmono (by omega)
          have hrd := rd_segF HD.out hlt HM.out HDL0.out ht4
          have hsu := dnTo_succ (upTo f us n0) g ds r
          have hul := dnTo_len HUA.out HD.out HDL0.out (r := r) (by omega)
          have hsm : ∀ l ∈ seg g ds r, In32 l.to := fun l hl => HI4.out l (List.mem_of_mem_drop (List.mem_of_mem_take hl))
          generalize (if k.c4 = g.getD r 0 then k.a4 else k.a4.map (·.add (g.getD r 0 * 4))) = AA at hsl hrd
          generalize hsg : seg g ds r = sg at *
          generalize g.getD r 0 = lo at *
          generalize g.getD (r + 1) 0 = hi at *
          have HSU := Lib.hid hsu
          have HRD := Lib.hid hrd
          have HUL := Lib.hid hul
          have HSM := Lib.hid hsm
          have hsl0 := hsl wr
          have w1 : IntKind.i64.wrap ((r : Int) + 1) = (r : Int) + 1 := by rw [IntKind.wrap_i64]; omega
          have w2 : (0 : Int) ≤ (r : Int) + 1 := by omega
          have w3 : ((r : Int) + 1).toNat = r + 1 := by omega
          have i2 : (r : Int) < (n0 : Int) + 1 := by omega
          have i3 : (r : Int) + 1 < (n0 : Int) + 1 := by omega
          have i4 : r < n0 + 1 := by omega
          have HDR : Hid (∀ q, J (en (dnTo (upTo f us n0) g ds r)) (wr.drewN q) ∧ Below w0.heap.size w0 (wr.drewN q) ∧ Cells (wr.drewN q) Bs #[.slice k.a0 n0 k.c0, .slice k.a1 (n0 + 1) k.c1, .slice k.a2 n2 k.c2, .slice k.a3 (n0 + 1) k.c3, .slice k.a4 n4 k.c4] 25) := Lib.hid fun q => ⟨HJA.out _ _ _ none HJ.out ⟨rfl, rfl, rfl, Nat.le_refl _, fun _ _ _ => rfl⟩ (fun _ h => by cases h), HB.out.trans ⟨rfl, rfl, rfl, Nat.le_refl _, fun _ _ => rfl⟩, HC.out⟩
          generalize hP0 : dnTo (upTo f us n0) g ds r = P0 at *
          have HP0 := Lib.hid hP0
          clear hA hrd hsu hul hsg hsm HJ HB HC hP0
          gi_wp2
          refine wpIn_region_quiet_lit hn (by kernel_rfl) (by kernel_rfl) ?_
          repeat (go_big_quiet_step (fail))
          refine wpQuiet_nil ?_
          intro _ hw'
          obtain ⟨nq, hw''⟩ := hw'
          subst hw''
          have hdr := HDR.out nq
          generalize wr.drewN nq = wd at *
          obtain ⟨hj, hb, hc⟩ := hdr
          have HJ := Lib.hid hj
          have HB := Lib.hid hb
          have HC := Lib.hid hc
          clear hj hb hc HDR b1 b2 e0 e1 e1' hsl hsl0
          gi_wp2
          gi_loopw [3, 71] (fun iv qv wi => ∃ q : Nat, q ≤ hi - lo ∧ qv = .int .i64 q ∧ iv = .int .i64 ((P0 ++ (sg.take q).map (fun l => (⟨l, l.to, r, r⟩ : EndS))).length : Nat) ∧ J (en (P0 ++ (sg.take q).map (fun l => (⟨l, l.to, r, r⟩ : EndS)))) wi ∧ Below w0.heap.size w0 wi ∧ Cells wi Bs #[.slice k.a0 n0 k.c0, .slice k.a1 (n0 + 1) k.c1, .slice k.a2 n2 k.c2, .slice k.a3 (n0 + 1) k.c3, .slice k.a4 n4 k.c4] 25) (fun _ qv _ => (hi - lo) - (intOf qv).toNat)
          case atStart => exact ⟨0, by omega, rfl, by simp, by simpa using HJ.out, HB.out, HC.out⟩
          case round =>
            clear HJ HB HC
            obtain ⟨q, hq, rfl, rfl, hj, hb, hc⟩ := hrel
            have HB := Lib.hid hb
            have HC := Lib.hid hc
            have HJ := Lib.hid hj
            clear hj hb hc
            by_cases hlt2 : q < hi - lo
            · have g1 : decide ((q : Int) < ((hi - lo : Nat) : Int)) = true := decide_eq_true (by omega)
              have g1' : decide (q < hi - lo) = true := decide_eq_true hlt2
              obtain ⟨ad, hA, cc⟩ := (HRD.out.below HB.out).at_ hlt2
              have hjq : q < sg.length := by have := HRD.out.1; omega
              obtain ⟨c0, c1, c2, c3⟩ := four_cells cc
              have htk := List.take_succ_eq_append_getElem hjq
              have hto := HSM.out sg[q] (List.getElem_mem _)
              have hpl : (P0 ++ (sg.take q).map (fun l => (⟨l, l.to, r, r⟩ : EndS))).length = n2 + lo + q := by rw [List.length_append, HUL.out, List.length_map, List.length_take]; omega
              have hps : P0 ++ (sg.take (q + 1)).map (fun l => (⟨l, l.to, r, r⟩ : EndS)) = (P0 ++ (sg.take q).map (fun l => (⟨l, l.to, r, r⟩ : EndS))) ++ [(fun l => (⟨l, l.to, r, r⟩ : EndS)) sg[q]] := by rw [htk, List.map_append, List.append_assoc]; rfl
              generalize P0 ++ (sg.take q).map (fun l => (⟨l, l.to, r, r⟩ : EndS)) = P at *
              generalize hP1 : P0 ++ (sg.take (q + 1)).map (fun l => (⟨l, l.to, r, r⟩ : EndS)) = P' at *
              have HP1 := Lib.hid hP1
              clear hP1
              generalize sg[q] = x at *
              obtain ⟨x0, x1, x2, x3⟩ := x
              dsimp only at c0 c1 c2 c3 hps hto
              unfold In32 at hto
              generalize hN : P.length = N at *
              have hNb : N ≤ 1048576 := by omega
              have HPS := Lib.hid hps
              have HPL : Hid (P'.length = N + 1) := Lib.hid (by rw [hps, List.length_append, hN]; rfl)
              have HN := Lib.hid hN
              have hjal := HJA.out _ _ _ none HJ.out (World.grownBy_alloc wr (.cells #[.int .u32 x0, .int .u64 x1, .int .u32 x2, .int .u32 x3] 52) none) (fun _ h => by cases h)
              obtain ⟨fn, tmps, assign, body, hy, hR⟩ := HY.out _ (N, ⟨⟨x0, x1, x2, x3⟩, x0, r, r⟩) _ hjal (by rw [en_len, hN]; omega)
              dsimp only [endV] at hy
              have HR := Lib.hid hR
              have HB2 := Lib.hid (HB.out.alloc HB.out.size (.cells #[.int .u32 x0, .int .u64 x1, .int .u32 x2, .int .u32 x3] 52))
              have HC2 := Lib.hid (HC.out.below ((Below.refl _ _).alloc (Nat.le_refl _) (.cells #[.int .u32 x0, .int .u64 x1, .int .u32 x2, .int .u32 x3] 52)))
              have w0' : IntKind.i64.wrap (x0 : Int) = x0 := by rw [IntKind.wrap_i64]; omega
              subst hA
              clear cc htk hps hN hR hjal HB HC HJ hjq hpl
              gi_wp2
              refine HR.out.mono ?_
              rintro e W3 (⟨rfl, hJ3, hk3⟩ | ⟨rfl, hJx3⟩)
              · have HB3 := Lib.hid (hk3.below HB2.out (fun _ h => h.1) HB2.out.size)
                have HC3 := Lib.hid (hk3.cells HC2.out (fun h => h.2 rfl))
                have HJ3 : Hid (J (en P') W3) := Lib.hid (by rw [HPS.out, en_snoc, HN.out]; exact hJ3)
                clear hJ3 hk3 HY HR hy
                gi_wp2
                go_roundw
                case rel => exact ⟨q + 1, by omega, by go_num, by rw [HP1.out, HPL.out]; go_num, by rw [HP1.out]; exact HJ3.out, HB3.out, HC3.out⟩
                case measure => simp [intOf]; omega
              · clear HY HR hy
                gi_wp2
                refine bodyPost_ret (results_none rfl _ _ _) rfl ?_
                exact ⟨⟨_, rfl⟩, .inr ⟨_, trivial, hJx3⟩⟩
            · obtain rfl : q = hi - lo := by omega
              have g1 : decide (((hi - lo : Nat) : Int) < ((hi - lo : Nat) : Int)) = false := decide_eq_false (by omega)
              have hall : sg.take (hi - lo) = sg := List.take_of_length_le (by have := HRD.out.1; omega)
              have HFJ : Hid (J (en (dnTo (upTo f us n0) g ds (r + 1))) wr) := Lib.hid (by rw [HSU.out]; have h := HJ.out; rwa [hall] at h)
              have HLN : Hid ((P0 ++ (sg.take (hi - lo)).map (fun l => (⟨l, l.to, r, r⟩ : EndS))).length = (dnTo (upTo f us n0) g ds (r + 1)).length) := Lib.hid (by rw [HSU.out, hall])
              clear hall
              gi_wp2
              go_roundw
              case rel => exact ⟨r + 1, by omega, by go_num, by rw [HLN.out], HFJ.out, HB.out, HC.out⟩
              case measure => simp [intOf]; omega
        · obtain rfl : n0 = r := by omega
          have g0 : decide ((n0 : Int) < (n0 : Int)) = false := decide_eq_false (by omega)
          gi_wp2
          go_end0
          exact ⟨⟨_, rfl⟩, .inl ⟨_, rfl, HJ.out⟩⟩
end Go.Proofs.YtkcnnamghpdplaaDoor

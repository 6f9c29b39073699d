/- Several texts in one (squeeze.py): Cl4 Cl5 Cl6. -/
import Derived.Test.YtkcnnamghpdplaaDoorCl2
import Derived.Test.YtkcnnamghpdplaaDoorHeapA
import Derived.Test.YtkcnnamghpdplaaDoorStWA
import Derived.Deep.LoopGhost
import Derived.IntWalk
/- The program's search from a rank. -/
set_option linter.unusedSimpArgs false
set_option linter.unusedVariables false
namespace Go.Proofs.YtkcnnamghpdplaaDoor
open Go.RowKit

/-- a list of firsts and the links that it parts -/
structure Side (n : Nat) (f : List Nat) (ls : List Lk) : Prop where
  fl : f.length = n + 1
  mono : ∀ r, r < n → f.getD r 0 ≤ f.getD (r + 1) 0 ∧ f.getD (r + 1) 0 ≤ ls.length
  ups : Ups n (seg f ls)
  n_le : n ≤ 65536
  l_le : ls.length ≤ 1048576
theorem Side.len {n : Nat} {f : List Nat} {ls : List Lk} (h : Side n f ls) {r : Nat} (hr : r < n) : (seg f ls r).length = f.getD (r + 1) 0 - f.getD r 0 := by
  unfold seg
  rw [List.length_take, List.length_drop]
  have := h.mono r hr
  omega
theorem two_firsts {w : World} {A : Option Addr} {n r : Nat} {f : List Nat} (h : Rd32 w A (n + 1) f) (hr : r < n) :
    ∃ ad, A = some ad ∧ w.cell? (ad.add r) = some (.int .u32 (f.getD r 0 : Nat)) ∧ w.cell? (ad.add (r + 1)) = some (.int .u32 (f.getD (r + 1) 0 : Nat)) := by
  obtain ⟨ad, hA, hc⟩ := h.2 (by omega)
  have hl := h.1
  have one : ∀ j, j < n + 1 → w.cell? (ad.add j) = some (.int .u32 (f.getD j 0 : Nat)) := fun j hj => by
    have h1 : f[j]? = some (f.getD j 0) := by rw [List.getD_eq_getElem?_getD, List.getElem?_eq_getElem (by omega)]; rfl
    have := hc j _ 0 _ h1 rfl
    rwa [Nat.mul_one, Nat.add_zero] at this
  exact ⟨ad, hA, one r (by omega), one (r + 1) (by omega)⟩
theorem slice_links (A : Option Addr) (n c lo hi : Nat) (h1 : lo ≤ hi) (h2 : hi ≤ c) (w : World) :
    (Instr.slice 23 (.slice A n c) (some (.int .u32 (lo : Int))) (some (.int .u32 (hi : Int))) none).run Tryd.prog w = .ok (.slice (if c = lo then A else A.map (·.add (lo * 4))) (hi - lo) (c - lo)) w := by
  rw [run_slice_lh (P := Tryd.prog) (w := w) (t := 23) (a := A) (len := n) (cap := c) (ht := by kernel_rfl) (kl := .u32) (kh := .u32) (l := (lo : Int)) (h := (hi : Int)) (h0 := by omega) (h1 := by omega) (h2 := by omega)]
  have hs : (sizeOf (Tryd.prog.elem 23)).run Tryd.prog w = .ok 4 w := by kernel_rfl
  rw [hs]
  simp [sliced, Result.andThen]
theorem rd_seg {w : World} {A : Option Addr} {c : Nat} {f : List Nat} {ls : List Lk} {n r : Nat} (hs : Side n f ls) (hr : r < n) (h : RdK w A ls.length ls) (hc : ls.length ≤ c) :
    RdK w (if c = f.getD r 0 then A else A.map (·.add (f.getD r 0 * 4))) (f.getD (r + 1) 0 - f.getD r 0) (seg f ls r) := by
  have hm := hs.mono r hr
  have h1 := h.drop (k := f.getD r 0) (cap := c) (by omega) hc
  exact h1.take (by omega)
theorem St_kept {S : Nat → Prop} {w w' : World} {b g : Nat} {m : List (Option Int)} (h : Stp.St w b g m) (hk : Kept S w w') (h1 : ¬ S b) (h2 : ¬ S g) : Stp.St w' b g m := by
  obtain ⟨age, cnt, cs, hp, r⟩ := h
  exact ⟨age, cnt, cs, ⟨(hk.block b hp.blk.lt h1).trans hp.blk, (hk.block g hp.row.lt h2).trans hp.row, hp.ne, hp.len⟩, r⟩
theorem touch_kept {b g : Nat} {w w' : World} (h : Stp.Touch b g w w') : Kept (fun k => k = b ∨ k = g) w w' :=
  ⟨h.os, h.tape, h.output, by rw [h.size]; exact Nat.le_refl _, fun k _ hs => h.block k (fun e => hs (.inl e)) (fun e => hs (.inr e))⟩
theorem look_nat (m : List (Option Int)) (x : Nat) : Stp.look m (x : Int) = getO m x := by
  unfold Stp.look getO
  rw [if_pos (by omega)]
  simp
def cntO (m : List (Option Int)) : Nat := m.countP Option.isSome
theorem cntO_le (m : List (Option Int)) : cntO m ≤ m.length := List.countP_le_length
theorem cntO_set {m : List (Option Int)} {x : Nat} {d : Int} (hx : x < m.length) (hn : getO m x = none) : cntO (m.set x (some d)) = cntO m + 1 := by
  have h1 : m[x] = none := by
    unfold getO at hn
    rw [List.getD_eq_getElem?_getD, List.getElem?_eq_getElem hx] at hn
    exact hn
  unfold cntO
  rw [List.countP_set hx, h1]
  simp
def SearchIs (n : Nat) (S : Nat → List Lk) (s : Nat) (W : World) (e : Ending) (w' : World) : Prop :=
  ∃ b g m, e = .returned (.tuple #[.pointer (some ⟨b, 0, none⟩), .nilIface]) ∧ Stp.St w' b g m ∧ m.length = n ∧ Sol n S s (getO m) ∧ Below W.heap.size W w' ∧ W.heap.size ≤ b ∧ W.heap.size ≤ g ∧ ∀ x d, getO m x = some d → 0 ≤ d ∧ d ≤ (x : Int) * topI
theorem search_end {n : Nat} {S : Nat → List Lk} {s : Nat} {W w' : World} {b g : Nat} {m q : List (Option Int)} {t j : Nat} (h : Dij n S s m q t j) (hj : (S t).length ≤ j ∨ getO m t = none) (hq : ∀ x, getO q x = none) (hst : Stp.St w' b g m) (hb : Below W.heap.size W w') (h1 : W.heap.size ≤ b) (h2 : W.heap.size ≤ g) :
    SearchIs n S s W (.returned (.tuple #[.pointer (some ⟨b, 0, none⟩), .nilIface])) w' :=
  ⟨b, g, m, rfl, hst, h.ml, h.end_ hj hq, hb, h1, h2, fun x d hx => h.ub x d (.inl hx)⟩
theorem leI_key {x : It} {j : Nat} {k : Int} (h : leI x (k, j)) : x.1 ≤ k := by unfold leI at h; simp only at h; omega
set_option maxRecDepth 100000 in
set_option maxHeartbeats 4000000 in
theorem search_any (a1 a2 a3 a4 : Option Addr) (c1 c2 n3 c3 n4 c4 n s : Nat) (f : List Nat) (ls : List Lk) (W : World) (hS : Side n f ls) (hs : s < n) (hf : Rd32 W a1 (n + 1) f) (hl : RdK W a2 ls.length ls) (hc1 : n + 1 ≤ c1 ∧ c1 ≤ 9223372036854775807) (hc2 : ls.length ≤ c2 ∧ c2 ≤ 9223372036854775807) (hin : ∀ x ∈ f, In32 x) (hk : ∀ l ∈ ls, InK l) :
    Calls Tryd.prog 46 #[.agg #[.int .i64 n, .slice a1 (n + 1) c1, .slice a2 ls.length c2, .slice a3 n3 c3, .slice a4 n4 c4], .int .i64 s] W (SearchIs n (seg f ls) s W) := by
  have hn := hS.n_le
  have HS := Lib.hid hS
  have HF := Lib.hid hf
  have HL := Lib.hid hl
  have HIN := Lib.hid hin
  have HK := Lib.hid hk
  have hl0 := hS.l_le
  generalize hll : ls.length = nl at *
  have HLL := Lib.hid hll
  clear hS hf hl hin hk hll
  go_enter Tryd.func46, Tryd.ntmps46
  go_wp2_with fail
  generalize hW1 : W.alloc (.cells #[.int .i64 n, .slice a1 (n + 1) c1, .slice a2 nl c2, .slice a3 n3 c3, .slice a4 n4 c4] 66) = W1
  have hb1 : Below W.heap.size W W1 := by rw [← hW1]; exact (Below.refl _ _).alloc (Nat.le_refl _) _
  have hc1' : Cells W1 W.heap.size #[.int .i64 n, .slice a1 (n + 1) c1, .slice a2 nl c2, .slice a3 n3 c3, .slice a4 n4 c4] 66 := by rw [← hW1]; exact cells_new _ _ _
  have HB1 := Lib.hid hb1
  have HBX := Lib.hid hc1'
  have HF1 := Lib.hid (HF.out.below hb1)
  have HL1 := Lib.hid (HL.out.below hb1)
  clear hb1 hc1' hW1 HF HL
  refine (Stp.New_St n 1 W1 hn (by omega) (by omega)).mono ?_
  rintro e w2 ⟨rfl, hst, hb⟩
  have HST := Lib.hid hst
  have HX2 := Lib.hid hb
  have x0 : w2.cell? ⟨W.heap.size, 0, none⟩ = some (.int .i64 n) := (HBX.out.below hb).cell 0
  clear hst hb
  go_wp2_with fail
  refine (New_ok n w2 hn w2.heap.size (Nat.le_refl _)).mono ?_
  rintro e w3 ⟨hb, ga, rfl, hhp, hbel, hhb, hga⟩
  have HHP := Lib.hid hhp
  have HST3 := Lib.hid (HST.out.below hbel)
  have HX3 := Lib.hid (HX2.out.trans (hbel.mono HX2.out.size))
  have HZ23 := Lib.hid hbel.size
  clear hhp hbel x0
  go_wp2_with fail
  refine (Push_any HHP.out s (by omega) 0 HZ23.out).mono ?_
  rintro e w4 ⟨rfl, v4, hh4, hk4, hf4⟩
  have HLT2 : Hid (W1.heap.size + 1 < w2.heap.size ∧ W1.heap.size < w2.heap.size) := Lib.hid HST.out.lt
  have hms : pushM (noneH n) s 0 = (List.replicate n none).set s (some 0) := by
    unfold pushM
    have : lookH (noneH n) s = none := by
      unfold lookH noneH
      rw [List.getD_eq_getElem?_getD, List.getElem?_replicate]
      split <;> rfl
    rw [this]
    rfl
  rw [hms] at hh4
  have HH4 := Lib.hid hh4
  have HST4 : Hid (Stp.St w4 (W1.heap.size + 1) W1.heap.size (List.replicate n none)) := Lib.hid (St_kept HST3.out hk4 (fun h => by have h1 := (HHP.out.lt _ h).1; have := HLT2.out.1; omega) (fun h => by have h1 := (HHP.out.lt _ h).1; have := HLT2.out.2; omega))
  have HX4 : Hid (Below W1.heap.size W1 w4) := Lib.hid (hk4.below HX3.out (fun k h => Nat.le_trans HX2.out.size (HHP.out.lt _ h).1) HX3.out.size)
  have HZ4 : Hid (w2.heap.size ≤ w4.heap.size) := Lib.hid (Nat.le_trans HZ23.out hk4.size)
  clear hms hh4 hk4 hf4 HHP HST3 HX3
  go_wp2_with fail
  go_loopg [9] n (fun gk i9 wr => ∃ (m q : List (Option Int)) (t j : Nat) (v : Value), Dij n (seg f ls) s m q t j ∧ ((seg f ls t).length ≤ j ∨ getO m t = none) ∧ n ≤ gk + cntO m ∧ Stp.St wr (W1.heap.size + 1) W1.heap.size m ∧ Hp wr w2.heap.size hb ga v q ∧ Below W1.heap.size W1 wr ∧ w2.heap.size ≤ wr.heap.size)
  case atStart => exact ⟨_, _, n, 0, v4, Dij.start hs, .inr (getO_out (by simp)), by omega, HST4.out, HH4.out, HX4.out, HZ4.out⟩
  case round =>
    obtain ⟨m, q, t, j, v, hD, hj, hg, hst, hh, hx, hz⟩ := hrel
    have HD := Lib.hid hD
    have HJ := Lib.hid hj
    have HST := Lib.hid hst
    have HH := Lib.hid hh
    have HX := Lib.hid hx
    have HZ := Lib.hid hz
    have HG := Lib.hid hg
    clear hD hj hst hh hx hz hg HST4 HH4 HX4 HZ4
    go_wp2_with fail
    refine (Pop_any HH.out).mono ?_
    rintro e w5 ⟨r, ⟨rfl, htop⟩, v5, hh5, hk5, hf5⟩
    have HST5 := Lib.hid (St_kept HST.out hk5 (fun h => by have h1 := (HH.out.lt _ h).1; have := HLT2.out.1; omega) (fun h => by have h1 := (HH.out.lt _ h).1; have := HLT2.out.2; omega))
    have HX5 : Hid (Below W1.heap.size W1 w5) := Lib.hid (hk5.below HX.out (fun k h => Nat.le_trans HX2.out.size (HH.out.lt _ h).1) HX.out.size)
    have HZ5 : Hid (w2.heap.size ≤ w5.heap.size) := Lib.hid (Nat.le_trans HZ.out hk5.size)
    have HH5 := Lib.hid hh5
    have HT := Lib.hid htop
    clear hh5 hk5 hf5 htop
    cases r with
    | none =>
      simp only [topV]
      go_wp2_with fail
      go_ret2
      exact search_end HD.out HJ.out HT.out HST5.out (HB1.out.trans (HX5.out.mono HB1.out.size)) (by have := HB1.out.size; omega) HB1.out.size
    | some xd =>
      obtain ⟨d, x⟩ := xd
      simp only [topV]
      have hqx : getO q x = some d := HT.out.1
      have hmin : ∀ y b, getO q y = some b → d ≤ b := fun y b h => leI_key (HT.out.2 y b h)
      have hxn : x < n := by have := getO_lt hqx; rw [HD.out.ql] at this; exact this
      have hub := HD.out.ub x d (.inr hqx)
      have hD' := HD.out.pop HJ.out hqx hmin
      have hmx : getO m x = none := by
        cases hm : getO m x with
        | none => rfl
        | some a => have := HD.out.dis x a hm; rw [this] at hqx; cases hqx
      have hml : m.length = n := HD.out.ml
      have hcn : cntO (m.set x (some d)) = cntO m + 1 := cntO_set (by omega) hmx
      have hcl := cntO_le (m.set x (some d))
      have hmax : ∀ y a, getO (m.set x (some d)) y = some a → a ≤ d := fun y a h => by
        rw [getO_set (by omega)] at h
        split at h
        · exact Int.le_of_eq (Option.some.inj h).symm
        · exact HD.out.mq y a x d h hqx
      have htx : getO (m.set x (some d)) x = some d := by rw [getO_set (by omega), if_pos rfl]
      have hml' : (m.set x (some d)).length = n := by rw [List.length_set]; exact hml
      generalize hm' : m.set x (some d) = m' at *
      have HD' := Lib.hid hD'
      have HMAX := Lib.hid hmax
      have HTX := Lib.hid htx
      have HML' := Lib.hid hml'
      have HMM := Lib.hid hm'
      have HCN : Hid (n ≤ (gk - 1) + cntO m' ∧ 0 < gk) := Lib.hid (by have := HG.out; rw [hml'] at hcl; omega)
      clear hD' hmax htx hml' hm' hcn hcl hml hmx hmin hqx
      have hd0 := hub.1
      have hd1 : d ≤ 9223231299366420480 := by have h2 := hub.2; unfold topI at h2; omega
      clear hub
      go_wp2_with fail
      refine (Stp.Set_St HST5.out (x : Int) d (by have := HD.out.ml; omega) (by omega) (by omega)).mono ?_
      rintro e w6 ⟨rfl, hst6, htch⟩
      rw [if_pos ⟨by omega, by have := HD.out.ml; omega⟩]
      have hpm : Stp.put m (x : Int) d = m' := by rw [← HMM.out]; unfold Stp.put; rw [if_pos (by omega)]; simp
      rw [hpm] at hst6
      have HST6 := Lib.hid hst6
      have HH6 : Hid (Hp w6 w2.heap.size hb ga v5 (q.set x none)) := Lib.hid (HH5.out.kept (touch_kept htch) (fun k h hs => by have h1 := (HH5.out.lt k h).1; have := HLT2.out; rcases hs with rfl | rfl <;> omega))
      have HX6 : Hid (Below W1.heap.size W1 w6) := Lib.hid (htch.below HX5.out (by omega) (by omega))
      have HZ6 : Hid (w2.heap.size ≤ w6.heap.size) := Lib.hid (by rw [htch.size]; exact HZ5.out)
      clear hst6 htch hpm
      have b1 : w6.cell? ⟨W.heap.size, 1, none⟩ = some (.slice a1 (n + 1) c1) := (HBX.out.below HX6.out).cell 1
      have b2 : w6.cell? ⟨W.heap.size, 2, none⟩ = some (.slice a2 nl c2) := (HBX.out.below HX6.out).cell 2
      obtain ⟨ad, hA, e0, e1⟩ := two_firsts (HF1.out.below HX6.out) hxn
      subst hA
      have e1' : w6.cell? ⟨ad.block, ad.off + (x + 1), none⟩ = some (.int .u32 (f.getD (x + 1) 0 : Nat)) := e1
      have hmono := HS.out.mono x hxn
      rw [HLL.out] at hmono
      have hslen := HS.out.len hxn
      have hsl := fun w => slice_links a2 nl c2 (f.getD x 0) (f.getD (x + 1) 0) hmono.1 (by omega) w
      have hrd := rd_seg HS.out hxn (by rw [HLL.out]; exact HL1.out) (by rw [HLL.out]; exact hc2.1)
      generalize (if c2 = f.getD x 0 then a2 else a2.map (·.add (f.getD x 0 * 4))) = AA at hsl hrd
      generalize f.getD x 0 = lo at *
      generalize f.getD (x + 1) 0 = hi at *
      obtain ⟨sl, hsl2⟩ : ∃ sl, hi - lo = sl := ⟨_, rfl⟩
      rw [hsl2] at hsl hrd hslen
      have HRD := Lib.hid hrd
      have HSL := Lib.hid hslen
      have hlo : lo ≤ 1048576 := by omega
      have hhi : hi ≤ 1048576 := by omega
      have hsle : sl ≤ 1048576 := by omega
      have hlh : lo ≤ hi := hmono.1
      have hhn : hi ≤ nl := hmono.2
      have w1 : IntKind.u32.wrap ((x : Int) + 1) = (x : Int) + 1 := by rw [IntKind.wrap_u32]; omega
      have w2' : (0 : Int) ≤ (x : Int) + 1 := by omega
      have w3' : ((x : Int) + 1).toNat = x + 1 := by omega
      have hcap : n + 1 ≤ c1 := hc1.1
      clear hmono hrd hslen hsl2
      go_wp2_with fail
      have i1 : (0 : Int) ≤ (x : Int) := by omega
      have i2 : (x : Int) < (n : Int) + 1 := by omega
      have i3 : (x : Int) + 1 < (n : Int) + 1 := by omega
      have i4 : (x : Int) < ((n + 1 : Nat) : Int) := by omega
      have i5 : (x : Int) + 1 < ((n + 1 : Nat) : Int) := by omega
      have i6 : (0 : Int) ≤ (lo : Int) := by omega
      have i7 : (lo : Int) ≤ (hi : Int) := by omega
      have i8 : (hi : Int) ≤ (c2 : Int) := by omega
      go_quiet (fail)
      have hdr : Drawn w6 (w6.drewN nq) := ⟨nq, rfl⟩
      generalize w6.drewN nq = w7 at hdr ⊢
      have HST7 : Hid (Stp.St w7 (W1.heap.size + 1) W1.heap.size m') := Lib.hid (HST6.out.drawn hdr)
      have HH7 : Hid (Hp w7 w2.heap.size hb ga v5 (q.set x none)) := Lib.hid (HH6.out.below (hdr.below _))
      have HX7 : Hid (Below W1.heap.size W1 w7) := Lib.hid (HX6.out.trans (hdr.below _))
      have HZ7 : Hid (w2.heap.size ≤ w7.heap.size) := Lib.hid (Nat.le_trans HZ6.out (hdr.below w6.heap.size).size)
      clear hdr HST6 HH6 HX6 HZ6 b1 b2 e0 e1 e1' hsl w1 w2' w3' i1 i2 i3 i4 i5 i6 i7 i8
      go_wp2_with fail
      go_loopw [71] (fun iv wi => ∃ (k : Nat) (q' : List (Option Int)) (v : Value), k ≤ sl ∧ iv = .int .i64 k ∧ Dij n (seg f ls) s m' q' x k ∧ Stp.St wi (W1.heap.size + 1) W1.heap.size m' ∧ Hp wi w2.heap.size hb ga v q' ∧ Below W1.heap.size W1 wi ∧ w2.heap.size ≤ wi.heap.size) (fun iv _ => sl - (intOf iv).toNat)
      case atStart => exact ⟨0, _, v5, by omega, rfl, HD'.out, HST7.out, HH7.out, HX7.out, HZ7.out⟩
      case round =>
        obtain ⟨k, q', v, hk, rfl, hD, hst, hh, hx, hz⟩ := hrel
        have HD := Lib.hid hD
        have HST := Lib.hid hst
        have HH := Lib.hid hh
        have HX := Lib.hid hx
        have HZ := Lib.hid hz
        clear hD hst hh hx hz HST7 HH7 HX7 HZ7 HD'
        by_cases hlt : k < sl
        · have g0 : decide ((k : Int) < (sl : Int)) = true := decide_eq_true (by omega)
          have hks : k < (seg f ls x).length := by have := HSL.out; omega
          obtain ⟨ad2, hA2, cc⟩ := (HRD.out.below HX.out).at_ hlt
          subst hA2
          obtain ⟨c0, c1', c2', c3'⟩ := four_cells cc
          have hmem : (seg f ls x)[k] ∈ ls := List.mem_of_mem_drop (List.mem_of_mem_take (List.getElem_mem hks))
          have hik := HK.out _ hmem
          have hww := HS.out.ups.w x _ hxn (List.getElem_mem hks)
          have hup := HS.out.ups.up x _ hxn (List.getElem_mem hks)
          have hdone := fun b h => HD.out.done_ (b := b) HS.out.ups hks HTX.out h HMAX.out
          have hpush := fun h => HD.out.push HS.out.ups hks HTX.out h HMAX.out
          generalize hL : (seg f ls x)[k] = L at *
          have hLto := hik.to
          unfold In32 at hLto
          unfold topI at hww
          obtain ⟨t0, t1, t2, t3⟩ := L
          dsimp only at c0 c1' c2' c3' hww hup hdone hpush hLto
          have HDONE := Lib.hid hdone
          have HPUSH := Lib.hid hpush
          clear cc hmem hik hdone hpush hL
          go_wp2_with fail
          have hba := (Below.refl wr.heap.size wr).alloc (Nat.le_refl _) (.cells #[.int .u32 (t0 : Int), .int .u64 t1, .int .u32 (t2 : Int), .int .u32 (t3 : Int)] 52)
          have hca := cells_new wr #[.int .u32 (t0 : Int), .int .u64 t1, .int .u32 (t2 : Int), .int .u32 (t3 : Int)] 52
          refine (Stp.Get_St (HST.out.below hba) (t0 : Int) (by have := HML'.out; omega) (by omega) (by omega)).mono ?_
          rintro e w8 ⟨rfl, hd8⟩
          have hb8 : Below wr.heap.size wr w8 := hba.trans (hd8.below _)
          have k0 : w8.cell? ⟨wr.heap.size, 0, none⟩ = some (.int .u32 (t0 : Int)) := (hca.below (hd8.below _)).cell 0
          have k1 : w8.cell? ⟨wr.heap.size, 1, none⟩ = some (.int .u64 t1) := (hca.below (hd8.below _)).cell 1
          have HST8 := Lib.hid (HST.out.below hb8)
          have HH8 := Lib.hid (HH.out.below hb8)
          have HX8 := Lib.hid (HX.out.trans (hb8.mono HX.out.size))
          have HZ8 : Hid (w2.heap.size ≤ w8.heap.size) := Lib.hid (Nat.le_trans HZ.out hb8.size)
          rw [look_nat]
          clear hba hca hd8 hb8
          cases hgo : getO m' t0 with
          | some b =>
            have HGO := Lib.hid hgo
            simp only [Stp.got]
            clear hgo
            go_wp2_with fail
            go_roundw
            case rel => exact ⟨k + 1, q', v, by omega, by go_num, HDONE.out b HGO.out, HST8.out, HH8.out, HX8.out, HZ8.out⟩
            case measure => simp [intOf]; omega
          | none =>
            have HGO := Lib.hid hgo
            simp only [Stp.got]
            have hsum : IntKind.u64.wrap (d + t1) = d + t1 := by rw [IntKind.wrap_u64]; omega
            clear hgo
            go_wp2_with fail
            refine (Push_any HH8.out t0 hLto (d + t1) HZ8.out).mono ?_
            rintro e w9 ⟨rfl, v9, hh9, hk9, hf9⟩
            have HST9 := Lib.hid (St_kept HST8.out hk9 (fun h => by have h1 := (HH8.out.lt _ h).1; have := HLT2.out.1; omega) (fun h => by have h1 := (HH8.out.lt _ h).1; have := HLT2.out.2; omega))
            have HX9 : Hid (Below W1.heap.size W1 w9) := Lib.hid (hk9.below HX8.out (fun k h => Nat.le_trans HX2.out.size (HH8.out.lt _ h).1) HX8.out.size)
            have HZ9 : Hid (w2.heap.size ≤ w9.heap.size) := Lib.hid (Nat.le_trans HZ8.out hk9.size)
            have HH9 := Lib.hid hh9
            clear hh9 hk9 hf9 hsum
            go_wp2_with fail
            go_roundw
            case rel => exact ⟨k + 1, _, v9, by omega, by go_num, HPUSH.out HGO.out, HST9.out, HH9.out, HX9.out, HZ9.out⟩
            case measure => simp [intOf]; omega
        · obtain rfl : k = sl := by omega
          go_wp2_with fail
          go_roundg (gk - 1)
          case measure => have := HCN.out.2; omega
          case rel => exact ⟨m', q', x, k, v, HD.out, .inl (by have := HSL.out; omega), HCN.out.1, HST.out, HH.out, HX.out, HZ.out⟩
end Go.Proofs.YtkcnnamghpdplaaDoor
/- Stalled ranks; what is reached from a rank. -/
set_option linter.unusedSimpArgs false
set_option linter.unusedVariables false
namespace Go.Proofs.YtkcnnamghpdplaaDoor
open Go.RowKit

def overB (D : Nat → Option Int) (d : Int) (l : Lk) : Bool := match D l.to with
  | some x => decide (x + l.w < d)
  | none => false
def stalledB (S : Nat → List Lk) (D : Nat → Option Int) (r : Nat) (d : Int) : Bool := (S r).any (overB D d)
def SafeD (D : Nat → Option Int) : Prop := ∀ x b, D x = some b → 0 ≤ b ∧ b ≤ 9223231299366420480
def StalledIs (b : Bool) (W : World) (e : Ending) (w' : World) : Prop := e = .returned (.bool b) ∧ Below W.heap.size W w'
set_option maxRecDepth 100000 in
set_option maxHeartbeats 1000000 in
theorem stalled_any (a1 a2 a3 a4 : Option Addr) (n1 c1 n2 c2 c3 c4 n r b g : Nat) (d : Int) (f : List Nat) (ls : List Lk) (m : List (Option Int)) (W : World) (hS : Side n f ls) (hr : r < n) (hf : Rd32 W a3 (n + 1) f) (hl : RdK W a4 ls.length ls) (hc3 : n + 1 ≤ c3 ∧ c3 ≤ 9223372036854775807) (hc4 : ls.length ≤ c4 ∧ c4 ≤ 9223372036854775807) (hk : ∀ l ∈ ls, InK l) (hst : Stp.St W b g m) (hm : m.length = n) (hsd : SafeD (getO m)) :
    Calls Tryd.prog 49 #[.agg #[.int .i64 n, .slice a1 n1 c1, .slice a2 n2 c2, .slice a3 (n + 1) c3, .slice a4 ls.length c4], .pointer (some ⟨b, 0, none⟩), .int .i64 r, .int .u64 d] W (StalledIs (stalledB (seg f ls) (getO m) r d) W) := by
  have hn := hS.n_le
  have HS := Lib.hid hS
  have HF := Lib.hid hf
  have HL := Lib.hid hl
  have HK := Lib.hid hk
  have HST := Lib.hid hst
  have HM := Lib.hid hm
  have HSD := Lib.hid hsd
  have hl0 := hS.l_le
  generalize hll : ls.length = nl at *
  have HLL := Lib.hid hll
  generalize hres : stalledB (seg f ls) (getO m) r d = res
  have HR := Lib.hid hres
  unfold stalledB at HR
  clear hS hf hl hk hll hst hm hsd hres
  go_enter Tryd.func49, Tryd.ntmps49
  go_wp2_with fail
  generalize hW1 : W.alloc (.cells #[.int .i64 n, .slice a1 n1 c1, .slice a2 n2 c2, .slice a3 (n + 1) c3, .slice a4 nl c4] 66) = W1
  have hb1 : Below W.heap.size W W1 := by rw [← hW1]; exact (Below.refl _ _).alloc (Nat.le_refl _) _
  have hc1' : Cells W1 W.heap.size #[.int .i64 n, .slice a1 n1 c1, .slice a2 n2 c2, .slice a3 (n + 1) c3, .slice a4 nl c4] 66 := by rw [← hW1]; exact cells_new _ _ _
  have HB1 := Lib.hid hb1
  have b3 : W1.cell? ⟨W.heap.size, 3, none⟩ = some (.slice a3 (n + 1) c3) := hc1'.cell 3
  have b4 : W1.cell? ⟨W.heap.size, 4, none⟩ = some (.slice a4 nl c4) := hc1'.cell 4
  have HL1 := Lib.hid (HL.out.below hb1)
  obtain ⟨ad, hA, e0, e1⟩ := two_firsts (HF.out.below hb1) hr
  subst hA
  have e1' : W1.cell? ⟨ad.block, ad.off + (r + 1), none⟩ = some (.int .u32 (f.getD (r + 1) 0 : Nat)) := e1
  have hmono := HS.out.mono r hr
  rw [HLL.out] at hmono
  have hslen := HS.out.len hr
  have hsl := fun w => slice_links a4 nl c4 (f.getD r 0) (f.getD (r + 1) 0) hmono.1 (by omega) w
  have hrd := rd_seg HS.out hr (by rw [HLL.out]; exact HL1.out) (by rw [HLL.out]; exact hc4.1)
  generalize (if c4 = f.getD r 0 then a4 else a4.map (·.add (f.getD r 0 * 4))) = AA at hsl hrd
  generalize f.getD r 0 = lo at *
  generalize f.getD (r + 1) 0 = hi at *
  obtain ⟨sl, hsl2⟩ : ∃ sl, hi - lo = sl := ⟨_, rfl⟩
  rw [hsl2] at hsl hrd hslen
  have HRD := Lib.hid hrd
  have HSL := Lib.hid hslen
  have hlo : lo ≤ 1048576 := by omega
  have hhi : hi ≤ 1048576 := by omega
  have hsle : sl ≤ 1048576 := by omega
  have hlh : lo ≤ hi := hmono.1
  have w1 : IntKind.i64.wrap ((r : Int) + 1) = (r : Int) + 1 := by rw [IntKind.wrap_i64]; omega
  have w2' : (0 : Int) ≤ (r : Int) + 1 := by omega
  have w3' : ((r : Int) + 1).toNat = r + 1 := by omega
  have hcap : n + 1 ≤ c3 := hc3.1
  have i1 : (0 : Int) ≤ (r : Int) := by omega
  have i2 : (r : Int) < (n : Int) + 1 := by omega
  have i3 : (r : Int) + 1 < (n : Int) + 1 := by omega
  have i4 : (r : Int) < ((n + 1 : Nat) : Int) := by omega
  have i5 : (r : Int) + 1 < ((n + 1 : Nat) : Int) := by omega
  have i6 : (0 : Int) ≤ (lo : Int) := by omega
  have i7 : (lo : Int) ≤ (hi : Int) := by omega
  have i8 : (hi : Int) ≤ (c4 : Int) := by omega
  clear hmono hrd hslen hsl2 hb1 hc1' hW1 HL
  go_wp2_with fail
  go_quiet (fail)
  have hdr : Below W.heap.size W (W1.drewN nq) := HB1.out.trans ⟨rfl, rfl, rfl, Nat.le_refl _, fun _ _ => rfl⟩
  have hdr1 : Below W1.heap.size W1 (W1.drewN nq) := ⟨rfl, rfl, rfl, Nat.le_refl _, fun _ _ => rfl⟩
  generalize W1.drewN nq = w7 at hdr hdr1 ⊢
  have HX7 := Lib.hid hdr
  have HRD7 := Lib.hid (HRD.out.below hdr1)
  clear hdr hdr1 b3 b4 e0 e1 e1' hsl w1 w2' w3' i1 i2 i3 i4 i5 i6 i7 i8 HB1 HRD HL1 HF
  go_wp2_with fail
  go_loopw [28] (fun iv wr => ∃ k : Nat, k ≤ sl ∧ iv = .int .i64 k ∧ ((seg f ls r).take k).any (overB (getO m) d) = false ∧ Below W.heap.size W wr ∧ Below w7.heap.size w7 wr) (fun iv _ => sl - (intOf iv).toNat)
  case atStart => exact ⟨0, by omega, rfl, by simp, HX7.out, Below.refl _ _⟩
  case round =>
    obtain ⟨k, hk, rfl, hany, hx, hx7⟩ := hrel
    have HANY := Lib.hid hany
    have HX := Lib.hid hx
    have HXX := Lib.hid hx7
    clear hany hx hx7
    by_cases hlt : k < sl
    · have g0 : decide ((k : Int) < (sl : Int)) = true := decide_eq_true (by omega)
      have hks : k < (seg f ls r).length := by have := HSL.out; omega
      obtain ⟨ad2, hA2, cc⟩ := (HRD7.out.below HXX.out).at_ hlt
      subst hA2
      obtain ⟨c0, c1', c2', c3'⟩ := four_cells cc
      have hmem : (seg f ls r)[k] ∈ ls := List.mem_of_mem_drop (List.mem_of_mem_take (List.getElem_mem hks))
      have hik := HK.out _ hmem
      have hww := HS.out.ups.w r _ hr (List.getElem_mem hks)
      have htk := List.take_succ_eq_append_getElem hks
      have hin : (seg f ls r)[k] ∈ seg f ls r := List.getElem_mem hks
      generalize hL : (seg f ls r)[k] = L at *
      have hLto := hik.to
      unfold In32 at hLto
      unfold topI at hww
      have hstep : ((seg f ls r).take (k + 1)).any (overB (getO m) d) = overB (getO m) d L := by rw [htk, List.any_append, HANY.out]; simp
      have hres : overB (getO m) d L = true → res = true := fun h => by rw [← HR.out]; exact List.any_eq_true.2 ⟨L, hin, h⟩
      unfold overB at hstep hres
      obtain ⟨t0, t1, t2, t3⟩ := L
      dsimp only at c0 c1' c2' c3' hww hLto hstep hres
      have HSTEP := Lib.hid hstep
      have HRES := Lib.hid hres
      clear cc hmem hik hL htk hin hstep hres
      go_wp2_with fail
      have hba := (Below.refl wr.heap.size wr).alloc (Nat.le_refl _) (.cells #[.int .u32 (t0 : Int), .int .u64 t1, .int .u32 (t2 : Int), .int .u32 (t3 : Int)] 52)
      have hca := cells_new wr #[.int .u32 (t0 : Int), .int .u64 t1, .int .u32 (t2 : Int), .int .u32 (t3 : Int)] 52
      refine (Stp.Get_St (HST.out.below (HX.out.trans (hba.mono HX.out.size))) (t0 : Int) (by have := HM.out; omega) (by omega) (by omega)).mono ?_
      rintro e w8 ⟨rfl, hd8⟩
      have hb8 : Below wr.heap.size wr w8 := hba.trans (hd8.below _)
      have k0 : w8.cell? ⟨wr.heap.size, 0, none⟩ = some (.int .u32 (t0 : Int)) := (hca.below (hd8.below _)).cell 0
      have k1 : w8.cell? ⟨wr.heap.size, 1, none⟩ = some (.int .u64 t1) := (hca.below (hd8.below _)).cell 1
      have HX8 := Lib.hid (HX.out.trans (hb8.mono HX.out.size))
      have HXX8 := Lib.hid (HXX.out.trans (hb8.mono HXX.out.size))
      rw [look_nat]
      clear hba hca hd8 hb8
      cases hgo : getO m t0 with
      | none =>
        have HN : Hid (((seg f ls r).take (k + 1)).any (overB (getO m) d) = false) := Lib.hid (by have h := HSTEP.out; rw [hgo] at h; exact h)
        simp only [Stp.got]
        clear hgo
        go_wp2_with fail
        go_roundw
        case rel => exact ⟨k + 1, by omega, by go_num, HN.out, HX8.out, HXX8.out⟩
        case measure => simp [intOf]; omega
      | some x =>
        have hx := HSD.out t0 x hgo
        have hsum : IntKind.u64.wrap (x + t1) = x + t1 := by rw [IntKind.wrap_u64]; omega
        simp only [Stp.got]
        by_cases hlt2 : x + t1 < d
        · have HT : Hid (res = true) := Lib.hid (HRES.out (by rw [hgo]; exact decide_eq_true hlt2))
          have g1 : decide (x + t1 < d) = true := decide_eq_true hlt2
          clear hgo hlt2
          go_wp2_with fail
          go_ret
          exact ⟨by rw [HT.out]; rfl, HX8.out⟩
        · have HN : Hid (((seg f ls r).take (k + 1)).any (overB (getO m) d) = false) := Lib.hid (by have h := HSTEP.out; rw [hgo] at h; exact h.trans (decide_eq_false hlt2))
          have g1 : decide (x + t1 < d) = false := decide_eq_false hlt2
          clear hgo hlt2
          go_wp2_with fail
          go_roundw
          case rel => exact ⟨k + 1, by omega, by go_num, HN.out, HX8.out, HXX8.out⟩
          case measure => simp [intOf]; omega
    · obtain rfl : k = sl := by omega
      have HT : Hid (res = false) := Lib.hid (by rw [← HR.out]; have h := HANY.out; rwa [List.take_of_length_le (by have := HSL.out; omega)] at h)
      go_wp2_with fail
      go_ret
      exact ⟨by rw [HT.out]; rfl, HX.out⟩
/-! ### what is reached -/
structure SeenT where
  rank : Nat
  dist : Int
  st : Bool
abbrev encSn (x : SeenT) : List Value := [.int .i64 (x.rank : Int), .int .u64 x.dist, .bool x.st]
theorem encSn_len : ∀ x, (encSn x).length = 3 := fun _ => rfl
theorem encSn_one : ∀ x, ∀ u ∈ encSn x, u.oneCell' = true := fun x u h => by
  simp at h
  rcases h with rfl | rfl | rfl <;> rfl
theorem info_seen : (Tryd.prog.info? 48).map (fun i => (i.zero, i.size, i.bytes)) = some (some (.agg #[.int .i64 0, .int .u64 0, .bool false]), 3, 24) := by kernel_rfl
abbrev OwnSn (w : World) (base : Nat) (v : Value) (l : List SeenT) : Prop := Own 48 3 encSn w base v l
/-- what is reached, of the ranks below k -/
def seenTo (D : Nat → Option Int) (S : Nat → List Lk) (k : Nat) : List SeenT := (List.range k).filterMap fun r => (D r).map fun d => ⟨r, d, stalledB S D r d⟩
theorem seenTo_succ (D : Nat → Option Int) (S : Nat → List Lk) (k : Nat) : seenTo D S (k + 1) = seenTo D S k ++ match D k with | some d => [⟨k, d, stalledB S D k d⟩] | none => [] := by
  unfold seenTo
  rw [List.range_succ, List.filterMap_append]
  congr 1
  cases h : D k <;> simp [h]
theorem seenTo_len (D : Nat → Option Int) (S : Nat → List Lk) (k : Nat) : (seenTo D S k).length ≤ k := by
  unfold seenTo
  have := List.length_filterMap_le (fun r => (D r).map fun d => (⟨r, d, stalledB S D r d⟩ : SeenT)) (List.range k)
  rwa [List.length_range] at this
/-- .. by way of the list of those that are reached -/
def seenOf (D : Nat → Option Int) (S : Nat → List Lk) (l : List Int) : List SeenT := l.map fun i => ⟨i.toNat, (D i.toNat).getD 0, stalledB S D i.toNat ((D i.toNat).getD 0)⟩
theorem seenOf_marks (m : List (Option Int)) (S : Nat → List Lk) : seenOf (getO m) S (Stp.marks m) = seenTo (getO m) S m.length := by
  unfold Stp.marks
  generalize m.length = k
  induction k with
  | zero => simp [seenOf, seenTo, Stp.picks]
  | succ k ih =>
    rw [Stp.picks_succ, seenTo_succ, ← ih]
    unfold seenOf
    rw [List.map_append]
    congr 1
    have e : (m.getD k none) = getO m k := rfl
    rw [e]
    cases h : getO m k <;> simp [h]
theorem rd_Sn {w : World} {k : Nat} {x : SeenT} (hk : w.heap.size = k) : Rd 3 encSn (w.alloc (.cells #[.int .i64 (x.rank : Int), .int .u64 x.dist, .bool x.st] 48)) (some ⟨k, 0, none⟩) 1 [x] := by
  subst hk
  exact rd_new (enc := encSn) encSn_len w _ [x]
def ClimbOk (l : List SeenT) (W : World) (e : Ending) (w' : World) : Prop := ∃ A c, e = .returned (.tuple #[.slice A l.length c, .nilIface]) ∧ OwnSn w' W.heap.size (.slice A l.length c) l ∧ Below W.heap.size W w'
theorem marks_mem {m : List (Option Int)} {i : Int} (h : i ∈ Stp.marks m) : 0 ≤ i ∧ i.toNat < m.length ∧ ∃ d, getO m i.toNat = some d := by
  unfold Stp.marks Stp.picks at h
  obtain ⟨r, hr, rfl⟩ := List.mem_map.1 h
  obtain ⟨h1, h2⟩ := List.mem_filter.1 hr
  have h3 : r < m.length := List.mem_range.1 h1
  refine ⟨by simp, by simpa using h3, ?_⟩
  have e : (m.getD r none) = getO m r := rfl
  rw [e] at h2
  simp only [Int.ofNat_eq_natCast, Int.toNat_natCast]
  cases hg : getO m r with
  | none => rw [hg] at h2; simp at h2
  | some d => exact ⟨d, rfl⟩
end Go.Proofs.YtkcnnamghpdplaaDoor
/- What is reached from a rank: the program's list. -/
set_option linter.unusedSimpArgs false
set_option linter.unusedVariables false
namespace Go.Proofs.YtkcnnamghpdplaaDoor
open Go.RowKit

def ClimbIs (n : Nat) (S S' : Nat → List Lk) (s : Nat) (W : World) (e : Ending) (w' : World) : Prop := ∃ D, Sol n S s D ∧ ClimbOk (seenTo D S' n) W e w'
def ClimbNot (W : World) (e : Ending) (w' : World) : Prop := e = .returned (.tuple #[.slice none 0 0, .iface 56 (.int .i64 7)]) ∧ Below W.heap.size W w'
theorem climb_out (a1 a2 a3 a4 : Option Addr) (n1 c1 n2 c2 n3 c3 n4 c4 n : Nat) (s : Int) (W : World) (hn : n ≤ 65536) (hs : s < 0 ∨ (n : Int) ≤ s) (h0 : -9223372036854775808 ≤ s) (h1 : s ≤ 9223372036854775807) :
    Calls Tryd.prog 29 #[.agg #[.int .i64 n, .slice a1 n1 c1, .slice a2 n2 c2, .slice a3 n3 c3, .slice a4 n4 c4], .int .i64 s] W (ClimbNot W) := by
  by_cases hs0 : s < 0
  · have g1 : decide (s < 0) = true := decide_eq_true hs0
    go_enter Tryd.func29, Tryd.ntmps29
    go_wp2_with fail
    go_ret2
    exact ⟨rfl, (Below.refl _ _).alloc (Nat.le_refl _) _⟩
  · have g1 : decide (s < 0) = false := decide_eq_false hs0
    have g2 : decide ((n : Int) ≤ s) = true := decide_eq_true (by omega)
    clear hs
    go_enter Tryd.func29, Tryd.ntmps29
    go_wp2_with fail
    go_ret2
    exact ⟨rfl, (Below.refl _ _).alloc (Nat.le_refl _) _⟩
set_option maxRecDepth 100000 in
set_option maxHeartbeats 2000000 in
theorem climb_in (a1 a2 a3 a4 : Option Addr) (c1 c2 c3 c4 n s : Nat) (f bf : List Nat) (ls bs : List Lk) (W : World) (hS : Side n f ls) (hS' : Side n bf bs) (hs : s < n) (hf : Rd32 W a1 (n + 1) f) (hl : RdK W a2 ls.length ls) (hbf : Rd32 W a3 (n + 1) bf) (hbl : RdK W a4 bs.length bs)
    (hc1 : n + 1 ≤ c1 ∧ c1 ≤ 9223372036854775807) (hc2 : ls.length ≤ c2 ∧ c2 ≤ 9223372036854775807) (hc3 : n + 1 ≤ c3 ∧ c3 ≤ 9223372036854775807) (hc4 : bs.length ≤ c4 ∧ c4 ≤ 9223372036854775807) (hin : ∀ x ∈ f, In32 x) (hk : ∀ l ∈ ls, InK l) (hkb : ∀ l ∈ bs, InK l) :
    Calls Tryd.prog 29 #[.agg #[.int .i64 n, .slice a1 (n + 1) c1, .slice a2 ls.length c2, .slice a3 (n + 1) c3, .slice a4 bs.length c4], .int .i64 s] W (ClimbIs n (seg f ls) (seg bf bs) s W) := by
  have hn := hS.n_le
  have HSR : Hid (∀ w, Below W.heap.size W w → Calls Tryd.prog 46 #[.agg #[.int .i64 n, .slice a1 (n + 1) c1, .slice a2 ls.length c2, .slice a3 (n + 1) c3, .slice a4 bs.length c4], .int .i64 s] w (SearchIs n (seg f ls) s w)) := Lib.hid fun w hb =>
    search_any a1 a2 a3 a4 c1 c2 (n + 1) c3 bs.length c4 n s f ls w hS hs (hf.below hb) (hl.below hb) hc1 hc2 hin hk
  have HSTL : Hid (∀ (w : World) (r b g : Nat) (d : Int) (m : List (Option Int)), Below W.heap.size W w → r < n → Stp.St w b g m → m.length = n → SafeD (getO m) → Calls Tryd.prog 49 #[.agg #[.int .i64 n, .slice a1 (n + 1) c1, .slice a2 ls.length c2, .slice a3 (n + 1) c3, .slice a4 bs.length c4], .pointer (some ⟨b, 0, none⟩), .int .i64 r, .int .u64 d] w (StalledIs (stalledB (seg bf bs) (getO m) r d) w)) := Lib.hid fun w r b g d m hb hr hst hm hsd =>
    stalled_any a1 a2 a3 a4 (n + 1) c1 ls.length c2 c3 c4 n r b g d bf bs m w hS' hr (hbf.below hb) (hbl.below hb) hc3 hc4 hkb hst hm hsd
  unfold SearchIs at HSR
  unfold StalledIs at HSTL
  generalize seg f ls = S at *
  generalize seg bf bs = S' at *
  generalize ls.length = nl at *
  generalize bs.length = nb at *
  have g1 : decide ((s : Int) < 0) = false := decide_eq_false (by omega)
  have g2 : decide ((n : Int) ≤ (s : Int)) = false := decide_eq_false (by omega)
  clear hS hS' hf hl hbf hbl hin hk hkb
  go_enter Tryd.func29, Tryd.ntmps29
  go_wp2_with fail
  generalize hW1 : W.alloc (.cells #[.int .i64 n, .slice a1 (n + 1) c1, .slice a2 nl c2, .slice a3 (n + 1) c3, .slice a4 nb c4] 66) = W1
  have hb1 : Below W.heap.size W W1 := by rw [← hW1]; exact (Below.refl _ _).alloc (Nat.le_refl _) _
  have hc1' : Cells W1 W.heap.size #[.int .i64 n, .slice a1 (n + 1) c1, .slice a2 nl c2, .slice a3 (n + 1) c3, .slice a4 nb c4] 66 := by rw [← hW1]; exact cells_new _ _ _
  have HB1 := Lib.hid hb1
  have HBX := Lib.hid hc1'
  clear hb1 hc1' hW1
  refine (HSR.out W1 HB1.out).mono ?_
  rintro e w2 ⟨b, g, m, rfl, hst, hml, hsol, hb, hbb, hbg, hub⟩
  have HST2 := Lib.hid hst
  have HSOL := Lib.hid hsol
  have HML := Lib.hid hml
  have HSD : Hid (SafeD (getO m)) := Lib.hid fun x d h => by
    have h1 := hub x d h
    have h2 := getO_lt h
    refine ⟨h1.1, ?_⟩
    have h3 := h1.2
    unfold topI at h3
    omega
  have HX2 := Lib.hid hb
  clear hst hsol hml hub hb
  go_wp2_with fail
  refine (Stp.All_St HST2.out (by have := HML.out; omega)).mono ?_
  rintro e w3 ⟨va, rfl, hva, hb⟩
  obtain ⟨Aa, ca, rfl, hca, hcm⟩ := hva.form
  have hrd := hva.rd Stp.i64s_len rfl
  have hmk : ∀ (k : Nat) (i : Int), (Stp.marks m)[k]? = some i → 0 ≤ i ∧ i.toNat < n ∧ ∃ d, getO m i.toNat = some d := fun k i h => by
    have := marks_mem (List.mem_of_getElem? h)
    rwa [HML.out] at this
  have hso := seenOf_marks m S'
  rw [HML.out] at hso
  have hll : (Stp.marks m).length ≤ 65536 := by
    have h1 := congrArg List.length hso
    unfold seenOf at h1
    rw [List.length_map] at h1
    have h2 := seenTo_len (getO m) S' n
    omega
  generalize Stp.marks m = l at *
  generalize hln : l.length = nn at *
  have HRD := Lib.hid hrd
  have HMK := Lib.hid hmk
  have HSO := Lib.hid hso
  have HLN := Lib.hid hln
  have HST3 := Lib.hid (HST2.out.below hb)
  have HX3 := Lib.hid (HX2.out.trans (hb.mono HX2.out.size))
  clear hva hb hrd hmk hso hln hcm hca
  go_wp2_with fail
  go_loopw [8, 34] (fun sv iv wr => ∃ k : Nat, k ≤ nn ∧ iv = .int .i64 k ∧ OwnSn wr w3.heap.size sv (seenOf (getO m) S' (l.take k)) ∧ Below w3.heap.size w3 wr) (fun _ iv _ => nn - (intOf iv).toNat)
  case atStart => exact ⟨0, by omega, rfl, by unfold seenOf; exact Own.nil _ _ _ _ _, Below.refl _ _⟩
  case round =>
    obtain ⟨k, hk, rfl, ho, hb⟩ := hrel
    have HO := Lib.hid ho
    have HB := Lib.hid hb
    clear ho hb
    have HXR : Hid (Below W1.heap.size W1 wr) := Lib.hid (HX3.out.trans (HB.out.mono HX3.out.size))
    by_cases hlt : k < nn
    · have g0 : decide ((k : Int) < (nn : Int)) = true := decide_eq_true (by omega)
      obtain ⟨ad, hA, cc⟩ := (HRD.out.below HB.out).at_ hlt
      subst hA
      have hkl : k < l.length := by have := HLN.out; omega
      have c0 := cc 0 _ rfl
      rw [Nat.mul_one, Nat.add_zero] at c0
      obtain ⟨i0, i1, d, hd⟩ := HMK.out k _ (List.getElem?_eq_getElem hkl)
      have htk := List.take_succ_eq_append_getElem hkl
      generalize l[k] = i at *
      obtain ⟨r, rfl⟩ : ∃ r : Nat, i = (r : Int) := ⟨i.toNat, by omega⟩
      rw [Int.toNat_natCast] at i1 hd
      have hsn : seenOf (getO m) S' (l.take (k + 1)) = seenOf (getO m) S' (l.take k) ++ [⟨r, d, stalledB S' (getO m) r d⟩] := by
        rw [htk]
        unfold seenOf
        rw [List.map_append, List.map_cons, List.map_nil, Int.toNat_natCast, hd]
        rfl
      have HSN := Lib.hid hsn
      have HDG := Lib.hid hd
      have HSDr := HSD.out r d hd
      have hol : (seenOf (getO m) S' (l.take k)).length = k := by unfold seenOf; rw [List.length_map, List.length_take]; omega
      have HOL := Lib.hid hol
      have HSTB : Hid (∀ w, Below W.heap.size W w → Stp.St w b g m → Calls Tryd.prog 49 #[.agg #[.int .i64 n, .slice a1 (n + 1) c1, .slice a2 nl c2, .slice a3 (n + 1) c3, .slice a4 nb c4], .pointer (some ⟨b, 0, none⟩), .int .i64 r, .int .u64 d] w fun e w' => e = .returned (.bool (stalledB S' (getO m) r d)) ∧ Below w.heap.size w w') := Lib.hid fun w hb hst => HSTL.out w r b g d m hb i1 hst HML.out HSD.out
      generalize stalledB S' (getO m) r d = st at *
      clear cc htk hd hsn hol hkl
      go_wp2_with fail
      refine (Stp.Get_St (HST3.out.below HB.out) (r : Int) (by have := HML.out; omega) (by omega) (by omega)).mono ?_
      rintro e w4 ⟨rfl, hd4⟩
      rw [look_nat, HDG.out]
      simp only [Stp.got]
      have hb4 := hd4.below wr.heap.size
      have HX4 : Hid (Below W1.heap.size W1 w4) := Lib.hid (HXR.out.trans (hb4.mono HXR.out.size))
      have HB4 : Hid (Below w3.heap.size w3 w4) := Lib.hid (HB.out.trans (hb4.mono HB.out.size))
      have HO4 := Lib.hid (HO.out.below hb4)
      have b0 : w4.cell? ⟨W.heap.size, 0, none⟩ = some (.int .i64 n) := (HBX.out.below HX4.out).cell 0
      have b1 : w4.cell? ⟨W.heap.size, 1, none⟩ = some (.slice a1 (n + 1) c1) := (HBX.out.below HX4.out).cell 1
      have b2 : w4.cell? ⟨W.heap.size, 2, none⟩ = some (.slice a2 nl c2) := (HBX.out.below HX4.out).cell 2
      have b3 : w4.cell? ⟨W.heap.size, 3, none⟩ = some (.slice a3 (n + 1) c3) := (HBX.out.below HX4.out).cell 3
      have b4 : w4.cell? ⟨W.heap.size, 4, none⟩ = some (.slice a4 nb c4) := (HBX.out.below HX4.out).cell 4
      clear hd4 hb4
      go_wp2_with fail
      refine (HSTB.out _ (HB1.out.trans (HX4.out.mono HB1.out.size)) (HST3.out.below HB4.out)).mono ?_
      rintro e w5 ⟨rfl, hb5⟩
      have HB5 : Hid (Below w3.heap.size w3 w5) := Lib.hid (HB4.out.trans (hb5.mono HB4.out.size))
      have HO5 := Lib.hid (HO4.out.below hb5)
      have hs5 := HB5.out.size
      clear hb5
      go_wp2_with (at_builtin; go_loud (refine wpList_append_rd rfl (.tmp 44) (.tmp 53) 28 rfl 48 (.agg #[.int .i64 0, .int .u64 0, .bool false]) 24 Tryd.underlying28 info_seen rfl (by omega) (by omega) encSn_len encSn_one w3.heap.size _ (seenOf (getO m) S' (l.take k)) rfl (HO5.out.below ((Below.refl _ _).alloc (Nat.le_refl _) _)) _ 1 1 [(⟨r, d, st⟩ : SeenT)] rfl (rd_Sn rfl) (by rw [HOL.out]; omega) (by simp; omega) ?_; intro v6 w6 ho6 hg6 hat6; have HO6 := Lib.hid ho6; have HB6 : Hid (Below w3.heap.size w3 w6) := Lib.hid (below_own (HB5.out.alloc HB5.out.size _) (HO5.out.below ((Below.refl _ _).alloc (Nat.le_refl _) _)) hg6 (Nat.le_refl _) (by simp; omega)); clear ho6 hg6 hat6))
      go_roundw
      case rel => exact ⟨k + 1, by omega, by go_num, by rw [HSN.out]; exact HO6.out, HB6.out⟩
      case measure => simp [intOf]; omega
    · obtain rfl : k = nn := by omega
      have hall : l.take k = l := List.take_of_length_le (by have := HLN.out; omega)
      rw [hall, HSO.out] at HO
      obtain ⟨A2, c2', rfl, _, _⟩ := HO.out.form
      have HEND : Hid (ClimbIs n S S' s W (.returned (.tuple #[.slice A2 (seenTo (getO m) S' n).length c2', .nilIface])) wr) := Lib.hid ⟨getO m, HSOL.out, A2, c2', rfl, HO.out.mono (Nat.le_trans HB1.out.size HX3.out.size), HB1.out.trans (HXR.out.mono HB1.out.size)⟩
      clear hall
      go_wp2_with fail
      go_ret2
      exact HEND.out
end Go.Proofs.YtkcnnamghpdplaaDoor

/- The walk of CrcMemory: it returns true, whatever the bytes, and leaves old memory as it was. -/
import Derived.Test.YtkhnpmeaklcmaaaLaws2
import Derived.Laws.CopyOwn
set_option linter.unusedSimpArgs false
set_option linter.unusedVariables false
namespace Go.Proofs.Ytkhnpmeaklcmaaa
open Go.RowKit Go.Proofs.Ytkhnpmeaklcmaaa.Crc

theorem flat_map (l : List Int) : l.flatMap u8s = l.map (Value.int .u8) := by induction l <;> simp_all
def one8 : List Int := [1, 2, 3, 4, 5, 6, 7, 8]
theorem in_one8 : InB one8 := by unfold InB one8; decide
def zerosL (n : Nat) : List Value := (List.replicate n (0 : Int)).map (Value.int .u8)
def zerosA (n : Nat) : Array Value := (zerosL n).toArray
theorem made_zero (m : Nat) : madeCells #[Value.int .u8 0] m = zerosA m := by
  unfold zerosA zerosL
  apply Array.toList_inj.1
  rw [toList_madeCells_one]
  simp
/-- A slice whose block is known whole. -/
theorem own_of_cells {w : World} {g n cap : Nat} {l : List Int} {B : Nat} (h : w.heap[g]? = some (.cells (l.map (Value.int .u8)).toArray 5 (0, 0))) (hB : B ≤ g) (hl : l.length = cap) (hn : n ≤ cap) (hm : cap ≤ maxLen) :
    OwnB w B (.slice (some ⟨g, 0, none⟩) (l.take n).length cap) (l.take n) := by
  have e : (l.take n).length = n := by rw [List.length_take]; omega
  refine ⟨by rw [flat_len u8s_len], .inr ⟨g, cap, _, by rw [e], hB, h, by omega, hm, by simp [hl], ?_⟩⟩
  rw [flat_map, e, Nat.mul_one, List.map_take]

theorem rd_src {w : World} {A : Option Addr} {n : Nat} {l : List Int} (h : RdB w A n l) (hp : 0 < (l.map (Value.int .u8)).length) : ∃ ad, A = some ad ∧ ∀ j v, (l.map (Value.int .u8))[j]? = some v → w.cell? (ad.add j) = some v := by
  rw [List.length_map, h.1] at hp
  obtain ⟨ad, e, hc⟩ := h.2 hp
  refine ⟨ad, e, fun j v hv => ?_⟩
  rw [List.getElem?_map] at hv
  obtain ⟨x, hx, rfl⟩ := Option.map_eq_some_iff.1 hv
  have := hc j x 0 _ hx rfl
  rwa [Nat.mul_one, Nat.add_zero] at this
theorem ints_one (l : List Int) : ∀ v ∈ l.map (Value.int .u8), v.oneCell' = true := by
  intro v hv
  obtain ⟨x, _, rfl⟩ := List.mem_map.1 hv
  rfl
theorem splice_zero (l : List Int) : splice (zerosL (l.length + 8)) 0 (l.map (Value.int .u8)) = (l ++ List.replicate 8 (0 : Int)).map (Value.int .u8) := by
  simp [splice, zerosL]
theorem news8 (W : World) : ∀ j u, (one8.map (Value.int .u8))[j]? = some u → (W.alloc (.cells #[.int .u8 1, .int .u8 2, .int .u8 3, .int .u8 4, .int .u8 5, .int .u8 6, .int .u8 7, .int .u8 8] 5)).cell? ((⟨W.heap.size, 0, none⟩ : Addr).add j) = some u :=
  World.news_of_block (heap_alloc_new W _)
/-- A row is written at a place: other rows stay. -/
theorem own_far {w : World} {base g : Nat} {e sz : Nat} {enc : Int → List Value} {v : Value} {l : List Int} (h : Own e sz enc w base v l) {p : Addr} (hp : v.ownBlock ≠ some p.block) (u : Value) : Own e sz enc (w.setCell p u) base v l :=
  h.kept ⟨rfl, rfl, rfl, by simp [World.setCell], fun k _ hk => Below.heap_setCell w p u k (fun e => hk (by rw [e]))⟩ (.inr hp)

theorem own_joined {w : World} {B g n : Nat} {l : List Int} (h : w.ownsRow B 5 1 (.slice (some ⟨g, 0, none⟩) (l.length + 8) n) (l.length + 8) (l.flatMap u8s ++ one8.map (Value.int .u8))) :
    OwnB w B (.slice (some ⟨g, 0, none⟩) (l ++ one8).length n) (l ++ one8) := by
  have e : (l ++ one8).length = l.length + 8 := by simp [one8]
  unfold OwnB Own
  rw [e, List.flatMap_append, flat_map one8]
  exact h

theorem add_plain0 (g j : Nat) : (⟨g, 0, none⟩ : Addr).add j = ⟨g, j, none⟩ := by unfold Addr.add; split <;> simp_all
theorem grown_set {w w' : World} {g j : Nat} {v : Value} (h : w.grownBy w' (some g)) : w.grownBy (w'.setCell ⟨g, j, none⟩ v) (some g) :=
  ⟨h.os, h.tape, h.output, by simpa [World.setCell] using h.size, fun k hk hn => (Below.heap_setCell w' ⟨g, j, none⟩ v k (fun e => hn (by rw [e]))).trans (h.block k hk hn)⟩

set_option maxHeartbeats 1600000 in
theorem CrcMemory_walk (a : Option Addr) (len cap : Nat) (zs : List Int) (w : World) (hz : IsRow .u8 w a len cap zs) (hy : len * 1 ≤ 140737488351232) :
    Calls Try.prog 6 #[.slice a len cap] w (BoolBelow true w) := by
  obtain ⟨hlc, hcm⟩ := hz.cap
  have hr := Lib.hid hz.rd
  have hb := Lib.hid hz.inB
  have hl := Lib.hid hz.rd.1
  clear hz
  generalize zs.take len = l at *
  obtain rfl := hl.out
  clear hl
  have hmk : ∀ W : World, (Instr.makeSlice 23 (.int .i64 (l.length : Int)) (.int .i64 ((l.length : Int) + 8))).run Try.prog W = .ok (.slice (some ⟨W.heap.size, 0, none⟩) l.length (l.length + 8)) (W.alloc (.cells (zerosA (l.length + 8)) 5)) := fun W => by
    obtain ⟨i, hi, hz0, hz1, hz2⟩ := info_parts info_u8
    have h := run_make (P := Try.prog) W 23 5 i _ Try.underlying23 hi hz0 .i64 .i64 (l.length : Int) ((l.length : Int) + 8) (by omega) (by omega) (by rw [hz2]; omega) (by omega)
    rw [h, hz1, Nat.mul_one, show ((l.length : Int) + 8).toNat = l.length + 8 by omega, Int.toNat_natCast]
    exact congrArg (fun c => Result.ok (Value.slice (some ⟨W.heap.size, 0, none⟩) l.length (l.length + 8)) (W.alloc (.cells c 5))) (made_zero (l.length + 8))
  go_enter Try.func6, Try.ntmps6
  go_wp2_with fail
  refine (awake_any w).mono ?_
  rintro e w1 ⟨rfl, hb1⟩
  have B1 := Lib.hid hb1
  clear hb1
  obtain ⟨i, hi, hz0, hz1, hz2⟩ := info_parts info_u8
  go_wp2_with (first
    | (refine wpList_copy_splice rfl (.tmp 18) (.tmp 19) 23 23 rfl 5 Try.underlying23 rfl (some ⟨w1.heap.size, 0, none⟩) a l.length (l.length + 8) l.length cap rfl rfl w1.heap.size 0 (zerosL (l.length + 8)) 5 (heap_alloc_new w1 _) (l.map (Value.int .u8)) (by simp) (fun h => ⟨rfl, rd_src ((hr.out.below B1.out).below ((Below.refl _ _).alloc (Nat.le_refl _) _)) h⟩) (by simp [zerosL]) (ints_one l) w.heap.size w (B1.out.alloc B1.out.size _) B1.out.size ?_
       intro w2 hh2 hb2
       rw [splice_zero] at hh2
       have HO2 : Hid (OwnB w2 w.heap.size (.slice (some ⟨w1.heap.size, 0, none⟩) ((l ++ List.replicate 8 (0 : Int)).take l.length).length (l.length + 8)) ((l ++ List.replicate 8 (0 : Int)).take l.length)) := Lib.hid (own_of_cells hh2.out B1.out.size (by simp) (by omega) (by unfold maxLen; omega))
       have B2 := Lib.hid hb2
       clear hh2 hb2)
    | (at_builtin
       refine wpList_append_fits _ rfl (.tmp 21) (.tmp 22) 23 rfl w.heap.size 5 i 1 Try.underlying23 hi hz1 w1.heap.size l.length (l.length + 8) (l.flatMap u8s) rfl (by have h := HO2.out.below ((Below.refl _ _).alloc (Nat.le_refl _) (.cells #[.int .u8 1, .int .u8 2, .int .u8 3, .int .u8 4, .int .u8 5, .int .u8 6, .int .u8 7, .int .u8 8] 5)); rw [List.take_left] at h; exact h) ⟨w2.heap.size, 0, none⟩ 8 8 (one8.map (Value.int .u8)) rfl rfl (news8 w2) (ints_one one8) (by omega) ?_
       intro w3 ho3 hg3
       have HO3 : Hid (OwnB w3 w.heap.size (.slice (some ⟨w1.heap.size, 0, none⟩) (l ++ one8).length (l.length + 8)) (l ++ one8)) := Lib.hid (own_joined ho3)
       have B3 : Hid (Below w.heap.size w w3) := Lib.hid ((B2.out.alloc B2.out.size _).grown hg3 (by have := B2.out.size; simp; omega) (fun k hk => by injection hk with hk; subst hk; exact B1.out.size))
       clear ho3 hg3))
  have RF := Lib.hid (HO3.out.rd u8s_len rfl)
  have RX : Hid (RdB w3 (some ⟨w1.heap.size, 0, none⟩) l.length l) := Lib.hid (by have h := RF.out.take (k := l.length) (by simp); rwa [List.take_left] at h)
  refine (Seal_any _ _ _ l w3 RX.out hb.out (by omega)).mono ?_
  rintro e w4 hm4
  obtain ⟨A4, c4, rfl, hc4, hx4, R4, O4, B34, B4⟩ := thenMade B3.out hm4
  go_wp2_with fail
  refine (Seal_any _ _ _ l w4 (RX.out.below B34.out) hb.out (by omega)).mono ?_
  rintro e w5 hm5
  obtain ⟨A5, c5, rfl, hc5, hx5, R5, O5, B45, B5⟩ := thenMade B4.out hm5
  have RX5 := Lib.hid ((RX.out.below B34.out).below B45.out)
  go_wp2_with fail
  refine (Sum_any _ _ _ l w5 RX5.out hb.out (by unfold maxLen; omega)).mono ?_
  rintro e w5' ⟨rfl, rfl⟩
  go_wp2_with fail
  refine (Fits_any _ _ _ l w5 RX5.out hb.out (by omega) (by unfold maxLen; omega)).mono ?_
  rintro e w6 ⟨rfl, hb6⟩
  have B56 := Lib.hid hb6
  have B6 : Hid (Below w.heap.size w w6) := Lib.hid (B5.out.trans (hb6.mono B5.out.size))
  have RX6 := Lib.hid (RX5.out.below hb6)
  clear hb6
  go_wp2_with fail
  refine (Same_any _ _ _ l a _ cap l w6 RX6.out (hr.out.below B6.out) hb.out hb.out).mono ?_
  rintro e w6' ⟨rfl, rfl⟩
  rw [decide_eq_true rfl]
  go_wp2_with fail
  have RT6 : Hid (RdB w6 (some ⟨w1.heap.size, l.length, none⟩) 8 one8) := Lib.hid (by
    have h := (((RF.out.below B34.out).below B45.out).below B56.out).drop (k := l.length) (cap := l.length + 8) (by simp) (by simp [one8])
    rw [if_neg (by omega), List.drop_left, Option.map_some, Nat.mul_one, add_plain0] at h
    have e : (l ++ one8).length - l.length = 8 := by simp [one8]
    rwa [e] at h)
  have A6 := (Below.refl w6.heap.size w6).alloc (Nat.le_refl _) (.cells #[.int .u8 1, .int .u8 2, .int .u8 3, .int .u8 4, .int .u8 5, .int .u8 6, .int .u8 7, .int .u8 8] 5)
  have B7 : Hid (Below w.heap.size w (w6.alloc (.cells #[.int .u8 1, .int .u8 2, .int .u8 3, .int .u8 4, .int .u8 5, .int .u8 6, .int .u8 7, .int .u8 8] 5))) := Lib.hid (B6.out.alloc B6.out.size _)
  refine (Same_any _ _ _ one8 _ _ _ one8 _ (RT6.out.below A6) (rd_new u8s_len w6 5 one8) in_one8 in_one8).mono ?_
  rintro e w7 ⟨rfl, hw7⟩
  rw [decide_eq_true rfl]
  have B67 : Hid (Below w6.heap.size w6 w7) := Lib.hid (by rw [← hw7]; exact A6)
  have B7' : Hid (Below w.heap.size w w7) := Lib.hid (by rw [← hw7]; exact B7.out)
  clear hw7 A6 B7
  have OF7 := Lib.hid ((((HO3.out.below B34.out).below B45.out).below B56.out).below B67.out)
  have OA7 := Lib.hid (((O4.out.below B45.out).below B56.out).below B67.out)
  have OB7 := Lib.hid ((O5.out.below B56.out).below B67.out)
  obtain ⟨ga, ca, hA4, hga, hgal⟩ := World.ownsRow.form O4.out (by rw [sealed_len]; omega)
  obtain ⟨gb, cb, hA5, hgb, hgbl⟩ := World.ownsRow.form O5.out (by rw [sealed_len]; omega)
  injection hA4 with hA4 _ hc4'
  injection hA5 with hA5 _ hc5'
  subst hA4 hA5 hc4' hc5'
  have hg3 : w1.heap.size < w3.heap.size := (HO3.out.block rfl).2
  have hg4 : ga < gb := by omega
  have hg5 : w1.heap.size < ga := by omega
  go_wp2
  go_loopw [7, 50] (fun _ i wr => ∃ (k : Nat) (F : List Int), F.length = l.length + 8 ∧ k ≤ l.length + 8 ∧ i = .int .i64 k ∧ OwnB wr w.heap.size (.slice (some ⟨w1.heap.size, 0, none⟩) F.length (l.length + 8)) F ∧ w7.grownBy wr (some w1.heap.size)) (fun _ i _ => l.length + 8 - (intOf i).toNat)
  case atStart => exact ⟨0, _, by simp [one8], by omega, rfl, OF7.out, World.grownBy.refl _ _⟩
  case round =>
    obtain ⟨k, F, hF, hk, rfl, ho, hg⟩ := hrel
    have HO := Lib.hid ho
    have HG := Lib.hid hg
    have HF := Lib.hid hF
    clear ho hg hF
    by_cases hlt : k < l.length + 8
    · obtain ⟨c1, c2⟩ := own_get HO.out (j := k) (by rw [HF.out]; exact hlt)
      go_wp2
      go_roundw
      case rel => exact ⟨k + 1, F.set k 238, by rw [List.length_set, HF.out], by omega, by go_num, own_put HO.out k 238, grown_set HG.out⟩
      case measure => simp [intOf]; omega
    · have OA8 := Lib.hid (OA7.out.kept HG.out (.inr (by simp [Value.ownBlock]; omega)))
      have OB8 := Lib.hid (OB7.out.kept HG.out (.inr (by simp [Value.ownBlock]; omega)))
      have B8 : Hid (Below w.heap.size w wr) := Lib.hid (B7'.out.grown HG.out B7'.out.size (fun k hk => by injection hk with hk; subst hk; exact B1.out.size))
      obtain ⟨w8, rfl⟩ : ∃ w8 : World, w8 = wr := ⟨_, rfl⟩
      go_wp2
      have hga8 : Hid (ga < w8.heap.size) := (OA8.out.block rfl).2
      go_loopw [8, 59] (fun _ i wq => ∃ (k : Nat) (F : List Int), F.length = (sealed l).length ∧ k ≤ (sealed l).length ∧ i = .int .i64 k ∧ OwnB wq w3.heap.size (.slice (some ⟨ga, 0, none⟩) F.length c4) F ∧ w8.grownBy wq (some ga)) (fun _ i _ => (sealed l).length - (intOf i).toNat)
      case atStart => exact ⟨0, _, rfl, by omega, rfl, OA8.out, World.grownBy.refl _ _⟩
      case round =>
        obtain ⟨k2, F2, hF2, hk2, rfl, ho2, hg2⟩ := hrel
        have HO2' := Lib.hid ho2
        have HG2 := Lib.hid hg2
        have HF2 := Lib.hid hF2
        clear ho2 hg2 hF2
        have hsl : (sealed l).length ≤ 140737488351236 := by rw [sealed_len]; omega
        by_cases hlt2 : k2 < (sealed l).length
        · obtain ⟨c1, c2⟩ := own_get HO2'.out (j := k2) (by rw [HF2.out]; exact hlt2)
          go_wp2
          go_roundw
          case rel => exact ⟨k2 + 1, F2.set k2 221, by rw [List.length_set, HF2.out], by omega, by go_num, own_put HO2'.out k2 221, grown_set HG2.out⟩
          case measure => simp [intOf]; omega
        · have OB9 := Lib.hid (OB8.out.kept HG2.out (.inr (by simp [Value.ownBlock]; omega)))
          have B9 : Hid (Below w.heap.size w wr) := Lib.hid (B8.out.grown HG2.out B8.out.size (fun k hk => by injection hk with hk; subst hk; have := B3.out.size; omega))
          have hsz9 : Hid (w3.heap.size ≤ wr.heap.size) := Lib.hid (by have h1 := HG2.out.size; have h2 := hga8.out; omega)
          have hgb9 : Hid (gb < wr.heap.size) := (OB9.out.block rfl).2
          obtain ⟨w9, rfl⟩ : ∃ w9 : World, w9 = wr := ⟨_, rfl⟩
          go_wp2_with (at_builtin; refine wpList_append_rd rfl (.tmp 66) (.tmp 67) 23 rfl 5 (.int .u8 0) 1 Try.underlying23 info_u8 rfl (by omega) (by omega) u8s_len u8s_one w3.heap.size (.slice (some ⟨ga, 0, none⟩) (sealed l).length c4) F2 rfl (by have h := HO2'.out; rw [HF2.out] at h; exact h.below ((Below.refl _ _).alloc (Nat.le_refl _) _)) _ 2 2 [1, 2] rfl (rd_new u8s_len w9 5 [1, 2]) (by rw [HF2.out]; omega) (by have := hsz9.out; simp; omega) ?_; intro v10 w10 ho10 hg10 hat10; obtain ⟨A10, c10, rfl, hc10, hm10⟩ := ho10.form; have hlen10 : Hid ((F2 ++ [1, 2]).length = (sealed l).length + 2) := Lib.hid (by rw [List.length_append, HF2.out]; rfl); rw [hlen10.out]; have OB10 := Lib.hid ((OB9.out.below ((Below.refl _ _).alloc (Nat.le_refl _) _)).kept hg10 (.inr (by simp [Value.ownBlock]; omega))); have B10 : Hid (Below w.heap.size w w10) := Lib.hid ((B9.out.alloc B9.out.size _).grown hg10 (by have := B9.out.size; simp; omega) (fun k hk => by have e : ga = k := (by simpa [Value.ownBlock] using hk); have := B3.out.size; omega)); clear ho10 hg10 hat10 hc10)
          refine (refSeal_any a _ cap l w10 (hr.out.below B10.out) hb.out (by omega)).mono ?_
          rintro e w11 hm11
          obtain ⟨A11, c11, rfl, hc11, hx11, R11, O11, B1011, B11⟩ := thenMade B10.out hm11
          go_wp2_with fail
          refine (Same_any _ _ _ (sealed l) _ _ _ (sealed l) w11 ((OB10.out.below B1011.out).rd u8s_len rfl) R11.out (sealed_in hb.out) (sealed_in hb.out)).mono ?_
          rintro e w11' ⟨rfl, rfl⟩
          rw [decide_eq_true rfl]
          go_wp2
          go_ret
          exact ⟨rfl, B11.out⟩
end Go.Proofs.Ytkhnpmeaklcmaaa

/- The ranks of the links: the document's. (Printed by gen_ranks.py.) -/
import Derived.Test.YtkcnnamghpdplaaCl15
set_option linter.unusedSimpArgs false
set_option linter.unusedVariables false
namespace Go.Proofs.Ytkcnnamghpdplaa
open Go.RowKit

/-- a list of firsts that is right -/
structure Fst (n : Nat) (f : List Nat) (m : Nat) : Prop where
  fl : f.length = n + 1
  z : f.getD 0 0 = 0
  mono : ∀ r, r < n → f.getD r 0 ≤ f.getD (r + 1) 0
  e : f.getD n 0 = m
theorem Fst.of_none {n m : Nat} {f : List Nat} (hl : f.length = n + 1) (h : firstsB f n m = none) : Fst n f m := by
  unfold firstsB at h
  split at h
  · rename_i hz
    split at h
    · cases h
    · rename_i hn
      split at h
      · rename_i he
        refine ⟨hl, hz, fun r hr => ?_, he⟩
        have := List.find?_eq_none.1 hn r (List.mem_range.2 hr)
        unfold stepsB at this
        simp only [decide_eq_true_eq] at this
        omega
      · cases h
  · cases h
theorem Fst.le {n m : Nat} {f : List Nat} (h : Fst n f m) : ∀ {r : Nat}, r ≤ n → f.getD r 0 ≤ m := by
  intro r hr
  obtain ⟨k, hk⟩ : ∃ k, n = r + k := ⟨n - r, by omega⟩
  have : ∀ k, r + k ≤ n → f.getD r 0 ≤ f.getD (r + k) 0 := by
    intro k
    induction k with
    | zero => intro _; exact Nat.le_refl _
    | succ k ih => intro hk; exact Nat.le_trans (ih (by omega)) (h.mono (r + k) (by omega))
  have h2 := this k (by omega)
  rw [← hk, h.e] at h2
  exact h2
/-- the ranks at which the links stand, of the ranks below r -/
def rankTo (f : List Nat) (r : Nat) : List Int := (List.range r).flatMap fun x => List.replicate (f.getD (x + 1) 0 - f.getD x 0) (x : Int)
theorem rankTo_succ (f : List Nat) (r : Nat) : rankTo f (r + 1) = rankTo f r ++ List.replicate (f.getD (r + 1) 0 - f.getD r 0) (r : Int) := by
  unfold rankTo
  rw [List.range_succ, List.flatMap_append]
  simp
theorem rankTo_len {n m : Nat} {f : List Nat} (h : Fst n f m) : ∀ {r : Nat}, r ≤ n → (rankTo f r).length = f.getD r 0 := by
  intro r
  induction r with
  | zero => intro _; rw [h.z]; rfl
  | succ r ih =>
    intro hr
    rw [rankTo_succ, List.length_append, List.length_replicate, ih (by omega)]
    have := h.mono r (by omega)
    omega
def ranksT (h : HierT) : List Int := rankTo h.uf h.node.length ++ rankTo h.df h.node.length
def RanksIs (l : List Int) (W : World) (e : Ending) (w' : World) : Prop := ∃ A c, e = .returned (.slice A l.length c) ∧ Stp.OwnI w' W.heap.size (.slice A l.length c) l ∧ Below W.heap.size W w'
set_option maxRecDepth 100000 in
set_option maxHeartbeats 4000000 in
theorem Ranks_any (k : HV) (h : HierT) (W : World) (hp : RdH W k h) (hs : Small k h) (hu : Fst h.node.length h.uf h.up.length) (hd : Fst h.node.length h.df h.dn.length) (hn : h.node.length ≤ 65536) (hm : h.up.length + h.dn.length ≤ 1048576) :
    Calls Try.prog 41 #[hierV k h] W (RanksIs (ranksT h) W) := by
  have HF := Lib.hid hp.r1
  have HG := Lib.hid hp.r3
  have HU := Lib.hid hu
  have HD := Lib.hid hd
  have hfl := hu.fl
  have hgl := hd.fl
  have ht1 := hs.t1
  have ht3 := hs.t3
  unfold hierV ranksT
  clear hp hs hu hd
  generalize h.node.length = n at *
  generalize h.up.length = n2 at *
  generalize h.dn.length = n4 at *
  generalize h.uf = f at *
  generalize h.df = g at *
  rw [hfl] at HF ht1 ⊢
  rw [hgl] at HG ht3 ⊢
  clear hfl hgl
  go_enter Try.func41, Try.ntmps41
  go_wp2_with fail
  generalize hW1 : W.alloc (.cells #[.slice k.a0 n k.c0, .slice k.a1 (n + 1) k.c1, .slice k.a2 n2 k.c2, .slice k.a3 (n + 1) k.c3, .slice k.a4 n4 k.c4] 25) = W1
  have hb1 : Below W.heap.size W W1 := by rw [← hW1]; exact (Below.refl _ _).alloc (Nat.le_refl _) _
  have hc1 : Cells W1 W.heap.size #[.slice k.a0 n k.c0, .slice k.a1 (n + 1) k.c1, .slice k.a2 n2 k.c2, .slice k.a3 (n + 1) k.c3, .slice k.a4 n4 k.c4] 25 := by rw [← hW1]; exact cells_new _ _ _
  have HB1 := Lib.hid hb1
  have HBX := Lib.hid hc1
  have HF1 := Lib.hid (HF.out.below hb1)
  have HG1 := Lib.hid (HG.out.below hb1)
  clear hb1 hc1 hW1 HF HG
  go_loopw [3, 4] (fun sv iv wr => ∃ r : Nat, r ≤ n ∧ iv = .int .i64 r ∧ Stp.OwnI wr W1.heap.size sv (rankTo f r) ∧ Below W1.heap.size W1 wr) (fun _ iv _ => n - (intOf iv).toNat)
  case atStart => exact ⟨0, by omega, rfl, Own.nil _ _ _ _ _, Below.refl _ _⟩
  case round =>
    obtain ⟨r, hr, rfl, ho, hb⟩ := hrel
    have HO := Lib.hid ho
    have HB := Lib.hid hb
    clear ho hb
    have b1 : wr.cell? ⟨W.heap.size, 1, none⟩ = some (.slice k.a1 (n + 1) k.c1) := (HBX.out.below HB.out).cell 1
    have w1 : IntKind.i64.wrap ((r : Int) + 1) = (r : Int) + 1 := by rw [IntKind.wrap_i64]; omega
    by_cases hlt : r < n
    · have g0 : decide ((r : Int) + 1 < (n : Int) + 1) = true := decide_eq_true (by omega)
      have g0' : (r : Int) + 1 < (n : Int) + 1 := by omega
      obtain ⟨ad, hA, e0, e1⟩ := two_firsts (HF1.out.below HB.out) hlt
      rw [hA] at b1
      have hmono := HU.out.mono r hlt
      have hle := HU.out.le (r := r + 1) (by omega)
      have hlen := rankTo_len HU.out (r := r) (by omega)
      have hsu := rankTo_succ f r
      generalize hx0 : f.getD r 0 = x0 at *
      generalize hx1 : f.getD (r + 1) 0 = x1 at *
      have HLEN := Lib.hid hlen
      have HSU := Lib.hid hsu
      have HA := Lib.hid hA
      clear hlen hsu hA
      have i1 : (0 : Int) ≤ (r : Int) := by omega
      have i2 : (r : Int) < (n : Int) + 1 := by omega
      go_wp2_with fail
      have hs0 : W1.heap.size ≤ wr.heap.size := HB.out.size
      have HWR := Lib.hid HB.out
      clear b1 e0 e1
      go_loopw [3, 5] (fun sv iv wi => ∃ i : Nat, x0 ≤ i ∧ i ≤ x1 ∧ iv = .int .u32 i ∧ Stp.OwnI wi W1.heap.size sv ((rankTo f r) ++ List.replicate (i - x0) (r : Int)) ∧ Below W1.heap.size W1 wi) (fun _ iv _ => x1 - (intOf iv).toNat)
      case atStart => exact ⟨x0, Nat.le_refl _, hmono, rfl, by rw [Nat.sub_self]; simpa using HO.out, HB.out⟩
      case round =>
        clear HWR hs0
        clear HO HB
        obtain ⟨i, hi0, hi1, rfl, ho, hb⟩ := hrel
        have HO := Lib.hid ho
        have HB := Lib.hid hb
        clear ho hb
        have b1 : wr.cell? ⟨W.heap.size, 1, none⟩ = some (.slice k.a1 (n + 1) k.c1) := (HBX.out.below HB.out).cell 1
        obtain ⟨ad', hA', e0, e1⟩ := two_firsts (HF1.out.below HB.out) hlt
        rw [hA'] at b1
        clear hA'
        rw [hx1] at e1
        have e1' : wr.cell? ⟨ad'.block, ad'.off + (r + 1), none⟩ = some (.int .u32 (x1 : Nat)) := e1
        have w3' : ((r : Int) + 1).toNat = r + 1 := by omega
        have j1 : (0 : Int) ≤ (r : Int) + 1 := by omega
        by_cases hlt2 : i < x1
        · have g1 : decide ((i : Int) < (x1 : Int)) = true := decide_eq_true (by omega)
          have w2 : IntKind.u32.wrap ((i : Int) + 1) = (i : Int) + 1 := by rw [IntKind.wrap_u32]; omega
          have hrep : (rankTo f r) ++ List.replicate (i + 1 - x0) (r : Int) = ((rankTo f r) ++ List.replicate (i - x0) (r : Int)) ++ [(r : Int)] := by rw [show i + 1 - x0 = (i - x0) + 1 by omega, List.replicate_succ']; simp only [List.append_assoc]
          have HREP := Lib.hid hrep
          have hln : ((rankTo f r) ++ List.replicate (i - x0) (r : Int)).length ≤ 1048576 := by have := HLEN.out; simp only [List.length_append, List.length_replicate]; omega
          generalize hLL : (rankTo f r) ++ List.replicate (i - x0) (r : Int) = LL at *
          have hs5 : W1.heap.size ≤ wr.heap.size := HB.out.size
          clear hrep hLL
          go_wp2_with (at_builtin; go_loud (refine wpList_append_rd rfl (.tmp 31) (.tmp 33) 75 rfl 3 (.int .i64 0) 8 Try.underlying75 Stp.info_int rfl (by omega) (by omega) Stp.i64s_len Stp.i64s_one W1.heap.size _ LL rfl (HO.out.below ((Below.refl _ _).alloc (Nat.le_refl _) _)) _ 1 1 [(r : Int)] rfl (Stp.rd_one (by rfl)) (by omega) (by simp; omega) ?_; intro v6 w6 ho6 hg6 hat6; have HO6 := Lib.hid ho6; have HB6 : Hid (Below W1.heap.size W1 w6) := Lib.hid (below_own (HB.out.alloc HB.out.size _) (HO.out.below ((Below.refl _ _).alloc (Nat.le_refl _) _)) hg6 (Nat.le_refl _) (by simp; omega)); clear ho6 hg6 hat6))
          go_roundw
          case rel => exact ⟨i + 1, by omega, by omega, by go_num, by rw [HREP.out]; exact HO6.out, HB6.out⟩
          case measure => simp [intOf]; omega
        · obtain rfl : x1 = i := by omega
          have g1 : decide ((x1 : Int) < (x1 : Int)) = false := decide_eq_false (by omega)
          go_wp2_with fail
          go_roundw
          case rel => exact ⟨r + 1, by omega, by go_num, by rw [HSU.out]; simpa only [List.append_assoc] using HO.out, HB.out⟩
          case measure => simp [intOf]; omega
    · obtain rfl : n = r := by omega
      have g0 : decide ((n : Int) + 1 < (n : Int) + 1) = false := decide_eq_false (by omega)
      go_wp2_with fail
      have HLF : Hid ((rankTo f n).length = n2) := Lib.hid ((rankTo_len HU.out (Nat.le_refl _)).trans HU.out.e)
      have HO0 := HO
      have HB0 := HB
      clear HO HB b1
      go_loopw [3, 6] (fun sv iv wr => ∃ r : Nat, r ≤ n ∧ iv = .int .i64 r ∧ Stp.OwnI wr W1.heap.size sv (rankTo f n ++ rankTo g r) ∧ Below W1.heap.size W1 wr) (fun _ iv _ => n - (intOf iv).toNat)
      case atStart => exact ⟨0, by omega, rfl, by simpa [rankTo] using HO0.out, HB0.out⟩
      case round =>
        obtain ⟨r, hr, rfl, ho, hb⟩ := hrel
        have HO := Lib.hid ho
        have HB := Lib.hid hb
        clear ho hb
        have b1 : wr.cell? ⟨W.heap.size, 3, none⟩ = some (.slice k.a3 (n + 1) k.c3) := (HBX.out.below HB.out).cell 3
        have w1 : IntKind.i64.wrap ((r : Int) + 1) = (r : Int) + 1 := by rw [IntKind.wrap_i64]; omega
        by_cases hlt : r < n
        · have g0 : decide ((r : Int) + 1 < (n : Int) + 1) = true := decide_eq_true (by omega)
          have g0' : (r : Int) + 1 < (n : Int) + 1 := by omega
          obtain ⟨ad, hA, e0, e1⟩ := two_firsts (HG1.out.below HB.out) hlt
          rw [hA] at b1
          have hmono := HD.out.mono r hlt
          have hle := HD.out.le (r := r + 1) (by omega)
          have hlen := rankTo_len HD.out (r := r) (by omega)
          have hsu := rankTo_succ g r
          generalize hx0 : g.getD r 0 = x0 at *
          generalize hx1 : g.getD (r + 1) 0 = x1 at *
          have HLEN := Lib.hid hlen
          have HSU := Lib.hid hsu
          have HA := Lib.hid hA
          clear hlen hsu hA
          have i1 : (0 : Int) ≤ (r : Int) := by omega
          have i2 : (r : Int) < (n : Int) + 1 := by omega
          go_wp2_with fail
          have hs0 : W1.heap.size ≤ wr.heap.size := HB.out.size
          have HWR := Lib.hid HB.out
          clear b1 e0 e1
          go_loopw [3, 7] (fun sv iv wi => ∃ i : Nat, x0 ≤ i ∧ i ≤ x1 ∧ iv = .int .u32 i ∧ Stp.OwnI wi W1.heap.size sv ((rankTo f n ++ rankTo g r) ++ List.replicate (i - x0) (r : Int)) ∧ Below W1.heap.size W1 wi) (fun _ iv _ => x1 - (intOf iv).toNat)
          case atStart => exact ⟨x0, Nat.le_refl _, hmono, rfl, by rw [Nat.sub_self]; simpa using HO.out, HB.out⟩
          case round =>
            clear HWR hs0
            clear HO HB
            obtain ⟨i, hi0, hi1, rfl, ho, hb⟩ := hrel
            have HO := Lib.hid ho
            have HB := Lib.hid hb
            clear ho hb
            have b1 : wr.cell? ⟨W.heap.size, 3, none⟩ = some (.slice k.a3 (n + 1) k.c3) := (HBX.out.below HB.out).cell 3
            obtain ⟨ad', hA', e0, e1⟩ := two_firsts (HG1.out.below HB.out) hlt
            rw [hA'] at b1
            clear hA'
            rw [hx1] at e1
            have e1' : wr.cell? ⟨ad'.block, ad'.off + (r + 1), none⟩ = some (.int .u32 (x1 : Nat)) := e1
            have w3' : ((r : Int) + 1).toNat = r + 1 := by omega
            have j1 : (0 : Int) ≤ (r : Int) + 1 := by omega
            by_cases hlt2 : i < x1
            · have g1 : decide ((i : Int) < (x1 : Int)) = true := decide_eq_true (by omega)
              have w2 : IntKind.u32.wrap ((i : Int) + 1) = (i : Int) + 1 := by rw [IntKind.wrap_u32]; omega
              have hrep : (rankTo f n ++ rankTo g r) ++ List.replicate (i + 1 - x0) (r : Int) = ((rankTo f n ++ rankTo g r) ++ List.replicate (i - x0) (r : Int)) ++ [(r : Int)] := by rw [show i + 1 - x0 = (i - x0) + 1 by omega, List.replicate_succ']; simp only [List.append_assoc]
              have HREP := Lib.hid hrep
              have hln : ((rankTo f n ++ rankTo g r) ++ List.replicate (i - x0) (r : Int)).length ≤ 1048576 := by have := HLEN.out; simp only [List.length_append, List.length_replicate, HLF.out]; omega
              generalize hLL : (rankTo f n ++ rankTo g r) ++ List.replicate (i - x0) (r : Int) = LL at *
              have hs5 : W1.heap.size ≤ wr.heap.size := HB.out.size
              clear hrep hLL
              go_wp2_with (at_builtin; go_loud (refine wpList_append_rd rfl (.tmp 58) (.tmp 60) 75 rfl 3 (.int .i64 0) 8 Try.underlying75 Stp.info_int rfl (by omega) (by omega) Stp.i64s_len Stp.i64s_one W1.heap.size _ LL rfl (HO.out.below ((Below.refl _ _).alloc (Nat.le_refl _) _)) _ 1 1 [(r : Int)] rfl (Stp.rd_one (by rfl)) (by omega) (by simp; omega) ?_; intro v6 w6 ho6 hg6 hat6; have HO6 := Lib.hid ho6; have HB6 : Hid (Below W1.heap.size W1 w6) := Lib.hid (below_own (HB.out.alloc HB.out.size _) (HO.out.below ((Below.refl _ _).alloc (Nat.le_refl _) _)) hg6 (Nat.le_refl _) (by simp; omega)); clear ho6 hg6 hat6))
              go_roundw
              case rel => exact ⟨i + 1, by omega, by omega, by go_num, by rw [HREP.out]; exact HO6.out, HB6.out⟩
              case measure => simp [intOf]; omega
            · obtain rfl : x1 = i := by omega
              have g1 : decide ((x1 : Int) < (x1 : Int)) = false := decide_eq_false (by omega)
              go_wp2_with fail
              go_roundw
              case rel => exact ⟨r + 1, by omega, by go_num, by rw [HSU.out]; simpa only [List.append_assoc] using HO.out, HB.out⟩
              case measure => simp [intOf]; omega
        · obtain rfl : n = r := by omega
          have g0 : decide ((n : Int) + 1 < (n : Int) + 1) = false := decide_eq_false (by omega)
          obtain ⟨A2, c2, rfl, _, _⟩ := HO.out.form
          have HEND : Hid (RanksIs (rankTo f n ++ rankTo g n) W (.returned (.slice A2 (rankTo f n ++ rankTo g n).length c2)) wr) := Lib.hid ⟨A2, c2, rfl, HO.out.mono HB1.out.size, HB1.out.trans (HB.out.mono HB1.out.size)⟩
          go_wp2_with fail
          go_ret
          exact HEND.out
end Go.Proofs.Ytkcnnamghpdplaa

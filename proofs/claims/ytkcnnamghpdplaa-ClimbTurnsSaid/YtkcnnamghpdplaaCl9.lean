/- The program's list as the document's; two such lists that read alike are told alike. -/
import Derived.Test.YtkcnnamghpdplaaCl8
set_option linter.unusedSimpArgs false
set_option linter.unusedVariables false
namespace Go.Proofs.Ytkcnnamghpdplaa
open Go.RowKit

theorem three_cells {w : World} {ad : Addr} {j : Nat} {x : SeenT} (h : ∀ i u, (encSn x)[i]? = some u → w.cell? (ad.add (j * 3 + i)) = some u) :
    w.cell? (ad.add (j * 3)) = some (.int .i64 (x.rank : Int)) ∧ w.cell? ⟨(ad.add (j * 3)).block, (ad.add (j * 3)).off + 1, none⟩ = some (.int .u64 x.dist) ∧ w.cell? ⟨(ad.add (j * 3)).block, (ad.add (j * 3)).off + 2, none⟩ = some (.bool x.st) := by
  have h0 := h 0 _ rfl
  have h1 := h 1 _ rfl
  have h2 := h 2 _ rfl
  rw [← add_of_add] at h1 h2
  rw [Nat.add_zero] at h0
  exact ⟨h0, h1, h2⟩
abbrev RdSn (w : World) (A : Option Addr) (n : Nat) (l : List SeenT) : Prop := Rd 3 encSn w A n l
def MadeSr (l : List SeenT) (W : World) (e : Ending) (w' : World) : Prop := ∃ A c, e = .returned (.slice A l.length c) ∧ OwnSr w' W.heap.size (.slice A l.length c) l ∧ Below W.heap.size W w'
set_option maxRecDepth 100000 in
theorem Of_any (A : Option Addr) (n cap : Nat) (l : List SeenT) (W : World) (hp : RdSn W A n l) (hn : n * 24 ≤ 140737488351232) :
    Calls Try.prog 14 #[.slice A n cap] W (MadeSr l W) := by
  have HP := Lib.hid hp
  clear hp
  go_enter Try.func14, Try.ntmps14
  go_wp2_with fail
  go_loopw [3, 8] (fun sv iv wr => ∃ j : Nat, j ≤ n ∧ iv = .int .i64 j ∧ OwnSr wr W.heap.size sv (l.take j) ∧ Below W.heap.size W wr) (fun _ iv _ => n - (intOf iv).toNat)
  case atStart => exact ⟨0, by omega, rfl, Own.nil _ _ _ _ _, Below.refl _ _⟩
  case round =>
    obtain ⟨j, hj, rfl, ho, hb⟩ := hrel
    have HB := Lib.hid hb
    have HO := Lib.hid ho
    clear ho hb
    by_cases hlt : j < n
    · have g0 : decide ((j : Int) < (n : Int)) = true := decide_eq_true (by omega)
      obtain ⟨ad, hA, cc⟩ := (HP.out.below HB.out).at_ hlt
      subst hA
      have hjq : j < l.length := by have := HP.out.1; omega
      obtain ⟨c0, c1, c2⟩ := three_cells cc
      clear cc
      have htk := List.take_succ_eq_append_getElem hjq
      generalize l[j] = x at *
      obtain ⟨x0, x1, x2⟩ := x
      dsimp only at c0 c1 c2
      have HTK := Lib.hid htk
      have HJQ := Lib.hid hjq
      clear htk hjq
      have hs := HB.out.size
      go_wp2_with (at_builtin; go_loud (refine wpList_append_rd rfl (.tmp 12) (.tmp 20) 39 rfl 51 (.agg #[.int .i64 0, .int .u64 0, .bool false]) 24 Try.underlying39 info_seenr rfl (by omega) (by omega) encSn_len encSn_one W.heap.size _ (l.take j) rfl (HO.out.below (((Below.refl _ _).alloc (Nat.le_refl _) _).alloc (by simp) _)) _ 1 1 [(⟨x0, x1, x2⟩ : SeenT)] rfl (rd_Sr (by simp)) (by rw [List.length_take]; omega) (by simp; omega) ?_; intro v2 w2 ho2 hg2 hat2; have HO2 := Lib.hid ho2; have HB2 : Hid (Below W.heap.size W w2) := Lib.hid (below_own ((HB.out.alloc HB.out.size _).alloc (by simp; omega) _) (HO.out.below (((Below.refl _ _).alloc (Nat.le_refl _) _).alloc (by simp) _)) hg2 (Nat.le_refl _) (by simp; omega)); clear ho2 hg2 hat2))
      go_roundw
      case rel => exact ⟨j + 1, by omega, by go_num, by rw [HTK.out]; exact HO2.out, HB2.out⟩
      case measure => simp [intOf]; omega
    · obtain rfl : j = n := by omega
      have htk : l.take j = l := List.take_of_length_le (by have := HP.out.1; omega)
      rw [htk] at HO
      obtain ⟨A2, c2, rfl, _, _⟩ := HO.out.form
      clear htk
      go_wp2_with fail
      go_ret
      exact ⟨A2, c2, rfl, HO.out, HB.out⟩
theorem SameSn_eq (A B : Option Addr) (n c d : Nat) (l : List SeenT) (W : World) (hp : RdSn W A n l) (hq : RdSn W B n l) (hn : n ≤ 9223372036854775807) :
    Calls Try.prog 13 #[.slice A n c, .slice B n d] W (BoolBelow true W) := by
  have HP := Lib.hid hp
  have HQ := Lib.hid hq
  clear hp hq
  go_enter Try.func13, Try.ntmps13
  go_wp2_with fail
  go_loopw [13] (fun iv wr => ∃ j : Nat, j ≤ n ∧ iv = .int .i64 j ∧ Below W.heap.size W wr) (fun iv _ => n - (intOf iv).toNat)
  case atStart => exact ⟨0, by omega, rfl, Below.refl _ _⟩
  case round =>
    obtain ⟨j, hj, rfl, hb⟩ := hrel
    have HB := Lib.hid hb
    clear hb
    by_cases hlt : j < n
    · have g0 : decide ((j : Int) < (n : Int)) = true := decide_eq_true (by omega)
      obtain ⟨ad, hA, cc⟩ := (HP.out.below HB.out).at_ hlt
      subst hA
      obtain ⟨be, hB, dd⟩ := (HQ.out.below HB.out).at_ hlt
      subst hB
      have hjp : j < l.length := by have := HP.out.1; omega
      obtain ⟨c0, c1, c2⟩ := three_cells cc
      obtain ⟨d0, d1, d2⟩ := three_cells dd
      clear cc dd
      generalize l[j] = x at *
      obtain ⟨x0, x1, x2⟩ := x
      dsimp only at c0 c1 c2 d0 d1 d2
      clear hjp
      go_wp2_with (go_quiet (fail))
      go_roundw
      case rel => exact ⟨j + 1, by omega, by go_num, HB.out.trans ⟨rfl, rfl, rfl, Nat.le_refl _, fun _ _ => rfl⟩⟩
      case measure => simp [intOf]; omega
    · obtain rfl : j = n := by omega
      go_wp2_with fail
      go_ret
      exact ⟨rfl, HB.out⟩
end Go.Proofs.Ytkcnnamghpdplaa

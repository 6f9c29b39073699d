/- Hierarchies in memory; copies of their lists. -/
import Derived.Test.YtkcnnamghpdplaaDoorClM
import Derived.Test.YtkcnnamghpdplaaDoorCells
set_option linter.unusedSimpArgs false
set_option linter.unusedVariables false
namespace Go.Proofs.YtkcnnamghpdplaaDoor
open Go.RowKit

abbrev enc32 (x : Nat) : List Value := [.int .u32 (x : Int)]
abbrev encK (l : Lk) : List Value := [.int .u32 (l.to : Int), .int .u64 l.w, .int .u32 (l.l : Int), .int .u32 (l.r : Int)]
theorem enc32_len : ∀ x, (enc32 x).length = 1 := fun _ => rfl
theorem enc32_one : ∀ x, ∀ u ∈ enc32 x, u.oneCell' = true := fun x u h => by
  simp at h
  subst h
  rfl
theorem encK_len : ∀ x, (encK x).length = 4 := fun _ => rfl
theorem encK_one : ∀ x, ∀ u ∈ encK x, u.oneCell' = true := fun x u h => by
  simp at h
  rcases h with rfl | rfl | rfl | rfl <;> rfl
theorem info_u32 : (Tryd.prog.info? 50).map (fun i => (i.zero, i.size, i.bytes)) = some (some (.int .u32 0), 1, 4) := by kernel_rfl
theorem info_link : (Tryd.prog.info? 52).map (fun i => (i.zero, i.size, i.bytes)) = some (some (.agg #[.int .u32 0, .int .u64 0, .int .u32 0, .int .u32 0]), 4, 24) := by kernel_rfl
abbrev Own32 (w : World) (base : Nat) (v : Value) (l : List Nat) : Prop := Own 50 1 enc32 w base v l
abbrev OwnK (w : World) (base : Nat) (v : Value) (l : List Lk) : Prop := Own 52 4 encK w base v l
abbrev Rd32 (w : World) (A : Option Addr) (n : Nat) (l : List Nat) : Prop := Rd 1 enc32 w A n l
abbrev RdK (w : World) (A : Option Addr) (n : Nat) (l : List Lk) : Prop := Rd 4 encK w A n l
abbrev linkV (l : Lk) : Value := .agg #[.int .u32 (l.to : Int), .int .u64 l.w, .int .u32 (l.l : Int), .int .u32 (l.r : Int)]
theorem rd_32 {w : World} {k : Nat} {x : Nat} (hk : w.heap.size = k) : Rd32 (w.alloc (.cells #[.int .u32 (x : Int)] 50)) (some ⟨k, 0, none⟩) 1 [x] := by
  subst hk
  exact rd_new (enc := enc32) enc32_len w _ [x]
theorem rd_K {w : World} {k : Nat} {x : Lk} (hk : w.heap.size = k) : RdK (w.alloc (.cells #[.int .u32 (x.to : Int), .int .u64 x.w, .int .u32 (x.l : Int), .int .u32 (x.r : Int)] 52)) (some ⟨k, 0, none⟩) 1 [x] := by
  subst hk
  exact rd_new (enc := encK) encK_len w _ [x]
/-- the cells of an element of four -/
theorem four_cells {w : World} {ad : Addr} {j : Nat} {x : Lk} (h : ∀ i u, (encK x)[i]? = some u → w.cell? (ad.add (j * 4 + i)) = some u) :
    w.cell? (ad.add (j * 4)) = some (.int .u32 (x.to : Int)) ∧ w.cell? ⟨(ad.add (j * 4)).block, (ad.add (j * 4)).off + 1, none⟩ = some (.int .u64 x.w) ∧ w.cell? ⟨(ad.add (j * 4)).block, (ad.add (j * 4)).off + 2, none⟩ = some (.int .u32 (x.l : Int)) ∧ w.cell? ⟨(ad.add (j * 4)).block, (ad.add (j * 4)).off + 3, none⟩ = some (.int .u32 (x.r : Int)) := by
  have h0 := h 0 _ rfl
  have h1 := h 1 _ rfl
  have h2 := h 2 _ rfl
  have h3 := h 3 _ rfl
  rw [← add_of_add] at h1 h2 h3
  rw [Nat.add_zero] at h0
  exact ⟨h0, h1, h2, h3⟩
def Made32 (l : List Nat) (W : World) (e : Ending) (w' : World) : Prop := ∃ A c, e = .returned (.slice A l.length c) ∧ Own32 w' W.heap.size (.slice A l.length c) l ∧ Below W.heap.size W w'
def MadeK (l : List Lk) (W : World) (e : Ending) (w' : World) : Prop := ∃ A c, e = .returned (.slice A l.length c) ∧ OwnK w' W.heap.size (.slice A l.length c) l ∧ Below W.heap.size W w'
set_option maxRecDepth 100000 in
theorem Words_any (A : Option Addr) (n cap : Nat) (l : List Nat) (W : World) (hp : Rd32 W A n l) (hn : n * 4 ≤ 140737488351232) :
    Calls Tryd.prog 30 #[.slice A n cap] W (Made32 l W) := by
  have HP := Lib.hid hp
  clear hp
  go_enter Tryd.func30, Tryd.ntmps30
  go_wp2_with fail
  go_loopw [3, 8] (fun sv iv wr => ∃ j : Nat, j ≤ n ∧ iv = .int .i64 j ∧ Own32 wr W.heap.size sv (l.take j) ∧ Below W.heap.size W wr) (fun _ iv _ => n - (intOf iv).toNat)
  case atStart => exact ⟨0, by omega, rfl, Own.nil _ _ _ _ _, Below.refl _ _⟩
  case round =>
    obtain ⟨j, hj, rfl, ho, hb⟩ := hrel
    have HB := Lib.hid hb
    have HO := Lib.hid ho
    clear ho hb
    by_cases hlt : j < n
    · have g0 : decide ((j : Int) < (n : Int)) = true := decide_eq_true (by omega)
      obtain ⟨ad, hA, cc⟩ := (HP.out.below HB.out).at_ hlt
      subst hA
      have hjq : j < l.length := by have := HP.out.1; omega
      have c0 := cc 0 _ rfl
      rw [Nat.mul_one, Nat.add_zero] at c0
      clear cc
      have htk := List.take_succ_eq_append_getElem hjq
      generalize l[j] = x at *
      have HTK := Lib.hid htk
      have HJQ := Lib.hid hjq
      clear htk hjq
      have hs := HB.out.size
      go_wp2_with (at_builtin; go_loud (refine wpList_append_rd rfl (.tmp 12) (.tmp 14) 22 rfl 50 (.int .u32 0) 4 Tryd.underlying22 info_u32 rfl (by omega) (by omega) enc32_len enc32_one W.heap.size _ (l.take j) rfl (HO.out.below ((Below.refl _ _).alloc (Nat.le_refl _) _)) _ 1 1 [x] rfl (rd_32 rfl) (by rw [List.length_take]; omega) (by simp; omega) ?_; intro v2 w2 ho2 hg2 hat2; have HO2 := Lib.hid ho2; have HB2 : Hid (Below W.heap.size W w2) := Lib.hid (below_own (HB.out.alloc HB.out.size _) (HO.out.below ((Below.refl _ _).alloc (Nat.le_refl _) _)) hg2 (Nat.le_refl _) (by simp; omega)); clear ho2 hg2 hat2))
      go_roundw
      case rel => exact ⟨j + 1, by omega, by go_num, by rw [HTK.out]; exact HO2.out, HB2.out⟩
      case measure => simp [intOf]; omega
    · obtain rfl : j = n := by omega
      have htk : l.take j = l := List.take_of_length_le (by have := HP.out.1; omega)
      rw [htk] at HO
      obtain ⟨A2, c2, rfl, _, _⟩ := HO.out.form
      clear htk
      go_wp2_with fail
      go_ret
      exact ⟨A2, c2, rfl, HO.out, HB.out⟩
set_option maxRecDepth 100000 in
theorem Links_any (A : Option Addr) (n cap : Nat) (l : List Lk) (W : World) (hp : RdK W A n l) (hn : n * 24 ≤ 140737488351232) :
    Calls Tryd.prog 31 #[.slice A n cap] W (MadeK l W) := by
  have HP := Lib.hid hp
  clear hp
  go_enter Tryd.func31, Tryd.ntmps31
  go_wp2_with fail
  go_loopw [3, 8] (fun sv iv wr => ∃ j : Nat, j ≤ n ∧ iv = .int .i64 j ∧ OwnK wr W.heap.size sv (l.take j) ∧ Below W.heap.size W wr) (fun _ iv _ => n - (intOf iv).toNat)
  case atStart => exact ⟨0, by omega, rfl, Own.nil _ _ _ _ _, Below.refl _ _⟩
  case round =>
    obtain ⟨j, hj, rfl, ho, hb⟩ := hrel
    have HB := Lib.hid hb
    have HO := Lib.hid ho
    clear ho hb
    by_cases hlt : j < n
    · have g0 : decide ((j : Int) < (n : Int)) = true := decide_eq_true (by omega)
      obtain ⟨ad, hA, cc⟩ := (HP.out.below HB.out).at_ hlt
      subst hA
      have hjq : j < l.length := by have := HP.out.1; omega
      obtain ⟨c0, c1, c2, c3⟩ := four_cells cc
      clear cc
      have htk := List.take_succ_eq_append_getElem hjq
      generalize l[j] = x at *
      obtain ⟨x0, x1, x2, x3⟩ := x
      dsimp only at c0 c1 c2 c3
      have HTK := Lib.hid htk
      have HJQ := Lib.hid hjq
      clear htk hjq
      have hs := HB.out.size
      go_wp2_with (at_builtin; go_loud (refine wpList_append_rd rfl (.tmp 12) (.tmp 14) 23 rfl 52 (.agg #[.int .u32 0, .int .u64 0, .int .u32 0, .int .u32 0]) 24 Tryd.underlying23 info_link rfl (by omega) (by omega) encK_len encK_one W.heap.size _ (l.take j) rfl (HO.out.below (((Below.refl _ _).alloc (Nat.le_refl _) _).alloc (by simp) _)) _ 1 1 [(⟨x0, x1, x2, x3⟩ : Lk)] rfl (rd_K (by simp)) (by rw [List.length_take]; omega) (by simp; omega) ?_; intro v2 w2 ho2 hg2 hat2; have HO2 := Lib.hid ho2; have HB2 : Hid (Below W.heap.size W w2) := Lib.hid (below_own ((HB.out.alloc HB.out.size _).alloc (by simp; omega) _) (HO.out.below (((Below.refl _ _).alloc (Nat.le_refl _) _).alloc (by simp) _)) hg2 (Nat.le_refl _) (by simp; omega)); clear ho2 hg2 hat2))
      go_roundw
      case rel => exact ⟨j + 1, by omega, by go_num, by rw [HTK.out]; exact HO2.out, HB2.out⟩
      case measure => simp [intOf]; omega
    · obtain rfl : j = n := by omega
      have htk : l.take j = l := List.take_of_length_le (by have := HP.out.1; omega)
      rw [htk] at HO
      obtain ⟨A2, c2, rfl, _, _⟩ := HO.out.form
      clear htk
      go_wp2_with fail
      go_ret
      exact ⟨A2, c2, rfl, HO.out, HB.out⟩
end Go.Proofs.YtkcnnamghpdplaaDoor

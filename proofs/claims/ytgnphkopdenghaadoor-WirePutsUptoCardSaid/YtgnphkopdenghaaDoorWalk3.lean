/- Lists of words: compared, doubled, written behind bytes. -/
import Derived.Test.YtgnphkopdenghaaDoorWalk2
set_option linter.unusedSimpArgs false
set_option linter.unusedVariables false
namespace Go.Proofs.YtgnphkopdenghaaDoor
open Go.RowKit

abbrev u32s (x : Int) : List Value := [.int .u32 x]
theorem u32s_len (x : Int) : (u32s x).length = 1 := rfl
theorem u32s_one (x : Int) : ∀ u ∈ u32s x, u.oneCell' = true := fun u h => by simp at h; subst h; rfl
abbrev OwnW (w : World) (base : Nat) (v : Value) (l : List Int) : Prop := Own 57 1 u32s w base v l
abbrev RdW (w : World) (A : Option Addr) (n : Nat) (l : List Int) : Prop := Rd 1 u32s w A n l
theorem info_u32 : (Tryd.prog.info? 57).map (fun i => (i.zero, i.size, i.bytes)) = some (some (.int .u32 0), 1, 4) := by kernel_rfl
def MadeW (w : World) (l : List Int) (e : Ending) (w' : World) : Prop := ∃ v, e = .returned v ∧ OwnW w' w.heap.size v l ∧ Below w.heap.size w w'
def InW (l : List Int) : Prop := ∀ b ∈ l, 0 ≤ b ∧ b ≤ 4294967295

/-- a word's bytes -/
def wordB (v : Int) : List Int := [v % 256, v / 256 % 256, v / 65536 % 256, v / 16777216]
theorem wordB_in {v : Int} (h : 0 ≤ v ∧ v ≤ 4294967295) : InB (wordB v) := by
  intro b hb
  simp only [wordB, List.mem_cons, List.not_mem_nil, or_false] at hb
  rcases hb with rfl | rfl | rfl | rfl <;> omega
def wordsB (l : List Int) : List Int := l.flatMap wordB
theorem wordsB_len (l : List Int) : (wordsB l).length = 4 * l.length := by
  induction l with
  | nil => rfl
  | cons x l ih => simp only [wordsB, List.flatMap_cons, List.length_append, List.length_cons] at *; rw [ih]; simp [wordB]; omega
theorem wordsB_in {l : List Int} (h : InW l) : InB (wordsB l) := by
  intro b hb
  obtain ⟨x, hx, hb⟩ := List.mem_flatMap.1 hb
  exact wordB_in (h x hx) b hb
theorem wordsB_succ (l : List Int) {j : Nat} (hj : j < l.length) : wordsB (l.take (j + 1)) = wordsB (l.take j) ++ wordB l[j] := by
  unfold wordsB
  rw [List.take_succ_eq_append_getElem hj]
  simp only [List.flatMap_append, List.flatMap_cons, List.flatMap_nil, List.append_nil]
/-- A list of words, doubled. -/
theorem Words10_any (A : Option Addr) (n cap : Nat) (l : List Int) (w : World) (hr : RdW w A n l) (hn : n * 4 ≤ 140737488355328) :
    Calls Tryd.prog 11 #[.slice A n cap] w (MadeW w l) := by
  have H := Lib.hid hr
  have HL := Lib.hid hr.1
  clear hr
  go_enter Tryd.func11, Tryd.ntmps11
  go_wp2_with fail
  go_loopw [3, 8] (fun v i wr => ∃ j : Nat, j ≤ n ∧ i = .int .i64 j ∧ OwnW wr w.heap.size v (l.take j) ∧ Below w.heap.size w wr) (fun _ i _ => n - (intOf i).toNat)
  case atStart => exact ⟨0, by omega, rfl, Own.nil _ _ _ _ _, Below.refl _ _⟩
  case round =>
    obtain ⟨j, hj, rfl, ho, hb⟩ := hrel
    have HO := Lib.hid ho
    have HB := Lib.hid hb
    clear ho hb
    by_cases hlt : j < n
    · obtain ⟨ad, rfl, c0⟩ := (H.out.below HB.out).at1 (f := Value.int .u32) hlt
      have hjl : j < l.length := by rw [HL.out]; exact hlt
      have HS := Lib.hid (List.take_succ_eq_append_getElem hjl)
      generalize l[j] = x at *
      go_wp2_with (at_builtin; go_loud (refine wpList_append_rd rfl (.tmp 12) (.tmp 14) 24 rfl 57 (.int .u32 0) 4 Tryd.underlying24 info_u32 rfl (by omega) (by omega) u32s_len u32s_one w.heap.size u3 (l.take j) rfl (HO.out.below ((Below.refl _ _).alloc (Nat.le_refl _) _)) _ 1 1 [x] rfl (rd_new u32s_len wr 57 [x]) (by rw [List.length_take]; omega) (by have := HB.out.size; simp at this ⊢; omega) ?_; intro v2 w2 ho2 hg2 hat2; have HO2 := Lib.hid ho2; have HB2 : Hid (Below w.heap.size w w2) := Lib.hid (below_own (HB.out.alloc HB.out.size _) (HO.out.below ((Below.refl _ _).alloc (Nat.le_refl _) _)) hg2 (Nat.le_refl _) (by have := HB.out.size; simp at this ⊢; omega)); clear ho2 hg2 hat2))
      go_roundw
      case rel => exact ⟨j + 1, by omega, by go_num, by rw [HS.out]; exact HO2.out, HB2.out⟩
      case measure => simp [intOf]; omega
    · obtain rfl : j = n := by omega
      go_wp2
      go_ret
      exact ⟨_, rfl, by have h := HO.out; rwa [List.take_of_length_le (by have := HL.out; omega)] at h, HB.out⟩
end Go.Proofs.YtgnphkopdenghaaDoor

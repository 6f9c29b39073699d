/- GtextFixed. -/
import Derived.Test.YtngihiebkbheaaaGreatDoorGt28
set_option linter.unusedSimpArgs false
set_option linter.unusedVariables false
namespace Go.Proofs.YtngihiebkbheaaaGreatDoor
open Go.RowKit Txt

def fxT : List ByteArray := [⟨#[]⟩, ⟨#[103, 114, 97, 112, 104, 32, 49, 32, 48]⟩, ⟨#[103, 114, 97, 112, 104, 32, 49, 32, 48, 10, 101, 110, 100, 10, 101, 110, 100]⟩, ⟨#[103, 114, 97, 102]⟩, ⟨#[103, 114, 97, 112, 104, 32, 49]⟩, ⟨#[103, 114, 97, 112, 104, 32, 49, 32, 48, 32, 48]⟩, ⟨#[103, 114, 97, 112, 104, 32, 54, 53, 53, 51, 55, 32, 120, 10, 101, 110, 100]⟩, ⟨#[103, 114, 97, 112, 104, 32, 120, 32, 57, 57, 57, 57, 57, 57]⟩, ⟨#[103, 114, 97, 112, 104, 32, 50, 32, 49, 10, 97, 114, 99, 32, 48, 32, 50, 32, 120, 10, 101, 110, 100]⟩, ⟨#[103, 114, 97, 112, 104, 32, 50, 32, 49, 10, 101, 110, 100]⟩, ⟨#[103, 114, 97, 112, 104, 32, 50, 32, 49, 10, 97, 114, 99, 32, 48, 32, 49, 32, 50, 49, 52, 55, 52, 56, 51, 54, 52, 56, 10, 101, 110, 100]⟩, ⟨#[103, 114, 97, 112, 104, 32, 50, 32, 50, 54, 50, 49, 52, 53]⟩, ⟨#[103, 114, 97, 112, 104, 32, 50, 32, 49, 10, 97, 114, 99, 32, 48, 32, 49, 10, 101, 110, 100]⟩, ⟨#[103, 114, 97, 112, 104, 32, 50, 32, 49, 10, 97, 114, 99, 32, 48, 32, 49, 32, 53, 10, 101, 110, 100, 32, 48]⟩, ⟨#[103, 114, 97, 112, 104, 32, 48, 32, 49, 10, 97, 114, 99, 32, 48, 32, 48, 32, 48]⟩, ⟨#[103, 114, 97, 112, 104, 32, 48, 32, 49, 10, 97, 114, 99, 32, 120, 32, 48, 32, 48]⟩, ⟨#[35, 10, 101, 110, 100]⟩, ⟨#[103, 114, 97, 112, 104, 32, 49, 32, 49, 10, 97, 114, 99, 32, 48, 32, 48, 32, 48]⟩]
def fxL : List Int := [0, 1, 3, 1, 1, 1, 1, 1, 2, 2, 2, 1, 2, 3, 2, 2, 2, 2]
def fxC : List Int := [5, 5, 6, 3, 5, 6, 9, 4, 7, 3, 8, 9, 5, 6, 7, 4, 3, 5]
def fxOk : Bool := (fxT.zip (fxL.zip fxC)).all fun x => match parseT x.1.data.toList with
  | .error (c, some (k, l)) => c == x.2.2 && k == 1 && l == x.2.1
  | _ => false
theorem fx_ok : fxOk = true := by kernel_rfl
theorem fx_at {j : Nat} {t : ByteArray} {l c : Int} (ht : fxT[j]? = some t) (hl : fxL[j]? = some l) (hc : fxC[j]? = some c) : parseT t.data.toList = .error (c, some (1, l)) := by
  have hz : (fxT.zip (fxL.zip fxC))[j]? = some (t, l, c) := by
    rw [List.getElem?_zip_eq_some]
    refine ⟨ht, ?_⟩
    rw [List.getElem?_zip_eq_some]
    exact ⟨hl, hc⟩
  have h := List.all_eq_true.1 fx_ok _ (List.mem_of_getElem? hz)
  dsimp only at h
  split at h
  · rename_i c' k' l' he
    simp only [Bool.and_eq_true, beq_iff_eq] at h
    obtain ⟨⟨h1, h2⟩, h3⟩ := h
    subst h1 h2 h3
    exact he
  · cases h
theorem fxC_ne : ∀ c ∈ fxC, c ≠ 0 := by decide
abbrev encI (x : Int) : List Value := [.int .i64 x]
theorem encI_len : ∀ x, (encI x).length = 1 := fun _ => rfl
def zA : ArcT := ⟨0, 0, 0⟩
def rowZ (n : Nat) : Array Value := ((List.replicate n zA).flatMap encA).toArray
theorem made_arcs (n : Nat) : madeCells (Value.agg #[.int .i64 0, .int .i64 0, .int .i64 0]).cells (n * 3) = rowZ n := by
  refine Array.ext_getElem? fun i => ?_
  by_cases hi : i < n * 3
  · have hd : i = i / 3 * 3 + i % 3 := by omega
    have e : (rowZ n)[i]? = (encA zA)[i % 3]? := by
      simp only [rowZ, List.getElem?_toArray]
      rw [hd, flat_get encA_len _ _ _ (by omega), List.getElem?_replicate, if_pos (by omega), ← hd]
      rfl
    rw [e]
    simp only [madeCells]
    have h3 : i % 3 = 0 ∨ i % 3 = 1 ∨ i % 3 = 2 := by omega
    rcases h3 with h | h | h <;> simp [h, hi, Value.cells, encA, zA]
  · rw [Array.getElem?_eq_none (by simp [madeCells]; omega), Array.getElem?_eq_none]
    simp only [rowZ, List.size_toArray, flat_len encA_len, List.length_replicate]; omega
theorem make_arcs (n : Nat) (hn : n * 24 ≤ 140737488355328) (W : World) : (Instr.makeSlice 22 (.int .i64 (n : Int)) (.int .i64 (n : Int))).run Tryz.prog W = .ok (.slice (some ⟨W.heap.size, 0, none⟩) n n) (W.alloc (.cells (rowZ n) 54)) := by
  obtain ⟨i, hi, hz0, hz1, hz2⟩ := info_parts info_arc
  have h := run_make (P := Tryz.prog) W 22 54 i _ Tryz.underlying22 hi hz0 .i64 .i64 (n : Int) (n : Int) (by omega) (by omega) (by rw [hz2]; omega) (by omega)
  rw [h, hz1, Int.toNat_natCast]
  exact congrArg (fun c => Result.ok (Value.slice (some ⟨W.heap.size, 0, none⟩) n n) (W.alloc (.cells c 54))) (made_arcs n)
theorem make_a (W : World) : (Instr.makeSlice 22 (.int .i64 262145) (.int .i64 262145)).run Tryz.prog W = .ok (.slice (some ⟨W.heap.size, 0, none⟩) 262145 262145) (W.alloc (.cells (rowZ 262145) 54)) := make_arcs 262145 (by omega) W
theorem make_b (W : World) : (Instr.makeSlice 22 (.int .i64 262144) (.int .i64 262144)).run Tryz.prog W = .ok (.slice (some ⟨W.heap.size, 0, none⟩) 262144 262144) (W.alloc (.cells (rowZ 262144) 54)) := make_arcs 262144 (by omega) W
theorem zero_check (m : Nat) (hm : m ≤ 300000) (A : Option Addr) (kk : Nat) (W : World) (hr : RdA W A m (List.replicate m zA)) : Calls Tryz.prog 14 #[.agg #[.int .i64 1, .slice A m kk]] W (ErrProg (if 262144 < m then some (9, none) else none) W) := by
  have hl : (List.replicate m zA).length = m := List.length_replicate
  have h := GCheck_any ⟨1, List.replicate m zA⟩ A kk W (by dsimp only; rw [hl]; exact hr) (by dsimp only; rw [hl]; omega)
  dsimp only at h
  rw [hl] at h
  have e : chkT ⟨1, List.replicate m zA⟩ = if 262144 < m then some (9, none) else none := by
    split
    · unfold chkT
      rw [if_pos (.inr (.inr (by dsimp only; rw [hl]; assumption)))]
    · refine chkT_none.2 ⟨by dsimp only; omega, by dsimp only; omega, by dsimp only; rw [hl]; omega, fun a ha => ?_⟩
      rw [(List.mem_replicate.1 ha).2]
      exact (by decide : arcBug zA 1 = none)
  rw [e] at h
  exact h
theorem three_alF (W : World) (a b c : Obj) : Below W.heap.size W (((W.alloc a).alloc b).alloc c) := (((Below.refl _ W).alloc (Nat.le_refl _) a).alloc (by simp) b).alloc (by simp; omega) c
def fxG1 : GrT := ⟨2, [⟨0, 1, 5⟩, ⟨0, 2, -1⟩]⟩
def fxG2 : GrT := ⟨1, [⟨0, 0, -1⟩]⟩
theorem fx_p1 : parseT [103, 114, 97, 112, 104, 32, 54, 53, 53, 51, 54, 32, 48, 32, 35, 32, 110, 111, 100, 101, 115, 10, 10, 101, 110, 100] = .ok ⟨65536, []⟩ := by kernel_rfl
theorem fx_p2 : parseT [103, 114, 97, 112, 104, 32, 50, 32, 49, 10, 32, 97, 114, 99, 32, 49, 32, 49, 32, 50, 49, 52, 55, 52, 56, 51, 54, 52, 55, 13, 10, 101, 110, 100] = .ok ⟨2, [⟨1, 1, 2147483647⟩]⟩ := by kernel_rfl
theorem fx_print : printT ⟨0, []⟩ = .ok [103, 114, 97, 112, 104, 32, 48, 32, 48, 10, 101, 110, 100, 10] := by
  have h0 := num1 0 (by decide)
  unfold printT
  rw [show chkT ⟨0, []⟩ = none by decide]
  dsimp only
  rw [printB_lines]
  show Except.ok (lineB graphW [((0 : Nat) : Int), ((0 : Nat) : Int)] ++ [] ++ lineB endW []) = _
  simp only [lineB, List.flatMap_cons, List.flatMap_nil, h0]
  rfl
set_option maxRecDepth 100000 in
set_option maxHeartbeats 32000000 in
theorem GtextFixed_walk (W : World) (hw : Env W) : Calls Tryz.prog 8 #[] W (BoolBelow true W) := by
  have HW := Lib.hid hw
  clear hw
  go_enter Tryz.func8, Tryz.ntmps8
  refine wp_named ?_
  intro Q0 hQ0
  have HQ0 := Lib.hid hQ0
  clear hQ0
  go_wp2_with fail
  refine (awake_any W HW.out).mono ?_
  rintro e w1 ⟨rfl, hb1⟩
  have HB1 := Lib.hid hb1
  clear hb1
  have hr1 : RdS (w1.alloc (.cells #[.string ⟨#[]⟩, .string ⟨#[103, 114, 97, 112, 104, 32, 49, 32, 48]⟩, .string ⟨#[103, 114, 97, 112, 104, 32, 49, 32, 48, 10, 101, 110, 100, 10, 101, 110, 100]⟩, .string ⟨#[103, 114, 97, 102]⟩, .string ⟨#[103, 114, 97, 112, 104, 32, 49]⟩, .string ⟨#[103, 114, 97, 112, 104, 32, 49, 32, 48, 32, 48]⟩, .string ⟨#[103, 114, 97, 112, 104, 32, 54, 53, 53, 51, 55, 32, 120, 10, 101, 110, 100]⟩, .string ⟨#[103, 114, 97, 112, 104, 32, 120, 32, 57, 57, 57, 57, 57, 57]⟩, .string ⟨#[103, 114, 97, 112, 104, 32, 50, 32, 49, 10, 97, 114, 99, 32, 48, 32, 50, 32, 120, 10, 101, 110, 100]⟩, .string ⟨#[103, 114, 97, 112, 104, 32, 50, 32, 49, 10, 101, 110, 100]⟩, .string ⟨#[103, 114, 97, 112, 104, 32, 50, 32, 49, 10, 97, 114, 99, 32, 48, 32, 49, 32, 50, 49, 52, 55, 52, 56, 51, 54, 52, 56, 10, 101, 110, 100]⟩, .string ⟨#[103, 114, 97, 112, 104, 32, 50, 32, 50, 54, 50, 49, 52, 53]⟩, .string ⟨#[103, 114, 97, 112, 104, 32, 50, 32, 49, 10, 97, 114, 99, 32, 48, 32, 49, 10, 101, 110, 100]⟩, .string ⟨#[103, 114, 97, 112, 104, 32, 50, 32, 49, 10, 97, 114, 99, 32, 48, 32, 49, 32, 53, 10, 101, 110, 100, 32, 48]⟩, .string ⟨#[103, 114, 97, 112, 104, 32, 48, 32, 49, 10, 97, 114, 99, 32, 48, 32, 48, 32, 48]⟩, .string ⟨#[103, 114, 97, 112, 104, 32, 48, 32, 49, 10, 97, 114, 99, 32, 120, 32, 48, 32, 48]⟩, .string ⟨#[35, 10, 101, 110, 100]⟩, .string ⟨#[103, 114, 97, 112, 104, 32, 49, 32, 49, 10, 97, 114, 99, 32, 48, 32, 48, 32, 48]⟩] 9)) (some ⟨w1.heap.size, 0, none⟩) 18 fxT := rd_new encS_len w1 9 fxT
  have hr2 : Rd 1 encI ((w1.alloc (.cells #[.string ⟨#[]⟩, .string ⟨#[103, 114, 97, 112, 104, 32, 49, 32, 48]⟩, .string ⟨#[103, 114, 97, 112, 104, 32, 49, 32, 48, 10, 101, 110, 100, 10, 101, 110, 100]⟩, .string ⟨#[103, 114, 97, 102]⟩, .string ⟨#[103, 114, 97, 112, 104, 32, 49]⟩, .string ⟨#[103, 114, 97, 112, 104, 32, 49, 32, 48, 32, 48]⟩, .string ⟨#[103, 114, 97, 112, 104, 32, 54, 53, 53, 51, 55, 32, 120, 10, 101, 110, 100]⟩, .string ⟨#[103, 114, 97, 112, 104, 32, 120, 32, 57, 57, 57, 57, 57, 57]⟩, .string ⟨#[103, 114, 97, 112, 104, 32, 50, 32, 49, 10, 97, 114, 99, 32, 48, 32, 50, 32, 120, 10, 101, 110, 100]⟩, .string ⟨#[103, 114, 97, 112, 104, 32, 50, 32, 49, 10, 101, 110, 100]⟩, .string ⟨#[103, 114, 97, 112, 104, 32, 50, 32, 49, 10, 97, 114, 99, 32, 48, 32, 49, 32, 50, 49, 52, 55, 52, 56, 51, 54, 52, 56, 10, 101, 110, 100]⟩, .string ⟨#[103, 114, 97, 112, 104, 32, 50, 32, 50, 54, 50, 49, 52, 53]⟩, .string ⟨#[103, 114, 97, 112, 104, 32, 50, 32, 49, 10, 97, 114, 99, 32, 48, 32, 49, 10, 101, 110, 100]⟩, .string ⟨#[103, 114, 97, 112, 104, 32, 50, 32, 49, 10, 97, 114, 99, 32, 48, 32, 49, 32, 53, 10, 101, 110, 100, 32, 48]⟩, .string ⟨#[103, 114, 97, 112, 104, 32, 48, 32, 49, 10, 97, 114, 99, 32, 48, 32, 48, 32, 48]⟩, .string ⟨#[103, 114, 97, 112, 104, 32, 48, 32, 49, 10, 97, 114, 99, 32, 120, 32, 48, 32, 48]⟩, .string ⟨#[35, 10, 101, 110, 100]⟩, .string ⟨#[103, 114, 97, 112, 104, 32, 49, 32, 49, 10, 97, 114, 99, 32, 48, 32, 48, 32, 48]⟩] 9)).alloc (.cells #[.int .i64 0, .int .i64 1, .int .i64 3, .int .i64 1, .int .i64 1, .int .i64 1, .int .i64 1, .int .i64 1, .int .i64 2, .int .i64 2, .int .i64 2, .int .i64 1, .int .i64 2, .int .i64 3, .int .i64 2, .int .i64 2, .int .i64 2, .int .i64 2] 3)) (some ⟨w1.heap.size + 1, 0, none⟩) 18 fxL := by
    have h := rd_new encI_len (w1.alloc (.cells #[.string ⟨#[]⟩, .string ⟨#[103, 114, 97, 112, 104, 32, 49, 32, 48]⟩, .string ⟨#[103, 114, 97, 112, 104, 32, 49, 32, 48, 10, 101, 110, 100, 10, 101, 110, 100]⟩, .string ⟨#[103, 114, 97, 102]⟩, .string ⟨#[103, 114, 97, 112, 104, 32, 49]⟩, .string ⟨#[103, 114, 97, 112, 104, 32, 49, 32, 48, 32, 48]⟩, .string ⟨#[103, 114, 97, 112, 104, 32, 54, 53, 53, 51, 55, 32, 120, 10, 101, 110, 100]⟩, .string ⟨#[103, 114, 97, 112, 104, 32, 120, 32, 57, 57, 57, 57, 57, 57]⟩, .string ⟨#[103, 114, 97, 112, 104, 32, 50, 32, 49, 10, 97, 114, 99, 32, 48, 32, 50, 32, 120, 10, 101, 110, 100]⟩, .string ⟨#[103, 114, 97, 112, 104, 32, 50, 32, 49, 10, 101, 110, 100]⟩, .string ⟨#[103, 114, 97, 112, 104, 32, 50, 32, 49, 10, 97, 114, 99, 32, 48, 32, 49, 32, 50, 49, 52, 55, 52, 56, 51, 54, 52, 56, 10, 101, 110, 100]⟩, .string ⟨#[103, 114, 97, 112, 104, 32, 50, 32, 50, 54, 50, 49, 52, 53]⟩, .string ⟨#[103, 114, 97, 112, 104, 32, 50, 32, 49, 10, 97, 114, 99, 32, 48, 32, 49, 10, 101, 110, 100]⟩, .string ⟨#[103, 114, 97, 112, 104, 32, 50, 32, 49, 10, 97, 114, 99, 32, 48, 32, 49, 32, 53, 10, 101, 110, 100, 32, 48]⟩, .string ⟨#[103, 114, 97, 112, 104, 32, 48, 32, 49, 10, 97, 114, 99, 32, 48, 32, 48, 32, 48]⟩, .string ⟨#[103, 114, 97, 112, 104, 32, 48, 32, 49, 10, 97, 114, 99, 32, 120, 32, 48, 32, 48]⟩, .string ⟨#[35, 10, 101, 110, 100]⟩, .string ⟨#[103, 114, 97, 112, 104, 32, 49, 32, 49, 10, 97, 114, 99, 32, 48, 32, 48, 32, 48]⟩] 9)) 3 fxL
    rw [size_alloc] at h
    exact h
  have hr3 : Rd 1 encI (((w1.alloc (.cells #[.string ⟨#[]⟩, .string ⟨#[103, 114, 97, 112, 104, 32, 49, 32, 48]⟩, .string ⟨#[103, 114, 97, 112, 104, 32, 49, 32, 48, 10, 101, 110, 100, 10, 101, 110, 100]⟩, .string ⟨#[103, 114, 97, 102]⟩, .string ⟨#[103, 114, 97, 112, 104, 32, 49]⟩, .string ⟨#[103, 114, 97, 112, 104, 32, 49, 32, 48, 32, 48]⟩, .string ⟨#[103, 114, 97, 112, 104, 32, 54, 53, 53, 51, 55, 32, 120, 10, 101, 110, 100]⟩, .string ⟨#[103, 114, 97, 112, 104, 32, 120, 32, 57, 57, 57, 57, 57, 57]⟩, .string ⟨#[103, 114, 97, 112, 104, 32, 50, 32, 49, 10, 97, 114, 99, 32, 48, 32, 50, 32, 120, 10, 101, 110, 100]⟩, .string ⟨#[103, 114, 97, 112, 104, 32, 50, 32, 49, 10, 101, 110, 100]⟩, .string ⟨#[103, 114, 97, 112, 104, 32, 50, 32, 49, 10, 97, 114, 99, 32, 48, 32, 49, 32, 50, 49, 52, 55, 52, 56, 51, 54, 52, 56, 10, 101, 110, 100]⟩, .string ⟨#[103, 114, 97, 112, 104, 32, 50, 32, 50, 54, 50, 49, 52, 53]⟩, .string ⟨#[103, 114, 97, 112, 104, 32, 50, 32, 49, 10, 97, 114, 99, 32, 48, 32, 49, 10, 101, 110, 100]⟩, .string ⟨#[103, 114, 97, 112, 104, 32, 50, 32, 49, 10, 97, 114, 99, 32, 48, 32, 49, 32, 53, 10, 101, 110, 100, 32, 48]⟩, .string ⟨#[103, 114, 97, 112, 104, 32, 48, 32, 49, 10, 97, 114, 99, 32, 48, 32, 48, 32, 48]⟩, .string ⟨#[103, 114, 97, 112, 104, 32, 48, 32, 49, 10, 97, 114, 99, 32, 120, 32, 48, 32, 48]⟩, .string ⟨#[35, 10, 101, 110, 100]⟩, .string ⟨#[103, 114, 97, 112, 104, 32, 49, 32, 49, 10, 97, 114, 99, 32, 48, 32, 48, 32, 48]⟩] 9)).alloc (.cells #[.int .i64 0, .int .i64 1, .int .i64 3, .int .i64 1, .int .i64 1, .int .i64 1, .int .i64 1, .int .i64 1, .int .i64 2, .int .i64 2, .int .i64 2, .int .i64 1, .int .i64 2, .int .i64 3, .int .i64 2, .int .i64 2, .int .i64 2, .int .i64 2] 3)).alloc (.cells #[.int .i64 5, .int .i64 5, .int .i64 6, .int .i64 3, .int .i64 5, .int .i64 6, .int .i64 9, .int .i64 4, .int .i64 7, .int .i64 3, .int .i64 8, .int .i64 9, .int .i64 5, .int .i64 6, .int .i64 7, .int .i64 4, .int .i64 3, .int .i64 5] 49)) (some ⟨w1.heap.size + 1 + 1, 0, none⟩) 18 fxC := by
    have h := rd_new encI_len ((w1.alloc (.cells #[.string ⟨#[]⟩, .string ⟨#[103, 114, 97, 112, 104, 32, 49, 32, 48]⟩, .string ⟨#[103, 114, 97, 112, 104, 32, 49, 32, 48, 10, 101, 110, 100, 10, 101, 110, 100]⟩, .string ⟨#[103, 114, 97, 102]⟩, .string ⟨#[103, 114, 97, 112, 104, 32, 49]⟩, .string ⟨#[103, 114, 97, 112, 104, 32, 49, 32, 48, 32, 48]⟩, .string ⟨#[103, 114, 97, 112, 104, 32, 54, 53, 53, 51, 55, 32, 120, 10, 101, 110, 100]⟩, .string ⟨#[103, 114, 97, 112, 104, 32, 120, 32, 57, 57, 57, 57, 57, 57]⟩, .string ⟨#[103, 114, 97, 112, 104, 32, 50, 32, 49, 10, 97, 114, 99, 32, 48, 32, 50, 32, 120, 10, 101, 110, 100]⟩, .string ⟨#[103, 114, 97, 112, 104, 32, 50, 32, 49, 10, 101, 110, 100]⟩, .string ⟨#[103, 114, 97, 112, 104, 32, 50, 32, 49, 10, 97, 114, 99, 32, 48, 32, 49, 32, 50, 49, 52, 55, 52, 56, 51, 54, 52, 56, 10, 101, 110, 100]⟩, .string ⟨#[103, 114, 97, 112, 104, 32, 50, 32, 50, 54, 50, 49, 52, 53]⟩, .string ⟨#[103, 114, 97, 112, 104, 32, 50, 32, 49, 10, 97, 114, 99, 32, 48, 32, 49, 10, 101, 110, 100]⟩, .string ⟨#[103, 114, 97, 112, 104, 32, 50, 32, 49, 10, 97, 114, 99, 32, 48, 32, 49, 32, 53, 10, 101, 110, 100, 32, 48]⟩, .string ⟨#[103, 114, 97, 112, 104, 32, 48, 32, 49, 10, 97, 114, 99, 32, 48, 32, 48, 32, 48]⟩, .string ⟨#[103, 114, 97, 112, 104, 32, 48, 32, 49, 10, 97, 114, 99, 32, 120, 32, 48, 32, 48]⟩, .string ⟨#[35, 10, 101, 110, 100]⟩, .string ⟨#[103, 114, 97, 112, 104, 32, 49, 32, 49, 10, 97, 114, 99, 32, 48, 32, 48, 32, 48]⟩] 9)).alloc (.cells #[.int .i64 0, .int .i64 1, .int .i64 3, .int .i64 1, .int .i64 1, .int .i64 1, .int .i64 1, .int .i64 1, .int .i64 2, .int .i64 2, .int .i64 2, .int .i64 1, .int .i64 2, .int .i64 3, .int .i64 2, .int .i64 2, .int .i64 2, .int .i64 2] 3)) 49 fxC
    rw [size_alloc, size_alloc] at h
    exact h
  have hb2 := three_alF w1 (.cells #[.string ⟨#[]⟩, .string ⟨#[103, 114, 97, 112, 104, 32, 49, 32, 48]⟩, .string ⟨#[103, 114, 97, 112, 104, 32, 49, 32, 48, 10, 101, 110, 100, 10, 101, 110, 100]⟩, .string ⟨#[103, 114, 97, 102]⟩, .string ⟨#[103, 114, 97, 112, 104, 32, 49]⟩, .string ⟨#[103, 114, 97, 112, 104, 32, 49, 32, 48, 32, 48]⟩, .string ⟨#[103, 114, 97, 112, 104, 32, 54, 53, 53, 51, 55, 32, 120, 10, 101, 110, 100]⟩, .string ⟨#[103, 114, 97, 112, 104, 32, 120, 32, 57, 57, 57, 57, 57, 57]⟩, .string ⟨#[103, 114, 97, 112, 104, 32, 50, 32, 49, 10, 97, 114, 99, 32, 48, 32, 50, 32, 120, 10, 101, 110, 100]⟩, .string ⟨#[103, 114, 97, 112, 104, 32, 50, 32, 49, 10, 101, 110, 100]⟩, .string ⟨#[103, 114, 97, 112, 104, 32, 50, 32, 49, 10, 97, 114, 99, 32, 48, 32, 49, 32, 50, 49, 52, 55, 52, 56, 51, 54, 52, 56, 10, 101, 110, 100]⟩, .string ⟨#[103, 114, 97, 112, 104, 32, 50, 32, 50, 54, 50, 49, 52, 53]⟩, .string ⟨#[103, 114, 97, 112, 104, 32, 50, 32, 49, 10, 97, 114, 99, 32, 48, 32, 49, 10, 101, 110, 100]⟩, .string ⟨#[103, 114, 97, 112, 104, 32, 50, 32, 49, 10, 97, 114, 99, 32, 48, 32, 49, 32, 53, 10, 101, 110, 100, 32, 48]⟩, .string ⟨#[103, 114, 97, 112, 104, 32, 48, 32, 49, 10, 97, 114, 99, 32, 48, 32, 48, 32, 48]⟩, .string ⟨#[103, 114, 97, 112, 104, 32, 48, 32, 49, 10, 97, 114, 99, 32, 120, 32, 48, 32, 48]⟩, .string ⟨#[35, 10, 101, 110, 100]⟩, .string ⟨#[103, 114, 97, 112, 104, 32, 49, 32, 49, 10, 97, 114, 99, 32, 48, 32, 48, 32, 48]⟩] 9) (.cells #[.int .i64 0, .int .i64 1, .int .i64 3, .int .i64 1, .int .i64 1, .int .i64 1, .int .i64 1, .int .i64 1, .int .i64 2, .int .i64 2, .int .i64 2, .int .i64 1, .int .i64 2, .int .i64 3, .int .i64 2, .int .i64 2, .int .i64 2, .int .i64 2] 3) (.cells #[.int .i64 5, .int .i64 5, .int .i64 6, .int .i64 3, .int .i64 5, .int .i64 6, .int .i64 9, .int .i64 4, .int .i64 7, .int .i64 3, .int .i64 8, .int .i64 9, .int .i64 5, .int .i64 6, .int .i64 7, .int .i64 4, .int .i64 3, .int .i64 5] 49)
  have HT2 := Lib.hid ((hr1.below ((Below.refl _ _).alloc (Nat.le_refl _) (.cells #[.int .i64 0, .int .i64 1, .int .i64 3, .int .i64 1, .int .i64 1, .int .i64 1, .int .i64 1, .int .i64 1, .int .i64 2, .int .i64 2, .int .i64 2, .int .i64 1, .int .i64 2, .int .i64 3, .int .i64 2, .int .i64 2, .int .i64 2, .int .i64 2] 3))).below ((Below.refl _ _).alloc (Nat.le_refl _) (.cells #[.int .i64 5, .int .i64 5, .int .i64 6, .int .i64 3, .int .i64 5, .int .i64 6, .int .i64 9, .int .i64 4, .int .i64 7, .int .i64 3, .int .i64 8, .int .i64 9, .int .i64 5, .int .i64 6, .int .i64 7, .int .i64 4, .int .i64 3, .int .i64 5] 49)))
  have HL2 := Lib.hid (hr2.below ((Below.refl _ _).alloc (Nat.le_refl _) (.cells #[.int .i64 5, .int .i64 5, .int .i64 6, .int .i64 3, .int .i64 5, .int .i64 6, .int .i64 9, .int .i64 4, .int .i64 7, .int .i64 3, .int .i64 8, .int .i64 9, .int .i64 5, .int .i64 6, .int .i64 7, .int .i64 4, .int .i64 3, .int .i64 5] 49)))
  have HC2 := Lib.hid hr3
  clear hr1 hr2 hr3
  have HB2 := Lib.hid (HB1.out.trans (hb2.mono HB1.out.size))
  have hs2 := hb2.size
  clear hb2
  go_upto_region 6 with fail
  generalize ((w1.alloc (.cells #[.string ⟨#[]⟩, .string ⟨#[103, 114, 97, 112, 104, 32, 49, 32, 48]⟩, .string ⟨#[103, 114, 97, 112, 104, 32, 49, 32, 48, 10, 101, 110, 100, 10, 101, 110, 100]⟩, .string ⟨#[103, 114, 97, 102]⟩, .string ⟨#[103, 114, 97, 112, 104, 32, 49]⟩, .string ⟨#[103, 114, 97, 112, 104, 32, 49, 32, 48, 32, 48]⟩, .string ⟨#[103, 114, 97, 112, 104, 32, 54, 53, 53, 51, 55, 32, 120, 10, 101, 110, 100]⟩, .string ⟨#[103, 114, 97, 112, 104, 32, 120, 32, 57, 57, 57, 57, 57, 57]⟩, .string ⟨#[103, 114, 97, 112, 104, 32, 50, 32, 49, 10, 97, 114, 99, 32, 48, 32, 50, 32, 120, 10, 101, 110, 100]⟩, .string ⟨#[103, 114, 97, 112, 104, 32, 50, 32, 49, 10, 101, 110, 100]⟩, .string ⟨#[103, 114, 97, 112, 104, 32, 50, 32, 49, 10, 97, 114, 99, 32, 48, 32, 49, 32, 50, 49, 52, 55, 52, 56, 51, 54, 52, 56, 10, 101, 110, 100]⟩, .string ⟨#[103, 114, 97, 112, 104, 32, 50, 32, 50, 54, 50, 49, 52, 53]⟩, .string ⟨#[103, 114, 97, 112, 104, 32, 50, 32, 49, 10, 97, 114, 99, 32, 48, 32, 49, 10, 101, 110, 100]⟩, .string ⟨#[103, 114, 97, 112, 104, 32, 50, 32, 49, 10, 97, 114, 99, 32, 48, 32, 49, 32, 53, 10, 101, 110, 100, 32, 48]⟩, .string ⟨#[103, 114, 97, 112, 104, 32, 48, 32, 49, 10, 97, 114, 99, 32, 48, 32, 48, 32, 48]⟩, .string ⟨#[103, 114, 97, 112, 104, 32, 48, 32, 49, 10, 97, 114, 99, 32, 120, 32, 48, 32, 48]⟩, .string ⟨#[35, 10, 101, 110, 100]⟩, .string ⟨#[103, 114, 97, 112, 104, 32, 49, 32, 49, 10, 97, 114, 99, 32, 48, 32, 48, 32, 48]⟩] 9)).alloc (.cells #[.int .i64 0, .int .i64 1, .int .i64 3, .int .i64 1, .int .i64 1, .int .i64 1, .int .i64 1, .int .i64 1, .int .i64 2, .int .i64 2, .int .i64 2, .int .i64 1, .int .i64 2, .int .i64 3, .int .i64 2, .int .i64 2, .int .i64 2, .int .i64 2] 3)).alloc (.cells #[.int .i64 5, .int .i64 5, .int .i64 6, .int .i64 3, .int .i64 5, .int .i64 6, .int .i64 9, .int .i64 4, .int .i64 7, .int .i64 3, .int .i64 8, .int .i64 9, .int .i64 5, .int .i64 6, .int .i64 7, .int .i64 4, .int .i64 3, .int .i64 5] 49) = w2 at *
  go_upto_region 7 with fail
  go_loopw [30] (fun iv wr => ∃ j : Nat, j ≤ 18 ∧ iv = .int .i64 (j : Int) ∧ Below w2.heap.size w2 wr) (fun iv _ => 18 - (intOf iv).toNat)
  case atStart => exact ⟨0, by omega, rfl, Below.refl _ _⟩
  case round =>
    obtain ⟨j, hj, rfl, hb⟩ := hrel
    have HBr : Hid (Below W.heap.size W wr) := Lib.hid (HB2.out.trans (hb.mono HB2.out.size))
    have HBz := Lib.hid hb
    have hsr := hb.size
    clear hb
    by_cases hlt : j < 18
    · have g0 : decide ((j : Int) < 18) = true := decide_eq_true (by omega)
      obtain ⟨ad1, hA1, cc1⟩ := (HT2.out.below HBz.out).at1 (f := Value.string) hlt
      obtain ⟨ad2, hA2, cc2⟩ := (HL2.out.below HBz.out).at1 (f := fun x => Value.int .i64 x) hlt
      obtain ⟨ad3, hA3, cc3⟩ := (HC2.out.below HBz.out).at1 (f := fun x => Value.int .i64 x) hlt
      obtain rfl := Option.some.inj hA1
      obtain rfl := Option.some.inj hA2
      obtain rfl := Option.some.inj hA3
      rw [add_zero_off] at cc1 cc2 cc3
      have hpe := fx_at (j := j) (List.getElem?_eq_getElem (by exact hlt)) (List.getElem?_eq_getElem (by exact hlt)) (List.getElem?_eq_getElem (by exact hlt))
      have hcn := fxC_ne _ (List.getElem_mem (l := fxC) (n := j) (by exact hlt))
      have hsz : (fxT[j]'(by exact hlt)).size ≤ 100 := by
        have h : ∀ t ∈ fxT, t.size ≤ 100 := by decide
        exact h _ (List.getElem_mem _)
      generalize fxT[j]'(by exact hlt) = tx at *
      generalize fxL[j]'(by exact hlt) = lx at *
      generalize fxC[j]'(by exact hlt) = cx at *
      have hw1 : IntKind.i64.wrap ((j : Int) + 1) = (j : Int) + 1 := by rw [IntKind.wrap_i64]; omega
      have HPE := Lib.hid hpe
      have HCN := Lib.hid hcn
      have HPS := Lib.hid (Parse_any tx wr (by omega) (HW.out.below HBr.out).maxL (HW.out.below HBr.out).rng)
      clear hpe hcn hA1 hA2 hA3
      go_upto_region 9 with fail
      go_wp2_with fail
      refine HPS.out.mono ?_
      rintro e w10 ⟨hb10, he⟩
      rw [HPE.out] at he
      obtain ⟨v, rfl, hpx⟩ := he
      have HU10 := Lib.hid (hpx.mono (Nat.zero_le _))
      have cc2 := cell_below hb10 cc2
      have cc3 := cell_below hb10 cc3
      have hb12 := (Below.refl w10.heap.size w10).alloc (Nat.le_refl _) (.cells #[.int .i64 0, .slice none 0 0] 24)
      have HB10 : Hid (Below wr.heap.size wr w10) := Lib.hid hb10
      have HB12 : Hid (Below wr.heap.size wr (w10.alloc (.cells #[.int .i64 0, .slice none 0 0] 24))) := Lib.hid (hb10.trans (hb12.mono hb10.size))
      have HU12 := Lib.hid (HU10.out.below hb12)
      have cc2 := cell_below hb12 cc2
      have cc3 := cell_below hb12 cc3
      clear hb10 hpx cc1 hb12 HPS
      go_upto_region 10 with fail
      generalize w10.alloc (.cells #[.int .i64 0, .slice none 0 0] 24) = w12 at *
      have HX : Hid (Below w12.heap.size w12 w12) := Lib.hid (Below.refl _ _)
      have HEV : Hid (∀ w, Below w12.heap.size w12 w → Env w) := Lib.hid (fun w hb => HW.out.below (HBr.out.trans ((HB12.out.trans (hb.mono HB12.out.size)).mono HBr.out.size)))
      have p1 : (j : Int) < 18 := by omega
      go_region_held3 (fun w' => w'.cell? ⟨w1.heap.size + 1, j, none⟩ = some (.int .i64 lx) ∧ w'.cell? ⟨w1.heap.size + 1 + 1, j, none⟩ = some (.int .i64 cx)) (first | with_reducible exact ⟨cc2, cc3⟩ | go_keep) (first
        | (go_at_call 21; (with_reducible refine (E_any cx _).mono ?_); rintro e v0 ⟨rfl, hb5⟩; have cc2 := cell_below hb5 cc2; have cc3 := cell_below hb5 cc3; have HX : Hid (Below w12.heap.size w12 v0) := Lib.hid (by first | exact HX.out.trans (hb5.mono HX.out.size) | exact HX.out.drew.trans (hb5.mono HX.out.drew.size)); clear hb5)
        | (go_at_call 20; (with_reducible refine (At1_any 1 lx cx _).mono ?_); rintro e v1 ⟨g5, k5, rfl, hx5, -, hb5⟩; have cc2 := cell_below hb5 cc2; have cc3 := cell_below hb5 cc3; have HX : Hid (Below w12.heap.size w12 v1) := Lib.hid (by first | exact HX.out.trans (hb5.mono HX.out.size) | exact HX.out.drew.trans (hb5.mono HX.out.drew.size)); have HG5 := Lib.hid hx5; clear hb5 hx5)
        | (go_at_call 13; refine (same_bug (bug := some (cx, some (1, lx))) (x := ⟨cx, some ⟨g5, 0, none⟩, 1, k5⟩) (base := 0) (HU12.out.below (by first | exact HX.out | exact HX.out.drew)) ⟨g5, k5, rfl, (by first | exact HG5.out | exact HG5.out.below (Below.drew (Below.refl _ _))), Nat.zero_le _⟩ (fun p hp => by injection hp with hp; subst hp; exact HCN.out) (HEV.out _ (by first | exact HX.out | exact HX.out.drew)).errT).mono ?_; rintro e v2 ⟨rfl, hb5⟩; have cc2 := cell_below hb5 cc2; have cc3 := cell_below hb5 cc3; have HX : Hid (Below w12.heap.size w12 v2) := Lib.hid (by first | exact HX.out.trans (hb5.mono HX.out.size) | exact HX.out.drew.trans (hb5.mono HX.out.drew.size)); clear hb5))
      rename_i hHeld
      clear hHeld cc2 cc3
      have HBE : Hid (Below w2.heap.size w2 v2) := Lib.hid (HBz.out.trans ((HB12.out.trans (HX.out.mono HB12.out.size)).mono HBz.out.size))
      go_wp2_with fail
      go_roundw
      case rel => exact ⟨j + 1, by omega, by go_num, HBE.out⟩
      case measure => simp [intOf]; omega
    · obtain rfl : j = 18 := by omega
      have g0 : decide (((18 : Nat) : Int) < 18) = false := by decide
      clear HT2 HL2 HC2 HBz
      have HPS := Lib.hid (Parse_any ⟨#[103, 114, 97, 112, 104, 32, 54, 53, 53, 51, 54, 32, 48, 32, 35, 32, 110, 111, 100, 101, 115, 10, 10, 101, 110, 100]⟩ wr (by decide) (HW.out.below HBr.out).maxL (HW.out.below HBr.out).rng)
      go_upto_region 13 with fail
      go_wp2_with fail
      refine HPS.out.mono ?_
      rintro e w20 ⟨hb20, he⟩
      rw [show parseT (⟨#[103, 114, 97, 112, 104, 32, 54, 53, 53, 51, 54, 32, 48, 32, 35, 32, 110, 111, 100, 101, 115, 10, 10, 101, 110, 100]⟩ : ByteArray).data.toList = .ok ⟨65536, []⟩ from fx_p1] at he
      obtain ⟨A20, k20, rfl, -⟩ := he
      dsimp only [List.length_nil]
      clear HPS
      have HB20 := Lib.hid (HBr.out.trans (hb20.mono HBr.out.size))
      have hs20 := hb20.size
      clear hb20
      have hb21 := (Below.refl w20.heap.size w20).alloc (Nat.le_refl _) (.cells #[.int .i64 65536, .slice A20 0 k20] 24)
      have hx21 := cells_new w20 #[.int .i64 65536, .slice A20 0 k20] 24
      have HB21 := Lib.hid (HB20.out.trans (hb21.mono HB20.out.size))
      have hs21 := hb21.size
      clear hb21
      have HP21 := Lib.hid hx21
      clear hx21
      go_upto_region 14 with fail
      generalize w20.alloc (.cells #[.int .i64 65536, .slice A20 0 k20] 24) = w21 at *
      have HPS := Lib.hid (Parse_any ⟨#[103, 114, 97, 112, 104, 32, 50, 32, 49, 10, 32, 97, 114, 99, 32, 49, 32, 49, 32, 50, 49, 52, 55, 52, 56, 51, 54, 52, 55, 13, 10, 101, 110, 100]⟩ w21 (by decide) (HW.out.below HB21.out).maxL (HW.out.below HB21.out).rng)
      go_wp2_with fail
      refine HPS.out.mono ?_
      rintro e w22 ⟨hb22, he⟩
      rw [show parseT (⟨#[103, 114, 97, 112, 104, 32, 50, 32, 49, 10, 32, 97, 114, 99, 32, 49, 32, 49, 32, 50, 49, 52, 55, 52, 56, 51, 54, 52, 55, 13, 10, 101, 110, 100]⟩ : ByteArray).data.toList = .ok ⟨2, [⟨1, 1, 2147483647⟩]⟩ from fx_p2] at he
      obtain ⟨A22, k22, rfl, ho⟩ := he
      have HH22 : Hid (RdA w22 A22 1 [⟨1, 1, 2147483647⟩]) := Lib.hid (ho.rd encA_len rfl)
      dsimp only [List.length_cons, List.length_nil]
      clear HPS ho
      have HB22 := Lib.hid (HB21.out.trans (hb22.mono HB21.out.size))
      have HP22 := Lib.hid (HP21.out.below hb22)
      have hs22 := hb22.size
      clear hb22
      have hb23 := (Below.refl w22.heap.size w22).alloc (Nat.le_refl _) (.cells #[.int .i64 2, .slice A22 1 k22] 24)
      have hx23 := cells_new w22 #[.int .i64 2, .slice A22 1 k22] 24
      have HB23 := Lib.hid (HB22.out.trans (hb23.mono HB22.out.size))
      have HP23 := Lib.hid (HP22.out.below hb23)
      have HH23 := Lib.hid (HH22.out.below hb23)
      have hs23 := hb23.size
      clear hb23
      have HQ23 := Lib.hid hx23
      clear hx23
      go_upto_region 15 with fail
      generalize w22.alloc (.cells #[.int .i64 2, .slice A22 1 k22] 24) = w23 at *
      have HPR := Lib.hid (Print_any ⟨0, []⟩ none 0 w23 Rd.nil (by decide) (HW.out.below HB23.out).tab)
      go_wp2_with fail
      refine HPR.out.mono ?_
      rintro e w24 ⟨hb24, he⟩
      rw [fx_print] at he
      dsimp only at he
      subst he
      clear HPR
      have HB24 := Lib.hid (HB23.out.trans (hb24.mono HB23.out.size))
      have HP24 := Lib.hid (HP23.out.below hb24)
      have HQ24 := Lib.hid (HQ23.out.below hb24)
      have HH24 := Lib.hid (HH23.out.below hb24)
      have hs24 := hb24.size
      clear hb24
      have Pc0 : w24.cell? ⟨w20.heap.size, 0, none⟩ = some (.int .i64 65536) := HP24.out.cell 0
      have Pc1 : w24.cell? ⟨w20.heap.size, 1, none⟩ = some (.slice A20 0 k20) := HP24.out.cell 1
      have Qc0 : w24.cell? ⟨w22.heap.size, 0, none⟩ = some (.int .i64 2) := HQ24.out.cell 0
      have Qc1 : w24.cell? ⟨w22.heap.size, 1, none⟩ = some (.slice A22 1 k22) := HQ24.out.cell 1
      have hb25 := (Below.refl w24.heap.size w24).alloc (Nat.le_refl _) (.cells #[.int .i64 1, .int .i64 1, .int .i64 2147483647] 54)
      have hrd : RdA (w24.alloc (.cells #[.int .i64 1, .int .i64 1, .int .i64 2147483647] 54)) (some ⟨w24.heap.size, 0, none⟩) 1 [⟨1, 1, 2147483647⟩] := rd_new encA_len w24 54 [⟨1, 1, 2147483647⟩]
      have HS := Lib.hid (Same03_eq A22 (some ⟨w24.heap.size, 0, none⟩) 1 k22 1 2 [⟨1, 1, 2147483647⟩] (w24.alloc (.cells #[.int .i64 1, .int .i64 1, .int .i64 2147483647] 54)) (HH24.out.below hb25) hrd (by decide))
      have hse1 : ((toB [103, 114, 97, 112, 104, 32, 48, 32, 48, 10, 101, 110, 100, 10]).toList == [103, 114, 97, 112, 104, 32, 48, 32, 48, 10, 101, 110, 100, 10]) = true := by rw [Lib.toList_data, toB_list]; decide
      have hse2 : ((toB [103, 114, 97, 112, 104, 32, 48, 32, 48, 10, 101, 110, 100, 10]).toList != [103, 114, 97, 112, 104, 32, 48, 32, 48, 10, 101, 110, 100, 10]) = false := by rw [Lib.toList_data, toB_list]; decide
      have HBA := Lib.hid hb25
      clear hb25 hrd
      go_upto_region 16 with fail
      go_wp2_with fail
      refine HS.out.mono ?_
      rintro e w26 ⟨rfl, hb26z⟩
      have hb26 : Below w24.heap.size w24 w26 := HBA.out.trans (hb26z.mono HBA.out.size)
      clear HS HBA hb26z
      have HB26 := Lib.hid (HB24.out.trans (hb26.mono HB24.out.size))
      have hs26 := hb26.size
      clear hb26 Pc0 Pc1 Qc0 Qc1
      go_upto_region 18 with fail
      have hbz := (Below.refl w26.heap.size w26).alloc (Nat.le_refl _) (.cells #[.int .i64 0, .int .i64 1, .int .i64 5, .int .i64 0, .int .i64 2, .int .i64 (-1)] 54)
      have hrd : RdA (w26.alloc (.cells #[.int .i64 0, .int .i64 1, .int .i64 5, .int .i64 0, .int .i64 2, .int .i64 (-1)] 54)) (some ⟨w26.heap.size, 0, none⟩) 2 [⟨0, 1, 5⟩, ⟨0, 2, -1⟩] := rd_new encA_len w26 54 [⟨0, 1, 5⟩, ⟨0, 2, -1⟩]
      have HC := Lib.hid (GCheck_any ⟨2, [⟨0, 1, 5⟩, ⟨0, 2, -1⟩]⟩ (some ⟨w26.heap.size, 0, none⟩) 2 (w26.alloc (.cells #[.int .i64 0, .int .i64 1, .int .i64 5, .int .i64 0, .int .i64 2, .int .i64 (-1)] 54)) hrd (by decide))
      have HBA := Lib.hid hbz
      clear hbz hrd
      go_wp2_with fail
      refine HC.out.mono ?_
      intro e w27 he
      obtain ⟨v27, rfl, hpx, hbz⟩ := he.px2
      rw [show chkT ⟨2, [⟨0, 1, 5⟩, ⟨0, 2, -1⟩]⟩ = some (7, some (4, 1)) by decide] at hpx
      have hb27 : Below w26.heap.size w26 w27 := HBA.out.trans (hbz.mono HBA.out.size)
      have HU27 := Lib.hid (hpx.mono (Nat.zero_le _))
      clear HC HBA hbz hpx he
      have HB27 := Lib.hid (HB26.out.trans (hb27.mono HB26.out.size))
      have hs27 := hb27.size
      clear hb27
      go_upto_region 19 with fail
      have hbz := (Below.refl w27.heap.size w27).alloc (Nat.le_refl _) (.cells #[.int .i64 0, .int .i64 0, .int .i64 (-1)] 54)
      have hrd : RdA (w27.alloc (.cells #[.int .i64 0, .int .i64 0, .int .i64 (-1)] 54)) (some ⟨w27.heap.size, 0, none⟩) 1 [⟨0, 0, -1⟩] := rd_new encA_len w27 54 [⟨0, 0, -1⟩]
      have HC := Lib.hid (GCheck_any ⟨1, [⟨0, 0, -1⟩]⟩ (some ⟨w27.heap.size, 0, none⟩) 1 (w27.alloc (.cells #[.int .i64 0, .int .i64 0, .int .i64 (-1)] 54)) hrd (by decide))
      have HBA := Lib.hid hbz
      clear hbz hrd
      go_wp2_with fail
      refine HC.out.mono ?_
      intro e w28 he
      obtain ⟨v28, rfl, hpx, hbz⟩ := he.px2
      rw [show chkT ⟨1, [⟨0, 0, -1⟩]⟩ = some (8, some (4, 0)) by decide] at hpx
      have hb28 : Below w27.heap.size w27 w28 := HBA.out.trans (hbz.mono HBA.out.size)
      have HV28 := Lib.hid (hpx.mono (Nat.zero_le _))
      clear HC HBA hbz hpx he
      have HB28 := Lib.hid (HB27.out.trans (hb28.mono HB27.out.size))
      have HU28 := Lib.hid (HU27.out.below hb28)
      have hs28 := hb28.size
      clear hb28
      go_upto_region 20 with fail
      have hbz := (Below.refl w28.heap.size w28).alloc (Nat.le_refl _) (.cells (rowZ 262145) 54)
      have hrd : RdA (w28.alloc (.cells (rowZ 262145) 54)) (some ⟨w28.heap.size, 0, none⟩) 262145 (List.replicate 262145 zA) := by
        have h := rd_new encA_len w28 54 (List.replicate 262145 zA)
        rw [List.length_replicate] at h
        exact h
      have HC := Lib.hid (zero_check 262145 (by omega) (some ⟨w28.heap.size, 0, none⟩) 262145 (w28.alloc (.cells (rowZ 262145) 54)) hrd)
      have hmk := make_a w28
      have HBA := Lib.hid hbz
      clear hbz hrd
      go_wp2_with fail
      refine HC.out.mono ?_
      intro e w29 he
      rw [if_pos (by omega)] at he
      obtain ⟨hbz, he⟩ := he
      dsimp only at he
      subst he
      have hb29 : Below w28.heap.size w28 w29 := HBA.out.trans (hbz.mono HBA.out.size)
      clear HC HBA hbz hmk
      have HB29 := Lib.hid (HB28.out.trans (hb29.mono HB28.out.size))
      have HU29 := Lib.hid (HU28.out.below hb29)
      have HV29 := Lib.hid (HV28.out.below hb29)
      have hs29 := hb29.size
      clear hb29
      go_upto_region 21 with fail
      go_wp2_with fail
      refine (E_any 7 w29).mono ?_
      rintro e w30 ⟨rfl, hb30⟩
      have HB30 := Lib.hid (HB29.out.trans (hb30.mono HB29.out.size))
      have HU30 := Lib.hid (HU29.out.below hb30)
      have HV30 := Lib.hid (HV29.out.below hb30)
      have hs30 := hb30.size
      clear hb30
      go_wp2_with fail
      refine (At1_any 4 1 7 w30).mono ?_
      rintro e w31 ⟨g31, k31, rfl, hx31, -, hb31⟩
      have HG31 := Lib.hid hx31
      clear hx31
      have HB31 := Lib.hid (HB30.out.trans (hb31.mono HB30.out.size))
      have HU31 := Lib.hid (HU30.out.below hb31)
      have HV31 := Lib.hid (HV30.out.below hb31)
      have hs31 := hb31.size
      clear hb31
      have HS := Lib.hid (same_bug (bug := some (7, some (4, 1))) (x := ⟨7, some ⟨g31, 0, none⟩, 1, k31⟩) (base := 0) (base' := 0) HU31.out ⟨g31, k31, rfl, HG31.out, Nat.zero_le _⟩ (fun p hp => by injection hp with hp; subst hp; exact (by decide : (7 : Int) ≠ 0)) (HW.out.below HB31.out).errT)
      go_wp2_with fail
      refine HS.out.mono ?_
      rintro e w32 ⟨rfl, hb32⟩
      clear HS
      have HB32 := Lib.hid (HB31.out.trans (hb32.mono HB31.out.size))
      have HU32 := Lib.hid (HU31.out.below hb32)
      have HV32 := Lib.hid (HV31.out.below hb32)
      have hs32 := hb32.size
      clear hb32
      go_wp2_with fail
      refine (E_any 8 w32).mono ?_
      rintro e w33 ⟨rfl, hb33⟩
      have HB33 := Lib.hid (HB32.out.trans (hb33.mono HB32.out.size))
      have HU33 := Lib.hid (HU32.out.below hb33)
      have HV33 := Lib.hid (HV32.out.below hb33)
      have hs33 := hb33.size
      clear hb33
      go_wp2_with fail
      refine (At1_any 4 0 8 w33).mono ?_
      rintro e w34 ⟨g34, k34, rfl, hx34, -, hb34⟩
      have HG34 := Lib.hid hx34
      clear hx34
      have HB34 := Lib.hid (HB33.out.trans (hb34.mono HB33.out.size))
      have HU34 := Lib.hid (HU33.out.below hb34)
      have HV34 := Lib.hid (HV33.out.below hb34)
      have hs34 := hb34.size
      clear hb34
      have HS := Lib.hid (same_bug (bug := some (8, some (4, 0))) (x := ⟨8, some ⟨g34, 0, none⟩, 1, k34⟩) (base := 0) (base' := 0) HV34.out ⟨g34, k34, rfl, HG34.out, Nat.zero_le _⟩ (fun p hp => by injection hp with hp; subst hp; exact (by decide : (8 : Int) ≠ 0)) (HW.out.below HB34.out).errT)
      go_wp2_with fail
      refine HS.out.mono ?_
      rintro e w35 ⟨rfl, hb35⟩
      clear HS
      have HB35 := Lib.hid (HB34.out.trans (hb35.mono HB34.out.size))
      have HU35 := Lib.hid (HU34.out.below hb35)
      have HV35 := Lib.hid (HV34.out.below hb35)
      have hs35 := hb35.size
      clear hb35
      go_wp2_with fail
      refine (E_any 9 w35).mono ?_
      rintro e w36 ⟨rfl, hb36⟩
      have HB36 := Lib.hid (HB35.out.trans (hb36.mono HB35.out.size))
      have hs36 := hb36.size
      clear hb36
      have HS := Lib.hid (same_bug (bug := some (9, none)) (x := ⟨9, none, 0, 0⟩) (base := 0) (base' := 0) (v := Value.iface 49 (Value.int .i64 9)) rfl rfl (fun p hp => by injection hp with hp; subst hp; exact (by decide : (9 : Int) ≠ 0)) (HW.out.below HB36.out).errT)
      go_wp2_with fail
      refine HS.out.mono ?_
      rintro e w37 ⟨rfl, hb37⟩
      clear HS
      have HB37 := Lib.hid (HB36.out.trans (hb37.mono HB36.out.size))
      have hs37 := hb37.size
      clear hb37
      have hbz := (Below.refl w37.heap.size w37).alloc (Nat.le_refl _) (.cells (rowZ 262144) 54)
      have hrd : RdA (w37.alloc (.cells (rowZ 262144) 54)) (some ⟨w37.heap.size, 0, none⟩) 262144 (List.replicate 262144 zA) := by
        have h := rd_new encA_len w37 54 (List.replicate 262144 zA)
        rw [List.length_replicate] at h
        exact h
      have HC := Lib.hid (zero_check 262144 (by omega) (some ⟨w37.heap.size, 0, none⟩) 262144 (w37.alloc (.cells (rowZ 262144) 54)) hrd)
      have hmk := make_b w37
      have HBA := Lib.hid hbz
      clear hbz hrd
      go_wp2_with fail
      refine HC.out.mono ?_
      intro e w38 he
      rw [if_neg (by omega)] at he
      obtain ⟨hbz, he⟩ := he
      dsimp only at he
      subst he
      have hb38 : Below w37.heap.size w37 w38 := HBA.out.trans (hbz.mono HBA.out.size)
      clear HC HBA hbz hmk
      have HB38 := Lib.hid (HB37.out.trans (hb38.mono HB37.out.size))
      have hs38 := hb38.size
      clear hb38
      have HC := Lib.hid (GCheck_any ⟨65537, []⟩ none 0 w38 Rd.nil (by decide))
      go_wp2_with fail
      refine HC.out.mono ?_
      rintro e w39 ⟨hb39, he⟩
      rw [show chkT ⟨65537, []⟩ = some (9, none) by decide] at he
      dsimp only at he
      subst he
      clear HC
      have HB39 := Lib.hid (HB38.out.trans (hb39.mono HB38.out.size))
      have hs39 := hb39.size
      clear hb39
      go_wp2_with fail
      refine (E_any 9 w39).mono ?_
      rintro e w40 ⟨rfl, hb40⟩
      have HB40 := Lib.hid (HB39.out.trans (hb40.mono HB39.out.size))
      have hs40 := hb40.size
      clear hb40
      have HS := Lib.hid (same_bug (bug := some (9, none)) (x := ⟨9, none, 0, 0⟩) (base := 0) (base' := 0) (v := Value.iface 49 (Value.int .i64 9)) rfl rfl (fun p hp => by injection hp with hp; subst hp; exact (by decide : (9 : Int) ≠ 0)) (HW.out.below HB40.out).errT)
      go_wp2_with fail
      refine HS.out.mono ?_
      rintro e w41 ⟨rfl, hb41⟩
      clear HS
      have HB41 := Lib.hid (HB40.out.trans (hb41.mono HB40.out.size))
      have hs41 := hb41.size
      clear hb41
      go_wp2_with fail
      rw [HQ0.out]
      go_ret
      exact ⟨rfl, HB41.out⟩
end Go.Proofs.YtngihiebkbheaaaGreatDoor

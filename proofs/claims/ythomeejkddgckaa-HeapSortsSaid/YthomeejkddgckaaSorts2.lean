/- The law HeapSorts: what was put in comes out by keys, alike ones by ids. -/
import Derived.Test.YthomeejkddgckaaSorts
set_option linter.unusedSimpArgs false
set_option linter.unusedVariables false
namespace Go.Proofs.Ythomeejkddgckaa
open Go.RowKit

set_option maxHeartbeats 8000000 in
set_option maxRecDepth 100000 in
theorem HeapSorts_walk (a0 : Option Addr) (len0 cap0 : Nat) (z0 : List Int) (a1 : Option Addr) (len1 cap1 : Nat) (z1 : List Int) (w : World) (w0 : IsRow .u64 w a0 len0 cap0 z0) (y0 : len0 * 8 ≤ 140737488351232)
    (w1 : IsRow .u32 w a1 len1 cap1 z1) (y1 : len1 * 4 ≤ 140737488351232) :
    Calls Try.prog 3 #[.slice a0 len0 cap0, .slice a1 len1 cap1] w (BoolBelow true w) := by
  obtain ⟨hlc0, hcm0⟩ := w0.cap
  obtain ⟨hlc1, hcm1⟩ := w1.cap
  have HK := Lib.hid w0.rd
  have HI := Lib.hid w1.rd
  have HKL := Lib.hid w0.rd.1
  have HIL := Lib.hid w1.rd.1
  have HIW : Hid (∀ i ∈ z1.take len1, 0 ≤ i ∧ i ≤ 4294967295) := Lib.hid (fun b hb => by
    have h := w1.wf b hb
    simpa [Lit.wf, IntKind.min, IntKind.max, IntKind.signed, IntKind.bits] using h)
  clear w0 w1
  generalize z0.take len0 = ks at *
  generalize z1.take len1 = is at *
  go_enter Try.func3, Try.ntmps3
  go_wp2_with fail
  refine (awake_any w).mono ?_
  rintro e x0 ⟨rfl, hb⟩
  have B0 := Lib.hid hb
  clear hb
  by_cases hsmall : len1 ≤ 3000 ∧ len1 ≤ len0
  · obtain ⟨hs1, hs2⟩ := hsmall
    have g1 : decide ((3000 : Int) < (len1 : Int)) = false := decide_eq_false (by omega)
    have g2 : decide ((len0 : Int) < (len1 : Int)) = false := decide_eq_false (by omega)
    have g3 : decide (3000 < len1) = false := decide_eq_false (by omega)
    have g4 : decide (len0 < len1) = false := decide_eq_false (by omega)
    go_wp2_with fail
    clear g1 g2 g3 g4
    refine (New_ok len1 x0 (by omega) w.heap.size B0.out.size).mono ?_
    rintro e x1 ⟨b, ga, rfl, h1, hb1, hbb, hgg⟩
    have H1 := Lib.hid h1
    have B1 := Lib.hid (B0.out.trans (hb1.mono B0.out.size))
    have HLT : Hid (b < x1.heap.size ∧ ga < x1.heap.size) := Lib.hid ⟨(h1.lt b (.inl rfl)).2, (h1.lt ga (.inr (.inl rfl))).2⟩
    clear h1 hb1 hbb hgg
    have hmk : ∀ W : World, (Instr.makeSlice 22 (.int .i64 (len1 : Int)) (.int .i64 (len1 : Int))).run Try.prog W = .ok (.slice (some ⟨W.heap.size, 0, none⟩) len1 len1) (W.alloc (.cells (numsA (List.replicate len1 0)) 33)) := fun W => by
      obtain ⟨i, hi, hz0, hz1, hz2⟩ := info_parts info_u64
      have h := run_make (P := Try.prog) W 22 33 i _ Try.underlying22 hi hz0 .i64 .i64 (len1 : Int) (len1 : Int) (by omega) (by omega) (by rw [hz2]; omega) (by omega)
      rw [h, hz1, Nat.mul_one, Int.toNat_natCast]
      exact congrArg (fun c => Result.ok (Value.slice (some ⟨W.heap.size, 0, none⟩) len1 len1) (W.alloc (.cells c 33))) (made_nums len1)
    have hmk2 : ∀ W : World, (Instr.makeSlice 30 (.int .i64 (len1 : Int)) (.int .i64 (len1 : Int))).run Try.prog W = .ok (.slice (some ⟨W.heap.size, 0, none⟩) len1 len1) (W.alloc (.cells (flagsA (noneH len1)) 4)) := fun W => by
      obtain ⟨i, hi, hz0, hz1, hz2⟩ := info_parts info_bool
      have h := run_make (P := Try.prog) W 30 4 i _ Try.underlying30 hi hz0 .i64 .i64 (len1 : Int) (len1 : Int) (by omega) (by omega) (by rw [hz2]; omega) (by omega)
      rw [h, hz1, Nat.mul_one, Int.toNat_natCast]
      exact congrArg (fun c => Result.ok (Value.slice (some ⟨W.heap.size, 0, none⟩) len1 len1) (W.alloc (.cells c 4))) (made_flags len1)
    go_wp2_with go_region
    · have HT1 := Lib.hid (two_new2 H1.out B1.out)
      clear hmk hmk2 H1 B1 HLT
      generalize ((x1.alloc (.cells (numsA (List.replicate len1 0)) 33)).alloc (.cells (flagsA (noneH len1)) 4)).drew = W1 at *
      generalize x1.heap.size + 1 = y at *
      generalize x1.heap.size = x at *
      go_loopw [10, 50] (fun cv iv wr => ∃ (j : Nat) (v : Value) (vs : List Int) (m : List (Option Int)), j ≤ len1 ∧ iv = .int .i64 j ∧ cv = .int .i64 (m.countP Option.isSome : Nat) ∧ m.length = len1 ∧ Two w wr b ga v x y vs m m) (fun _ iv _ => len1 - (intOf iv).toNat)
      case atStart => exact ⟨0, _, _, _, by omega, rfl, by simp [noneH, List.countP_replicate], by simp [noneH], HT1.out⟩
      case round =>
        obtain ⟨j, v, vs, m, hj, rfl, rfl, hml, ht⟩ := hrel
        have HT := Lib.hid ht
        have HML := Lib.hid hml
        clear ht hml HT1
        by_cases hlt : j < len1
        · obtain ⟨ad1, e1, c1⟩ := (HI.out.below HT.out.bel).at1 (f := Value.int .u32) hlt
          obtain ⟨ad0, e0, c0⟩ := (HK.out.below HT.out.bel).at1 (f := Value.int .u64) (show j < len0 by omega)
          subst e1 e0
          have hz := HIW.out _ (List.getElem_mem (show j < is.length by rw [HIL.out]; exact hlt))
          generalize is[j]'(by rw [HIL.out]; exact hlt) = z at *
          generalize ks[j]'(by rw [HKL.out]; omega) = key at *
          obtain ⟨i, hi⟩ : ∃ i : Nat, z % (len1 : Int) = i := ⟨(z % (len1 : Int)).toNat, by have := Int.emod_nonneg z (show (len1 : Int) ≠ 0 by omega); omega⟩
          have hil : i < len1 := by have := Int.emod_lt_of_pos z (show (0 : Int) < len1 by omega); omega
          have HZI := Lib.hid hi
          clear hi
          go_wp2_with fail
          rw [HZI.out]
          refine (Push_any HT.out.hp i (by omega) key HT.out.bel.size).mono ?_
          rintro e wp ⟨rfl, ha⟩
          rw [err_in (show i < m.length by rw [HML.out]; exact hil)]
          obtain ⟨v2, ht2⟩ := HT.out.after ha
          have HT2 := Lib.hid ht2
          clear ha ht2
          have hmi := List.getElem?_eq_getElem (show i < m.length by rw [HML.out]; exact hil)
          have hvi := List.getElem?_eq_getElem (show i < vs.length by rw [HT.out.doc.len, HML.out]; exact hil)
          generalize m[i]'(by rw [HML.out]; exact hil) = o at hmi
          generalize vs[i]'(by rw [HT.out.doc.len, HML.out]; exact hil) = vi at hvi
          have HMI := Lib.hid hmi
          have HVI := Lib.hid hvi
          have HKP : Hid (∀ W, Below w.heap.size w W → W.cell? (ad0.add j) = some (.int .u64 key)) := Lib.hid (fun W hb => by
            have hjk : j < ks.length := by rw [HKL.out]; omega
            obtain ⟨ad', e', c'⟩ := (HK.out.below hb).at1 (f := Value.int .u64) (show j < len0 by omega)
            injection e' with e'
            subst e'
            have e2 := (HK.out.below HT.out.bel).at1 (f := Value.int .u64) (show j < len0 by omega)
            obtain ⟨ad'', e'', c''⟩ := e2
            injection e'' with e''
            subst e''
            rw [c0] at c''
            rw [c', ← c''])
          have k0 := HKP.out wp HT2.out.bel
          have d0 : wp.cell? ⟨x, i, none⟩ = some (.int .u64 vi) := (HT2.out.doc.nums.cell i).trans (numsA_get hvi)
          have d1 : wp.cell? ⟨y, i, none⟩ = some (.bool o.isSome) := (HT2.out.doc.flags.cell i).trans (flagsA_get hmi)
          have f0 : wp.frozen? ⟨x, i, none⟩ = false := HT2.out.doc.nums.frozen i
          have f1 : wp.frozen? ⟨y, i, none⟩ = false := HT2.out.doc.flags.frozen i
          have nxy : ¬ x = y := HT2.out.doc.ne
          have nyx : ¬ y = x := fun e => HT2.out.doc.ne e.symm
          clear c0 c1 hmi hvi hz
          cases o with
          | none =>
            simp only [Option.isSome_none] at d1
            have HL : Hid (lookH m i = none) := Lib.hid (get_look HMI.out)
            go_wp2_with fail
            have HT3 := Lib.hid ((HT2.out.set_ (p := ⟨x, i, none⟩) (.inl rfl) (.int .u64 key) (HT2.out.doc.num HMI.out key none (.inl ⟨rfl, rfl⟩))).set_ (p := ⟨y, i, none⟩) (.inr rfl) (.bool true) ((HT2.out.doc.num HMI.out key none (.inl ⟨rfl, rfl⟩)).flag (k := key) (by rw [get_set _ (lt_of_get HVI.out), if_pos rfl])))
            rw [List.set_set] at HT3
            have HPM : Hid (pushM m i key = m.set i (some key)) := Lib.hid (by unfold pushM; rw [HL.out])
            rw [HPM.out] at HT3
            have HCN : Hid (((m.set i (some key)).countP Option.isSome : Nat) = m.countP Option.isSome + 1) := Lib.hid (count_set_some key HMI.out)
            have hcl : m.countP Option.isSome ≤ len1 := by rw [← HML.out]; exact List.countP_le_length
            clear d0 d1 f0 f1 k0 nxy nyx
            generalize (wp.setCell ⟨x, i, none⟩ (.int .u64 key)).setCell ⟨y, i, none⟩ (.bool true) = wq at *
            have k0 := HKP.out wq HT3.out.bel
            have hv3 : (vs.set i key)[i]? = some key := by rw [get_set _ (lt_of_get HVI.out), if_pos rfl]
            have hm3 : (m.set i (some key))[i]? = some (some key) := by rw [get_set _ (lt_of_get HMI.out), if_pos rfl]
            have HV3 := Lib.hid hv3
            have HM3 := Lib.hid hm3
            have d0 : wq.cell? ⟨x, i, none⟩ = some (.int .u64 key) := (HT3.out.doc.nums.cell i).trans (numsA_get hv3)
            have f0 : wq.frozen? ⟨x, i, none⟩ = false := HT3.out.doc.nums.frozen i
            clear hv3 hm3
            go_wp2_with go_region
            have HT4 := Lib.hid ((HT3.out.set_ (p := ⟨x, i, none⟩) (.inl rfl) (.int .u64 key) (HT3.out.doc.num HM3.out key (some key) (.inr ⟨rfl, rfl⟩))).below (Below.refl _ _).drew)
            rw [List.set_set, List.set_set] at HT4
            go_roundw
            case rel => exact ⟨j + 1, v2, _, m.set i (some key), by omega, by go_num, val_int (by rw [HCN.out, IntWalk.wrap64_in _ (by omega)]; omega), by rw [List.length_set]; exact HML.out, HT4.out⟩
            case measure => simp [intOf]; omega
          | some old =>
            simp only [Option.isSome_some] at d1
            have HL : Hid (lookH m i = some old) := Lib.hid (get_look HMI.out)
            have hvo : vi = old := by have e := HT.out.doc.val i old HMI.out; rw [HVI.out] at e; exact Option.some.inj e
            subst hvo
            go_wp2_with fail
            have HT3 := Lib.hid (HT2.out.set_ (p := ⟨y, i, none⟩) (.inr rfl) (.bool true) (HT2.out.doc.flag (k := vi) HVI.out))
            rw [set_self HMI.out] at HT3
            clear d0 d1 f0 f1 k0 nxy nyx
            generalize wp.setCell ⟨y, i, none⟩ (.bool true) = wq at *
            have k0 := HKP.out wq HT3.out.bel
            have d0 : wq.cell? ⟨x, i, none⟩ = some (.int .u64 vi) := (HT3.out.doc.nums.cell i).trans (numsA_get HVI.out)
            have f0 : wq.frozen? ⟨x, i, none⟩ = false := HT3.out.doc.nums.frozen i
            by_cases ho : vi ≤ key
            · have HO := Lib.hid ho
              go_wp2_with go_region
              have HT4 := Lib.hid ((HT3.out.set_ (p := ⟨x, i, none⟩) (.inl rfl) (.int .u64 vi) (HT3.out.doc.num HMI.out vi (some vi) (.inr ⟨rfl, rfl⟩))).below (Below.refl _ _).drew)
              rw [set_self HMI.out, show pushM m i key = m by unfold pushM; rw [HL.out]; exact if_pos HO.out] at HT4
              go_roundw
              case rel => exact ⟨j + 1, v2, _, m, by omega, by go_num, rfl, HML.out, HT4.out⟩
              case measure => simp [intOf]; omega
            · have HO : Hid (¬ vi ≤ key) := Lib.hid ho
              go_wp2_with go_region
              have HT4 := Lib.hid ((HT3.out.set_ (p := ⟨x, i, none⟩) (.inl rfl) (.int .u64 key) (HT3.out.doc.num HMI.out key (some key) (.inr ⟨rfl, rfl⟩))).below (Below.refl _ _).drew)
              rw [show pushM m i key = m.set i (some key) by unfold pushM; rw [HL.out]; exact if_neg HO.out] at HT4
              go_roundw
              case rel => exact ⟨j + 1, v2, _, m.set i (some key), by omega, by go_num, val_int (by rw [count_same_some key HMI.out]), by rw [List.length_set]; exact HML.out, HT4.out⟩
              case measure => simp [intOf]; omega
        · obtain rfl : j = len1 := by omega
          clear hlt
          have hcl : m.countP Option.isSome ≤ 3000 := by have h1 : m.countP Option.isSome ≤ m.length := List.countP_le_length; have := HML.out; omega
          go_wp2_with fail
          obtain ⟨W2, rfl⟩ : ∃ W2 : World, W2 = wr := ⟨_, rfl⟩
          go_loopw [13, 14, 98] (fun lv kv iv wl => ∃ (q : Nat) (l : Nat) (k : Int) (v' : Value) (vs' : List Int) (m' : List (Option Int)), iv = .int .i64 q ∧ lv = .int .u32 l ∧ kv = .int .u64 k ∧ q + m'.countP Option.isSome = m.countP Option.isSome ∧ m'.length = j ∧ (q = 0 ∨ ∀ (a : Nat) (ka : Int), lookH m' a = some ka → lessI (k, l) (ka, a)) ∧ Two w wl b ga v' x y vs' m' m') (fun _ _ iv _ => m.countP Option.isSome - (intOf iv).toNat)
          case atStart => exact ⟨0, 0, 0, v, vs, m, rfl, rfl, rfl, by omega, HML.out, .inl rfl, HT.out⟩
          case round =>
            obtain ⟨q, l, k, v', vs', m', rfl, rfl, rfl, hcnt, hml', hbe, ht'⟩ := hrel
            have HT' := Lib.hid ht'
            have HML' := Lib.hid hml'
            have HBE := Lib.hid hbe
            have HCN := Lib.hid hcnt
            clear ht' hml' hbe
            by_cases hlt : q < m.countP Option.isSome
            · have g0 : decide ((q : Int) < (m.countP Option.isSome : Nat)) = true := decide_eq_true (by omega)
              go_wp2_with fail
              refine (Top_any HT'.out.hp).mono ?_
              rintro e w5 ⟨⟨r, rfl, htop⟩, hd5⟩
              obtain ⟨xx, rfl⟩ := top_there (by omega) htop
              have HTOP := Lib.hid htop
              have HT5 := Lib.hid (HT'.out.below (hd5.below _))
              clear htop hd5
              simp only [topV]
              go_wp2_with fail
              refine (Pop_any HT5.out.hp).mono ?_
              rintro e w6 ⟨r, ⟨rfl, htop⟩, ha⟩
              obtain rfl := top_unique htop HTOP.out
              obtain ⟨v6, ht6⟩ := HT5.out.after ha
              have HT6 := Lib.hid ht6
              clear htop ha ht6
              simp only [topV]
              have hxl : xx.2 < m'.length := look_lt HTOP.out.1
              have hxj : xx.2 < j := by have := HML'.out; omega
              have d1 : w6.cell? ⟨y, xx.2, none⟩ = some (.bool true) := (HT6.out.doc.flags.cell xx.2).trans (flagsA_get (look_get HTOP.out.1))
              have d0 : w6.cell? ⟨x, xx.2, none⟩ = some (.int .u64 xx.1) := (HT6.out.doc.nums.cell xx.2).trans (numsA_get (HT6.out.doc.val _ _ (look_get HTOP.out.1)))
              have f1 : w6.frozen? ⟨y, xx.2, none⟩ = false := HT6.out.doc.flags.frozen xx.2
              have g1 : decide (j ≤ xx.2) = false := decide_eq_false (by omega)
              by_cases hq : q = 0
              · subst hq
                go_wp2_with fail
                have HT8 := Lib.hid ((HT6.out.set_ (p := ⟨y, xx.2, none⟩) (.inr rfl) (.bool false) (HT6.out.doc.clear_ hxl)).below (Below.refl _ _))
                go_roundw
                case rel => exact ⟨1, xx.2, xx.1, v6, vs', m'.set xx.2 none, rfl, rfl, rfl, by have := count_set_none (look_get HTOP.out.1); omega, by rw [List.length_set]; exact HML'.out, .inr (fun a ka h => rest_behind HTOP.out a ka h), HT8.out⟩
                case measure => simp [intOf]; omega
              · have hless : lessI (k, l) xx := (HBE.out.resolve_left hq) xx.2 xx.1 HTOP.out.1
                have gq : decide ((0 : Int) < (q : Int)) = true := decide_eq_true (by omega)
                have gq2 : decide (0 < q) = true := decide_eq_true (by omega)
                unfold lessI at hless
                dsimp only at hless
                by_cases hkx : k < xx.1
                · have g3 : decide (xx.1 < k) = false := decide_eq_false (by omega)
                  have g4 : (xx.1 == k) = false := by simp; omega
                  clear hless
                  go_wp2_with fail
                  have HT8 := Lib.hid ((HT6.out.set_ (p := ⟨y, xx.2, none⟩) (.inr rfl) (.bool false) (HT6.out.doc.clear_ hxl)).below (Below.refl _ _))
                  go_roundw
                  case rel => exact ⟨q + 1, xx.2, xx.1, v6, vs', m'.set xx.2 none, by go_num, rfl, rfl, by have := count_set_none (look_get HTOP.out.1); omega, by rw [List.length_set]; exact HML'.out, .inr (fun a ka h => rest_behind HTOP.out a ka h), HT8.out⟩
                  case measure => simp [intOf]; omega
                · have hk2 : k = xx.1 := by omega
                  have hl2 : l < xx.2 := by omega
                  subst hk2
                  have g3 : decide (xx.2 ≤ l) = false := decide_eq_false (by omega)
                  clear hless hkx
                  go_wp2_with fail
                  have HT8 := Lib.hid ((HT6.out.set_ (p := ⟨y, xx.2, none⟩) (.inr rfl) (.bool false) (HT6.out.doc.clear_ hxl)).below (Below.refl _ _))
                  go_roundw
                  case rel => exact ⟨q + 1, xx.2, xx.1, v6, vs', m'.set xx.2 none, by go_num, rfl, rfl, by have := count_set_none (look_get HTOP.out.1); omega, by rw [List.length_set]; exact HML'.out, .inr (fun a ka h => rest_behind HTOP.out a ka h), HT8.out⟩
                  case measure => simp [intOf]; omega
            · have hc0 : m'.countP Option.isSome = 0 := by omega
              have g0 : decide ((q : Int) < (m.countP Option.isSome : Nat)) = false := decide_eq_false (by omega)
              go_wp2_with fail
              refine (Pop_any HT'.out.hp).mono ?_
              rintro e w5 ⟨r, ⟨rfl, htop⟩, ha⟩
              obtain rfl := top_empty hc0 htop
              obtain ⟨v6, ht6⟩ := HT'.out.after ha
              have HT6 := Lib.hid ht6
              have HC0 := Lib.hid hc0
              clear htop ha ht6 hc0
              simp only [topV]
              go_wp2_with fail
              refine (Len_any HT6.out.hp).mono ?_
              rintro e w7 ⟨rfl, h⟩
              obtain rfl := h.symm
              clear h
              rw [show (popM m' none).countP Option.isSome = 0 from HC0.out]
              go_wp2_with fail
              go_ret
              exact ⟨rfl, HT6.out.bel⟩
    · have HT1 := Lib.hid (two_new1 H1.out B1.out)
      clear hmk hmk2 H1 B1 HLT
      generalize ((x1.alloc (.cells (flagsA (noneH len1)) 4)).alloc (.cells (numsA (List.replicate len1 0)) 33)).drew = W1 at *
      generalize x1.heap.size + 1 = x at *
      generalize x1.heap.size = y at *
      go_loopw [10, 50] (fun cv iv wr => ∃ (j : Nat) (v : Value) (vs : List Int) (m : List (Option Int)), j ≤ len1 ∧ iv = .int .i64 j ∧ cv = .int .i64 (m.countP Option.isSome : Nat) ∧ m.length = len1 ∧ Two w wr b ga v x y vs m m) (fun _ iv _ => len1 - (intOf iv).toNat)
      case atStart => exact ⟨0, _, _, _, by omega, rfl, by simp [noneH, List.countP_replicate], by simp [noneH], HT1.out⟩
      case round =>
        obtain ⟨j, v, vs, m, hj, rfl, rfl, hml, ht⟩ := hrel
        have HT := Lib.hid ht
        have HML := Lib.hid hml
        clear ht hml HT1
        by_cases hlt : j < len1
        · obtain ⟨ad1, e1, c1⟩ := (HI.out.below HT.out.bel).at1 (f := Value.int .u32) hlt
          obtain ⟨ad0, e0, c0⟩ := (HK.out.below HT.out.bel).at1 (f := Value.int .u64) (show j < len0 by omega)
          subst e1 e0
          have hz := HIW.out _ (List.getElem_mem (show j < is.length by rw [HIL.out]; exact hlt))
          generalize is[j]'(by rw [HIL.out]; exact hlt) = z at *
          generalize ks[j]'(by rw [HKL.out]; omega) = key at *
          obtain ⟨i, hi⟩ : ∃ i : Nat, z % (len1 : Int) = i := ⟨(z % (len1 : Int)).toNat, by have := Int.emod_nonneg z (show (len1 : Int) ≠ 0 by omega); omega⟩
          have hil : i < len1 := by have := Int.emod_lt_of_pos z (show (0 : Int) < len1 by omega); omega
          have HZI := Lib.hid hi
          clear hi
          go_wp2_with fail
          rw [HZI.out]
          refine (Push_any HT.out.hp i (by omega) key HT.out.bel.size).mono ?_
          rintro e wp ⟨rfl, ha⟩
          rw [err_in (show i < m.length by rw [HML.out]; exact hil)]
          obtain ⟨v2, ht2⟩ := HT.out.after ha
          have HT2 := Lib.hid ht2
          clear ha ht2
          have hmi := List.getElem?_eq_getElem (show i < m.length by rw [HML.out]; exact hil)
          have hvi := List.getElem?_eq_getElem (show i < vs.length by rw [HT.out.doc.len, HML.out]; exact hil)
          generalize m[i]'(by rw [HML.out]; exact hil) = o at hmi
          generalize vs[i]'(by rw [HT.out.doc.len, HML.out]; exact hil) = vi at hvi
          have HMI := Lib.hid hmi
          have HVI := Lib.hid hvi
          have HKP : Hid (∀ W, Below w.heap.size w W → W.cell? (ad0.add j) = some (.int .u64 key)) := Lib.hid (fun W hb => by
            have hjk : j < ks.length := by rw [HKL.out]; omega
            obtain ⟨ad', e', c'⟩ := (HK.out.below hb).at1 (f := Value.int .u64) (show j < len0 by omega)
            injection e' with e'
            subst e'
            have e2 := (HK.out.below HT.out.bel).at1 (f := Value.int .u64) (show j < len0 by omega)
            obtain ⟨ad'', e'', c''⟩ := e2
            injection e'' with e''
            subst e''
            rw [c0] at c''
            rw [c', ← c''])
          have k0 := HKP.out wp HT2.out.bel
          have d0 : wp.cell? ⟨x, i, none⟩ = some (.int .u64 vi) := (HT2.out.doc.nums.cell i).trans (numsA_get hvi)
          have d1 : wp.cell? ⟨y, i, none⟩ = some (.bool o.isSome) := (HT2.out.doc.flags.cell i).trans (flagsA_get hmi)
          have f0 : wp.frozen? ⟨x, i, none⟩ = false := HT2.out.doc.nums.frozen i
          have f1 : wp.frozen? ⟨y, i, none⟩ = false := HT2.out.doc.flags.frozen i
          have nxy : ¬ x = y := HT2.out.doc.ne
          have nyx : ¬ y = x := fun e => HT2.out.doc.ne e.symm
          clear c0 c1 hmi hvi hz
          cases o with
          | none =>
            simp only [Option.isSome_none] at d1
            have HL : Hid (lookH m i = none) := Lib.hid (get_look HMI.out)
            go_wp2_with fail
            have HT3 := Lib.hid ((HT2.out.set_ (p := ⟨x, i, none⟩) (.inl rfl) (.int .u64 key) (HT2.out.doc.num HMI.out key none (.inl ⟨rfl, rfl⟩))).set_ (p := ⟨y, i, none⟩) (.inr rfl) (.bool true) ((HT2.out.doc.num HMI.out key none (.inl ⟨rfl, rfl⟩)).flag (k := key) (by rw [get_set _ (lt_of_get HVI.out), if_pos rfl])))
            rw [List.set_set] at HT3
            have HPM : Hid (pushM m i key = m.set i (some key)) := Lib.hid (by unfold pushM; rw [HL.out])
            rw [HPM.out] at HT3
            have HCN : Hid (((m.set i (some key)).countP Option.isSome : Nat) = m.countP Option.isSome + 1) := Lib.hid (count_set_some key HMI.out)
            have hcl : m.countP Option.isSome ≤ len1 := by rw [← HML.out]; exact List.countP_le_length
            clear d0 d1 f0 f1 k0 nxy nyx
            generalize (wp.setCell ⟨x, i, none⟩ (.int .u64 key)).setCell ⟨y, i, none⟩ (.bool true) = wq at *
            have k0 := HKP.out wq HT3.out.bel
            have hv3 : (vs.set i key)[i]? = some key := by rw [get_set _ (lt_of_get HVI.out), if_pos rfl]
            have hm3 : (m.set i (some key))[i]? = some (some key) := by rw [get_set _ (lt_of_get HMI.out), if_pos rfl]
            have HV3 := Lib.hid hv3
            have HM3 := Lib.hid hm3
            have d0 : wq.cell? ⟨x, i, none⟩ = some (.int .u64 key) := (HT3.out.doc.nums.cell i).trans (numsA_get hv3)
            have f0 : wq.frozen? ⟨x, i, none⟩ = false := HT3.out.doc.nums.frozen i
            clear hv3 hm3
            go_wp2_with go_region
            have HT4 := Lib.hid ((HT3.out.set_ (p := ⟨x, i, none⟩) (.inl rfl) (.int .u64 key) (HT3.out.doc.num HM3.out key (some key) (.inr ⟨rfl, rfl⟩))).below (Below.refl _ _).drew)
            rw [List.set_set, List.set_set] at HT4
            go_roundw
            case rel => exact ⟨j + 1, v2, _, m.set i (some key), by omega, by go_num, val_int (by rw [HCN.out, IntWalk.wrap64_in _ (by omega)]; omega), by rw [List.length_set]; exact HML.out, HT4.out⟩
            case measure => simp [intOf]; omega
          | some old =>
            simp only [Option.isSome_some] at d1
            have HL : Hid (lookH m i = some old) := Lib.hid (get_look HMI.out)
            have hvo : vi = old := by have e := HT.out.doc.val i old HMI.out; rw [HVI.out] at e; exact Option.some.inj e
            subst hvo
            go_wp2_with fail
            have HT3 := Lib.hid (HT2.out.set_ (p := ⟨y, i, none⟩) (.inr rfl) (.bool true) (HT2.out.doc.flag (k := vi) HVI.out))
            rw [set_self HMI.out] at HT3
            clear d0 d1 f0 f1 k0 nxy nyx
            generalize wp.setCell ⟨y, i, none⟩ (.bool true) = wq at *
            have k0 := HKP.out wq HT3.out.bel
            have d0 : wq.cell? ⟨x, i, none⟩ = some (.int .u64 vi) := (HT3.out.doc.nums.cell i).trans (numsA_get HVI.out)
            have f0 : wq.frozen? ⟨x, i, none⟩ = false := HT3.out.doc.nums.frozen i
            by_cases ho : vi ≤ key
            · have HO := Lib.hid ho
              go_wp2_with go_region
              have HT4 := Lib.hid ((HT3.out.set_ (p := ⟨x, i, none⟩) (.inl rfl) (.int .u64 vi) (HT3.out.doc.num HMI.out vi (some vi) (.inr ⟨rfl, rfl⟩))).below (Below.refl _ _).drew)
              rw [set_self HMI.out, show pushM m i key = m by unfold pushM; rw [HL.out]; exact if_pos HO.out] at HT4
              go_roundw
              case rel => exact ⟨j + 1, v2, _, m, by omega, by go_num, rfl, HML.out, HT4.out⟩
              case measure => simp [intOf]; omega
            · have HO : Hid (¬ vi ≤ key) := Lib.hid ho
              go_wp2_with go_region
              have HT4 := Lib.hid ((HT3.out.set_ (p := ⟨x, i, none⟩) (.inl rfl) (.int .u64 key) (HT3.out.doc.num HMI.out key (some key) (.inr ⟨rfl, rfl⟩))).below (Below.refl _ _).drew)
              rw [show pushM m i key = m.set i (some key) by unfold pushM; rw [HL.out]; exact if_neg HO.out] at HT4
              go_roundw
              case rel => exact ⟨j + 1, v2, _, m.set i (some key), by omega, by go_num, val_int (by rw [count_same_some key HMI.out]), by rw [List.length_set]; exact HML.out, HT4.out⟩
              case measure => simp [intOf]; omega
        · obtain rfl : j = len1 := by omega
          clear hlt
          have hcl : m.countP Option.isSome ≤ 3000 := by have h1 : m.countP Option.isSome ≤ m.length := List.countP_le_length; have := HML.out; omega
          go_wp2_with fail
          obtain ⟨W2, rfl⟩ : ∃ W2 : World, W2 = wr := ⟨_, rfl⟩
          go_loopw [13, 14, 98] (fun lv kv iv wl => ∃ (q : Nat) (l : Nat) (k : Int) (v' : Value) (vs' : List Int) (m' : List (Option Int)), iv = .int .i64 q ∧ lv = .int .u32 l ∧ kv = .int .u64 k ∧ q + m'.countP Option.isSome = m.countP Option.isSome ∧ m'.length = j ∧ (q = 0 ∨ ∀ (a : Nat) (ka : Int), lookH m' a = some ka → lessI (k, l) (ka, a)) ∧ Two w wl b ga v' x y vs' m' m') (fun _ _ iv _ => m.countP Option.isSome - (intOf iv).toNat)
          case atStart => exact ⟨0, 0, 0, v, vs, m, rfl, rfl, rfl, by omega, HML.out, .inl rfl, HT.out⟩
          case round =>
            obtain ⟨q, l, k, v', vs', m', rfl, rfl, rfl, hcnt, hml', hbe, ht'⟩ := hrel
            have HT' := Lib.hid ht'
            have HML' := Lib.hid hml'
            have HBE := Lib.hid hbe
            have HCN := Lib.hid hcnt
            clear ht' hml' hbe
            by_cases hlt : q < m.countP Option.isSome
            · have g0 : decide ((q : Int) < (m.countP Option.isSome : Nat)) = true := decide_eq_true (by omega)
              go_wp2_with fail
              refine (Top_any HT'.out.hp).mono ?_
              rintro e w5 ⟨⟨r, rfl, htop⟩, hd5⟩
              obtain ⟨xx, rfl⟩ := top_there (by omega) htop
              have HTOP := Lib.hid htop
              have HT5 := Lib.hid (HT'.out.below (hd5.below _))
              clear htop hd5
              simp only [topV]
              go_wp2_with fail
              refine (Pop_any HT5.out.hp).mono ?_
              rintro e w6 ⟨r, ⟨rfl, htop⟩, ha⟩
              obtain rfl := top_unique htop HTOP.out
              obtain ⟨v6, ht6⟩ := HT5.out.after ha
              have HT6 := Lib.hid ht6
              clear htop ha ht6
              simp only [topV]
              have hxl : xx.2 < m'.length := look_lt HTOP.out.1
              have hxj : xx.2 < j := by have := HML'.out; omega
              have d1 : w6.cell? ⟨y, xx.2, none⟩ = some (.bool true) := (HT6.out.doc.flags.cell xx.2).trans (flagsA_get (look_get HTOP.out.1))
              have d0 : w6.cell? ⟨x, xx.2, none⟩ = some (.int .u64 xx.1) := (HT6.out.doc.nums.cell xx.2).trans (numsA_get (HT6.out.doc.val _ _ (look_get HTOP.out.1)))
              have f1 : w6.frozen? ⟨y, xx.2, none⟩ = false := HT6.out.doc.flags.frozen xx.2
              have g1 : decide (j ≤ xx.2) = false := decide_eq_false (by omega)
              by_cases hq : q = 0
              · subst hq
                go_wp2_with fail
                have HT8 := Lib.hid ((HT6.out.set_ (p := ⟨y, xx.2, none⟩) (.inr rfl) (.bool false) (HT6.out.doc.clear_ hxl)).below (Below.refl _ _))
                go_roundw
                case rel => exact ⟨1, xx.2, xx.1, v6, vs', m'.set xx.2 none, rfl, rfl, rfl, by have := count_set_none (look_get HTOP.out.1); omega, by rw [List.length_set]; exact HML'.out, .inr (fun a ka h => rest_behind HTOP.out a ka h), HT8.out⟩
                case measure => simp [intOf]; omega
              · have hless : lessI (k, l) xx := (HBE.out.resolve_left hq) xx.2 xx.1 HTOP.out.1
                have gq : decide ((0 : Int) < (q : Int)) = true := decide_eq_true (by omega)
                have gq2 : decide (0 < q) = true := decide_eq_true (by omega)
                unfold lessI at hless
                dsimp only at hless
                by_cases hkx : k < xx.1
                · have g3 : decide (xx.1 < k) = false := decide_eq_false (by omega)
                  have g4 : (xx.1 == k) = false := by simp; omega
                  clear hless
                  go_wp2_with fail
                  have HT8 := Lib.hid ((HT6.out.set_ (p := ⟨y, xx.2, none⟩) (.inr rfl) (.bool false) (HT6.out.doc.clear_ hxl)).below (Below.refl _ _))
                  go_roundw
                  case rel => exact ⟨q + 1, xx.2, xx.1, v6, vs', m'.set xx.2 none, by go_num, rfl, rfl, by have := count_set_none (look_get HTOP.out.1); omega, by rw [List.length_set]; exact HML'.out, .inr (fun a ka h => rest_behind HTOP.out a ka h), HT8.out⟩
                  case measure => simp [intOf]; omega
                · have hk2 : k = xx.1 := by omega
                  have hl2 : l < xx.2 := by omega
                  subst hk2
                  have g3 : decide (xx.2 ≤ l) = false := decide_eq_false (by omega)
                  clear hless hkx
                  go_wp2_with fail
                  have HT8 := Lib.hid ((HT6.out.set_ (p := ⟨y, xx.2, none⟩) (.inr rfl) (.bool false) (HT6.out.doc.clear_ hxl)).below (Below.refl _ _))
                  go_roundw
                  case rel => exact ⟨q + 1, xx.2, xx.1, v6, vs', m'.set xx.2 none, by go_num, rfl, rfl, by have := count_set_none (look_get HTOP.out.1); omega, by rw [List.length_set]; exact HML'.out, .inr (fun a ka h => rest_behind HTOP.out a ka h), HT8.out⟩
                  case measure => simp [intOf]; omega
            · have hc0 : m'.countP Option.isSome = 0 := by omega
              have g0 : decide ((q : Int) < (m.countP Option.isSome : Nat)) = false := decide_eq_false (by omega)
              go_wp2_with fail
              refine (Pop_any HT'.out.hp).mono ?_
              rintro e w5 ⟨r, ⟨rfl, htop⟩, ha⟩
              obtain rfl := top_empty hc0 htop
              obtain ⟨v6, ht6⟩ := HT'.out.after ha
              have HT6 := Lib.hid ht6
              have HC0 := Lib.hid hc0
              clear htop ha ht6 hc0
              simp only [topV]
              go_wp2_with fail
              refine (Len_any HT6.out.hp).mono ?_
              rintro e w7 ⟨rfl, h⟩
              obtain rfl := h.symm
              clear h
              rw [show (popM m' none).countP Option.isSome = 0 from HC0.out]
              go_wp2_with fail
              go_ret
              exact ⟨rfl, HT6.out.bel⟩
  · have hbig : 3000 < len1 ∨ (¬ 3000 < len1 ∧ len0 < len1) := by omega
    rcases hbig with h1 | ⟨h1, h2⟩
    · have g1 : decide ((3000 : Int) < (len1 : Int)) = true := decide_eq_true (by omega)
      go_wp2_with fail
      go_ret
      exact ⟨rfl, B0.out⟩
    · have g1 : decide ((3000 : Int) < (len1 : Int)) = false := decide_eq_false (by omega)
      have g2 : decide ((len0 : Int) < (len1 : Int)) = true := decide_eq_true (by omega)
      go_wp2_with fail
      go_ret
      exact ⟨rfl, B0.out⟩
end Go.Proofs.Ythomeejkddgckaa

/- The walk of pattern.printNumber. (Printed by gen_pnum.py.) -/
import Derived.Test.YtjpdakepfmepnaaDoorWhole
namespace Go.Proofs.YtjpdakepfmepnaaDoor
open Go.RowKit Go.Proofs.YtjpdakepfmepnaaDoorW.PrintWords Pat
set_option linter.unusedVariables false
set_option linter.unusedSimpArgs false

def least1 (p : Pat) : Int := if 0 < p.group then p.group + 1 else 1
theorem leastS_is (p : Pat) : leastS p = if 0 < p.second then p.group + p.second + 1 else least1 p := rfl
theorem wholeS_le {p : Pat} (h : POk p) : (wholeS p).length ≤ 80 := by
  have b5 := h.c5
  have b8 := h.c8
  have b9 := h.c9
  have bs8 := h.sg
  have hI := intS_le h
  by_cases hg : 0 < p.minSig
  · rw [whole_sig hg, List.length_append, List.length_replicate, List.length_replicate]; omega
  · rw [whole_int hg, List.length_append, List.length_replicate]; omega
theorem sharp_le {p : Pat} (h : POk p) : (sharpS p).length ≤ 161 := by
  have hw := wholeS_le h
  have b10 := h.c10
  have b11 := h.c11
  unfold sharpS leastS
  rw [List.length_append, List.length_replicate]
  split
  · omega
  · split <;> omega
theorem sharp_ge {p : Pat} (h : POk p) : leastS p ≤ (sharpS p).length := by
  unfold sharpS
  rw [List.length_append, List.length_replicate]
  omega
theorem extract_bs (l : List UInt8) (i j : Nat) : (bs l).extract i j = bs ((l.take j).drop i) := by
  apply ByteArray.ext
  apply Array.ext'
  simp [ByteArray.data_extract, List.extract, List.drop_take]
theorem fracStr_is (p : Pat) : fracStr p = if 0 < p.maxFrac then 46 :: ((if (p.sNeg == false && p.sInt == [] && p.sFrac == []) = true then List.replicate p.minFrac.toNat 48 else p.sFrac) ++ List.replicate (p.maxFrac - p.minFrac).toNat 35) else [] := rfl
theorem expStr_is (p : Pat) : expStr p = if 0 < p.exp then 69 :: ((if p.expPlus = true then [43] else []) ++ List.replicate p.exp.toNat 48) else [] := rfl
theorem comma_le {p : Pat} (h : POk p) : (commaS p).length ≤ 500 := by
  have hs := sharp_le h
  unfold commaS
  dsimp only
  split
  · split
    · simp only [List.length_append, List.length_cons, List.length_take, List.length_drop]; omega
    · simp only [List.length_append, List.length_cons, List.length_take, List.length_drop]; omega
  · omega
theorem comma_one {p : Pat} {S : ByteArray} {k : Nat} (h : 0 < p.group) (h2 : ¬ 0 < p.second) (hS : S = bs (sharpS p)) (hk : (k : Int) = ((sharpS p).length : Int) - p.group) : bs (commaS p) = S.extract 0 k ++ ((⟨#[44]⟩ : ByteArray) ++ S.extract k (sharpS p).length) := by
  have e : (sharpS p).length - p.group.toNat = k := by omega
  unfold commaS
  simp only [if_pos h, if_neg h2, e]
  rw [hS, extract_bs, extract_bs, List.take_length, List.drop_zero, bs_app]
  congr 1
theorem comma_two {p : Pat} {S : ByteArray} {k k2 : Nat} (h : 0 < p.group) (h2 : 0 < p.second) (hS : S = bs (sharpS p)) (hk : (k : Int) = ((sharpS p).length : Int) - p.group) (hk2 : (k2 : Int) = (k : Int) - p.second) : bs (commaS p) = S.extract 0 k2 ++ ((⟨#[44]⟩ : ByteArray) ++ S.extract k2 k ++ ((⟨#[44]⟩ : ByteArray) ++ S.extract k (sharpS p).length)) := by
  have e : (sharpS p).length - p.group.toNat = k := by omega
  have e2 : k - p.second.toNat = k2 := by omega
  have e3 : p.second.toNat = k - k2 := by omega
  unfold commaS
  simp only [if_pos h, if_pos h2, e, e2]
  rw [e3, hS, extract_bs, extract_bs, extract_bs, List.take_length, List.drop_zero, List.drop_take, List.append_assoc, bs_app]
  congr 1
attribute [local go_sem high] eqDec
set_option maxHeartbeats 4000000 in
set_option maxRecDepth 100000 in
theorem printNumber_any (s0 s1 s3 s4 : Sl) (p : Pat) (w : World) (hp : POk p) :
    Calls Tryd.prog 9 #[patV s0 s1 s3 s4 p] w fun e w' => e = .returned (.string (bs (numStr p))) ∧ Below w.heap.size w w' := by
  have hu := Tryd.underlying24
  have hu2 := Tryd.underlying26
  obtain ⟨cs, hcs⟩ : ∃ cs, cs = patCells s0 s1 s3 s4 p := ⟨_, rfl⟩
  show Calls Tryd.prog 9 #[.agg (patCells s0 s1 s3 s4 p)] w _
  have hsz := Lib.hid (show (Tryd.prog.info? 26).map (·.size) = some cs.size by rw [hcs]; exact sizePat)
  have HC := Lib.hid hcs
  have HW : Hid (∀ w0, Calls Tryd.prog 20 #[.agg cs] w0 fun e w' => e = .returned (.string (bs (wholeS p))) ∧ Below w0.heap.size w0 w') := Lib.hid fun w0 => by rw [hcs]; exact whole_any s0 s1 s3 s4 p w0 hp
  have k12 : ∀ wx : World, wx.heap[w.heap.size]? = some (.cells cs 26 (0, 0)) → _ := fun wx hx => (blk_cell hx 12).trans (by rw [HC.out]; rfl : _ = some (Value.bool p.sNeg))
  have k14 : ∀ wx : World, wx.heap[w.heap.size]? = some (.cells cs 26 (0, 0)) → _ := fun wx hx => (blk_cell hx 14).trans (by rw [HC.out]; rfl : _ = some (Value.string (bs p.sFrac)))
  have k13 : ∀ wx : World, wx.heap[w.heap.size]? = some (.cells cs 26 (0, 0)) → _ := fun wx hx => (blk_cell hx 13).trans (by rw [HC.out]; rfl : _ = some (Value.string (bs p.sInt)))
  have k16 : ∀ wx : World, wx.heap[w.heap.size]? = some (.cells cs 26 (0, 0)) → _ := fun wx hx => (blk_cell hx 16).trans (by rw [HC.out]; rfl : _ = some (Value.bool p.expPlus))
  have hf := fracStr_is p
  have he := expStr_is p
  have hln := hp.lens
  obtain ⟨ng, hng⟩ : ∃ b, b = p.sNeg := ⟨_, rfl⟩
  obtain ⟨si, hsi⟩ : ∃ b, b = p.sInt := ⟨_, rfl⟩
  obtain ⟨sf, hsf⟩ : ∃ b, b = p.sFrac := ⟨_, rfl⟩
  obtain ⟨pl, hpl⟩ : ∃ b, b = p.expPlus := ⟨_, rfl⟩
  rw [← hng] at hf k12
  rw [← hsi] at hf k13 hln
  rw [← hsf] at hf k14 hln
  rw [← hpl] at he k16
  clear hng hsi hsf hpl
  obtain ⟨B, hB⟩ : ∃ B, B = (ng == false && si == [] && sf == []) := ⟨_, rfl⟩
  rw [← hB] at hf
  have HB := Lib.hid hB
  have HF := Lib.hid hf
  have HE := Lib.hid he
  have K12 := Lib.hid k12
  have K13 := Lib.hid k13
  have K14 := Lib.hid k14
  have K16 := Lib.hid k16
  clear hB hf he k12 k13 k14 k16 hcs
  have b6 := hp.c6
  have b7 := hp.c7
  have b10 := hp.c10
  have b11 := hp.c11
  have b15 := hp.c15
  have bfr := hp.fr
  have bgr := hp.gr
  have hWl := wholeS_le hp
  have hSl := sharp_le hp
  have hSg := sharp_ge hp
  go_enter Tryd.func9, Tryd.ntmps9
  have hpc := Aside0.mk (show (w.alloc (.cells (patCells s0 s1 s3 s4 p) 26 (0, 0))).heap[w.heap.size]? = some (.cells cs 26 (0, 0)) by rw [HC.out]; exact blk_new w _)
  have hb := Aside0.mk (show Below w.heap.size w (w.alloc (.cells (patCells s0 s1 s3 s4 p) 26 (0, 0))) from below_alloc (Below.refl _ _) _)
  go_upto_region 3 with (first
    | ((with_reducible refine gate_ (.load 26 (.tmp 1)) rfl ?_); refine load_row_w (by rfl) 26 (.tmp 1) rfl w.heap.size rfl 26 cs (0, 0) _ hpc.out hu2 rfl hsz.out ?_)
    | (go_at_call 20; refine (HW.out _).mono ?_; rintro e w2 ⟨rfl, hb2⟩; have hq2 := Aside0.mk (blk_below hpc.out hb2); have hb' := Aside0.mk (below_step hb.out hb2); clear hb2))
  have k5 := (blk_cell hq2.out 5).trans (by rw [HC.out]; rfl : _ = some (Value.int .i64 p.minInt))
  have k6 := (blk_cell hq2.out 6).trans (by rw [HC.out]; rfl : _ = some (Value.int .i64 p.minFrac))
  have k7 := (blk_cell hq2.out 7).trans (by rw [HC.out]; rfl : _ = some (Value.int .i64 p.maxFrac))
  have k8 := (blk_cell hq2.out 8).trans (by rw [HC.out]; rfl : _ = some (Value.int .i64 p.minSig))
  have k9 := (blk_cell hq2.out 9).trans (by rw [HC.out]; rfl : _ = some (Value.int .i64 p.maxSig))
  have k10 := (blk_cell hq2.out 10).trans (by rw [HC.out]; rfl : _ = some (Value.int .i64 p.group))
  have k11 := (blk_cell hq2.out 11).trans (by rw [HC.out]; rfl : _ = some (Value.int .i64 p.second))
  have k12 := (blk_cell hq2.out 12).trans (by rw [HC.out]; rfl : _ = some (Value.bool p.sNeg))
  have k13 := (blk_cell hq2.out 13).trans (by rw [HC.out]; rfl : _ = some (Value.string (bs p.sInt)))
  have k14 := (blk_cell hq2.out 14).trans (by rw [HC.out]; rfl : _ = some (Value.string (bs p.sFrac)))
  have k15 := (blk_cell hq2.out 15).trans (by rw [HC.out]; rfl : _ = some (Value.int .i64 p.exp))
  have k16 := (blk_cell hq2.out 16).trans (by rw [HC.out]; rfl : _ = some (Value.bool p.expPlus))
  go_upto_if 12 with fail
  go_cut [4] (fun v4 w9 => v4 = .int .i64 (least1 p) ∧ w2 = w9)
  case first =>
    as_aux_lemma =>
      by_cases hg : 0 < p.group
      · have e := Lib.hid (show least1 p = p.group + 1 from if_pos hg)
        go_wp2
        go_meet
        exact ⟨by rw [e.out], rfl⟩
      · have e := Lib.hid (show least1 p = 1 from if_neg hg)
        go_wp2
        go_meet
        exact ⟨by rw [e.out], rfl⟩
  case rest =>
    obtain ⟨rfl, rfl⟩ := hcut
    go_upto_if 18 with fail
    go_cut [4] (fun v4 w9 => v4 = .int .i64 (leastS p) ∧ w2 = w9)
    case first =>
      as_aux_lemma =>
        by_cases hg : 0 < p.second
        · have e := Lib.hid (show leastS p = p.group + p.second + 1 from if_pos hg)
          go_wp2
          go_meet
          exact ⟨by rw [e.out], rfl⟩
        · have e := Lib.hid (show leastS p = least1 p from if_neg hg)
          go_wp2
          go_meet
          exact ⟨by rw [e.out], rfl⟩
    case rest =>
      obtain ⟨rfl, rfl⟩ := hcut
      have hLl : 1 ≤ leastS p ∧ leastS p ≤ 81 := by rw [leastS_is]; unfold least1; split <;> (try split) <;> omega
      obtain ⟨T7, hT7⟩ : ∃ T, T = bs (List.replicate (leastS p - (wholeS p).length).toNat 35) := ⟨_, rfl⟩
      have z7 : T7.size ≤ 81 := by rw [hT7]; show (List.replicate _ _).length ≤ _; rw [List.length_replicate]; omega
      have H7 : Hid (∀ w0, Calls Tryd.prog 21 #[.string ⟨#[35]⟩, .int .i64 (max 0 (leastS p - ((wholeS p).length : Int)))] w0 fun e w' => e = .returned (.string T7) ∧ Below w0.heap.size w0 w') := Lib.hid fun w0 => by
        have := rep_one 35 (max 0 (leastS p - ((wholeS p).length : Int))) w0 (by omega) (by omega)
        rw [show (max 0 (leastS p - ((wholeS p).length : Int))).toNat = (leastS p - ((wholeS p).length : Int)).toNat by omega, ← hT7] at this
        exact this
      obtain ⟨S, hS⟩ : ∃ S, S = T7 ++ bs (wholeS p) := ⟨_, rfl⟩
      have hSs : S = bs (sharpS p) := by rw [hS, hT7, ← bs_app]; rfl
      have hSz : S.size = (sharpS p).length := by rw [hSs]; rfl
      clear hT7
      go_upto_region 8 with (go_at_call 21; refine (H7.out _).mono ?_; rintro e w3 ⟨rfl, hb2⟩; have hq3 := Aside0.mk (blk_below hq2.out hb2); have hb3 := Aside0.mk (below_step hb'.out hb2); clear hb2)
      rw [← hS]
      clear hS H7 z7
      have k5 := (blk_cell hq3.out 5).trans (by rw [HC.out]; rfl : _ = some (Value.int .i64 p.minInt))
      have k6 := (blk_cell hq3.out 6).trans (by rw [HC.out]; rfl : _ = some (Value.int .i64 p.minFrac))
      have k7 := (blk_cell hq3.out 7).trans (by rw [HC.out]; rfl : _ = some (Value.int .i64 p.maxFrac))
      have k8 := (blk_cell hq3.out 8).trans (by rw [HC.out]; rfl : _ = some (Value.int .i64 p.minSig))
      have k9 := (blk_cell hq3.out 9).trans (by rw [HC.out]; rfl : _ = some (Value.int .i64 p.maxSig))
      have k10 := (blk_cell hq3.out 10).trans (by rw [HC.out]; rfl : _ = some (Value.int .i64 p.group))
      have k11 := (blk_cell hq3.out 11).trans (by rw [HC.out]; rfl : _ = some (Value.int .i64 p.second))
      have k12 := (blk_cell hq3.out 12).trans (by rw [HC.out]; rfl : _ = some (Value.bool p.sNeg))
      have k13 := (blk_cell hq3.out 13).trans (by rw [HC.out]; rfl : _ = some (Value.string (bs p.sInt)))
      have k14 := (blk_cell hq3.out 14).trans (by rw [HC.out]; rfl : _ = some (Value.string (bs p.sFrac)))
      have k15 := (blk_cell hq3.out 15).trans (by rw [HC.out]; rfl : _ = some (Value.int .i64 p.exp))
      have k16 := (blk_cell hq3.out 16).trans (by rw [HC.out]; rfl : _ = some (Value.bool p.expPlus))
      have HSs := Lib.hid hSs
      clear hSs
      go_upto_if 35 with fail
      go_cut [3] (fun v3 w9 => v3 = .string (bs (commaS p)) ∧ w3 = w9)
      case first =>
        as_aux_lemma =>
          by_cases hg : 0 < p.group
          · obtain ⟨kN, hkN⟩ : ∃ kN : Nat, (S.size : Int) - p.group = (kN : Int) := ⟨((S.size : Int) - p.group).toNat, by rw [leastS_is] at hSg; unfold least1 at hSg; rw [if_pos hg] at hSg; split at hSg <;> omega⟩
            have hk2 : kN ≤ S.size := by omega
            by_cases hs : 0 < p.second
            · obtain ⟨k2, hk2N⟩ : ∃ k2 : Nat, (kN : Int) - p.second = (k2 : Int) := ⟨((kN : Int) - p.second).toNat, by rw [leastS_is] at hSg; rw [if_pos hs] at hSg; omega⟩
              have hE := Lib.hid (show bs (commaS p) = S.extract 0 (((sharpS p).length : Int) - p.group - p.second).toNat ++ ((⟨#[44]⟩ : ByteArray) ++ S.extract (((sharpS p).length : Int) - p.group - p.second).toNat (((sharpS p).length : Int) - p.group).toNat ++ ((⟨#[44]⟩ : ByteArray) ++ S.extract (((sharpS p).length : Int) - p.group).toNat (sharpS p).length)) from comma_two hg hs HSs.out (by omega) (by omega))
              have hk3 : k2 ≤ kN := by omega
              go_wp2
              go_meet
              exact ⟨by rw [hE.out], rfl⟩
            · have hE := Lib.hid (show bs (commaS p) = S.extract 0 (((sharpS p).length : Int) - p.group).toNat ++ ((⟨#[44]⟩ : ByteArray) ++ S.extract (((sharpS p).length : Int) - p.group).toNat (sharpS p).length) from comma_one hg hs HSs.out (by omega))
              go_wp2
              go_meet
              exact ⟨by rw [hE.out], rfl⟩
          · have e := Lib.hid (show bs (commaS p) = S by rw [HSs.out]; unfold commaS; rw [if_neg hg])
            go_wp2
            go_meet
            exact ⟨by rw [e.out], rfl⟩
      case rest =>
        obtain ⟨rfl, rfl⟩ := hcut
        obtain ⟨C, hC⟩ : ∃ C, C = bs (commaS p) := ⟨_, rfl⟩
        have hCz : C.size ≤ 500 := by rw [hC]; exact comma_le hp
        rw [← hC]
        have HCC := Lib.hid hC
        clear hC HSs hSz
        go_upto_if 69 with fail
        go_cut [3] (fun v3 w9 => v3 = .string (C ++ bs (fracStr p)) ∧ Aside0 (w9.heap[w.heap.size]? = some (.cells cs 26 (0, 0))) ∧ Aside0 (Below w.heap.size w w9))
        case first =>
          by_cases h7 : 0 < p.maxFrac
          · have hF := HF.out
            rw [if_pos h7] at hF
            obtain ⟨T16, hT16⟩ : ∃ T, T = bs (List.replicate p.minFrac.toNat 48) := ⟨_, rfl⟩
            obtain ⟨T19, hT19⟩ : ∃ T, T = bs (List.replicate (p.maxFrac - p.minFrac).toNat 35) := ⟨_, rfl⟩
            have z16 : T16.size ≤ 40 := by rw [hT16]; show (List.replicate _ _).length ≤ _; rw [List.length_replicate]; omega
            have z19 : T19.size ≤ 40 := by rw [hT19]; show (List.replicate _ _).length ≤ _; rw [List.length_replicate]; omega
            have H16 : Hid (∀ w0, Calls Tryd.prog 21 #[.string ⟨#[48]⟩, .int .i64 p.minFrac] w0 fun e w' => e = .returned (.string T16) ∧ Below w0.heap.size w0 w') := Lib.hid fun w0 => by rw [hT16]; exact rep_one 48 _ w0 (by omega) (by omega)
            have H19 : Hid (∀ w0, Calls Tryd.prog 21 #[.string ⟨#[35]⟩, .int .i64 (p.maxFrac - p.minFrac)] w0 fun e w' => e = .returned (.string T19) ∧ Below w0.heap.size w0 w') := Lib.hid fun w0 => by rw [hT19]; exact rep_one 35 _ w0 (by omega) (by omega)
            have HFt : Hid (B = true → C ++ bs (fracStr p) = C ++ ((⟨#[46]⟩ : ByteArray) ++ T16 ++ T19)) := Lib.hid fun hb => by rw [hF, hb, hT16, hT19, if_pos rfl]; apply ByteArray.ext; apply Array.ext'; simp [ByteArray.data_append]
            have HFf : Hid (B = false → C ++ bs (fracStr p) = C ++ ((⟨#[46]⟩ : ByteArray) ++ bs sf ++ T19)) := Lib.hid fun hb => by rw [hF, hb, hT19, if_neg Bool.false_ne_true]; apply ByteArray.ext; apply Array.ext'; simp [ByteArray.data_append]
            clear hT16 hT19 hF HF
            go_upto_region 17 with (go_at_call 21; refine (H16.out _).mono ?_; rintro e w4 ⟨rfl, hb2⟩; have hq4 := Aside0.mk (blk_below hq3.out hb2); have hb4 := Aside0.mk (below_step hb3.out hb2); clear hb2)
            clear H16 k5 k6 k7 k8 k9 k10 k11 k12 k13 k14 k15 k16
            have k5 := (blk_cell hq4.out 5).trans (by rw [HC.out]; rfl : _ = some (Value.int .i64 p.minInt))
            have k6 := (blk_cell hq4.out 6).trans (by rw [HC.out]; rfl : _ = some (Value.int .i64 p.minFrac))
            have k7 := (blk_cell hq4.out 7).trans (by rw [HC.out]; rfl : _ = some (Value.int .i64 p.maxFrac))
            have k8 := (blk_cell hq4.out 8).trans (by rw [HC.out]; rfl : _ = some (Value.int .i64 p.minSig))
            have k9 := (blk_cell hq4.out 9).trans (by rw [HC.out]; rfl : _ = some (Value.int .i64 p.maxSig))
            have k10 := (blk_cell hq4.out 10).trans (by rw [HC.out]; rfl : _ = some (Value.int .i64 p.group))
            have k11 := (blk_cell hq4.out 11).trans (by rw [HC.out]; rfl : _ = some (Value.int .i64 p.second))
            have k12 := (blk_cell hq4.out 12).trans (by rw [HC.out]; rfl : _ = some (Value.bool p.sNeg))
            have k13 := (blk_cell hq4.out 13).trans (by rw [HC.out]; rfl : _ = some (Value.string (bs p.sInt)))
            have k14 := (blk_cell hq4.out 14).trans (by rw [HC.out]; rfl : _ = some (Value.string (bs p.sFrac)))
            have k15 := (blk_cell hq4.out 15).trans (by rw [HC.out]; rfl : _ = some (Value.int .i64 p.exp))
            have k16 := (blk_cell hq4.out 16).trans (by rw [HC.out]; rfl : _ = some (Value.bool p.expPlus))
            clear k12 k13 k14 k16
            have k12 := K12.out _ hq4.out
            have k13 := K13.out _ hq4.out
            have k14 := K14.out _ hq4.out
            go_cut [76] (fun v76 w9 => v76 = .bool (!B) ∧ w4 = w9)
            case first =>
              as_aux_lemma =>
                clear HFt HFf
                cases ng with
                | true =>
                  obtain rfl : B = false := by rw [HB.out]; rfl
                  clear HB
                  go_wp2
                  go_meet
                  exact ⟨rfl, rfl⟩
                | false =>
                  cases si with
                  | cons ch q =>
                    obtain rfl : B = false := by rw [HB.out]; rfl
                    clear HB
                    go_wp2
                    go_meet
                    exact ⟨rfl, rfl⟩
                  | nil =>
                    cases sf with
                    | cons ch q =>
                      obtain rfl : B = false := by rw [HB.out]; rfl
                      clear HB
                      go_wp2
                      go_meet
                      exact ⟨rfl, rfl⟩
                    | nil =>
                      obtain rfl : B = true := by rw [HB.out]; rfl
                      clear HB
                      go_wp2
                      go_meet
                      exact ⟨rfl, rfl⟩
            case rest =>
              obtain ⟨rfl, rfl⟩ := hcut
              cases B with
              | true =>
                have hE := Lib.hid (HFt.out rfl)
                clear HFt HFf HB
                go_wp2_with (go_at_call 21; refine (H19.out _).mono ?_; rintro e w5 ⟨rfl, hb2⟩; have hq5 := Aside0.mk (blk_below hq4.out hb2); have hb5 := Aside0.mk (below_step hb4.out hb2); clear hb2)
                go_meet
                exact ⟨by first | (rw [hE.out]; done) | (rw [hE.out]; rfl), hq5, hb5⟩
              | false =>
                have hE := Lib.hid (HFf.out rfl)
                have hsfz : (bs sf).size ≤ 40 := hln.2
                clear HFt HFf HB
                go_wp2_with (go_at_call 21; refine (H19.out _).mono ?_; rintro e w5 ⟨rfl, hb2⟩; have hq5 := Aside0.mk (blk_below hq4.out hb2); have hb5 := Aside0.mk (below_step hb4.out hb2); clear hb2)
                go_meet
                exact ⟨by first | (rw [hE.out]; done) | (rw [hE.out]; rfl), hq5, hb5⟩
          · have hE := Lib.hid (show C ++ bs (fracStr p) = C by rw [HF.out, if_neg h7]; apply ByteArray.ext; apply Array.ext'; simp [ByteArray.data_append])
            clear HF
            go_wp2
            go_meet
            exact ⟨by rw [hE.out], hq3, hb3⟩
        case rest =>
          clear k5 k6 k7 k8 k9 k10 k11 k12 k13 k14 k15 k16 hq3 hb3
          obtain ⟨rfl, hq3, hb3⟩ := hcut
          obtain ⟨D, hD⟩ : ∃ D, D = C ++ bs (fracStr p) := ⟨_, rfl⟩
          have hDz : D.size ≤ 600 := by
            rw [hD, ByteArray.size_append, HF.out]
            have : (bs (if 0 < p.maxFrac then 46 :: ((if B = true then List.replicate p.minFrac.toNat 48 else sf) ++ List.replicate (p.maxFrac - p.minFrac).toNat 35) else [])).size ≤ 81 := by
              show List.length _ ≤ _
              split
              · rw [List.length_cons, List.length_append, List.length_replicate]
                split
                · rw [List.length_replicate]; omega
                · omega
              · simp
            omega
          have hN := Lib.hid (show bs (numStr p) = D ++ bs (expStr p) by rw [hD, HCC.out]; unfold numStr; rw [bs_app, bs_app])
          rw [← hD]
          clear hD HF HB HCC
          have k5 := (blk_cell hq3.out 5).trans (by rw [HC.out]; rfl : _ = some (Value.int .i64 p.minInt))
          have k6 := (blk_cell hq3.out 6).trans (by rw [HC.out]; rfl : _ = some (Value.int .i64 p.minFrac))
          have k7 := (blk_cell hq3.out 7).trans (by rw [HC.out]; rfl : _ = some (Value.int .i64 p.maxFrac))
          have k8 := (blk_cell hq3.out 8).trans (by rw [HC.out]; rfl : _ = some (Value.int .i64 p.minSig))
          have k9 := (blk_cell hq3.out 9).trans (by rw [HC.out]; rfl : _ = some (Value.int .i64 p.maxSig))
          have k10 := (blk_cell hq3.out 10).trans (by rw [HC.out]; rfl : _ = some (Value.int .i64 p.group))
          have k11 := (blk_cell hq3.out 11).trans (by rw [HC.out]; rfl : _ = some (Value.int .i64 p.second))
          have k12 := (blk_cell hq3.out 12).trans (by rw [HC.out]; rfl : _ = some (Value.bool p.sNeg))
          have k13 := (blk_cell hq3.out 13).trans (by rw [HC.out]; rfl : _ = some (Value.string (bs p.sInt)))
          have k14 := (blk_cell hq3.out 14).trans (by rw [HC.out]; rfl : _ = some (Value.string (bs p.sFrac)))
          have k15 := (blk_cell hq3.out 15).trans (by rw [HC.out]; rfl : _ = some (Value.int .i64 p.exp))
          have k16 := (blk_cell hq3.out 16).trans (by rw [HC.out]; rfl : _ = some (Value.bool p.expPlus))
          clear k12 k13 k14 k16
          have k16 := K16.out _ hq3.out
          obtain ⟨T24, hT24⟩ : ∃ T, T = bs (List.replicate p.exp.toNat 48) := ⟨_, rfl⟩
          have z24 : T24.size ≤ 40 := by rw [hT24]; show (List.replicate _ _).length ≤ _; rw [List.length_replicate]; omega
          have H24 : Hid (∀ w0, Calls Tryd.prog 21 #[.string ⟨#[48]⟩, .int .i64 p.exp] w0 fun e w' => e = .returned (.string T24) ∧ Below w0.heap.size w0 w') := Lib.hid fun w0 => by rw [hT24]; exact rep_one 48 _ w0 (by omega) (by omega)
          by_cases h15 : 0 < p.exp
          · cases pl with
            | true =>
              have hE := Lib.hid (show bs (numStr p) = D ++ (⟨#[69]⟩ : ByteArray) ++ (⟨#[43]⟩ : ByteArray) ++ T24 by rw [hN.out, HE.out, if_pos h15, hT24]; apply ByteArray.ext; apply Array.ext'; simp [ByteArray.data_append])
              clear HE hN hT24
              go_wp2_with (go_at_call 21; refine (H24.out _).mono ?_; rintro e w5 ⟨rfl, hb2⟩; have hb5 := Aside0.mk (below_step hb3.out hb2); clear hb2)
              go_ret
              exact ⟨by first | (rw [hE.out]; done) | (rw [hE.out]; rfl), hb5.out⟩
            | false =>
              have hE := Lib.hid (show bs (numStr p) = D ++ (⟨#[69]⟩ : ByteArray) ++ T24 by rw [hN.out, HE.out, if_pos h15, hT24]; apply ByteArray.ext; apply Array.ext'; simp [ByteArray.data_append])
              clear HE hN hT24
              go_wp2_with (go_at_call 21; refine (H24.out _).mono ?_; rintro e w5 ⟨rfl, hb2⟩; have hb5 := Aside0.mk (below_step hb3.out hb2); clear hb2)
              go_ret
              exact ⟨by first | (rw [hE.out]; done) | (rw [hE.out]; rfl), hb5.out⟩
          · have hE := Lib.hid (show bs (numStr p) = D by rw [hN.out, HE.out, if_neg h15]; apply ByteArray.ext; apply Array.ext'; simp [ByteArray.data_append])
            clear HE hN hT24
            go_wp2
            go_ret
            exact ⟨by first | (rw [hE.out]; done) | (rw [hE.out]; rfl), hb3.out⟩
end Go.Proofs.YtjpdakepfmepnaaDoor

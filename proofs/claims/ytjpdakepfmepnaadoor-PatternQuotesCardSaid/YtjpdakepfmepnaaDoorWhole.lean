/- The walk of pattern.whole. (Printed by gen_whole.py.) -/
import Derived.Test.YtjpdakepfmepnaaDoorHeld
import Derived.Test.YtjpdakepfmepnaaDoorText
namespace Go.Proofs.YtjpdakepfmepnaaDoor
open Go.RowKit Go.Proofs.YtjpdakepfmepnaaDoorW.PrintWords Pat
set_option linter.unusedVariables false
set_option linter.unusedSimpArgs false

theorem bs_app (l m : List UInt8) : bs (l ++ m) = bs l ++ bs m := by
  apply ByteArray.ext
  apply Array.ext'
  simp [ByteArray.data_append]
theorem whole_sig {p : Pat} (h : 0 < p.minSig) : wholeS p = List.replicate p.minSig.toNat 64 ++ List.replicate (p.maxSig - p.minSig).toNat 35 := by unfold wholeS; rw [if_pos h]
def intS (p : Pat) : List UInt8 := if noStep p = false ∧ p.sInt ≠ [48] then p.sInt else []
theorem whole_int {p : Pat} (h : ¬ 0 < p.minSig) : wholeS p = List.replicate (p.minInt - (intS p).length).toNat 48 ++ intS p := by unfold wholeS intS; rw [if_neg h]
theorem intS_B (p : Pat) : intS p = if (!(p.sNeg == false && p.sInt == [] && p.sFrac == []) && p.sInt != [48]) = true then p.sInt else [] := by
  unfold intS noStep
  cases (p.sNeg == false && p.sInt == [] && p.sFrac == []) <;> by_cases h : p.sInt = [48] <;> simp [h]
theorem intS_le {p : Pat} (h : POk p) : (intS p).length ≤ 40 := by
  have := h.lens
  unfold intS
  split
  · omega
  · simp
theorem wrap_ok {x : Int} (h0 : 0 ≤ x) (h1 : x ≤ 1048576) : IntKind.i64.wrap x = x := by rw [IntKind.wrap_i64]; omega
attribute [local go_sem high] eqDec
set_option maxHeartbeats 4000000 in
set_option maxRecDepth 100000 in
theorem whole_any (s0 s1 s3 s4 : Sl) (p : Pat) (w : World) (hp : POk p) :
    Calls Tryd.prog 20 #[patV s0 s1 s3 s4 p] w fun e w' => e = .returned (.string (bs (wholeS p))) ∧ Below w.heap.size w w' := by
  have hu := Tryd.underlying24
  have hu2 := Tryd.underlying26
  obtain ⟨cs, hcs⟩ : ∃ cs, cs = patCells s0 s1 s3 s4 p := ⟨_, rfl⟩
  show Calls Tryd.prog 20 #[.agg (patCells s0 s1 s3 s4 p)] w _
  have hsz := Lib.hid (show (Tryd.prog.info? 26).map (·.size) = some cs.size by rw [hcs]; exact sizePat)
  have HC := Lib.hid hcs
  clear hcs
  have b5 := hp.c5
  have b8 := hp.c8
  have b9 := hp.c9
  have bs8 := hp.sg
  have hIl := intS_le hp
  by_cases hg : 0 < p.minSig
  · have hW := Lib.hid (whole_sig hg)
    have H1 : Hid (∀ w0, Calls Tryd.prog 21 #[.string ⟨#[64]⟩, .int .i64 p.minSig] w0 fun e w' => e = .returned (.string (bs (List.replicate p.minSig.toNat 64))) ∧ Below w0.heap.size w0 w') := Lib.hid fun w0 => rep_one 64 _ w0 (by omega) (by omega)
    have H2 : Hid (∀ w0, Calls Tryd.prog 21 #[.string ⟨#[35]⟩, .int .i64 (p.maxSig - p.minSig)] w0 fun e w' => e = .returned (.string (bs (List.replicate (p.maxSig - p.minSig).toNat 35))) ∧ Below w0.heap.size w0 w') := Lib.hid fun w0 => rep_one 35 _ w0 (by omega) (by omega)
    have z1 : (bs (List.replicate p.minSig.toNat 64)).size ≤ 40 := by show (List.replicate _ _).length ≤ _; rw [List.length_replicate]; omega
    have z2 : (bs (List.replicate (p.maxSig - p.minSig).toNat 35)).size ≤ 40 := by show (List.replicate _ _).length ≤ _; rw [List.length_replicate]; omega
    go_enter Tryd.func20, Tryd.ntmps20
    have hp1 : (w.alloc (.cells (patCells s0 s1 s3 s4 p) 26 (0, 0))).heap[w.heap.size]? = some (.cells cs 26 (0, 0)) := by rw [HC.out]; exact blk_new w _
    have k8 := (blk_cell hp1 8).trans (by rw [HC.out]; rfl : _ = some (Value.int .i64 p.minSig))
    go_upto_region 2 with fail
    obtain ⟨w1, hw1⟩ : ∃ x, x = w.alloc (.cells (patCells s0 s1 s3 s4 p) 26 (0, 0)) := ⟨_, rfl⟩
    rw [← hw1] at hp1 k8 ⊢
    have hbel : Below w.heap.size w w1 := by rw [hw1]; exact below_alloc (Below.refl _ _) _
    clear hw1 k8
    obtain ⟨T1, hT1⟩ : ∃ T, T = bs (List.replicate p.minSig.toNat 64) := ⟨_, rfl⟩
    obtain ⟨T2, hT2⟩ : ∃ T, T = bs (List.replicate (p.maxSig - p.minSig).toNat 35) := ⟨_, rfl⟩
    have hE := Lib.hid (show bs (wholeS p) = T1 ++ T2 by rw [hW.out, bs_app, hT1, hT2])
    rw [← hT1] at H1 z1
    rw [← hT2] at H2 z2
    clear hT1 hT2 hW
    have hSw : w1.drew.heap[w.heap.size]? = some (.cells cs 26 (0, 0)) := hp1
    refine wp_region_held (S := fun w' => w'.heap[w.heap.size]? = some (.cells cs 26 (0, 0))) (by kernel_rfl) ?_
    show wpAnyH _ _ _ _ _ 11 _ _ w1.drew
    refine wpAnyH_take (i := 0) (v := .pointer (some ⟨w.heap.size, 8, none⟩)) rfl (by kernel_rfl) (by kernel_rfl) (by kernel_rfl) (fun _ _ _ h => h) (.inl ⟨want_none rfl _, fun w8 hS8 => by go_simp⟩) hSw ?_
    refine wpAnyH_take (i := 1) (v := .int .i64 p.minSig) rfl (by kernel_rfl) (by kernel_rfl) (by kernel_rfl) (fun _ _ _ h => h) (.inl ⟨want_none rfl _, fun w8 hS8 => by have k8 := (blk_cell hS8 8).trans (by rw [HC.out]; rfl : _ = some (Value.int .i64 p.minSig)); go_simp⟩) hSw ?_
    refine wpAnyH_take (i := 3) (v := .pointer (some ⟨w.heap.size, 9, none⟩)) rfl (by kernel_rfl) (by kernel_rfl) (by kernel_rfl) (fun _ _ _ h => h) (.inl ⟨want_none rfl _, fun w8 hS8 => by go_simp⟩) hSw ?_
    refine wpAnyH_take (i := 4) (v := .int .i64 p.maxSig) rfl (by kernel_rfl) (by kernel_rfl) (by kernel_rfl) (fun _ _ _ h => h) (.inl ⟨want_none rfl _, fun w8 hS8 => by have k8 := (blk_cell hS8 9).trans (by rw [HC.out]; rfl : _ = some (Value.int .i64 p.maxSig)); go_simp⟩) hSw ?_
    refine wpAnyH_take (i := 5) (v := .pointer (some ⟨w.heap.size, 8, none⟩)) rfl (by kernel_rfl) (by kernel_rfl) (by kernel_rfl) (fun _ _ _ h => h) (.inl ⟨want_none rfl _, fun w8 hS8 => by go_simp⟩) hSw ?_
    refine wpAnyH_take (i := 6) (v := .int .i64 p.minSig) rfl (by kernel_rfl) (by kernel_rfl) (by kernel_rfl) (fun _ _ _ h => h) (.inl ⟨want_none rfl _, fun w8 hS8 => by have k8 := (blk_cell hS8 8).trans (by rw [HC.out]; rfl : _ = some (Value.int .i64 p.minSig)); go_simp⟩) hSw ?_
    refine wpAnyH_take (i := 7) (v := .int .i64 (p.maxSig - p.minSig)) rfl (by kernel_rfl) (by kernel_rfl) (by kernel_rfl) (fun _ _ _ h => h) (.inl ⟨want_none rfl _, fun w8 hS8 => by go_simp; exact wrap_ok (by omega) (by omega)⟩) hSw ?_
    refine call_held (i := 2) (x := 9) rfl rfl rfl (by kernel_rfl) (run_call2 rfl Tryd.func21 (by kernel_rfl) rfl (by go_simp) (by go_simp)) (H1.out _) ?_
    intro w2 hb2
    have hSw2 := blk_below hSw hb2
    have hbel2 := Aside0.mk (below_step (below_drew hbel) hb2)
    refine ⟨hSw2, ?_⟩
    refine call_held (i := 8) (x := 15) rfl rfl rfl (by kernel_rfl) (run_call2 rfl Tryd.func21 (by kernel_rfl) rfl (by go_simp) (by go_simp)) (H2.out _) ?_
    intro w3 hb3'
    have hSw3 := blk_below hSw2 hb3'
    have hb3 := Aside0.mk (below_step hbel2.out hb3')
    refine ⟨hSw3, ?_⟩
    refine wpAnyH_take (i := 9) (v := .string (T1 ++ T2)) rfl (by kernel_rfl) (by kernel_rfl) (by kernel_rfl) (fun _ _ _ h => h) (.inl ⟨want_none rfl _, fun w8 hS8 => by go_simp; omega⟩) hSw3 ?_
    refine wpAnyH_take (i := 10) (v := .string (T1 ++ T2)) rfl (by kernel_rfl) (by kernel_rfl) (by kernel_rfl) (fun _ _ _ h => h) (.inl ⟨want_none rfl _, fun w8 hS8 => by go_simp⟩) hSw3 ?_
    apply wpAnyH_done (hr := by kernel_rfl)
    go_wp2
    go_ret
    refine ⟨?_, hb3.out⟩
    rw [hE.out]
    go_simp
  · have hW := Lib.hid (whole_int hg)
    obtain ⟨S, hS⟩ : ∃ S, S = intS p := ⟨_, rfl⟩
    rw [← hS] at hIl hW
    have hI := hS.trans (intS_B p)
    clear hS
    have k12 : ∀ wx : World, wx.heap[w.heap.size]? = some (.cells cs 26 (0, 0)) → _ := fun wx hx => (blk_cell hx 12).trans (by rw [HC.out]; rfl : _ = some (Value.bool p.sNeg))
    have k13 : ∀ wx : World, wx.heap[w.heap.size]? = some (.cells cs 26 (0, 0)) → _ := fun wx hx => (blk_cell hx 13).trans (by rw [HC.out]; rfl : _ = some (Value.string (bs p.sInt)))
    have k14 : ∀ wx : World, wx.heap[w.heap.size]? = some (.cells cs 26 (0, 0)) → _ := fun wx hx => (blk_cell hx 14).trans (by rw [HC.out]; rfl : _ = some (Value.string (bs p.sFrac)))
    obtain ⟨ng, hng⟩ : ∃ b, b = p.sNeg := ⟨_, rfl⟩
    obtain ⟨si, hsi⟩ : ∃ b, b = p.sInt := ⟨_, rfl⟩
    obtain ⟨sf, hsf⟩ : ∃ b, b = p.sFrac := ⟨_, rfl⟩
    rw [← hng] at hI k12
    rw [← hsi] at hI k13
    rw [← hsf] at hI k14
    clear hng hsi hsf
    obtain ⟨B, hB⟩ : ∃ B, B = (!(ng == false && si == [] && sf == []) && si != [48]) := ⟨_, rfl⟩
    rw [← hB] at hI
    have HB := Lib.hid hB
    have HI := Lib.hid hI
    have K12 := Lib.hid k12
    have K13 := Lib.hid k13
    have K14 := Lib.hid k14
    clear hB hI k12 k13 k14
    go_enter Tryd.func20, Tryd.ntmps20
    have hp1 : (w.alloc (.cells (patCells s0 s1 s3 s4 p) 26 (0, 0))).heap[w.heap.size]? = some (.cells cs 26 (0, 0)) := by rw [HC.out]; exact blk_new w _
    have k5 := (blk_cell hp1 5).trans (by rw [HC.out]; rfl : _ = some (Value.int .i64 p.minInt))
    have k8 := (blk_cell hp1 8).trans (by rw [HC.out]; rfl : _ = some (Value.int .i64 p.minSig))
    have k12 := K12.out _ hp1
    have k13 := K13.out _ hp1
    have k14 := K14.out _ hp1
    have hbel : Below w.heap.size w (w.alloc (.cells (patCells s0 s1 s3 s4 p) 26 (0, 0))) := below_alloc (Below.refl _ _) _
    go_upto_region 4 with fail
    go_cut [26] (fun v26 w9 => v26 = .bool B ∧ w.alloc (.cells (patCells s0 s1 s3 s4 p) 26 (0, 0)) = w9)
    case first =>
      as_aux_lemma =>
        cases ng with
        | true =>
          cases si with
          | nil =>
            obtain rfl : B = true := by rw [HB.out]; rfl
            clear HB HI
            go_wp2
            go_meet
            exact ⟨rfl, rfl⟩
          | cons ch q =>
            cases q with
            | nil =>
              by_cases h48 : ch = 48
              · subst h48
                obtain rfl : B = false := by rw [HB.out]; rfl
                clear HB HI
                go_wp2
                go_meet
                exact ⟨rfl, rfl⟩
              · have b48 : (ch == 48) = false := beq_eq_false_iff_ne.mpr h48
                obtain rfl : B = true := by rw [HB.out]; simp [h48]
                clear HB HI h48
                go_wp2
                go_meet
                exact ⟨rfl, rfl⟩
            | cons d r =>
              obtain rfl : B = true := by rw [HB.out]; simp
              clear HB HI
              go_wp2
              go_meet
              exact ⟨rfl, rfl⟩
        | false =>
          cases si with
          | nil =>
            cases sf with
            | nil =>
              obtain rfl : B = false := by rw [HB.out]; rfl
              clear HB HI
              go_wp2
              go_meet
              exact ⟨rfl, rfl⟩
            | cons ch q =>
              obtain rfl : B = true := by rw [HB.out]; rfl
              clear HB HI
              go_wp2
              go_meet
              exact ⟨rfl, rfl⟩
          | cons ch q =>
            cases q with
            | nil =>
              by_cases h48 : ch = 48
              · subst h48
                obtain rfl : B = false := by rw [HB.out]; rfl
                clear HB HI
                go_wp2
                go_meet
                exact ⟨rfl, rfl⟩
              · have b48 : (ch == 48) = false := beq_eq_false_iff_ne.mpr h48
                obtain rfl : B = true := by rw [HB.out]; simp [h48]
                clear HB HI h48
                go_wp2
                go_meet
                exact ⟨rfl, rfl⟩
            | cons d r =>
              obtain rfl : B = true := by rw [HB.out]; simp
              clear HB HI
              go_wp2
              go_meet
              exact ⟨rfl, rfl⟩
    case rest =>
      obtain ⟨rfl, rfl⟩ := hcut
      have k5' := (blk_cell hp1 5).trans (by rw [HC.out]; rfl : _ = some (Value.int .i64 p.minInt))
      obtain ⟨T3, hT3⟩ : ∃ T, T = bs (List.replicate (p.minInt - (S.length : Int)).toNat 48) := ⟨_, rfl⟩
      have hE := Lib.hid (show bs (wholeS p) = T3 ++ bs S by rw [hW.out, bs_app, hT3])
      have z3 : T3.size ≤ 40 := by rw [hT3]; show (List.replicate _ _).length ≤ _; rw [List.length_replicate]; omega
      have H3 : Hid (∀ w0, Calls Tryd.prog 21 #[.string ⟨#[48]⟩, .int .i64 (max 0 (p.minInt - (S.length : Int)))] w0 fun e w' => e = .returned (.string T3) ∧ Below w0.heap.size w0 w') := Lib.hid fun w0 => by
        have := rep_one 48 (max 0 (p.minInt - (S.length : Int))) w0 (by omega) (by omega)
        rw [show (max 0 (p.minInt - (S.length : Int))).toNat = (p.minInt - (S.length : Int)).toNat by omega, ← hT3] at this
        exact this
      clear hT3 hW
      cases B with
      | true =>
        obtain rfl : S = si := HI.out
        clear HI HB K12 K13 K14
        go_wp2_with (go_at_call 21; refine (H3.out _).mono ?_; rintro e w2 ⟨rfl, hb2⟩; have hb3 := Aside0.mk (below_step hbel hb2); clear hb2)
        go_ret
        exact ⟨by rw [hE.out]; rfl, hb3.out⟩
      | false =>
        obtain rfl : S = [] := HI.out
        have H4 : Hid (∀ w0, Calls Tryd.prog 21 #[.string ⟨#[48]⟩, .int .i64 (max 0 p.minInt)] w0 fun e w' => e = .returned (.string T3) ∧ Below w0.heap.size w0 w') := Lib.hid fun w0 => by have := H3.out w0; simp only [List.length_nil, Int.natCast_zero, Int.sub_zero, Int.ofNat_zero, Int.cast_ofNat_Int] at this; exact this
        clear HI HB K12 K13 K14 H3
        go_wp2_with (go_at_call 21; refine (H4.out _).mono ?_; rintro e w2 ⟨rfl, hb2⟩; have hb3 := Aside0.mk (below_step hbel hb2); clear hb2)
        go_ret
        exact ⟨by rw [hE.out]; rfl, hb3.out⟩
end Go.Proofs.YtjpdakepfmepnaaDoor

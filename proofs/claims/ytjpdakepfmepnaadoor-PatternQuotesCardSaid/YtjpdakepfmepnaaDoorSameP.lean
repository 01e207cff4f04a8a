/- The walk of the reference's Same, where the patterns are equal. (Printed by gen_samep.py.) -/
import Derived.Test.YtjpdakepfmepnaaDoorSameA
namespace Go.Proofs.YtjpdakepfmepnaaDoor
open Go.RowKit Go.Proofs.YtjpdakepfmepnaaDoorW.PrintWords Pat
set_option linter.unusedVariables false
set_option linter.unusedSimpArgs false
attribute [local go_sem high] eqDec
set_option maxHeartbeats 8000000 in
set_option maxRecDepth 100000 in
theorem same_any (s0 s1 s3 s4 t0 t1 t3 t4 : Sl) (p : Pat) (w : World) (ha : PatReads w s0 s1 s3 s4 p) (hb : PatReads w t0 t1 t3 t4 p) (l0 : p.pre.length ≤ 1048576) (l1 : p.suf.length ≤ 1048576) (l3 : p.npre.length ≤ 1048576) (l4 : p.nsuf.length ≤ 1048576) :
    Calls Tryd.prog 6 #[patV s0 s1 s3 s4 p, patV t0 t1 t3 t4 p] w fun e w' => e = .returned (.bool true) ∧ Below w.heap.size w w' := by
  have hu := Tryd.underlying24
  have hu2 := Tryd.underlying26
  obtain ⟨A0, x0, a0⟩ := s0
  obtain ⟨A1, x1, a1⟩ := s1
  obtain ⟨A3, x3, a3⟩ := s3
  obtain ⟨A4, x4, a4⟩ := s4
  obtain ⟨B0, y0, b0⟩ := t0
  obtain ⟨B1, y1, b1⟩ := t1
  obtain ⟨B3, y3, b3⟩ := t3
  obtain ⟨B4, y4, b4⟩ := t4
  obtain ⟨e0, e1, e3, e4⟩ := And.intro ha.e0 (And.intro ha.e1 (And.intro ha.e3 ha.e4))
  dsimp only at e0 e1 e3 e4
  subst e0 e1 e3 e4
  obtain ⟨e0, e1, e3, e4⟩ := And.intro hb.e0 (And.intro hb.e1 (And.intro hb.e3 hb.e4))
  dsimp only at e0 e1 e3 e4
  subst e0 e1 e3 e4
  have HA := Lib.hid ha
  have HB := Lib.hid hb
  clear ha hb
  obtain ⟨c1, hc1⟩ : ∃ cs, cs = patCells ⟨A0, p.pre.length, a0⟩ ⟨A1, p.suf.length, a1⟩ ⟨A3, p.npre.length, a3⟩ ⟨A4, p.nsuf.length, a4⟩ p := ⟨_, rfl⟩
  obtain ⟨c2, hc2⟩ : ∃ cs, cs = patCells ⟨B0, p.pre.length, b0⟩ ⟨B1, p.suf.length, b1⟩ ⟨B3, p.npre.length, b3⟩ ⟨B4, p.nsuf.length, b4⟩ p := ⟨_, rfl⟩
  have HC1 := Lib.hid hc1
  have HC2 := Lib.hid hc2
  show Calls Tryd.prog 6 #[.agg (patCells ⟨A0, p.pre.length, a0⟩ ⟨A1, p.suf.length, a1⟩ ⟨A3, p.npre.length, a3⟩ ⟨A4, p.nsuf.length, a4⟩ p), .agg (patCells ⟨B0, p.pre.length, b0⟩ ⟨B1, p.suf.length, b1⟩ ⟨B3, p.npre.length, b3⟩ ⟨B4, p.nsuf.length, b4⟩ p)] w _
  rw [← hc1, ← hc2]
  have hq := Aside0.mk (show ((w.alloc (.cells (patCells ⟨A0, p.pre.length, a0⟩ ⟨A1, p.suf.length, a1⟩ ⟨A3, p.npre.length, a3⟩ ⟨A4, p.nsuf.length, a4⟩ p) 26 (0, 0))).alloc (.cells (patCells ⟨B0, p.pre.length, b0⟩ ⟨B1, p.suf.length, b1⟩ ⟨B3, p.npre.length, b3⟩ ⟨B4, p.nsuf.length, b4⟩ p) 26 (0, 0))).heap[w.heap.size]? = some (.cells c1 26 (0, 0)) by rw [hc1]; exact heap_alloc2_old w _ _)
  have hr := Aside0.mk (show ((w.alloc (.cells (patCells ⟨A0, p.pre.length, a0⟩ ⟨A1, p.suf.length, a1⟩ ⟨A3, p.npre.length, a3⟩ ⟨A4, p.nsuf.length, a4⟩ p) 26 (0, 0))).alloc (.cells (patCells ⟨B0, p.pre.length, b0⟩ ⟨B1, p.suf.length, b1⟩ ⟨B3, p.npre.length, b3⟩ ⟨B4, p.nsuf.length, b4⟩ p) 26 (0, 0))).heap[w.heap.size + 1]? = some (.cells c2 26 (0, 0)) by rw [hc2]; exact blk_alloc2 w _ _)
  have hb0 := Aside0.mk (show Below w.heap.size w ((w.alloc (.cells (patCells ⟨A0, p.pre.length, a0⟩ ⟨A1, p.suf.length, a1⟩ ⟨A3, p.npre.length, a3⟩ ⟨A4, p.nsuf.length, a4⟩ p) 26 (0, 0))).alloc (.cells (patCells ⟨B0, p.pre.length, b0⟩ ⟨B1, p.suf.length, b1⟩ ⟨B3, p.npre.length, b3⟩ ⟨B4, p.nsuf.length, b4⟩ p) 26 (0, 0))) from below_alloc (below_alloc (Below.refl _ _) _) _)
  have HS : Hid (∀ w1, Below w.heap.size w w1 → (Calls Tryd.prog 16 #[.slice A0 p.pre.length a0, .slice B0 p.pre.length b0] w1 fun e w' => e = .returned (.bool true) ∧ Below w1.heap.size w1 w') ∧ (Calls Tryd.prog 16 #[.slice A1 p.suf.length a1, .slice B1 p.suf.length b1] w1 fun e w' => e = .returned (.bool true) ∧ Below w1.heap.size w1 w') ∧ (Calls Tryd.prog 16 #[.slice A3 p.npre.length a3, .slice B3 p.npre.length b3] w1 fun e w' => e = .returned (.bool true) ∧ Below w1.heap.size w1 w') ∧ (Calls Tryd.prog 16 #[.slice A4 p.nsuf.length a4, .slice B4 p.nsuf.length b4] w1 fun e w' => e = .returned (.bool true) ∧ Below w1.heap.size w1 w')) := Lib.hid fun w1 h1 =>
    ⟨sameAffix_any _ _ _ _ _ w1 (Kd.C_below HA.out.r0 h1) (Kd.C_below HB.out.r0 h1) l0, sameAffix_any _ _ _ _ _ w1 (Kd.C_below HA.out.r1 h1) (Kd.C_below HB.out.r1 h1) l1, sameAffix_any _ _ _ _ _ w1 (Kd.C_below HA.out.r3 h1) (Kd.C_below HB.out.r3 h1) l3, sameAffix_any _ _ _ _ _ w1 (Kd.C_below HA.out.r4 h1) (Kd.C_below HB.out.r4 h1) l4⟩
  rw [hc1, hc2]
  clear hc1 hc2
  go_enter Tryd.func6, Tryd.ntmps6
  have k0 := (blk_cell hq.out 0).trans (by rw [HC1.out]; rfl : _ = some (Value.slice A0 p.pre.length a0))
  have j0 := (blk_cell hr.out 0).trans (by rw [HC2.out]; rfl : _ = some (Value.slice B0 p.pre.length b0))
  go_wp2_with (first
    | (go_at_call_of 16 (Value.slice A0 p.pre.length a0); refine (HS.out _ hb0.out).1.mono ?_; rintro e v0 ⟨rfl, hbx⟩; have hq1 := Aside0.mk (blk_below hq.out hbx); have hr1 := Aside0.mk (blk_below hr.out hbx); have hb1 := Aside0.mk (below_step hb0.out hbx); have k1 := (blk_cell hq1.out 1).trans (by rw [HC1.out]; rfl : _ = some (Value.slice A1 p.suf.length a1)); have j1 := (blk_cell hr1.out 1).trans (by rw [HC2.out]; rfl : _ = some (Value.slice B1 p.suf.length b1)); clear hbx)
    | (go_at_call_of 16 (Value.slice A1 p.suf.length a1); refine (HS.out _ hb1.out).2.1.mono ?_; rintro e v1 ⟨rfl, hbx⟩; have hq2 := Aside0.mk (blk_below hq1.out hbx); have hr2 := Aside0.mk (blk_below hr1.out hbx); have hb2 := Aside0.mk (below_step hb1.out hbx); have k2 := (blk_cell hq2.out 2).trans (by rw [HC1.out]; rfl : _ = some (Value.bool p.neg)); have j2 := (blk_cell hr2.out 2).trans (by rw [HC2.out]; rfl : _ = some (Value.bool p.neg)); have k3 := (blk_cell hq2.out 3).trans (by rw [HC1.out]; rfl : _ = some (Value.slice A3 p.npre.length a3)); have j3 := (blk_cell hr2.out 3).trans (by rw [HC2.out]; rfl : _ = some (Value.slice B3 p.npre.length b3)); clear hbx)
    | (go_at_call_of 16 (Value.slice A3 p.npre.length a3); refine (HS.out _ hb2.out).2.2.1.mono ?_; rintro e v2 ⟨rfl, hbx⟩; have hq3 := Aside0.mk (blk_below hq2.out hbx); have hr3 := Aside0.mk (blk_below hr2.out hbx); have hb3 := Aside0.mk (below_step hb2.out hbx); have k4 := (blk_cell hq3.out 4).trans (by rw [HC1.out]; rfl : _ = some (Value.slice A4 p.nsuf.length a4)); have j4 := (blk_cell hr3.out 4).trans (by rw [HC2.out]; rfl : _ = some (Value.slice B4 p.nsuf.length b4)); clear hbx)
    | (go_at_call_of 16 (Value.slice A4 p.nsuf.length a4); refine (HS.out _ hb3.out).2.2.2.mono ?_; rintro e v3 ⟨rfl, hbx⟩; have hq4 := Aside0.mk (blk_below hq3.out hbx); have hr4 := Aside0.mk (blk_below hr3.out hbx); have hb4 := Aside0.mk (below_step hb3.out hbx); have k5 := (blk_cell hq4.out 5).trans (by rw [HC1.out]; rfl : _ = some (Value.int .i64 p.minInt)); have j5 := (blk_cell hr4.out 5).trans (by rw [HC2.out]; rfl : _ = some (Value.int .i64 p.minInt)); have k6 := (blk_cell hq4.out 6).trans (by rw [HC1.out]; rfl : _ = some (Value.int .i64 p.minFrac)); have j6 := (blk_cell hr4.out 6).trans (by rw [HC2.out]; rfl : _ = some (Value.int .i64 p.minFrac)); have k7 := (blk_cell hq4.out 7).trans (by rw [HC1.out]; rfl : _ = some (Value.int .i64 p.maxFrac)); have j7 := (blk_cell hr4.out 7).trans (by rw [HC2.out]; rfl : _ = some (Value.int .i64 p.maxFrac)); have k8 := (blk_cell hq4.out 8).trans (by rw [HC1.out]; rfl : _ = some (Value.int .i64 p.minSig)); have j8 := (blk_cell hr4.out 8).trans (by rw [HC2.out]; rfl : _ = some (Value.int .i64 p.minSig)); have k9 := (blk_cell hq4.out 9).trans (by rw [HC1.out]; rfl : _ = some (Value.int .i64 p.maxSig)); have j9 := (blk_cell hr4.out 9).trans (by rw [HC2.out]; rfl : _ = some (Value.int .i64 p.maxSig)); have k10 := (blk_cell hq4.out 10).trans (by rw [HC1.out]; rfl : _ = some (Value.int .i64 p.group)); have j10 := (blk_cell hr4.out 10).trans (by rw [HC2.out]; rfl : _ = some (Value.int .i64 p.group)); have k11 := (blk_cell hq4.out 11).trans (by rw [HC1.out]; rfl : _ = some (Value.int .i64 p.second)); have j11 := (blk_cell hr4.out 11).trans (by rw [HC2.out]; rfl : _ = some (Value.int .i64 p.second)); have k12 := (blk_cell hq4.out 12).trans (by rw [HC1.out]; rfl : _ = some (Value.bool p.sNeg)); have j12 := (blk_cell hr4.out 12).trans (by rw [HC2.out]; rfl : _ = some (Value.bool p.sNeg)); have k13 := (blk_cell hq4.out 13).trans (by rw [HC1.out]; rfl : _ = some (Value.string (bs p.sInt))); have j13 := (blk_cell hr4.out 13).trans (by rw [HC2.out]; rfl : _ = some (Value.string (bs p.sInt))); have k14 := (blk_cell hq4.out 14).trans (by rw [HC1.out]; rfl : _ = some (Value.string (bs p.sFrac))); have j14 := (blk_cell hr4.out 14).trans (by rw [HC2.out]; rfl : _ = some (Value.string (bs p.sFrac))); have k15 := (blk_cell hq4.out 15).trans (by rw [HC1.out]; rfl : _ = some (Value.int .i64 p.exp)); have j15 := (blk_cell hr4.out 15).trans (by rw [HC2.out]; rfl : _ = some (Value.int .i64 p.exp)); have k16 := (blk_cell hq4.out 16).trans (by rw [HC1.out]; rfl : _ = some (Value.bool p.expPlus)); have j16 := (blk_cell hr4.out 16).trans (by rw [HC2.out]; rfl : _ = some (Value.bool p.expPlus)); clear hbx))
  go_ret
  exact ⟨rfl, hb4.out⟩
end Go.Proofs.YtjpdakepfmepnaaDoor

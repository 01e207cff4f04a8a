/- The walk of pattern.Print. (Printed by gen_print.py.) -/
import Derived.Test.YtjpdakepfmepnaaDoorPNum
import Derived.Test.YtjpdakepfmepnaaDoorPAff
import Derived.Test.YtjpdakepfmepnaaDoorShelf
namespace Go.Proofs.YtjpdakepfmepnaaDoor
open Go.RowKit Go.Proofs.YtjpdakepfmepnaaDoorW.PrintWords Pat
set_option linter.unusedVariables false
set_option linter.unusedSimpArgs false

theorem len_any (B b : Nat) (l : List UInt8) (w : World) (h : bB B b l w) : Calls Tryd.prog 13 #[.pointer (some ⟨b, 0, none⟩)] w fun e w' => e = .returned (.int .i64 l.length) ∧ w' = w := by
  have := Tryd.Builder_Len B b (Lib.byteCells l) w h
  rw [Lib.byteCells_length] at this
  exact this
theorem len_any2 (B b N : Nat) (l : List UInt8) (hN : N = l.length) (w : World) (h : bB B b l w) : Calls Tryd.prog 13 #[.pointer (some ⟨b, 0, none⟩)] w fun e w' => e = .returned (.int .i64 N) ∧ w' = w := by
  rw [hN]; exact len_any B b l w h
theorem str_any (B b : Nat) (l : List UInt8) (w : World) (h : bB B b l w) (hBw : B ≤ w.heap.size) : Calls Tryd.prog 14 #[.pointer (some ⟨b, 0, none⟩)] w fun e w' => e = .returned (.string (bs l)) ∧ Below B w w' :=
  Tryd.Builder_String_any B b l w h hBw
/-- A pattern whose texts a machine holds. -/
structure TextOk (p : Pat) : Prop where
  t0 : ∀ a ∈ p.pre, a.text.length ≤ 268435456
  t1 : ∀ a ∈ p.suf, a.text.length ≤ 268435456
  t3 : ∀ a ∈ p.npre, a.text.length ≤ 268435456
  t4 : ∀ a ∈ p.nsuf, a.text.length ≤ 268435456
theorem piece_len {a : Aff} (h : goodP a) : (pieceStr a).length ≤ 1073741824 := by
  obtain ⟨ht, hk⟩ := h
  unfold pieceStr
  split
  · unfold textS
    have := dbl_length a.text
    split
    · simp only [List.length_cons, List.length_append, List.length_nil]; omega
    · omega
  · split
    · simp
    · split
      · simp
      · split
        · simp
        · split
          · simp [permille]
          · rcases hk with e | e | e | e | e | ⟨e, h1, h3⟩
            all_goals first | contradiction | skip
            have : ∀ n : Nat, (List.replicate n money).flatten.length = 2 * n := by
              intro n
              induction n with
              | zero => rfl
              | succ n ih => rw [List.replicate_succ, List.flatten_cons, List.length_append, ih]; simp [money]; omega
            rw [this]; omega
theorem aff_len : ∀ {l : List Aff}, (∀ a ∈ l, goodP a) → (affStr l).length ≤ l.length * 1073741824
  | [], _ => by simp [affStr]
  | a :: l, h => by
    have h1 := piece_len (h a (by simp))
    have h2 := aff_len (l := l) (fun x hx => h x (by simp [hx]))
    have e : affStr (a :: l) = pieceStr a ++ affStr l := by simp [affStr]
    rw [e, List.length_append, List.length_cons]
    omega
theorem num_len {p : Pat} (h : POk p) : (numStr p).length ≤ 1000 := by
  have h1 := comma_le h
  have hl := h.lens
  have b6 := h.c6
  have b7 := h.c7
  have b15 := h.c15
  have bf := h.fr
  have h2 : (fracStr p).length ≤ 100 := by
    unfold fracStr
    split
    · simp only [List.length_cons, List.length_append, List.length_replicate]
      split
      · rw [List.length_replicate]; omega
      · omega
    · simp
  have h3 : (expStr p).length ≤ 100 := by
    unfold expStr
    split
    · simp only [List.length_cons, List.length_append, List.length_replicate]
      split
      · simp; omega
      · simp; omega
    · simp
  unfold numStr
  rw [List.length_append, List.length_append]
  omega
theorem printL_pos {p : Pat} (h : p.neg = false) : printL p = ((([] ++ affStr p.pre) ++ numStr p) ++ affStr p.suf) := by unfold printL; rw [h]; simp
theorem printL_neg {p : Pat} (h : p.neg = true) : printL p = ((((((([] ++ affStr p.pre) ++ numStr p) ++ affStr p.suf) ++ [59]) ++ affStr p.npre) ++ numStr p) ++ affStr p.nsuf) := by unfold printL; rw [h]; simp
set_option maxHeartbeats 8000000 in
set_option maxRecDepth 100000 in
theorem print_any (s0 s1 s3 s4 : Sl) (p : Pat) (w : World) (m : Int) (hm : w.cell? ⟨0, 0, none⟩ = some (.int .i64 m)) (h : PatReads w s0 s1 s3 s4 p) (ht : TextOk p) :
    Calls Tryd.prog 4 #[patV s0 s1 s3 s4 p] w fun e w' => e = .returned (.tuple #[.string (bs (printS p).1), .int .i64 (printS p).2]) ∧ Below w.heap.size w w' := by
  have hu2 := Tryd.underlying26
  obtain ⟨A0, n0, c0⟩ := s0
  obtain ⟨A1, n1, c1⟩ := s1
  obtain ⟨A3, n3, c3⟩ := s3
  obtain ⟨A4, n4, c4⟩ := s4
  obtain ⟨e0, e1, e3, e4⟩ := And.intro h.e0 (And.intro h.e1 (And.intro h.e3 h.e4))
  dsimp only at e0 e1 e3 e4
  subst e0 e1 e3 e4
  have H := Lib.hid h
  have HM := Lib.hid hm
  clear h hm
  obtain ⟨r, hr⟩ : ∃ r, r = printS p := ⟨_, rfl⟩
  rw [← hr]
  have HR := Lib.hid hr
  clear hr
  obtain ⟨cs, hcs⟩ : ∃ cs, cs = patCells ⟨A0, p.pre.length, c0⟩ ⟨A1, p.suf.length, c1⟩ ⟨A3, p.npre.length, c3⟩ ⟨A4, p.nsuf.length, c4⟩ p := ⟨_, rfl⟩
  show Calls Tryd.prog 4 #[.agg (patCells ⟨A0, p.pre.length, c0⟩ ⟨A1, p.suf.length, c1⟩ ⟨A3, p.npre.length, c3⟩ ⟨A4, p.nsuf.length, c4⟩ p)] w _
  have hsz := Lib.hid (show (Tryd.prog.info? 26).map (·.size) = some cs.size by rw [hcs]; exact sizePat)
  have HC := Lib.hid hcs
  have HCK : Hid (∀ w1, Below w.heap.size w w1 → Calls Tryd.prog 8 #[.agg cs] w1 fun e w' => e = .returned (.int .i64 (checkS p)) ∧ Below w1.heap.size w1 w') := Lib.hid fun w1 hb1 => by rw [hcs]; exact check_any _ _ _ _ p w1 (H.out.below hb1)
  clear hcs
  obtain ⟨ec, hec⟩ : ∃ e, e = checkS p := ⟨_, rfl⟩
  rw [← hec] at HCK
  have hb1 := Aside0.mk (show Below w.heap.size w (w.alloc (.cells (patCells ⟨A0, p.pre.length, c0⟩ ⟨A1, p.suf.length, c1⟩ ⟨A3, p.npre.length, c3⟩ ⟨A4, p.nsuf.length, c4⟩ p) 26 (0, 0))) from below_alloc (Below.refl _ _) _)
  have hq1 := Aside0.mk (show (w.alloc (.cells (patCells ⟨A0, p.pre.length, c0⟩ ⟨A1, p.suf.length, c1⟩ ⟨A3, p.npre.length, c3⟩ ⟨A4, p.nsuf.length, c4⟩ p) 26 (0, 0))).heap[w.heap.size]? = some (.cells cs 26 (0, 0)) by rw [HC.out]; exact blk_new w _)
  by_cases he : ec = 0
  · have hok := POk.of (hec ▸ he : checkS p = 0)
    have hpr := Lib.hid (show r = if 65536 < (printL p).length then ([], 2) else (printL p, 0) by rw [HR.out]; unfold printS; rw [if_neg (by rw [← hec, he]; simp)])
    have g0 := Lib.hid (good_of hok.a0 ht.t0)
    have g1 := Lib.hid (good_of hok.a1 ht.t1)
    have g3 := Lib.hid (good_of hok.a3 ht.t3)
    have g4 := Lib.hid (good_of hok.a4 ht.t4)
    have l0 := affErr_le hok.a0
    have l1 := affErr_le hok.a1
    have l3 := affErr_le hok.a3
    have l4 := affErr_le hok.a4
    have q0 := aff_len g0.out
    have q1 := aff_len g1.out
    have q3 := aff_len g3.out
    have q4 := aff_len g4.out
    have qn := num_len hok
    have HPN : Hid (∀ w1, Calls Tryd.prog 9 #[.agg cs] w1 fun e w' => e = .returned (.string (bs (numStr p))) ∧ Below w1.heap.size w1 w') := Lib.hid fun w1 => by rw [HC.out]; exact printNumber_any _ _ _ _ p w1 hok
    subst he
    clear HR hec
    have Q := Lib.hid (And.intro l0 (And.intro l1 (And.intro l3 (And.intro l4 (And.intro q0 (And.intro q1 (And.intro q3 (And.intro q4 qn))))))))
    clear l0 l1 l3 l4 q0 q1 q3 q4 qn ht
    cases hn : p.neg with
    | false =>
      have HL := Lib.hid (printL_pos hn)
      have HNG := Lib.hid hn
      clear hn
      obtain ⟨P1, hP1⟩ : ∃ x, x = ([] : List UInt8) ++ affStr p.pre := ⟨_, rfl⟩
      have HP1 := Lib.hid hP1
      obtain ⟨P2, hP2⟩ : ∃ x, x = P1 ++ numStr p := ⟨_, rfl⟩
      have HP2 := Lib.hid hP2
      obtain ⟨P3, hP3⟩ : ∃ x, x = P2 ++ affStr p.suf := ⟨_, rfl⟩
      have HP3 := Lib.hid hP3
      have HLP := Lib.hid (show printL p = P3 by rw [HL.out, hP3, hP2, hP1])
      have LE1 := Lib.hid (show (([] : List UInt8) ++ affStr p.pre).length ≤ 140737488355328 by obtain ⟨l0, l1, l3, l4, q0, q1, q3, q4, qn⟩ := Q.out; simp only [List.length_append, List.length_cons, List.length_nil]; omega)
      have LE2 := Lib.hid (show (P1 ++ numStr p).length ≤ 140737488355328 by obtain ⟨l0, l1, l3, l4, q0, q1, q3, q4, qn⟩ := Q.out; simp only [hP1, List.length_append, List.length_cons, List.length_nil]; omega)
      have LE3 := Lib.hid (show (P2 ++ affStr p.suf).length ≤ 140737488355328 by obtain ⟨l0, l1, l3, l4, q0, q1, q3, q4, qn⟩ := Q.out; simp only [hP1, hP2, List.length_append, List.length_cons, List.length_nil]; omega)
      have G0 := Lib.hid (show p.pre.length ≤ 1048576 by have := Q.out; omega)
      have G1 := Lib.hid (show p.suf.length ≤ 1048576 by have := Q.out; omega)
      have G3 := Lib.hid (show p.npre.length ≤ 1048576 by have := Q.out; omega)
      have G4 := Lib.hid (show p.nsuf.length ≤ 1048576 by have := Q.out; omega)
      obtain ⟨N, hN⟩ : ∃ N, N = P3.length := ⟨_, rfl⟩
      have HN := Lib.hid hN
      have hNL : (printL p).length = N := by rw [HLP.out, hN]
      clear hN Q HL hP1 hP2 hP3
      by_cases hL : 65536 < (printL p).length
      · as_aux_lemma =>
          have hX := Lib.hid (hpr.out.trans (if_pos hL))
          have hLi : (65536 : Int) < (N : Int) := by omega
          clear hpr hL hNL
          go_enter Tryd.func4, Tryd.ntmps4
          go_wp2_with (first
            | ((with_reducible refine gate_ (.load 26 (.tmp 1)) rfl ?_); refine load_row_w (by rfl) 26 (.tmp 1) rfl w.heap.size rfl 26 cs (0, 0) _ hq1.out hu2 rfl hsz.out ?_)
            | (go_at_call 8; refine (HCK.out _ hb1.out).mono ?_; rintro e w2 ⟨rfl, hb2⟩; have hb2' := Aside0.mk (below_step hb1.out hb2); have hq2 := Aside0.mk (blk_below hq1.out hb2); have hlt2 := Aside0.mk (blk_lt hq2.out); have H2 := Lib.hid (H.out.below hb2'.out); have HM2 := Lib.hid (glob_up hb2'.out HM.out); have hpz := Aside0.mk (Lib.fresh_isBuilder 41 5 w2); have hbz := Aside0.mk (show Below w2.heap.size w2 (w2.alloc (.cells #[.pointer none, .slice none 0 0] 41 (0, 0))) from below_alloc (Below.refl _ _) _); have hqz := Aside0.mk ((hbz.out.block _ hlt2.out).trans hq2.out); clear hb2)
            | ((with_reducible refine gate_ (.load 26 (.tmp 1)) rfl ?_); refine load_row_w (by rfl) 26 (.tmp 1) rfl w.heap.size rfl 26 cs (0, 0) _ hqz.out hu2 rfl hsz.out ?_)
            | (go_at_call 9; refine (HPN.out _).mono ?_; rintro e w3 ⟨rfl, hb3⟩; have hp0 := Aside0.mk (show bB w2.heap.size w2.heap.size [] w3 from isB.below hpz.out hb3); have hb0 := Aside0.mk (Below.trans hbz.out (hb3.mono hbz.out.size)); have k0 := (blk_cell ((hb0.out.block _ hlt2.out).trans hq2.out) 0).trans (by rw [HC.out]; rfl : _ = some (Value.slice A0 p.pre.length c0)); clear hb3)
            | (go_at_call_of 10 (Value.slice A0 p.pre.length c0); refine (printAffix_any w2.heap.size w2.heap.size ([] : List UInt8) p.pre A0 c0 w2 _ m HM2.out H2.out.r0 (Nat.le_refl _) hb0.out hb0.out.size hp0.out LE1.out g0.out G0.out).mono ?_; rintro e v0 ⟨rfl, hpx, hbx⟩; have hp1 := Aside0.mk (show bB w2.heap.size w2.heap.size P1 _ by rw [HP1.out]; exact hpx); have hb1 := Aside0.mk (Below.trans hb0.out hbx); clear hpx hbx)
            | (go_at_call 11; refine (ws_any w2.heap.size w2.heap.size P1 (numStr p) _ hp1.out LE2.out hb1.out.size).mono ?_; rintro e v1 ⟨rfl, hpx, hbx⟩; have hp2 := Aside0.mk (show bB w2.heap.size w2.heap.size P2 _ by rw [HP2.out]; exact hpx); have hb2 := Aside0.mk (Below.trans hb1.out hbx); have k1 := (blk_cell ((hb2.out.block _ hlt2.out).trans hq2.out) 1).trans (by rw [HC.out]; rfl : _ = some (Value.slice A1 p.suf.length c1)); clear hpx hbx)
            | (go_at_call_of 10 (Value.slice A1 p.suf.length c1); refine (printAffix_any w2.heap.size w2.heap.size P2 p.suf A1 c1 w2 _ m HM2.out H2.out.r1 (Nat.le_refl _) hb2.out hb2.out.size hp2.out LE3.out g1.out G1.out).mono ?_; rintro e v2 ⟨rfl, hpx, hbx⟩; have hp3 := Aside0.mk (show bB w2.heap.size w2.heap.size P3 _ by rw [HP3.out]; exact hpx); have hb3 := Aside0.mk (Below.trans hb2.out hbx); have k2 := (blk_cell ((hb3.out.block _ hlt2.out).trans hq2.out) 2).trans (by rw [HC.out]; show _ = some (Value.bool false); rw [← HNG.out]; rfl : _ = some (Value.bool false)); clear hpx hbx)
            | (go_at_call 13; refine (len_any2 w2.heap.size w2.heap.size N P3 HN.out _ hp3.out).mono ?_; rintro e w8 ⟨rfl, rfl⟩))
          go_ret2
          exact ⟨by rw [hX.out]; rfl, below_then hb2'.out hb2'.out.size hb3.out⟩
      · as_aux_lemma =>
          have hX := Lib.hid (hpr.out.trans (if_neg hL))
          have hLi : ¬ (65536 : Int) < (N : Int) := by omega
          clear hpr hL hNL
          go_enter Tryd.func4, Tryd.ntmps4
          go_wp2_with (first
            | ((with_reducible refine gate_ (.load 26 (.tmp 1)) rfl ?_); refine load_row_w (by rfl) 26 (.tmp 1) rfl w.heap.size rfl 26 cs (0, 0) _ hq1.out hu2 rfl hsz.out ?_)
            | (go_at_call 8; refine (HCK.out _ hb1.out).mono ?_; rintro e w2 ⟨rfl, hb2⟩; have hb2' := Aside0.mk (below_step hb1.out hb2); have hq2 := Aside0.mk (blk_below hq1.out hb2); have hlt2 := Aside0.mk (blk_lt hq2.out); have H2 := Lib.hid (H.out.below hb2'.out); have HM2 := Lib.hid (glob_up hb2'.out HM.out); have hpz := Aside0.mk (Lib.fresh_isBuilder 41 5 w2); have hbz := Aside0.mk (show Below w2.heap.size w2 (w2.alloc (.cells #[.pointer none, .slice none 0 0] 41 (0, 0))) from below_alloc (Below.refl _ _) _); have hqz := Aside0.mk ((hbz.out.block _ hlt2.out).trans hq2.out); clear hb2)
            | ((with_reducible refine gate_ (.load 26 (.tmp 1)) rfl ?_); refine load_row_w (by rfl) 26 (.tmp 1) rfl w.heap.size rfl 26 cs (0, 0) _ hqz.out hu2 rfl hsz.out ?_)
            | (go_at_call 9; refine (HPN.out _).mono ?_; rintro e w3 ⟨rfl, hb3⟩; have hp0 := Aside0.mk (show bB w2.heap.size w2.heap.size [] w3 from isB.below hpz.out hb3); have hb0 := Aside0.mk (Below.trans hbz.out (hb3.mono hbz.out.size)); have k0 := (blk_cell ((hb0.out.block _ hlt2.out).trans hq2.out) 0).trans (by rw [HC.out]; rfl : _ = some (Value.slice A0 p.pre.length c0)); clear hb3)
            | (go_at_call_of 10 (Value.slice A0 p.pre.length c0); refine (printAffix_any w2.heap.size w2.heap.size ([] : List UInt8) p.pre A0 c0 w2 _ m HM2.out H2.out.r0 (Nat.le_refl _) hb0.out hb0.out.size hp0.out LE1.out g0.out G0.out).mono ?_; rintro e v0 ⟨rfl, hpx, hbx⟩; have hp1 := Aside0.mk (show bB w2.heap.size w2.heap.size P1 _ by rw [HP1.out]; exact hpx); have hb1 := Aside0.mk (Below.trans hb0.out hbx); clear hpx hbx)
            | (go_at_call 11; refine (ws_any w2.heap.size w2.heap.size P1 (numStr p) _ hp1.out LE2.out hb1.out.size).mono ?_; rintro e v1 ⟨rfl, hpx, hbx⟩; have hp2 := Aside0.mk (show bB w2.heap.size w2.heap.size P2 _ by rw [HP2.out]; exact hpx); have hb2 := Aside0.mk (Below.trans hb1.out hbx); have k1 := (blk_cell ((hb2.out.block _ hlt2.out).trans hq2.out) 1).trans (by rw [HC.out]; rfl : _ = some (Value.slice A1 p.suf.length c1)); clear hpx hbx)
            | (go_at_call_of 10 (Value.slice A1 p.suf.length c1); refine (printAffix_any w2.heap.size w2.heap.size P2 p.suf A1 c1 w2 _ m HM2.out H2.out.r1 (Nat.le_refl _) hb2.out hb2.out.size hp2.out LE3.out g1.out G1.out).mono ?_; rintro e v2 ⟨rfl, hpx, hbx⟩; have hp3 := Aside0.mk (show bB w2.heap.size w2.heap.size P3 _ by rw [HP3.out]; exact hpx); have hb3 := Aside0.mk (Below.trans hb2.out hbx); have k2 := (blk_cell ((hb3.out.block _ hlt2.out).trans hq2.out) 2).trans (by rw [HC.out]; show _ = some (Value.bool false); rw [← HNG.out]; rfl : _ = some (Value.bool false)); clear hpx hbx)
            | (go_at_call 13; refine (len_any2 w2.heap.size w2.heap.size N P3 HN.out _ hp3.out).mono ?_; rintro e w8 ⟨rfl, rfl⟩)
            | (go_at_call 14; refine (str_any w2.heap.size w2.heap.size P3 _ hp3.out hb3.out.size).mono ?_; rintro e w9 ⟨rfl, hbx⟩; have hb9 := Aside0.mk (Below.trans hb3.out hbx); clear hbx))
          go_ret2
          exact ⟨by rw [hX.out, HLP.out]; rfl, below_then hb2'.out hb2'.out.size hb9.out⟩
    | true =>
      have HL := Lib.hid (printL_neg hn)
      have HNG := Lib.hid hn
      clear hn
      obtain ⟨P1, hP1⟩ : ∃ x, x = ([] : List UInt8) ++ affStr p.pre := ⟨_, rfl⟩
      have HP1 := Lib.hid hP1
      obtain ⟨P2, hP2⟩ : ∃ x, x = P1 ++ numStr p := ⟨_, rfl⟩
      have HP2 := Lib.hid hP2
      obtain ⟨P3, hP3⟩ : ∃ x, x = P2 ++ affStr p.suf := ⟨_, rfl⟩
      have HP3 := Lib.hid hP3
      obtain ⟨P4, hP4⟩ : ∃ x, x = P3 ++ [59] := ⟨_, rfl⟩
      have HP4 := Lib.hid hP4
      obtain ⟨P5, hP5⟩ : ∃ x, x = P4 ++ affStr p.npre := ⟨_, rfl⟩
      have HP5 := Lib.hid hP5
      obtain ⟨P6, hP6⟩ : ∃ x, x = P5 ++ numStr p := ⟨_, rfl⟩
      have HP6 := Lib.hid hP6
      obtain ⟨P7, hP7⟩ : ∃ x, x = P6 ++ affStr p.nsuf := ⟨_, rfl⟩
      have HP7 := Lib.hid hP7
      have HLP := Lib.hid (show printL p = P7 by rw [HL.out, hP7, hP6, hP5, hP4, hP3, hP2, hP1])
      have LE1 := Lib.hid (show (([] : List UInt8) ++ affStr p.pre).length ≤ 140737488355328 by obtain ⟨l0, l1, l3, l4, q0, q1, q3, q4, qn⟩ := Q.out; simp only [List.length_append, List.length_cons, List.length_nil]; omega)
      have LE2 := Lib.hid (show (P1 ++ numStr p).length ≤ 140737488355328 by obtain ⟨l0, l1, l3, l4, q0, q1, q3, q4, qn⟩ := Q.out; simp only [hP1, List.length_append, List.length_cons, List.length_nil]; omega)
      have LE3 := Lib.hid (show (P2 ++ affStr p.suf).length ≤ 140737488355328 by obtain ⟨l0, l1, l3, l4, q0, q1, q3, q4, qn⟩ := Q.out; simp only [hP1, hP2, List.length_append, List.length_cons, List.length_nil]; omega)
      have LE4 := Lib.hid (show (P3 ++ [59]).length ≤ 140737488355328 by obtain ⟨l0, l1, l3, l4, q0, q1, q3, q4, qn⟩ := Q.out; simp only [hP1, hP2, hP3, List.length_append, List.length_cons, List.length_nil]; omega)
      have LE5 := Lib.hid (show (P4 ++ affStr p.npre).length ≤ 140737488355328 by obtain ⟨l0, l1, l3, l4, q0, q1, q3, q4, qn⟩ := Q.out; simp only [hP1, hP2, hP3, hP4, List.length_append, List.length_cons, List.length_nil]; omega)
      have LE6 := Lib.hid (show (P5 ++ numStr p).length ≤ 140737488355328 by obtain ⟨l0, l1, l3, l4, q0, q1, q3, q4, qn⟩ := Q.out; simp only [hP1, hP2, hP3, hP4, hP5, List.length_append, List.length_cons, List.length_nil]; omega)
      have LE7 := Lib.hid (show (P6 ++ affStr p.nsuf).length ≤ 140737488355328 by obtain ⟨l0, l1, l3, l4, q0, q1, q3, q4, qn⟩ := Q.out; simp only [hP1, hP2, hP3, hP4, hP5, hP6, List.length_append, List.length_cons, List.length_nil]; omega)
      have G0 := Lib.hid (show p.pre.length ≤ 1048576 by have := Q.out; omega)
      have G1 := Lib.hid (show p.suf.length ≤ 1048576 by have := Q.out; omega)
      have G3 := Lib.hid (show p.npre.length ≤ 1048576 by have := Q.out; omega)
      have G4 := Lib.hid (show p.nsuf.length ≤ 1048576 by have := Q.out; omega)
      obtain ⟨N, hN⟩ : ∃ N, N = P7.length := ⟨_, rfl⟩
      have HN := Lib.hid hN
      have hNL : (printL p).length = N := by rw [HLP.out, hN]
      clear hN Q HL hP1 hP2 hP3 hP4 hP5 hP6 hP7
      by_cases hL : 65536 < (printL p).length
      · as_aux_lemma =>
          have hX := Lib.hid (hpr.out.trans (if_pos hL))
          have hLi : (65536 : Int) < (N : Int) := by omega
          clear hpr hL hNL
          go_enter Tryd.func4, Tryd.ntmps4
          go_wp2_with (first
            | ((with_reducible refine gate_ (.load 26 (.tmp 1)) rfl ?_); refine load_row_w (by rfl) 26 (.tmp 1) rfl w.heap.size rfl 26 cs (0, 0) _ hq1.out hu2 rfl hsz.out ?_)
            | (go_at_call 8; refine (HCK.out _ hb1.out).mono ?_; rintro e w2 ⟨rfl, hb2⟩; have hb2' := Aside0.mk (below_step hb1.out hb2); have hq2 := Aside0.mk (blk_below hq1.out hb2); have hlt2 := Aside0.mk (blk_lt hq2.out); have H2 := Lib.hid (H.out.below hb2'.out); have HM2 := Lib.hid (glob_up hb2'.out HM.out); have hpz := Aside0.mk (Lib.fresh_isBuilder 41 5 w2); have hbz := Aside0.mk (show Below w2.heap.size w2 (w2.alloc (.cells #[.pointer none, .slice none 0 0] 41 (0, 0))) from below_alloc (Below.refl _ _) _); have hqz := Aside0.mk ((hbz.out.block _ hlt2.out).trans hq2.out); clear hb2)
            | ((with_reducible refine gate_ (.load 26 (.tmp 1)) rfl ?_); refine load_row_w (by rfl) 26 (.tmp 1) rfl w.heap.size rfl 26 cs (0, 0) _ hqz.out hu2 rfl hsz.out ?_)
            | (go_at_call 9; refine (HPN.out _).mono ?_; rintro e w3 ⟨rfl, hb3⟩; have hp0 := Aside0.mk (show bB w2.heap.size w2.heap.size [] w3 from isB.below hpz.out hb3); have hb0 := Aside0.mk (Below.trans hbz.out (hb3.mono hbz.out.size)); have k0 := (blk_cell ((hb0.out.block _ hlt2.out).trans hq2.out) 0).trans (by rw [HC.out]; rfl : _ = some (Value.slice A0 p.pre.length c0)); clear hb3)
            | (go_at_call_of 10 (Value.slice A0 p.pre.length c0); refine (printAffix_any w2.heap.size w2.heap.size ([] : List UInt8) p.pre A0 c0 w2 _ m HM2.out H2.out.r0 (Nat.le_refl _) hb0.out hb0.out.size hp0.out LE1.out g0.out G0.out).mono ?_; rintro e v0 ⟨rfl, hpx, hbx⟩; have hp1 := Aside0.mk (show bB w2.heap.size w2.heap.size P1 _ by rw [HP1.out]; exact hpx); have hb1 := Aside0.mk (Below.trans hb0.out hbx); clear hpx hbx)
            | (go_at_call 11; refine (ws_any w2.heap.size w2.heap.size P5 (numStr p) _ hp5.out LE6.out hb5.out.size).mono ?_; rintro e v5 ⟨rfl, hpx, hbx⟩; have hp6 := Aside0.mk (show bB w2.heap.size w2.heap.size P6 _ by rw [HP6.out]; exact hpx); have hb6 := Aside0.mk (Below.trans hb5.out hbx); have k4 := (blk_cell ((hb6.out.block _ hlt2.out).trans hq2.out) 4).trans (by rw [HC.out]; rfl : _ = some (Value.slice A4 p.nsuf.length c4)); clear hpx hbx)
            | (go_at_call 11; refine (ws_any w2.heap.size w2.heap.size P1 (numStr p) _ hp1.out LE2.out hb1.out.size).mono ?_; rintro e v1 ⟨rfl, hpx, hbx⟩; have hp2 := Aside0.mk (show bB w2.heap.size w2.heap.size P2 _ by rw [HP2.out]; exact hpx); have hb2 := Aside0.mk (Below.trans hb1.out hbx); have k1 := (blk_cell ((hb2.out.block _ hlt2.out).trans hq2.out) 1).trans (by rw [HC.out]; rfl : _ = some (Value.slice A1 p.suf.length c1)); clear hpx hbx)
            | (go_at_call_of 10 (Value.slice A1 p.suf.length c1); refine (printAffix_any w2.heap.size w2.heap.size P2 p.suf A1 c1 w2 _ m HM2.out H2.out.r1 (Nat.le_refl _) hb2.out hb2.out.size hp2.out LE3.out g1.out G1.out).mono ?_; rintro e v2 ⟨rfl, hpx, hbx⟩; have hp3 := Aside0.mk (show bB w2.heap.size w2.heap.size P3 _ by rw [HP3.out]; exact hpx); have hb3 := Aside0.mk (Below.trans hb2.out hbx); have k2 := (blk_cell ((hb3.out.block _ hlt2.out).trans hq2.out) 2).trans (by rw [HC.out]; show _ = some (Value.bool true); rw [← HNG.out]; rfl : _ = some (Value.bool true)); clear hpx hbx)
            | (go_at_call 12; refine (wb_any w2.heap.size w2.heap.size P3 59 _ hp3.out LE4.out hb3.out.size).mono ?_; rintro e v3 ⟨rfl, hpx, hbx⟩; have hp4 := Aside0.mk (show bB w2.heap.size w2.heap.size P4 _ by rw [HP4.out]; exact hpx); have hb4 := Aside0.mk (Below.trans hb3.out hbx); have k3 := (blk_cell ((hb4.out.block _ hlt2.out).trans hq2.out) 3).trans (by rw [HC.out]; rfl : _ = some (Value.slice A3 p.npre.length c3)); clear hpx hbx)
            | (go_at_call_of 10 (Value.slice A3 p.npre.length c3); refine (printAffix_any w2.heap.size w2.heap.size P4 p.npre A3 c3 w2 _ m HM2.out H2.out.r3 (Nat.le_refl _) hb4.out hb4.out.size hp4.out LE5.out g3.out G3.out).mono ?_; rintro e v4 ⟨rfl, hpx, hbx⟩; have hp5 := Aside0.mk (show bB w2.heap.size w2.heap.size P5 _ by rw [HP5.out]; exact hpx); have hb5 := Aside0.mk (Below.trans hb4.out hbx); clear hpx hbx)
            | (go_at_call_of 10 (Value.slice A4 p.nsuf.length c4); refine (printAffix_any w2.heap.size w2.heap.size P6 p.nsuf A4 c4 w2 _ m HM2.out H2.out.r4 (Nat.le_refl _) hb6.out hb6.out.size hp6.out LE7.out g4.out G4.out).mono ?_; rintro e v6 ⟨rfl, hpx, hbx⟩; have hp7 := Aside0.mk (show bB w2.heap.size w2.heap.size P7 _ by rw [HP7.out]; exact hpx); have hb7 := Aside0.mk (Below.trans hb6.out hbx); clear hpx hbx)
            | (go_at_call 13; refine (len_any2 w2.heap.size w2.heap.size N P7 HN.out _ hp7.out).mono ?_; rintro e w8 ⟨rfl, rfl⟩))
          go_ret2
          exact ⟨by rw [hX.out]; rfl, below_then hb2'.out hb2'.out.size hb7.out⟩
      · as_aux_lemma =>
          have hX := Lib.hid (hpr.out.trans (if_neg hL))
          have hLi : ¬ (65536 : Int) < (N : Int) := by omega
          clear hpr hL hNL
          go_enter Tryd.func4, Tryd.ntmps4
          go_wp2_with (first
            | ((with_reducible refine gate_ (.load 26 (.tmp 1)) rfl ?_); refine load_row_w (by rfl) 26 (.tmp 1) rfl w.heap.size rfl 26 cs (0, 0) _ hq1.out hu2 rfl hsz.out ?_)
            | (go_at_call 8; refine (HCK.out _ hb1.out).mono ?_; rintro e w2 ⟨rfl, hb2⟩; have hb2' := Aside0.mk (below_step hb1.out hb2); have hq2 := Aside0.mk (blk_below hq1.out hb2); have hlt2 := Aside0.mk (blk_lt hq2.out); have H2 := Lib.hid (H.out.below hb2'.out); have HM2 := Lib.hid (glob_up hb2'.out HM.out); have hpz := Aside0.mk (Lib.fresh_isBuilder 41 5 w2); have hbz := Aside0.mk (show Below w2.heap.size w2 (w2.alloc (.cells #[.pointer none, .slice none 0 0] 41 (0, 0))) from below_alloc (Below.refl _ _) _); have hqz := Aside0.mk ((hbz.out.block _ hlt2.out).trans hq2.out); clear hb2)
            | ((with_reducible refine gate_ (.load 26 (.tmp 1)) rfl ?_); refine load_row_w (by rfl) 26 (.tmp 1) rfl w.heap.size rfl 26 cs (0, 0) _ hqz.out hu2 rfl hsz.out ?_)
            | (go_at_call 9; refine (HPN.out _).mono ?_; rintro e w3 ⟨rfl, hb3⟩; have hp0 := Aside0.mk (show bB w2.heap.size w2.heap.size [] w3 from isB.below hpz.out hb3); have hb0 := Aside0.mk (Below.trans hbz.out (hb3.mono hbz.out.size)); have k0 := (blk_cell ((hb0.out.block _ hlt2.out).trans hq2.out) 0).trans (by rw [HC.out]; rfl : _ = some (Value.slice A0 p.pre.length c0)); clear hb3)
            | (go_at_call_of 10 (Value.slice A0 p.pre.length c0); refine (printAffix_any w2.heap.size w2.heap.size ([] : List UInt8) p.pre A0 c0 w2 _ m HM2.out H2.out.r0 (Nat.le_refl _) hb0.out hb0.out.size hp0.out LE1.out g0.out G0.out).mono ?_; rintro e v0 ⟨rfl, hpx, hbx⟩; have hp1 := Aside0.mk (show bB w2.heap.size w2.heap.size P1 _ by rw [HP1.out]; exact hpx); have hb1 := Aside0.mk (Below.trans hb0.out hbx); clear hpx hbx)
            | (go_at_call 11; refine (ws_any w2.heap.size w2.heap.size P5 (numStr p) _ hp5.out LE6.out hb5.out.size).mono ?_; rintro e v5 ⟨rfl, hpx, hbx⟩; have hp6 := Aside0.mk (show bB w2.heap.size w2.heap.size P6 _ by rw [HP6.out]; exact hpx); have hb6 := Aside0.mk (Below.trans hb5.out hbx); have k4 := (blk_cell ((hb6.out.block _ hlt2.out).trans hq2.out) 4).trans (by rw [HC.out]; rfl : _ = some (Value.slice A4 p.nsuf.length c4)); clear hpx hbx)
            | (go_at_call 11; refine (ws_any w2.heap.size w2.heap.size P1 (numStr p) _ hp1.out LE2.out hb1.out.size).mono ?_; rintro e v1 ⟨rfl, hpx, hbx⟩; have hp2 := Aside0.mk (show bB w2.heap.size w2.heap.size P2 _ by rw [HP2.out]; exact hpx); have hb2 := Aside0.mk (Below.trans hb1.out hbx); have k1 := (blk_cell ((hb2.out.block _ hlt2.out).trans hq2.out) 1).trans (by rw [HC.out]; rfl : _ = some (Value.slice A1 p.suf.length c1)); clear hpx hbx)
            | (go_at_call_of 10 (Value.slice A1 p.suf.length c1); refine (printAffix_any w2.heap.size w2.heap.size P2 p.suf A1 c1 w2 _ m HM2.out H2.out.r1 (Nat.le_refl _) hb2.out hb2.out.size hp2.out LE3.out g1.out G1.out).mono ?_; rintro e v2 ⟨rfl, hpx, hbx⟩; have hp3 := Aside0.mk (show bB w2.heap.size w2.heap.size P3 _ by rw [HP3.out]; exact hpx); have hb3 := Aside0.mk (Below.trans hb2.out hbx); have k2 := (blk_cell ((hb3.out.block _ hlt2.out).trans hq2.out) 2).trans (by rw [HC.out]; show _ = some (Value.bool true); rw [← HNG.out]; rfl : _ = some (Value.bool true)); clear hpx hbx)
            | (go_at_call 12; refine (wb_any w2.heap.size w2.heap.size P3 59 _ hp3.out LE4.out hb3.out.size).mono ?_; rintro e v3 ⟨rfl, hpx, hbx⟩; have hp4 := Aside0.mk (show bB w2.heap.size w2.heap.size P4 _ by rw [HP4.out]; exact hpx); have hb4 := Aside0.mk (Below.trans hb3.out hbx); have k3 := (blk_cell ((hb4.out.block _ hlt2.out).trans hq2.out) 3).trans (by rw [HC.out]; rfl : _ = some (Value.slice A3 p.npre.length c3)); clear hpx hbx)
            | (go_at_call_of 10 (Value.slice A3 p.npre.length c3); refine (printAffix_any w2.heap.size w2.heap.size P4 p.npre A3 c3 w2 _ m HM2.out H2.out.r3 (Nat.le_refl _) hb4.out hb4.out.size hp4.out LE5.out g3.out G3.out).mono ?_; rintro e v4 ⟨rfl, hpx, hbx⟩; have hp5 := Aside0.mk (show bB w2.heap.size w2.heap.size P5 _ by rw [HP5.out]; exact hpx); have hb5 := Aside0.mk (Below.trans hb4.out hbx); clear hpx hbx)
            | (go_at_call_of 10 (Value.slice A4 p.nsuf.length c4); refine (printAffix_any w2.heap.size w2.heap.size P6 p.nsuf A4 c4 w2 _ m HM2.out H2.out.r4 (Nat.le_refl _) hb6.out hb6.out.size hp6.out LE7.out g4.out G4.out).mono ?_; rintro e v6 ⟨rfl, hpx, hbx⟩; have hp7 := Aside0.mk (show bB w2.heap.size w2.heap.size P7 _ by rw [HP7.out]; exact hpx); have hb7 := Aside0.mk (Below.trans hb6.out hbx); clear hpx hbx)
            | (go_at_call 13; refine (len_any2 w2.heap.size w2.heap.size N P7 HN.out _ hp7.out).mono ?_; rintro e w8 ⟨rfl, rfl⟩)
            | (go_at_call 14; refine (str_any w2.heap.size w2.heap.size P7 _ hp7.out hb7.out.size).mono ?_; rintro e w9 ⟨rfl, hbx⟩; have hb9 := Aside0.mk (Below.trans hb7.out hbx); clear hbx))
          go_ret2
          exact ⟨by rw [hX.out, HLP.out]; rfl, below_then hb2'.out hb2'.out.size hb9.out⟩
  · have hpr := Lib.hid (show r = ([], ec) by rw [HR.out]; unfold printS; rw [← hec, if_pos he])
    have be : (ec == 0) = false := beq_eq_false_iff_ne.mpr he
    clear HR hec
    go_enter Tryd.func4, Tryd.ntmps4
    go_wp2_with (first
      | ((with_reducible refine gate_ (.load 26 (.tmp 1)) rfl ?_); refine load_row_w (by rfl) 26 (.tmp 1) rfl w.heap.size rfl 26 cs (0, 0) _ hq1.out hu2 rfl hsz.out ?_)
      | (go_at_call 8; refine (HCK.out _ hb1.out).mono ?_; rintro e w2 ⟨rfl, hb2⟩; have hb2' := Aside0.mk (below_step hb1.out hb2); clear hb2))
    go_ret2
    exact ⟨by rw [hpr.out]; rfl, hb2'.out⟩
end Go.Proofs.YtjpdakepfmepnaaDoor

/- The walks of pattern.checkPiece, checkAffix. -/
import Derived.Test.YtjpdakepfmepnaaDoorRet
import Derived.Test.YtjpdakepfmepnaaDoorSame
import Derived.Test.YtjpdakepfmepnaaDoorRepl
import Derived.Test.YtjpdakepfmepnaaDoorAffix
import Derived.Test.YtjpdakepfmepnaaDoorNumFin
import Derived.Deep.RegionWith
import Derived.Lib.Hide
namespace Go.Proofs.YtjpdakepfmepnaaDoor
open Go.RowKit Go.Proofs.YtjpdakepfmepnaaDoorW.PrintWords Pat
set_option linter.unusedVariables false
set_option linter.unusedSimpArgs false

set_option maxHeartbeats 4000000 in
set_option maxRecDepth 100000 in
theorem piece_any (a : Aff) (before : Int) (w : World) :
    Calls Tryd.prog 26 #[affV a, .int .i64 before] w fun e w' => e = .returned (.bool (pieceOk a before)) ∧ Below w.heap.size w w' := by
  obtain ⟨k, t, n⟩ := a
  have hu40 := Tryd.underlying28
  by_cases h1 : k = 1
  · subst h1
    have hP : pieceOk ⟨1, t, n⟩ before = (t != [] && n == 0 && before != 1) := by simp [pieceOk]
    rw [hP]
    clear hP
    cases t with
    | nil =>
      go_enter Tryd.func26, Tryd.ntmps26
      go_wp2
      go_ret
      exact ⟨rfl, below_alloc (Below.refl _ _) _⟩
    | cons c q =>
      by_cases hn : n = 0
      · subst hn
        go_enter Tryd.func26, Tryd.ntmps26
        go_wp2
        go_ret
        exact ⟨by simp, below_alloc (Below.refl _ _) _⟩
      · have bn : (n == 0) = false := beq_eq_false_iff_ne.mpr hn
        rw [bn]
        go_enter Tryd.func26, Tryd.ntmps26
        go_wp2
        go_ret
        exact ⟨by simp, below_alloc (Below.refl _ _) _⟩
  · by_cases h6 : k = 6
    · subst h6
      have hP : pieceOk ⟨6, t, n⟩ before = (t == [] && decide (1 ≤ n) && decide (n ≤ 3) && before != 6) := by simp [pieceOk]
      rw [hP]
      clear hP h1
      cases t with
      | cons c q =>
        go_enter Tryd.func26, Tryd.ntmps26
        go_wp2
        go_ret
        exact ⟨rfl, below_alloc (Below.refl _ _) _⟩
      | nil =>
        by_cases hn : 1 ≤ n
        · by_cases hm : n ≤ 3
          · have b1 : decide (1 ≤ n) = true := decide_eq_true hn
            have b2 : decide (n ≤ 3) = true := decide_eq_true hm
            rw [b1, b2]
            go_enter Tryd.func26, Tryd.ntmps26
            go_wp2
            go_ret
            exact ⟨by simp, below_alloc (Below.refl _ _) _⟩
          · have b1 : decide (1 ≤ n) = true := decide_eq_true hn
            have b2 : decide (n ≤ 3) = false := decide_eq_false hm
            rw [b1, b2]
            go_enter Tryd.func26, Tryd.ntmps26
            go_wp2
            go_ret
            exact ⟨by simp, below_alloc (Below.refl _ _) _⟩
        · have b1 : decide (1 ≤ n) = false := decide_eq_false hn
          rw [b1]
          go_enter Tryd.func26, Tryd.ntmps26
          go_wp2
          go_ret
          exact ⟨by simp, below_alloc (Below.refl _ _) _⟩
    · by_cases h2 : k = 2 ∨ k = 3 ∨ k = 4 ∨ k = 5
      · have hP : pieceOk ⟨k, t, n⟩ before = (t == [] && n == 0) := by simp [pieceOk, h1, h6, h2]
        rw [hP]
        clear hP
        cases t with
        | cons c q =>
          rcases h2 with rfl | rfl | rfl | rfl <;> clear h1 h6 <;> (go_enter Tryd.func26, Tryd.ntmps26; go_wp2; go_ret; exact ⟨rfl, below_alloc (Below.refl _ _) _⟩)
        | nil =>
          rcases h2 with rfl | rfl | rfl | rfl <;> clear h1 h6 <;> (go_enter Tryd.func26, Tryd.ntmps26; go_wp2; go_ret; exact ⟨by simp, below_alloc (Below.refl _ _) _⟩)
      · have hP : pieceOk ⟨k, t, n⟩ before = false := by simp [pieceOk, h1, h6, h2]
        rw [hP]
        clear hP
        have b1 : (k == 1) = false := beq_eq_false_iff_ne.mpr h1
        have b6 : (k == 6) = false := beq_eq_false_iff_ne.mpr h6
        have b2 : (k == 2) = false := beq_eq_false_iff_ne.mpr (fun e => h2 (.inl e))
        have b3 : (k == 3) = false := beq_eq_false_iff_ne.mpr (fun e => h2 (.inr (.inl e)))
        have b4 : (k == 4) = false := beq_eq_false_iff_ne.mpr (fun e => h2 (.inr (.inr (.inl e))))
        have b5 : (k == 5) = false := beq_eq_false_iff_ne.mpr (fun e => h2 (.inr (.inr (.inr e))))
        go_enter Tryd.func26, Tryd.ntmps26
        go_wp2
        go_ret
        exact ⟨rfl, below_alloc (Below.refl _ _) _⟩
theorem pieces_step {before : Int} {l : List Aff} {i : Nat} (h : i < l.length) : piecesOk before (l.drop i) = (pieceOk (l.getD i zA) before && piecesOk (l.getD i zA).kind (l.drop (i + 1))) := by
  rw [List.drop_eq_getElem_cons h, piecesOk]
  have : l.getD i zA = l[i] := by simp [List.getD, List.getElem?_eq_getElem h]
  rw [this]
set_option maxHeartbeats 4000000 in
set_option maxRecDepth 100000 in
theorem checkAffix_any (l : List Aff) (A : Option Addr) (c : Nat) (w : World) (hr : Kd.C kA w A l.length l) (hc : l.length ≤ c) :
    Calls Tryd.prog 17 #[.slice A l.length c] w fun e w' => e = .returned (.int .i64 (affErr l)) ∧ Below w.heap.size w w' := by
  have hu40 := Tryd.underlying28
  have HR := Aside0.mk hr
  have HC := Aside0.mk hc
  clear hr hc
  by_cases h64 : 64 < l.length
  · have hE : affErr l = 5 := by unfold affErr; rw [if_pos h64]
    rw [hE]
    go_enter Tryd.func17, Tryd.ntmps17
    go_wp2
    go_ret
    exact ⟨rfl, Below.refl _ _⟩
  · have hE : affErr l = if piecesOk 0 l then 0 else 90 := by unfold affErr; rw [if_neg h64]
    obtain ⟨r, hr⟩ : ∃ r : Int, r = affErr l := ⟨_, rfl⟩
    rw [← hr]
    have HRR := Lib.hid (hr.trans hE)
    clear hE hr
    go_enter Tryd.func17, Tryd.ntmps17
    go_wp2
    go_loopg [3, 11] l.length (fun kq v3 v11 w' => ∃ (b : Int) (i : Nat), v3 = .int .i64 b ∧ v11 = .int .i64 i ∧ kq = l.length - i ∧ Aside0 (i ≤ l.length) ∧ Aside0 (piecesOk 0 l = piecesOk b (l.drop i)) ∧ Aside0 (Below w.heap.size w w'))
    case atStart => exact ⟨0, 0, rfl, rfl, rfl, ⟨Nat.zero_le _⟩, ⟨rfl⟩, ⟨Below.refl _ _⟩⟩
    case round =>
      obtain ⟨b, i, rfl, rfl, hg, hi, hp, hb⟩ := hrel
      have HG := Lib.hid hg
      clear hg
      by_cases hlt : i < l.length
      · obtain ⟨ad, e, x0, x1, x2⟩ := at_A HR.out i hlt
        cases e
        replace x0 := (hb.out.cell (World.block_lt_of_cell? w _ x0)).trans x0
        replace x1 := (hb.out.cell (World.block_lt_of_cell? w _ x1)).trans x1
        replace x2 := (hb.out.cell (World.block_lt_of_cell? w _ x2)).trans x2
        have hs0 := hp.out.trans (pieces_step hlt)
        generalize l.getD i zA = x at x0 x1 x2 hs0
        obtain ⟨xk, xt, xn⟩ := x
        dsimp only at x0 x1 x2 hs0
        have hs := Lib.hid hs0
        clear hs0
        cases hk : pieceOk ⟨xk, xt, xn⟩ b with
        | true =>
          rw [hk, Bool.true_and] at hs
          have HP : Hid (∀ w0, Calls Tryd.prog 26 #[.agg #[.int .i64 xk, .string (bs xt), .int .i64 xn], .int .i64 b] w0 fun e w' => e = .returned (.bool true) ∧ Below w0.heap.size w0 w') := Lib.hid fun w0 => by have := piece_any ⟨xk, xt, xn⟩ b w0; rw [hk] at this; exact this
          clear hk
          go_wp2_with (go_at_call 26; refine (HP.out _).mono ?_; rintro e w2 ⟨rfl, hb2⟩; have c0 := (blk_cell (blk_below (blk_new wr _) hb2) 0).trans (rfl : _ = some (Value.int .i64 xk)); have HB2 := Aside0.mk (below_step hb.out (below_then (below_alloc (Below.refl _ _) _) (by simp) hb2)); clear hb2)
          go_roundg (l.length - (i + 1))
          case measure => rw [HG.out]; omega
          case rel => exact ⟨xk, i + 1, rfl, by go_num, rfl, ⟨hlt⟩, ⟨hs.out⟩, HB2⟩
        | false =>
          rw [hk, Bool.false_and] at hs
          have HP : Hid (∀ w0, Calls Tryd.prog 26 #[.agg #[.int .i64 xk, .string (bs xt), .int .i64 xn], .int .i64 b] w0 fun e w' => e = .returned (.bool false) ∧ Below w0.heap.size w0 w') := Lib.hid fun w0 => by have := piece_any ⟨xk, xt, xn⟩ b w0; rw [hk] at this; exact this
          clear hk
          obtain rfl : r = 90 := by rw [HRR.out, hs.out]; rfl
          go_wp2_with (go_at_call 26; refine (HP.out _).mono ?_; rintro e w2 ⟨rfl, hb2⟩; have HB2 := Aside0.mk (below_step hb.out (below_then (below_alloc (Below.refl _ _) _) (by simp) hb2)); clear hb2)
          go_ret
          exact ⟨rfl, HB2.out⟩
      · obtain rfl : r = 0 := by rw [HRR.out, hp.out, List.drop_eq_nil_of_le (by omega)]; rfl
        go_wp2
        go_ret
        exact ⟨rfl, hb.out⟩
end Go.Proofs.YtjpdakepfmepnaaDoor

/- The walk of the reference's sameAffix, where the rows are equal. -/
import Derived.Test.YtjpdakepfmepnaaDoorCheck
import Derived.BigQuiet
namespace Go.Proofs.YtjpdakepfmepnaaDoor
open Go.RowKit Go.Proofs.YtjpdakepfmepnaaDoorW.PrintWords Pat
set_option linter.unusedVariables false
set_option linter.unusedSimpArgs false

theorem eqAff (d : Nat) (w : World) (x0 y0 : Int) (x1 y1 : ByteArray) (x2 y2 : Int) :
    (Op.equalIn (d + 2) 28 (.agg #[.int .i64 x0, .string x1, .int .i64 x2]) (.agg #[.int .i64 y0, .string y1, .int .i64 y2])).run Tryd.prog w = .ok (x0 == y0 && (x1.toList == y1.toList && (x2 == y2))) w := by
  refine eqA_of Tryd.underlying28 (by kernel_rfl) ?_
  refine eqf_cons (by rfl) (by go_simp; rfl) (by go_simp; rfl) (by go_simp) ?_
  refine eqf_cons (by rfl) (by go_simp; rfl) (by go_simp; rfl) (by go_simp) ?_
  exact eqf_last (by rfl) (by go_simp; rfl) (by go_simp; rfl) (by go_simp)
attribute [local go_sem high] eqAff
set_option maxHeartbeats 4000000 in
set_option maxRecDepth 100000 in
theorem sameAffix_any (l : List Aff) (A B : Option Addr) (c d : Nat) (w : World) (hA : Kd.C kA w A l.length l) (hB : Kd.C kA w B l.length l) (hl : l.length ≤ 1048576) :
    Calls Tryd.prog 16 #[.slice A l.length c, .slice B l.length d] w fun e w' => e = .returned (.bool true) ∧ Below w.heap.size w w' := by
  have hu40 := Tryd.underlying28
  have RA := Aside0.mk hA
  have RB := Aside0.mk hB
  clear hA hB
  go_enter Tryd.func16, Tryd.ntmps16
  go_wp2
  go_loopg [5] l.length (fun kq v5 w9 => ∃ i : Nat, v5 = .int .i64 i ∧ kq = l.length - i ∧ Aside0 (i ≤ l.length) ∧ Aside0 (Below w.heap.size w w9))
  case atStart => exact ⟨0, rfl, rfl, ⟨Nat.zero_le _⟩, ⟨Below.refl _ _⟩⟩
  case round =>
    obtain ⟨i, rfl, hg, hi, hb⟩ := hrel
    have HG := Lib.hid hg
    clear hg
    by_cases hlt : i < l.length
    · obtain ⟨ad, e, x0, x1, x2⟩ := at_A RA.out i hlt
      obtain ⟨bd, e2, y0, y1, y2⟩ := at_A RB.out i hlt
      cases e
      cases e2
      replace x0 := (hb.out.cell (World.block_lt_of_cell? w _ x0)).trans x0
      replace x1 := (hb.out.cell (World.block_lt_of_cell? w _ x1)).trans x1
      replace x2 := (hb.out.cell (World.block_lt_of_cell? w _ x2)).trans x2
      replace y0 := (hb.out.cell (World.block_lt_of_cell? w _ y0)).trans y0
      replace y1 := (hb.out.cell (World.block_lt_of_cell? w _ y1)).trans y1
      replace y2 := (hb.out.cell (World.block_lt_of_cell? w _ y2)).trans y2
      generalize l.getD i zA = x at x0 x1 x2 y0 y1 y2
      obtain ⟨xk, xt, xn⟩ := x
      dsimp only at x0 x1 x2 y0 y1 y2
      go_upto_region 6 with fail
      go_quiet (fail)
      go_wp2
      go_roundg (l.length - (i + 1))
      case measure => rw [HG.out]; omega
      case rel => exact ⟨i + 1, by go_num, rfl, ⟨hlt⟩, ⟨pw_below_drewN hb.out _⟩⟩
    · go_wp2
      go_ret
      exact ⟨rfl, hb.out⟩
end Go.Proofs.YtjpdakepfmepnaaDoor

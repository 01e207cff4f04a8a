/- The walk of awake: a number pattern of its own is read. -/
import Derived.Test.YtjpdakepfmepnaaDoorParse
import Derived.Test.YtjpdakepfmepnaaDoorBack
namespace Go.Proofs.YtjpdakepfmepnaaDoor
open Go.RowKit Go.Proofs.YtjpdakepfmepnaaDoorW.PrintWords Pat
set_option linter.unusedVariables false
set_option linter.unusedSimpArgs false

abbrev awakeL : List UInt8 := [35, 44, 35, 35, 48, 46, 48, 35]
abbrev awakeP : Pat := ⟨[], [], false, [], [], 1, 1, 2, 0, 0, 3, 0, false, [], [], 0, false⟩
theorem awake_half : halfS awakeL = some ([], ⟨1, 1, 2, 0, 0, 3, 0, [], [], 0, false⟩, [], []) := by
  have h1 : affS awakeL [] = some ([], awakeL) := by
    rw [affS_other (by decide)]
    have e : signS awakeL = none := by rfl
    rw [show ((35 : UInt8) :: [44, 35, 35, 48, 46, 48, 35]) = awakeL from rfl, e]
    rfl
  have h2 : numS awakeL = some (⟨1, 1, 2, 0, 0, 3, 0, [], [], 0, false⟩, []) := by kernel_rfl
  unfold halfS
  rw [h1]
  simp only [h2, affS_nil]
  rfl
theorem awake_parse : parseS awakeL = (awakeP, 0) := by
  unfold parseS rawS
  rw [if_neg (by decide), awake_half]
  rfl
set_option maxHeartbeats 4000000 in
set_option maxRecDepth 100000 in
theorem awake_any (w : World) (m : Int) (hm : w.cell? ⟨0, 0, none⟩ = some (.int .i64 m)) : Calls Tryd.prog 7 #[] w fun e w' => e = .returned (.bool true) ∧ Below w.heap.size w w' := by
  have hu2 := Tryd.underlying26
  have HP : Hid (Calls Tryd.prog 5 #[.string ⟨#[35, 44, 35, 35, 48, 46, 48, 35]⟩] w (ParsePost w (awakeP, 0))) := Lib.hid (by have := parse_any ⟨#[35, 44, 35, 35, 48, 46, 48, 35]⟩ w m hm; rw [show (⟨#[35, 44, 35, 35, 48, 46, 48, 35]⟩ : ByteArray).data.toList = awakeL from rfl, awake_parse] at this; exact this)
  clear hm
  go_enter Tryd.func7, Tryd.ntmps7
  go_wp2_with (first
    | (go_at_call 5; refine HP.out.mono ?_; rintro e w2 ⟨hb, s0, s1, s3, s4, j, rfl, ho⟩; have hb2 := Aside0.mk hb; clear hb ho)
    | ((with_reducible refine gate_ (.store 26 (.tmp 1) (.tmp 6)) rfl ?_); refine store_blk rfl rfl 26 (.tmp 1) (.tmp 6) rfl (.agg (patCells s0 s1 s3 s4 awakeP)) (patCells s0 s1 s3 s4 awakeP).toList rfl rfl rfl sizePat (one_pat _ _ _ _ _) (blk_new _ _) (Nat.le_refl 17) (patCells s0 s1 s3 s4 awakeP) (by simp) ?_; intro w3 hb3 ho3; have k5 := (blk_cell hb3 5).trans (rfl : _ = some (Value.int .i64 1)); have k6 := (blk_cell hb3 6).trans (rfl : _ = some (Value.int .i64 1)); have k7 := (blk_cell hb3 7).trans (rfl : _ = some (Value.int .i64 2)); have k10 := (blk_cell hb3 10).trans (rfl : _ = some (Value.int .i64 3)); have hb9 := Aside0.mk (ho3.below (below_alloc hb2.out _) hb2.out.size); clear hb3 ho3))
  go_ret
  exact ⟨rfl, hb9.out⟩
end Go.Proofs.YtjpdakepfmepnaaDoor

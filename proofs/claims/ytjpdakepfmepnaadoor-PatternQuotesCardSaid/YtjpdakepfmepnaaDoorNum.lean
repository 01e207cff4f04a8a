/- The walk of pattern.number. (Printed by gen_num.py.) -/
import Derived.Test.YtjpdakepfmepnaaDoorClos
import Derived.Test.YtjpdakepfmepnaaDoorNumFin
import Derived.Test.YtjpdakepfmepnaaDoorRepl
import Derived.Test.YtjpdakepfmepnaaDoorGroups
import Derived.Test.YtjpdakepfmepnaaDoorRet
namespace Go.Proofs.YtjpdakepfmepnaaDoor
open Go.RowKit Go.Proofs.YtjpdakepfmepnaaDoorW.PrintWords Pat
set_option linter.unusedVariables false
set_option linter.unusedSimpArgs false

/-- The number's three blocks: the text, the pattern, the place. -/
structure NW (s : ByteArray) (w wc : World) (k : Nat) (M : Num) : Prop where
  b0 : wc.heap[w.heap.size]? = some (.cells #[.string s] 9 (0, 0))
  b1 : wc.heap[w.heap.size + 1]? = some (.cells (numCells M) 26 (0, 0))
  b2 : wc.heap[w.heap.size + 1 + 1]? = some (.cells #[.int .i64 k] 3 (0, 0))
  bel : Below w.heap.size w wc
section
variable {s : ByteArray} {w wc : World} {k : Nat} {M : Num}
theorem NW.inc (h : NW s w wc k M) (v : Int) (k' : Nat) (hv : v = k') : NW s w (wc.setCell ⟨w.heap.size + 1 + 1, 0, none⟩ (.int .i64 v)) k' M := by
  subst hv
  refine ⟨blk_far h.b0 (by simp only []; omega) _, blk_far h.b1 (by simp only []; omega) _, ?_, below_set h.bel (by omega)⟩
  rw [blk_set h.b2 0]; rfl
theorem NW.put (h : NW s w wc k M) (j : Nat) (v : Int) (M' : Num) (hM : (numCells M).setIfInBounds j (.int .i64 v) = numCells M') : NW s w (wc.setCell ⟨w.heap.size + 1, j, none⟩ (.int .i64 v)) k M' := by
  refine ⟨blk_far h.b0 (by simp only []; omega) _, ?_, blk_far h.b2 (by simp only []; omega) _, below_set h.bel (by omega)⟩
  rw [blk_set h.b1 j, hM]
theorem NW.putv (h : NW s w wc k M) (j : Nat) (v : Value) (M' : Num) (hM : (numCells M).setIfInBounds j v = numCells M') : NW s w (wc.setCell ⟨w.heap.size + 1, j, none⟩ v) k M' := by
  refine ⟨blk_far h.b0 (by simp only []; omega) _, ?_, blk_far h.b2 (by simp only []; omega) _, below_set h.bel (by omega)⟩
  rw [blk_set h.b1 j, hM]
theorem NW.of_only (h : NW s w wc k M) {w2 : World} {M2 : Num} (ho : Only (w.heap.size + 1) wc w2) (hb : w2.heap[w.heap.size + 1]? = some (.cells (numCells M2) 26 (0, 0))) : NW s w w2 k M2 :=
  ⟨ho.blk h.b0 (by omega), hb, ho.blk h.b2 (by omega), ho.below h.bel (by omega)⟩
theorem NW.below (h : NW s w wc k M) {w2 : World} (hb : Below wc.heap.size wc w2) : NW s w w2 k M :=
  ⟨blk_below h.b0 hb, blk_below h.b1 hb, blk_below h.b2 hb, below_step h.bel hb⟩
theorem NW.drewN (h : NW s w wc k M) (n : Nat) : NW s w (wc.drewN n) k M := ⟨h.b0, h.b1, h.b2, pw_below_drewN h.bel n⟩
theorem NW.drew (h : NW s w wc k M) : NW s w wc.drew k M := ⟨h.b0, h.b1, h.b2, h.bel.drew⟩
theorem NW.start (s : ByteArray) (w : World) (i : Nat) : NW s w (((w.alloc (.cells #[.string s] 9)).alloc (.cells zeroCells 26)).alloc (.cells #[.int .i64 i] 3)) i ⟨0, 0, 0, 0, 0, 0, 0, [], [], 0, false⟩ := by
  refine ⟨?_, ?_, ?_, below_alloc (below_alloc (below_alloc (Below.refl _ _) _) _) _⟩
  · exact blk_alloc (blk_alloc (blk_new w _) _) _
  · have := blk_alloc (blk_new (w.alloc (.cells #[.string s] 9)) (.cells zeroCells 26)) (.cells #[.int .i64 i] 3)
    rw [show (w.alloc (.cells #[.string s] 9)).heap.size = w.heap.size + 1 from by simp] at this
    exact this
  · have := blk_new ((w.alloc (.cells #[.string s] 9)).alloc (.cells zeroCells 26)) (.cells #[.int .i64 i] 3)
    rw [show ((w.alloc (.cells #[.string s] 9)).alloc (.cells zeroCells 26)).heap.size = w.heap.size + 1 + 1 from by simp] at this
    exact this
end
abbrev cnt (mi ms xs : Nat) : Num := ⟨mi, 0, 0, ms, xs, 0, 0, [], [], 0, false⟩
abbrev cng (mi ms xs g h : Nat) : Num := ⟨mi, 0, 0, ms, xs, g, h, [], [], 0, false⟩
abbrev cfr (mi ms xs g h a b : Nat) : Num := ⟨mi, a, b, ms, xs, g, h, [], [], 0, false⟩
abbrev cst (mi ms xs g h a b : Nat) (si sf : List UInt8) : Num := ⟨mi, a, b, ms, xs, g, h, si, sf, 0, false⟩
/-- All cells of the pattern's block, as the walk reads them. -/
theorem NW.cells {s : ByteArray} {w wc : World} {k : Nat} {M : Num} (h : NW s w wc k M) :
    wc.cell? ⟨w.heap.size + 1, 0, none⟩ = some (.slice none 0 0) ∧ wc.cell? ⟨w.heap.size + 1, 1, none⟩ = some (.slice none 0 0) ∧ wc.cell? ⟨w.heap.size + 1, 2, none⟩ = some (.bool false) ∧ wc.cell? ⟨w.heap.size + 1, 3, none⟩ = some (.slice none 0 0) ∧ wc.cell? ⟨w.heap.size + 1, 4, none⟩ = some (.slice none 0 0)
    ∧ wc.cell? ⟨w.heap.size + 1, 5, none⟩ = some (.int .i64 M.minInt) ∧ wc.cell? ⟨w.heap.size + 1, 6, none⟩ = some (.int .i64 M.minFrac) ∧ wc.cell? ⟨w.heap.size + 1, 7, none⟩ = some (.int .i64 M.maxFrac) ∧ wc.cell? ⟨w.heap.size + 1, 8, none⟩ = some (.int .i64 M.minSig) ∧ wc.cell? ⟨w.heap.size + 1, 9, none⟩ = some (.int .i64 M.maxSig)
    ∧ wc.cell? ⟨w.heap.size + 1, 10, none⟩ = some (.int .i64 M.group) ∧ wc.cell? ⟨w.heap.size + 1, 11, none⟩ = some (.int .i64 M.second) ∧ wc.cell? ⟨w.heap.size + 1, 12, none⟩ = some (.bool false) ∧ wc.cell? ⟨w.heap.size + 1, 13, none⟩ = some (.string (bs M.sInt)) ∧ wc.cell? ⟨w.heap.size + 1, 14, none⟩ = some (.string (bs M.sFrac))
    ∧ wc.cell? ⟨w.heap.size + 1, 15, none⟩ = some (.int .i64 M.exp) ∧ wc.cell? ⟨w.heap.size + 1, 16, none⟩ = some (.bool M.expPlus) :=
  ⟨(blk_cell h.b1 0).trans rfl, (blk_cell h.b1 1).trans rfl, (blk_cell h.b1 2).trans rfl, (blk_cell h.b1 3).trans rfl, (blk_cell h.b1 4).trans rfl, (blk_cell h.b1 5).trans rfl, (blk_cell h.b1 6).trans rfl, (blk_cell h.b1 7).trans rfl, (blk_cell h.b1 8).trans rfl, (blk_cell h.b1 9).trans rfl, (blk_cell h.b1 10).trans rfl, (blk_cell h.b1 11).trans rfl, (blk_cell h.b1 12).trans rfl, (blk_cell h.b1 13).trans rfl, (blk_cell h.b1 14).trans rfl, (blk_cell h.b1 15).trans rfl, (blk_cell h.b1 16).trans rfl⟩
theorem NW.place {s : ByteArray} {w wc : World} {k : Nat} {M : Num} (h : NW s w wc k M) : wc.cell? ⟨w.heap.size + 1 + 1, 0, none⟩ = some (.int .i64 k) ∧ wc.cell? ⟨w.heap.size, 0, none⟩ = some (.string s) ∧ wc.frozen? ⟨w.heap.size + 1 + 1, 0, none⟩ = false :=
  ⟨(blk_cell h.b2 0).trans rfl, (blk_cell h.b0 0).trans rfl, blk_frozen h.b2 0⟩
theorem NW.glob {s : ByteArray} {w wc : World} {k : Nat} {M : Num} (h : NW s w wc k M) {v : Value} (hm : w.cell? ⟨0, 0, none⟩ = some v) : wc.cell? ⟨0, 0, none⟩ = some v := by
  have h0 : 0 < w.heap.size := by
    by_cases h0 : 0 < w.heap.size
    · exact h0
    · have : w.heap[0]? = none := Array.getElem?_eq_none (by omega)
      simp [World.cell?, this] at hm
  have hb := h.bel.block 0 h0
  rw [← hm]
  simp [World.cell?, hb]
theorem NW.free {s : ByteArray} {w wc : World} {k : Nat} {M : Num} (h : NW s w wc k M) (j : Nat) : wc.frozen? ⟨w.heap.size + 1, j, none⟩ = false := blk_frozen h.b1 j

set_option maxHeartbeats 100000000 in
set_option maxRecDepth 100000 in
theorem number_any (s : ByteArray) (i : Nat) (w : World) (m : Int) (hs : s.size ≤ 1048576) (hi : i ≤ s.size) (hm : w.cell? ⟨0, 0, none⟩ = some (.int .i64 m)) :
    Calls Tryd.prog 25 #[.string s, .int .i64 i] w (NumPost s w (numS (s.data.toList.drop i))) := by
  have hmf : ∀ (fn : Fn) (first cap : Array Value) (w : World), (Instr.makeFunc fn first cap).run Tryd.prog w = .ok (.func fn first cap) w := fun _ _ _ _ => rfl
  have HM := Lib.hid hm
  clear hm
  go_enter Tryd.func25, Tryd.ntmps25
  go_upto_block 0 with fail
  clear hmf
  go_cut [10] (fun v10 wc => ∃ (st k mi ms xs : Nat), v10 = .int .i64 (st : Int) ∧ Aside0 (headS true 0 (s.data.toList.drop i) = some (pre s.data.toList i k, st, s.data.toList.drop k)) ∧ Aside0 (HR s.data.toList i st k mi ms xs) ∧ Aside0 (NW s w wc k (cnt mi ms xs)))
  case first =>
    as_aux_lemma =>
      go_wp2_with fail
      go_loopg [10] (s.size + 1 - i) (fun kq v10 wr => ∃ (sv : Int) (st k mi ms xs : Nat), v10 = .int .i64 sv ∧ kq = s.size + 1 - k ∧ Aside0 (sv = (st : Int)) ∧ Aside0 (HR s.data.toList i st k mi ms xs) ∧ Aside0 (NW s w wr k (cnt mi ms xs)))
      case atStart => exact ⟨0, 0, i, 0, 0, 0, rfl, rfl, ⟨rfl⟩, ⟨HR.start (by rw [data_length]; exact hi)⟩, ⟨NW.start s w i⟩⟩
      case round =>
        obtain ⟨sv, st, k, mi, ms, xs, rfl, hgk, hsv, hH, hN⟩ := hrel
        have HG := Lib.hid hgk
        clear hgk
        obtain ⟨p2, p0, pf⟩ := hN.out.place
        have hik := hH.out.ik
        have hsm := hH.out.small
        have hm1 : mi ≤ 1048576 := by have := hH.out.kl; rw [data_length] at this; omega
        have hm2 : ms ≤ 1048576 := by have := hH.out.kl; rw [data_length] at this; omega
        have hm3 : xs ≤ 1048576 := by have := hH.out.kl; rw [data_length] at this; omega
        clear hsm
        have hkl := hH.out.kl
        rw [data_length] at hkl
        by_cases hlt : k < s.size
        · obtain ⟨c, hc0, hx⟩ := byte_at s k hlt
          have hc := Lib.hid hc0
          clear hc0
          by_cases h44 : (c.toNat : Int) = 44
          · have e44 : c = 44 := u8_eq (n := 44) h44 (by decide)
            have b44 : ((c.toNat : Int) == 44) = true := beq_iff_eq.mpr h44
            have b0 : ((c.toNat : Int) == 0) = false := beq_eq_false_iff_ne.mpr (by omega)
            have hc44 := Lib.hid (e44 ▸ hc.out)
            clear e44 h44
            by_cases hki : k = i
            · have bki : ((k : Int) == (i : Int)) = true := beq_iff_eq.mpr (by omega)
              have hR := Lib.hid (hH.out.comma_bad hc44.out (by rw [hki]; exact pcAt_start _ _))
              clear hki
              go_wp2_with (go_at_call 38; refine (digit_any c _).mono ?_; rintro e w2 ⟨rfl, rfl⟩)
              refine ret_region (g := w.heap.size + 1) (g2 := w.heap.size + 1 + 1) rfl rfl hN.out.b1 p2 (by omega) rfl (one_num _) (Nat.le_of_ble_eq_true rfl) (Nat.le_of_ble_eq_true rfl) (by decide) (by decide) (by decide) (by decide) (by decide) ?_
              intro w2 hb2 ho2
              have HB2 := Aside0.mk hb2
              have HO2 := Aside0.mk ho2
              clear hb2 ho2
              go_wp2
              refine bodyPost_ret (v := .tuple #[numV (cnt mi ms xs), .int .i64 k, .bool false]) ?_ rfl (NumPost.no (cnt mi ms xs) _ hR.out (HO2.out.below (hN.out.bel.drew) (by omega)))
              refine (results_ctt (p := 4) (u := 5) (v := 6) (g := w.heap.size + 1) (t := 26) (cs := numCells (cnt mi ms xs)) (fr := (0, 0)) ?_ _ _ _ ?_ HB2.out Tryd.underlying26 rfl sizePat) <;> rfl
            · obtain ⟨j, hj⟩ : ∃ j, k = j + 1 := ⟨k - 1, by omega⟩
              obtain ⟨d, hd0, hy⟩ := byte_at s j (by omega)
              have hpc : pcAt s.data.toList i k = (d == 44) := by
                subst hj
                exact pcAt_next (by omega) hd0
              clear hd0
              by_cases hd44 : (d.toNat : Int) = 44
              · have e44 : d = 44 := u8_eq (n := 44) hd44 (by decide)
                have bd : ((d.toNat : Int) == 44) = true := beq_iff_eq.mpr hd44
                have hR := Lib.hid (hH.out.comma_bad hc44.out (by rw [hpc, e44]; rfl))
                clear hpc e44 hd44
                subst hj
                have bki2 : ((j : Int) + 1 == (i : Int)) = false := beq_eq_false_iff_ne.mpr (by omega)
                go_wp2_with (go_at_call 38; refine (digit_any c _).mono ?_; rintro e w2 ⟨rfl, rfl⟩)
                refine ret_region (g := w.heap.size + 1) (g2 := w.heap.size + 1 + 1) rfl rfl hN.out.b1 p2 (by omega) rfl (one_num _) (Nat.le_of_ble_eq_true rfl) (Nat.le_of_ble_eq_true rfl) (by decide) (by decide) (by decide) (by decide) (by decide) ?_
                intro w2 hb2 ho2
                have HB2 := Aside0.mk hb2
                have HO2 := Aside0.mk ho2
                clear hb2 ho2
                go_wp2
                refine bodyPost_ret (v := .tuple #[numV (cnt mi ms xs), .int .i64 ((j + 1 : Nat) : Int), .bool false]) ?_ rfl (NumPost.no (cnt mi ms xs) _ hR.out (HO2.out.below (hN.out.bel.drew) (by omega)))
                refine (results_ctt (p := 4) (u := 5) (v := 6) (g := w.heap.size + 1) (t := 26) (cs := numCells (cnt mi ms xs)) (fr := (0, 0)) ?_ _ _ _ ?_ HB2.out Tryd.underlying26 rfl sizePat) <;> rfl
              · have bd : ((d.toNat : Int) == 44) = false := beq_eq_false_iff_ne.mpr hd44
                have hH2 := Lib.hid (hH.out.comma hc44.out (by rw [hpc]; exact beq_eq_false_iff_ne.mpr (u8_ne (n := 44) hd44 (by decide))))
                clear hpc hd44
                subst hj
                have bki2 : ((j : Int) + 1 == (i : Int)) = false := beq_eq_false_iff_ne.mpr (by omega)
                clear hki
                go_wp2
                go_roundg (s.size + 1 - (j + 1 + 1))
                case measure => rw [HG.out]; omega
                case rel => exact ⟨sv, st, j + 1 + 1, _, _, _, rfl, rfl, hsv, ⟨hH2.out⟩, ⟨hN.out.inc _ _ (by simp)⟩⟩
          · have b44 : ((c.toNat : Int) == 44) = false := beq_eq_false_iff_ne.mpr h44
            by_cases h35 : (c.toNat : Int) = 35
            · have e35 : c = 35 := u8_eq (n := 35) h35 (by decide)
              have b35 : ((c.toNat : Int) == 35) = true := beq_iff_eq.mpr h35
              have b64 : ((c.toNat : Int) == 64) = false := beq_eq_false_iff_ne.mpr (by omega)
              have b0 : ((c.toNat : Int) == 0) = false := beq_eq_false_iff_ne.mpr (by omega)
              have bd : digit c = false := by rw [e35]; decide
              have hc35 := Lib.hid (e35 ▸ hc.out)
              clear e35 h35 h44
              have hst3 := hH.out.st3
              obtain rfl | rfl | rfl | rfl : st = 0 ∨ st = 1 ∨ st = 2 ∨ st = 3 := by omega
              · obtain rfl : sv = 0 := hsv.out
                have h := hH.out
                have hH2 := Aside0.mk ((h.sharp0 hc35.out))
                obtain ⟨_, _, _, _, _, d5, _, _, d8, d9, _⟩ := hN.out.cells
                have ff := hN.out.free
                clear h hst3
                go_wp2_with (go_at_call 38; refine (digit_any c _).mono ?_; rintro e w2 ⟨rfl, rfl⟩)
                go_roundg (s.size + 1 - (k + 1))
                case measure => rw [HG.out]; omega
                case rel => exact ⟨_, 0, k + 1, _, _, _, rfl, rfl, ⟨by simp⟩, hH2, ⟨(hN.out).inc _ _ (by simp)⟩⟩
              · obtain rfl : sv = 1 := hsv.out
                have h := hH.out
                have hR := Lib.hid (h.mark_bad hc35.out (by decide) (by decide) rfl)
                clear h hst3
                go_wp2_with (go_at_call 38; refine (digit_any c _).mono ?_; rintro e w2 ⟨rfl, rfl⟩)
                refine ret_region (g := w.heap.size + 1) (g2 := w.heap.size + 1 + 1) rfl rfl hN.out.b1 p2 (by omega) rfl (one_num _) (Nat.le_of_ble_eq_true rfl) (Nat.le_of_ble_eq_true rfl) (by decide) (by decide) (by decide) (by decide) (by decide) ?_
                intro w2 hb2 ho2
                have HB2 := Aside0.mk hb2
                have HO2 := Aside0.mk ho2
                clear hb2 ho2
                go_wp2
                refine bodyPost_ret (v := .tuple #[numV (cnt mi ms xs), .int .i64 k, .bool false]) ?_ rfl (NumPost.no (cnt mi ms xs) _ hR.out (HO2.out.below (hN.out.bel.drew) (by omega)))
                refine (results_ctt (p := 4) (u := 5) (v := 6) (g := w.heap.size + 1) (t := 26) (cs := numCells (cnt mi ms xs)) (fr := (0, 0)) ?_ _ _ _ ?_ HB2.out Tryd.underlying26 rfl sizePat) <;> rfl
              · obtain rfl : sv = 2 := hsv.out
                have h := hH.out
                have hH2 := Aside0.mk ((h.sharp2 (by omega) hc35.out))
                obtain ⟨_, _, _, _, _, d5, _, _, d8, d9, _⟩ := hN.out.cells
                have ff := hN.out.free
                clear h hst3
                go_wp2_with (go_at_call 38; refine (digit_any c _).mono ?_; rintro e w2 ⟨rfl, rfl⟩)
                go_roundg (s.size + 1 - (k + 1))
                case measure => rw [HG.out]; omega
                case rel => exact ⟨_, 3, k + 1, _, _, _, rfl, rfl, ⟨by simp⟩, hH2, ⟨((hN.out).put 9 _ (cnt mi ms (xs + 1)) (by simp)).inc _ _ (by simp)⟩⟩
              · obtain rfl : sv = 3 := hsv.out
                have h := hH.out
                have hH2 := Aside0.mk ((h.sharp2 (by omega) hc35.out))
                obtain ⟨_, _, _, _, _, d5, _, _, d8, d9, _⟩ := hN.out.cells
                have ff := hN.out.free
                clear h hst3
                go_wp2_with (go_at_call 38; refine (digit_any c _).mono ?_; rintro e w2 ⟨rfl, rfl⟩)
                go_roundg (s.size + 1 - (k + 1))
                case measure => rw [HG.out]; omega
                case rel => exact ⟨_, 3, k + 1, _, _, _, rfl, rfl, ⟨by simp⟩, hH2, ⟨((hN.out).put 9 _ (cnt mi ms (xs + 1)) (by simp)).inc _ _ (by simp)⟩⟩
            by_cases h64 : (c.toNat : Int) = 64
            · have e64 : c = 64 := u8_eq (n := 64) h64 (by decide)
              have b64 : ((c.toNat : Int) == 64) = true := beq_iff_eq.mpr h64
              have b35 : ((c.toNat : Int) == 35) = false := beq_eq_false_iff_ne.mpr (by omega)
              have b0 : ((c.toNat : Int) == 0) = false := beq_eq_false_iff_ne.mpr (by omega)
              have bd : digit c = false := by rw [e64]; decide
              have hc64 := Lib.hid (e64 ▸ hc.out)
              clear e64 h64 h44 h35
              have hst3 := hH.out.st3
              obtain rfl | rfl | rfl | rfl : st = 0 ∨ st = 1 ∨ st = 2 ∨ st = 3 := by omega
              · obtain rfl : sv = 0 := hsv.out
                have h := hH.out
                have hH2 := Aside0.mk ((h.at2 (.inl rfl) hc64.out))
                obtain ⟨_, _, _, _, _, d5, _, _, d8, d9, _⟩ := hN.out.cells
                have ff := hN.out.free
                clear h hst3
                go_wp2_with (go_at_call 38; refine (digit_any c _).mono ?_; rintro e w2 ⟨rfl, rfl⟩)
                go_roundg (s.size + 1 - (k + 1))
                case measure => rw [HG.out]; omega
                case rel => exact ⟨_, 2, k + 1, _, _, _, rfl, rfl, ⟨by simp⟩, hH2, ⟨(((hN.out).put 8 _ (cnt mi (ms + 1) xs) (by simp)).put 9 _ (cnt mi (ms + 1) (xs + 1)) (by simp)).inc _ _ (by simp)⟩⟩
              · obtain rfl : sv = 1 := hsv.out
                have h := hH.out
                have hR := Lib.hid (h.mark_bad hc64.out (by decide) (by decide) rfl)
                clear h hst3
                go_wp2_with (go_at_call 38; refine (digit_any c _).mono ?_; rintro e w2 ⟨rfl, rfl⟩)
                refine ret_region (g := w.heap.size + 1) (g2 := w.heap.size + 1 + 1) rfl rfl hN.out.b1 p2 (by omega) rfl (one_num _) (Nat.le_of_ble_eq_true rfl) (Nat.le_of_ble_eq_true rfl) (by decide) (by decide) (by decide) (by decide) (by decide) ?_
                intro w2 hb2 ho2
                have HB2 := Aside0.mk hb2
                have HO2 := Aside0.mk ho2
                clear hb2 ho2
                go_wp2
                refine bodyPost_ret (v := .tuple #[numV (cnt mi ms xs), .int .i64 k, .bool false]) ?_ rfl (NumPost.no (cnt mi ms xs) _ hR.out (HO2.out.below (hN.out.bel.drew) (by omega)))
                refine (results_ctt (p := 4) (u := 5) (v := 6) (g := w.heap.size + 1) (t := 26) (cs := numCells (cnt mi ms xs)) (fr := (0, 0)) ?_ _ _ _ ?_ HB2.out Tryd.underlying26 rfl sizePat) <;> rfl
              · obtain rfl : sv = 2 := hsv.out
                have h := hH.out
                have hH2 := Aside0.mk ((h.at2 (.inr rfl) hc64.out))
                obtain ⟨_, _, _, _, _, d5, _, _, d8, d9, _⟩ := hN.out.cells
                have ff := hN.out.free
                clear h hst3
                go_wp2_with (go_at_call 38; refine (digit_any c _).mono ?_; rintro e w2 ⟨rfl, rfl⟩)
                go_roundg (s.size + 1 - (k + 1))
                case measure => rw [HG.out]; omega
                case rel => exact ⟨_, 2, k + 1, _, _, _, rfl, rfl, ⟨by simp⟩, hH2, ⟨(((hN.out).put 8 _ (cnt mi (ms + 1) xs) (by simp)).put 9 _ (cnt mi (ms + 1) (xs + 1)) (by simp)).inc _ _ (by simp)⟩⟩
              · obtain rfl : sv = 3 := hsv.out
                have h := hH.out
                have hR := Lib.hid (h.mark_bad hc64.out (by decide) (by decide) rfl)
                clear h hst3
                go_wp2_with (go_at_call 38; refine (digit_any c _).mono ?_; rintro e w2 ⟨rfl, rfl⟩)
                refine ret_region (g := w.heap.size + 1) (g2 := w.heap.size + 1 + 1) rfl rfl hN.out.b1 p2 (by omega) rfl (one_num _) (Nat.le_of_ble_eq_true rfl) (Nat.le_of_ble_eq_true rfl) (by decide) (by decide) (by decide) (by decide) (by decide) ?_
                intro w2 hb2 ho2
                have HB2 := Aside0.mk hb2
                have HO2 := Aside0.mk ho2
                clear hb2 ho2
                go_wp2
                refine bodyPost_ret (v := .tuple #[numV (cnt mi ms xs), .int .i64 k, .bool false]) ?_ rfl (NumPost.no (cnt mi ms xs) _ hR.out (HO2.out.below (hN.out.bel.drew) (by omega)))
                refine (results_ctt (p := 4) (u := 5) (v := 6) (g := w.heap.size + 1) (t := 26) (cs := numCells (cnt mi ms xs)) (fr := (0, 0)) ?_ _ _ _ ?_ HB2.out Tryd.underlying26 rfl sizePat) <;> rfl
            have b35 : ((c.toNat : Int) == 35) = false := beq_eq_false_iff_ne.mpr h35
            have b64 : ((c.toNat : Int) == 64) = false := beq_eq_false_iff_ne.mpr h64
            have n35 : c ≠ 35 := u8_ne (n := 35) h35 (by decide)
            have n64 : c ≠ 64 := u8_ne (n := 64) h64 (by decide)
            have n44 : c ≠ 44 := u8_ne (n := 44) h44 (by decide)
            have HN := Lib.hid (And.intro n35 (And.intro n64 n44))
            clear n35 n64 n44
            by_cases hd : digit c = true
            · have b0 : ((c.toNat : Int) == 0) = false := by
                have h2 := digit_two c
                rw [hd] at h2
                have h3 := of_decide_eq_true (Bool.and_eq_true_iff.mp h2.symm).1
                exact beq_eq_false_iff_ne.mpr (by omega)
              clear h35 h64 h44
              have hst3 := hH.out.st3
              obtain rfl | rfl | rfl | rfl : st = 0 ∨ st = 1 ∨ st = 2 ∨ st = 3 := by omega
              · obtain rfl : sv = 0 := hsv.out
                have h := hH.out
                have hH2 := Aside0.mk ((h.dig (by omega) hc.out hd))
                obtain ⟨_, _, _, _, _, d5, _, _, d8, d9, _⟩ := hN.out.cells
                have ff := hN.out.free
                clear h hst3
                go_wp2_with (go_at_call 38; refine (digit_any c _).mono ?_; rintro e w2 ⟨rfl, rfl⟩)
                go_roundg (s.size + 1 - (k + 1))
                case measure => rw [HG.out]; omega
                case rel => exact ⟨_, 1, k + 1, _, _, _, rfl, rfl, ⟨by simp⟩, hH2, ⟨((hN.out).put 5 _ (cnt (mi + 1) ms xs) (by simp)).inc _ _ (by simp)⟩⟩
              · obtain rfl : sv = 1 := hsv.out
                have h := hH.out
                have hH2 := Aside0.mk ((h.dig (by omega) hc.out hd))
                obtain ⟨_, _, _, _, _, d5, _, _, d8, d9, _⟩ := hN.out.cells
                have ff := hN.out.free
                clear h hst3
                go_wp2_with (go_at_call 38; refine (digit_any c _).mono ?_; rintro e w2 ⟨rfl, rfl⟩)
                go_roundg (s.size + 1 - (k + 1))
                case measure => rw [HG.out]; omega
                case rel => exact ⟨_, 1, k + 1, _, _, _, rfl, rfl, ⟨by simp⟩, hH2, ⟨((hN.out).put 5 _ (cnt (mi + 1) ms xs) (by simp)).inc _ _ (by simp)⟩⟩
              · obtain rfl : sv = 2 := hsv.out
                have h := hH.out
                have hR := Lib.hid (h.mark_bad hc.out HN.out.2.2 (mark_dig hd) (by unfold stepSt; rw [if_neg HN.out.1, if_neg HN.out.2.1, if_pos hd]; rfl))
                clear h hst3
                go_wp2_with (go_at_call 38; refine (digit_any c _).mono ?_; rintro e w2 ⟨rfl, rfl⟩)
                refine ret_region (g := w.heap.size + 1) (g2 := w.heap.size + 1 + 1) rfl rfl hN.out.b1 p2 (by omega) rfl (one_num _) (Nat.le_of_ble_eq_true rfl) (Nat.le_of_ble_eq_true rfl) (by decide) (by decide) (by decide) (by decide) (by decide) ?_
                intro w2 hb2 ho2
                have HB2 := Aside0.mk hb2
                have HO2 := Aside0.mk ho2
                clear hb2 ho2
                go_wp2
                refine bodyPost_ret (v := .tuple #[numV (cnt mi ms xs), .int .i64 k, .bool false]) ?_ rfl (NumPost.no (cnt mi ms xs) _ hR.out (HO2.out.below (hN.out.bel.drew) (by omega)))
                refine (results_ctt (p := 4) (u := 5) (v := 6) (g := w.heap.size + 1) (t := 26) (cs := numCells (cnt mi ms xs)) (fr := (0, 0)) ?_ _ _ _ ?_ HB2.out Tryd.underlying26 rfl sizePat) <;> rfl
              · obtain rfl : sv = 3 := hsv.out
                have h := hH.out
                have hR := Lib.hid (h.mark_bad hc.out HN.out.2.2 (mark_dig hd) (by unfold stepSt; rw [if_neg HN.out.1, if_neg HN.out.2.1, if_pos hd]; rfl))
                clear h hst3
                go_wp2_with (go_at_call 38; refine (digit_any c _).mono ?_; rintro e w2 ⟨rfl, rfl⟩)
                refine ret_region (g := w.heap.size + 1) (g2 := w.heap.size + 1 + 1) rfl rfl hN.out.b1 p2 (by omega) rfl (one_num _) (Nat.le_of_ble_eq_true rfl) (Nat.le_of_ble_eq_true rfl) (by decide) (by decide) (by decide) (by decide) (by decide) ?_
                intro w2 hb2 ho2
                have HB2 := Aside0.mk hb2
                have HO2 := Aside0.mk ho2
                clear hb2 ho2
                go_wp2
                refine bodyPost_ret (v := .tuple #[numV (cnt mi ms xs), .int .i64 k, .bool false]) ?_ rfl (NumPost.no (cnt mi ms xs) _ hR.out (HO2.out.below (hN.out.bel.drew) (by omega)))
                refine (results_ctt (p := 4) (u := 5) (v := 6) (g := w.heap.size + 1) (t := 26) (cs := numCells (cnt mi ms xs)) (fr := (0, 0)) ?_ _ _ _ ?_ HB2.out Tryd.underlying26 rfl sizePat) <;> rfl
            have hd := Bool.eq_false_iff.mpr hd
            have hS := Lib.hid (hH.out.stopped hc.out HN.out.2.2 (mark_not HN.out.1 HN.out.2.1 hd))
            clear h35 h64 h44
            go_wp2_with (go_at_call 38; refine (digit_any c _).mono ?_; rintro e w2 ⟨rfl, rfl⟩)
            go_meet
            exact ⟨st, k, mi, ms, xs, by rw [hsv.out], ⟨hS.out⟩, hH, hN⟩
        · have hS := Lib.hid (hH.out.done (by rw [data_length]; omega))
          go_wp2
          go_meet
          exact ⟨st, k, mi, ms, xs, by rw [hsv.out], ⟨hS.out⟩, hH, hN⟩
  case rest =>
    obtain ⟨st, k, mi, ms, xs, rfl, hE, hH, hN⟩ := hcut
    obtain ⟨p2, p0, pf⟩ := hN.out.place
    have hik := hH.out.ik
    have hkl := hH.out.kl
    rw [data_length] at hkl
    have hst3 := hH.out.st3
    have hsz : (s.extract i k).size ≤ 1048576 := by rw [ByteArray.size_extract]; omega
    have hL := Lib.hid (ext_pre (s := s) (i := i) hkl)
    go_upto_region 27 with fail
    go_cut [120] (fun v120 wd => ∃ b : Bool, v120 = .bool b ∧ wd = wc ∧ Aside0 (b = true ↔ ((pre s.data.toList i k).getLast? = some 44 ∨ (pre s.data.toList i k = [] ∧ point (s.data.toList.drop k) = false))))
    case first =>
      as_aux_lemma =>
        by_cases h1 : (pre s.data.toList i k).getLast? = some 44
        · have HS : Hid (∀ w0, Calls Tryd.prog 42 #[.string (s.extract i k), .string ⟨#[44]⟩] w0 fun e w' => e = .returned (.bool true) ∧ w0 = w') := Lib.hid fun w0 => (hs_any _ w0 (by omega)).mono fun e w' h => ⟨by rw [h.1, hL.out, h1]; rfl, h.2⟩
          have HB := Lib.hid h1
          clear h1
          go_wp2_with (go_at_call 42; refine (HS.out _).mono ?_; rintro e w2 ⟨rfl, rfl⟩)
          go_meet
          exact ⟨true, rfl, rfl, ⟨by simp [HB.out]⟩⟩
        · have HS : Hid (∀ w0, Calls Tryd.prog 42 #[.string (s.extract i k), .string ⟨#[44]⟩] w0 fun e w' => e = .returned (.bool false) ∧ w0 = w') := Lib.hid fun w0 => (hs_any _ w0 (by omega)).mono fun e w' h => ⟨by rw [h.1, hL.out]; rw [beq_eq_false_iff_ne.mpr h1], h.2⟩
          have HB := Lib.hid h1
          clear h1
          by_cases h2 : pre s.data.toList i k = []
          · have HB2 := Lib.hid h2
            have e2 : (s.extract i k).toList = [] := ext_nil hkl h2
            clear h2
            go_wp2_with (first | (go_at_call 42; refine (HS.out _).mono ?_; rintro e w2 ⟨rfl, rfl⟩) | (go_at_call 40; refine (next_any s k 46 _ _ _ hs hkl p2 p0).mono ?_; rintro e w2 ⟨rfl, rfl⟩))
            go_meet
            refine ⟨_, rfl, rfl, ⟨?_⟩⟩
            rw [point_at]
            simp [HB.out, HB2.out]
          · have HB2 := Lib.hid h2
            have e2 := ext_some hkl h2
            clear h2
            go_wp2_with (go_at_call 42; refine (HS.out _).mono ?_; rintro e w2 ⟨rfl, rfl⟩)
            go_meet
            exact ⟨_, rfl, rfl, ⟨by simp [HB.out, HB2.out]⟩⟩
    case rest =>
      obtain ⟨b, rfl, rfl, hb⟩ := hcut
      cases b with
      | true =>
        as_aux_lemma =>
          have hR := Lib.hid (numS_head hE.out (hb.out.mp rfl))
          go_wp2
          refine ret_region (g := w.heap.size + 1) (g2 := w.heap.size + 1 + 1) rfl rfl hN.out.b1 p2 (by omega) rfl (one_num _) (Nat.le_of_ble_eq_true rfl) (Nat.le_of_ble_eq_true rfl) (by decide) (by decide) (by decide) (by decide) (by decide) ?_
          intro w2 hb2 ho2
          have HB2 := Aside0.mk hb2
          have HO2 := Aside0.mk ho2
          clear hb2 ho2
          go_wp2
          refine bodyPost_ret (v := .tuple #[numV (cnt mi ms xs), .int .i64 k, .bool false]) ?_ rfl (NumPost.no (cnt mi ms xs) _ hR.out (HO2.out.below (hN.out.bel.drew) (by omega)))
          refine (results_ctt (p := 4) (u := 5) (v := 6) (g := w.heap.size + 1) (t := 26) (cs := numCells (cnt mi ms xs)) (fr := (0, 0)) ?_ _ _ _ ?_ HB2.out Tryd.underlying26 rfl sizePat) <;> rfl
      | false =>
        have hb2 := Lib.hid (show ¬ ((pre s.data.toList i k).getLast? = some 44 ∨ (pre s.data.toList i k = [] ∧ point (s.data.toList.drop k) = false)) from fun h => by have := hb.out.mpr h; cases this)
        clear hb
        have HG : Hid (∀ w0 : World, w0.cell? ⟨0, 0, none⟩ = some (.int .i64 m) → Calls Tryd.prog 43 #[.string (s.extract i k)] w0 fun e w' => e = .returned (.tuple #[.int .i64 ((groupsS (pre s.data.toList i k)).1 : Nat), .int .i64 ((groupsS (pre s.data.toList i k)).2 : Nat)]) ∧ Below w0.heap.size w0 w') := Lib.hid (by intro w0 h0; have := groups_any (s.extract i k) w0 m hsz h0; rw [hL.out] at this; exact this)
        have HR2 : Hid (∀ w0 : World, w0.cell? ⟨0, 0, none⟩ = some (.int .i64 m) → Calls Tryd.prog 32 #[.string (s.extract i k), .string ⟨#[44]⟩, .string ⟨#[]⟩] w0 fun e w' => e = .returned (.string (bs (marks (pre s.data.toList i k)))) ∧ Below w0.heap.size w0 w') := Lib.hid (by intro w0 h0; have := ra_any (s.extract i k) m w0 (by omega) h0; rw [hL.out] at this; exact this)
        go_upto_if 134 with (first
          | (go_at_call 43; ( refine (HG.out _ (hN.out.glob HM.out)).mono ?_; rintro e w1 ⟨rfl, hb1⟩; have hN1 := Aside0.mk (hN.out.below hb1); clear hb1; have ff := hN1.out.free; obtain ⟨-, -, -, -, -, -, -, -, -, -, d10, d11, -⟩ := hN1.out.cells; have hN2 := Aside0.mk ((hN1.out.put 10 (((groupsS (pre s.data.toList i k)).1 : Nat) : Int) (cng mi ms xs (groupsS (pre s.data.toList i k)).1 0) (by simp)).put 11 (((groupsS (pre s.data.toList i k)).2 : Nat) : Int) (cng mi ms xs (groupsS (pre s.data.toList i k)).1 (groupsS (pre s.data.toList i k)).2) (by simp))))
          | (go_at_call 32; (refine (HR2.out _ (hN2.out.glob HM.out)).mono ?_; rintro e w3 ⟨rfl, hb3⟩; have hN3 := Aside0.mk (hN2.out.below hb3); clear hb3))
          | (go_at_call 44; refine (tl_any _ 35 (by decide) _).mono ?_; rintro e w4 ⟨rfl, rfl⟩; obtain ⟨q2, q0, qf⟩ := hN3.out.place)
          | (go_at_call 40; refine (next_any s k 46 _ _ _ hs hkl q2 q0).mono ?_; rintro e w2 ⟨rfl, rfl⟩))
        obtain ⟨gr, hgr⟩ : ∃ g, g = (groupsS (pre s.data.toList i k)).1 := ⟨_, rfl⟩
        obtain ⟨sc, hsc⟩ : ∃ g, g = (groupsS (pre s.data.toList i k)).2 := ⟨_, rfl⟩
        rw [← hgr, ← hsc] at hN3
        have HGR := Lib.hid hgr
        have HSC := Lib.hid hsc
        clear hgr hsc HG HR2 hN2 hN1 hL hsz d10 d11 ff
        go_cut [14] (fun v14 we => ∃ (e sharp : Nat) (P : List UInt8), v14 = .string (bs P) ∧ Aside0 (e ≤ s.size ∧ P.length ≤ s.size ∧ fracS st (s.data.toList.drop k) = some (P, sharp, s.data.toList.drop e)) ∧ Aside0 (NW s w we e (cfr mi ms xs gr sc P.length (P.length + sharp))))
        case first =>
          as_aux_lemma =>
            cases hat : isAt s k 46 with
            | false =>
              have HF := Lib.hid (frac_none (st := st) hat)
              go_wp2
              go_meet
              exact ⟨k, 0, [], rfl, ⟨hkl, Nat.zero_le _, HF.out⟩, hN3⟩
            | true =>
              by_cases h2 : 2 ≤ st
              · have hR := Lib.hid (numS_frac hE.out (frac_stage hat h2))
                clear hat
                go_wp2
                refine ret_region (g := w.heap.size + 1) (g2 := w.heap.size + 1 + 1) rfl rfl hN3.out.b1 q2 (by omega) rfl (one_num _) (Nat.le_of_ble_eq_true rfl) (Nat.le_of_ble_eq_true rfl) (by decide) (by decide) (by decide) (by decide) (by decide) ?_
                intro w5 hb5 ho5
                have HB2 := Aside0.mk hb5
                have HO2 := Aside0.mk ho5
                clear hb5 ho5
                go_wp2
                refine bodyPost_ret (v := .tuple #[numV (cng mi ms xs gr sc), .int .i64 k, .bool false]) ?_ rfl (NumPost.no (cng mi ms xs gr sc) _ hR.out (HO2.out.below (hN3.out.bel.drew) (by omega)))
                refine (results_ctt (p := 4) (u := 5) (v := 6) (g := w.heap.size + 1) (t := 26) (cs := numCells (cng mi ms xs gr sc)) (fr := (0, 0)) ?_ _ _ _ ?_ HB2.out Tryd.underlying26 rfl sizePat) <;> rfl
              · have HA := Lib.hid hat
                have hlt : k < s.size := isAt_lt hat
                clear hat
                go_wp2_with fail
                go_loopg [] (s.size - (k + 1)) (fun kq wr => ∃ j : Nat, kq = s.size - j ∧ Aside0 (Run digit s.data.toList (k + 1) j) ∧ Aside0 (NW s w wr j (cng mi ms xs gr sc)))
                case atStart => exact ⟨k + 1, rfl, ⟨Run.start (by rw [data_length]; omega)⟩, ⟨hN3.out.inc _ _ (by simp)⟩⟩
                case round =>
                  obtain ⟨j, hgk, hD, hN⟩ := hrel
                  have HGK := Lib.hid hgk
                  clear hgk
                  obtain ⟨p2, p0, pf⟩ := hN.out.place
                  have hkj := hD.out.aj
                  have hjl := hD.out.jl
                  rw [data_length] at hjl
                  cases hdg : digAt s j with
                  | true =>
                    have hj1 : j < s.size := digAt_lt hdg
                    obtain ⟨c, hc, hd⟩ := digAt_some hdg
                    have hD2 := Aside0.mk (hD.out.next hc hd)
                    clear hc hd
                    go_wp2_with (go_at_call 41; refine (anyDigit_any s j _ _ _ hs hjl p2 p0).mono ?_; rintro e w2 ⟨rfl, rfl⟩)
                    go_roundg (s.size - (j + 1))
                    case measure => rw [HGK.out]; omega
                    case rel => exact ⟨j + 1, rfl, hD2, ⟨hN.out.inc _ _ (by simp)⟩⟩
                  | false =>
                    have HDJ := Lib.hid hdg
                    obtain ⟨-, -, -, -, -, -, d6, d7, -⟩ := hN.out.cells
                    have ff := hN.out.free
                    go_wp2_with (go_at_call 41; refine (anyDigit_any s j _ _ _ hs hjl p2 p0).mono ?_; rintro e w2 ⟨rfl, rfl⟩)
                    clear p2 p0 pf d6 d7 ff HGK
                    go_loopg [] (s.size - j) (fun kq wx => ∃ e : Nat, kq = s.size - e ∧ Aside0 (Run (· == 35) s.data.toList j e) ∧ Aside0 (NW s w wx e (cfr mi ms xs gr sc (j - (k + 1)) 0)))
                    case atStart => exact ⟨j, rfl, ⟨Run.start (by rw [data_length]; omega)⟩, ⟨hN.out.put 6 ((j - (k + 1) : Nat) : Int) (cfr mi ms xs gr sc (j - (k + 1)) 0) (by simp)⟩⟩
                    case round =>
                      clear hN
                      obtain ⟨e, hgk, hS, hN⟩ := hrel
                      have HGK := Lib.hid hgk
                      clear hgk
                      obtain ⟨p2, p0, pf⟩ := hN.out.place
                      have hje := hS.out.aj
                      have hel := hS.out.jl
                      rw [data_length] at hel
                      cases hsh : isAt s e 35 with
                      | true =>
                        have hj1 : e < s.size := isAt_lt hsh
                        have hS2 := Aside0.mk (hS.out.next (isAt_some (c := 35).mp hsh) rfl)
                        go_wp2_with (go_at_call 40; refine (next_any s e 35 _ _ _ hs hel p2 p0).mono ?_; rintro e w2 ⟨rfl, rfl⟩)
                        go_roundg (s.size - (e + 1))
                        case measure => rw [HGK.out]; omega
                        case rel => exact ⟨e + 1, rfl, hS2, ⟨hN.out.inc _ _ (by simp)⟩⟩
                      | false =>
                        have HF := Lib.hid (frac_read (st := st) HA.out (by omega) hD.out HDJ.out hS.out hsh)
                        clear hS hD HDJ HA HGK
                        obtain ⟨-, -, -, -, -, -, -, d7, -⟩ := hN.out.cells
                        have ff := hN.out.free
                        go_upto_region 44 with (go_at_call 40; refine (next_any s e 35 _ _ _ hs hel p2 p0).mono ?_; rintro e w2 ⟨rfl, rfl⟩)
                        have hlen : (pre s.data.toList (k + 1) j).length = j - (k + 1) := pre_length (by omega) (by rw [data_length]; omega)
                        have HLEN := Lib.hid hlen
                        clear hlen
                        have hN7 := Aside0.mk (hN.out.put 7 ((e : Int) - ((k : Int) + 1)) (cfr mi ms xs gr sc (j - (k + 1)) (j - (k + 1) + (e - j))) (by simp; omega))
                        clear hN p2 p0 pf d7 ff
                        obtain ⟨p2, p0, pf⟩ := hN7.out.place
                        go_cut [179] (fun v179 wd => ∃ b : Bool, v179 = .bool b ∧ Aside0 (b = fracBad s (k + 1) e) ∧ Aside0 (NW s w wd e (cfr mi ms xs gr sc (j - (k + 1)) (j - (k + 1) + (e - j)))))
                        case first =>
                          clear HF
                          by_cases hek : e = k + 1
                          · have bek : ((e : Int) == (k : Int) + 1) = true := beq_iff_eq.mpr (by omega)
                            have hB := Aside0.mk (show true = fracBad s (k + 1) e by unfold fracBad; rw [show ((e : Int) == ((k + 1 : Nat) : Int)) = true from beq_iff_eq.mpr (by omega)]; rfl)
                            clear hek
                            go_wp2_with fail
                            go_meet
                            exact ⟨true, rfl, hB, hN7⟩
                          · have bek : ((e : Int) == (k : Int) + 1) = false := beq_eq_false_iff_ne.mpr (by omega)
                            have bek2 : ((e : Int) == ((k + 1 : Nat) : Int)) = false := beq_eq_false_iff_ne.mpr (by omega)
                            have hB0 := Lib.hid (show fracBad s (k + 1) e = (digAt s e || isAt s e 44 || isAt s e 46 || isAt s e 64) by unfold fracBad; rw [bek2, Bool.false_or])
                            clear hek bek2
                            cases x1 : digAt s e with
                            | true =>
                              have hB := Aside0.mk (show true = fracBad s (k + 1) e by rw [hB0.out, x1]; rfl)
                              clear hB0
                              go_wp2_with (go_at_call 41; refine (anyDigit_any s e _ _ _ hs hel p2 p0).mono ?_; rintro e w2 ⟨rfl, rfl⟩)
                              go_meet
                              exact ⟨true, rfl, hB, hN7⟩
                            | false =>
                              cases x2 : isAt s e 44 with
                              | true =>
                                have hB := Aside0.mk (show true = fracBad s (k + 1) e by rw [hB0.out, x1, x2]; rfl)
                                clear hB0
                                go_wp2_with (first | (go_at_call 41; refine (anyDigit_any s e _ _ _ hs hel p2 p0).mono ?_; rintro e w2 ⟨rfl, rfl⟩) | (go_at_call 40; refine (next_any s e _ _ _ _ hs hel p2 p0).mono ?_; rintro e w2 ⟨rfl, rfl⟩))
                                go_meet
                                exact ⟨true, rfl, hB, hN7⟩
                              | false =>
                                cases x3 : isAt s e 46 with
                                | true =>
                                  have hB := Aside0.mk (show true = fracBad s (k + 1) e by rw [hB0.out, x1, x2, x3]; rfl)
                                  clear hB0
                                  go_wp2_with (first | (go_at_call 41; refine (anyDigit_any s e _ _ _ hs hel p2 p0).mono ?_; rintro e w2 ⟨rfl, rfl⟩) | (go_at_call 40; refine (next_any s e _ _ _ _ hs hel p2 p0).mono ?_; rintro e w2 ⟨rfl, rfl⟩))
                                  go_meet
                                  exact ⟨true, rfl, hB, hN7⟩
                                | false =>
                                  have hB := Aside0.mk (show isAt s e 64 = fracBad s (k + 1) e by rw [hB0.out, x1, x2, x3]; rfl)
                                  clear hB0
                                  go_wp2_with (first | (go_at_call 41; refine (anyDigit_any s e _ _ _ hs hel p2 p0).mono ?_; rintro e w2 ⟨rfl, rfl⟩) | (go_at_call 40; refine (next_any s e _ _ _ _ hs hel p2 p0).mono ?_; rintro e w2 ⟨rfl, rfl⟩))
                                  go_meet
                                  exact ⟨_, rfl, hB, hN7⟩
                        case rest =>
                          clear hN7 p2 p0 pf
                          obtain ⟨b, rfl, hB, hN7⟩ := hcut
                          obtain ⟨p2, p0, pf⟩ := hN7.out.place
                          cases b with
                          | true =>
                            have hR := Lib.hid (numS_frac hE.out (by rw [HF.out, ← hB.out]; rfl))
                            go_wp2
                            refine ret_region (g := w.heap.size + 1) (g2 := w.heap.size + 1 + 1) rfl rfl hN7.out.b1 p2 (by omega) rfl (one_num _) (Nat.le_of_ble_eq_true rfl) (Nat.le_of_ble_eq_true rfl) (by decide) (by decide) (by decide) (by decide) (by decide) ?_
                            intro w5 hb5 ho5
                            have HB2 := Aside0.mk hb5
                            have HO2 := Aside0.mk ho5
                            clear hb5 ho5
                            go_wp2
                            refine bodyPost_ret (v := .tuple #[numV (cfr mi ms xs gr sc (j - (k + 1)) (j - (k + 1) + (e - j))), .int .i64 e, .bool false]) ?_ rfl (NumPost.no (cfr mi ms xs gr sc (j - (k + 1)) (j - (k + 1) + (e - j))) _ hR.out (HO2.out.below (hN7.out.bel.drew) (by omega)))
                            refine (results_ctt (p := 4) (u := 5) (v := 6) (g := w.heap.size + 1) (t := 26) (cs := numCells (cfr mi ms xs gr sc (j - (k + 1)) (j - (k + 1) + (e - j)))) (fr := (0, 0)) ?_ _ _ _ ?_ HB2.out Tryd.underlying26 rfl sizePat) <;> rfl
                          | false =>
                            go_wp2
                            go_meet
                            refine ⟨e, e - j, pre s.data.toList (k + 1) j, by rw [ext_bs hjl], ⟨hel, by rw [HLEN.out]; omega, by rw [HF.out, ← hB.out]; rfl⟩, ?_⟩
                            rw [HLEN.out]
                            exact hN7
        case rest =>
          clear hN3 q2 q0 qf
          obtain ⟨e, sharp, P, rfl, hF, hN4⟩ := hcut
          obtain ⟨D, hD⟩ : ∃ D, D = (marks (pre s.data.toList i k)).dropWhile (fun x => x == 35) := ⟨_, rfl⟩
          rw [← hD]
          have hDl : D.length ≤ 1048576 := by
            rw [hD]
            have h1 := (List.dropWhile_sublist (fun x : UInt8 => x == 35) (l := marks (pre s.data.toList i k))).length_le
            have h2 : (marks (pre s.data.toList i k)).length ≤ (pre s.data.toList i k).length := List.length_filter_le _ _
            have h3 := pre_length hik (l := s.data.toList) (by rw [data_length]; exact hkl)
            omega
          have hDP : (bs D ++ bs P).size ≤ 1073741824 := by
            have h1 : P.length ≤ s.size := hF.out.2.1
            rw [ByteArray.size_append]
            show D.length + P.length ≤ _
            omega
          have hsD : (bs D).size ≤ 1048576 := hDl
          have hsP : (bs P).size ≤ 1048576 := Nat.le_trans hF.out.2.1 hs
          have HT0 : ∀ w0, Calls Tryd.prog 28 #[.string (bs D ++ bs P), .string ⟨#[48]⟩] w0 fun e w' => e = .returned (.string (bs (Lib.trimB (D ++ P) 48))) ∧ ∃ n, w' = w0.drewN n := by
            intro w0
            have := tr_any (bs D ++ bs P) w0 hDP
            rw [show (bs D ++ bs P).data.toList = D ++ P by rw [ByteArray.data_append, Array.toList_append]] at this
            exact this
          have HD := Lib.hid hD
          clear hD
          go_upto_region 46 with fail
          go_cut [190] (fun v190 wd => ∃ b : Bool, v190 = .bool b ∧ Aside0 (b = (decide (st < 2) && nonzero (D ++ P))) ∧ Aside0 (NW s w wd e (cfr mi ms xs gr sc P.length (P.length + sharp))))
          case first =>
            as_aux_lemma =>
              by_cases h2 : st < 2
              · by_cases hz : Lib.trimB (D ++ P) 48 = []
                · have hB := Aside0.mk (show false = (decide (st < 2) && nonzero (D ++ P)) by rw [(trim_nil _).mp hz, Bool.and_false])
                  rw [hz] at HT0
                  have HT := Lib.hid HT0
                  clear HT0 hz
                  go_wp2_with (go_at_call 28; refine (HT.out _).mono ?_; rintro e2 w2 ⟨rfl, n, rfl⟩)
                  go_meet
                  exact ⟨false, rfl, hB, ⟨hN4.out.drewN n⟩⟩
                · have hB := Aside0.mk (show true = (decide (st < 2) && nonzero (D ++ P)) by
                    rw [decide_eq_true h2, Bool.true_and]
                    cases h : nonzero (D ++ P) with
                    | true => rfl
                    | false => exact absurd ((trim_nil _).mpr h) hz)
                  obtain ⟨c, q, hcq⟩ : ∃ c q, Lib.trimB (D ++ P) 48 = c :: q := by
                    cases h : Lib.trimB (D ++ P) 48 with
                    | nil => exact absurd h hz
                    | cons c q => exact ⟨c, q, rfl⟩
                  rw [hcq] at HT0
                  have HT := Lib.hid HT0
                  have ht : ((bs (c :: q)).toList == []) = false := by rw [Lib.toList_data]; rfl
                  clear HT0 hz hcq
                  go_wp2_with (go_at_call 28; refine (HT.out _).mono ?_; rintro e2 w2 ⟨rfl, n, rfl⟩)
                  go_meet
                  exact ⟨true, rfl, hB, ⟨hN4.out.drewN n⟩⟩
              · have hB := Aside0.mk (show false = (decide (st < 2) && nonzero (D ++ P)) by rw [decide_eq_false h2, Bool.false_and])
                clear HT0
                go_wp2
                go_meet
                exact ⟨false, rfl, hB, ⟨hN4.out⟩⟩
          case rest =>
            clear hN4 HT0 hDP
            obtain ⟨b, rfl, hB, hN4⟩ := hcut
            go_upto_if 190 with fail
            go_cut [] (fun wd => Aside0 (NW s w wd e (numOf st (pre s.data.toList i k) P sharp)))
            case first =>
              as_aux_lemma =>
                cases b with
                | false =>
                  go_wp2
                  go_meet
                  have : numOf st (pre s.data.toList i k) P sharp = cfr mi ms xs gr sc P.length (P.length + sharp) := by
                    rw [num_off (by rw [← HD.out, ← hB.out]), HGR.out, HSC.out, hH.out.cmi, hH.out.cms, hH.out.cxs]
                  rw [this]; exact hN4
                | true =>
                  have hM := Lib.hid (show numOf st (pre s.data.toList i k) P sharp = cst mi ms xs gr sc P.length (P.length + sharp) (lead D) P by
                    rw [num_on (by rw [← HD.out, ← hB.out]), HGR.out, HSC.out, hH.out.cmi, hH.out.cms, hH.out.cxs, HD.out])
                  have ff := hN4.out.free
                  obtain ⟨-, -, -, -, -, -, -, -, -, -, -, -, d12, d13, d14, -⟩ := hN4.out.cells
                  by_cases hz : D.dropWhile (· == 48) = []
                  · have HTL : Hid (∀ w0, Calls Tryd.prog 44 #[.string (bs D), .string ⟨#[48]⟩] w0 fun e w' => e = .returned (.string ⟨#[]⟩) ∧ w0 = w') := Lib.hid fun w0 => (tl_any (bs D) 48 (by decide) w0).mono fun e w' h => ⟨by rw [h.1]; show Ending.returned (.string (bs (D.dropWhile (· == 48)))) = _; rw [hz], h.2⟩
                    have hl : lead D = [48] := by unfold lead; rw [if_pos hz]
                    have hN9 := Aside0.mk ((((hN4.out.putv 12 (.bool false) (cfr mi ms xs gr sc P.length (P.length + sharp)) (by simp)).putv 13 (.string ⟨#[]⟩) (cfr mi ms xs gr sc P.length (P.length + sharp)) (by simp)).putv 14 (.string (bs P)) (cst mi ms xs gr sc P.length (P.length + sharp) [] P) (by simp)).putv 13 (.string ⟨#[48]⟩) (cst mi ms xs gr sc P.length (P.length + sharp) [48] P) (by simp))
                    rw [show cst mi ms xs gr sc P.length (P.length + sharp) [48] P = numOf st (pre s.data.toList i k) P sharp by rw [hM.out, hl]] at hN9
                    clear hsD hsP hDl hz
                    go_wp2_with (go_at_call 44; refine (HTL.out _).mono ?_; rintro e w4 ⟨rfl, rfl⟩)
                    go_meet
                    exact hN9
                  · have HTL : Hid (∀ w0, Calls Tryd.prog 44 #[.string (bs D), .string ⟨#[48]⟩] w0 fun e w' => e = .returned (.string (bs (D.dropWhile (· == 48)))) ∧ w0 = w') := Lib.hid fun w0 => tl_any (bs D) 48 (by decide) w0
                    have ht : (D.dropWhile (· == 48)).isEmpty = false := by
                      cases hq : D.dropWhile (· == 48) with
                      | nil => exact absurd hq hz
                      | cons a b => rfl
                    have hl : lead D = D.dropWhile (· == 48) := by unfold lead; rw [if_neg hz]
                    have hN9 := Aside0.mk (((hN4.out.putv 12 (.bool false) (cfr mi ms xs gr sc P.length (P.length + sharp)) (by simp)).putv 13 (.string (bs (D.dropWhile (· == 48)))) (cst mi ms xs gr sc P.length (P.length + sharp) (D.dropWhile (· == 48)) []) (by simp)).putv 14 (.string (bs P)) (cst mi ms xs gr sc P.length (P.length + sharp) (D.dropWhile (· == 48)) P) (by simp))
                    rw [show cst mi ms xs gr sc P.length (P.length + sharp) (D.dropWhile (· == 48)) P = numOf st (pre s.data.toList i k) P sharp by rw [hM.out, hl]] at hN9
                    clear hsD hsP hDl hz hl
                    go_wp2_with (go_at_call 44; refine (HTL.out _).mono ?_; rintro e w4 ⟨rfl, rfl⟩)
                    go_meet
                    exact hN9
            case rest =>
              as_aux_lemma =>
                clear hN4 hB HGR HSC HD hDl hsD hsP
                have hN5 := hcut
                clear hcut
                have hel : e ≤ s.size := hF.out.1
                have hR0 := numS_go hE.out hb2.out hF.out.2.2
                have HX0 := exponent_any s e (pre s.data.toList i k) (numOf st (pre s.data.toList i k) P sharp) (hs := hs) (hi := hel) (hh := by have h3 := pre_length hik (l := s.data.toList) (by rw [data_length]; exact hkl); omega) (hasc := HR.ascii hH.out) (hst := num_st) (he0 := rfl) (hp0 := rfl)
                rw [← ext_bs hkl, ← hR0] at HX0
                clear hR0 hE hb2 hF hH
                obtain ⟨p2, p0, pf⟩ := hN5.out.place
                generalize numOf st (pre s.data.toList i k) P sharp = M5 at HX0 hN5
                clear hik hst3
                cases hr : numS (s.data.toList.drop i) with
                | none =>
                  rw [hr] at HX0
                  have HX := Lib.hid HX0
                  have HRR := Lib.hid hr
                  clear HX0 hr
                  go_wp2_with (first
                    | ((with_reducible refine gate_ (.load 26 (.tmp 4)) rfl ?_); refine wpList_load_row rfl 26 (.tmp 4) rfl (w.heap.size + 1) rfl 26 _ (0, 0) _ hN5.out.b1 Tryd.underlying26 rfl sizePat ?_)
                    | (go_at_call 45; refine (HX.out _).mono ?_; rintro e2 w2 ⟨hb, m2, j, rfl⟩; have hN6 := Aside0.mk (hN5.out.below hb); clear hb)
                    | ((with_reducible refine gate_ (.store 26 (.tmp 4) (.tmp 207)) rfl ?_); refine store_blk rfl rfl 26 (.tmp 4) (.tmp 207) rfl (.agg (numCells m2)) (numCells m2).toList rfl rfl rfl sizePat (one_num _) hN6.out.b1 (Nat.le_refl 17) (numCells m2) (by simp) ?_; intro w7 hb7 ho7; have HB2 := Aside0.mk hb7; have HO2 := Aside0.mk ho7; clear hb7 ho7))
                  refine bodyPost_ret (v := .tuple #[numV m2, .int .i64 j, .bool false]) ?_ rfl (NumPost.no m2 j HRR.out (HO2.out.below hN6.out.bel (by omega)))
                  refine (results_ctt (p := 4) (u := 5) (v := 6) (g := w.heap.size + 1) (t := 26) (cs := numCells m2) (fr := (0, 0)) ?_ _ _ _ ?_ HB2.out Tryd.underlying26 rfl sizePat) <;> rfl
                | some x =>
                  obtain ⟨m2, q⟩ := x
                  rw [hr] at HX0
                  have HX := Lib.hid HX0
                  have HRR := Lib.hid hr
                  clear HX0 hr
                  go_wp2_with (first
                    | ((with_reducible refine gate_ (.load 26 (.tmp 4)) rfl ?_); refine wpList_load_row rfl 26 (.tmp 4) rfl (w.heap.size + 1) rfl 26 _ (0, 0) _ hN5.out.b1 Tryd.underlying26 rfl sizePat ?_)
                    | (go_at_call 45; refine (HX.out _).mono ?_; rintro e2 w2 ⟨hb, rfl⟩; have hN6 := Aside0.mk (hN5.out.below hb); clear hb)
                    | ((with_reducible refine gate_ (.store 26 (.tmp 4) (.tmp 207)) rfl ?_); refine store_blk rfl rfl 26 (.tmp 4) (.tmp 207) rfl (.agg (numCells m2)) (numCells m2).toList rfl rfl rfl sizePat (one_num _) hN6.out.b1 (Nat.le_refl 17) (numCells m2) (by simp) ?_; intro w7 hb7 ho7; have HB2 := Aside0.mk hb7; have HO2 := Aside0.mk ho7; clear hb7 ho7))
                  refine bodyPost_ret (v := .tuple #[numV m2, .int .i64 ((s.size - q.length : Nat) : Int), .bool true]) ?_ rfl (by rw [HRR.out]; exact ⟨HO2.out.below hN6.out.bel (by omega), rfl⟩)
                  refine (results_ctt (p := 4) (u := 5) (v := 6) (g := w.heap.size + 1) (t := 26) (cs := numCells m2) (fr := (0, 0)) ?_ _ _ _ ?_ HB2.out Tryd.underlying26 rfl sizePat) <;> rfl
end Go.Proofs.YtjpdakepfmepnaaDoor

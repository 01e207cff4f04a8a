/- The walk of pattern.exponent. (Printed by gen_expw.py.) -/
import Derived.Test.YtjpdakepfmepnaaDoorExp
namespace Go.Proofs.YtjpdakepfmepnaaDoor
open Go.RowKit Go.Proofs.YtjpdakepfmepnaaDoorW.PrintWords Pat
set_option linter.unusedVariables false
set_option linter.unusedSimpArgs false

/-- What lay in the two blocks that exponent makes first. -/
theorem two_below {w w1 : World} {A B : Array Value} {t : TypeId} (h : Below ((w.alloc (.cells A t)).alloc (.cells B t)).heap.size ((w.alloc (.cells A t)).alloc (.cells B t)) w1) :
    w1.heap[w.heap.size]? = some (.cells A t (0, 0)) ∧ w1.heap[w.heap.size + 1]? = some (.cells B t (0, 0)) ∧ Below w.heap.size w w1 ∧ w.heap.size + 1 < w1.heap.size := by
  refine ⟨?_, ?_, ?_, ?_⟩
  · rw [h.block _ (by simp; omega)]; exact heap_alloc2_old w _ _
  · rw [h.block _ (by simp)]; exact heap_alloc2_new w _ _
  · have h1 : Below w.heap.size w ((w.alloc (.cells A t)).alloc (.cells B t)) := below_alloc (below_alloc (Below.refl _ _) _) _
    exact below_then h1 h1.size h
  · have := h.size; simp at this; omega
abbrev zeroCells : Array Value := #[.slice none 0 0, .slice none 0 0, .bool false, .slice none 0 0, .slice none 0 0, .int .i64 0, .int .i64 0, .int .i64 0, .int .i64 0, .int .i64 0, .int .i64 0, .int .i64 0, .bool false, .string ⟨#[]⟩, .string ⟨#[]⟩, .int .i64 0, .bool false]
theorem one_num (m : Num) : ∀ q ∈ (numCells m).toList, q.oneCell' = true := by
  intro q hq
  simp only [List.mem_cons, List.not_mem_nil, or_false] at hq
  rcases hq with rfl | rfl | rfl | rfl | rfl | rfl | rfl | rfl | rfl | rfl | rfl | rfl | rfl | rfl | rfl | rfl | rfl <;> rfl
theorem sizePat : (Tryd.prog.info? 26).map (·.size) = some 17 := by kernel_rfl

theorem ca_any (h : List UInt8) (hh : h.length ≤ 1048576) (hasc : ∀ c ∈ h, c.toNat < 128) : ∀ w0 : World, Calls Tryd.prog 62 #[.string (bs h), .string ⟨#[35, 44, 64]⟩] w0 fun e w' => e = .returned (.bool (Lib.containsAny h [35, 44, 64])) ∧ Below w0.heap.size w0 w' :=
  fun w0 => Tryd.strings_ContainsAny_laid (bs h) ⟨#[35, 44, 64]⟩ w0 (by rw [bs_size]; omega) (by decide) (fun j b hb => hasc b (List.mem_of_getElem? hb)) (by intro j b hb; match j, hb with | 0, hb => (simp at hb; subst hb; decide) | 1, hb => (simp at hb; subst hb; decide) | 2, hb => (simp at hb; subst hb; decide))
attribute [local go_sem high] eqDec
set_option maxHeartbeats 4000000 in
set_option maxRecDepth 100000 in
theorem exponent_any (s : ByteArray) (i : Nat) (h : List UInt8) (m : Num) (w : World) (hs : s.size ≤ 1048576) (hi : i ≤ s.size) (hh : h.length ≤ 1048576) (hasc : ∀ c ∈ h, c.toNat < 128) (hst : m.sInt = [] → m.sFrac = []) (he0 : m.exp = 0) (hp0 : m.expPlus = false) :
    Calls Tryd.prog 45 #[.string s, .int .i64 i, .string (bs h), numV m] w (NumPost s w (expS h m (s.data.toList.drop i))) := by
  have HH := Lib.hid (And.intro hh (And.intro hasc (And.intro hst (And.intro he0 hp0))))
  clear hh hasc hst he0 hp0
  by_cases h1 : i + 1 < s.size
  · obtain ⟨c0, g0, hx0⟩ := byte_at s i (by omega)
    obtain ⟨c1, g1, hx1⟩ := byte_at s (i + 1) h1
    have G0 := Lib.hid g0
    have G1 := Lib.hid g1
    clear g0 g1
    by_cases h43 : (c1.toNat : Int) = 43
    · have b43 : ((c1.toNat : Int) == 43) = true := beq_iff_eq.mpr h43
      have e43 : c1 = 43 := u8_eq (n := 43) h43 (by decide)
      have G43 := Lib.hid (e43 ▸ G1.out)
      clear e43
      by_cases h69 : (c0.toNat : Int) = 69
      · have b69 : ((c0.toNat : Int) != 69) = false := bne_eq_false_iff_eq.mpr h69
        by_cases h2 : i + 2 < s.size
        · obtain ⟨c2, g2, hx2⟩ := byte_at s (i + 2) h2
          have G2 := Lib.hid g2
          clear g2
          by_cases h48 : (c2.toNat : Int) = 48
          · have b48 : ((c2.toNat : Int) != 48) = false := bne_eq_false_iff_eq.mpr h48
            have e69 : c0 = 69 := u8_eq (n := 69) h69 (by decide)
            have e48 : c2 = 48 := u8_eq (n := 48) h48 (by decide)
            have hexp := expAt_plus (e69 ▸ G0.out) G43.out (e48 ▸ G2.out)
            clear h43 h69 h48 e69 e48
            have HCA : Hid (∀ w0 : World, Calls Tryd.prog 62 #[.string (bs h), .string ⟨#[35, 44, 64]⟩] w0 fun e w' => e = .returned (.bool (Lib.containsAny h [35, 44, 64])) ∧ Below w0.heap.size w0 w') := Lib.hid (ca_any h HH.out.1 HH.out.2.1)
            by_cases hca : Lib.containsAny h [35, 44, 64] = true
            · rw [anyMark] at hca
              have hR := Lib.hid (show expS h m (s.data.toList.drop i) = none by unfold expS; rw [hexp]; simp only []; rw [if_pos (by rw [hca]; rfl)])
              rw [← anyMark] at hca
              clear hexp
              go_enter Tryd.func45, Tryd.ntmps45
              go_wp2_with (first | (go_at_call 62; refine (HCA.out _).mono ?_; rintro e w1 ⟨rfl, hb1⟩; obtain ⟨hb0, hbz, hbw, hlt1⟩ := two_below hb1; have c5 := (blk_cell hb0 5).trans (rfl : _ = some (Value.int .i64 m.minInt)); have c12 := (blk_cell hb0 12).trans (rfl : _ = some (Value.bool false)); have c13 := (blk_cell hb0 13).trans (rfl : _ = some (Value.string (bs m.sInt))); have c14 := (blk_cell hb0 14).trans (rfl : _ = some (Value.string (bs m.sFrac))); have f16 := blk_frozen hb0 16; have c16 := (blk_cell hb0 16).trans (rfl : _ = some (Value.bool m.expPlus)); have HB0 := Aside0.mk hb0; have HBZ := Aside0.mk hbz; have HBW := Aside0.mk hbw; clear hb0 hbz hbw hb1) | ((with_reducible refine gate_ (.load 26 (.tmp 7)) rfl ?_); refine wpList_load_row rfl 26 (.tmp 7) rfl (w.heap.size) rfl 26 _ (0, 0) _ HB0.out Tryd.underlying26 rfl sizePat ?_) | ((with_reducible refine gate_ (.store 26 (.tmp 8) (.tmp 63)) rfl ?_); refine store_blk rfl rfl 26 (.tmp 8) (.tmp 63) rfl (.agg (numCells m)) (numCells m).toList rfl rfl rfl sizePat (one_num _) HBZ.out (Nat.le_refl 17) (numCells m) (by simp) ?_; intro w2 hb2 ho2; have HB2 := Aside0.mk hb2; have HO2 := Aside0.mk ho2; clear hb2 ho2))
              refine bodyPost_ret (v := .tuple #[numV m, .int .i64 i, .bool false]) ?_ rfl (NumPost.no m i hR.out (HO2.out.below HBW.out (by omega)))
              refine (results_ctt (p := 8) (u := 9) (v := 10) (g := w.heap.size + 1) (t := 26) (cs := numCells m) (fr := (0, 0)) ?_ _ _ _ ?_ HB2.out Tryd.underlying26 rfl sizePat) <;> rfl
            · have hca := Bool.eq_false_iff.mpr hca
              rw [anyMark] at hca
              by_cases hm0 : m.minInt = 0
              · have bm : ((m.minInt : Int) == 0) = true := beq_iff_eq.mpr (by omega)
                have hR := Lib.hid (show expS h m (s.data.toList.drop i) = none by unfold expS; rw [hexp]; simp only []; rw [if_pos (by rw [hca, hm0]; rfl)])
                rw [← anyMark] at hca
                clear hexp hm0
                go_enter Tryd.func45, Tryd.ntmps45
                go_wp2_with (first | (go_at_call 62; refine (HCA.out _).mono ?_; rintro e w1 ⟨rfl, hb1⟩; obtain ⟨hb0, hbz, hbw, hlt1⟩ := two_below hb1; have c5 := (blk_cell hb0 5).trans (rfl : _ = some (Value.int .i64 m.minInt)); have c12 := (blk_cell hb0 12).trans (rfl : _ = some (Value.bool false)); have c13 := (blk_cell hb0 13).trans (rfl : _ = some (Value.string (bs m.sInt))); have c14 := (blk_cell hb0 14).trans (rfl : _ = some (Value.string (bs m.sFrac))); have f16 := blk_frozen hb0 16; have c16 := (blk_cell hb0 16).trans (rfl : _ = some (Value.bool m.expPlus)); have HB0 := Aside0.mk hb0; have HBZ := Aside0.mk hbz; have HBW := Aside0.mk hbw; clear hb0 hbz hbw hb1) | ((with_reducible refine gate_ (.load 26 (.tmp 7)) rfl ?_); refine wpList_load_row rfl 26 (.tmp 7) rfl (w.heap.size) rfl 26 _ (0, 0) _ HB0.out Tryd.underlying26 rfl sizePat ?_) | ((with_reducible refine gate_ (.store 26 (.tmp 8) (.tmp 63)) rfl ?_); refine store_blk rfl rfl 26 (.tmp 8) (.tmp 63) rfl (.agg (numCells m)) (numCells m).toList rfl rfl rfl sizePat (one_num _) HBZ.out (Nat.le_refl 17) (numCells m) (by simp) ?_; intro w2 hb2 ho2; have HB2 := Aside0.mk hb2; have HO2 := Aside0.mk ho2; clear hb2 ho2))
                refine bodyPost_ret (v := .tuple #[numV m, .int .i64 i, .bool false]) ?_ rfl (NumPost.no m i hR.out (HO2.out.below HBW.out (by omega)))
                refine (results_ctt (p := 8) (u := 9) (v := 10) (g := w.heap.size + 1) (t := 26) (cs := numCells m) (fr := (0, 0)) ?_ _ _ _ ?_ HB2.out Tryd.underlying26 rfl sizePat) <;> rfl
              · have bm : ((m.minInt : Int) == 0) = false := beq_eq_false_iff_ne.mpr (by omega)
                have bm2 : (m.minInt == 0) = false := beq_eq_false_iff_ne.mpr hm0
                by_cases hs0 : m.sInt = []
                · have hs1 := HH.out.2.2.1 hs0
                  have d1 : (m.sInt == ([] : List UInt8)) = true := by rw [hs0]; rfl
                  have d2 : (m.sFrac == ([] : List UInt8)) = true := by rw [hs1]; rfl
                  have d3 : m.sInt.isEmpty = true := by rw [hs0]; rfl
                  have d4 : m.sFrac.isEmpty = true := by rw [hs1]; rfl
                  have hR : Hid (∀ e, ((s.data.toList.drop (i + 2)).takeWhile (· == 48)).length = e → (s.data.toList.drop (i + 2)).dropWhile (· == 48) = s.data.toList.drop (i + 2 + e) → expS h m (s.data.toList.drop i) = some ({ m with exp := e, expPlus := true }, s.data.toList.drop (i + 2 + e))) := Lib.hid (by
                    intro e h1 h2
                    unfold expS
                    rw [hexp, h1, h2]
                    simp only []
                    rw [if_neg (by rw [hca, hs0, bm2]; decide)])
                  have hk0 : i + 2 + 0 ≤ s.size := by omega
                  have he0 := HH.out.2.2.2.1
                  have bk : ((i : Int) + 1 + 1 == (i : Int) + 2) = true := beq_iff_eq.mpr (by omega)
                  have HE0 := Lib.hid he0
                  rw [← anyMark] at hca
                  clear hexp hm0 hs0 hs1 bm2 he0
                  go_enter Tryd.func45, Tryd.ntmps45
                  go_wp2_with (first | (go_at_call 62; refine (HCA.out _).mono ?_; rintro e w1 ⟨rfl, hb1⟩; obtain ⟨hb0, hbz, hbw, hlt1⟩ := two_below hb1; have c5 := (blk_cell hb0 5).trans (rfl : _ = some (Value.int .i64 m.minInt)); have c12 := (blk_cell hb0 12).trans (rfl : _ = some (Value.bool false)); have c13 := (blk_cell hb0 13).trans (rfl : _ = some (Value.string (bs m.sInt))); have c14 := (blk_cell hb0 14).trans (rfl : _ = some (Value.string (bs m.sFrac))); have f16 := blk_frozen hb0 16; have c16 := (blk_cell hb0 16).trans (rfl : _ = some (Value.bool m.expPlus)); have HB0 := Aside0.mk hb0; have HBZ := Aside0.mk hbz; have HBW := Aside0.mk hbw; clear hb0 hbz hbw hb1))
                  go_loopw [11] (fun v wr => ∃ e : Nat, v = .int .i64 ((i + 2 + e : Nat) : Int) ∧ i + 2 + e ≤ s.size ∧ Aside0 (Zeros s.data.toList (i + 2) e) ∧ Aside0 (wr.heap[w.heap.size]? = some (.cells (numCells { m with exp := e, expPlus := true }) 26 (0, 0))) ∧ Aside0 (wr.heap[w.heap.size + 1]? = some (.cells zeroCells 26 (0, 0))) ∧ Aside0 (Below w.heap.size w wr)) (fun v _ => s.size + 1 - (intOf v).toNat)
                  case atStart =>
                    refine ⟨0, by go_num, hk0, ⟨fun j hj => absurd hj (by omega)⟩, ⟨?_⟩, ⟨blk_far HBZ.out (by simp) _⟩, ⟨below_set HBW.out (Nat.le_refl _)⟩⟩
                    rw [blk_set HB0.out 16 (.bool true)]
                    simp [HE0.out]
                  case round =>
                    obtain ⟨e, rfl, hke, hz, hb0, hbz, hbw⟩ := hrel
                    have hw1 : w.heap.size + 1 < wr.heap.size := blk_lt hbz.out
                    by_cases hlt : i + 2 + e < s.size
                    · obtain ⟨c, g0, hx⟩ := byte_at s (i + 2 + e) hlt
                      have G := Lib.hid g0
                      clear g0
                      by_cases h48 : (c.toNat : Int) = 48
                      · have b48 : ((c.toNat : Int) == 48) = true := beq_iff_eq.mpr h48
                        have hz2 := Aside0.mk (hz.out.more G.out h48)
                        have d15 := (blk_cell hb0.out 15).trans (rfl : _ = some (Value.int .i64 e))
                        have f15 := blk_frozen hb0.out 15
                        clear h48
                        go_wp2
                        go_roundw
                        case rel =>
                          refine ⟨e + 1, by go_num, by omega, hz2, ⟨?_⟩, ⟨blk_far hbz.out (by simp) _⟩, ⟨below_set hbw.out (Nat.le_refl _)⟩⟩
                          rw [blk_set hb0.out 15]
                          simp
                        case measure => simp [intOf]; omega
                      · have b48 : ((c.toNat : Int) == 48) = false := beq_eq_false_iff_ne.mpr h48
                        have hd := hz.out.done (fun c' hc' => by rw [G.out] at hc'; injection hc' with hc'; subst hc'; exact u8_ne (n := 48) h48 (by decide))
                        have hS := Lib.hid (hR.out e hd.1 hd.2)
                        clear h48 hd
                        go_wp2_with (first | ((with_reducible refine gate_ (.load 26 (.tmp 7)) rfl ?_); refine wpList_load_row rfl 26 (.tmp 7) rfl (w.heap.size) rfl 26 _ (0, 0) _ hb0.out Tryd.underlying26 rfl sizePat ?_) | ((with_reducible refine gate_ (.store 26 (.tmp 8) (.tmp 86)) rfl ?_); refine store_blk rfl rfl 26 (.tmp 8) (.tmp 86) rfl (.agg (numCells ({ m with exp := e, expPlus := true } : Num))) (numCells ({ m with exp := e, expPlus := true } : Num)).toList rfl rfl rfl sizePat (one_num _) hbz.out (Nat.le_refl 17) (numCells ({ m with exp := e, expPlus := true } : Num)) (by simp) ?_; intro w2 hb2 ho2; have HB2 := Aside0.mk hb2; have HO2 := Aside0.mk ho2; clear hb2 ho2))
                        refine bodyPost_ret (v := .tuple #[numV ({ m with exp := e, expPlus := true } : Num), .int .i64 ((i + 2 + e : Nat) : Int), .bool true]) ?_ rfl (NumPost.yes ({ m with exp := e, expPlus := true } : Num) (i + 2 + e) (by omega) hS.out (HO2.out.below hbw.out (by omega)))
                        refine (results_ctt (p := 8) (u := 9) (v := 10) (g := w.heap.size + 1) (t := 26) (cs := numCells ({ m with exp := e, expPlus := true } : Num)) (fr := (0, 0)) ?_ _ _ _ ?_ HB2.out Tryd.underlying26 rfl sizePat) <;> rfl
                    · have hd := hz.out.done (fun c' hc' => by have := (List.getElem?_eq_some_iff.mp hc').1; rw [data_length] at this; omega)
                      have hS := Lib.hid (hR.out e hd.1 hd.2)
                      clear hd
                      go_wp2_with (first | ((with_reducible refine gate_ (.load 26 (.tmp 7)) rfl ?_); refine wpList_load_row rfl 26 (.tmp 7) rfl (w.heap.size) rfl 26 _ (0, 0) _ hb0.out Tryd.underlying26 rfl sizePat ?_) | ((with_reducible refine gate_ (.store 26 (.tmp 8) (.tmp 86)) rfl ?_); refine store_blk rfl rfl 26 (.tmp 8) (.tmp 86) rfl (.agg (numCells ({ m with exp := e, expPlus := true } : Num))) (numCells ({ m with exp := e, expPlus := true } : Num)).toList rfl rfl rfl sizePat (one_num _) hbz.out (Nat.le_refl 17) (numCells ({ m with exp := e, expPlus := true } : Num)) (by simp) ?_; intro w2 hb2 ho2; have HB2 := Aside0.mk hb2; have HO2 := Aside0.mk ho2; clear hb2 ho2))
                      refine bodyPost_ret (v := .tuple #[numV ({ m with exp := e, expPlus := true } : Num), .int .i64 ((i + 2 + e : Nat) : Int), .bool true]) ?_ rfl (NumPost.yes ({ m with exp := e, expPlus := true } : Num) (i + 2 + e) (by omega) hS.out (HO2.out.below hbw.out (by omega)))
                      refine (results_ctt (p := 8) (u := 9) (v := 10) (g := w.heap.size + 1) (t := 26) (cs := numCells ({ m with exp := e, expPlus := true } : Num)) (fr := (0, 0)) ?_ _ _ _ ?_ HB2.out Tryd.underlying26 rfl sizePat) <;> rfl
                · have d1 : (m.sInt == ([] : List UInt8)) = false := beq_eq_false_iff_ne.mpr hs0
                  have d3 : m.sInt.isEmpty = false := by cases hq : m.sInt with | nil => exact absurd hq hs0 | cons a b => rfl
                  have hR := Lib.hid (show expS h m (s.data.toList.drop i) = none by unfold expS; rw [hexp]; simp only []; rw [if_pos (by rw [hca, bm2]; simp [hs0])])
                  rw [← anyMark] at hca
                  clear hexp hm0 hs0 bm2
                  go_enter Tryd.func45, Tryd.ntmps45
                  go_wp2_with (first | (go_at_call 62; refine (HCA.out _).mono ?_; rintro e w1 ⟨rfl, hb1⟩; obtain ⟨hb0, hbz, hbw, hlt1⟩ := two_below hb1; have c5 := (blk_cell hb0 5).trans (rfl : _ = some (Value.int .i64 m.minInt)); have c12 := (blk_cell hb0 12).trans (rfl : _ = some (Value.bool false)); have c13 := (blk_cell hb0 13).trans (rfl : _ = some (Value.string (bs m.sInt))); have c14 := (blk_cell hb0 14).trans (rfl : _ = some (Value.string (bs m.sFrac))); have f16 := blk_frozen hb0 16; have c16 := (blk_cell hb0 16).trans (rfl : _ = some (Value.bool m.expPlus)); have HB0 := Aside0.mk hb0; have HBZ := Aside0.mk hbz; have HBW := Aside0.mk hbw; clear hb0 hbz hbw hb1) | ((with_reducible refine gate_ (.load 26 (.tmp 7)) rfl ?_); refine wpList_load_row rfl 26 (.tmp 7) rfl (w.heap.size) rfl 26 _ (0, 0) _ HB0.out Tryd.underlying26 rfl sizePat ?_) | ((with_reducible refine gate_ (.store 26 (.tmp 8) (.tmp 63)) rfl ?_); refine store_blk rfl rfl 26 (.tmp 8) (.tmp 63) rfl (.agg (numCells m)) (numCells m).toList rfl rfl rfl sizePat (one_num _) HBZ.out (Nat.le_refl 17) (numCells m) (by simp) ?_; intro w2 hb2 ho2; have HB2 := Aside0.mk hb2; have HO2 := Aside0.mk ho2; clear hb2 ho2))
                  refine bodyPost_ret (v := .tuple #[numV m, .int .i64 i, .bool false]) ?_ rfl (NumPost.no m i hR.out (HO2.out.below HBW.out (by omega)))
                  refine (results_ctt (p := 8) (u := 9) (v := 10) (g := w.heap.size + 1) (t := 26) (cs := numCells m) (fr := (0, 0)) ?_ _ _ _ ?_ HB2.out Tryd.underlying26 rfl sizePat) <;> rfl
          · have b48 : ((c2.toNat : Int) != 48) = true := bne_iff_ne.mpr h48
            have hR := Lib.hid (show expS h m (s.data.toList.drop i) = some (m, s.data.toList.drop i) by unfold expS; rw [expAt_three G0.out G43.out G2.out (u8_ne (n := 48) h48 (by decide))])
            clear h43 h69 h48
            go_enter Tryd.func45, Tryd.ntmps45
            go_wp2_with (first | ((with_reducible refine gate_ (.load 26 (.tmp 7)) rfl ?_); refine wpList_load_row rfl 26 (.tmp 7) rfl (w.heap.size) rfl 26 _ (0, 0) _ (heap_alloc2_old w _ _) Tryd.underlying26 rfl sizePat ?_) | ((with_reducible refine gate_ (.store 26 (.tmp 8) (.tmp 48)) rfl ?_); refine store_blk rfl rfl 26 (.tmp 8) (.tmp 48) rfl (.agg (numCells m)) (numCells m).toList rfl rfl rfl sizePat (one_num _) (heap_alloc2_new w _ _) (Nat.le_refl 17) (numCells m) (by simp) ?_; intro w2 hb2 ho2; have HB2 := Aside0.mk hb2; have HO2 := Aside0.mk ho2; clear hb2 ho2))
            refine bodyPost_ret (v := .tuple #[numV m, .int .i64 i, .bool true]) ?_ rfl (NumPost.yes m i hi hR.out (HO2.out.below (below_alloc (below_alloc (Below.refl _ _) _) _) (by omega)))
            refine (results_ctt (p := 8) (u := 9) (v := 10) (g := w.heap.size + 1) (t := 26) (cs := numCells m) (fr := (0, 0)) ?_ _ _ _ ?_ HB2.out Tryd.underlying26 rfl sizePat) <;> rfl
        · skip
          have hR := Lib.hid (show expS h m (s.data.toList.drop i) = some (m, s.data.toList.drop i) by unfold expS; rw [expAt_end G0.out G43.out (by rw [data_length]; omega)])
          clear h43 h69
          go_enter Tryd.func45, Tryd.ntmps45
          go_wp2_with (first | ((with_reducible refine gate_ (.load 26 (.tmp 7)) rfl ?_); refine wpList_load_row rfl 26 (.tmp 7) rfl (w.heap.size) rfl 26 _ (0, 0) _ (heap_alloc2_old w _ _) Tryd.underlying26 rfl sizePat ?_) | ((with_reducible refine gate_ (.store 26 (.tmp 8) (.tmp 48)) rfl ?_); refine store_blk rfl rfl 26 (.tmp 8) (.tmp 48) rfl (.agg (numCells m)) (numCells m).toList rfl rfl rfl sizePat (one_num _) (heap_alloc2_new w _ _) (Nat.le_refl 17) (numCells m) (by simp) ?_; intro w2 hb2 ho2; have HB2 := Aside0.mk hb2; have HO2 := Aside0.mk ho2; clear hb2 ho2))
          refine bodyPost_ret (v := .tuple #[numV m, .int .i64 i, .bool true]) ?_ rfl (NumPost.yes m i hi hR.out (HO2.out.below (below_alloc (below_alloc (Below.refl _ _) _) _) (by omega)))
          refine (results_ctt (p := 8) (u := 9) (v := 10) (g := w.heap.size + 1) (t := 26) (cs := numCells m) (fr := (0, 0)) ?_ _ _ _ ?_ HB2.out Tryd.underlying26 rfl sizePat) <;> rfl
      · have b69 : ((c0.toNat : Int) != 69) = true := bne_iff_ne.mpr h69
        have hR := Lib.hid (show expS h m (s.data.toList.drop i) = some (m, s.data.toList.drop i) by unfold expS; rw [expAt_not G0.out (u8_ne (n := 69) h69 (by decide))])
        clear h43 h69
        go_enter Tryd.func45, Tryd.ntmps45
        go_wp2_with (first | ((with_reducible refine gate_ (.load 26 (.tmp 7)) rfl ?_); refine wpList_load_row rfl 26 (.tmp 7) rfl (w.heap.size) rfl 26 _ (0, 0) _ (heap_alloc2_old w _ _) Tryd.underlying26 rfl sizePat ?_) | ((with_reducible refine gate_ (.store 26 (.tmp 8) (.tmp 48)) rfl ?_); refine store_blk rfl rfl 26 (.tmp 8) (.tmp 48) rfl (.agg (numCells m)) (numCells m).toList rfl rfl rfl sizePat (one_num _) (heap_alloc2_new w _ _) (Nat.le_refl 17) (numCells m) (by simp) ?_; intro w2 hb2 ho2; have HB2 := Aside0.mk hb2; have HO2 := Aside0.mk ho2; clear hb2 ho2))
        refine bodyPost_ret (v := .tuple #[numV m, .int .i64 i, .bool true]) ?_ rfl (NumPost.yes m i hi hR.out (HO2.out.below (below_alloc (below_alloc (Below.refl _ _) _) _) (by omega)))
        refine (results_ctt (p := 8) (u := 9) (v := 10) (g := w.heap.size + 1) (t := 26) (cs := numCells m) (fr := (0, 0)) ?_ _ _ _ ?_ HB2.out Tryd.underlying26 rfl sizePat) <;> rfl
    · have b43 : ((c1.toNat : Int) == 43) = false := beq_eq_false_iff_ne.mpr h43
      by_cases h69 : (c0.toNat : Int) = 69
      · have b69 : ((c0.toNat : Int) != 69) = false := bne_eq_false_iff_eq.mpr h69
        by_cases h48 : (c1.toNat : Int) = 48
        · have b48 : ((c1.toNat : Int) != 48) = false := bne_eq_false_iff_eq.mpr h48
          have e69 : c0 = 69 := u8_eq (n := 69) h69 (by decide)
          have e48 : c1 = 48 := u8_eq (n := 48) h48 (by decide)
          have hexp := expAt_bare (e69 ▸ G0.out) (e48 ▸ G1.out)
          clear h43 h69 h48 e69 e48
          have HCA : Hid (∀ w0 : World, Calls Tryd.prog 62 #[.string (bs h), .string ⟨#[35, 44, 64]⟩] w0 fun e w' => e = .returned (.bool (Lib.containsAny h [35, 44, 64])) ∧ Below w0.heap.size w0 w') := Lib.hid (ca_any h HH.out.1 HH.out.2.1)
          by_cases hca : Lib.containsAny h [35, 44, 64] = true
          · rw [anyMark] at hca
            have hR := Lib.hid (show expS h m (s.data.toList.drop i) = none by unfold expS; rw [hexp]; simp only []; rw [if_pos (by rw [hca]; rfl)])
            rw [← anyMark] at hca
            clear hexp
            go_enter Tryd.func45, Tryd.ntmps45
            go_wp2_with (first | (go_at_call 62; refine (HCA.out _).mono ?_; rintro e w1 ⟨rfl, hb1⟩; obtain ⟨hb0, hbz, hbw, hlt1⟩ := two_below hb1; have c5 := (blk_cell hb0 5).trans (rfl : _ = some (Value.int .i64 m.minInt)); have c12 := (blk_cell hb0 12).trans (rfl : _ = some (Value.bool false)); have c13 := (blk_cell hb0 13).trans (rfl : _ = some (Value.string (bs m.sInt))); have c14 := (blk_cell hb0 14).trans (rfl : _ = some (Value.string (bs m.sFrac))); have f16 := blk_frozen hb0 16; have c16 := (blk_cell hb0 16).trans (rfl : _ = some (Value.bool m.expPlus)); have HB0 := Aside0.mk hb0; have HBZ := Aside0.mk hbz; have HBW := Aside0.mk hbw; clear hb0 hbz hbw hb1) | ((with_reducible refine gate_ (.load 26 (.tmp 7)) rfl ?_); refine wpList_load_row rfl 26 (.tmp 7) rfl (w.heap.size) rfl 26 _ (0, 0) _ HB0.out Tryd.underlying26 rfl sizePat ?_) | ((with_reducible refine gate_ (.store 26 (.tmp 8) (.tmp 63)) rfl ?_); refine store_blk rfl rfl 26 (.tmp 8) (.tmp 63) rfl (.agg (numCells m)) (numCells m).toList rfl rfl rfl sizePat (one_num _) HBZ.out (Nat.le_refl 17) (numCells m) (by simp) ?_; intro w2 hb2 ho2; have HB2 := Aside0.mk hb2; have HO2 := Aside0.mk ho2; clear hb2 ho2))
            refine bodyPost_ret (v := .tuple #[numV m, .int .i64 i, .bool false]) ?_ rfl (NumPost.no m i hR.out (HO2.out.below HBW.out (by omega)))
            refine (results_ctt (p := 8) (u := 9) (v := 10) (g := w.heap.size + 1) (t := 26) (cs := numCells m) (fr := (0, 0)) ?_ _ _ _ ?_ HB2.out Tryd.underlying26 rfl sizePat) <;> rfl
          · have hca := Bool.eq_false_iff.mpr hca
            rw [anyMark] at hca
            by_cases hm0 : m.minInt = 0
            · have bm : ((m.minInt : Int) == 0) = true := beq_iff_eq.mpr (by omega)
              have hR := Lib.hid (show expS h m (s.data.toList.drop i) = none by unfold expS; rw [hexp]; simp only []; rw [if_pos (by rw [hca, hm0]; rfl)])
              rw [← anyMark] at hca
              clear hexp hm0
              go_enter Tryd.func45, Tryd.ntmps45
              go_wp2_with (first | (go_at_call 62; refine (HCA.out _).mono ?_; rintro e w1 ⟨rfl, hb1⟩; obtain ⟨hb0, hbz, hbw, hlt1⟩ := two_below hb1; have c5 := (blk_cell hb0 5).trans (rfl : _ = some (Value.int .i64 m.minInt)); have c12 := (blk_cell hb0 12).trans (rfl : _ = some (Value.bool false)); have c13 := (blk_cell hb0 13).trans (rfl : _ = some (Value.string (bs m.sInt))); have c14 := (blk_cell hb0 14).trans (rfl : _ = some (Value.string (bs m.sFrac))); have f16 := blk_frozen hb0 16; have c16 := (blk_cell hb0 16).trans (rfl : _ = some (Value.bool m.expPlus)); have HB0 := Aside0.mk hb0; have HBZ := Aside0.mk hbz; have HBW := Aside0.mk hbw; clear hb0 hbz hbw hb1) | ((with_reducible refine gate_ (.load 26 (.tmp 7)) rfl ?_); refine wpList_load_row rfl 26 (.tmp 7) rfl (w.heap.size) rfl 26 _ (0, 0) _ HB0.out Tryd.underlying26 rfl sizePat ?_) | ((with_reducible refine gate_ (.store 26 (.tmp 8) (.tmp 63)) rfl ?_); refine store_blk rfl rfl 26 (.tmp 8) (.tmp 63) rfl (.agg (numCells m)) (numCells m).toList rfl rfl rfl sizePat (one_num _) HBZ.out (Nat.le_refl 17) (numCells m) (by simp) ?_; intro w2 hb2 ho2; have HB2 := Aside0.mk hb2; have HO2 := Aside0.mk ho2; clear hb2 ho2))
              refine bodyPost_ret (v := .tuple #[numV m, .int .i64 i, .bool false]) ?_ rfl (NumPost.no m i hR.out (HO2.out.below HBW.out (by omega)))
              refine (results_ctt (p := 8) (u := 9) (v := 10) (g := w.heap.size + 1) (t := 26) (cs := numCells m) (fr := (0, 0)) ?_ _ _ _ ?_ HB2.out Tryd.underlying26 rfl sizePat) <;> rfl
            · have bm : ((m.minInt : Int) == 0) = false := beq_eq_false_iff_ne.mpr (by omega)
              have bm2 : (m.minInt == 0) = false := beq_eq_false_iff_ne.mpr hm0
              by_cases hs0 : m.sInt = []
              · have hs1 := HH.out.2.2.1 hs0
                have d1 : (m.sInt == ([] : List UInt8)) = true := by rw [hs0]; rfl
                have d2 : (m.sFrac == ([] : List UInt8)) = true := by rw [hs1]; rfl
                have d3 : m.sInt.isEmpty = true := by rw [hs0]; rfl
                have d4 : m.sFrac.isEmpty = true := by rw [hs1]; rfl
                have hR : Hid (∀ e, ((s.data.toList.drop (i + 1)).takeWhile (· == 48)).length = e → (s.data.toList.drop (i + 1)).dropWhile (· == 48) = s.data.toList.drop (i + 1 + e) → expS h m (s.data.toList.drop i) = some ({ m with exp := e, expPlus := false }, s.data.toList.drop (i + 1 + e))) := Lib.hid (by
                  intro e h1 h2
                  unfold expS
                  rw [hexp, h1, h2]
                  simp only []
                  rw [if_neg (by rw [hca, hs0, bm2]; decide)])
                have hk0 : i + 1 + 0 ≤ s.size := by omega
                have he0 := HH.out.2.2.2.1
                have bk : ((i : Int) + 1 == (i : Int) + 2) = false := beq_eq_false_iff_ne.mpr (by omega)
                have HE0 := Lib.hid he0
                rw [← anyMark] at hca
                clear hexp hm0 hs0 hs1 bm2 he0
                go_enter Tryd.func45, Tryd.ntmps45
                go_wp2_with (first | (go_at_call 62; refine (HCA.out _).mono ?_; rintro e w1 ⟨rfl, hb1⟩; obtain ⟨hb0, hbz, hbw, hlt1⟩ := two_below hb1; have c5 := (blk_cell hb0 5).trans (rfl : _ = some (Value.int .i64 m.minInt)); have c12 := (blk_cell hb0 12).trans (rfl : _ = some (Value.bool false)); have c13 := (blk_cell hb0 13).trans (rfl : _ = some (Value.string (bs m.sInt))); have c14 := (blk_cell hb0 14).trans (rfl : _ = some (Value.string (bs m.sFrac))); have f16 := blk_frozen hb0 16; have c16 := (blk_cell hb0 16).trans (rfl : _ = some (Value.bool m.expPlus)); have HB0 := Aside0.mk hb0; have HBZ := Aside0.mk hbz; have HBW := Aside0.mk hbw; clear hb0 hbz hbw hb1))
                go_loopw [11] (fun v wr => ∃ e : Nat, v = .int .i64 ((i + 1 + e : Nat) : Int) ∧ i + 1 + e ≤ s.size ∧ Aside0 (Zeros s.data.toList (i + 1) e) ∧ Aside0 (wr.heap[w.heap.size]? = some (.cells (numCells { m with exp := e, expPlus := false }) 26 (0, 0))) ∧ Aside0 (wr.heap[w.heap.size + 1]? = some (.cells zeroCells 26 (0, 0))) ∧ Aside0 (Below w.heap.size w wr)) (fun v _ => s.size + 1 - (intOf v).toNat)
                case atStart =>
                  refine ⟨0, by go_num, hk0, ⟨fun j hj => absurd hj (by omega)⟩, ⟨?_⟩, ⟨blk_far HBZ.out (by simp) _⟩, ⟨below_set HBW.out (Nat.le_refl _)⟩⟩
                  rw [blk_set HB0.out 16 (.bool false)]
                  simp [HE0.out]
                case round =>
                  obtain ⟨e, rfl, hke, hz, hb0, hbz, hbw⟩ := hrel
                  have hw1 : w.heap.size + 1 < wr.heap.size := blk_lt hbz.out
                  by_cases hlt : i + 1 + e < s.size
                  · obtain ⟨c, g0, hx⟩ := byte_at s (i + 1 + e) hlt
                    have G := Lib.hid g0
                    clear g0
                    by_cases h48 : (c.toNat : Int) = 48
                    · have b48 : ((c.toNat : Int) == 48) = true := beq_iff_eq.mpr h48
                      have hz2 := Aside0.mk (hz.out.more G.out h48)
                      have d15 := (blk_cell hb0.out 15).trans (rfl : _ = some (Value.int .i64 e))
                      have f15 := blk_frozen hb0.out 15
                      clear h48
                      go_wp2
                      go_roundw
                      case rel =>
                        refine ⟨e + 1, by go_num, by omega, hz2, ⟨?_⟩, ⟨blk_far hbz.out (by simp) _⟩, ⟨below_set hbw.out (Nat.le_refl _)⟩⟩
                        rw [blk_set hb0.out 15]
                        simp
                      case measure => simp [intOf]; omega
                    · have b48 : ((c.toNat : Int) == 48) = false := beq_eq_false_iff_ne.mpr h48
                      have hd := hz.out.done (fun c' hc' => by rw [G.out] at hc'; injection hc' with hc'; subst hc'; exact u8_ne (n := 48) h48 (by decide))
                      have hS := Lib.hid (hR.out e hd.1 hd.2)
                      clear h48 hd
                      go_wp2_with (first | ((with_reducible refine gate_ (.load 26 (.tmp 7)) rfl ?_); refine wpList_load_row rfl 26 (.tmp 7) rfl (w.heap.size) rfl 26 _ (0, 0) _ hb0.out Tryd.underlying26 rfl sizePat ?_) | ((with_reducible refine gate_ (.store 26 (.tmp 8) (.tmp 86)) rfl ?_); refine store_blk rfl rfl 26 (.tmp 8) (.tmp 86) rfl (.agg (numCells ({ m with exp := e, expPlus := false } : Num))) (numCells ({ m with exp := e, expPlus := false } : Num)).toList rfl rfl rfl sizePat (one_num _) hbz.out (Nat.le_refl 17) (numCells ({ m with exp := e, expPlus := false } : Num)) (by simp) ?_; intro w2 hb2 ho2; have HB2 := Aside0.mk hb2; have HO2 := Aside0.mk ho2; clear hb2 ho2))
                      refine bodyPost_ret (v := .tuple #[numV ({ m with exp := e, expPlus := false } : Num), .int .i64 ((i + 1 + e : Nat) : Int), .bool true]) ?_ rfl (NumPost.yes ({ m with exp := e, expPlus := false } : Num) (i + 1 + e) (by omega) hS.out (HO2.out.below hbw.out (by omega)))
                      refine (results_ctt (p := 8) (u := 9) (v := 10) (g := w.heap.size + 1) (t := 26) (cs := numCells ({ m with exp := e, expPlus := false } : Num)) (fr := (0, 0)) ?_ _ _ _ ?_ HB2.out Tryd.underlying26 rfl sizePat) <;> rfl
                  · have hd := hz.out.done (fun c' hc' => by have := (List.getElem?_eq_some_iff.mp hc').1; rw [data_length] at this; omega)
                    have hS := Lib.hid (hR.out e hd.1 hd.2)
                    clear hd
                    go_wp2_with (first | ((with_reducible refine gate_ (.load 26 (.tmp 7)) rfl ?_); refine wpList_load_row rfl 26 (.tmp 7) rfl (w.heap.size) rfl 26 _ (0, 0) _ hb0.out Tryd.underlying26 rfl sizePat ?_) | ((with_reducible refine gate_ (.store 26 (.tmp 8) (.tmp 86)) rfl ?_); refine store_blk rfl rfl 26 (.tmp 8) (.tmp 86) rfl (.agg (numCells ({ m with exp := e, expPlus := false } : Num))) (numCells ({ m with exp := e, expPlus := false } : Num)).toList rfl rfl rfl sizePat (one_num _) hbz.out (Nat.le_refl 17) (numCells ({ m with exp := e, expPlus := false } : Num)) (by simp) ?_; intro w2 hb2 ho2; have HB2 := Aside0.mk hb2; have HO2 := Aside0.mk ho2; clear hb2 ho2))
                    refine bodyPost_ret (v := .tuple #[numV ({ m with exp := e, expPlus := false } : Num), .int .i64 ((i + 1 + e : Nat) : Int), .bool true]) ?_ rfl (NumPost.yes ({ m with exp := e, expPlus := false } : Num) (i + 1 + e) (by omega) hS.out (HO2.out.below hbw.out (by omega)))
                    refine (results_ctt (p := 8) (u := 9) (v := 10) (g := w.heap.size + 1) (t := 26) (cs := numCells ({ m with exp := e, expPlus := false } : Num)) (fr := (0, 0)) ?_ _ _ _ ?_ HB2.out Tryd.underlying26 rfl sizePat) <;> rfl
              · have d1 : (m.sInt == ([] : List UInt8)) = false := beq_eq_false_iff_ne.mpr hs0
                have d3 : m.sInt.isEmpty = false := by cases hq : m.sInt with | nil => exact absurd hq hs0 | cons a b => rfl
                have hR := Lib.hid (show expS h m (s.data.toList.drop i) = none by unfold expS; rw [hexp]; simp only []; rw [if_pos (by rw [hca, bm2]; simp [hs0])])
                rw [← anyMark] at hca
                clear hexp hm0 hs0 bm2
                go_enter Tryd.func45, Tryd.ntmps45
                go_wp2_with (first | (go_at_call 62; refine (HCA.out _).mono ?_; rintro e w1 ⟨rfl, hb1⟩; obtain ⟨hb0, hbz, hbw, hlt1⟩ := two_below hb1; have c5 := (blk_cell hb0 5).trans (rfl : _ = some (Value.int .i64 m.minInt)); have c12 := (blk_cell hb0 12).trans (rfl : _ = some (Value.bool false)); have c13 := (blk_cell hb0 13).trans (rfl : _ = some (Value.string (bs m.sInt))); have c14 := (blk_cell hb0 14).trans (rfl : _ = some (Value.string (bs m.sFrac))); have f16 := blk_frozen hb0 16; have c16 := (blk_cell hb0 16).trans (rfl : _ = some (Value.bool m.expPlus)); have HB0 := Aside0.mk hb0; have HBZ := Aside0.mk hbz; have HBW := Aside0.mk hbw; clear hb0 hbz hbw hb1) | ((with_reducible refine gate_ (.load 26 (.tmp 7)) rfl ?_); refine wpList_load_row rfl 26 (.tmp 7) rfl (w.heap.size) rfl 26 _ (0, 0) _ HB0.out Tryd.underlying26 rfl sizePat ?_) | ((with_reducible refine gate_ (.store 26 (.tmp 8) (.tmp 63)) rfl ?_); refine store_blk rfl rfl 26 (.tmp 8) (.tmp 63) rfl (.agg (numCells m)) (numCells m).toList rfl rfl rfl sizePat (one_num _) HBZ.out (Nat.le_refl 17) (numCells m) (by simp) ?_; intro w2 hb2 ho2; have HB2 := Aside0.mk hb2; have HO2 := Aside0.mk ho2; clear hb2 ho2))
                refine bodyPost_ret (v := .tuple #[numV m, .int .i64 i, .bool false]) ?_ rfl (NumPost.no m i hR.out (HO2.out.below HBW.out (by omega)))
                refine (results_ctt (p := 8) (u := 9) (v := 10) (g := w.heap.size + 1) (t := 26) (cs := numCells m) (fr := (0, 0)) ?_ _ _ _ ?_ HB2.out Tryd.underlying26 rfl sizePat) <;> rfl
        · have b48 : ((c1.toNat : Int) != 48) = true := bne_iff_ne.mpr h48
          have hR := Lib.hid (show expS h m (s.data.toList.drop i) = some (m, s.data.toList.drop i) by unfold expS; rw [expAt_two G0.out G1.out (u8_ne (n := 43) h43 (by decide)) (u8_ne (n := 48) h48 (by decide))])
          clear h43 h69 h48
          go_enter Tryd.func45, Tryd.ntmps45
          go_wp2_with (first | ((with_reducible refine gate_ (.load 26 (.tmp 7)) rfl ?_); refine wpList_load_row rfl 26 (.tmp 7) rfl (w.heap.size) rfl 26 _ (0, 0) _ (heap_alloc2_old w _ _) Tryd.underlying26 rfl sizePat ?_) | ((with_reducible refine gate_ (.store 26 (.tmp 8) (.tmp 48)) rfl ?_); refine store_blk rfl rfl 26 (.tmp 8) (.tmp 48) rfl (.agg (numCells m)) (numCells m).toList rfl rfl rfl sizePat (one_num _) (heap_alloc2_new w _ _) (Nat.le_refl 17) (numCells m) (by simp) ?_; intro w2 hb2 ho2; have HB2 := Aside0.mk hb2; have HO2 := Aside0.mk ho2; clear hb2 ho2))
          refine bodyPost_ret (v := .tuple #[numV m, .int .i64 i, .bool true]) ?_ rfl (NumPost.yes m i hi hR.out (HO2.out.below (below_alloc (below_alloc (Below.refl _ _) _) _) (by omega)))
          refine (results_ctt (p := 8) (u := 9) (v := 10) (g := w.heap.size + 1) (t := 26) (cs := numCells m) (fr := (0, 0)) ?_ _ _ _ ?_ HB2.out Tryd.underlying26 rfl sizePat) <;> rfl

      · have b69 : ((c0.toNat : Int) != 69) = true := bne_iff_ne.mpr h69
        have hR := Lib.hid (show expS h m (s.data.toList.drop i) = some (m, s.data.toList.drop i) by unfold expS; rw [expAt_not G0.out (u8_ne (n := 69) h69 (by decide))])
        clear h43 h69
        go_enter Tryd.func45, Tryd.ntmps45
        go_wp2_with (first | ((with_reducible refine gate_ (.load 26 (.tmp 7)) rfl ?_); refine wpList_load_row rfl 26 (.tmp 7) rfl (w.heap.size) rfl 26 _ (0, 0) _ (heap_alloc2_old w _ _) Tryd.underlying26 rfl sizePat ?_) | ((with_reducible refine gate_ (.store 26 (.tmp 8) (.tmp 48)) rfl ?_); refine store_blk rfl rfl 26 (.tmp 8) (.tmp 48) rfl (.agg (numCells m)) (numCells m).toList rfl rfl rfl sizePat (one_num _) (heap_alloc2_new w _ _) (Nat.le_refl 17) (numCells m) (by simp) ?_; intro w2 hb2 ho2; have HB2 := Aside0.mk hb2; have HO2 := Aside0.mk ho2; clear hb2 ho2))
        refine bodyPost_ret (v := .tuple #[numV m, .int .i64 i, .bool true]) ?_ rfl (NumPost.yes m i hi hR.out (HO2.out.below (below_alloc (below_alloc (Below.refl _ _) _) _) (by omega)))
        refine (results_ctt (p := 8) (u := 9) (v := 10) (g := w.heap.size + 1) (t := 26) (cs := numCells m) (fr := (0, 0)) ?_ _ _ _ ?_ HB2.out Tryd.underlying26 rfl sizePat) <;> rfl
  · by_cases h2 : i < s.size
    · obtain ⟨c0, g0, hx0⟩ := byte_at s i h2
      have G0 := Lib.hid g0
      clear g0
      by_cases h69 : (c0.toNat : Int) = 69
      · have b69 : ((c0.toNat : Int) != 69) = false := bne_eq_false_iff_eq.mpr h69
        have hR := Lib.hid (show expS h m (s.data.toList.drop i) = some (m, s.data.toList.drop i) by unfold expS; rw [expAt_short (by rw [data_length]; omega)])
        clear h69
        go_enter Tryd.func45, Tryd.ntmps45
        go_wp2_with (first | ((with_reducible refine gate_ (.load 26 (.tmp 7)) rfl ?_); refine wpList_load_row rfl 26 (.tmp 7) rfl (w.heap.size) rfl 26 _ (0, 0) _ (heap_alloc2_old w _ _) Tryd.underlying26 rfl sizePat ?_) | ((with_reducible refine gate_ (.store 26 (.tmp 8) (.tmp 48)) rfl ?_); refine store_blk rfl rfl 26 (.tmp 8) (.tmp 48) rfl (.agg (numCells m)) (numCells m).toList rfl rfl rfl sizePat (one_num _) (heap_alloc2_new w _ _) (Nat.le_refl 17) (numCells m) (by simp) ?_; intro w2 hb2 ho2; have HB2 := Aside0.mk hb2; have HO2 := Aside0.mk ho2; clear hb2 ho2))
        refine bodyPost_ret (v := .tuple #[numV m, .int .i64 i, .bool true]) ?_ rfl (NumPost.yes m i hi hR.out (HO2.out.below (below_alloc (below_alloc (Below.refl _ _) _) _) (by omega)))
        refine (results_ctt (p := 8) (u := 9) (v := 10) (g := w.heap.size + 1) (t := 26) (cs := numCells m) (fr := (0, 0)) ?_ _ _ _ ?_ HB2.out Tryd.underlying26 rfl sizePat) <;> rfl
      · have b69 : ((c0.toNat : Int) != 69) = true := bne_iff_ne.mpr h69
        have hR := Lib.hid (show expS h m (s.data.toList.drop i) = some (m, s.data.toList.drop i) by unfold expS; rw [expAt_short (by rw [data_length]; omega)])
        clear h69
        go_enter Tryd.func45, Tryd.ntmps45
        go_wp2_with (first | ((with_reducible refine gate_ (.load 26 (.tmp 7)) rfl ?_); refine wpList_load_row rfl 26 (.tmp 7) rfl (w.heap.size) rfl 26 _ (0, 0) _ (heap_alloc2_old w _ _) Tryd.underlying26 rfl sizePat ?_) | ((with_reducible refine gate_ (.store 26 (.tmp 8) (.tmp 48)) rfl ?_); refine store_blk rfl rfl 26 (.tmp 8) (.tmp 48) rfl (.agg (numCells m)) (numCells m).toList rfl rfl rfl sizePat (one_num _) (heap_alloc2_new w _ _) (Nat.le_refl 17) (numCells m) (by simp) ?_; intro w2 hb2 ho2; have HB2 := Aside0.mk hb2; have HO2 := Aside0.mk ho2; clear hb2 ho2))
        refine bodyPost_ret (v := .tuple #[numV m, .int .i64 i, .bool true]) ?_ rfl (NumPost.yes m i hi hR.out (HO2.out.below (below_alloc (below_alloc (Below.refl _ _) _) _) (by omega)))
        refine (results_ctt (p := 8) (u := 9) (v := 10) (g := w.heap.size + 1) (t := 26) (cs := numCells m) (fr := (0, 0)) ?_ _ _ _ ?_ HB2.out Tryd.underlying26 rfl sizePat) <;> rfl
    · skip
      have hR := Lib.hid (show expS h m (s.data.toList.drop i) = some (m, s.data.toList.drop i) by unfold expS; rw [expAt_short (by rw [data_length]; omega)])
      go_enter Tryd.func45, Tryd.ntmps45
      go_wp2_with (first | ((with_reducible refine gate_ (.load 26 (.tmp 7)) rfl ?_); refine wpList_load_row rfl 26 (.tmp 7) rfl (w.heap.size) rfl 26 _ (0, 0) _ (heap_alloc2_old w _ _) Tryd.underlying26 rfl sizePat ?_) | ((with_reducible refine gate_ (.store 26 (.tmp 8) (.tmp 48)) rfl ?_); refine store_blk rfl rfl 26 (.tmp 8) (.tmp 48) rfl (.agg (numCells m)) (numCells m).toList rfl rfl rfl sizePat (one_num _) (heap_alloc2_new w _ _) (Nat.le_refl 17) (numCells m) (by simp) ?_; intro w2 hb2 ho2; have HB2 := Aside0.mk hb2; have HO2 := Aside0.mk ho2; clear hb2 ho2))
      refine bodyPost_ret (v := .tuple #[numV m, .int .i64 i, .bool true]) ?_ rfl (NumPost.yes m i hi hR.out (HO2.out.below (below_alloc (below_alloc (Below.refl _ _) _) _) (by omega)))
      refine (results_ctt (p := 8) (u := 9) (v := 10) (g := w.heap.size + 1) (t := 26) (cs := numCells m) (fr := (0, 0)) ?_ _ _ _ ?_ HB2.out Tryd.underlying26 rfl sizePat) <;> rfl
end Go.Proofs.YtjpdakepfmepnaaDoor

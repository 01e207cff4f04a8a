/- The walk of the statement PatternQuotes. (Seat D alone.) -/
import Derived.Test.YtjpdakepfmepnaaDoorAwake
import Derived.Test.YtjpdakepfmepnaaDoorPrint
import Derived.Test.YtjpdakepfmepnaaDoorSameP
import Derived.Test.YtjpdakepfmepnaaDoorQLaw
namespace Go.Proofs.YtjpdakepfmepnaaDoor
open Go.RowKit Go.Proofs.YtjpdakepfmepnaaDoorW.PrintWords Pat
set_option linter.unusedVariables false
set_option linter.unusedSimpArgs false

theorem C_one {w : World} {g : Nat} {a : List UInt8} {e : TypeId} {fr : Nat × Nat} (h : w.heap[g]? = some (.cells #[.int .i64 1, .string (bs a), .int .i64 0] e fr)) : Kd.C kA w (some ⟨g, 0, none⟩) 1 [⟨1, a, 0⟩] := by
  refine ⟨rfl, by decide, fun _ => ⟨_, rfl, fun j p hj => ?_⟩⟩
  match j, hj with
  | 0, hj =>
    obtain rfl := Option.some.inj hj
    refine ⟨_, rfl, kA_mk w ⟨1, a, 0⟩, fun i u hi => ?_⟩
    show w.cell? ((⟨g, 0, none⟩ : Addr).add (0 * 3 + i)) = some u
    have hadd : (⟨g, 0, none⟩ : Addr).add (0 * 3 + i) = ⟨g, i, none⟩ := by unfold Addr.add; split <;> simp_all
    rw [hadd, cell_of_row w g i _ e fr h]
    simpa using hi
theorem extract_cut (a : ByteArray) (k : Nat) : a.extract 0 k = bs (a.data.toList.take k) := by
  apply ByteArray.ext
  apply Array.ext'
  simp [ByteArray.data_extract]
/-- A row of none or one, in a block of its own. -/
def RowT (w w2 : World) (s : Sl) (a : List UInt8) : Prop :=
  (a = [] ∧ s = zSl) ∨ (a ≠ [] ∧ ∃ g, w.heap.size < g ∧ s = ⟨some ⟨g, 0, none⟩, 1, 1⟩ ∧ w2.heap[g]? = some (.cells #[.int .i64 1, .string (bs a), .int .i64 0] 28 (0, 0)))
theorem RowT.below {w w2 w3 : World} {s : Sl} {a : List UInt8} (h : RowT w w2 s a) (hb : Below w2.heap.size w2 w3) : RowT w w3 s a := by
  rcases h with h | ⟨h, g, h1, h2, h3⟩
  · exact .inl h
  · exact .inr ⟨h, g, h1, h2, blk_below h3 hb⟩
theorem RowT.only {w w2 w3 : World} {s : Sl} {a : List UInt8} (h : RowT w w2 s a) (ho : Only w.heap.size w2 w3) : RowT w w3 s a := by
  rcases h with h | ⟨h, g, h1, h2, h3⟩
  · exact .inl h
  · exact .inr ⟨h, g, h1, h2, ho.blk h3 (Nat.ne_of_gt h1)⟩
theorem one_sl {A : Option Addr} {n c : Nat} : ∀ q ∈ [Value.slice A n c], q.oneCell' = true := by intro q hq; rw [List.mem_singleton.mp hq]; rfl
theorem RowT.nil (w w2 : World) : RowT w w2 zSl [] := .inl ⟨rfl, rfl⟩
theorem RowT.reads {w w2 : World} {s : Sl} {a : List UInt8} (h : RowT w w2 s a) : s.n = (tx a).length ∧ (tx a).length ≤ s.c ∧ Kd.C kA w2 s.A (tx a).length (tx a) := by
  rcases h with ⟨rfl, rfl⟩ | ⟨h, g, h1, rfl, h3⟩
  · exact ⟨rfl, Nat.le_refl _, Kd.C_nil kA w2⟩
  · have e : tx a = [⟨1, a, 0⟩] := if_neg h
    rw [e]
    exact ⟨rfl, Nat.le_refl _, C_one h3⟩
abbrev qP (a b : List Aff) : Pat := ⟨a, b, false, [], [], 1, 0, 0, 0, 0, 0, 0, false, [], [], 0, false⟩
theorem tx_ne {a : List UInt8} (h : a ≠ []) : tx a = [⟨1, a, 0⟩] := if_neg h
theorem tx_len (a : List UInt8) : (tx a).length ≤ 1048576 := by unfold tx; split <;> simp
theorem tx_text {a : List UInt8} (ha : a.length ≤ 8000) : ∀ x ∈ tx a, x.text.length ≤ 268435456 := by
  intro x hx
  unfold tx at hx
  split at hx
  · simp at hx
  · obtain rfl := List.mem_singleton.mp hx; dsimp only; omega
set_option maxHeartbeats 8000000 in
set_option maxRecDepth 100000 in
theorem quotes_any (a b : ByteArray) (w : World) (m : Int) (hm : w.cell? ⟨0, 0, none⟩ = some (.int .i64 m)) :
    Calls Tryd.prog 3 #[.string a, .string b] w fun e w' => e = .returned (.bool true) ∧ Below w.heap.size w w' := by
  have hu2 := Tryd.underlying26
  have HM := Lib.hid hm
  clear hm
  go_enter Tryd.func3, Tryd.ntmps3
  go_upto_if 13 with fail
  go_cut [0] (fun v0 w9 => ∃ a1 : List UInt8, v0 = .string (bs a1) ∧ w = w9 ∧ Aside0 (a1.length ≤ 8000))
  case first =>
    as_aux_lemma =>
      by_cases h : (8000 : Int) < (a.size : Int)
      · go_wp2
        go_meet
        exact ⟨_, congrArg Value.string (extract_cut a 8000), rfl, ⟨by rw [List.length_take]; omega⟩⟩
      · go_wp2
        go_meet
        exact ⟨a.data.toList, rfl, rfl, ⟨by rw [data_length]; omega⟩⟩
  case rest =>
    obtain ⟨a1, rfl, rfl, ha⟩ := hcut
    go_upto_if 18 with fail
    go_cut [1] (fun v1 w9 => ∃ b1 : List UInt8, v1 = .string (bs b1) ∧ w = w9 ∧ Aside0 (b1.length ≤ 8000))
    case first =>
      as_aux_lemma =>
        by_cases h : (8000 : Int) < (b.size : Int)
        · go_wp2
          go_meet
          exact ⟨_, congrArg Value.string (extract_cut b 8000), rfl, ⟨by rw [List.length_take]; omega⟩⟩
        · go_wp2
          go_meet
          exact ⟨b.data.toList, rfl, rfl, ⟨by rw [data_length]; omega⟩⟩
    case rest =>
      obtain ⟨b1, rfl, rfl, hb⟩ := hcut
      go_upto_if 23 with ((with_reducible refine gate_ (.store 26 (.tmp 5) (.tmp 21)) rfl ?_); refine store_blk rfl rfl 26 (.tmp 5) (.tmp 21) rfl (.agg (patCells zSl zSl zSl zSl (qP [] []))) (patCells zSl zSl zSl zSl (qP [] [])).toList rfl rfl rfl sizePat (one_pat _ _ _ _ _) (blk_new _ _) (Nat.le_refl 17) (patCells zSl zSl zSl zSl (qP [] [])) (by simp) ?_; intro w2 hx ho; have hq2 := Aside0.mk hx; have hb2 := Aside0.mk (ho.below (below_alloc (Below.refl _ _) _) (Nat.le_refl _)); clear hx ho)
      have c0 := (blk_cell hq2.out 0).trans (rfl : _ = some (Value.slice none 0 0))
      have f0 := blk_frozen hq2.out 0
      go_cut [5] (fun v5 w9 => v5 = .pointer (some ⟨w.heap.size, 0, none⟩) ∧ ∃ s : Sl, Aside0 (w9.heap[w.heap.size]? = some (.cells (patCells s zSl zSl zSl (qP (tx a1) [])) 26 (0, 0))) ∧ Aside0 (RowT w w9 s a1) ∧ Aside0 (Below w.heap.size w w9))
      case first =>
        cases a1 with
        | nil =>
          go_wp2
          go_meet
          exact ⟨rfl, zSl, hq2, ⟨RowT.nil w w2⟩, hb2⟩
        | cons ch q =>
          go_wp2_with ((with_reducible refine gate_ (.store 22 (.tmp 27) (.tmp 26)) rfl ?_); refine store_blk rfl rfl 22 (.tmp 27) (.tmp 26) rfl (.slice (some ⟨w2.heap.size, 0, none⟩) 1 1) [.slice (some ⟨w2.heap.size, 0, none⟩) 1 1] rfl rfl rfl sizeSl one_sl (blk_alloc hq2.out _) (Nat.le_of_ble_eq_true rfl) (patCells ⟨some ⟨w2.heap.size, 0, none⟩, 1, 1⟩ zSl zSl zSl (qP [] [])) (by simp) ?_; intro w3 hx ho; have hq3 := Aside0.mk hx; have hb3 := Aside0.mk (ho.below (below_alloc hb2.out _) (Nat.le_refl _)); have hn3 := Aside0.mk (ho.blk (blk_new w2 _) (Nat.ne_of_gt (blk_lt hq2.out))); clear hx ho)
          go_meet
          exact ⟨rfl, ⟨some ⟨w2.heap.size, 0, none⟩, 1, 1⟩, hq3, ⟨.inr ⟨by simp, _, blk_lt hq2.out, rfl, hn3.out⟩⟩, hb3⟩
      case rest =>
        clear c0 f0 hq2 hb2
        obtain ⟨rfl, s0, hq2, hr2, hb2⟩ := hcut
        go_upto_if 29 with fail
        go_cut [5] (fun v5 w9 => v5 = .pointer (some ⟨w.heap.size, 0, none⟩) ∧ ∃ s1 : Sl, Aside0 (w9.heap[w.heap.size]? = some (.cells (patCells s0 s1 zSl zSl (qP (tx a1) (tx b1))) 26 (0, 0))) ∧ Aside0 (RowT w w9 s0 a1) ∧ Aside0 (RowT w w9 s1 b1) ∧ Aside0 (Below w.heap.size w w9))
        case first =>
          cases b1 with
          | nil =>
            go_wp2
            go_meet
            exact ⟨rfl, zSl, hq2, hr2, ⟨RowT.nil w wc⟩, hb2⟩
          | cons ch q =>
            go_wp2_with ((with_reducible refine gate_ (.store 22 (.tmp 33) (.tmp 32)) rfl ?_); refine store_blk rfl rfl 22 (.tmp 33) (.tmp 32) rfl (.slice (some ⟨wc.heap.size, 0, none⟩) 1 1) [.slice (some ⟨wc.heap.size, 0, none⟩) 1 1] rfl rfl rfl sizeSl one_sl (blk_alloc hq2.out _) (Nat.le_of_ble_eq_true rfl) (patCells s0 ⟨some ⟨wc.heap.size, 0, none⟩, 1, 1⟩ zSl zSl (qP (tx a1) [])) (by simp) ?_; intro w3 hx ho; have hq3 := Aside0.mk hx; have hb3 := Aside0.mk (ho.below (below_alloc hb2.out _) (Nat.le_refl _)); have hn3 := Aside0.mk (ho.blk (blk_new wc _) (Nat.ne_of_gt (blk_lt hq2.out))); have hr3 := Aside0.mk (RowT.only (hr2.out.below (below_alloc (Below.refl _ _) _)) ho); clear hx ho)
            go_meet
            exact ⟨rfl, ⟨some ⟨wc.heap.size, 0, none⟩, 1, 1⟩, hq3, hr3, ⟨.inr ⟨by simp, _, blk_lt hq2.out, rfl, hn3.out⟩⟩, hb3⟩
        case rest =>
          clear hq2 hr2 hb2
          obtain ⟨rfl, s1, hq3, hr3, ht3, hb3⟩ := hcut
          obtain ⟨cs, hcs⟩ : ∃ cs, cs = patCells s0 s1 zSl zSl (qP (tx a1) (tx b1)) := ⟨_, rfl⟩
          rw [← hcs] at hq3
          have hsz := Lib.hid (show (Tryd.prog.info? 26).map (·.size) = some cs.size by rw [hcs]; exact sizePat)
          have HC := Lib.hid hcs
          have HR := Lib.hid (show PatReads wc s0 s1 zSl zSl (qP (tx a1) (tx b1)) from ⟨hr3.out.reads.1, hr3.out.reads.2.1, hr3.out.reads.2.2, ht3.out.reads.1, ht3.out.reads.2.1, ht3.out.reads.2.2, rfl, Nat.le_refl _, Kd.C_nil kA wc, rfl, Nat.le_refl _, Kd.C_nil kA wc⟩)
          obtain ⟨S, hS⟩ : ∃ S, S = bs (printL (quotesP a1 b1)) := ⟨_, rfl⟩
          have HPR : Hid (Calls Tryd.prog 4 #[.agg cs] wc fun e w' => e = .returned (.tuple #[.string S, .int .i64 0]) ∧ Below wc.heap.size wc w') := Lib.hid (by
            rw [hcs, hS]
            have := print_any s0 s1 zSl zSl (qP (tx a1) (tx b1)) wc m (glob_up hb3.out HM.out) HR.out ⟨tx_text ha.out, tx_text hb.out, (fun _ h => by cases h), (fun _ h => by cases h)⟩
            rw [show (qP (tx a1) (tx b1)) = quotesP a1 b1 from rfl, print_quotes ha.out hb.out] at this
            exact this)
          have HPA : Hid (∀ w1 : World, w1.cell? ⟨0, 0, none⟩ = some (.int .i64 m) → Calls Tryd.prog 5 #[.string S] w1 fun e w' => Below w1.heap.size w1 w' ∧ ∃ (c2 : Array Value) (u0 u1 u3 u4 : Sl) (j : Int), c2 = patCells u0 u1 u3 u4 (qP (tx a1) (tx b1)) ∧ e = .returned (.tuple #[.agg c2, .int .i64 j, .int .i64 0]) ∧ PatReads w' u0 u1 u3 u4 (qP (tx a1) (tx b1))) := Lib.hid fun w1 h1 => by
            rw [hS]
            have := parse_any (bs (printL (quotesP a1 b1))) w1 m h1
            rw [bs_toList, parse_quotes ha.out hb.out] at this
            refine this.mono ?_
            rintro e w' ⟨q1, u0, u1, u3, u4, j, rfl, q2⟩
            exact ⟨q1, _, u0, u1, u3, u4, j, rfl, rfl, q2.reads⟩
          clear hcs hS hr3 ht3
          go_wp2_with (first
            | ((with_reducible refine gate_ (.load 26 (.tmp 5)) rfl ?_); refine load_row_w (by rfl) 26 (.tmp 5) rfl w.heap.size rfl 26 cs (0, 0) _ hq3.out hu2 rfl hsz.out ?_)
            | (go_at_call 4; refine HPR.out.mono ?_; rintro e w4 ⟨rfl, hx⟩; have hq4 := Aside0.mk (blk_below hq3.out hx); have hb4 := Aside0.mk (below_step hb3.out hx); have hs4 := Aside0.mk hx; clear hx)
            | (go_at_call 5; refine (HPA.out _ (glob_up hb4.out HM.out)).mono ?_; rintro e w5 ⟨hx, c2, u0, u1, u3, u4, j, hc2, rfl, hu⟩; have HC2 := Lib.hid hc2; have hsz2 := Lib.hid (show (Tryd.prog.info? 26).map (·.size) = some c2.size by rw [hc2]; exact sizePat); have hone2 := Lib.hid (show ∀ q ∈ c2.toList, q.oneCell' = true by rw [hc2]; exact one_pat _ _ _ _ _); have HU := Lib.hid hu; have hq5 := Aside0.mk (blk_below hq4.out hx); have hb5 := Aside0.mk (below_step hb4.out hx); have hs5 := Aside0.mk (below_step hs4.out hx); clear hx hc2 hu)
            | ((with_reducible refine gate_ (.store 26 (.tmp 8) (.tmp 42)) rfl ?_); refine store_blk rfl rfl 26 (.tmp 8) (.tmp 42) rfl (.agg c2) c2.toList rfl rfl rfl hsz2.out hone2.out (blk_new w5 _) (by rw [HC2.out]; exact Nat.le_refl 17) c2 (by rw [HC2.out]; simp) ?_; intro w6 hx ho; have hn6 := Aside0.mk hx; have hw6 := Aside0.mk (ho.below (below_alloc (Below.refl w5.heap.size w5) _) (Nat.le_refl _)); have hq6 := Aside0.mk (blk_below hq5.out hw6.out); have hb6 := Aside0.mk (below_step hb5.out hw6.out); have hs6 := Aside0.mk (below_step hs5.out hw6.out); clear hx ho)
            | ((with_reducible refine gate_ (.load 26 (.tmp 8)) rfl ?_); refine load_row_w (by rfl) 26 (.tmp 8) rfl w5.heap.size rfl 26 c2 (0, 0) _ hn6.out hu2 rfl hsz2.out ?_)
            | ((with_reducible refine gate_ (.load 26 (.tmp 5)) rfl ?_); refine load_row_w (by rfl) 26 (.tmp 5) rfl w.heap.size rfl 26 cs (0, 0) _ hq6.out hu2 rfl hsz.out ?_)
            | (go_at_call 6; refine (show Calls Tryd.prog 6 #[.agg c2, .agg cs] w6 (fun e w' => e = .returned (.bool true) ∧ Below w6.heap.size w6 w') from by rw [HC2.out, HC.out]; exact same_any u0 u1 u3 u4 s0 s1 zSl zSl (qP (tx a1) (tx b1)) w6 (HU.out.below hw6.out) (HR.out.below hs6.out) (tx_len a1) (tx_len b1) (Nat.zero_le _) (Nat.zero_le _)).mono ?_; rintro e w7 ⟨rfl, hx⟩; have hb7 := Aside0.mk (below_step hb6.out hx); clear hx)
            | (go_at_call 7; refine (awake_any _ m (glob_up hb7.out HM.out)).mono ?_; rintro e w8 ⟨rfl, hx⟩; have hb8 := Aside0.mk (below_step hb7.out hx); clear hx))
          go_ret
          exact ⟨rfl, hb8.out⟩
end Go.Proofs.YtjpdakepfmepnaaDoor

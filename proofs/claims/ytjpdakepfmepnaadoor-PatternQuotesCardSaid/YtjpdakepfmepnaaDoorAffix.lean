/- The walk of pattern.affix: the pieces from a place on. -/
import Derived.Test.YtjpdakepfmepnaaDoorAdd
import Derived.Test.YtjpdakepfmepnaaDoorAffLaw
namespace Go.Proofs.YtjpdakepfmepnaaDoor
open Go.RowKit Go.Proofs.YtjpdakepfmepnaaDoorW.PrintWords Pat
set_option linter.unusedVariables false
set_option linter.unusedSimpArgs false

theorem digit_two (c : UInt8) : digit c = (decide (48 ≤ (c.toNat : Int)) && decide ((c.toNat : Int) ≤ 57)) := by
  unfold digit
  rw [Bool.eq_iff_iff]; simp [UInt8.le_iff_toNat_le]; omega
theorem digit_any (c : UInt8) (w : World) : Calls Tryd.prog 38 #[.int .u8 c.toNat] w fun e w' => e = .returned (.bool (digit c)) ∧ w = w' := by
  rw [digit_two c]
  have h0 : 0 ≤ (c.toNat : Int) := by omega
  by_cases h : 48 ≤ (c.toNat : Int)
  · have b : decide (48 ≤ (c.toNat : Int)) = true := decide_eq_true h
    by_cases h2 : (c.toNat : Int) ≤ 57
    · have b2 : decide ((c.toNat : Int) ≤ 57) = true := decide_eq_true h2
      go_enter Tryd.func38, Tryd.ntmps38
      go_wp2
      go_ret
      exact ⟨by simp [b, b2], rfl⟩
    · have b2 : decide ((c.toNat : Int) ≤ 57) = false := decide_eq_false h2
      go_enter Tryd.func38, Tryd.ntmps38
      go_wp2
      go_ret
      exact ⟨by simp [b, b2], rfl⟩
  · have b : decide (48 ≤ (c.toNat : Int)) = false := decide_eq_false h
    go_enter Tryd.func38, Tryd.ntmps38
    go_wp2
    go_ret
    exact ⟨by simp [b], rfl⟩

def stopAt (c : UInt8) : Int := Lib.indexByte [35, 44, 46, 64, 42, 59] c
theorem stop_index (c : UInt8) : stop c = (digit c || decide (0 ≤ stopAt c)) := by
  unfold stop stopAt
  simp only [Bool.or_assoc]
  congr 1
  by_cases h1 : c = 35
  · subst h1; decide
  by_cases h2 : c = 44
  · subst h2; decide
  by_cases h3 : c = 46
  · subst h3; decide
  by_cases h4 : c = 64
  · subst h4; decide
  by_cases h5 : c = 42
  · subst h5; decide
  by_cases h6 : c = 59
  · subst h6; decide
  have e1 : (35 == c) = false := beq_eq_false_iff_ne.mpr (Ne.symm h1)
  have e2 : (44 == c) = false := beq_eq_false_iff_ne.mpr (Ne.symm h2)
  have e3 : (46 == c) = false := beq_eq_false_iff_ne.mpr (Ne.symm h3)
  have e4 : (64 == c) = false := beq_eq_false_iff_ne.mpr (Ne.symm h4)
  have e5 : (42 == c) = false := beq_eq_false_iff_ne.mpr (Ne.symm h5)
  have e6 : (59 == c) = false := beq_eq_false_iff_ne.mpr (Ne.symm h6)
  simp [Lib.indexByte, h1, h2, h3, h4, h5, h6, e1, e2, e3, e4, e5, e6]
theorem indexByte_any (c : UInt8) (w : World) : Calls Tryd.prog 39 #[.string ⟨#[35, 44, 46, 64, 42, 59]⟩, .int .u8 c.toNat] w fun e w' => e = .returned (.int .i64 (stopAt c)) ∧ w = w' := by
  refine (Tryd.strings_IndexByte _ _ _).mono fun e w' h => ⟨?_, h.2.symm⟩
  have hc : ((c.toNat : Int).toNat).toUInt8 = c := by simp
  rw [h.1, hc]; rfl

/-! #### what the loop is about -/
structure ARel (s : ByteArray) (i : Nat) (l : List Aff) (k : Nat) : Prop where
  same : affS (s.data.toList.drop k) l = affS (s.data.toList.drop i) []
  le : k ≤ s.size
  small : Small l k
theorem ARel.start {s : ByteArray} {i : Nat} (h : i ≤ s.size) : ARel s i [] i := ⟨rfl, h, Small.nil _⟩
theorem dl {s : ByteArray} {k : Nat} : (s.data.toList.drop k).length = s.size - k := by rw [List.length_drop, data_length]
section
variable {s : ByteArray} {i k : Nat} {l : List Aff} {c : UInt8}
theorem ARel.stopped (h : ARel s i l k) (hk : k = s.size) : affS (s.data.toList.drop i) [] = some (l, []) := by
  rw [← h.same, List.drop_eq_nil_of_le (by rw [data_length]; omega), affS_nil]
theorem ARel.noquote (h : ARel s i l k) (hc : s.data.toList[k]? = some c) (hn : (c.toNat : Int) = 39) (hq : quoteS (s.data.toList.drop k) = none) : affS (s.data.toList.drop i) [] = none := by
  rw [← h.same]
  rw [drop_at hc, eq39 hn] at hq ⊢
  rw [affS_quote, hq]
theorem ARel.quote {t q : List UInt8} (h : ARel s i l k) (hc : s.data.toList[k]? = some c) (hn : (c.toNat : Int) = 39) (hq : quoteS (s.data.toList.drop k) = some (t, q)) : ARel s i (addS l ⟨1, t, 0⟩) (k + (s.size - k - q.length)) := by
  have hlt : k < s.size := by
    obtain ⟨h', _⟩ := List.getElem?_eq_some_iff.mp hc
    rw [data_length] at h'; exact h'
  have h1 := quoteS_text hq
  have h2 := quoteS_len hq (by rw [drop_at hc]; simp)
  have h3 := quoteS_drop hq
  rw [dl] at h1 h2 h3
  rw [List.drop_drop] at h3
  refine ⟨?_, by omega, ?_⟩
  · rw [← h.same, ← h3]
    have hq2 := hq
    rw [drop_at hc, eq39 hn] at hq2 ⊢
    rw [affS_quote, hq2]
  · exact h.small.add (by simp only; omega) (by omega) (fun x => absurd x (by simp)) (fun _ => rfl) (by rw [h.small.lastText]; decide)
theorem ARel.lt (hc : s.data.toList[k]? = some c) : k < s.size := by
  obtain ⟨h', _⟩ := List.getElem?_eq_some_iff.mp hc
  rw [data_length] at h'; exact h'
theorem ARel.nosign {a : Aff} {n : Nat} (h : ARel s i l k) (hc : s.data.toList[k]? = some c) (hn : ¬ (c.toNat : Int) = 39) (hq : signS (s.data.toList.drop k) = some (a, n)) (h3 : lastN (addS l a) > 3) : affS (s.data.toList.drop i) [] = none := by
  rw [← h.same]
  rw [drop_at hc] at hq ⊢
  rw [affS_other (ne39 hn), hq]
  simp only [if_pos h3]
theorem ARel.sign {a : Aff} {n : Nat} (h : ARel s i l k) (hc : s.data.toList[k]? = some c) (hn : ¬ (c.toNat : Int) = 39) (hq : signS (s.data.toList.drop k) = some (a, n)) (h3 : ¬ lastN (addS l a) > 3) : ARel s i (addS l a) (k + n) := by
  have h1 := signS_text hq
  have h2 := signS_pos hq
  have hlt := ARel.lt hc
  rw [dl] at h1
  refine ⟨?_, by omega, h.small.add (by rw [h1.1]; simp) (by omega) h1.2.2.1 h1.2.2.2 h3⟩
  rw [← h.same]
  rw [← List.drop_drop]
  rw [drop_at hc] at hq ⊢
  rw [affS_other (ne39 hn), hq]
  simp only [if_neg h3]
theorem ARel.stop (h : ARel s i l k) (hc : s.data.toList[k]? = some c) (hn : ¬ (c.toNat : Int) = 39) (hq : signS (s.data.toList.drop k) = none) (hs : stop c = true) : affS (s.data.toList.drop i) [] = some (l, s.data.toList.drop k) := by
  rw [← h.same]
  rw [drop_at hc] at hq ⊢
  rw [affS_other (ne39 hn), hq]
  simp only [hs, if_true]
theorem ARel.text (h : ARel s i l k) (hc : s.data.toList[k]? = some c) (hn : ¬ (c.toNat : Int) = 39) (hq : signS (s.data.toList.drop k) = none) (hs : Pat.stop c = false) : ARel s i (addS l ⟨1, [c], 0⟩) (k + 1) := by
  have hlt := ARel.lt hc
  refine ⟨?_, by omega, h.small.add (by simp) (by omega) (fun x => absurd x (by simp)) (fun _ => rfl) (by rw [h.small.lastText]; decide)⟩
  rw [← h.same]
  rw [drop_at hc] at hq ⊢
  rw [affS_other (ne39 hn), hq]
  simp [hs]
end
theorem ext_drop (s : ByteArray) (k : Nat) : (s.extract k s.size).data.toList = s.data.toList.drop k := by
  rw [Lib.extract_data, List.take_of_length_le (by rw [dl]; omega)]
theorem ext_size (s : ByteArray) (k : Nat) : (s.extract k s.size).size = s.size - k := by rw [ByteArray.size_extract]; omega
theorem quote_at {s : ByteArray} {k : Nat} {t : List UInt8} {n : Nat} (hs : s.size ≤ 1048576) (h : quoteR (s.data.toList.drop k) = (t, n)) (w : World) :
    Calls Tryd.prog 35 #[.string (s.extract k s.size)] w fun e w' => e = .returned (.tuple #[.string (bs t), .int .i64 n]) ∧ Below w.heap.size w w' := by
  have h0 := quote_any (s.extract k s.size) w (by rw [ext_size]; omega)
  rw [ext_drop, h] at h0
  exact h0
theorem sign_at {s : ByteArray} {k : Nat} {a : Aff} {n : Nat} (h : signR (s.data.toList.drop k) = (a, n)) (w : World) :
    Calls Tryd.prog 37 #[.string (s.extract k s.size)] w fun e w' => e = .returned (.tuple #[affV a, .int .i64 n]) ∧ Below w.heap.size w w' := by
  have h0 := sign_any (s.extract k s.size) w
  rw [ext_drop, h] at h0
  exact h0

/-- What affix hands back: the pieces in new memory and where they end; or that something can't stand there. -/
def AffPost (s : ByteArray) (w : World) (r : Option (List Aff × List UInt8)) (e : Ending) (w' : World) : Prop :=
  Below w.heap.size w w' ∧ match r with
    | none => ∃ j : Int, e = .returned (.tuple #[.slice none 0 0, .int .i64 j, .bool false])
    | some (l, q) => ∃ v, e = .returned (.tuple #[v, .int .i64 ((s.size - q.length : Nat) : Int), .bool true]) ∧ Kd.R kA 28 w' w.heap.size (fun _ => True) v l
theorem AffPost.no {s : ByteArray} {w w' : World} {r : Option (List Aff × List UInt8)} {j : Int} (hr : r = none) (hb : Below w.heap.size w w') : AffPost s w r (.returned (.tuple #[.slice none 0 0, .int .i64 j, .bool false])) w' := by
  subst hr
  exact ⟨hb, j, rfl⟩
theorem AffPost.yes {s : ByteArray} {w w' : World} {r : Option (List Aff × List UInt8)} {l : List Aff} {v : Value} {k : Nat} (hk : k ≤ s.size) (hr : r = some (l, s.data.toList.drop k)) (hb : Below w.heap.size w w') (ho : Kd.R kA 28 w' w.heap.size (fun _ => True) v l) : AffPost s w r (.returned (.tuple #[v, .int .i64 k, .bool true])) w' := by
  subst hr
  refine ⟨hb, v, ?_, ho⟩
  rw [dl, show s.size - (s.size - k) = k from by omega]

theorem ext_one {s : ByteArray} {k : Nat} {c : UInt8} (hc : s.data.toList[k]? = some c) : s.extract k (k + 1) = bs [c] := by
  have h1 : (s.extract k (k + 1)).data.toList = [c] := by
    rw [Lib.extract_data, drop_at hc, show k + 1 - k = 1 from by omega]; rfl
  rw [← bs_data (s.extract k (k + 1)), h1]
/-- The last piece's number, as the walk reads it. -/
theorem last_n {l : List Aff} {a : Aff} {v : Value} {base : Nat} {w : World} (hO : Kd.R kA 28 w base (fun _ => True) v (addS l a)) :
    ∃ L m g cap, v = .slice (some ⟨g, 0, none⟩) (L + 1) cap ∧ base ≤ g ∧ g < w.heap.size ∧ w.cell? ⟨g, L * 3 + 2, none⟩ = some (.int .i64 m) ∧ m = lastN (addS l a) ∧ L ≤ l.length := by
  obtain ⟨L, ⟨k, x, n⟩, hL⟩ := addS_ne l a
  have hlen := addS_len l a
  rw [hL] at hO hlen ⊢
  obtain ⟨g, cap, hv, hg0, hg1, _, _, d2, _⟩ := last_cells hO
  exact ⟨L.length, n, g, cap, hv, hg0, hg1, d2, by rw [lastN_snoc], by simp at hlen; omega⟩

set_option maxHeartbeats 4000000 in
set_option maxRecDepth 100000 in
theorem affix_any (s : ByteArray) (i : Nat) (w : World) (hs : s.size ≤ 1048576) (hi : i ≤ s.size) :
    Calls Tryd.prog 24 #[.string s, .int .i64 i] w (AffPost s w (affS (s.data.toList.drop i) [])) := by
  go_enter Tryd.func24, Tryd.ntmps24
  go_wp2
  go_loopw [1, 4] (fun v1 v4 w' => ∃ (l : List Aff) (k : Nat), v1 = .int .i64 k ∧ Aside0 (ARel s i l k) ∧ Aside0 (Kd.R kA 28 w' w.heap.size (fun _ => True) v4 l) ∧ Aside0 (Below w.heap.size w w')) (fun v1 _ _ => s.size + 1 - (intOf v1).toNat)
  case atStart => exact ⟨[], i, rfl, ⟨ARel.start hi⟩, ⟨Kd.R_nil _ _ _ _ _⟩, ⟨Below.refl _ _⟩⟩
  case round =>
    obtain ⟨l, k, rfl, hA, hO, hB⟩ := hrel
    have hk := hA.out.le
    have hlen := hA.out.small.len
    by_cases hlt : k < s.size
    · obtain ⟨c, hc0, hx⟩ := byte_at s k hlt
      have hc := Lib.hid hc0
      clear hc0
      by_cases h39 : (c.toNat : Int) = 39
      · have b1 : ((c.toNat : Int) == 39) = true := beq_iff_eq.mpr h39
        rcases hq : quoteS (s.data.toList.drop k) with _ | ⟨t, q⟩
        · have hR := Lib.hid (hA.out.noquote hc.out h39 hq)
          have hC := Lib.hid (show quoteR (s.data.toList.drop k) = ([], 0) by simp [quoteR, hq])
          clear h39 hq
          go_wp2_with (go_at_call 35; refine (quote_at hs hC.out _).mono ?_; rintro e w1 ⟨rfl, hb1⟩)
          go_ret3
          exact AffPost.no hR.out (below_step hB.out hb1)
        · have hA2 := Aside0.mk (hA.out.quote hc.out h39 hq)
          have hlq := quoteS_len hq (by rw [drop_at hc.out]; simp)
          have htq := quoteS_text hq
          rw [dl] at hlq htq
          obtain ⟨n, hn⟩ : ∃ n, s.size - k - q.length = n := ⟨_, rfl⟩
          have hC := Lib.hid (show quoteR (s.data.toList.drop k) = (t, n) by simp [quoteR, hq, data_length]; omega)
          rw [hn] at hA2
          have hn0 : 0 < n := by omega
          have hn1 : n ≤ s.size - k := by omega
          have bn : ((n : Int) == 0) = false := beq_eq_false_iff_ne.mpr (by omega)
          clear h39 hq hn
          have hzt : ∀ b ∈ l, b.text.length + t.length ≤ 1073741824 := fun b hb => by have := hA.out.small.text b hb; omega
          have hZ := Lib.hid hzt
          clear hzt
          go_wp2_with (first
            | (go_at_call 35; refine (quote_at hs hC.out _).mono ?_; rintro e w1 ⟨rfl, hb1⟩)
            | (go_at_call 36; refine (add_any l ⟨1, t, 0⟩ u4 w _ (Kd.R_below hO.out hb1) (below_step hB.out hb1) (by omega) hZ.out (fun b hb _ => ⟨(hA.out.small.num b hb).1, (hA.out.small.num b hb).2.1⟩) (fun x => absurd x (by simp))).mono ?_; rintro e w2 ⟨v2, rfl, hR2, hB2⟩; have HR2 := Aside0.mk hR2; have HB2 := Aside0.mk hB2; clear hR2 hB2))
          go_roundw
          case rel => exact ⟨_, k + n, by go_num, hA2, HR2, HB2⟩
          case measure => simp [intOf]; omega
      · have b1 : ((c.toNat : Int) == 39) = false := beq_eq_false_iff_ne.mpr h39
        rcases hq : signS (s.data.toList.drop k) with _ | ⟨a, n⟩
        · have hC := Lib.hid (show signR (s.data.toList.drop k) = (⟨0, [], 0⟩, 0) by simp [signR, hq])
          by_cases hst : Pat.stop c = true
          · have hR := Lib.hid (hA.out.stop hc.out h39 hq hst)
            have hsi := stop_index c
            rw [hst] at hsi
            by_cases hd : digit c = true
            · clear h39 hq hst hsi
              go_wp2_with (first
                | (go_at_call 37; refine (sign_at hC.out _).mono ?_; rintro e w1 ⟨rfl, hb1⟩)
                | (go_at_call 38; refine (digit_any c _).mono ?_; rintro e w2 ⟨rfl, rfl⟩))
              go_ret3
              exact AffPost.yes hk hR.out ((below_step hB.out hb1).alloc (by have := hB.out.size; have := hb1.size; omega) _) (Kd.R_alloc (Kd.R_below hO.out hb1) _)
            · have hd2 := Bool.eq_false_iff.mpr hd
              rw [hd2, Bool.false_or] at hsi
              have hs2 : decide (0 ≤ stopAt c) = true := hsi.symm
              clear h39 hq hst hsi hd
              go_wp2_with (first
                | (go_at_call 37; refine (sign_at hC.out _).mono ?_; rintro e w1 ⟨rfl, hb1⟩)
                | (go_at_call 38; refine (digit_any c _).mono ?_; rintro e w2 ⟨rfl, rfl⟩)
                | (go_at_call 39; refine (indexByte_any c _).mono ?_; rintro e w2 ⟨rfl, rfl⟩))
              go_ret3
              exact AffPost.yes hk hR.out ((below_step hB.out hb1).alloc (by have := hB.out.size; have := hb1.size; omega) _) (Kd.R_alloc (Kd.R_below hO.out hb1) _)
          · have hst := Bool.eq_false_iff.mpr hst
            have hA2 := Aside0.mk (hA.out.text hc.out h39 hq hst)
            have hsi := stop_index c
            rw [hst] at hsi
            have hd : digit c = false := by revert hsi; cases digit c <;> simp
            rw [hd, Bool.false_or] at hsi
            have hs2 : decide (0 ≤ stopAt c) = false := hsi.symm
            clear h39 hq hst hsi
            have hzt : ∀ b ∈ l, b.text.length + [c].length ≤ 1073741824 := fun b hb => by have := hA.out.small.text b hb; simp; omega
            have hZ := Lib.hid hzt
            have hsx := Lib.hid (ext_one hc.out)
            clear hzt
            go_wp2_with (first
              | (go_at_call 37; refine (sign_at hC.out _).mono ?_; rintro e w1 ⟨rfl, hb1⟩)
              | (go_at_call 38; refine (digit_any c _).mono ?_; rintro e w2 ⟨rfl, rfl⟩)
              | (go_at_call 39; refine (indexByte_any c _).mono ?_; rintro e w2 ⟨rfl, rfl⟩)
              | (go_at_call 36; rw [hsx.out]; refine (add_any l ⟨1, [c], 0⟩ u4 w _ (Kd.R_alloc (Kd.R_below hO.out hb1) _) ((below_step hB.out hb1).alloc (by have := hB.out.size; have := hb1.size; omega) _) (by omega) hZ.out (fun b hb _ => ⟨(hA.out.small.num b hb).1, (hA.out.small.num b hb).2.1⟩) (fun x => absurd x (by simp))).mono ?_; rintro e w2 ⟨v2, rfl, hR2, hB2⟩; have HR2 := Aside0.mk hR2; have HB2 := Aside0.mk hB2; clear hR2 hB2))
            go_roundw
            case rel => exact ⟨_, k + 1, by go_num, hA2, HR2, HB2⟩
            case measure => simp [intOf]; omega
        · have hC := Lib.hid (show signR (s.data.toList.drop k) = (a, n) by simp [signR, hq])
          have hst := signS_text hq
          have hn0 := signS_pos hq
          rw [dl] at hst
          have hn1 : n ≤ s.size - k := hst.2.1
          have ha := Lib.hid hst
          clear hst
          have hzt : ∀ b ∈ l, b.text.length + a.text.length ≤ 1073741824 := fun b hb => by have := hA.out.small.text b hb; rw [ha.out.1]; simp; omega
          have hZ := Lib.hid hzt
          have hq0 := Lib.hid hq
          have h390 := Lib.hid h39
          clear hzt hq h39
          have b2 : decide (0 < (n : Int)) = true := decide_eq_true (by omega)
          by_cases h3 : lastN (addS l a) > 3
          · have hR := Lib.hid (hA.out.nosign hc.out h390.out hq0.out h3)
            have h30 := Lib.hid h3
            clear h3
            go_wp2_with (first
              | (go_at_call 37; refine (sign_at hC.out _).mono ?_; rintro e w1 ⟨rfl, hb1⟩)
              | (go_at_call 36; refine (add_any l a u4 w _ (Kd.R_alloc (Kd.R_below hO.out hb1) _) ((below_step hB.out hb1).alloc (by have := hB.out.size; have := hb1.size; omega) _) (by omega) hZ.out (fun b hb _ => ⟨(hA.out.small.num b hb).1, (hA.out.small.num b hb).2.1⟩) (fun x => by rw [ha.out.2.2.1 x]; omega)).mono ?_; rintro e w2 ⟨v2, rfl, hR2, hB2⟩; have HR2 := Aside0.mk hR2; have HB2 := Aside0.mk hB2; clear hR2 hB2; obtain ⟨L, m, g, cap, hv2, hg0, hg1, d2, hm, hLl⟩ := last_n HR2.out; subst hv2; have b3 : decide (3 < m) = true := decide_eq_true (hm ▸ h30.out); clear hm))
            go_ret3
            exact AffPost.no hR.out HB2.out
          · have hA2 := Aside0.mk (hA.out.sign hc.out h390.out hq0.out h3)
            have h30 := Lib.hid h3
            clear h3
            go_wp2_with (first
              | (go_at_call 37; refine (sign_at hC.out _).mono ?_; rintro e w1 ⟨rfl, hb1⟩)
              | (go_at_call 36; refine (add_any l a u4 w _ (Kd.R_alloc (Kd.R_below hO.out hb1) _) ((below_step hB.out hb1).alloc (by have := hB.out.size; have := hb1.size; omega) _) (by omega) hZ.out (fun b hb _ => ⟨(hA.out.small.num b hb).1, (hA.out.small.num b hb).2.1⟩) (fun x => by rw [ha.out.2.2.1 x]; omega)).mono ?_; rintro e w2 ⟨v2, rfl, hR2, hB2⟩; have HR2 := Aside0.mk hR2; have HB2 := Aside0.mk hB2; clear hR2 hB2; obtain ⟨L, m, g, cap, hv2, hg0, hg1, d2, hm, hLl⟩ := last_n HR2.out; subst hv2; have b3 : decide (3 < m) = false := decide_eq_false (by have hx3 := h30.out; omega); clear hm))
            go_roundw
            case rel => exact ⟨_, k + n, by go_num, hA2, HR2, HB2⟩
            case measure => simp [intOf]; omega
    · go_wp2
      go_ret3
      exact AffPost.yes hk (by rw [hA.out.stopped (by omega), List.drop_eq_nil_of_le (by rw [data_length]; omega)]) hB.out hO.out
end Go.Proofs.YtjpdakepfmepnaaDoor

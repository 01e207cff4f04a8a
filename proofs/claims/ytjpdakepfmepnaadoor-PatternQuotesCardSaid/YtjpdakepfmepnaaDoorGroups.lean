/- The walk of pattern.groups: the sizes of the groups. -/
import Derived.Test.YtjpdakepfmepnaaDoorQuote
namespace Go.Proofs.YtjpdakepfmepnaaDoor
open Go.RowKit Go.Proofs.YtjpdakepfmepnaaDoorW.PrintWords Pat
set_option linter.unusedVariables false
set_option linter.unusedSimpArgs false

theorem splitL_ne (l : List UInt8) : splitL l ≠ [] := by
  cases l with
  | nil => simp [splitL]
  | cons c r =>
    unfold splitL
    split
    · simp
    · split <;> simp
theorem splitL_free {l : List UInt8} (h : 44 ∉ l) : splitL l = [l] := by
  induction l with
  | nil => rfl
  | cons c r ih =>
    rw [List.mem_cons, not_or] at h
    unfold splitL
    rw [if_neg (Ne.symm h.1), ih h.2]
theorem splitL_first {a r : List UInt8} (h : 44 ∉ a) : splitL (a ++ 44 :: r) = a :: splitL r := by
  induction a with
  | nil => simp [splitL]
  | cons c q ih =>
    rw [List.mem_cons, not_or] at h
    rw [List.cons_append, splitL, if_neg (Ne.symm h.1), ih h.2]
theorem occ44 (l : List UInt8) (i : Nat) : Lib.occAt l [44] i = (l[i]? == some 44) := by
  unfold Lib.occAt
  by_cases h : i < l.length
  · rw [List.drop_eq_getElem_cons h, List.getElem?_eq_getElem h]
    generalize l[i] = x
    by_cases hx : x = 44
    · subst hx; rfl
    · have h1 : ((44 : UInt8) == x) = false := beq_eq_false_iff_ne.mpr (Ne.symm hx)
      have h2 : (x == (44 : UInt8)) = false := beq_eq_false_iff_ne.mpr hx
      simp [List.isPrefixOf, h1, h2]
  · rw [List.drop_eq_nil_of_le (by omega), List.getElem?_eq_none (by omega)]
    rfl
theorem splitK_eq : ∀ (n : Nat) (l : List UInt8), l.length ≤ n → Lib.splitK [44] 0 (Lib.count l [44]) l = splitL l := by
  intro n
  induction n with
  | zero =>
    intro l hl
    obtain rfl := List.eq_nil_of_length_eq_zero (by omega : l.length = 0)
    rfl
  | succ n ih =>
    intro l hl
    rcases Lib.index_spec l [44] with ⟨h, hno⟩ | ⟨i, h, hi, hocc, hno⟩
    · rw [Lib.count_miss h]
      have hfree : 44 ∉ l := by
        intro hm
        obtain ⟨j, hj, he⟩ := List.mem_iff_getElem.mp hm
        have := hno j (by omega)
        rw [occ44, List.getElem?_eq_getElem hj, he] at this
        simp at this
      rw [splitL_free hfree]; rfl
    · rw [Lib.count_hit (by simp) h, Nat.add_comm, Lib.splitK, if_neg (by rw [h]; simp), h]
      have h44 : l[i]? = some 44 := by rw [occ44] at hocc; simpa using hocc
      obtain ⟨hlt, _⟩ := List.getElem?_eq_some_iff.mp h44
      have hl2 : l = l.take i ++ 44 :: l.drop (i + 1) := by
        rw [← drop_at h44, List.take_append_drop]
      have hfree : 44 ∉ l.take i := by
        intro hm
        obtain ⟨j, hj, he⟩ := List.mem_iff_getElem.mp hm
        rw [List.length_take] at hj
        have := hno j (by omega)
        rw [occ44, List.getElem?_eq_getElem (by omega)] at this
        rw [List.getElem_take] at he
        rw [he] at this
        simp at this
      have e1 : (i : Int).toNat = i := by omega
      simp only [e1, Nat.add_zero, List.length_cons, List.length_nil, Nat.zero_add]
      rw [ih (l.drop (i + 1)) (by rw [List.length_drop]; omega)]
      conv => rhs; rw [hl2]
      rw [splitL_first hfree]
theorem split_strings (s : ByteArray) : (Lib.splitB ⟨#[44]⟩ 0 (Lib.countB s ⟨#[44]⟩) s).map (·.data.toList) = splitL s.data.toList := by
  rw [Lib.splitB_data]
  exact splitK_eq _ _ (Nat.le_refl _)

theorem split_count (s : ByteArray) : (Lib.splitB ⟨#[44]⟩ 0 (Lib.countB s ⟨#[44]⟩) s).length = Lib.countB s ⟨#[44]⟩ + 1 := Lib.splitB_all ⟨#[44]⟩ (by decide) 0 _ s rfl
/-- Split, one piece. -/
theorem split_one {s a : ByteArray} (h : Lib.splitB ⟨#[44]⟩ 0 (Lib.countB s ⟨#[44]⟩) s = [a]) (w : World) (m : Int) (hs : s.size ≤ 1048576) (hm : w.cell? ⟨0, 0, none⟩ = some (.int .i64 m)) :
    Calls Tryd.prog 61 #[.string s, .string ⟨#[44]⟩] w fun e w' => e = .returned (.slice (some ⟨w.heap.size, 0, none⟩) 1 1) ∧ Below w.heap.size w w' := by
  have hc := split_count s
  rw [h] at hc
  have hc0 : Lib.countB s ⟨#[44]⟩ = 0 := by simpa using hc.symm
  refine (Tryd.strings_Split s ⟨#[44]⟩ m w (by omega) hm (by decide)).mono fun e w' hp => ⟨?_, ?_⟩
  · rw [hp.1, hc0]
  · rw [hp.2]; exact below_alloc (Below.refl _ _) _
/-- Split, two pieces or more. -/
theorem split_two {s a b : ByteArray} {Q : List ByteArray} (h : Lib.splitB ⟨#[44]⟩ 0 (Lib.countB s ⟨#[44]⟩) s = Q ++ [b, a]) (w : World) (m : Int) (hs : s.size ≤ 1048576) (hm : w.cell? ⟨0, 0, none⟩ = some (.int .i64 m)) :
    Calls Tryd.prog 61 #[.string s, .string ⟨#[44]⟩] w fun e w' => e = .returned (.slice (some ⟨w.heap.size, 0, none⟩) (Q.length + 2) (Q.length + 2)) ∧ Below w.heap.size w w' ∧ w'.cell? ⟨w.heap.size, Q.length + 1, none⟩ = some (.string a) ∧ w'.cell? ⟨w.heap.size, Q.length, none⟩ = some (.string b) := by
  have hc := split_count s
  rw [h] at hc
  have hc0 : Lib.countB s ⟨#[44]⟩ = Q.length + 1 := by simp at hc; omega
  refine (Tryd.strings_Split s ⟨#[44]⟩ m w (by omega) hm (by decide)).mono fun e w' hp => ⟨?_, ?_, ?_, ?_⟩
  · rw [hp.1, hc0]
  · rw [hp.2]; exact below_alloc (Below.refl _ _) _
  · rw [hp.2, h]
    rw [blk_cell (blk_new w _)]
    simp
  · rw [hp.2, h]
    rw [blk_cell (blk_new w _)]
    simp

set_option maxHeartbeats 2000000 in
set_option maxRecDepth 100000 in
theorem groups_any (s : ByteArray) (w : World) (m : Int) (hs : s.size ≤ 1048576) (hm : w.cell? ⟨0, 0, none⟩ = some (.int .i64 m)) :
    Calls Tryd.prog 43 #[.string s] w fun e w' => e = .returned (.tuple #[.int .i64 ((groupsS s.data.toList).1 : Nat), .int .i64 ((groupsS s.data.toList).2 : Nat)]) ∧ Below w.heap.size w w' := by
  have hd := split_strings s
  have hlen := split_count s
  rcases hL : (Lib.splitB ⟨#[44]⟩ 0 (Lib.countB s ⟨#[44]⟩) s).reverse with _ | ⟨a, _ | ⟨b, Q⟩⟩
  · have := congrArg List.length hL
    simp at this; rw [this] at hlen; simp at hlen
  · have h1 : Lib.splitB ⟨#[44]⟩ 0 (Lib.countB s ⟨#[44]⟩) s = [a] := by rw [← List.reverse_reverse (Lib.splitB _ _ _ _), hL]; rfl
    rw [h1] at hd
    have hG : groupsS s.data.toList = (0, 0) := by rw [groupsS, ← hd]; rfl
    rw [hG]
    clear hL hd hlen hG
    have H1 := Lib.hid h1
    clear h1
    go_enter Tryd.func43, Tryd.ntmps43
    go_wp2_with (go_at_call 61; refine (split_one H1.out _ m hs hm).mono ?_; rintro e w1 ⟨rfl, hb1⟩)
    go_ret2
    exact ⟨rfl, hb1⟩
  · have h1 : Lib.splitB ⟨#[44]⟩ 0 (Lib.countB s ⟨#[44]⟩) s = Q.reverse ++ [b, a] := by rw [← List.reverse_reverse (Lib.splitB _ _ _ _), hL]; simp
    rw [h1] at hd hlen
    have hG : groupsS s.data.toList = if Q = [] ∨ b.size = a.size then (a.size, 0) else (a.size, b.size) := by
      rw [groupsS, ← hd]
      simp [groupsP]
    have hq : Q.length ≤ 1048576 := by
      have : Lib.countB s ⟨#[44]⟩ ≤ s.data.toList.length + 1 := Lib.count_le _ _
      rw [data_length] at this
      simp at hlen
      omega
    rw [hG]
    clear hL hd hlen hG
    have H1 := Lib.hid h1
    clear h1
    obtain ⟨q, hq0⟩ : ∃ q, Q.reverse.length = q := ⟨_, rfl⟩
    have hq1 : q ≤ 1048576 := by simp at hq0; omega
    have hQ : Q = [] ↔ q = 0 := by rw [← hq0]; simp
    have HC : ∀ w0 : World, w0.cell? ⟨0, 0, none⟩ = some (.int .i64 m) → Calls Tryd.prog 61 #[.string s, .string ⟨#[44]⟩] w0 fun e w' => e = .returned (.slice (some ⟨w0.heap.size, 0, none⟩) (q + 2) (q + 2)) ∧ Below w0.heap.size w0 w' ∧ w'.cell? ⟨w0.heap.size, q + 1, none⟩ = some (.string a) ∧ w'.cell? ⟨w0.heap.size, q, none⟩ = some (.string b) := by
      intro w0 hm0
      have := split_two H1.out w0 m hs hm0
      rw [hq0] at this
      exact this
    have HS := Lib.hid HC
    clear HC hq0 hq H1
    by_cases hz : q = 0
    · rw [if_pos (.inl (hQ.mpr hz))]
      subst hz
      clear hQ
      go_enter Tryd.func43, Tryd.ntmps43
      go_wp2_with (go_at_call 61; refine (HS.out _ hm).mono ?_; rintro e w1 ⟨rfl, hb1, c1, c0⟩)
      go_ret2
      exact ⟨rfl, hb1⟩
    · have b1 : ((q : Int) + 1 == 1) = false := beq_eq_false_iff_ne.mpr (by omega)
      by_cases hs2 : b.size = a.size
      · rw [if_pos (.inr hs2)]
        have b2 : ((b.size : Int) == (a.size : Int)) = true := beq_iff_eq.mpr (by omega)
        clear hQ hs2
        go_enter Tryd.func43, Tryd.ntmps43
        go_wp2_with (go_at_call 61; refine (HS.out _ hm).mono ?_; rintro e w1 ⟨rfl, hb1, c1, c0⟩)
        go_ret2
        exact ⟨rfl, hb1⟩
      · rw [if_neg (by rw [hQ, not_or]; exact ⟨hz, hs2⟩)]
        have b2 : ((b.size : Int) == (a.size : Int)) = false := beq_eq_false_iff_ne.mpr (by omega)
        clear hQ hs2
        go_enter Tryd.func43, Tryd.ntmps43
        go_wp2_with (go_at_call 61; refine (HS.out _ hm).mono ?_; rintro e w1 ⟨rfl, hb1, c1, c0⟩)
        go_quiet (fail)
        go_wp2
        go_ret2
        exact ⟨rfl, pw_below_drewN hb1 _⟩
end Go.Proofs.YtjpdakepfmepnaaDoor

/- Cutting off, replacing: the library's contracts as the pattern's reader and printer use them. -/
import Derived.Test.YtjpdakepfmepnaaDoorGroups
namespace Go.Proofs.YtjpdakepfmepnaaDoor
open Go.RowKit Go.Proofs.YtjpdakepfmepnaaDoorW.PrintWords Pat
set_option linter.unusedVariables false
set_option linter.unusedSimpArgs false

theorem occC (x : UInt8) (l : List UInt8) (i : Nat) : Lib.occAt l [x] i = (l[i]? == some x) := by
  unfold Lib.occAt
  by_cases h : i < l.length
  · rw [List.drop_eq_getElem_cons h, List.getElem?_eq_getElem h]
    generalize l[i] = y
    by_cases hx : y = x
    · subst hx; simp [List.isPrefixOf]
    · have h1 : (x == y) = false := beq_eq_false_iff_ne.mpr (Ne.symm hx)
      have h2 : (y == x) = false := beq_eq_false_iff_ne.mpr hx
      simp [List.isPrefixOf, h1, h2]
  · rw [List.drop_eq_nil_of_le (by omega), List.getElem?_eq_none (by omega)]
    rfl
theorem flat_free {x : UInt8} {new l : List UInt8} (h : x ∉ l) : (l.flatMap fun y => if y = x then new else [y]) = l := by
  induction l with
  | nil => rfl
  | cons a q ih =>
    rw [List.mem_cons, not_or] at h
    rw [List.flatMap_cons, if_neg (Ne.symm h.1), ih h.2]; rfl
theorem replK (x : UInt8) (new : List UInt8) : ∀ (n : Nat) (l : List UInt8), l.length ≤ n → Lib.replaceK [x] new (Lib.count l [x]) l = l.flatMap fun y => if y = x then new else [y] := by
  intro n
  induction n with
  | zero =>
    intro l hl
    obtain rfl := List.eq_nil_of_length_eq_zero (by omega : l.length = 0)
    rfl
  | succ n ih =>
    intro l hl
    rcases Lib.index_spec l [x] with ⟨h, hno⟩ | ⟨i, h, hi, hocc, hno⟩
    · rw [Lib.count_miss h]
      have hfree : x ∉ l := by
        intro hm
        obtain ⟨j, hj, he⟩ := List.mem_iff_getElem.mp hm
        have := hno j (by omega)
        rw [occC, List.getElem?_eq_getElem hj, he] at this
        simp at this
      rw [flat_free hfree]; rfl
    · rw [Lib.count_hit (by simp) h, Nat.add_comm, Lib.replaceK_hit _ _ _ _ _ h]
      have h44 : l[i]? = some x := by rw [occC] at hocc; simpa using hocc
      obtain ⟨hlt, _⟩ := List.getElem?_eq_some_iff.mp h44
      have hl2 : l = l.take i ++ x :: l.drop (i + 1) := by
        rw [← drop_at h44, List.take_append_drop]
      have hfree : x ∉ l.take i := by
        intro hm
        obtain ⟨j, hj, he⟩ := List.mem_iff_getElem.mp hm
        rw [List.length_take] at hj
        have := hno j (by omega)
        rw [occC, List.getElem?_eq_getElem (by omega)] at this
        rw [List.getElem_take] at he
        rw [he] at this
        simp at this
      simp only [List.length_cons, List.length_nil, Nat.zero_add]
      rw [ih (l.drop (i + 1)) (by rw [List.length_drop]; omega)]
      conv => rhs; rw [hl2]
      rw [List.flatMap_append, flat_free hfree, List.flatMap_cons, if_pos rfl, List.append_assoc]
theorem replace_one (x : UInt8) (new l : List UInt8) (h : ([x] == new) = false) : Lib.replaceAll l [x] new = l.flatMap fun y => if y = x then new else [y] := by
  unfold Lib.replaceAll Lib.replace Lib.replaceNum
  rw [h, if_neg (by decide), if_pos (.inl (by decide))]
  exact replK x new _ l (Nat.le_refl _)
theorem marks_flat (l : List UInt8) : (l.flatMap fun y => if y = 44 then [] else [y]) = marks l := by
  unfold marks
  induction l with
  | nil => rfl
  | cons a q ih =>
    rw [List.flatMap_cons, ih, List.filter_cons]
    by_cases h : a = 44
    · subst h; rfl
    · have : (a != 44) = true := bne_iff_ne.mpr h
      rw [this, if_neg h]; rfl
theorem suffix_one (l : List UInt8) (x : UInt8) : Lib.hasSuffix l [x] = (l.getLast? == some x) := by
  unfold Lib.hasSuffix List.isSuffixOf
  rw [← List.head?_reverse]
  cases l.reverse with
  | nil => rfl
  | cons a q =>
    show ((x == a) && true) = (a == x)
    rw [Bool.and_true, Bool.eq_iff_iff, beq_iff_eq, beq_iff_eq]
    exact eq_comm
theorem nonzero_false {l : List UInt8} : nonzero l = false ↔ ∀ c ∈ l, c = 48 := by
  unfold nonzero
  rw [List.any_eq_false]
  refine ⟨fun h c hc => ?_, fun h c hc => ?_⟩
  · have := h c hc
    simpa using this
  · simp [h c hc]
theorem dropWhile_all {p : UInt8 → Bool} {l : List UInt8} : l.dropWhile p = [] ↔ ∀ c ∈ l, p c = true := by
  induction l with
  | nil => simp
  | cons a q ih =>
    rw [List.dropWhile_cons]
    cases h : p a with
    | true => simp [h, ih]
    | false => simp [h]
theorem trim_nil (l : List UInt8) : (Lib.trimB l 48 = []) ↔ nonzero l = false := by
  rw [nonzero_false]
  unfold Lib.trimB Lib.trimLeftB Lib.trimRightB
  rw [dropWhile_all]
  refine ⟨fun h c hc => ?_, fun h c hc => ?_⟩
  · by_cases hall : ∀ c ∈ l, c = 48
    · exact hall c hc
    · exfalso
      have hne : l.reverse.dropWhile (· == 48) ≠ [] := by
        intro h0
        rw [dropWhile_all] at h0
        exact hall fun c hc => by have := h0 c (by simpa using hc); simpa using this
      obtain ⟨a, q, haq⟩ : ∃ a q, l.reverse.dropWhile (· == 48) = a :: q := by
        cases h1 : l.reverse.dropWhile (· == 48) with
        | nil => exact absurd h1 hne
        | cons a q => exact ⟨a, q, rfl⟩
      have h2 : (a == 48) = false := by
        have := List.head?_dropWhile_not (· == (48 : UInt8)) l.reverse
        rw [haq] at this
        simpa using this
      have := h a (by rw [haq]; simp)
      rw [h2] at this; cases this
  · have : c ∈ l := by
      have h1 : c ∈ l.reverse.dropWhile (· == 48) := by simpa using hc
      have := (List.dropWhile_sublist _).subset h1
      simpa using this
    rw [h c this]; rfl
theorem hs_any (s : ByteArray) (w : World) (hs : s.size ≤ 1073741824) : Calls Tryd.prog 42 #[.string s, .string ⟨#[44]⟩] w fun e w' => e = .returned (.bool (s.data.toList.getLast? == some 44)) ∧ w = w' :=
  (Tryd.strings_HasSuffix s ⟨#[44]⟩ w (by omega)).mono fun e w' h => ⟨by rw [h.1, suffix_one], h.2.symm⟩
theorem ra_any (s : ByteArray) (m : Int) (w : World) (hs : s.size ≤ 1073741824) (hm : w.cell? ⟨0, 0, none⟩ = some (.int .i64 m)) : Calls Tryd.prog 32 #[.string s, .string ⟨#[44]⟩, .string ⟨#[]⟩] w fun e w' => e = .returned (.string (bs (marks s.data.toList))) ∧ Below w.heap.size w w' := by
  refine (Tryd.strings_ReplaceAll s ⟨#[44]⟩ ⟨#[]⟩ m w (by omega) hm (by decide) ?_).mono fun e w' h => ⟨?_, h.2⟩
  · show s.size + _ * 0 ≤ _; omega
  · rw [h.1]
    show Ending.returned (.string ⟨(Lib.replaceAll s.data.toList [44] []).toArray⟩) = _
    rw [replace_one 44 [] _ rfl, marks_flat]
theorem ra_quote (s : ByteArray) (m : Int) (w : World) (hs : s.size ≤ 1073741824) (hm : w.cell? ⟨0, 0, none⟩ = some (.int .i64 m)) : Calls Tryd.prog 32 #[.string s, .string ⟨#[39]⟩, .string ⟨#[39, 39]⟩] w fun e w' => e = .returned (.string (bs (dbl s.data.toList))) ∧ Below w.heap.size w w' := by
  refine (Tryd.strings_ReplaceAll s ⟨#[39]⟩ ⟨#[39, 39]⟩ m w (by omega) hm (by decide) ?_).mono fun e w' h => ⟨?_, h.2⟩
  · have : Lib.countB s ⟨#[39]⟩ ≤ s.data.toList.length + 1 := Lib.count_le _ _
    rw [data_length] at this
    show s.size + _ * 2 ≤ _; omega
  · rw [h.1]
    show Ending.returned (.string ⟨(Lib.replaceAll s.data.toList [39] [39, 39]).toArray⟩) = _
    rw [replace_one 39 [39, 39] _ rfl]; rfl
theorem tl_any (s : ByteArray) (c : UInt8) (hc : c.toNat < 128) (w : World) : Calls Tryd.prog 44 #[.string s, .string ⟨#[c]⟩] w fun e w' => e = .returned (.string (bs (s.data.toList.dropWhile (· == c)))) ∧ w = w' :=
  (Tryd.strings_TrimLeft_one s c hc w).mono fun e w' h => ⟨h.1, h.2.symm⟩
theorem tr_any (s : ByteArray) (w : World) (hs : s.size ≤ 1073741824) : Calls Tryd.prog 28 #[.string s, .string ⟨#[48]⟩] w fun e w' => e = .returned (.string (bs (Lib.trimB s.data.toList 48))) ∧ ∃ n, w' = w.drewN n := by
  refine (Tryd.strings_Trim_one s 48 (by decide) w (by omega)).mono fun e w' h => ⟨h.1, ?_⟩
  rcases h.2 with rfl | rfl
  · exact ⟨0, rfl⟩
  · exact ⟨1, rfl⟩
end Go.Proofs.YtjpdakepfmepnaaDoor

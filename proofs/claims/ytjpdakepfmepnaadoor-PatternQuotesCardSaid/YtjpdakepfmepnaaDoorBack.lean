/- What is printed of a text is read as that text: plain. -/
import Derived.Test.YtjpdakepfmepnaaDoorSpecial
import Derived.Test.YtjpdakepfmepnaaDoorAffLaw
import Derived.Test.YtjpdakepfmepnaaDoorQuote
namespace Go.Proofs.YtjpdakepfmepnaaDoor
open Go.RowKit Go.Proofs.YtjpdakepfmepnaaDoorW.PrintWords Pat
set_option linter.unusedVariables false
set_option linter.unusedSimpArgs false

theorem dbl_cons (c : UInt8) (r : List UInt8) : dbl (c :: r) = (if c = 39 then [39, 39] else [c]) ++ dbl r := by simp [dbl]
theorem quoteB_dbl : ∀ (a acc t : List UInt8), t.head? ≠ some 39 → quoteB acc (dbl a ++ 39 :: t) = some (acc ++ a, t)
  | [], acc, [], _ => by rw [List.append_nil]; exact quoteB_last acc
  | [], acc, d :: r, h => by rw [List.append_nil]; exact quoteB_close (fun e => h (by rw [e]; rfl))
  | c :: r, acc, t, h => by
    rw [dbl_cons]
    by_cases hc : c = 39
    · subst hc
      rw [if_pos rfl]
      show quoteB acc (39 :: 39 :: (dbl r ++ 39 :: t)) = _
      rw [quoteB_twice, quoteB_dbl r _ t h, List.append_assoc]; rfl
    · rw [if_neg hc]
      show quoteB acc (c :: (dbl r ++ 39 :: t)) = _
      rw [quoteB_other hc, quoteB_dbl r _ t h, List.append_assoc]; rfl
theorem addS_merge (l : List Aff) (x y : List UInt8) : addS (addS l ⟨1, x, 0⟩) ⟨1, y, 0⟩ = addS l ⟨1, x ++ y, 0⟩ := by
  unfold addS
  cases h : l.getLast? with
  | none => simp
  | some b =>
    by_cases hb : b.kind = 1
    · simp [hb, List.append_assoc]
    · simp [hb]
theorem isA39 : isA 39 = false := by decide
theorem special39 (r : List UInt8) : special (39 :: r) = special r := by
  rw [special_cons, isA39, pref_no (by decide) (by decide)]; rfl
theorem quoteS_two (x : List UInt8) : quoteS (39 :: 39 :: x) = some ([39], x) := by simp [quoteS]
theorem quoteS_one {c : UInt8} {x : List UInt8} (h : c ≠ 39) : quoteS (39 :: c :: x) = quoteB [] (c :: x) := by
  unfold quoteS
  have e : ([39, 39] : List UInt8).isPrefixOf (39 :: c :: x) = false := by simp [List.isPrefixOf, Ne.symm h]
  rw [e]; rfl
theorem affS_special : ∀ (a acc : _) (t : List UInt8), a ≠ [] → special a = true → t.head? ≠ some 39 → affS (39 :: (dbl a ++ 39 :: t)) acc = affS t (addS acc ⟨1, a, 0⟩)
  | [], _, _, h, _, _ => absurd rfl h
  | c :: r, acc, t, _, hs, ht => by
    rw [affS_quote, dbl_cons]
    by_cases hc : c = 39
    · subst hc
      rw [special39] at hs
      have hr : r ≠ [] := by rintro rfl; cases hs
      rw [if_pos rfl]
      show (match quoteS (39 :: 39 :: (39 :: (dbl r ++ 39 :: t))) with | none => none | some (t', q) => affS q (addS acc ⟨1, t', 0⟩)) = _
      rw [quoteS_two]
      show affS (39 :: (dbl r ++ 39 :: t)) (addS acc ⟨1, [39], 0⟩) = _
      rw [affS_special r _ t hr hs ht, addS_merge]; rfl
    · rw [if_neg hc]
      show (match quoteS (39 :: c :: (dbl r ++ 39 :: t)) with | none => none | some (t', q) => affS q (addS acc ⟨1, t', 0⟩)) = _
      rw [quoteS_one hc]
      have := quoteB_dbl (c :: r) [] t ht
      rw [dbl_cons, if_neg hc] at this
      rw [show c :: (dbl r ++ 39 :: t) = [c] ++ dbl r ++ 39 :: t from rfl, this]; rfl
/-- What may stand behind a text. -/
def safeT (t : List UInt8) : Prop := t.head? ≠ some 39 ∧ t.head? ≠ some 128 ∧ t.head? ≠ some 164 ∧ t.head? ≠ some 176
theorem pre_perm {c : UInt8} {r t : List UInt8} (ht : safeT t) (h : permille.isPrefixOf (c :: (dbl r ++ t)) = true) : permille.isPrefixOf (c :: r) = true := by
  rw [pm_is] at h ⊢
  obtain ⟨h1, h2, h3, h4⟩ := h
  have u : ∀ (d n : UInt8), d.toNat = n.toNat → d = n := fun d n e => UInt8.toNat_inj.mp e
  cases r with
  | nil =>
    exfalso
    cases t with
    | nil => simp [dbl] at h2
    | cons d q => exact ht.2.1 (by have : d = 128 := u d 128 (by simpa [dbl, atL] using h3); rw [this]; rfl)
  | cons d r =>
    rw [dbl_cons] at h2 h3 h4
    by_cases hd : d = 39
    · exfalso; rw [if_pos hd] at h3; simp [atL] at h3
    · rw [if_neg hd] at h2 h3 h4
      have h3' : d.toNat = 128 := by simpa [atL] using h3
      cases r with
      | nil =>
        exfalso
        cases t with
        | nil => simp [dbl] at h2
        | cons e q => exact ht.2.2.2 (by have : e = 176 := u e 176 (by simpa [dbl, atL] using h4); rw [this]; rfl)
      | cons e r =>
        rw [dbl_cons] at h4
        by_cases he : e = 39
        · exfalso; rw [if_pos he] at h4; simp [atL] at h4
        · rw [if_neg he] at h4
          have h4' : e.toNat = 176 := by simpa [atL] using h4
          exact ⟨h1, by simp, by simpa [atL] using h3', by simpa [atL] using h4'⟩
theorem pre_money {c : UInt8} {r t : List UInt8} (ht : safeT t) (h : money.isPrefixOf (c :: (dbl r ++ t)) = true) : money.isPrefixOf (c :: r) = true := by
  rw [mn_is] at h ⊢
  obtain ⟨h1, h2, h3⟩ := h
  have u : ∀ (d n : UInt8), d.toNat = n.toNat → d = n := fun d n e => UInt8.toNat_inj.mp e
  cases r with
  | nil =>
    exfalso
    cases t with
    | nil => simp [dbl] at h2
    | cons d q => exact ht.2.2.1 (by have : d = 164 := u d 164 (by simpa [dbl, atL] using h3); rw [this]; rfl)
  | cons d r =>
    rw [dbl_cons] at h2 h3
    by_cases hd : d = 39
    · exfalso; rw [if_pos hd] at h3; simp [atL] at h3
    · rw [if_neg hd] at h2 h3
      exact ⟨h1, by simp, by simpa [atL] using h3⟩
theorem isA_parts {c : UInt8} (h : isA c = false) : digit c = false ∧ c ≠ 35 ∧ c ≠ 44 ∧ c ≠ 46 ∧ c ≠ 64 ∧ c ≠ 42 ∧ c ≠ 59 ∧ c ≠ 45 ∧ c ≠ 43 ∧ c ≠ 37 ∧ c ≠ 69 := by
  unfold isA at h
  simp only [Bool.or_eq_false_iff, beq_eq_false_iff_ne] at h
  obtain ⟨⟨⟨⟨⟨⟨⟨⟨⟨⟨h0, h1⟩, h2⟩, h3⟩, h4⟩, h5⟩, h6⟩, h7⟩, h8⟩, h9⟩, h10⟩ := h
  exact ⟨h0, h1, h2, h3, h4, h5, h6, h7, h8, h9, h10⟩
theorem stop_no {c : UInt8} (h : isA c = false) : stop c = false := by
  obtain ⟨h0, h1, h2, h3, h4, h5, h6, _⟩ := isA_parts h
  simp [stop, h0, h1, h2, h3, h4, h5, h6]
theorem sign_no {c : UInt8} {x : List UInt8} (h : isA c = false) (hp : permille.isPrefixOf (c :: x) = false) (hm : money.isPrefixOf (c :: x) = false) : signS (c :: x) = none := by
  obtain ⟨_, _, _, _, _, _, _, h7, h8, h9, _⟩ := isA_parts h
  have e : ∀ n : UInt8, c ≠ n → ([n] : List UInt8).isPrefixOf (c :: x) = false := fun n hn => by simp [List.isPrefixOf, Ne.symm hn]
  unfold signS
  rw [e 45 h7, e 43 h8, e 37 h9, hp, hm]
  rfl
theorem affS_plain : ∀ (a : List UInt8) (acc : List Aff) (t : List UInt8), a ≠ [] → special a = false → safeT t → affS (dbl a ++ t) acc = affS t (addS acc ⟨1, a, 0⟩)
  | [], _, _, h, _, _ => absurd rfl h
  | c :: r, acc, t, _, hs, ht => by
    have hs' := hs
    rw [special_cons] at hs
    simp only [Bool.or_eq_false_iff] at hs
    obtain ⟨⟨hA, hpp, hmm⟩, hr⟩ := hs
    have fin : ∀ x : List UInt8, affS (dbl r ++ t) (addS acc ⟨1, x, 0⟩) = affS t (addS acc ⟨1, x ++ r, 0⟩) := fun x => by
      by_cases hn : r = []
      · subst hn; rw [List.append_nil]; rfl
      · rw [affS_plain r _ t hn hr ht, addS_merge]
    rw [dbl_cons]
    by_cases hc : c = 39
    · subst hc
      rw [if_pos rfl]
      show affS (39 :: 39 :: (dbl r ++ t)) acc = _
      rw [affS_quote, quoteS_two]
      exact fin [39]
    · rw [if_neg hc]
      show affS (c :: (dbl r ++ t)) acc = _
      have hp : permille.isPrefixOf (c :: (dbl r ++ t)) = false := by
        cases q : permille.isPrefixOf (c :: (dbl r ++ t)) with
        | false => rfl
        | true => rw [pre_perm ht q] at hpp; cases hpp
      have hm : money.isPrefixOf (c :: (dbl r ++ t)) = false := by
        cases q : money.isPrefixOf (c :: (dbl r ++ t)) with
        | false => rfl
        | true => rw [pre_money ht q] at hmm; cases hmm
      rw [affS_other hc, sign_no hA hp hm]
      show (if stop c = true then _ else _) = _
      rw [stop_no hA, if_neg Bool.false_ne_true]
      exact fin [c]
theorem affS_text {a : List UInt8} (acc : List Aff) {t : List UInt8} (h : a ≠ []) (ht : safeT t) : affS (textS a ++ t) acc = affS t (addS acc ⟨1, a, 0⟩) := by
  unfold textS
  cases hs : special a with
  | true =>
    rw [if_pos rfl]
    have := affS_special a acc t h hs ht.1
    rw [← this]
    congr 1
    simp
  | false =>
    rw [if_neg Bool.false_ne_true]
    exact affS_plain a acc t h hs ht
end Go.Proofs.YtjpdakepfmepnaaDoor

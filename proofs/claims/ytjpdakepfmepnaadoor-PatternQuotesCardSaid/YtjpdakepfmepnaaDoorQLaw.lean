/- A pattern of a digit between two texts: printed and read again, it is that pattern: plain. -/
import Derived.Test.YtjpdakepfmepnaaDoorBack
import Derived.Test.YtjpdakepfmepnaaDoorText
namespace Go.Proofs.YtjpdakepfmepnaaDoor
open Go.RowKit Go.Proofs.YtjpdakepfmepnaaDoorW.PrintWords Pat
set_option linter.unusedVariables false
set_option linter.unusedSimpArgs false

def tx (a : List UInt8) : List Aff := if a = [] then [] else [⟨1, a, 0⟩]
def quotesP (a b : List UInt8) : Pat := ⟨tx a, tx b, false, [], [], 1, 0, 0, 0, 0, 0, 0, false, [], [], 0, false⟩
theorem affStr_tx (a : List UInt8) : affStr (tx a) = textS a := by
  unfold tx
  cases a with
  | nil => rfl
  | cons c r => rw [if_neg (by simp)]; simp [affStr, pieceStr]
theorem printL_quotes (a b : List UInt8) : printL (quotesP a b) = textS a ++ 48 :: textS b := by
  have e : numStr (quotesP a b) = [48] := rfl
  unfold printL
  rw [e]
  show affStr (tx a) ++ [48] ++ affStr (tx b) ++ [] = _
  rw [affStr_tx, affStr_tx]; simp
theorem stop48 (l : List Aff) (r : List UInt8) : affS (48 :: r) l = some (l, 48 :: r) := by
  rw [affS_other (by decide)]
  have e : signS (48 :: r) = none := by simp [signS, permille, money, List.isPrefixOf]
  rw [e]
  show (if stop 48 = true then _ else _) = _
  rw [if_pos (by decide)]
theorem safe48 (r : List UInt8) : safeT (48 :: r) := ⟨by simp, by simp, by simp, by simp⟩
theorem safeNil : safeT [] := ⟨by simp, by simp, by simp, by simp⟩
theorem affS_tx (a : List UInt8) (t : List UInt8) (h : safeT t) : affS (textS a ++ t) [] = affS t (tx a) := by
  unfold tx
  by_cases ha : a = []
  · rw [if_pos ha, ha]; rfl
  · rw [if_neg ha, affS_text [] ha h]; rfl
/-- What a printed text begins with. -/
theorem textS_head (b : List UInt8) : textS b = [] ∨ ∃ c r, textS b = c :: r ∧ (c = 39 ∨ isA c = false) := by
  unfold textS
  cases hs : special b with
  | true => exact .inr ⟨39, _, rfl, .inl rfl⟩
  | false =>
    cases b with
    | nil => exact .inl rfl
    | cons c r =>
      right
      rw [if_neg Bool.false_ne_true, dbl_cons]
      by_cases hc : c = 39
      · rw [if_pos hc]; exact ⟨39, _, rfl, .inl rfl⟩
      · rw [if_neg hc]
        rw [special_cons] at hs
        simp only [Bool.or_eq_false_iff] at hs
        exact ⟨c, _, rfl, .inr hs.1.1⟩
theorem mark_no {c : UInt8} (h : c = 39 ∨ isA c = false) : c ≠ 44 ∧ Pat.mark c = false ∧ c ≠ 46 ∧ c ≠ 69 := by
  rcases h with rfl | h
  · decide
  · obtain ⟨h0, h1, h2, h3, h4, _, _, _, _, _, h10⟩ := isA_parts h
    exact ⟨h2, by simp [Pat.mark, h0, h1, h4], h3, h10⟩
theorem numS_one (b : List UInt8) : numS (48 :: textS b) = some (⟨1, 0, 0, 0, 0, 0, 0, [], [], 0, false⟩, textS b) := by
  have hm : numOf 1 [48] [] 0 = ⟨1, 0, 0, 0, 0, 0, 0, [], [], 0, false⟩ := by rfl
  rcases textS_head b with e | ⟨c, r, e, hc⟩
  · rw [e]; rfl
  · obtain ⟨h44, hmk, h46, h69⟩ := mark_no hc
    rw [e]
    have h2 : headS false 1 (c :: r) = some ([], 1, c :: r) := by
      unfold headS
      rw [if_neg h44, if_neg (by rw [hmk]; exact Bool.false_ne_true)]
    have h1 : headS true 0 (48 :: c :: r) = some ([48], 1, c :: r) := by
      unfold headS
      rw [if_neg (by decide), if_pos (by decide), show stepSt 0 48 = some 1 from rfl]
      show (headS false 1 (c :: r)).map _ = _
      rw [h2]; rfl
    have h3 : fracS 1 (c :: r) = some ([], 0, c :: r) := by unfold fracS; show (if c = 46 then _ else _) = _; rw [if_neg h46]
    have h4 : expAt (c :: r) = none := by
      unfold expAt
      split
      · next q => simp only [List.cons.injEq] at q; exact absurd q.1 h69
      · next q => simp only [List.cons.injEq] at q; exact absurd q.1 h69
      · rfl
    unfold numS
    rw [h1]
    show (if ([48] : List UInt8).getLast? = some 44 ∨ (([48] : List UInt8) = [] ∧ point (c :: r) = false) then none else match fracS 1 (c :: r) with | none => none | some (places, sharp, r2) => expS [48] (numOf 1 [48] places sharp) r2) = _
    rw [if_neg (by simp), h3]
    show expS [48] (numOf 1 [48] [] 0) (c :: r) = _
    unfold expS
    rw [h4, hm]
theorem half_quotes (a b : List UInt8) : halfS (textS a ++ 48 :: textS b) = some (tx a, ⟨1, 0, 0, 0, 0, 0, 0, [], [], 0, false⟩, tx b, []) := by
  have hb : affS (textS b) [] = some (tx b, []) := by
    have := affS_tx b [] safeNil
    rw [List.append_nil, affS_nil] at this
    exact this
  unfold halfS
  rw [affS_tx a _ (safe48 _), stop48]
  simp only [numS_one, hb]
  rfl
theorem check_quotes (a b : List UInt8) : checkS (quotesP a b) = 0 := by
  cases a <;> cases b <;> rfl
theorem textS_len (a : List UInt8) : (textS a).length ≤ 2 * a.length + 2 := by
  have := dbl_length a
  unfold textS
  split
  · simp only [List.length_cons, List.length_append, List.length_nil]; omega
  · omega
theorem quotes_len {a b : List UInt8} (ha : a.length ≤ 8000) (hb : b.length ≤ 8000) : (printL (quotesP a b)).length ≤ 65536 := by
  have h1 := textS_len a
  have h2 := textS_len b
  rw [printL_quotes, List.length_append, List.length_cons]
  omega
theorem print_quotes {a b : List UInt8} (ha : a.length ≤ 8000) (hb : b.length ≤ 8000) : printS (quotesP a b) = (printL (quotesP a b), 0) := by
  have := quotes_len ha hb
  unfold printS
  rw [check_quotes, if_neg (by simp), if_neg (by omega)]
theorem parse_quotes {a b : List UInt8} (ha : a.length ≤ 8000) (hb : b.length ≤ 8000) : parseS (printL (quotesP a b)) = (quotesP a b, 0) := by
  have := quotes_len ha hb
  unfold parseS
  rw [if_neg (by omega)]
  have e : rawS (printL (quotesP a b)) = some (quotesP a b) := by
    unfold rawS
    rw [printL_quotes, half_quotes]
    rfl
  rw [e]
  show (if checkS (quotesP a b) = 0 then _ else _) = _
  rw [if_pos (check_quotes a b)]
end Go.Proofs.YtjpdakepfmepnaaDoor

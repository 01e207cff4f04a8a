/- The rest of a number: plain laws. -/
import Derived.Test.YtjpdakepfmepnaaDoorClos
import Derived.Test.YtjpdakepfmepnaaDoorNumLaw
namespace Go.Proofs.YtjpdakepfmepnaaDoor
open Go.RowKit Go.Proofs.YtjpdakepfmepnaaDoorW.PrintWords Pat
set_option linter.unusedVariables false

section
variable {s h r q p : List UInt8} {st n : Nat}
theorem numS_head (hh : headS true 0 s = some (h, st, r)) (hb : h.getLast? = some 44 ∨ (h = [] ∧ point r = false)) : numS s = none := by
  unfold numS; rw [hh]; simp only []; rw [if_pos hb]
theorem numS_frac (hh : headS true 0 s = some (h, st, r)) (hf : fracS st r = none) : numS s = none := by
  unfold numS; rw [hh]; simp only []
  split
  · rfl
  · rw [hf]
theorem numS_go (hh : headS true 0 s = some (h, st, r)) (hb : ¬ (h.getLast? = some 44 ∨ (h = [] ∧ point r = false))) (hf : fracS st r = some (p, n, q)) : numS s = expS h (numOf st h p n) q := by
  unfold numS; rw [hh]; simp only []; rw [if_neg hb, hf]
end
/-- Bytes of one kind from place a to place j. -/
structure Run (p : UInt8 → Bool) (l : List UInt8) (a j : Nat) : Prop where
  aj : a ≤ j
  jl : j ≤ l.length
  all : ∀ t, a ≤ t → t < j → ∃ c, l[t]? = some c ∧ p c = true
theorem Run.start {p : UInt8 → Bool} {l : List UInt8} {a : Nat} (h : a ≤ l.length) : Run p l a a := ⟨Nat.le_refl _, h, fun t h1 h2 => absurd h2 (by omega)⟩
theorem Run.next {p : UInt8 → Bool} {l : List UInt8} {a j : Nat} {c : UInt8} (h : Run p l a j) (hc : l[j]? = some c) (hp : p c = true) : Run p l a (j + 1) := by
  refine ⟨by have := h.aj; omega, (List.getElem?_eq_some_iff.mp hc).1, fun t h1 h2 => ?_⟩
  by_cases ht : t = j
  · subst ht; exact ⟨c, hc, hp⟩
  · exact h.all t h1 (by omega)
theorem Run.done {p : UInt8 → Bool} {l : List UInt8} {a j : Nat} (h : Run p l a j) (he : ∀ c, l[j]? = some c → p c = false) : (l.drop a).takeWhile p = pre l a j ∧ (l.drop a).dropWhile p = l.drop j := by
  have ha := h.aj
  obtain ⟨h1, h2, _⟩ := span_at p l a (j - a) (fun t ht => h.all (a + t) (by omega) (by omega)) (fun c hc => he c (by rwa [show a + (j - a) = j from by omega] at hc))
  exact ⟨h1, by rw [h2, show a + (j - a) = j from by omega]⟩
theorem Run.len {p : UInt8 → Bool} {l : List UInt8} {a j : Nat} (h : Run p l a j) : (pre l a j).length = j - a := pre_length h.aj h.jl
theorem isAt_some {s : ByteArray} {k : Nat} {c : UInt8} : isAt s k c.toNat = true ↔ s.data.toList[k]? = some c := by
  unfold isAt
  cases h : s.data.toList[k]? with
  | none => simp
  | some d =>
    simp only [Option.some.injEq]
    rw [beq_iff_eq]
    exact ⟨fun e => UInt8.toNat_inj.mp (by omega), fun e => by rw [e]⟩
theorem isAt_not {s : ByteArray} {k : Nat} {c : UInt8} (h : isAt s k c.toNat = false) {d : UInt8} (hd : s.data.toList[k]? = some d) : d ≠ c := by
  rintro rfl
  rw [isAt_some.mpr hd] at h; cases h
theorem digAt_some {s : ByteArray} {k : Nat} (h : digAt s k = true) : ∃ c, s.data.toList[k]? = some c ∧ digit c = true := by
  unfold digAt at h
  split at h
  · cases h
  · rename_i d hd; exact ⟨d, hd, h⟩
theorem digAt_not {s : ByteArray} {k : Nat} (h : digAt s k = false) {d : UInt8} (hd : s.data.toList[k]? = some d) : digit d = false := by
  unfold digAt at h
  rw [hd] at h; exact h
theorem digAt_lt {s : ByteArray} {k : Nat} (h : digAt s k = true) : k < s.size := by
  obtain ⟨c, hc, _⟩ := digAt_some h
  have := (List.getElem?_eq_some_iff.mp hc).1
  rw [data_length] at this; exact this
theorem frac_none {s : ByteArray} {k st : Nat} (h : isAt s k 46 = false) : fracS st (s.data.toList.drop k) = some ([], 0, s.data.toList.drop k) := by
  cases hd : s.data.toList[k]? with
  | none =>
    rw [List.drop_eq_nil_of_le (List.getElem?_eq_none_iff.mp hd)]; rfl
  | some d =>
    rw [dropC hd]
    unfold fracS
    dsimp only
    rw [if_neg (isAt_not (c := 46) h hd)]
theorem frac_stage {s : ByteArray} {k st : Nat} (h : isAt s k 46 = true) (h2 : 2 ≤ st) : fracS st (s.data.toList.drop k) = none := by
  rw [dropC (isAt_some (c := 46).mp h)]
  unfold fracS
  dsimp only
  rw [if_pos rfl, if_pos h2]
/-- What bars a number's places. -/
def fracBad (s : ByteArray) (a j : Nat) : Bool := ((j : Int) == (a : Int)) || digAt s j || isAt s j 44 || isAt s j 46 || isAt s j 64
theorem frac_read {s : ByteArray} {k st j e : Nat} (h : isAt s k 46 = true) (h2 : st < 2) (h3 : Run digit s.data.toList (k + 1) j) (h4 : digAt s j = false) (h5 : Run (· == 35) s.data.toList j e) (h6 : isAt s e 35 = false) :
    fracS st (s.data.toList.drop k) = if fracBad s (k + 1) e then none else some (pre s.data.toList (k + 1) j, e - j, s.data.toList.drop e) := by
  rw [dropC (isAt_some (c := 46).mp h)]
  obtain ⟨r1, r2⟩ := h3.done (fun c hc => digAt_not h4 hc)
  obtain ⟨r3, r4⟩ := h5.done (fun c hc => beq_eq_false_iff_ne.mpr (isAt_not (c := 35) h6 hc))
  have hp : placesS (s.data.toList.drop (k + 1)) = (pre s.data.toList (k + 1) j, e - j, s.data.toList.drop e) := by
    unfold placesS
    rw [r1, r2, r3, r4, h5.len]
  unfold fracS
  dsimp only
  rw [if_pos rfl, if_neg (by omega)]
  simp only [hp]
  have hx : (pre s.data.toList (k + 1) j = [] ∧ e - j = 0) ↔ e = k + 1 := by
    rw [← List.length_eq_zero_iff, h3.len]
    have := h3.aj; have := h5.aj
    omega
  by_cases hek : e = k + 1
  · have : fracBad s (k + 1) e = true := by
      unfold fracBad
      rw [beq_iff_eq.mpr (show (e : Int) = ((k + 1 : Nat) : Int) by rw [hek])]; rfl
    rw [if_pos (hx.mpr hek), this]; rfl
  · rw [if_neg (fun h => hek (hx.mp h))]
    have hb : ((e : Int) == ((k + 1 : Nat) : Int)) = false := beq_eq_false_iff_ne.mpr (by omega)
    cases hd : s.data.toList[e]? with
    | none =>
      rw [List.drop_eq_nil_of_le (List.getElem?_eq_none_iff.mp hd)]
      have : fracBad s (k + 1) e = false := by
        unfold fracBad digAt isAt
        rw [hb, hd]; rfl
      rw [this]; rfl
    | some d =>
      rw [dropC hd]
      have : fracBad s (k + 1) e = (digit d || d == 44 || d == 46 || d == 64) := by
        unfold fracBad digAt isAt
        rw [hb, hd]
        have hq : ∀ n : UInt8, ((d.toNat : Int) == (n.toNat : Int)) = (d == n) := fun n => by
          rw [Bool.eq_iff_iff, beq_iff_eq, beq_iff_eq]
          exact ⟨fun e => UInt8.toNat_inj.mp (by omega), fun e => by rw [e]⟩
        have q1 := hq 44; have q2 := hq 46; have q3 := hq 64
        simp only [Bool.false_or]
        rw [← q1, ← q2, ← q3]; rfl
      rw [this]
/-- The head's letters. -/
theorem HR.ascii {l : List UInt8} {i st k mi ms xs : Nat} (h : HR l i st k mi ms xs) : ∀ c ∈ pre l i k, c.toNat < 128 := by
  intro c hc
  rcases h.chars c hc with hm | rfl
  · unfold Pat.mark digit at hm
    simp only [Bool.or_eq_true, beq_iff_eq, Bool.and_eq_true, decide_eq_true_eq] at hm
    rcases hm with (rfl | rfl) | ⟨_, h2⟩
    · decide
    · decide
    · have := UInt8.le_iff_toNat_le.mp h2
      have e : (57 : UInt8).toNat = 57 := rfl
      omega
  · decide
theorem ext_pre {s : ByteArray} {i k : Nat} (hk : k ≤ s.size) : (s.extract i k).data.toList = pre s.data.toList i k := by
  unfold pre
  rw [ByteArray.data_extract, Array.toList_extract, List.extract_eq_take_drop]
theorem ext_bs {s : ByteArray} {i k : Nat} (hk : k ≤ s.size) : s.extract i k = bs (pre s.data.toList i k) := by
  rw [← ext_pre hk]
theorem num_off {h P : List UInt8} {st sharp : Nat} (hb : (decide (st < 2) && nonzero ((marks h).dropWhile (fun x => x == 35) ++ P)) = false) :
    numOf st h P sharp = ⟨h.countP digit, P.length, P.length + sharp, h.count 64, sigs h, (groupsS h).1, (groupsS h).2, [], [], 0, false⟩ := by
  have hn : ¬ (st < 2 ∧ nonzero ((marks h).dropWhile (fun x => x == 35) ++ P) = true) := by
    rintro ⟨h1, h2⟩
    rw [decide_eq_true h1, h2] at hb; cases hb
  unfold numOf
  rw [if_neg hn, if_neg hn]; rfl
theorem num_on {h P : List UInt8} {st sharp : Nat} (hb : (decide (st < 2) && nonzero ((marks h).dropWhile (fun x => x == 35) ++ P)) = true) :
    numOf st h P sharp = ⟨h.countP digit, P.length, P.length + sharp, h.count 64, sigs h, (groupsS h).1, (groupsS h).2, lead ((marks h).dropWhile (fun x => x == 35)), P, 0, false⟩ := by
  have hn : st < 2 ∧ nonzero ((marks h).dropWhile (fun x => x == 35) ++ P) = true := by
    rw [Bool.and_eq_true, decide_eq_true_eq] at hb; exact hb
  unfold numOf
  rw [if_pos hn, if_pos hn]; rfl
theorem lead_ne (l : List UInt8) : lead l ≠ [] := by
  unfold lead
  split
  · simp
  · assumption
theorem num_st {h P : List UInt8} {st sharp : Nat} (hs : (numOf st h P sharp).sInt = []) : (numOf st h P sharp).sFrac = [] := by
  unfold numOf at hs ⊢
  dsimp only at hs ⊢
  split at hs
  · exact absurd hs (lead_ne _)
  · rename_i h; rw [if_neg h]
theorem point_at (s : ByteArray) (k : Nat) : point (s.data.toList.drop k) = isAt s k 46 := by
  unfold point
  rw [List.head?_drop]
  cases h : isAt s k 46 with
  | true => rw [isAt_some (c := 46).mp h]; rfl
  | false =>
    cases hd : s.data.toList[k]? with
    | none => rfl
    | some d => exact beq_eq_false_iff_ne.mpr (fun e => isAt_not (c := 46) h hd (by injection e))
theorem ext_nil {s : ByteArray} {i k : Nat} (hk : k ≤ s.size) (h : pre s.data.toList i k = []) : (s.extract i k).toList = [] := by
  rw [Lib.toList_data, ext_pre hk, h]
theorem ext_some {s : ByteArray} {i k : Nat} (hk : k ≤ s.size) (h : pre s.data.toList i k ≠ []) : ((s.extract i k).toList == []) = false := by
  rw [beq_eq_false_iff_ne]
  intro h2
  apply h
  rw [← ext_pre hk]
  rw [← Lib.toList_data]; exact h2
end Go.Proofs.YtjpdakepfmepnaaDoor

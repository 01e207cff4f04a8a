/- A text holds a rune of the quoted ones where one of their bytes or one of the two signs stands in it. -/
import Derived.Test.YtjpdakepfmepnaaDoorRunes
namespace Go.Proofs.YtjpdakepfmepnaaDoor
open Go.RowKit Go.Proofs.YtjpdakepfmepnaaDoorW.PrintWords Pat
set_option linter.unusedVariables false
set_option linter.unusedSimpArgs false

abbrev quotedB : ByteArray := ⟨#[35, 44, 46, 64, 42, 59, 45, 43, 37, 69, 48, 49, 50, 51, 52, 53, 54, 55, 56, 57, 226, 128, 176, 194, 164]⟩
theorem runes_quoted : runesAt quotedB 0 = [35, 44, 46, 64, 42, 59, 45, 43, 37, 69, 48, 49, 50, 51, 52, 53, 54, 55, 56, 57, 8240, 164] := by kernel_rfl
def inQ (c : Nat) : Bool := [35, 44, 46, 64, 42, 59, 45, 43, 37, 69, 48, 49, 50, 51, 52, 53, 54, 55, 56, 57, 8240, 164].any fun d => c == d
theorem inQ_high {c : Nat} (h : 128 ≤ c) : inQ c = (c == 8240 || c == 164) := by
  have e : ∀ n : Nat, n < 128 → (c == n) = false := fun n hn => beq_eq_false_iff_ne.mpr (by omega)
  simp only [inQ, List.any_cons, List.any_nil, e 35 (by omega), e 44 (by omega), e 46 (by omega), e 64 (by omega), e 42 (by omega), e 59 (by omega), e 45 (by omega), e 43 (by omega), e 37 (by omega), e 69 (by omega), e 48 (by omega), e 49 (by omega), e 50 (by omega), e 51 (by omega), e 52 (by omega), e 53 (by omega), e 54 (by omega), e 55 (by omega), e 56 (by omega), e 57 (by omega), Bool.false_or, Bool.or_false]

def atL (l : List UInt8) (k : Nat) : Nat := (l[k]?.getD 0).toNat
def contL (l : List UInt8) (k : Nat) : Bool := decide (k < l.length) && atL l k / 64 == 2
def decL (l : List UInt8) : Nat × Nat :=
  if atL l 0 < 0x80 then (atL l 0, 1)
  else if atL l 0 / 32 == 6 && contL l 1 then
    if (atL l 0 % 32) * 64 + atL l 1 % 64 ≥ 0x80 then ((atL l 0 % 32) * 64 + atL l 1 % 64, 2) else (0xFFFD, 1)
  else if atL l 0 / 16 == 14 && contL l 1 && contL l 2 then
    if (atL l 0 % 16) * 4096 + (atL l 1 % 64) * 64 + atL l 2 % 64 ≥ 0x800 && Utf8.valid ((atL l 0 % 16) * 4096 + (atL l 1 % 64) * 64 + atL l 2 % 64 : Nat) then ((atL l 0 % 16) * 4096 + (atL l 1 % 64) * 64 + atL l 2 % 64, 3) else (0xFFFD, 1)
  else if atL l 0 / 8 == 30 && contL l 1 && contL l 2 && contL l 3 then
    if (atL l 0 % 8) * 262144 + (atL l 1 % 64) * 4096 + (atL l 2 % 64) * 64 + atL l 3 % 64 ≥ 0x10000 && Utf8.valid ((atL l 0 % 8) * 262144 + (atL l 1 % 64) * 4096 + (atL l 2 % 64) * 64 + atL l 3 % 64 : Nat) then ((atL l 0 % 8) * 262144 + (atL l 1 % 64) * 4096 + (atL l 2 % 64) * 64 + atL l 3 % 64, 4) else (0xFFFD, 1)
  else (0xFFFD, 1)
theorem get_list (s : ByteArray) (pos k : Nat) : (s.get! (pos + k)).toNat = atL (s.data.toList.drop pos) k := by
  unfold atL
  rw [List.getElem?_drop, Array.getElem?_toList]
  show (s.data[pos + k]!).toNat = _
  rw [Array.getElem!_eq_getD, Array.getD_eq_getD_getElem?]
  rfl
theorem decode_list (s : ByteArray) (pos : Nat) : Utf8.decode s pos = decL (s.data.toList.drop pos) := by
  have hl : ∀ k, decide (pos + k < s.size) = decide (k < (s.data.toList.drop pos).length) := fun k => by
    rw [List.length_drop, data_length]
    apply Bool.eq_iff_iff.mpr
    simp only [decide_eq_true_eq]
    omega
  unfold Utf8.decode decL contL
  simp only [get_list, hl, Utf8.runeError]

/-! #### special, a byte at a time -/
def isA (c : UInt8) : Bool := digit c || c == 35 || c == 44 || c == 46 || c == 64 || c == 42 || c == 59 || c == 45 || c == 43 || c == 37 || c == 69
theorem special_eq (l : List UInt8) : special l = (l.any isA || signIn l) := rfl
theorem special_cons (c : UInt8) (r : List UInt8) : special (c :: r) = (isA c || (permille.isPrefixOf (c :: r) || money.isPrefixOf (c :: r)) || special r) := by
  rw [special_eq, special_eq, List.any_cons, signIn]
  cases isA c <;> cases r.any isA <;> cases permille.isPrefixOf (c :: r) <;> cases money.isPrefixOf (c :: r) <;> cases signIn r <;> rfl
theorem u8n {c : UInt8} {n : UInt8} : (c == n) = decide (c.toNat = n.toNat) := by
  by_cases h : c = n
  · subst h; simp
  · have h2 : ¬ c.toNat = n.toNat := fun e => h (UInt8.toNat_inj.mp e)
    rw [beq_eq_false_iff_ne.mpr h, decide_eq_false h2]
theorem isA_high {c : UInt8} (h : 128 ≤ c.toNat) : isA c = false := by
  have hc : ∀ n : UInt8, n.toNat < 128 → (c == n) = false := fun n hn => by rw [u8n, decide_eq_false (by omega)]
  have hd : digit c = false := by
    unfold digit
    have : ¬ (c ≤ 57) := by intro q; have := UInt8.le_iff_toNat_le.mp q; have e : (57 : UInt8).toNat = 57 := rfl; omega
    simp [this]
  unfold isA
  rw [hd, hc 35 (by decide), hc 44 (by decide), hc 46 (by decide), hc 64 (by decide), hc 42 (by decide), hc 59 (by decide), hc 45 (by decide), hc 43 (by decide), hc 37 (by decide), hc 69 (by decide)]
  rfl
theorem pref_no {c : UInt8} {r : List UInt8} (h : c.toNat ≠ 226) (h2 : c.toNat ≠ 194) : (permille.isPrefixOf (c :: r) || money.isPrefixOf (c :: r)) = false := by
  have e1 : ((226 : UInt8) == c) = false := beq_eq_false_iff_ne.mpr (fun e => h (by rw [← e]; rfl))
  have e2 : ((194 : UInt8) == c) = false := beq_eq_false_iff_ne.mpr (fun e => h2 (by rw [← e]; rfl))
  simp [permille, money, List.isPrefixOf, e1, e2]
theorem special_cont {c : UInt8} {r : List UInt8} (h : c.toNat / 64 = 2) : special (c :: r) = special r := by
  have hc := c.toNat_lt
  rw [special_cons, isA_high (by omega), pref_no (by omega) (by omega)]
  rfl
theorem special_drop : ∀ (n : Nat) (l : List UInt8), (∀ k, k < n → contL l k = true) → special l = special (l.drop n)
  | 0, l, _ => by rw [List.drop_zero]
  | n + 1, [], _ => by simp
  | n + 1, c :: r, h => by
    have h0 := h 0 (by omega)
    have hc : c.toNat / 64 = 2 := by simpa [contL, atL] using h0
    rw [special_cont hc, List.drop_succ_cons]
    refine special_drop n r (fun k hk => ?_)
    have := h (k + 1) (by omega)
    simpa [contL, atL] using this
theorem special_low {c : UInt8} {r : List UInt8} (h : c.toNat < 128) : special (c :: r) = (isA c || special r) := by
  rw [special_cons, pref_no (by omega) (by omega), Bool.or_false]
theorem inQ_low {c : UInt8} (h : c.toNat < 128) : inQ c.toNat = isA c := by
  have hd : digit c = (c.toNat == 48 || c.toNat == 49 || c.toNat == 50 || c.toNat == 51 || c.toNat == 52 || c.toNat == 53 || c.toNat == 54 || c.toNat == 55 || c.toNat == 56 || c.toNat == 57) := by
    have e48 : (48 : UInt8).toNat = 48 := rfl
    have e57 : (57 : UInt8).toNat = 57 := rfl
    apply Bool.eq_iff_iff.mpr
    simp only [digit, Bool.and_eq_true, decide_eq_true_eq, UInt8.le_iff_toNat_le, Bool.or_eq_true, beq_iff_eq]
    omega
  have e : ∀ n : UInt8, (c == n) = (c.toNat == n.toNat) := fun n => by rw [u8n]; rfl
  have n1 : (c.toNat == 8240) = false := beq_eq_false_iff_ne.mpr (by omega)
  have n2 : (c.toNat == 164) = false := beq_eq_false_iff_ne.mpr (by omega)
  unfold isA
  rw [hd, e 35, e 44, e 46, e 64, e 42, e 59, e 45, e 43, e 37, e 69]
  simp only [inQ, List.any_cons, List.any_nil, n1, n2, Bool.or_false, show (35 : UInt8).toNat = 35 from rfl, show (44 : UInt8).toNat = 44 from rfl, show (46 : UInt8).toNat = 46 from rfl, show (64 : UInt8).toNat = 64 from rfl, show (42 : UInt8).toNat = 42 from rfl, show (59 : UInt8).toNat = 59 from rfl, show (45 : UInt8).toNat = 45 from rfl, show (43 : UInt8).toNat = 43 from rfl, show (37 : UInt8).toNat = 37 from rfl, show (69 : UInt8).toNat = 69 from rfl]
  apply Bool.eq_iff_iff.mpr
  simp only [Bool.or_eq_true, beq_iff_eq]
  omega
theorem atL_lt (l : List UInt8) (k : Nat) : atL l k < 256 := UInt8.toNat_lt _
theorem pm_is (c : UInt8) (r : List UInt8) : permille.isPrefixOf (c :: r) = true ↔ c.toNat = 226 ∧ 1 < r.length ∧ atL r 0 = 128 ∧ atL r 1 = 176 := by
  have e : ∀ (n d : UInt8), (n == d) = decide (d.toNat = n.toNat) := fun n d => by rw [← u8n, Bool.beq_comm]
  cases r with
  | nil => simp [permille, List.isPrefixOf]
  | cons d r2 =>
    cases r2 with
    | nil => simp [permille, List.isPrefixOf]
    | cons f r3 =>
      simp only [permille, List.isPrefixOf, e, atL, Bool.and_eq_true, decide_eq_true_eq, List.getElem?_cons_zero, List.getElem?_cons_succ, Option.getD_some, List.length_cons, show (226 : UInt8).toNat = 226 from rfl, show (128 : UInt8).toNat = 128 from rfl, show (176 : UInt8).toNat = 176 from rfl]
      exact ⟨fun q => ⟨q.1, by omega, q.2.1, q.2.2.1⟩, fun q => ⟨q.1, q.2.2.1, q.2.2.2, trivial⟩⟩
theorem mn_is (c : UInt8) (r : List UInt8) : money.isPrefixOf (c :: r) = true ↔ c.toNat = 194 ∧ 0 < r.length ∧ atL r 0 = 164 := by
  have e : ∀ (n d : UInt8), (n == d) = decide (d.toNat = n.toNat) := fun n d => by rw [← u8n, Bool.beq_comm]
  cases r with
  | nil => simp [money, List.isPrefixOf]
  | cons d r2 =>
    simp only [money, List.isPrefixOf, e, atL, Bool.and_eq_true, decide_eq_true_eq, List.getElem?_cons_zero, Option.getD_some, List.length_cons, show (194 : UInt8).toNat = 194 from rfl, show (164 : UInt8).toNat = 164 from rfl]
    exact ⟨fun q => ⟨q.1, by omega, q.2.1⟩, fun q => ⟨q.1, q.2.2, trivial⟩⟩
/-- A byte that is none of ASCII: what is decoded there, and how far it reaches. -/
theorem decL_high {c : UInt8} {r : List UInt8} (h : 128 ≤ c.toNat) : 128 ≤ (decL (c :: r)).1 ∧ ((decL (c :: r)).1 == 8240 || (decL (c :: r)).1 == 164) = (permille.isPrefixOf (c :: r) || money.isPrefixOf (c :: r)) ∧ ∀ k, k + 1 < (decL (c :: r)).2 → contL r k = true := by
  have a0 : atL (c :: r) 0 = c.toNat := rfl
  have a1 : ∀ k, atL (c :: r) (k + 1) = atL r k := fun k => by simp [atL]
  have c1 : ∀ k, contL (c :: r) (k + 1) = contL r k := fun k => by simp [contL, a1]
  have hk : ∀ k, contL r k = true ↔ k < r.length ∧ atL r k / 64 = 2 := fun k => by simp [contL]
  have b0 := c.toNat_lt
  have b1 := atL_lt r 0
  have b2 := atL_lt r 1
  have b3 := atL_lt r 2
  have hp := pm_is c r
  have hm := mn_is c r
  have v1 : ∀ n : Nat, Utf8.valid (n : Int) = true ↔ (n < 55296 ∨ (57344 ≤ n ∧ n ≤ 1114111)) := fun n => by
    simp only [Utf8.valid, Bool.or_eq_true, Bool.and_eq_true, decide_eq_true_eq]
    omega
  have k0 := hk 0
  have k1 := hk 1
  have k2 := hk 2
  rw [Bool.eq_iff_iff]
  simp only [Bool.or_eq_true, beq_iff_eq, hp, hm]
  clear hp hm
  unfold decL
  rw [a0, show atL (c :: r) 1 = atL r 0 from a1 0, show atL (c :: r) 2 = atL r 1 from a1 1, show atL (c :: r) 3 = atL r 2 from a1 2, show contL (c :: r) 1 = contL r 0 from c1 0, show contL (c :: r) 2 = contL r 1 from c1 1, show contL (c :: r) 3 = contL r 2 from c1 2]
  clear a0 a1 c1
  generalize c.toNat = x0 at *
  generalize atL r 0 = x1 at *
  generalize atL r 1 = x2 at *
  generalize atL r 2 = x3 at *
  rw [if_neg (by omega)]
  by_cases q1 : (x0 / 32 == 6 && contL r 0) = true
  · rw [if_pos q1]
    simp only [Bool.and_eq_true, beq_iff_eq, k0, k1, k2] at q1
    by_cases q2 : x0 % 32 * 64 + x1 % 64 ≥ 0x80
    · rw [if_pos q2]
      refine ⟨by dsimp only; omega, by dsimp only; omega, fun k hk' => ?_⟩
      obtain rfl : k = 0 := by dsimp only at hk'; omega
      exact k0.mpr q1.2
    · rw [if_neg q2]
      refine ⟨by dsimp only; omega, by dsimp only; omega, fun k hk' => ?_⟩
      dsimp only at hk'; omega
  · rw [if_neg q1]
    simp only [Bool.and_eq_true, beq_iff_eq, not_and, k0, k1, k2] at q1
    by_cases q2 : (x0 / 16 == 14 && contL r 0 && contL r 1) = true
    · rw [if_pos q2]
      simp only [Bool.and_eq_true, beq_iff_eq, k0, k1, k2] at q2
      by_cases q3 : (decide (x0 % 16 * 4096 + x1 % 64 * 64 + x2 % 64 ≥ 0x800) && Utf8.valid ((x0 % 16 * 4096 + x1 % 64 * 64 + x2 % 64 : Nat) : Int)) = true
      · rw [if_pos q3]
        simp only [Bool.and_eq_true, decide_eq_true_eq, v1] at q3
        refine ⟨by dsimp only; omega, by dsimp only; omega, fun k hk' => ?_⟩
        dsimp only at hk'
        obtain rfl | rfl : k = 0 ∨ k = 1 := by omega
        · exact k0.mpr q2.1.2
        · exact k1.mpr q2.2
      · rw [if_neg q3]
        simp only [Bool.and_eq_true, decide_eq_true_eq, v1] at q3
        refine ⟨by dsimp only; omega, by dsimp only; omega, fun k hk' => ?_⟩
        dsimp only at hk'; omega
    · rw [if_neg q2]
      simp only [Bool.and_eq_true, beq_iff_eq, k0, k1, k2] at q2
      by_cases q3 : (x0 / 8 == 30 && contL r 0 && contL r 1 && contL r 2) = true
      · rw [if_pos q3]
        simp only [Bool.and_eq_true, beq_iff_eq, k0, k1, k2] at q3
        by_cases q4 : (decide (x0 % 8 * 262144 + x1 % 64 * 4096 + x2 % 64 * 64 + x3 % 64 ≥ 0x10000) && Utf8.valid ((x0 % 8 * 262144 + x1 % 64 * 4096 + x2 % 64 * 64 + x3 % 64 : Nat) : Int)) = true
        · rw [if_pos q4]
          simp only [Bool.and_eq_true, decide_eq_true_eq, v1] at q4
          refine ⟨by dsimp only; omega, by dsimp only; omega, fun k hk' => ?_⟩
          dsimp only at hk'
          obtain rfl | rfl | rfl : k = 0 ∨ k = 1 ∨ k = 2 := by omega
          · exact k0.mpr q3.1.1.2
          · exact k1.mpr q3.1.2
          · exact k2.mpr q3.2
        · rw [if_neg q4]
          refine ⟨by dsimp only; omega, by dsimp only; omega, fun k hk' => ?_⟩
          dsimp only at hk'; omega
      · rw [if_neg q3]
        refine ⟨by dsimp only; omega, by dsimp only; omega, fun k hk' => ?_⟩
        dsimp only at hk'; omega
theorem any_special (s : ByteArray) : ∀ (n pos : Nat), s.size ≤ pos + n → (runesAt s pos).any inQ = special (s.data.toList.drop pos)
  | 0, pos, h => by
    rw [runesAt_end (by omega), List.drop_eq_nil_of_le (by rw [data_length]; omega)]; rfl
  | n + 1, pos, h => by
    by_cases hp : pos < s.size
    · obtain ⟨c, hc, _⟩ := byte_at s pos hp
      have hd := drop_at hc
      have hw := width_pos s pos hp
      rw [runesAt_cons hp, List.any_cons, any_special s n _ (by omega)]
      rw [decode_list, hd] at hw ⊢
      have hdrop : s.data.toList.drop (pos + (decL (c :: s.data.toList.drop (pos + 1))).2) = (c :: s.data.toList.drop (pos + 1)).drop (decL (c :: s.data.toList.drop (pos + 1))).2 := by
        rw [← hd, List.drop_drop]
      rw [hdrop]
      generalize s.data.toList.drop (pos + 1) = r at *
      by_cases h128 : c.toNat < 128
      · have e : decL (c :: r) = (c.toNat, 1) := by simp [decL, atL, h128]
        rw [e, special_low h128, inQ_low h128]; rfl
      · obtain ⟨h1, h2, h3⟩ := decL_high (c := c) (r := r) (by omega)
        rw [inQ_high h1, h2, special_cons, isA_high (by omega), Bool.false_or]
        congr 1
        obtain ⟨k, hk⟩ : ∃ k, (decL (c :: r)).2 = k + 1 := ⟨(decL (c :: r)).2 - 1, by omega⟩
        rw [hk, List.drop_succ_cons]
        exact (special_drop k r (fun j hj => h3 j (by omega))).symm
    · rw [runesAt_end hp, List.drop_eq_nil_of_le (by rw [data_length]; omega)]; rfl
theorem quoted_any (s : ByteArray) (w : World) : Calls Tryd.prog 33 #[.string s, .string quotedB] w fun e w' => e = .returned (.bool (special s.data.toList)) ∧ Below w.heap.size w w' := by
  have h := hasAny_any s quotedB w
  have e : anyS s quotedB = special s.data.toList := by
    unfold anyS
    rw [runes_quoted]
    exact any_special s s.size 0 (by omega)
  rw [e] at h
  exact h
end Go.Proofs.YtjpdakepfmepnaaDoor

/- The walk of pattern.exponent. -/
import Derived.Test.YtjpdakepfmepnaaDoorBlk
import Derived.Test.YtjpdakepfmepnaaDoorAffix
namespace Go.Proofs.YtjpdakepfmepnaaDoor
open Go.RowKit Go.Proofs.YtjpdakepfmepnaaDoorW.PrintWords Pat
set_option linter.unusedVariables false
set_option linter.unusedSimpArgs false

abbrev numCells (m : Num) : Array Value := #[.slice none 0 0, .slice none 0 0, .bool false, .slice none 0 0, .slice none 0 0, .int .i64 m.minInt, .int .i64 m.minFrac, .int .i64 m.maxFrac, .int .i64 m.minSig, .int .i64 m.maxSig, .int .i64 m.group, .int .i64 m.second, .bool false, .string (bs m.sInt), .string (bs m.sFrac), .int .i64 m.exp, .bool m.expPlus]
abbrev numV (m : Num) : Value := .agg (numCells m)
/-- What number and exponent hand back. -/
def NumPost (s : ByteArray) (w : World) (r : Option (Num × List UInt8)) (e : Ending) (w' : World) : Prop :=
  Below w.heap.size w w' ∧ match r with
    | none => ∃ (m : Num) (j : Int), e = .returned (.tuple #[numV m, .int .i64 j, .bool false])
    | some (m, q) => e = .returned (.tuple #[numV m, .int .i64 ((s.size - q.length : Nat) : Int), .bool true])
theorem NumPost.no {s : ByteArray} {w w' : World} {r : Option (Num × List UInt8)} (m : Num) (j : Int) (hr : r = none) (hb : Below w.heap.size w w') : NumPost s w r (.returned (.tuple #[numV m, .int .i64 j, .bool false])) w' := by
  subst hr
  exact ⟨hb, m, j, rfl⟩
theorem NumPost.yes {s : ByteArray} {w w' : World} {r : Option (Num × List UInt8)} (m : Num) (k : Nat) (hk : k ≤ s.size) (hr : r = some (m, s.data.toList.drop k)) (hb : Below w.heap.size w w') : NumPost s w r (.returned (.tuple #[numV m, .int .i64 k, .bool true])) w' := by
  subst hr
  refine ⟨hb, ?_⟩
  show _ = Ending.returned (.tuple #[numV m, .int .i64 ((s.size - (s.data.toList.drop k).length : Nat) : Int), .bool true])
  rw [dl, show s.size - (s.size - k) = k from by omega]

/-- A run of bytes of one kind, from place k on. -/
theorem span_at (p : UInt8 → Bool) (l : List UInt8) (k e : Nat) (h1 : ∀ j, j < e → ∃ c, l[k + j]? = some c ∧ p c = true) (h2 : ∀ c, l[k + e]? = some c → p c = false) :
    (l.drop k).takeWhile p = (l.drop k).take e ∧ (l.drop k).dropWhile p = l.drop (k + e) ∧ ((l.drop k).takeWhile p).length = e := by
  induction e generalizing k with
  | zero =>
    cases hk : l[k]? with
    | none =>
      have : l.length ≤ k := List.getElem?_eq_none_iff.mp hk
      rw [Nat.add_zero, List.drop_eq_nil_of_le this]; simp
    | some c =>
      have := h2 c hk
      rw [Nat.add_zero, drop_at hk]; simp [this]
  | succ e ih =>
    obtain ⟨c, hc, hp⟩ := h1 0 (by omega)
    rw [Nat.add_zero] at hc
    obtain ⟨h3, h4, h5⟩ := ih (k + 1) (fun j hj => by have := h1 (j + 1) (by omega); rwa [show k + (j + 1) = k + 1 + j from by omega] at this) (fun c hc => h2 c (by rwa [show k + (e + 1) = k + 1 + e from by omega]))
    have h6 : ((l.drop (k + 1)).take e).length = e := by rw [← h3]; exact h5
    rw [drop_at hc]
    simp only [List.takeWhile_cons, hp, if_true, List.dropWhile_cons, List.take_succ_cons, h3, h4, List.length_cons]
    exact ⟨trivial, by rw [show k + (e + 1) = k + 1 + e from by omega], by rw [h6]⟩

theorem anyMark (h : List UInt8) : Lib.containsAny h [35, 44, 64] = h.any fun c => c == 35 || c == 44 || c == 64 := by
  unfold Lib.containsAny
  induction h with
  | nil => rfl
  | cons b l ih =>
    unfold Lib.indexAny
    have hb : ([35, 44, 64] : List UInt8).contains b = (b == 35 || b == 44 || b == 64) := by
      simp only [List.contains, List.elem, Bool.or_assoc]
      cases b == 35 <;> cases b == 44 <;> cases b == 64 <;> rfl
    rw [hb, List.any_cons, ← ih]
    have hge := Lib.indexAny_ge [35, 44, 64] l
    cases hx : (b == 35 || b == 44 || b == 64) with
    | true => simp
    | false =>
      simp only [Bool.false_eq_true, if_false, Bool.false_or]
      split
      · rename_i h1
        have := beq_iff_eq.mp h1
        rw [this]
      · rename_i h1
        have : ¬ Lib.indexAny l [35, 44, 64] = -1 := fun h => h1 (beq_iff_eq.mpr h)
        rw [decide_eq_decide]; omega
-- THE WALK, PRINTED BY gen_exp.py

/-- What is known where no exponent begins, or one does. -/
theorem expAt_short {l : List UInt8} {i : Nat} (h : l.length ≤ i + 1) : expAt (l.drop i) = none := by
  have : (l.drop i).length ≤ 1 := by rw [List.length_drop]; omega
  match l.drop i, this with
  | [], _ => rfl
  | [_], _ => simp [expAt]
theorem expAt_not {l : List UInt8} {i : Nat} {c : UInt8} (hc : l[i]? = some c) (h : c ≠ 69) : expAt (l.drop i) = none := by
  rw [drop_at hc]
  unfold expAt
  split
  · rename_i he; injection he with he _; exact absurd he h
  · rename_i he; injection he with he _; exact absurd he h
  · rfl
theorem expAt_two {l : List UInt8} {i : Nat} {c d : UInt8} (hc : l[i]? = some c) (hd : l[i + 1]? = some d) (h1 : d ≠ 43) (h2 : d ≠ 48) : expAt (l.drop i) = none := by
  rw [drop_at hc, drop_at hd]
  unfold expAt
  split
  · rename_i he; injection he with _ he; injection he with he _; exact absurd he h1
  · rename_i he; injection he with _ he; injection he with he _; exact absurd he h2
  · rfl
theorem expAt_end {l : List UInt8} {i : Nat} {c : UInt8} (hc : l[i]? = some c) (hd : l[i + 1]? = some 43) (h : l.length ≤ i + 2) : expAt (l.drop i) = none := by
  rw [drop_at hc, drop_at hd, List.drop_eq_nil_of_le h]
  unfold expAt
  split
  · rename_i he; injection he with _ he; injection he with _ he; cases he
  · rename_i he; injection he with _ he; injection he with he _; cases he
  · rfl
theorem expAt_three {l : List UInt8} {i : Nat} {c d : UInt8} (hc : l[i]? = some c) (hd : l[i + 1]? = some 43) (hx : l[i + 2]? = some d) (h : d ≠ 48) : expAt (l.drop i) = none := by
  rw [drop_at hc, drop_at hd, drop_at hx]
  unfold expAt
  split
  · rename_i he; injection he with _ he; injection he with _ he; injection he with he _; exact absurd he h
  · rename_i he; injection he with _ he; injection he with he _; cases he
  · rfl
theorem expAt_bare {l : List UInt8} {i : Nat} (hc : l[i]? = some 69) (hd : l[i + 1]? = some 48) : expAt (l.drop i) = some (false, ((l.drop (i + 1)).takeWhile (· == 48)).length, (l.drop (i + 1)).dropWhile (· == 48)) := by
  rw [drop_at hc, drop_at hd]; rfl
theorem expAt_plus {l : List UInt8} {i : Nat} (hc : l[i]? = some 69) (hd : l[i + 1]? = some 43) (hx : l[i + 2]? = some 48) : expAt (l.drop i) = some (true, ((l.drop (i + 2)).takeWhile (· == 48)).length, (l.drop (i + 2)).dropWhile (· == 48)) := by
  rw [drop_at hc, drop_at hd, drop_at hx]; rfl
theorem u8_eq {c : UInt8} {n : Nat} (h : (c.toNat : Int) = n) (hn : n < 256) : c = UInt8.ofNat n := by
  apply UInt8.toNat_inj.mp
  rw [UInt8.toNat_ofNat']
  omega
theorem u8_ne {c : UInt8} {n : Nat} (h : ¬ (c.toNat : Int) = n) (hn : n < 256) : c ≠ UInt8.ofNat n := fun e => h (by rw [e, UInt8.toNat_ofNat']; omega)

/-- Zeros from place k on, e of them so far. -/
def Zeros (l : List UInt8) (k e : Nat) : Prop := ∀ j, j < e → l[k + j]? = some 48
theorem Zeros.more {l : List UInt8} {k e : Nat} {c : UInt8} (h : Zeros l k e) (hc : l[k + e]? = some c) (h48 : (c.toNat : Int) = 48) : Zeros l k (e + 1) := by
  intro j hj
  by_cases hje : j = e
  · subst hje; rw [hc, u8_eq (n := 48) h48 (by decide)]; rfl
  · exact h j (by omega)
theorem Zeros.done {l : List UInt8} {k e : Nat} (h : Zeros l k e) (h2 : ∀ c, l[k + e]? = some c → c ≠ 48) : ((l.drop k).takeWhile (· == 48)).length = e ∧ (l.drop k).dropWhile (· == 48) = l.drop (k + e) := by
  obtain ⟨_, h4, h5⟩ := span_at (· == 48) l k e (fun j hj => ⟨48, h j hj, rfl⟩) (fun c hc => beq_eq_false_iff_ne.mpr (h2 c hc))
  exact ⟨h5, h4⟩

theorem eqDec (d : Nat) (w : World) (x0 y0 : Bool) (x1 y1 x2 y2 : ByteArray) :
    (Op.equalIn (d + 2) 24 (.agg #[.bool x0, .string x1, .string x2]) (.agg #[.bool y0, .string y1, .string y2])).run Tryd.prog w = .ok (x0 == y0 && (x1.toList == y1.toList && (x2.toList == y2.toList))) w := by
  refine eqA_of Tryd.underlying24 (by kernel_rfl) ?_
  refine eqf_cons (by rfl) (by go_simp; rfl) (by go_simp; rfl) (by go_simp) ?_
  refine eqf_cons (by rfl) (by go_simp; rfl) (by go_simp; rfl) (by go_simp) ?_
  exact eqf_last (by rfl) (by go_simp; rfl) (by go_simp; rfl) (by go_simp)
end Go.Proofs.YtjpdakepfmepnaaDoor

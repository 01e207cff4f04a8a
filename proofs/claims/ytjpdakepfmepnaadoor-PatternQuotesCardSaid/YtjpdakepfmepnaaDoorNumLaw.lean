/- The reader of numbers, step by step: plain laws, no program in sight. -/
import Derived.Test.YtjpdakepfmepnaaDoorSpec
set_option linter.unusedVariables false
namespace Go.Proofs.YtjpdakepfmepnaaDoor.Pat

theorem dropC {l : List UInt8} {k : Nat} {c : UInt8} (h : l[k]? = some c) : l.drop k = c :: l.drop (k + 1) := by
  obtain ⟨hlt, rfl⟩ := List.getElem?_eq_some_iff.mp h
  exact List.drop_eq_getElem_cons hlt
/-- What was read between two places. -/
def pre (l : List UInt8) (i k : Nat) : List UInt8 := (l.drop i).take (k - i)
theorem pre_self (l : List UInt8) (i : Nat) : pre l i i = [] := by simp [pre]
theorem pre_snoc {l : List UInt8} {i k : Nat} {c : UInt8} (hik : i ≤ k) (hc : l[k]? = some c) : pre l i (k + 1) = pre l i k ++ [c] := by
  unfold pre
  have hlt := (List.getElem?_eq_some_iff.mp hc).1
  have h1 : (l.drop i)[k - i]? = some c := by rw [List.getElem?_drop, show i + (k - i) = k from by omega]; exact hc
  obtain ⟨h2, h3⟩ := List.getElem?_eq_some_iff.mp h1
  rw [show k + 1 - i = (k - i) + 1 from by omega, List.take_succ_eq_append_getElem h2, h3]
theorem pre_length {l : List UInt8} {i k : Nat} (hik : i ≤ k) (hk : k ≤ l.length) : (pre l i k).length = k - i := by
  unfold pre; rw [List.length_take, List.length_drop]; omega
theorem pre_last {l : List UInt8} {i k : Nat} (hik : i < k) (hk : k ≤ l.length) : (pre l i k).getLast? = l[k - 1]? := by
  have h1 : l[k - 1]? = some (l[k - 1]'(by omega)) := List.getElem?_eq_getElem (by omega)
  have h2 := pre_snoc (l := l) (i := i) (k := k - 1) (by omega) h1
  rw [show k - 1 + 1 = k from by omega] at h2
  rw [h2, h1]; simp

/-- May no comma stand at place k? -/
def pcAt (l : List UInt8) (i k : Nat) : Bool := k == i || l[k - 1]? == some 44
theorem pcAt_start (l : List UInt8) (i : Nat) : pcAt l i i = true := by simp [pcAt]
theorem pcAt_next {l : List UInt8} {i k : Nat} {c : UInt8} (hik : i ≤ k) (hc : l[k]? = some c) : pcAt l i (k + 1) = (c == 44) := by
  unfold pcAt
  have : (k + 1 == i) = false := beq_eq_false_iff_ne.mpr (by omega)
  rw [this, show k + 1 - 1 = k from by omega, hc]
  rfl

def sigs (h : List UInt8) : Nat := ((marks h).dropWhile (· != 64)).length
theorem marks_snoc (h : List UInt8) (c : UInt8) : marks (h ++ [c]) = if c = 44 then marks h else marks h ++ [c] := by
  unfold marks
  rw [List.filter_append]
  by_cases hc : c = 44
  · subst hc; simp
  · simp [hc]
theorem dropWhile_none {p : UInt8 → Bool} {l : List UInt8} (h : ∀ c ∈ l, p c = true) : l.dropWhile p = [] := by
  induction l with
  | nil => rfl
  | cons a q ih => rw [List.dropWhile_cons, h a (by simp)]; simpa using ih fun c hc => h c (by simp [hc])
theorem dropWhile_snoc_some {p : UInt8 → Bool} {l : List UInt8} {c : UInt8} (h : ∃ x ∈ l, p x = false) : (l ++ [c]).dropWhile p = l.dropWhile p ++ [c] := by
  induction l with
  | nil => obtain ⟨x, hx, _⟩ := h; cases hx
  | cons a q ih =>
    rw [List.cons_append, List.dropWhile_cons, List.dropWhile_cons]
    cases hp : p a with
    | false => rfl
    | true =>
      simp only [if_true]
      apply ih
      obtain ⟨x, hx, hf⟩ := h
      rcases List.mem_cons.mp hx with rfl | hx
      · rw [hp] at hf; cases hf
      · exact ⟨x, hx, hf⟩
theorem dropWhile_snoc_none {p : UInt8 → Bool} {l : List UInt8} {c : UInt8} (h : ∀ x ∈ l, p x = true) : (l ++ [c]).dropWhile p = if p c then [] else [c] := by
  induction l with
  | nil => simp [List.dropWhile_cons]
  | cons a q ih =>
    rw [List.cons_append, List.dropWhile_cons, h a (by simp)]
    simp only [if_true]
    exact ih fun x hx => h x (by simp [hx])
theorem mem_marks {h : List UInt8} {c : UInt8} : c ∈ marks h ↔ c ∈ h ∧ c ≠ 44 := by unfold marks; rw [List.mem_filter]; simp
theorem sigs_in {h : List UInt8} {c : UInt8} (hc : c ≠ 44) (h64 : 64 ∈ h) : sigs (h ++ [c]) = sigs h + 1 := by
  unfold sigs
  rw [marks_snoc, if_neg hc, dropWhile_snoc_some ⟨64, mem_marks.mpr ⟨h64, by decide⟩, by decide⟩]
  simp
theorem sigs_comma (h : List UInt8) : sigs (h ++ [44]) = sigs h := by unfold sigs; rw [marks_snoc, if_pos rfl]
theorem sigs_out {h : List UInt8} {c : UInt8} (hc : c ≠ 44) (h64 : 64 ∉ h) : sigs (h ++ [c]) = if c = 64 then 1 else 0 := by
  unfold sigs
  rw [marks_snoc, if_neg hc, dropWhile_snoc_none (fun x hx => by
    have := (mem_marks.mp hx).1
    simp only [bne_iff_ne, ne_eq]
    rintro rfl; exact h64 this)]
  by_cases h : c = 64
  · subst h; rfl
  · have : (c != 64) = true := bne_iff_ne.mpr h
    rw [this, if_neg h]; rfl
theorem sigs_zero {h : List UInt8} (h64 : 64 ∉ h) : sigs h = 0 := by
  unfold sigs
  rw [dropWhile_none]
  · rfl
  · intro x hx
    have := (mem_marks.mp hx).1
    simp only [bne_iff_ne, ne_eq]
    rintro rfl; exact h64 this

/-- Where the scan of a number's head stands: at place k, in state st, having counted. -/
structure HR (l : List UInt8) (i st k mi ms xs : Nat) : Prop where
  ik : i ≤ k
  kl : k ≤ l.length
  head : headS true 0 (l.drop i) = (headS (pcAt l i k) st (l.drop k)).map fun x => (pre l i k ++ x.1, x.2)
  st3 : st ≤ 3
  cmi : mi = (pre l i k).countP digit
  cms : ms = (pre l i k).count 64
  cxs : xs = sigs (pre l i k)
  no64 : st ≤ 1 → 64 ∉ pre l i k
  has64 : 2 ≤ st → 64 ∈ pre l i k
  chars : ∀ c ∈ pre l i k, mark c = true ∨ c = 44
theorem HR.start {l : List UInt8} {i : Nat} (h : i ≤ l.length) : HR l i 0 i 0 0 0 := by
  refine ⟨Nat.le_refl _, h, ?_, by omega, ?_, ?_, ?_, ?_, fun h => absurd h (by omega), ?_⟩
  · rw [pcAt_start, pre_self]; simp
  · rw [pre_self]; rfl
  · rw [pre_self]; rfl
  · rw [pre_self]; rfl
  · rw [pre_self]; simp
  · rw [pre_self]; simp
section
variable {l : List UInt8} {i st k mi ms xs : Nat} {c : UInt8}
theorem HR.fail (h : HR l i st k mi ms xs) (hf : headS (pcAt l i k) st (l.drop k) = none) : numS (l.drop i) = none := by
  unfold numS
  rw [h.head, hf]; rfl
theorem HR.comma_bad (h : HR l i st k mi ms xs) (hc : l[k]? = some 44) (hp : pcAt l i k = true) : numS (l.drop i) = none := by
  apply h.fail
  rw [dropC hc, headS, if_pos rfl, hp]; rfl
theorem HR.mark_bad (h : HR l i st k mi ms xs) (hc : l[k]? = some c) (hn : c ≠ 44) (hm : mark c = true) (hs : stepSt st c = none) : numS (l.drop i) = none := by
  apply h.fail
  rw [dropC hc, headS, if_neg hn, hm, hs]; rfl
theorem HR.next {st' mi' ms' xs' : Nat} (h : HR l i st k mi ms xs) (hc : l[k]? = some c) (hh : headS (pcAt l i k) st (l.drop k) = (headS (c == 44) st' (l.drop (k + 1))).map fun x => (c :: x.1, x.2)) (hst : st' ≤ 3)
    (h1 : mi' = (pre l i k ++ [c]).countP digit) (h2 : ms' = (pre l i k ++ [c]).count 64) (h3 : xs' = sigs (pre l i k ++ [c])) (h4 : st' ≤ 1 → 64 ∉ pre l i k ++ [c]) (h5 : 2 ≤ st' → 64 ∈ pre l i k ++ [c]) (h6 : mark c = true ∨ c = 44) : HR l i st' (k + 1) mi' ms' xs' := by
  have hlt := (List.getElem?_eq_some_iff.mp hc).1
  have hp := pre_snoc h.ik hc
  refine ⟨by have := h.ik; omega, hlt, ?_, hst, by rw [hp]; exact h1, by rw [hp]; exact h2, by rw [hp]; exact h3, by rw [hp]; exact h4, by rw [hp]; exact h5, ?_⟩
  · rw [h.head, hh, pcAt_next h.ik hc, hp, Option.map_map]
    congr 1
    funext x
    simp
  · rw [hp]
    intro d hd
    rcases List.mem_append.mp hd with hd | hd
    · exact h.chars d hd
    · obtain rfl := List.mem_singleton.mp hd; exact h6
theorem HR.comma (h : HR l i st k mi ms xs) (hc : l[k]? = some 44) (hp : pcAt l i k = false) : HR l i st (k + 1) mi ms xs := by
  refine h.next hc ?_ h.st3 ?_ ?_ ?_ ?_ ?_ (.inr rfl)
  · rw [dropC hc, headS, if_pos rfl, hp]; rfl
  · rw [List.countP_append, h.cmi]; rfl
  · rw [List.count_append, h.cms]; rfl
  · rw [sigs_comma]; exact h.cxs
  · intro hs; rw [List.mem_append, not_or]; exact ⟨h.no64 hs, by decide⟩
  · intro hs; exact List.mem_append_left _ (h.has64 hs)
theorem HR.sharp0 (h : HR l i 0 k mi ms xs) (hc : l[k]? = some 35) : HR l i 0 (k + 1) mi ms xs := by
  refine h.next hc ?_ (by omega) ?_ ?_ ?_ ?_ (fun hs => absurd hs (by omega)) (.inl rfl)
  · rw [dropC hc]; rfl
  · rw [List.countP_append, h.cmi]; rfl
  · rw [List.count_append, h.cms]; rfl
  · rw [sigs_out (by decide) (h.no64 (by omega)), h.cxs, sigs_zero (h.no64 (by omega))]; rfl
  · intro hs; rw [List.mem_append, not_or]; exact ⟨h.no64 hs, by decide⟩
theorem HR.sharp2 (h : HR l i st k mi ms xs) (hs2 : 2 ≤ st) (hc : l[k]? = some 35) : HR l i 3 (k + 1) mi ms (xs + 1) := by
  refine h.next hc ?_ (by omega) ?_ ?_ ?_ (fun hs => absurd hs (by omega)) (fun _ => List.mem_append_left _ (h.has64 hs2)) (.inl rfl)
  · rw [dropC hc, headS, if_neg (by decide)]
    have : stepSt st 35 = some 3 := by unfold stepSt; rw [if_pos rfl, if_neg (by omega), if_pos hs2]
    rw [this]; rfl
  · rw [List.countP_append, h.cmi]; rfl
  · rw [List.count_append, h.cms]; rfl
  · rw [sigs_in (by decide) (h.has64 hs2), h.cxs]
theorem HR.at2 (h : HR l i st k mi ms xs) (hs2 : st = 0 ∨ st = 2) (hc : l[k]? = some 64) : HR l i 2 (k + 1) mi (ms + 1) (xs + 1) := by
  refine h.next hc ?_ (by omega) ?_ ?_ ?_ (fun hs => absurd hs (by omega)) (fun _ => List.mem_append_right _ (by simp)) (.inl rfl)
  · rw [dropC hc, headS, if_neg (by decide)]
    have : stepSt st 64 = some 2 := by unfold stepSt; rw [if_neg (by decide), if_pos rfl, if_pos hs2]
    rw [this]; rfl
  · rw [List.countP_append, h.cmi]; rfl
  · rw [List.count_append, h.cms]; rfl
  · rcases hs2 with rfl | rfl
    · rw [sigs_out (by decide) (h.no64 (by omega)), h.cxs, sigs_zero (h.no64 (by omega))]; rfl
    · rw [sigs_in (by decide) (h.has64 (by omega)), h.cxs]
theorem digit_ne {c : UInt8} (h : digit c = true) : c ≠ 35 ∧ c ≠ 64 ∧ c ≠ 44 ∧ c ≠ 46 ∧ c ≠ 69 := by
  refine ⟨?_, ?_, ?_, ?_, ?_⟩ <;> (rintro rfl; revert h; decide)
theorem HR.dig (h : HR l i st k mi ms xs) (hs1 : st ≤ 1) (hc : l[k]? = some c) (hd : digit c = true) : HR l i 1 (k + 1) (mi + 1) ms xs := by
  obtain ⟨n1, n2, n3, _, _⟩ := digit_ne hd
  have hm : mark c = true := by simp [mark, hd]
  have n64 := h.no64 hs1
  refine h.next hc ?_ (by omega) ?_ ?_ ?_ ?_ (fun hs => absurd hs (by omega)) (.inl hm)
  · rw [dropC hc, headS, if_neg n3, hm]
    have : stepSt st c = some 1 := by unfold stepSt; rw [if_neg n1, if_neg n2, if_pos hd, if_pos hs1]
    rw [this]
    have e44 : (c == 44) = false := beq_eq_false_iff_ne.mpr n3
    rw [e44]; rfl
  · rw [List.countP_append, h.cmi]; simp [hd]
  · rw [List.count_append, h.cms]
    have : [c].count 64 = 0 := by rw [List.count_singleton]; simp [n2]
    omega
  · rw [sigs_out n3 n64, h.cxs, sigs_zero n64, if_neg n2]
  · intro _; rw [List.mem_append, not_or]; exact ⟨n64, by simp [Ne.symm n2]⟩
theorem HR.small (h : HR l i st k mi ms xs) : mi ≤ k - i ∧ ms ≤ k - i ∧ xs ≤ k - i := by
  have hl := pre_length h.ik h.kl
  refine ⟨?_, ?_, ?_⟩
  · rw [h.cmi, ← hl]; exact List.countP_le_length
  · rw [h.cms, ← hl]; exact List.count_le_length
  · rw [h.cxs, ← hl]
    unfold sigs marks
    exact Nat.le_trans ((List.dropWhile_sublist _).length_le) (List.length_filter_le _ _)
theorem mark_dig {c : UInt8} (hd : digit c = true) : mark c = true := by unfold mark; rw [hd]; simp
theorem mark_not {c : UInt8} (h1 : c ≠ 35) (h2 : c ≠ 64) (hd : digit c = false) : mark c = false := by unfold mark; rw [hd]; simp [h1, h2]
theorem HR.done (h : HR l i st k mi ms xs) (hk : k = l.length) : headS true 0 (l.drop i) = some (pre l i k, st, l.drop k) := by
  rw [h.head, List.drop_eq_nil_of_le (by omega)]; simp [headS]
theorem HR.stopped (h : HR l i st k mi ms xs) (hc : l[k]? = some c) (hn : c ≠ 44) (hm : mark c = false) : headS true 0 (l.drop i) = some (pre l i k, st, l.drop k) := by
  rw [h.head, dropC hc, headS, if_neg hn, hm]; simp
end
end Go.Proofs.YtjpdakepfmepnaaDoor.Pat

/- What stands behind a piece that was read is the text's end. -/
import Derived.Test.YtjpdakepfmepnaaDoorSpec
set_option linter.unusedVariables false
namespace Go.Proofs.YtjpdakepfmepnaaDoor.Pat

theorem quoteB_suf : ∀ (acc s t r : List UInt8), quoteB acc s = some (t, r) → r <:+ s
  | _, [], _, _, h => by simp [quoteB] at h
  | acc, [c], t, r, h => by
    unfold quoteB at h
    split at h
    · simp at h; rw [h.2]; exact List.nil_suffix
    · cases h
  | acc, c :: d :: q, t, r, h => by
    unfold quoteB at h
    split at h
    · split at h
      · exact ((quoteB_suf (acc ++ [39]) q t r h).trans (List.suffix_cons d q)).trans (List.suffix_cons c _)
      · simp at h; rw [← h.2]; exact List.suffix_cons c _
    · exact (quoteB_suf (acc ++ [c]) (d :: q) t r h).trans (List.suffix_cons c _)
theorem quoteS_suf {s t r : List UInt8} (h : quoteS s = some (t, r)) : r <:+ s := by
  unfold quoteS at h
  split at h
  · simp at h; rw [← h.2]; exact List.drop_suffix 2 s
  · exact (quoteB_suf _ _ _ _ h).trans (List.drop_suffix 1 s)
theorem affS_suf : ∀ (n : Nat) (s : List UInt8) (l a : List Aff) (r : List UInt8), s.length ≤ n → affS s l = some (a, r) → r <:+ s := by
  intro n
  induction n with
  | zero =>
    intro s l a r hl h
    obtain rfl := List.eq_nil_of_length_eq_zero (by omega : s.length = 0)
    rw [affS] at h
    simp at h; rw [h.2]; exact List.nil_suffix
  | succ n ih =>
    intro s l a r hl h
    cases s with
    | nil =>
      rw [affS] at h
      simp at h; rw [h.2]; exact List.nil_suffix
    | cons c q =>
      rw [affS] at h
      split at h
      · split at h
        · cases h
        · rename_i t q2 hq
          have h1 := quoteS_len hq (by simp)
          exact (ih q2 _ a r (by omega) h).trans (quoteS_suf hq)
      · split at h
        · rename_i a2 k hk
          split at h
          · cases h
          · have := signS_pos hk
            exact (ih _ _ a r (by rw [List.length_drop]; simp at hl ⊢; omega) h).trans (List.drop_suffix _ _)
        · split at h
          · simp at h; rw [← h.2]; exact List.suffix_refl _
          · exact (ih q _ a r (by simp at hl; omega) h).trans (List.suffix_cons c q)
theorem headS_suf : ∀ (s : List UInt8) (pc : Bool) (st : Nat) (h : List UInt8) (st2 : Nat) (r : List UInt8), headS pc st s = some (h, st2, r) → r <:+ s
  | [], _, _, _, _, _, h => by simp [headS] at h; rw [h.2.2]; exact List.nil_suffix
  | c :: q, pc, st, x, st2, r, h => by
    unfold headS at h
    split at h
    · split at h
      · cases h
      · cases h1 : headS true st q with
        | none => rw [h1] at h; cases h
        | some y =>
          rw [h1] at h
          obtain ⟨y1, y2, y3⟩ := y
          simp at h
          rw [← h.2.2]
          exact (headS_suf q _ _ _ _ _ h1).trans (List.suffix_cons c q)
    · split at h
      · split at h
        · cases h
        · rename_i st' hst
          cases h1 : headS false st' q with
          | none => rw [h1] at h; cases h
          | some y =>
            rw [h1] at h
            obtain ⟨y1, y2, y3⟩ := y
            simp at h
            rw [← h.2.2]
            exact (headS_suf q _ _ _ _ _ h1).trans (List.suffix_cons c q)
      · simp at h; rw [← h.2.2]; exact List.suffix_refl _
theorem dropWhile_suf (p : UInt8 → Bool) (l : List UInt8) : l.dropWhile p <:+ l := List.dropWhile_suffix p
theorem fracS_suf {st : Nat} {s p r : List UInt8} {n : Nat} (h : fracS st s = some (p, n, r)) : r <:+ s := by
  unfold fracS at h
  split at h
  · simp at h; rw [h.2.2]; exact List.nil_suffix
  · rename_i c q
    split at h
    · split at h
      · cases h
      · dsimp only at h
        have hp : (placesS q).2.2 <:+ c :: q := ((dropWhile_suf _ _).trans (dropWhile_suf _ _)).trans (List.suffix_cons c q)
        split at h
        · cases h
        · split at h
          · have h2 : placesS q = (p, n, r) := by simpa using h
            rw [h2] at hp; exact hp
          · split at h
            · cases h
            · have h2 : placesS q = (p, n, r) := by simpa using h
              rw [h2] at hp; exact hp
    · simp at h; rw [← h.2.2]; exact List.suffix_refl _
theorem expAt_suf {s r : List UInt8} {b : Bool} {n : Nat} (h : expAt s = some (b, n, r)) : r <:+ s := by
  unfold expAt at h
  split at h
  · simp only [Option.some.injEq, Prod.mk.injEq] at h
    rw [← h.2.2]
    exact ((dropWhile_suf _ _).trans (List.suffix_cons _ _)).trans (List.suffix_cons _ _)
  · simp only [Option.some.injEq, Prod.mk.injEq] at h
    rw [← h.2.2]
    exact (dropWhile_suf _ _).trans (List.suffix_cons _ _)
  · cases h
theorem expS_suf {h s r : List UInt8} {m m2 : Num} (he : expS h m s = some (m2, r)) : r <:+ s := by
  unfold expS at he
  split at he
  · simp at he; rw [← he.2]; exact List.suffix_refl _
  · rename_i b n q hq
    split at he
    · cases he
    · simp only [Option.some.injEq, Prod.mk.injEq] at he
      rw [← he.2]; exact expAt_suf hq
theorem numS_suf {s r : List UInt8} {m : Num} (h : numS s = some (m, r)) : r <:+ s := by
  unfold numS at h
  split at h
  · cases h
  · rename_i x st q hq
    split at h
    · cases h
    · split at h
      · cases h
      · rename_i p n r2 hf
        exact ((expS_suf h).trans (fracS_suf hf)).trans (headS_suf _ _ _ _ _ _ hq)
theorem suf_drop {l r : List UInt8} {i : Nat} (h : r <:+ l.drop i) (hi : i ≤ l.length) : r = l.drop (l.length - r.length) ∧ i ≤ l.length - r.length := by
  have h1 := h.trans (List.drop_suffix i l)
  have hl := h.length_le
  rw [List.length_drop] at hl
  have h2 := h1.length_le
  obtain ⟨t, ht⟩ := h1
  have hlen : t.length = l.length - r.length := by have := congrArg List.length ht; simp at this; omega
  refine ⟨?_, by omega⟩
  rw [← hlen]
  conv => rhs; rw [← ht]
  simp
end Go.Proofs.YtjpdakepfmepnaaDoor.Pat

/- The reader of affixes, step by step: plain laws, no program in sight. -/
import Derived.Test.YtjpdakepfmepnaaDoorSpec
set_option linter.unusedVariables false
namespace Go.Proofs.YtjpdakepfmepnaaDoor.Pat

theorem affS_nil (l : List Aff) : affS [] l = some (l, []) := by rw [affS]
theorem affS_quote (r : List UInt8) (l : List Aff) : affS (39 :: r) l = match quoteS (39 :: r) with
    | none => none
    | some (t, q) => affS q (addS l ⟨1, t, 0⟩) := by
  rw [affS]
  simp only [if_true]
  split <;> simp_all
theorem affS_other {c : UInt8} (h : c ≠ 39) (r : List UInt8) (l : List Aff) : affS (c :: r) l = match signS (c :: r) with
    | some (a, n) => if lastN (addS l a) > 3 then none else affS ((c :: r).drop n) (addS l a)
    | none => if stop c then some (l, c :: r) else affS r (addS l ⟨1, [c], 0⟩) := by
  rw [affS]
  simp only [if_neg h]
  split <;> simp_all

theorem addS_ne (l : List Aff) (a : Aff) : ∃ L b, addS l a = L ++ [b] := by
  unfold addS
  split
  · exact ⟨_, _, rfl⟩
  · split
    · split
      · exact ⟨_, _, rfl⟩
      · split <;> exact ⟨_, _, rfl⟩
    · exact ⟨_, _, rfl⟩
theorem addS_len (l : List Aff) (a : Aff) : (addS l a).length ≤ l.length + 1 := by
  unfold addS
  split
  · simp
  · split
    · split
      · simp
      · split <;> simp
    · simp
theorem lastN_snoc (L : List Aff) (b : Aff) : lastN (L ++ [b]) = b.n := by simp [lastN]

/-- What holds of the pieces that were read of k bytes. -/
structure Small (l : List Aff) (k : Nat) : Prop where
  len : l.length ≤ k
  text : ∀ b ∈ l, b.text.length ≤ k
  num : ∀ b ∈ l, 0 ≤ b.n ∧ b.n ≤ 3 ∧ (b.kind ≠ 6 → b.n = 0)
theorem Small.nil (k : Nat) : Small [] k := ⟨by simp, by simp, by simp⟩
theorem Small.mono {l : List Aff} {k j : Nat} (h : Small l k) (hkj : k ≤ j) : Small l j := ⟨by have := h.len; omega, fun b hb => by have := h.text b hb; omega, h.num⟩
theorem Small.snoc {l : List Aff} {k : Nat} {a : Aff} (h : ∀ b ∈ l, b.text.length ≤ k) (hn : ∀ b ∈ l, 0 ≤ b.n ∧ b.n ≤ 3 ∧ (b.kind ≠ 6 → b.n = 0)) (hl : l.length + 1 ≤ k) (ht : a.text.length ≤ k) (ha : 0 ≤ a.n ∧ a.n ≤ 3 ∧ (a.kind ≠ 6 → a.n = 0)) : Small (l ++ [a]) k := by
  refine ⟨by simp; omega, fun b hb => ?_, fun b hb => ?_⟩
  · rcases List.mem_append.mp hb with hb | hb
    · exact h b hb
    · obtain rfl := List.mem_singleton.mp hb; exact ht
  · rcases List.mem_append.mp hb with hb | hb
    · exact hn b hb
    · obtain rfl := List.mem_singleton.mp hb; exact ha
theorem Small.add {l : List Aff} {k j : Nat} (h : Small l k) {a : Aff} (ha : k + a.text.length ≤ j) (hj : k < j) (hn : a.kind = 6 → a.n = 1) (hz : a.kind ≠ 6 → a.n = 0) (h3 : ¬ lastN (addS l a) > 3) : Small (addS l a) j := by
  have hm := h.mono (j := j) (by omega)
  have hlen := h.len
  have hna : 0 ≤ a.n ∧ a.n ≤ 3 ∧ (a.kind ≠ 6 → a.n = 0) := by
    by_cases h6 : a.kind = 6
    · have := hn h6; exact ⟨by omega, by omega, fun x => absurd h6 x⟩
    · have := hz h6; exact ⟨by omega, by omega, fun _ => this⟩
  have hplain : Small (l ++ [a]) j := Small.snoc hm.text hm.num (by omega) (by omega) hna
  revert h3
  unfold addS
  split
  · intro _; exact hplain
  · rename_i b0 hl
    have hmem : b0 ∈ l := List.mem_of_getLast? hl
    have hpos : 0 < l.length := List.length_pos_of_mem hmem
    have ht0 := h.text b0 hmem
    have hn0 := h.num b0 hmem
    have hdt : ∀ b ∈ l.dropLast, b.text.length ≤ j := fun b hb => hm.text b ((List.dropLast_sublist _).subset hb)
    have hdn : ∀ b ∈ l.dropLast, 0 ≤ b.n ∧ b.n ≤ 3 ∧ (b.kind ≠ 6 → b.n = 0) := fun b hb => hm.num b ((List.dropLast_sublist _).subset hb)
    have hdl : l.dropLast.length + 1 ≤ j := by simp; omega
    split
    · rename_i hkk
      split
      · intro _
        exact Small.snoc hdt hdn hdl (by simp; omega) hn0
      · split
        · rename_i h6
          intro h3
          rw [lastN_snoc] at h3
          have h1 := hn h6
          exact Small.snoc hdt hdn hdl (by simp only; omega) ⟨by simp only; omega, by simp only at h3 ⊢; omega, fun x => absurd (hkk.trans h6) x⟩
        · intro _; exact hplain
    · intro _; exact hplain
theorem Small.lastText {l : List Aff} {k : Nat} (h : Small l k) (t : List UInt8) : lastN (addS l ⟨1, t, 0⟩) = 0 := by
  unfold addS
  split
  · simp [lastN]
  · rename_i b hb
    have hm : b ∈ l := List.mem_of_getLast? hb
    split
    · rename_i hk
      rw [if_pos rfl, lastN_snoc]
      exact (h.num b hm).2.2 (by rw [hk]; simp)
    · simp [lastN]

theorem quoteB_text : ∀ (acc s t r : List UInt8), quoteB acc s = some (t, r) → t.length + r.length + 1 ≤ acc.length + s.length
  | _, [], _, _, h => by simp [quoteB] at h
  | acc, [c], t, r, h => by
    unfold quoteB at h
    split at h
    · simp at h; rw [← h.1, ← h.2]; simp; try omega
    · cases h
  | acc, c :: d :: q, t, r, h => by
    unfold quoteB at h
    split at h
    · split at h
      · have := quoteB_text (acc ++ [39]) q t r h; simp at this ⊢; omega
      · simp at h; rw [← h.1, ← h.2]; simp; try omega
    · have := quoteB_text (acc ++ [c]) (d :: q) t r h; simp at this ⊢; omega
theorem quoteS_text {s t r : List UInt8} (h : quoteS s = some (t, r)) : t.length + r.length ≤ s.length := by
  unfold quoteS at h
  split at h
  · rename_i hp
    have : 2 ≤ s.length := (List.isPrefixOf_iff_prefix.mp hp).length_le
    simp at h; rw [← h.1, ← h.2]; simp; omega
  · have := quoteB_text _ _ _ _ h; simp at this; omega
theorem quoteB_drop : ∀ (acc s t r : List UInt8), quoteB acc s = some (t, r) → r = s.drop (s.length - r.length)
  | _, [], _, _, h => by simp [quoteB] at h
  | acc, [c], t, r, h => by
    unfold quoteB at h
    split at h
    · simp at h; rw [← h.2]; simp
    · cases h
  | acc, c :: d :: q, t, r, h => by
    have hlen := quoteB_len acc (c :: d :: q) t r h
    unfold quoteB at h
    split at h
    · split at h
      · have h1 := quoteB_drop (acc ++ [39]) q t r h
        have h2 := quoteB_len _ _ _ _ h
        have e : (c :: d :: q).length - r.length = (q.length - r.length) + 2 := by simp; omega
        rw [e]; exact h1
      · simp at h; rw [← h.2]; simp
    · have h1 := quoteB_drop (acc ++ [c]) (d :: q) t r h
      have h2 := quoteB_len _ _ _ _ h
      have e : (c :: d :: q).length - r.length = ((d :: q).length - r.length) + 1 := by simp at h2 ⊢; omega
      rw [e]; exact h1
theorem quoteS_drop {s t r : List UInt8} (h : quoteS s = some (t, r)) : r = s.drop (s.length - r.length) := by
  unfold quoteS at h
  split at h
  · rename_i hp
    have : 2 ≤ s.length := (List.isPrefixOf_iff_prefix.mp hp).length_le
    simp at h; rw [← h.2]; simp; omega
  · have h1 := quoteB_drop _ _ _ _ h
    have h2 := quoteB_len _ _ _ _ h
    simp at h2
    rw [List.drop_drop] at h1
    simp at h1
    rw [show s.length - r.length = 1 + (s.length - 1 - r.length) from by omega]
    exact h1
theorem signS_text {s : List UInt8} {a : Aff} {n : Nat} (h : signS s = some (a, n)) : a.text = [] ∧ n ≤ s.length ∧ (a.kind = 6 → a.n = 1) ∧ (a.kind ≠ 6 → a.n = 0) := by
  unfold signS at h
  split at h
  · rename_i hp
    have := (List.isPrefixOf_iff_prefix.mp hp).length_le
    simp at h this; rw [← h.1, ← h.2]; exact ⟨rfl, by omega, by decide, by decide⟩
  · split at h
    · rename_i hp
      have := (List.isPrefixOf_iff_prefix.mp hp).length_le
      simp at h this; rw [← h.1, ← h.2]; exact ⟨rfl, by omega, by decide, by decide⟩
    · split at h
      · rename_i hp
        have := (List.isPrefixOf_iff_prefix.mp hp).length_le
        simp at h this; rw [← h.1, ← h.2]; exact ⟨rfl, by omega, by decide, by decide⟩
      · split at h
        · rename_i hp
          have := (List.isPrefixOf_iff_prefix.mp hp).length_le
          simp [permille] at h this; rw [← h.1, ← h.2]; exact ⟨rfl, by omega, by decide, by decide⟩
        · split at h
          · rename_i hp
            have := (List.isPrefixOf_iff_prefix.mp hp).length_le
            simp [money] at h this; rw [← h.1, ← h.2]; exact ⟨rfl, by omega, by decide, by decide⟩
          · cases h
end Go.Proofs.YtjpdakepfmepnaaDoor.Pat

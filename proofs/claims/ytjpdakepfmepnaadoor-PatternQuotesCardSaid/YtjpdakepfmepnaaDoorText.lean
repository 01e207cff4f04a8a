/- The walk of pattern.printText; strings.Repeat of one sign. -/
import Derived.Test.YtjpdakepfmepnaaDoorSpecial
import Derived.Test.YtjpdakepfmepnaaDoorRepl
import Derived.Test.YtjpdakepfmepnaaDoorRet
namespace Go.Proofs.YtjpdakepfmepnaaDoor
open Go.RowKit Go.Proofs.YtjpdakepfmepnaaDoorW.PrintWords Pat
set_option linter.unusedVariables false
set_option linter.unusedSimpArgs false

theorem dbl_length (l : List UInt8) : (dbl l).length ≤ 2 * l.length := by
  induction l with
  | nil => exact Nat.le_refl _
  | cons c r ih =>
    unfold dbl at ih ⊢
    rw [List.flatMap_cons, List.length_append, List.length_cons]
    by_cases h : c = 39
    · rw [if_pos h]; simp only [List.length_cons, List.length_nil]; omega
    · rw [if_neg h]; simp only [List.length_cons, List.length_nil]; omega
theorem rep_flat (s : ByteArray) (n : Nat) (w : World) (h : s.size * n ≤ 140737488355328) (hn : n ≤ 140737488355328) : Calls Tryd.prog 21 #[.string s, .int .i64 n] w fun e w' => e = .returned (.string (bs (List.replicate n s.data.toList).flatten)) ∧ Below w.heap.size w w' := by
  refine (Tryd.strings_Repeat s n w (by omega) h).mono fun e w' q => ⟨?_, q.2⟩
  rw [q.1]
  have e : ∀ k, Lib.repeatL s.data.toList k = (List.replicate k s.data.toList).flatten := by
    intro k
    induction k with
    | zero => rfl
    | succ k ih => rw [List.replicate_succ, List.flatten_cons, ← ih]; rfl
  rw [e]
theorem rep_one (c : UInt8) (n : Int) (w : World) (h0 : 0 ≤ n) (hn : n ≤ 1048576) : Calls Tryd.prog 21 #[.string ⟨#[c]⟩, .int .i64 n] w fun e w' => e = .returned (.string (bs (List.replicate n.toNat c))) ∧ Below w.heap.size w w' := by
  have h := rep_flat ⟨#[c]⟩ n.toNat w (by show 1 * _ ≤ _; omega) (by omega)
  have e : ∀ k, (List.replicate k [c]).flatten = List.replicate k c := by
    intro k
    induction k with
    | zero => rfl
    | succ k ih => rw [List.replicate_succ, List.flatten_cons, ih]; rfl
  rw [Int.toNat_of_nonneg h0, show (⟨#[c]⟩ : ByteArray).data.toList = [c] from rfl, e] at h
  exact h
set_option maxHeartbeats 2000000 in
set_option maxRecDepth 100000 in
theorem printText_any (s : ByteArray) (m : Int) (w : World) (hs : s.size ≤ 268435456) (hm : w.cell? ⟨0, 0, none⟩ = some (.int .i64 m)) : Calls Tryd.prog 22 #[.string s] w fun e w' => e = .returned (.string (bs (textS s.data.toList))) ∧ Below w.heap.size w w' := by
  have HD := Lib.hid (ra_quote s m w (by omega) hm)
  cases hp : special s.data.toList with
  | false =>
    have HP : Hid (∀ w, Calls Tryd.prog 33 #[.string s, .string quotedB] w fun e w' => e = .returned (.bool false) ∧ Below w.heap.size w w') := Lib.hid fun w => by have := quoted_any s w; rw [hp] at this; exact this
    have HT := Lib.hid (show textS s.data.toList = dbl s.data.toList by unfold textS; rw [hp]; rfl)
    clear hp hm
    go_enter Tryd.func22, Tryd.ntmps22
    go_wp2_with (first
      | (go_at_call 32; refine HD.out.mono ?_; rintro e w2 ⟨rfl, hb⟩; have HB := Aside0.mk hb; clear hb)
      | (go_at_call 33; refine (HP.out _).mono ?_; rintro e w3 ⟨rfl, hb⟩; have HB3 := Aside0.mk (below_step HB.out hb); clear hb))
    go_ret
    exact ⟨by rw [HT.out]; rfl, HB3.out⟩
  | true =>
    have HP : Hid (∀ w, Calls Tryd.prog 33 #[.string s, .string quotedB] w fun e w' => e = .returned (.bool true) ∧ Below w.heap.size w w') := Lib.hid fun w => by have := quoted_any s w; rw [hp] at this; exact this
    obtain ⟨D, hD⟩ : ∃ D, D = bs (dbl s.data.toList) := ⟨_, rfl⟩
    have hsz : D.size ≤ 536870912 := by rw [hD]; show (dbl s.data.toList).length ≤ _; have := dbl_length s.data.toList; rw [data_length] at this; omega
    have HT := Lib.hid (show bs (textS s.data.toList) = (⟨#[39]⟩ : ByteArray) ++ D ++ ⟨#[39]⟩ by
      unfold textS
      rw [hp, hD]
      apply ByteArray.ext
      apply Array.ext'
      simp [ByteArray.data_append])
    rw [← hD] at HD
    clear hp hm hD
    go_enter Tryd.func22, Tryd.ntmps22
    go_wp2_with (first
      | (go_at_call 32; refine HD.out.mono ?_; rintro e w2 ⟨rfl, hb⟩; have HB := Aside0.mk hb; clear hb)
      | (go_at_call 33; refine (HP.out _).mono ?_; rintro e w3 ⟨rfl, hb⟩; have HB3 := Aside0.mk (below_step HB.out hb); clear hb))
    go_ret
    exact ⟨by rw [HT.out]; rfl, HB3.out⟩
end Go.Proofs.YtjpdakepfmepnaaDoor

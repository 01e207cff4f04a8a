/- The walk of pattern.sign: the sign at a text's begin and its length. -/
import Derived.Test.YtjpdakepfmepnaaDoorBase
import Derived.Test.YtjpdakepfmepnaaDoorShelf
namespace Go.Proofs.YtjpdakepfmepnaaDoor
open Go.RowKit Go.Proofs.YtjpdakepfmepnaaDoorW.PrintWords Pat
set_option linter.unusedVariables false
set_option linter.unusedSimpArgs false

theorem hasPrefix_eq (l p : List UInt8) : Lib.hasPrefix l p = p.isPrefixOf l := by
  unfold Lib.hasPrefix
  rfl

/-- strings.HasPrefix, the old world's name kept. -/
theorem hp_any (s p : ByteArray) (w : World) : Calls Tryd.prog 30 #[.string s, .string p] w fun e w' => e = .returned (.bool (Lib.hasPrefix s.data.toList p.data.toList)) ∧ w = w' :=
  (Tryd.strings_HasPrefix s p w).mono fun _ _ h => ⟨h.1, h.2.symm⟩

def signR (l : List UInt8) : Aff × Nat := (signS l).getD (⟨0, [], 0⟩, 0)
/-- No sign ahead of place k of the table stands at the text's begin. -/
def NoSign (l : List UInt8) (k : Nat) : Prop := (2 < k → Lib.hasPrefix l [45] = false) ∧ (3 < k → Lib.hasPrefix l [43] = false) ∧ (4 < k → Lib.hasPrefix l [37] = false) ∧ (5 < k → Lib.hasPrefix l [226, 128, 176] = false)

abbrev signTab : Value := .agg #[.string ⟨#[]⟩, .string ⟨#[]⟩, .string ⟨#[45]⟩, .string ⟨#[43]⟩, .string ⟨#[37]⟩, .string ⟨#[226, 128, 176]⟩]
theorem signR_of (l : List UInt8) : signR l = if Lib.hasPrefix l [45] then (⟨2, [], 0⟩, 1) else if Lib.hasPrefix l [43] then (⟨3, [], 0⟩, 1) else if Lib.hasPrefix l [37] then (⟨4, [], 0⟩, 1) else if Lib.hasPrefix l [226, 128, 176] then (⟨5, [], 0⟩, 3) else if Lib.hasPrefix l [194, 164] then (⟨6, [], 1⟩, 2) else (⟨0, [], 0⟩, 0) := by
  simp only [signR, signS, hasPrefix_eq, permille, money]
  by_cases h1 : [45].isPrefixOf l = true
  · simp [h1]
  · by_cases h2 : [43].isPrefixOf l = true
    · simp [h1, h2]
    · by_cases h3 : [37].isPrefixOf l = true
      · simp [h1, h2, h3]
      · by_cases h4 : [226, 128, 176].isPrefixOf l = true
        · simp [h1, h2, h3, h4]
        · by_cases h5 : [194, 164].isPrefixOf l = true <;> simp [h1, h2, h3, h4, h5]

set_option maxHeartbeats 1000000 in
set_option maxRecDepth 100000 in
theorem sign_any (s : ByteArray) (w : World) :
    Calls Tryd.prog 37 #[.string s] w fun e w' => e = .returned (.tuple #[affV (signR s.data.toList).1, .int .i64 (signR s.data.toList).2]) ∧ Below w.heap.size w w' := by
  have i0 : ∀ w, (Instr.index 103 signTab (.int .i64 0)).run Tryd.prog w = .ok (.string ⟨#[]⟩) w := fun _ => by kernel_rfl
  have i1 : ∀ w, (Instr.index 103 signTab (.int .i64 1)).run Tryd.prog w = .ok (.string ⟨#[]⟩) w := fun _ => by kernel_rfl
  have i2 : ∀ w, (Instr.index 103 signTab (.int .i64 2)).run Tryd.prog w = .ok (.string ⟨#[45]⟩) w := fun _ => by kernel_rfl
  have i3 : ∀ w, (Instr.index 103 signTab (.int .i64 3)).run Tryd.prog w = .ok (.string ⟨#[43]⟩) w := fun _ => by kernel_rfl
  have i4 : ∀ w, (Instr.index 103 signTab (.int .i64 4)).run Tryd.prog w = .ok (.string ⟨#[37]⟩) w := fun _ => by kernel_rfl
  have i5 : ∀ w, (Instr.index 103 signTab (.int .i64 5)).run Tryd.prog w = .ok (.string ⟨#[226, 128, 176]⟩) w := fun _ => by kernel_rfl
  go_enter Tryd.func37, Tryd.ntmps37
  go_wp2
  go_loop [7] (fun v => ∃ k : Int, 0 ≤ k ∧ k ≤ 6 ∧ v = .int .i64 k ∧ NoSign s.data.toList k.toNat) (fun v => 6 - (intOf v).toNat)
  case atStart => exact ⟨0, by omega, by omega, rfl, by unfold NoSign; omega⟩
  case round =>
    obtain ⟨k, hk0, hk, rfl, hno⟩ := hrel
    have hH := Lib.hid hno
    clear hno
    obtain rfl | rfl | rfl | rfl | rfl | rfl | rfl : k = 0 ∨ k = 1 ∨ k = 2 ∨ k = 3 ∨ k = 4 ∨ k = 5 ∨ k = 6 := by omega
    · go_wp2
      go_round
      case rel => exact ⟨1, by omega, by omega, rfl, by unfold NoSign; omega⟩
      case measure => simp [intOf]
    · go_wp2
      go_round
      case rel => exact ⟨2, by omega, by omega, rfl, by unfold NoSign; omega⟩
      case measure => simp [intOf]
    · by_cases hp : Lib.hasPrefix s.data.toList [45] = true
      · have hR : Hid (signR s.data.toList = (⟨2, [], 0⟩, 1)) := Lib.hid (by
          rw [signR_of]

          rw [if_pos hp])
        go_wp2_with (go_at_call 30; refine (hp_any _ _ _).mono ?_; rintro e w' ⟨rfl, rfl⟩)
        refine bodyPost_ret (v := .tuple #[affV ⟨2, [], 0⟩, .int .i64 1]) (by simp [results, Tryd.results37, go_sem]) rfl ⟨by rw [hR.out]; rfl, (Below.refl _ _).alloc (Nat.le_refl _) _⟩
      · have hx := Lib.hid (Bool.eq_false_iff.mpr hp)
        go_wp2_with (go_at_call 30; refine (hp_any _ _ _).mono ?_; rintro e w' ⟨rfl, rfl⟩)
        go_round
        case rel => exact ⟨3, by omega, by omega, rfl, fun _ => hx.out, fun h => absurd h (by decide), fun h => absurd h (by decide), fun h => absurd h (by decide)⟩
        case measure => simp [intOf]
    · by_cases hp : Lib.hasPrefix s.data.toList [43] = true
      · have hR : Hid (signR s.data.toList = (⟨3, [], 0⟩, 1)) := Lib.hid (by
          rw [signR_of]
          rw [if_neg (Bool.eq_false_iff.mp (hH.out.1 (by decide)))]
          rw [if_pos hp])
        go_wp2_with (go_at_call 30; refine (hp_any _ _ _).mono ?_; rintro e w' ⟨rfl, rfl⟩)
        refine bodyPost_ret (v := .tuple #[affV ⟨3, [], 0⟩, .int .i64 1]) (by simp [results, Tryd.results37, go_sem]) rfl ⟨by rw [hR.out]; rfl, (Below.refl _ _).alloc (Nat.le_refl _) _⟩
      · have hx := Lib.hid (Bool.eq_false_iff.mpr hp)
        go_wp2_with (go_at_call 30; refine (hp_any _ _ _).mono ?_; rintro e w' ⟨rfl, rfl⟩)
        go_round
        case rel => exact ⟨4, by omega, by omega, rfl, fun _ => hH.out.1 (by decide), fun _ => hx.out, fun h => absurd h (by decide), fun h => absurd h (by decide)⟩
        case measure => simp [intOf]
    · by_cases hp : Lib.hasPrefix s.data.toList [37] = true
      · have hR : Hid (signR s.data.toList = (⟨4, [], 0⟩, 1)) := Lib.hid (by
          rw [signR_of]
          rw [if_neg (Bool.eq_false_iff.mp (hH.out.1 (by decide)))]
          rw [if_neg (Bool.eq_false_iff.mp (hH.out.2.1 (by decide)))]
          rw [if_pos hp])
        go_wp2_with (go_at_call 30; refine (hp_any _ _ _).mono ?_; rintro e w' ⟨rfl, rfl⟩)
        refine bodyPost_ret (v := .tuple #[affV ⟨4, [], 0⟩, .int .i64 1]) (by simp [results, Tryd.results37, go_sem]) rfl ⟨by rw [hR.out]; rfl, (Below.refl _ _).alloc (Nat.le_refl _) _⟩
      · have hx := Lib.hid (Bool.eq_false_iff.mpr hp)
        go_wp2_with (go_at_call 30; refine (hp_any _ _ _).mono ?_; rintro e w' ⟨rfl, rfl⟩)
        go_round
        case rel => exact ⟨5, by omega, by omega, rfl, fun _ => hH.out.1 (by decide), fun _ => hH.out.2.1 (by decide), fun _ => hx.out, fun h => absurd h (by decide)⟩
        case measure => simp [intOf]
    · by_cases hp : Lib.hasPrefix s.data.toList [226, 128, 176] = true
      · have hR : Hid (signR s.data.toList = (⟨5, [], 0⟩, 3)) := Lib.hid (by
          rw [signR_of]
          rw [if_neg (Bool.eq_false_iff.mp (hH.out.1 (by decide)))]
          rw [if_neg (Bool.eq_false_iff.mp (hH.out.2.1 (by decide)))]
          rw [if_neg (Bool.eq_false_iff.mp (hH.out.2.2.1 (by decide)))]
          rw [if_pos hp])
        go_wp2_with (go_at_call 30; refine (hp_any _ _ _).mono ?_; rintro e w' ⟨rfl, rfl⟩)
        refine bodyPost_ret (v := .tuple #[affV ⟨5, [], 0⟩, .int .i64 3]) (by simp [results, Tryd.results37, go_sem]) rfl ⟨by rw [hR.out]; rfl, (Below.refl _ _).alloc (Nat.le_refl _) _⟩
      · have hx := Lib.hid (Bool.eq_false_iff.mpr hp)
        go_wp2_with (go_at_call 30; refine (hp_any _ _ _).mono ?_; rintro e w' ⟨rfl, rfl⟩)
        go_round
        case rel => exact ⟨6, by omega, by omega, rfl, fun _ => hH.out.1 (by decide), fun _ => hH.out.2.1 (by decide), fun _ => hH.out.2.2.1 (by decide), fun _ => hx.out⟩
        case measure => simp [intOf]
    · by_cases hp : Lib.hasPrefix s.data.toList [194, 164] = true
      · have hR : Hid (signR s.data.toList = (⟨6, [], 1⟩, 2)) := Lib.hid (by
          rw [signR_of]
          rw [if_neg (Bool.eq_false_iff.mp (hH.out.1 (by decide)))]
          rw [if_neg (Bool.eq_false_iff.mp (hH.out.2.1 (by decide)))]
          rw [if_neg (Bool.eq_false_iff.mp (hH.out.2.2.1 (by decide)))]
          rw [if_neg (Bool.eq_false_iff.mp (hH.out.2.2.2 (by decide)))]
          rw [if_pos hp])
        go_wp2_with (go_at_call 30; refine (hp_any _ _ _).mono ?_; rintro e w' ⟨rfl, rfl⟩)
        refine bodyPost_ret (v := .tuple #[affV ⟨6, [], 1⟩, .int .i64 2]) (by simp [results, Tryd.results37, go_sem]) rfl ⟨by rw [hR.out]; rfl, (Below.refl _ _).alloc (Nat.le_refl _) _⟩
      · have hR : Hid (signR s.data.toList = (⟨0, [], 0⟩, 0)) := Lib.hid (by
          rw [signR_of]
          rw [if_neg (Bool.eq_false_iff.mp (hH.out.1 (by decide)))]
          rw [if_neg (Bool.eq_false_iff.mp (hH.out.2.1 (by decide)))]
          rw [if_neg (Bool.eq_false_iff.mp (hH.out.2.2.1 (by decide)))]
          rw [if_neg (Bool.eq_false_iff.mp (hH.out.2.2.2 (by decide)))]
          rw [if_neg hp])
        have hx := Lib.hid (Bool.eq_false_iff.mpr hp)
        go_wp2_with (go_at_call 30; refine (hp_any _ _ _).mono ?_; rintro e w' ⟨rfl, rfl⟩)
        refine bodyPost_ret (v := .tuple #[affV ⟨0, [], 0⟩, .int .i64 0]) (by simp [results, Tryd.results37, go_sem]) rfl ⟨by rw [hR.out]; rfl, (Below.refl _ _).alloc (Nat.le_refl _) _⟩
end Go.Proofs.YtjpdakepfmepnaaDoor

/- The walks of decimal.all, form, Check. (Printed by gen_dec.py.) -/
import Derived.Test.YtjpdakepfmepnaaDoorPiece
import Derived.Deep.RegionWith
namespace Go.Proofs.YtjpdakepfmepnaaDoor
open Go.RowKit Go.Proofs.YtjpdakepfmepnaaDoorW.PrintWords Pat
set_option linter.unusedVariables false
set_option linter.unusedSimpArgs false

theorem digit_lt (c : UInt8) : digit c = (!(decide ((c.toNat : Int) < 48)) && !(decide (57 < (c.toNat : Int)))) := by
  rw [digit_two]
  by_cases h1 : (c.toNat : Int) < 48 <;> by_cases h2 : 57 < (c.toNat : Int) <;> simp [h1, h2] <;> omega
set_option maxHeartbeats 2000000 in
set_option maxRecDepth 100000 in
theorem all_any (s : ByteArray) (w : World) (hs : s.size ≤ 1048576) :
    Calls Tryd.prog 63 #[.string s] w fun e w' => e = .returned (.bool (s.data.toList.all digit)) ∧ w = w' := by
  obtain ⟨r, hr⟩ : ∃ r : Bool, r = s.data.toList.all digit := ⟨_, rfl⟩
  rw [← hr]
  have HR := Lib.hid hr
  clear hr
  go_enter Tryd.func63, Tryd.ntmps63
  go_wp2
  go_loopg [6] s.size (fun kq v6 w' => ∃ (i : Nat), v6 = .int .i64 i ∧ kq = s.size - i ∧ w = w' ∧ Aside0 (Run digit s.data.toList 0 i))
  case atStart => exact ⟨0, rfl, rfl, rfl, ⟨Run.start (Nat.zero_le _)⟩⟩
  case round =>
    obtain ⟨i, rfl, hg, rfl, hD⟩ := hrel
    have HG := Lib.hid hg
    clear hg
    have hil := hD.out.jl
    rw [data_length] at hil
    by_cases hlt : i < s.size
    · obtain ⟨c, hc0, hx⟩ := byte_at s i hlt
      have hc := Lib.hid hc0
      clear hc0
      by_cases h1 : (c.toNat : Int) < 48
      · obtain rfl : r = false := by
          rw [HR.out, List.all_eq_false]
          exact ⟨c, List.mem_of_getElem? hc.out, by rw [digit_lt, decide_eq_true h1]; simp⟩
        go_wp2
        go_ret
        exact ⟨rfl, rfl⟩
      · by_cases h2 : 57 < (c.toNat : Int)
        · obtain rfl : r = false := by
            rw [HR.out, List.all_eq_false]
            exact ⟨c, List.mem_of_getElem? hc.out, by rw [digit_lt, decide_eq_true h2]; simp⟩
          go_wp2
          go_ret
          exact ⟨rfl, rfl⟩
        · have hD2 := Aside0.mk (hD.out.next hc.out (by rw [digit_lt, decide_eq_false h1, decide_eq_false h2]; rfl))
          go_wp2
          go_roundg (s.size - (i + 1))
          case measure => rw [HG.out]; omega
          case rel => exact ⟨i + 1, by go_num, rfl, rfl, hD2⟩
    · obtain rfl : r = true := by
        rw [HR.out, List.all_eq_true]
        intro c hc
        obtain ⟨j, hj, he⟩ := List.mem_iff_getElem.mp hc
        rw [data_length] at hj
        obtain ⟨d, hd, hp⟩ := hD.out.all j (Nat.zero_le _) (by omega)
        rw [List.getElem?_eq_getElem (by rw [data_length]; omega), he] at hd
        injection hd with hd
        rw [hd]; exact hp
      go_wp2
      go_ret
      exact ⟨rfl, rfl⟩
theorem all_bs {l : List UInt8} {b : Bool} (h : l.all digit = b) (hs : l.length ≤ 1048576) (w : World) : Calls Tryd.prog 63 #[.string (bs l)] w fun e w' => e = .returned (.bool b) ∧ w = w' := by
  have := all_any (bs l) w hs
  rw [show (bs l).data.toList.all digit = b from h] at this
  exact this
def formS (neg : Bool) (i f : List UInt8) : Bool := i != [] && i.all digit && f.all digit && !(decide (1 < i.length) && i.head? == some 48) && (!neg || nonzero i || nonzero f)
theorem trim_bs (l : List UInt8) (w : World) (hs : l.length ≤ 1048576) : Calls Tryd.prog 28 #[.string (bs l), .string ⟨#[48]⟩] w fun e w' => ∃ t n, e = .returned (.string t) ∧ w' = w.drewN n ∧ (t.toList == []) = !nonzero l := by
  refine (tr_any (bs l) w (by show l.length ≤ _; omega)).mono ?_
  rintro e w' ⟨rfl, n, rfl⟩
  refine ⟨_, n, rfl, rfl, ?_⟩
  rw [Lib.toList_data]
  show (Lib.trimB l 48 == []) = _
  cases h : nonzero l with
  | false => rw [(trim_nil l).mpr h]; rfl
  | true => exact beq_eq_false_iff_ne.mpr (fun e => by rw [(trim_nil l).mp e] at h; cases h)
theorem trim_zero {l : List UInt8} (h : nonzero l = false) (hs : l.length ≤ 1048576) (w : World) : Calls Tryd.prog 28 #[.string (bs l), .string ⟨#[48]⟩] w fun e w' => e = .returned (.string ⟨#[]⟩) ∧ ∃ n, w' = w.drewN n := by
  refine (tr_any (bs l) w (by show l.length ≤ _; omega)).mono ?_
  rintro e w' ⟨rfl, n, rfl⟩
  refine ⟨?_, n, rfl⟩
  show Ending.returned (.string (bs (Lib.trimB l 48))) = _
  rw [(trim_nil l).mpr h]
theorem trim_some {l : List UInt8} (h : nonzero l = true) (hs : l.length ≤ 1048576) (w : World) : Calls Tryd.prog 28 #[.string (bs l), .string ⟨#[48]⟩] w fun e w' => ∃ c q, e = .returned (.string (bs (c :: q))) ∧ ∃ n, w' = w.drewN n := by
  refine (tr_any (bs l) w (by show l.length ≤ _; omega)).mono ?_
  rintro e w' ⟨rfl, n, rfl⟩
  show ∃ c q, Ending.returned (.string (bs (Lib.trimB l 48))) = _ ∧ _
  cases h1 : Lib.trimB l 48 with
  | nil => rw [(trim_nil l).mp h1] at h; cases h
  | cons c q => exact ⟨c, q, rfl, n, rfl⟩
set_option maxHeartbeats 4000000 in
set_option maxRecDepth 100000 in
theorem form_any (neg : Bool) (i f : List UInt8) (w : World) (hi : i.length ≤ 1048576) (hf : f.length ≤ 1048576) :
    Calls Tryd.prog 46 #[.agg #[.bool neg, .string (bs i), .string (bs f)]] w fun e w' => e = .returned (.bool (formS neg i f)) ∧ Below w.heap.size w w' := by
  have hu := Tryd.underlying24
  have hsi : (bs i).size ≤ 1048576 := hi
  have hsf : (bs f).size ≤ 1048576 := hf
  obtain ⟨r, hr⟩ : ∃ r : Bool, r = formS neg i f := ⟨_, rfl⟩
  rw [← hr]
  have HR := Lib.hid hr
  clear hr
  cases i with
  | nil =>
    obtain rfl : r = false := HR.out
    go_enter Tryd.func46, Tryd.ntmps46
    go_wp2
    go_ret
    exact ⟨rfl, below_alloc (Below.refl _ _) _⟩
  | cons c q =>
    cases h1 : (c :: q).all digit with
    | false =>
      obtain rfl : r = false := by rw [HR.out]; unfold formS; rw [h1]; simp
      have HA := Lib.hid (all_bs h1 hi)
      clear h1
      go_enter Tryd.func46, Tryd.ntmps46
      go_wp2_with (go_at_call_of 63 (c); refine (HA.out _).mono ?_; rintro e w2 ⟨rfl, rfl⟩)
      go_ret
      exact ⟨rfl, below_alloc (Below.refl _ _) _⟩
    | true =>
      have HA := Lib.hid (all_bs h1 hi)
      cases h2 : f.all digit with
      | false =>
        obtain rfl : r = false := by rw [HR.out]; unfold formS; rw [h2]; simp
        have HF := Lib.hid (all_bs h2 hf)
        clear h1 h2
        go_enter Tryd.func46, Tryd.ntmps46
        go_wp2_with (first | (go_at_call_of 63 (c); refine (HA.out _).mono ?_; rintro e w2 ⟨rfl, rfl⟩) | (go_at_call_of 63 (f); refine (HF.out _).mono ?_; rintro e w2 ⟨rfl, rfl⟩))
        go_ret
        exact ⟨rfl, below_alloc (Below.refl _ _) _⟩
      | true =>
        have HF := Lib.hid (all_bs h2 hf)
        cases q with
        | nil =>
          have h3 : formS neg [c] f = (!neg || nonzero [c] || nonzero f) := by unfold formS; rw [h1, h2]; simp
          rw [h3] at HR
          clear h1 h2 h3
          cases neg with
          | false =>
            obtain rfl : r = true := HR.out
            go_enter Tryd.func46, Tryd.ntmps46
            go_wp2_with (first | (go_at_call_of 63 (c); refine (HA.out _).mono ?_; rintro e w2 ⟨rfl, rfl⟩) | (go_at_call_of 63 (f); refine (HF.out _).mono ?_; rintro e w2 ⟨rfl, rfl⟩))
            go_ret
            exact ⟨rfl, below_alloc (Below.refl _ _) _⟩
          | true =>
            cases h4 : nonzero [c] with
            | true =>
              obtain rfl : r = true := by rw [HR.out, h4]; rfl
              have HT := Lib.hid (trim_some h4 hi)
              clear h4
              go_enter Tryd.func46, Tryd.ntmps46
              go_wp2_with (first | (go_at_call_of 63 (c); refine (HA.out _).mono ?_; rintro e w2 ⟨rfl, rfl⟩) | (go_at_call_of 63 (f); refine (HF.out _).mono ?_; rintro e w2 ⟨rfl, rfl⟩) | (go_at_call_of 28 (c); refine (HT.out _).mono ?_; rintro e w2 ⟨c2, q2, rfl, n, rfl⟩))
              go_ret
              exact ⟨rfl, pw_below_drewN (below_alloc (Below.refl _ _) _) _⟩
            | false =>
              have HT := Lib.hid (trim_zero h4 hi)
              cases h5 : nonzero f with
              | true =>
                obtain rfl : r = true := by rw [HR.out, h5]; simp
                have HT2 := Lib.hid (trim_some h5 hf)
                clear h4 h5
                go_enter Tryd.func46, Tryd.ntmps46
                go_wp2_with (first | (go_at_call_of 63 (c); refine (HA.out _).mono ?_; rintro e w2 ⟨rfl, rfl⟩) | (go_at_call_of 63 (f); refine (HF.out _).mono ?_; rintro e w2 ⟨rfl, rfl⟩) | (go_at_call_of 28 (c); refine (HT.out _).mono ?_; rintro e w2 ⟨rfl, n, rfl⟩) | (go_at_call_of 28 (f); refine (HT2.out _).mono ?_; rintro e w2 ⟨c2, q2, rfl, n2, rfl⟩))
                go_ret
                exact ⟨rfl, pw_below_drewN (below_alloc (Below.refl _ _) _) _⟩
              | false =>
                obtain rfl : r = false := by rw [HR.out, h4, h5]; rfl
                have HT2 := Lib.hid (trim_zero h5 hf)
                clear h4 h5
                go_enter Tryd.func46, Tryd.ntmps46
                go_wp2_with (first | (go_at_call_of 63 (c); refine (HA.out _).mono ?_; rintro e w2 ⟨rfl, rfl⟩) | (go_at_call_of 63 (f); refine (HF.out _).mono ?_; rintro e w2 ⟨rfl, rfl⟩) | (go_at_call_of 28 (c); refine (HT.out _).mono ?_; rintro e w2 ⟨rfl, n, rfl⟩) | (go_at_call_of 28 (f); refine (HT2.out _).mono ?_; rintro e w2 ⟨rfl, n2, rfl⟩))
                go_ret
                exact ⟨rfl, pw_below_drewN (below_alloc (Below.refl _ _) _) _⟩
        | cons d q =>
          by_cases h48 : (c.toNat : Int) = 48
          · obtain rfl : r = false := by rw [HR.out]; unfold formS; simp [u8_eq (n := 48) h48 (by decide)]
            have x0 : ∀ h : 0 < (bs (c :: d :: q)).size, (((bs (c :: d :: q))[0]'h).toNat : Int) = c.toNat := fun _ => rfl
            have b48 : ((c.toNat : Int) == 48) = true := beq_iff_eq.mpr h48
            clear h1 h2
            go_enter Tryd.func46, Tryd.ntmps46
            go_wp2_with (first | (go_at_call_of 63 (c); refine (HA.out _).mono ?_; rintro e w2 ⟨rfl, rfl⟩) | (go_at_call_of 63 (f); refine (HF.out _).mono ?_; rintro e w2 ⟨rfl, rfl⟩))
            go_ret
            exact ⟨rfl, below_alloc (Below.refl _ _) _⟩
          · have n48 : c ≠ 48 := u8_ne (n := 48) h48 (by decide)
            have h3 : formS neg (c :: d :: q) f = (!neg || nonzero (c :: d :: q) || nonzero f) := by unfold formS; rw [h1, h2]; simp [n48]
            rw [h3] at HR
            have x0 : ∀ h : 0 < (bs (c :: d :: q)).size, (((bs (c :: d :: q))[0]'h).toNat : Int) = c.toNat := fun _ => rfl
            have b48 : ((c.toNat : Int) == 48) = false := beq_eq_false_iff_ne.mpr h48
            clear h1 h2 h3 n48
            cases neg with
            | false =>
              obtain rfl : r = true := HR.out
              go_enter Tryd.func46, Tryd.ntmps46
              go_wp2_with (first | (go_at_call_of 63 (c); refine (HA.out _).mono ?_; rintro e w2 ⟨rfl, rfl⟩) | (go_at_call_of 63 (f); refine (HF.out _).mono ?_; rintro e w2 ⟨rfl, rfl⟩))
              go_ret
              exact ⟨rfl, below_alloc (Below.refl _ _) _⟩
            | true =>
              cases h4 : nonzero (c :: d :: q) with
              | true =>
                obtain rfl : r = true := by rw [HR.out, h4]; rfl
                have HT := Lib.hid (trim_some h4 hi)
                clear h4
                go_enter Tryd.func46, Tryd.ntmps46
                go_wp2_with (first | (go_at_call_of 63 (c); refine (HA.out _).mono ?_; rintro e w2 ⟨rfl, rfl⟩) | (go_at_call_of 63 (f); refine (HF.out _).mono ?_; rintro e w2 ⟨rfl, rfl⟩) | (go_at_call_of 28 (c); refine (HT.out _).mono ?_; rintro e w2 ⟨c2, q2, rfl, n, rfl⟩))
                go_ret
                exact ⟨rfl, pw_below_drewN (below_alloc (Below.refl _ _) _) _⟩
              | false =>
                have HT := Lib.hid (trim_zero h4 hi)
                cases h5 : nonzero f with
                | true =>
                  obtain rfl : r = true := by rw [HR.out, h5]; simp
                  have HT2 := Lib.hid (trim_some h5 hf)
                  clear h4 h5
                  go_enter Tryd.func46, Tryd.ntmps46
                  go_wp2_with (first | (go_at_call_of 63 (c); refine (HA.out _).mono ?_; rintro e w2 ⟨rfl, rfl⟩) | (go_at_call_of 63 (f); refine (HF.out _).mono ?_; rintro e w2 ⟨rfl, rfl⟩) | (go_at_call_of 28 (c); refine (HT.out _).mono ?_; rintro e w2 ⟨rfl, n, rfl⟩) | (go_at_call_of 28 (f); refine (HT2.out _).mono ?_; rintro e w2 ⟨c2, q2, rfl, n2, rfl⟩))
                  go_ret
                  exact ⟨rfl, pw_below_drewN (below_alloc (Below.refl _ _) _) _⟩
                | false =>
                  obtain rfl : r = false := by rw [HR.out, h4, h5]; rfl
                  have HT2 := Lib.hid (trim_zero h5 hf)
                  clear h4 h5
                  go_enter Tryd.func46, Tryd.ntmps46
                  go_wp2_with (first | (go_at_call_of 63 (c); refine (HA.out _).mono ?_; rintro e w2 ⟨rfl, rfl⟩) | (go_at_call_of 63 (f); refine (HF.out _).mono ?_; rintro e w2 ⟨rfl, rfl⟩) | (go_at_call_of 28 (c); refine (HT.out _).mono ?_; rintro e w2 ⟨rfl, n, rfl⟩) | (go_at_call_of 28 (f); refine (HT2.out _).mono ?_; rintro e w2 ⟨rfl, n2, rfl⟩))
                  go_ret
                  exact ⟨rfl, pw_below_drewN (below_alloc (Below.refl _ _) _) _⟩
end Go.Proofs.YtjpdakepfmepnaaDoor

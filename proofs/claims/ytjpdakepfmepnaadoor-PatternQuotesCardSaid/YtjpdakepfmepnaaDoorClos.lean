/- The walks of pattern.number's two closures. -/
import Derived.Test.YtjpdakepfmepnaaDoorExpW
import Derived.Deep.DeepCutAuto
import Derived.Deep.LoopGhost
namespace Go.Proofs.YtjpdakepfmepnaaDoor
open Go.RowKit Go.Proofs.YtjpdakepfmepnaaDoorW.PrintWords Pat
set_option linter.unusedVariables false
set_option linter.unusedSimpArgs false

/-- Is the byte at place k this one? -/
def isAt (s : ByteArray) (k : Nat) (c : Int) : Bool := match s.data.toList[k]? with
  | none => false
  | some d => (d.toNat : Int) == c
theorem isAt_lt {s : ByteArray} {k : Nat} {c : Int} (h : isAt s k c = true) : k < s.size := by
  unfold isAt at h
  split at h
  · cases h
  · rename_i d hd
    have := (List.getElem?_eq_some_iff.mp hd).1
    rw [data_length] at this; exact this
/-- Is the byte at place k a digit? -/
def digAt (s : ByteArray) (k : Nat) : Bool := match s.data.toList[k]? with
  | none => false
  | some d => digit d

set_option maxHeartbeats 1000000 in
set_option maxRecDepth 100000 in
theorem next_any (s : ByteArray) (k : Nat) (c : Int) (p q : Addr) (w : World) (hs : s.size ≤ 1048576) (hk : k ≤ s.size) (hp : w.cell? p = some (.int .i64 k)) (hq : w.cell? q = some (.string s)) :
    Calls Tryd.prog 40 #[.int .u8 c, .pointer (some p), .pointer (some q)] w fun e w' => e = .returned (.bool (isAt s k c)) ∧ w = w' := by
  by_cases hlt : k < s.size
  · obtain ⟨d, hd, hx⟩ := byte_at s k hlt
    have hi : isAt s k c = ((d.toNat : Int) == c) := by simp [isAt, hd]
    rw [hi]
    clear hd hi
    go_enter Tryd.func40, Tryd.ntmps40
    go_wp2
    go_ret
    exact ⟨rfl, rfl⟩
  · have hi : isAt s k c = false := by simp [isAt, List.getElem?_eq_none (show s.data.toList.length ≤ k by rw [data_length]; omega)]
    rw [hi]
    clear hi
    go_enter Tryd.func40, Tryd.ntmps40
    go_wp2
    go_ret
    exact ⟨rfl, rfl⟩
set_option maxHeartbeats 1000000 in
set_option maxRecDepth 100000 in
theorem anyDigit_any (s : ByteArray) (k : Nat) (p q : Addr) (w : World) (hs : s.size ≤ 1048576) (hk : k ≤ s.size) (hp : w.cell? p = some (.int .i64 k)) (hq : w.cell? q = some (.string s)) :
    Calls Tryd.prog 41 #[.pointer (some p), .pointer (some q)] w fun e w' => e = .returned (.bool (digAt s k)) ∧ w = w' := by
  by_cases hlt : k < s.size
  · obtain ⟨d, hd, hx⟩ := byte_at s k hlt
    have hi : digAt s k = digit d := by simp [digAt, hd]
    rw [hi]
    clear hd hi
    go_enter Tryd.func41, Tryd.ntmps41
    go_wp2_with (go_at_call 38; refine (digit_any d _).mono ?_; rintro e w2 ⟨rfl, rfl⟩)
    go_ret
    exact ⟨rfl, rfl⟩
  · have hi : digAt s k = false := by simp [digAt, List.getElem?_eq_none (show s.data.toList.length ≤ k by rw [data_length]; omega)]
    rw [hi]
    clear hi
    go_enter Tryd.func41, Tryd.ntmps41
    go_wp2_with fail
    go_ret
    exact ⟨rfl, rfl⟩

end Go.Proofs.YtjpdakepfmepnaaDoor

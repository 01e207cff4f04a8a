/- The walk of pattern.hasAny, and what it tells of a text. -/
import Derived.Test.YtjpdakepfmepnaaDoorRet
import Derived.Laws.RangeAny
namespace Go.Proofs.YtjpdakepfmepnaaDoor
open Go.RowKit Go.Proofs.YtjpdakepfmepnaaDoorW.PrintWords Pat
set_option linter.unusedVariables false
set_option linter.unusedSimpArgs false

def runesF (s : ByteArray) : Nat → Nat → List Nat
  | 0, _ => []
  | b + 1, pos => if pos < s.size then (Utf8.decode s pos).1 :: runesF s b (pos + (Utf8.decode s pos).2) else []
/-- The runes of a text from a place on. -/
def runesAt (s : ByteArray) (pos : Nat) : List Nat := runesF s (s.size - pos) pos
theorem width_pos (s : ByteArray) (pos : Nat) (h : pos < s.size) : 1 ≤ (Utf8.decode s pos).2 := by
  by_cases ha : (s[pos]'h).toNat < 128
  · rw [decode_ascii s pos h ha]
    exact Nat.le_refl _
  · exact (decode_high s pos h (by omega)).2
theorem runesF_enough (s : ByteArray) : ∀ (b b' pos : Nat), s.size ≤ pos + b → s.size ≤ pos + b' → runesF s b pos = runesF s b' pos
  | 0, 0, _, _, _ => rfl
  | 0, b' + 1, pos, h, _ => by rw [runesF, runesF, if_neg (by omega)]
  | b + 1, 0, pos, _, h => by rw [runesF, runesF, if_neg (by omega)]
  | b + 1, b' + 1, pos, h, h' => by
    rw [runesF, runesF]
    by_cases hp : pos < s.size
    · have := width_pos s pos hp
      rw [if_pos hp, if_pos hp, runesF_enough s b b' _ (by omega) (by omega)]
    · rw [if_neg hp, if_neg hp]
theorem runesAt_cons {s : ByteArray} {pos : Nat} (h : pos < s.size) : runesAt s pos = (Utf8.decode s pos).1 :: runesAt s (pos + (Utf8.decode s pos).2) := by
  have := width_pos s pos h
  unfold runesAt
  obtain ⟨b, hb⟩ : ∃ b, s.size - pos = b + 1 := ⟨s.size - pos - 1, by omega⟩
  rw [hb, runesF, if_pos h, runesF_enough s b (s.size - (pos + (Utf8.decode s pos).2)) _ (by omega) (by omega)]
theorem runesAt_end {s : ByteArray} {pos : Nat} (h : ¬ pos < s.size) : runesAt s pos = [] := by
  unfold runesAt
  rw [show s.size - pos = 0 from by omega]; rfl
/-- Is a rune of one text in the other? -/
def anyS (s a : ByteArray) : Bool := (runesAt s 0).any fun c => (runesAt a 0).any fun d => c == d

theorem run_next_at {P : Program} (w : World) (g : Nat) (s : ByteArray) (pos : Nat) (ty : TypeId) (hg : w.heap[g]? = some (.stringIter s pos)) (h : pos < s.size) :
    (Instr.next (.pointer (some ⟨g, 0, none⟩)) true ty).run P w = .ok (.tuple #[.bool true, .int .i64 pos, .int .i32 (Utf8.decode s pos).1]) { w with heap := w.heap.setIfInBounds g (.stringIter s (pos + (Utf8.decode s pos).2)) } := by
  simp only [Instr.next, getObj, setObj, Sem.run_bind, Sem.run, hg, Result.andThen, h, if_true]
  simp [goInt]
theorem run_next_stop {P : Program} (w : World) (g : Nat) (s : ByteArray) (pos : Nat) (ty : TypeId) (hg : w.heap[g]? = some (.stringIter s pos)) (h : ¬ pos < s.size) :
    (Instr.next (.pointer (some ⟨g, 0, none⟩)) true ty).run P w = .ok (.tuple #[.bool false]) w := by
  simp [Instr.next, getObj, Sem.run, hg, h]
theorem turn_at {w : World} {g : Nat} {o o' : Obj} (hg : w.heap[g]? = some o) : ({ w with heap := w.heap.setIfInBounds g o' } : World).heap[g]? = some o' ∧ Only g w { w with heap := w.heap.setIfInBounds g o' } := by
  obtain ⟨hlt, _⟩ := Array.getElem?_eq_some_iff.mp hg
  refine ⟨by simp [hlt], rfl, rfl, rfl, by simp, fun k hk => ?_⟩
  simp [Array.getElem?_setIfInBounds, Ne.symm hk]
theorem eqI (c d : Nat) : ((c : Int) == (d : Int)) = (c == d) := by
  by_cases h : c = d
  · subst h; simp
  · have h2 : ¬ (c : Int) = (d : Int) := by omega
    rw [beq_eq_false_iff_ne.mpr h, beq_eq_false_iff_ne.mpr h2]
set_option maxHeartbeats 4000000 in
set_option maxRecDepth 100000 in
theorem hasAny_any (s a : ByteArray) (w : World) : Calls Tryd.prog 33 #[.string s, .string a] w fun e w' => e = .returned (.bool (anyS s a)) ∧ Below w.heap.size w w' := by
  obtain ⟨r, hr⟩ : ∃ r, r = anyS s a := ⟨_, rfl⟩
  rw [← hr]
  have HR := Lib.hid hr
  clear hr
  go_enter Tryd.func33, Tryd.ntmps33
  go_wp2
  go_loopg [11] s.size (fun kq v11 w1 => ∃ pos : Nat, kq = s.size - pos ∧ Aside0 (r = (runesAt s pos).any fun c => (runesAt a 0).any fun d => c == d) ∧ Aside0 (w1.heap[w.heap.size]? = some (.stringIter s pos)) ∧ Aside0 (Below w.heap.size w w1))
  case atStart => exact ⟨0, rfl, ⟨HR.out⟩, ⟨blk_new w _⟩, ⟨below_alloc (Below.refl _ _) _⟩⟩
  case round =>
    obtain ⟨pos, hg, hj, hk, hb⟩ := hrel
    have HG := Lib.hid hg
    clear hg HR
    by_cases hp : pos < s.size
    · have hnx : ∀ ty, (Instr.next (.pointer (some ⟨w.heap.size, 0, none⟩)) true ty).run Tryd.prog wr = _ := fun ty => run_next_at wr _ s pos ty hk.out hp
      have hwd := width_pos s pos hp
      have hj2 := Lib.hid (hj.out.trans (by rw [runesAt_cons hp, List.any_cons]))
      obtain ⟨hk0, ho0⟩ := turn_at (o' := .stringIter s (pos + (Utf8.decode s pos).2)) hk.out
      generalize (Utf8.decode s pos).1 = c at hnx hj2
      obtain ⟨rest, hrest⟩ : ∃ b, b = (runesAt s (pos + (Utf8.decode s pos).2)).any fun c => (runesAt a 0).any fun d => c == d := ⟨_, rfl⟩
      rw [← hrest] at hj2
      have HE := Lib.hid hrest
      clear hrest
      have hgt : s.size - (pos + (Utf8.decode s pos).2) < s.size - pos := by omega
      generalize pos + (Utf8.decode s pos).2 = pos2 at hnx hk0 ho0 HE hgt
      obtain ⟨wn, hwn⟩ : ∃ x, x = ({ wr with heap := wr.heap.setIfInBounds w.heap.size (.stringIter s pos2) } : World) := ⟨_, rfl⟩
      rw [← hwn] at hnx hk0 ho0
      have hbn := Aside0.mk (ho0.below hb.out (Nat.le_refl _))
      have hkn := Aside0.mk hk0
      have HGT := Lib.hid hgt
      clear hk0 ho0 hwn hk hb hj hwd hgt
      go_wp2
      go_loopg [16] a.size (fun kq v16 wx => ∃ q : Nat, kq = a.size - q ∧ Aside0 (r = ((runesAt a q).any (fun d => c == d) || rest)) ∧ Aside0 (wx.heap[wn.heap.size]? = some (.stringIter a q)) ∧ Aside0 (wx.heap[w.heap.size]? = some (.stringIter s pos2)) ∧ Aside0 (Below w.heap.size w wx))
      case atStart => exact ⟨0, rfl, ⟨hj2.out⟩, ⟨blk_new wn _⟩, ⟨blk_alloc hkn.out _⟩, ⟨below_alloc hbn.out _⟩⟩
      case round =>
        obtain ⟨q, hg, hj, hk, hk2, hb⟩ := hrel
        have HG2 := Lib.hid hg
        clear hg hnx hp
        by_cases hq : q < a.size
        · have hnx : ∀ ty, (Instr.next (.pointer (some ⟨wn.heap.size, 0, none⟩)) true ty).run Tryd.prog wr = _ := fun ty => run_next_at wr _ a q ty hk.out hq
          have hwd := width_pos a q hq
          have hj2 := hj.out.trans (by rw [runesAt_cons hq, List.any_cons])
          obtain ⟨hk0, ho0⟩ := turn_at (o' := .stringIter a (q + (Utf8.decode a q).2)) hk.out
          generalize (Utf8.decode a q).1 = d at hnx hj2
          have hgt : a.size - (q + (Utf8.decode a q).2) < a.size - q := by omega
          generalize q + (Utf8.decode a q).2 = q2 at hnx hk0 ho0 hgt hj2
          have hne : wn.heap.size ≠ w.heap.size := Nat.ne_of_gt (blk_lt hkn.out)
          have hk3 := Aside0.mk (ho0.blk hk2.out (Ne.symm hne))
          have hb3 := Aside0.mk (ho0.below hb.out (Nat.le_of_lt (blk_lt hkn.out)))
          have hk4 := Aside0.mk hk0
          by_cases hcd : c = d
          · obtain rfl : r = true := by rw [hj2, beq_iff_eq.mpr hcd]; rfl
            subst hcd
            clear hj2 hk0 ho0 hwd hgt
            go_wp2
            go_ret
            exact ⟨rfl, hb3.out⟩
          · have hcd2 : ¬ (c : Int) = (d : Int) := by omega
            have hcd3 : ((c : Int) == (d : Int)) = false := beq_eq_false_iff_ne.mpr hcd2
            have hj3 := Aside0.mk (show r = ((runesAt a q2).any (fun d => c == d) || rest) by rw [hj2, beq_eq_false_iff_ne.mpr hcd]; rfl)
            have HGT2 := Lib.hid hgt
            clear hj2 hk0 ho0 hwd hgt hcd
            go_wp2
            go_roundg (a.size - q2)
            case measure => rw [HG2.out]; exact HGT2.out
            case rel => exact ⟨q2, rfl, hj3, hk4, hk3, hb3⟩
        · have hnx : ∀ ty, (Instr.next (.pointer (some ⟨wn.heap.size, 0, none⟩)) true ty).run Tryd.prog wr = _ := fun ty => run_next_stop wr _ a q ty hk.out hq
          have hj3 := Aside0.mk (show r = rest by rw [hj.out, runesAt_end hq]; rfl)
          go_wp2
          go_roundg (s.size - pos2)
          case measure => rw [HG.out]; exact HGT.out
          case rel => exact ⟨pos2, rfl, ⟨hj3.out.trans HE.out⟩, hk2, hb⟩
    · have hnx : ∀ ty, (Instr.next (.pointer (some ⟨w.heap.size, 0, none⟩)) true ty).run Tryd.prog wr = _ := fun ty => run_next_stop wr _ s pos ty hk.out hp
      obtain rfl : r = false := by rw [hj.out, runesAt_end hp]; rfl
      go_wp2
      go_ret
      exact ⟨rfl, hb.out⟩
end Go.Proofs.YtjpdakepfmepnaaDoor

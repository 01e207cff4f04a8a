/- The walk of pattern.quote: the text of what begins with an apostrophe and how long it is. -/
import Derived.Test.YtjpdakepfmepnaaDoorSign
namespace Go.Proofs.YtjpdakepfmepnaaDoor
open Go.RowKit Go.Proofs.YtjpdakepfmepnaaDoorW.PrintWords Pat
set_option linter.unusedVariables false
set_option linter.unusedSimpArgs false

/-! #### bytes as numbers -/
def nb (l : List UInt8) : List Int := l.map fun b => (b.toNat : Int)
theorem nb_snoc (l : List UInt8) (c : UInt8) : nb (l ++ [c]) = nb l ++ [(c.toNat : Int)] := by simp [nb]
theorem nb_length (l : List UInt8) : (nb l).length = l.length := by simp [nb]
theorem strOfNums_nb (l : List UInt8) : strOfNums (nb l) = bs l := by
  simp [strOfNums, nb, Function.comp_def]
theorem byte_at (s : ByteArray) (k : Nat) (h : k < s.size) : ∃ c, s.data.toList[k]? = some c ∧ ∀ h : k < s.size, ((s[k]'h).toNat : Int) = (c.toNat : Int) := by
  refine ⟨s[k], ?_, fun _ => rfl⟩
  have h' : k < s.data.toList.length := by rw [data_length]; exact h
  rw [List.getElem?_eq_getElem h']
  rfl
theorem drop_at {l : List UInt8} {k : Nat} {c : UInt8} (h : l[k]? = some c) : l.drop k = c :: l.drop (k + 1) := by
  obtain ⟨hlt, rfl⟩ := List.getElem?_eq_some_iff.mp h
  exact List.drop_eq_getElem_cons hlt
theorem eq39 {c : UInt8} (h : (c.toNat : Int) = 39) : c = 39 := UInt8.toNat_inj.mp (by have : (39 : UInt8).toNat = 39 := rfl; omega)
theorem ne39 {c : UInt8} (h : ¬ (c.toNat : Int) = 39) : c ≠ 39 := fun e => h (by subst e; rfl)

/-! #### quoteB, a step at a time -/
theorem quoteB_other {acc : List UInt8} {c : UInt8} {r : List UInt8} (h : c ≠ 39) : quoteB acc (c :: r) = quoteB (acc ++ [c]) r := by
  cases r with
  | nil => simp [quoteB, h]
  | cons d q => rw [quoteB]; simp [h]
theorem quoteB_last (acc : List UInt8) : quoteB acc [39] = some (acc, []) := by simp [quoteB]
theorem quoteB_close {acc : List UInt8} {d : UInt8} {r : List UInt8} (h : d ≠ 39) : quoteB acc (39 :: d :: r) = some (acc, d :: r) := by simp [quoteB, h]
theorem quoteB_twice (acc r : List UInt8) : quoteB acc (39 :: 39 :: r) = quoteB (acc ++ [39]) r := by simp [quoteB]

def quoteR (l : List UInt8) : List UInt8 × Nat := match quoteS l with
  | none => ([], 0)
  | some (t, r) => (t, l.length - r.length)

/-- What the loop is about: from place k on, with acc read. -/
def QRel (s : ByteArray) (acc : List UInt8) (k : Nat) : Prop := quoteB acc (s.data.toList.drop k) = quoteS s.data.toList ∧ acc.length ≤ k ∧ 1 ≤ k

theorem QRel.done {s : ByteArray} {acc : List UInt8} {k : Nat} (h : QRel s acc k) (hk : s.size ≤ k) : quoteR s.data.toList = ([], 0) := by
  have h1 := h.1
  rw [List.drop_eq_nil_of_le (by rw [data_length]; exact hk)] at h1
  simp [quoteR, ← h1, quoteB]
theorem QRel.other {s : ByteArray} {acc : List UInt8} {k : Nat} {c : UInt8} (h : QRel s acc k) (hc : s.data.toList[k]? = some c) (hn : ¬ (c.toNat : Int) = 39) : QRel s (acc ++ [c]) (k + 1) := by
  have h1 := h.1
  rw [drop_at hc, quoteB_other (ne39 hn)] at h1
  exact ⟨h1, by have := h.2.1; simp; omega, by omega⟩
theorem QRel.last {s : ByteArray} {acc : List UInt8} {k : Nat} {c : UInt8} (h : QRel s acc k) (hc : s.data.toList[k]? = some c) (hn : (c.toNat : Int) = 39) (hk : k + 1 = s.size) : quoteR s.data.toList = (acc, k + 1) := by
  have h1 := h.1
  rw [drop_at hc, eq39 hn, List.drop_eq_nil_of_le (by rw [data_length]; omega), quoteB_last] at h1
  simp [quoteR, ← h1, data_length]; omega
theorem QRel.close {s : ByteArray} {acc : List UInt8} {k : Nat} {c d : UInt8} (h : QRel s acc k) (hc : s.data.toList[k]? = some c) (hn : (c.toNat : Int) = 39) (hd : s.data.toList[k + 1]? = some d) (hm : ¬ (d.toNat : Int) = 39) : quoteR s.data.toList = (acc, k + 1) := by
  have h1 := h.1
  have hlt : k + 1 < s.size := by
    obtain ⟨h', _⟩ := List.getElem?_eq_some_iff.mp hd
    rw [data_length] at h'; exact h'
  rw [drop_at hc, eq39 hn, drop_at hd, quoteB_close (ne39 hm)] at h1
  simp [quoteR, ← h1, data_length]; omega
theorem QRel.twice {s : ByteArray} {acc : List UInt8} {k : Nat} {c d : UInt8} (h : QRel s acc k) (hc : s.data.toList[k]? = some c) (hn : (c.toNat : Int) = 39) (hd : s.data.toList[k + 1]? = some d) (hm : (d.toNat : Int) = 39) : QRel s (acc ++ [39]) (k + 2) := by
  have h1 := h.1
  rw [drop_at hc, eq39 hn, drop_at hd, eq39 hm, quoteB_twice] at h1
  exact ⟨h1, by have := h.2.1; simp; omega, by omega⟩

theorem quoteR_two {l : List UInt8} (h : Lib.hasPrefix l [39, 39] = true) : quoteR l = ([39], 2) := by
  rw [hasPrefix_eq] at h
  have : 2 ≤ l.length := (List.isPrefixOf_iff_prefix.mp h).length_le
  simp [quoteR, quoteS, h]; omega
theorem QRel.start {s : ByteArray} (h : Lib.hasPrefix s.data.toList [39, 39] = false) : QRel s [] 1 := by
  rw [hasPrefix_eq] at h
  exact ⟨by simp [quoteS, h], by simp, by omega⟩

set_option maxHeartbeats 2000000 in
set_option maxRecDepth 100000 in
theorem quote_any (s : ByteArray) (w : World) (hs : s.size ≤ 1073741824) :
    Calls Tryd.prog 35 #[.string s] w fun e w' => e = .returned (.tuple #[.string (bs (quoteR s.data.toList).1), .int .i64 (quoteR s.data.toList).2]) ∧ Below w.heap.size w w' := by
  by_cases hp : Lib.hasPrefix s.data.toList [39, 39] = true
  · have hR := Lib.hid (quoteR_two hp)
    go_enter Tryd.func35, Tryd.ntmps35
    go_wp2_with (go_at_call 30; refine (hp_any _ _ _).mono ?_; rintro e w' ⟨rfl, rfl⟩)
    go_ret2
    exact ⟨by rw [hR.out]; rfl, Below.refl _ _⟩
  · have h0 := Lib.hid (QRel.start (Bool.eq_false_iff.mpr hp))
    replace hp := Bool.eq_false_iff.mpr hp
    go_enter Tryd.func35, Tryd.ntmps35
    go_wp2_with (go_at_call 30; refine (hp_any _ _ _).mono ?_; rintro e w' ⟨rfl, rfl⟩)
    clear hp
    go_loopw [4, 5] (fun v4 v5 w' => ∃ (acc : List UInt8) (k : Nat), v5 = .int .i64 k ∧ k ≤ s.size + 1 ∧ Aside0 (QRel s acc k) ∧ Aside0 (Kd.R (Kd.int .u8) 5 w' w.heap.size (fun _ => True) v4 (nb acc)) ∧ Aside0 (Below w.heap.size w w')) (fun _ v5 _ => s.size + 1 - (intOf v5).toNat)
    case atStart => exact ⟨[], 1, rfl, by omega, ⟨h0.out⟩, ⟨Kd.R_nil _ _ _ _ _⟩, ⟨Below.refl _ _⟩⟩
    case round =>
      obtain ⟨acc, k, rfl, hk, hQ, hO, hB⟩ := hrel
      by_cases hlt : k < s.size
      · obtain ⟨c, hc0, hx⟩ := byte_at s k hlt
        have hc := Lib.hid hc0
        clear hc0
        have hl := hQ.out.2.1
        by_cases h39 : (c.toNat : Int) = 39
        · have b1 : ((c.toNat : Int) != 39) = false := bne_eq_false_iff_eq.mpr h39
          by_cases hk1 : k + 1 = s.size
          · have hR := Lib.hid (hQ.out.last hc.out h39 hk1)
            have b2 : ((k : Int) + 1 == (s.size : Int)) = true := beq_iff_eq.mpr (by omega)
            clear h39 hk1
            have hcv := own_string (P := Tryd.prog) Tryd.underlying39 Tryd.underlying5 Tryd.underlying9 (Kd.own_of_R hO.out)
            go_wp2
            go_ret2
            exact ⟨by rw [hR.out, strOfNums_nb]; rfl, hB.out⟩
          · have b2 : ((k : Int) + 1 == (s.size : Int)) = false := beq_eq_false_iff_ne.mpr (by omega)
            obtain ⟨d, hd0, hy⟩ := byte_at s (k + 1) (by omega)
            have hd := Lib.hid hd0
            have hk2 : k + 1 < s.size := by omega
            clear hd0 hk1
            by_cases h39d : (d.toNat : Int) = 39
            · have b3 : ((d.toNat : Int) != 39) = false := bne_eq_false_iff_eq.mpr h39d
              have hQ2 := Aside0.mk (hQ.out.twice hc.out h39 hd.out h39d)
              clear h39 h39d
              go_wp2_with (at_builtin; refine Kd.R_append (Kd.int .u8) (w0 := w) w.heap.size rfl (.tmp 40) (.tmp 41) 39 5 (.int .u8 0) 1 rfl Tryd.underlying39 infoByte rfl (by decide) (by decide) u4 (nb acc) 39 [.int .u8 39] (fun _ => True) (fun _ => False) rfl rfl ?aP (fun _ hk => hk.elim) ?aF ?aO ?aB ?aS ?aL ?_; (case aP => exact rfl); (case aB => exact hB.out); (case aF => exact (fun _ _ => trivial)); (case aO => exact hO.out); (case aS => exact (below_size hB.out)); (case aL => rw [nb_length]; omega); intro v1 w1 ho hb _ _; have hO1 := Aside0.mk ho; have hB1 := Aside0.mk hb; clear ho hb)
              go_roundw
              case rel => exact ⟨acc ++ [39], k + 2, by go_num, by omega, hQ2, ⟨by rw [nb_snoc]; exact hO1.out⟩, hB1⟩
              case measure => simp [intOf]; omega
            · have b3 : ((d.toNat : Int) != 39) = true := bne_iff_ne.mpr h39d
              have hR := Lib.hid (hQ.out.close hc.out h39 hd.out h39d)
              clear h39 h39d
              have hcv := own_string (P := Tryd.prog) Tryd.underlying39 Tryd.underlying5 Tryd.underlying9 (Kd.own_of_R hO.out)
              go_wp2
              go_ret2
              exact ⟨by rw [hR.out, strOfNums_nb]; rfl, hB.out⟩
        · have b1 : ((c.toNat : Int) != 39) = true := bne_iff_ne.mpr h39
          have hQ2 := Aside0.mk (hQ.out.other hc.out h39)
          clear h39
          go_wp2_with (at_builtin; refine Kd.R_append (Kd.int .u8) (w0 := w) w.heap.size rfl (.tmp 18) (.tmp 22) 39 5 (.int .u8 0) 1 rfl Tryd.underlying39 infoByte rfl (by decide) (by decide) u4 (nb acc) (c.toNat : Int) [.int .u8 (c.toNat : Int)] (fun _ => True) (fun _ => False) rfl rfl ?aP (fun _ hk => hk.elim) ?aF ?aO ?aB ?aS ?aL ?_; (case aP => exact rfl); (case aB => exact hB.out); (case aF => exact (fun _ _ => trivial)); (case aO => exact hO.out); (case aS => exact (below_size hB.out)); (case aL => rw [nb_length]; omega); intro v1 w1 ho hb _ _; have hO1 := Aside0.mk ho; have hB1 := Aside0.mk hb; clear ho hb)
          go_roundw
          case rel => exact ⟨acc ++ [c], k + 1, by go_num, by omega, hQ2, ⟨by rw [nb_snoc]; exact hO1.out⟩, hB1⟩
          case measure => simp [intOf]; omega
      · go_wp2
        go_ret2
        exact ⟨by rw [hQ.out.done (by omega)]; rfl, hB.out⟩
end Go.Proofs.YtjpdakepfmepnaaDoor

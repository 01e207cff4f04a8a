/- The walk of pattern.has. (Printed by gen_has.py.) -/
import Derived.Test.YtjpdakepfmepnaaDoorStep
namespace Go.Proofs.YtjpdakepfmepnaaDoor
open Go.RowKit Go.Proofs.YtjpdakepfmepnaaDoorW.PrintWords Pat
set_option linter.unusedVariables false
set_option linter.unusedSimpArgs false

/-- A pattern's four rows, as they are read. -/
structure PatReads (w : World) (s0 s1 s3 s4 : Sl) (p : Pat) : Prop where
  e0 : s0.n = p.pre.length
  c0 : p.pre.length ≤ s0.c
  r0 : Kd.C kA w s0.A p.pre.length p.pre
  e1 : s1.n = p.suf.length
  c1 : p.suf.length ≤ s1.c
  r1 : Kd.C kA w s1.A p.suf.length p.suf
  e3 : s3.n = p.npre.length
  c3 : p.npre.length ≤ s3.c
  r3 : Kd.C kA w s3.A p.npre.length p.npre
  e4 : s4.n = p.nsuf.length
  c4 : p.nsuf.length ≤ s4.c
  r4 : Kd.C kA w s4.A p.nsuf.length p.nsuf
theorem kind_step {k : Int} {l : List Aff} {i : Nat} (h : i < l.length) : hasKind (l.drop i) k = ((l.getD i zA).kind == k || hasKind (l.drop (i + 1)) k) := by
  rw [List.drop_eq_getElem_cons h]
  unfold hasKind
  rw [List.any_cons]
  have : l.getD i zA = l[i] := by simp [List.getD, List.getElem?_eq_getElem h]
  rw [this]
theorem kind_end {k : Int} {l : List Aff} {i : Nat} (h : ¬ i < l.length) : hasKind (l.drop i) k = false := by
  rw [List.drop_eq_nil_of_le (by omega)]; rfl
/-- What is left to be looked through. -/
def restH (p : Pat) (k : Int) : Nat → Bool
  | 0 => hasKind p.pre k || hasKind p.suf k
  | 1 => hasKind p.suf k || false
  | _ => false
set_option maxHeartbeats 4000000 in
set_option maxRecDepth 100000 in
theorem has_any (s0 s1 s3 s4 : Sl) (p : Pat) (k : Int) (w : World) (h : PatReads w s0 s1 s3 s4 p) (hb0 : p.pre.length ≤ 1048576) (hb1 : p.suf.length ≤ 1048576) :
    Calls Tryd.prog 18 #[patV s0 s1 s3 s4 p, .int .i64 k] w fun e w' => e = .returned (.bool (hasS p k)) ∧ Below w.heap.size w w' := by
  have hu40 := Tryd.underlying28
  have hu2 := Tryd.underlying26
  obtain ⟨A0, n0, c0⟩ := s0
  obtain ⟨A1, n1, c1⟩ := s1
  obtain ⟨e0, d0, r0, e1, d1, r1, _, _, _, _, _, _⟩ := h
  dsimp only at e0 e1 d0 d1 r0 r1
  subst e0 e1
  have R0 := Aside0.mk r0
  have R1 := Aside0.mk r1
  have HC := Aside0.mk (And.intro d0 d1)
  clear r0 r1 d0 d1
  obtain ⟨r, hr⟩ : ∃ r : Bool, r = hasS p k := ⟨_, rfl⟩
  rw [← hr]
  have HR := Lib.hid hr
  clear hr
  go_enter Tryd.func18, Tryd.ntmps18
  go_wp2
  go_loopg [15] 2 (fun kq v15 w' => ∃ j : Nat, v15 = .int .i64 j ∧ kq = 2 - j ∧ Aside0 (j ≤ 2) ∧ Aside0 (r = restH p k j) ∧ Aside0 (w'.heap[w.heap.size + 1]? = some (.cells #[.slice A0 p.pre.length c0, .slice A1 p.suf.length c1] 22 (0, 0))) ∧ Aside0 (Below w.heap.size w w'))
  case atStart => exact ⟨0, rfl, rfl, ⟨by omega⟩, ⟨HR.out⟩, ⟨blk_alloc2 w _ _⟩, ⟨below_alloc (below_alloc (Below.refl _ _) _) _⟩⟩
  case round =>
    obtain ⟨j, rfl, hg2, hj2, hj, hk, hb⟩ := hrel
    have HG2 := Lib.hid hg2
    have hj3 := hj2.out
    clear hg2 HR hj2
    obtain rfl | rfl | rfl : j = 0 ∨ j = 1 ∨ j = 2 := by omega
    · clear hj3
      have x := (blk_cell hk.out 0).trans (rfl : _ = some (Value.slice A0 p.pre.length c0))
      go_wp2
      go_loopg [21] p.pre.length (fun kq v21 wx => ∃ i : Nat, v21 = .int .i64 i ∧ kq = p.pre.length - i ∧ Aside0 (i ≤ p.pre.length) ∧ Aside0 (r = (hasKind (p.pre.drop i) k || hasKind p.suf k)) ∧ Aside0 (wx.heap[w.heap.size + 1]? = some (.cells #[.slice A0 p.pre.length c0, .slice A1 p.suf.length c1] 22 (0, 0))) ∧ Aside0 (Below w.heap.size w wx))
      case atStart => exact ⟨0, rfl, rfl, ⟨Nat.zero_le _⟩, ⟨by rw [hj.out]; rfl⟩, hk, hb⟩
      case round =>
        clear hk hb hj x
        obtain ⟨i, rfl, hg, hi, hp, hk, hb⟩ := hrel
        have HG := Lib.hid hg
        clear hg
        by_cases hlt : i < p.pre.length
        · obtain ⟨ad, e, x0, x1, x2⟩ := at_A R0.out i hlt
          cases e
          replace x0 := (hb.out.cell (World.block_lt_of_cell? w _ x0)).trans x0
          replace x1 := (hb.out.cell (World.block_lt_of_cell? w _ x1)).trans x1
          replace x2 := (hb.out.cell (World.block_lt_of_cell? w _ x2)).trans x2
          have hs0 := hp.out.trans (by rw [kind_step hlt])
          generalize p.pre.getD i zA = x at x0 x1 x2 hs0
          obtain ⟨xk, xt, xn⟩ := x
          dsimp only at x0 x1 x2 hs0
          by_cases hkk : xk = k
          · obtain rfl : r = true := by rw [hs0, beq_iff_eq.mpr hkk]; rfl
            have bk : (xk == k) = true := beq_iff_eq.mpr hkk
            clear hs0
            go_wp2
            go_ret
            exact ⟨rfl, below_alloc hb.out _⟩
          · have bk : (xk == k) = false := beq_eq_false_iff_ne.mpr hkk
            rw [bk, Bool.false_or] at hs0
            have hs := Aside0.mk hs0
            clear hs0
            go_wp2
            go_roundg (p.pre.length - (i + 1))
            case measure => rw [HG.out]; omega
            case rel => exact ⟨i + 1, by go_num, rfl, ⟨hlt⟩, hs, ⟨blk_alloc hk.out _⟩, ⟨below_alloc hb.out _⟩⟩
        · have hs := Aside0.mk (hp.out.trans (by rw [kind_end hlt, Bool.false_or]))
          go_wp2
          go_roundg (2 - (0 + 1))
          case measure => rw [HG2.out]; omega
          case rel => exact ⟨0 + 1, by go_num, rfl, ⟨by omega⟩, ⟨hs.out.trans (by simp [restH])⟩, hk, hb⟩
    · clear hj3
      have x := (blk_cell hk.out 1).trans (rfl : _ = some (Value.slice A1 p.suf.length c1))
      go_wp2
      go_loopg [21] p.suf.length (fun kq v21 wx => ∃ i : Nat, v21 = .int .i64 i ∧ kq = p.suf.length - i ∧ Aside0 (i ≤ p.suf.length) ∧ Aside0 (r = (hasKind (p.suf.drop i) k || false)) ∧ Aside0 (wx.heap[w.heap.size + 1]? = some (.cells #[.slice A0 p.pre.length c0, .slice A1 p.suf.length c1] 22 (0, 0))) ∧ Aside0 (Below w.heap.size w wx))
      case atStart => exact ⟨0, rfl, rfl, ⟨Nat.zero_le _⟩, ⟨by rw [hj.out]; rfl⟩, hk, hb⟩
      case round =>
        clear hk hb hj x
        obtain ⟨i, rfl, hg, hi, hp, hk, hb⟩ := hrel
        have HG := Lib.hid hg
        clear hg
        by_cases hlt : i < p.suf.length
        · obtain ⟨ad, e, x0, x1, x2⟩ := at_A R1.out i hlt
          cases e
          replace x0 := (hb.out.cell (World.block_lt_of_cell? w _ x0)).trans x0
          replace x1 := (hb.out.cell (World.block_lt_of_cell? w _ x1)).trans x1
          replace x2 := (hb.out.cell (World.block_lt_of_cell? w _ x2)).trans x2
          have hs0 := hp.out.trans (by rw [kind_step hlt])
          generalize p.suf.getD i zA = x at x0 x1 x2 hs0
          obtain ⟨xk, xt, xn⟩ := x
          dsimp only at x0 x1 x2 hs0
          by_cases hkk : xk = k
          · obtain rfl : r = true := by rw [hs0, beq_iff_eq.mpr hkk]; rfl
            have bk : (xk == k) = true := beq_iff_eq.mpr hkk
            clear hs0
            go_wp2
            go_ret
            exact ⟨rfl, below_alloc hb.out _⟩
          · have bk : (xk == k) = false := beq_eq_false_iff_ne.mpr hkk
            rw [bk, Bool.false_or] at hs0
            have hs := Aside0.mk hs0
            clear hs0
            go_wp2
            go_roundg (p.suf.length - (i + 1))
            case measure => rw [HG.out]; omega
            case rel => exact ⟨i + 1, by go_num, rfl, ⟨hlt⟩, hs, ⟨blk_alloc hk.out _⟩, ⟨below_alloc hb.out _⟩⟩
        · have hs := Aside0.mk (hp.out.trans (by rw [kind_end hlt, Bool.false_or]))
          go_wp2
          go_roundg (2 - (1 + 1))
          case measure => rw [HG2.out]; omega
          case rel => exact ⟨1 + 1, by go_num, rfl, ⟨by omega⟩, ⟨hs.out.trans (by simp [restH])⟩, hk, hb⟩
    · obtain rfl : r = false := hj.out
      go_wp2
      go_ret
      exact ⟨rfl, hb.out⟩
end Go.Proofs.YtjpdakepfmepnaaDoor

/- The walk of pattern.Check. (Printed by gen_check.py.) -/
import Derived.Test.YtjpdakepfmepnaaDoorHas
import Derived.Deep.DeepCutAuto
namespace Go.Proofs.YtjpdakepfmepnaaDoor
open Go.RowKit Go.Proofs.YtjpdakepfmepnaaDoorW.PrintWords Pat
set_option linter.unusedVariables false
set_option linter.unusedSimpArgs false

/-- The first row's error that is one. -/
def errs : List (List Aff) → Int
  | [] => 0
  | l :: r => if affErr l ≠ 0 then affErr l else errs r
/-- What Check says where no row is wrong. -/
def bad8 (p : Pat) : Bool := (!p.neg && decide (0 < p.npre.length + p.nsuf.length)) || (hasS p 4 && hasS p 5)
theorem bad8_iff (p : Pat) : ((p.neg = false ∧ 0 < p.npre.length + p.nsuf.length) ∨ (hasS p 4 = true ∧ hasS p 5 = true)) ↔ bad8 p = true := by simp [bad8]
theorem bad8_rows {a b : List Aff} {f5 f6 f7 f8 f9 f10 f11 : Int} {sn : Bool} {si sf : List UInt8} {f15 : Int} {pl : Bool} {c d : List Aff} (h : (0 : Int) < (c.length : Int) + d.length) : bad8 ⟨a, b, false, c, d, f5, f6, f7, f8, f9, f10, f11, sn, si, sf, f15, pl⟩ = true := by
  have : 0 < c.length + d.length := by omega
  simp [bad8, this]
theorem bad8_no {a b : List Aff} {f5 f6 f7 f8 f9 f10 f11 : Int} {sn : Bool} {si sf : List UInt8} {f15 : Int} {pl : Bool} {c d : List Aff} (h : ¬ (0 : Int) < (c.length : Int) + d.length) : bad8 ⟨a, b, false, c, d, f5, f6, f7, f8, f9, f10, f11, sn, si, sf, f15, pl⟩ = (hasS ⟨a, b, false, c, d, f5, f6, f7, f8, f9, f10, f11, sn, si, sf, f15, pl⟩ 4 && hasS ⟨a, b, false, c, d, f5, f6, f7, f8, f9, f10, f11, sn, si, sf, f15, pl⟩ 5) := by
  have : ¬ 0 < c.length + d.length := by omega
  simp [bad8, this]
theorem bad8_neg {a b : List Aff} {f5 f6 f7 f8 f9 f10 f11 : Int} {sn : Bool} {si sf : List UInt8} {f15 : Int} {pl : Bool} {c d : List Aff} : bad8 ⟨a, b, true, c, d, f5, f6, f7, f8, f9, f10, f11, sn, si, sf, f15, pl⟩ = (hasS ⟨a, b, true, c, d, f5, f6, f7, f8, f9, f10, f11, sn, si, sf, f15, pl⟩ 4 && hasS ⟨a, b, true, c, d, f5, f6, f7, f8, f9, f10, f11, sn, si, sf, f15, pl⟩ 5) := by
  simp [bad8]
def tailS (p : Pat) : Int :=
  if bad8 p = true then 90
  else if countErr [p.minInt, p.minFrac, p.maxFrac, p.minSig, p.maxSig, p.group, p.second, p.exp] ≠ 0 then countErr [p.minInt, p.minFrac, p.maxFrac, p.minSig, p.maxSig, p.group, p.second, p.exp]
  else if restOk p then 0 else 90
def rows (p : Pat) : List (List Aff) := [p.pre, p.suf, p.npre, p.nsuf]
theorem checkS_errs (p : Pat) : checkS p = if errs (rows p) ≠ 0 then errs (rows p) else tailS p := by
  unfold checkS errs rows
  by_cases h1 : affErr p.pre ≠ 0
  · simp only [if_pos h1]
  · by_cases h2 : affErr p.suf ≠ 0
    · simp only [if_neg h1, if_pos h2, errs]
    · by_cases h3 : affErr p.npre ≠ 0
      · simp only [if_neg h1, if_neg h2, if_pos h3, errs]
      · by_cases h4 : affErr p.nsuf ≠ 0
        · simp only [if_neg h1, if_neg h2, if_neg h3, if_pos h4, errs]
        · simp only [if_neg h1, if_neg h2, if_neg h3, if_neg h4, errs, ne_eq, not_true_eq_false, if_false]
          unfold tailS
          by_cases h : bad8 p = true
          · rw [if_pos ((bad8_iff p).mpr h), if_pos h]
          · rw [if_neg (fun q => h ((bad8_iff p).mp q)), if_neg h]
theorem errs_cons {l : List Aff} {r : List (List Aff)} (h : affErr l = 0) : errs (l :: r) = errs r := by rw [errs, if_neg (by rw [h]; simp)]
theorem errs_hit {l : List Aff} {r : List (List Aff)} (h : ¬ affErr l = 0) : errs (l :: r) = affErr l := by rw [errs, if_pos h]
theorem load_row_w {P : Program} {ops : Array Oper} {rest : List Oper} {o : Oper} {a : Act} {w : World} {Q : Exit → Act → World → Prop} (hw : Region.wanted o (yielded ops a.tmps) = true) (ty : TypeId) (x : Operand) (ho : o.op = .load ty x)
    (g : Nat) (hx : a.eval x = .pointer (some ⟨g, 0, none⟩)) (t : TypeId) (cs : Array Value) (fr : Nat × Nat) (d : TypeDesc) (hg : w.heap[g]? = some (.cells cs t fr))
    (hu : P.underlying ty = some d) (hd : (match d with | .struct _ | .array _ _ => true | _ => false) = true) (hi : (P.info? ty).map (·.size) = some cs.size)
    (h : wpList P ops Q rest (a.put o.dst (.agg cs)) w) : wpList P ops Q (o :: rest) a w := by
  have h2 : wpList P ops Q ({ o with guard := none } :: rest) a w := wpList_load_row rfl ty x ho g hx t cs fr d hg hu hd hi h
  unfold wpList at h2 ⊢
  rw [if_pos (show Region.wanted { o with guard := none } (yielded ops a.tmps) = true from rfl)] at h2
  rw [if_pos hw]
  exact h2
theorem PatReads.below {w w' : World} {s0 s1 s3 s4 : Sl} {p : Pat} (h : PatReads w s0 s1 s3 s4 p) (hb : Below w.heap.size w w') : PatReads w' s0 s1 s3 s4 p :=
  ⟨h.e0, h.c0, Kd.C_below h.r0 hb, h.e1, h.c1, Kd.C_below h.r1 hb, h.e3, h.c3, Kd.C_below h.r3 hb, h.e4, h.c4, Kd.C_below h.r4 hb⟩
def cnt2 (l : List Int) (t : Int) : Int := if countErr l ≠ 0 then countErr l else t
def cnts (p : Pat) : List Int := [p.minInt, p.minFrac, p.maxFrac, p.minSig, p.maxSig, p.group, p.second, p.exp]
def r1 (p : Pat) : Bool := decide (p.minFrac ≤ p.maxFrac ∧ p.minSig ≤ p.maxSig ∧ (p.minSig = 0 ↔ p.maxSig = 0))
def r2 (p : Pat) : Bool := decide (¬ (0 < p.minSig ∧ (0 < p.minInt ∨ 0 < p.maxFrac)))
def r3 (p : Pat) : Bool := decide (¬ (0 < p.second ∧ (p.group = 0 ∨ p.second = p.group)))
def r5 (p : Pat) : Bool := decide (¬ (0 < p.exp ∧ (p.minInt = 0 ∨ 0 < p.group ∨ 0 < p.minSig ∨ noStep p = false)))
def r6 (p : Pat) : Bool := decide (¬ (p.expPlus = true ∧ p.exp = 0))
def tail3 (p : Pat) : Int := if r1 p && r2 p && r3 p && stepOk p && r5 p && r6 p then 0 else 90
theorem restOk_r (p : Pat) : restOk p = (r1 p && r2 p && r3 p && stepOk p && r5 p && r6 p) := by
  have h1 : ∀ (A B C D : Prop) [Decidable A] [Decidable B] [Decidable C] [Decidable D], decide (A ∧ B ∧ (C ↔ D)) = (decide A && decide B && (decide C == decide D)) := by
    intro A B C D _ _ _ _
    by_cases a : A <;> by_cases b : B <;> by_cases c : C <;> by_cases d : D <;> simp [a, b, c, d]
  have h3 : ∀ (A B C : Prop) [Decidable A] [Decidable B] [Decidable C], decide (¬ (A ∧ (B ∨ C))) = !(decide A && (decide B || decide C)) := by
    intro A B C _ _ _
    by_cases a : A <;> by_cases b : B <;> by_cases c : C <;> simp [a, b, c]
  have h5 : ∀ (A B C D : Prop) (n : Bool) [Decidable A] [Decidable B] [Decidable C] [Decidable D], decide (¬ (A ∧ (B ∨ C ∨ D ∨ n = false))) = !(decide A && (decide B || decide C || decide D || !n)) := by
    intro A B C D n _ _ _ _
    cases n <;> by_cases a : A <;> by_cases b : B <;> by_cases c : C <;> by_cases d : D <;> simp [a, b, c, d]
  have h6 : ∀ (n : Bool) (A : Prop) [Decidable A], decide (¬ (n = true ∧ A)) = !(n && decide A) := by
    intro n A _
    cases n <;> by_cases a : A <;> simp [a]
  have e1 : r1 p = (decide (p.minFrac ≤ p.maxFrac) && decide (p.minSig ≤ p.maxSig) && (decide (p.minSig = 0) == decide (p.maxSig = 0))) := h1 ..
  have e2 : r2 p = !(decide (0 < p.minSig) && (decide (0 < p.minInt) || decide (0 < p.maxFrac))) := h3 ..
  have e3 : r3 p = !(decide (0 < p.second) && (decide (p.group = 0) || decide (p.second = p.group))) := h3 ..
  have e5 : r5 p = !(decide (0 < p.exp) && (decide (p.minInt = 0) || decide (0 < p.group) || decide (0 < p.minSig) || !noStep p)) := h5 ..
  have e6 : r6 p = !(p.expPlus && decide (p.exp = 0)) := h6 ..
  rw [e1, e2, e3, e5, e6]; rfl
def tail2 (p : Pat) : Int := cnt2 (cnts p) (tail3 p)
theorem tail2_is (p : Pat) : tail2 p = if countErr [p.minInt, p.minFrac, p.maxFrac, p.minSig, p.maxSig, p.group, p.second, p.exp] ≠ 0 then countErr [p.minInt, p.minFrac, p.maxFrac, p.minSig, p.maxSig, p.group, p.second, p.exp]
  else if restOk p then 0 else 90 := by unfold tail2 cnt2 tail3 cnts; rw [restOk_r]
theorem cnt_neg {n : Int} {l : List Int} {t : Int} (h : n < 0) : cnt2 (n :: l) t = 90 := by unfold cnt2 countErr; rw [if_pos h]; rfl
theorem cnt_big {n : Int} {l : List Int} {t : Int} (h : ¬ n < 0) (h2 : 40 < n) : cnt2 (n :: l) t = 3 := by unfold cnt2 countErr; rw [if_neg h, if_pos h2]; rfl
theorem cnt_next {n : Int} {l : List Int} {t : Int} (h : ¬ n < 0) (h2 : ¬ 40 < n) : cnt2 (n :: l) t = cnt2 l t := by rw [cnt2, countErr, if_neg h, if_neg h2]; rfl
theorem cnt_end {t : Int} : cnt2 [] t = t := rfl
theorem vb {a b : Bool} (h : a = b) : Value.bool a = Value.bool b := by rw [h]
theorem affErr_le {l : List Aff} (h : affErr l = 0) : l.length ≤ 64 := by
  unfold affErr at h
  split at h
  · cases h
  · omega
attribute [local go_sem high] eqDec
set_option maxHeartbeats 8000000 in
set_option maxRecDepth 100000 in
theorem check_any (s0 s1 s3 s4 : Sl) (p : Pat) (w : World) (h : PatReads w s0 s1 s3 s4 p) :
    Calls Tryd.prog 8 #[patV s0 s1 s3 s4 p] w fun e w' => e = .returned (.int .i64 (checkS p)) ∧ Below w.heap.size w w' := by
  have hu40 := Tryd.underlying28
  have hu2 := Tryd.underlying26
  have hu68 := Tryd.underlying59
  obtain ⟨q0, q1, ng, q3, q4, f5, f6, f7, f8, f9, f10, f11, sn, si, sf, f15, pl⟩ := p
  obtain ⟨A0, n0, c0⟩ := s0
  obtain ⟨A1, n1, c1⟩ := s1
  obtain ⟨A3, n3, c3⟩ := s3
  obtain ⟨A4, n4, c4⟩ := s4
  obtain ⟨e0, e1, e3, e4⟩ := And.intro h.e0 (And.intro h.e1 (And.intro h.e3 h.e4))
  dsimp only at e0 e1 e3 e4
  subst e0 e1 e3 e4
  have H := Lib.hid h
  clear h
  obtain ⟨r, hr⟩ : ∃ r : Int, r = checkS (⟨q0, q1, ng, q3, q4, f5, f6, f7, f8, f9, f10, f11, sn, si, sf, f15, pl⟩ : Pat) := ⟨_, rfl⟩
  rw [← hr]
  have HR := Lib.hid (hr.trans (checkS_errs (⟨q0, q1, ng, q3, q4, f5, f6, f7, f8, f9, f10, f11, sn, si, sf, f15, pl⟩ : Pat)))
  clear hr
  go_enter Tryd.func8, Tryd.ntmps8
  go_wp2
  go_loopg [18] 4 (fun kq v18 w' => ∃ j : Nat, v18 = .int .i64 j ∧ kq = 4 - j ∧ Aside0 (j ≤ 4) ∧ Aside0 (∀ l ∈ (rows (⟨q0, q1, ng, q3, q4, f5, f6, f7, f8, f9, f10, f11, sn, si, sf, f15, pl⟩ : Pat)).take j, affErr l = 0) ∧ Aside0 (r = if errs ((rows (⟨q0, q1, ng, q3, q4, f5, f6, f7, f8, f9, f10, f11, sn, si, sf, f15, pl⟩ : Pat)).drop j) ≠ 0 then errs ((rows (⟨q0, q1, ng, q3, q4, f5, f6, f7, f8, f9, f10, f11, sn, si, sf, f15, pl⟩ : Pat)).drop j) else tailS (⟨q0, q1, ng, q3, q4, f5, f6, f7, f8, f9, f10, f11, sn, si, sf, f15, pl⟩ : Pat)) ∧ Aside0 (w'.heap[w.heap.size + 1]? = some (.cells #[.slice A0 q0.length c0, .slice A1 q1.length c1, .slice A3 q3.length c3, .slice A4 q4.length c4] 22 (0, 0))) ∧ Aside0 (w'.heap[w.heap.size]? = some (.cells (patCells ⟨A0, q0.length, c0⟩ ⟨A1, q1.length, c1⟩ ⟨A3, q3.length, c3⟩ ⟨A4, q4.length, c4⟩ (⟨q0, q1, ng, q3, q4, f5, f6, f7, f8, f9, f10, f11, sn, si, sf, f15, pl⟩ : Pat)) 26 (0, 0))) ∧ Aside0 (Below w.heap.size w w'))
  case atStart => exact ⟨0, rfl, rfl, ⟨by omega⟩, ⟨by simp⟩, ⟨HR.out⟩, ⟨blk_alloc2 w _ _⟩, ⟨heap_alloc2_old w _ _⟩, ⟨below_alloc (below_alloc (Below.refl _ _) _) _⟩⟩
  case round =>
    obtain ⟨j, rfl, hg, hj2, ha, hj, hk, hp, hb⟩ := hrel
    have HG := Lib.hid hg
    have hj3 := hj2.out
    clear hg HR hj2
    obtain rfl | rfl | rfl | rfl | rfl : j = 0 ∨ j = 1 ∨ j = 2 ∨ j = 3 ∨ j = 4 := by omega
    · as_aux_lemma =>
        clear hj3
        have x := (blk_cell hk.out 0).trans (rfl : _ = some (Value.slice A0 q0.length c0))
        by_cases he : affErr q0 = 0
        · have HA : Hid (Calls Tryd.prog 17 #[.slice A0 q0.length c0] wr fun e w' => e = .returned (.int .i64 0) ∧ Below wr.heap.size wr w') := Lib.hid (by have := checkAffix_any q0 A0 c0 wr (Kd.C_below H.out.r0 hb.out) H.out.c0; rw [he] at this; exact this)
          have hj2 := Aside0.mk (show r = if errs ((rows (⟨q0, q1, ng, q3, q4, f5, f6, f7, f8, f9, f10, f11, sn, si, sf, f15, pl⟩ : Pat)).drop (0 + 1)) ≠ 0 then errs ((rows (⟨q0, q1, ng, q3, q4, f5, f6, f7, f8, f9, f10, f11, sn, si, sf, f15, pl⟩ : Pat)).drop (0 + 1)) else tailS (⟨q0, q1, ng, q3, q4, f5, f6, f7, f8, f9, f10, f11, sn, si, sf, f15, pl⟩ : Pat) by rw [hj.out]; show (if errs (q0 :: (rows (⟨q0, q1, ng, q3, q4, f5, f6, f7, f8, f9, f10, f11, sn, si, sf, f15, pl⟩ : Pat)).drop (0 + 1)) ≠ 0 then errs (q0 :: (rows (⟨q0, q1, ng, q3, q4, f5, f6, f7, f8, f9, f10, f11, sn, si, sf, f15, pl⟩ : Pat)).drop (0 + 1)) else tailS (⟨q0, q1, ng, q3, q4, f5, f6, f7, f8, f9, f10, f11, sn, si, sf, f15, pl⟩ : Pat)) = _; rw [errs_cons he])
          have ha2 := Aside0.mk (show ∀ l ∈ (rows (⟨q0, q1, ng, q3, q4, f5, f6, f7, f8, f9, f10, f11, sn, si, sf, f15, pl⟩ : Pat)).take (0 + 1), affErr l = 0 by
            intro l hl
            rw [show (rows (⟨q0, q1, ng, q3, q4, f5, f6, f7, f8, f9, f10, f11, sn, si, sf, f15, pl⟩ : Pat)).take (0 + 1) = (rows (⟨q0, q1, ng, q3, q4, f5, f6, f7, f8, f9, f10, f11, sn, si, sf, f15, pl⟩ : Pat)).take 0 ++ [q0] from rfl] at hl
            rcases List.mem_append.mp hl with hl | hl
            · exact ha.out l hl
            · rw [List.mem_singleton.mp hl]; exact he)
          clear he
          go_wp2_with (go_at_call 17; refine HA.out.mono ?_; rintro e w2 ⟨rfl, hb2⟩)
          go_roundg (4 - (0 + 1))
          case measure => rw [HG.out]; omega
          case rel => exact ⟨0 + 1, by go_num, rfl, ⟨by omega⟩, ha2, hj2, ⟨blk_below hk.out hb2⟩, ⟨blk_below hp.out hb2⟩, ⟨below_step hb.out hb2⟩⟩
        · obtain ⟨e, hee⟩ : ∃ e, e = affErr q0 := ⟨_, rfl⟩
          have HA : Hid (Calls Tryd.prog 17 #[.slice A0 q0.length c0] wr fun e2 w' => e2 = .returned (.int .i64 e) ∧ Below wr.heap.size wr w') := Lib.hid (by rw [hee]; exact checkAffix_any q0 A0 c0 wr (Kd.C_below H.out.r0 hb.out) H.out.c0)
          obtain rfl : r = e := by
            rw [hj.out]
            show (if errs (q0 :: (rows (⟨q0, q1, ng, q3, q4, f5, f6, f7, f8, f9, f10, f11, sn, si, sf, f15, pl⟩ : Pat)).drop (0 + 1)) ≠ 0 then errs (q0 :: (rows (⟨q0, q1, ng, q3, q4, f5, f6, f7, f8, f9, f10, f11, sn, si, sf, f15, pl⟩ : Pat)).drop (0 + 1)) else tailS (⟨q0, q1, ng, q3, q4, f5, f6, f7, f8, f9, f10, f11, sn, si, sf, f15, pl⟩ : Pat)) = _
            rw [errs_hit he, if_pos he, hee]
          have be : (r == 0) = false := by rw [hee]; exact beq_eq_false_iff_ne.mpr he
          clear he hee
          go_wp2_with (go_at_call 17; refine HA.out.mono ?_; rintro e w2 ⟨rfl, hb2⟩)
          go_ret
          exact ⟨rfl, below_step hb.out hb2⟩
    · as_aux_lemma =>
        clear hj3
        have x := (blk_cell hk.out 1).trans (rfl : _ = some (Value.slice A1 q1.length c1))
        by_cases he : affErr q1 = 0
        · have HA : Hid (Calls Tryd.prog 17 #[.slice A1 q1.length c1] wr fun e w' => e = .returned (.int .i64 0) ∧ Below wr.heap.size wr w') := Lib.hid (by have := checkAffix_any q1 A1 c1 wr (Kd.C_below H.out.r1 hb.out) H.out.c1; rw [he] at this; exact this)
          have hj2 := Aside0.mk (show r = if errs ((rows (⟨q0, q1, ng, q3, q4, f5, f6, f7, f8, f9, f10, f11, sn, si, sf, f15, pl⟩ : Pat)).drop (1 + 1)) ≠ 0 then errs ((rows (⟨q0, q1, ng, q3, q4, f5, f6, f7, f8, f9, f10, f11, sn, si, sf, f15, pl⟩ : Pat)).drop (1 + 1)) else tailS (⟨q0, q1, ng, q3, q4, f5, f6, f7, f8, f9, f10, f11, sn, si, sf, f15, pl⟩ : Pat) by rw [hj.out]; show (if errs (q1 :: (rows (⟨q0, q1, ng, q3, q4, f5, f6, f7, f8, f9, f10, f11, sn, si, sf, f15, pl⟩ : Pat)).drop (1 + 1)) ≠ 0 then errs (q1 :: (rows (⟨q0, q1, ng, q3, q4, f5, f6, f7, f8, f9, f10, f11, sn, si, sf, f15, pl⟩ : Pat)).drop (1 + 1)) else tailS (⟨q0, q1, ng, q3, q4, f5, f6, f7, f8, f9, f10, f11, sn, si, sf, f15, pl⟩ : Pat)) = _; rw [errs_cons he])
          have ha2 := Aside0.mk (show ∀ l ∈ (rows (⟨q0, q1, ng, q3, q4, f5, f6, f7, f8, f9, f10, f11, sn, si, sf, f15, pl⟩ : Pat)).take (1 + 1), affErr l = 0 by
            intro l hl
            rw [show (rows (⟨q0, q1, ng, q3, q4, f5, f6, f7, f8, f9, f10, f11, sn, si, sf, f15, pl⟩ : Pat)).take (1 + 1) = (rows (⟨q0, q1, ng, q3, q4, f5, f6, f7, f8, f9, f10, f11, sn, si, sf, f15, pl⟩ : Pat)).take 1 ++ [q1] from rfl] at hl
            rcases List.mem_append.mp hl with hl | hl
            · exact ha.out l hl
            · rw [List.mem_singleton.mp hl]; exact he)
          clear he
          go_wp2_with (go_at_call 17; refine HA.out.mono ?_; rintro e w2 ⟨rfl, hb2⟩)
          go_roundg (4 - (1 + 1))
          case measure => rw [HG.out]; omega
          case rel => exact ⟨1 + 1, by go_num, rfl, ⟨by omega⟩, ha2, hj2, ⟨blk_below hk.out hb2⟩, ⟨blk_below hp.out hb2⟩, ⟨below_step hb.out hb2⟩⟩
        · obtain ⟨e, hee⟩ : ∃ e, e = affErr q1 := ⟨_, rfl⟩
          have HA : Hid (Calls Tryd.prog 17 #[.slice A1 q1.length c1] wr fun e2 w' => e2 = .returned (.int .i64 e) ∧ Below wr.heap.size wr w') := Lib.hid (by rw [hee]; exact checkAffix_any q1 A1 c1 wr (Kd.C_below H.out.r1 hb.out) H.out.c1)
          obtain rfl : r = e := by
            rw [hj.out]
            show (if errs (q1 :: (rows (⟨q0, q1, ng, q3, q4, f5, f6, f7, f8, f9, f10, f11, sn, si, sf, f15, pl⟩ : Pat)).drop (1 + 1)) ≠ 0 then errs (q1 :: (rows (⟨q0, q1, ng, q3, q4, f5, f6, f7, f8, f9, f10, f11, sn, si, sf, f15, pl⟩ : Pat)).drop (1 + 1)) else tailS (⟨q0, q1, ng, q3, q4, f5, f6, f7, f8, f9, f10, f11, sn, si, sf, f15, pl⟩ : Pat)) = _
            rw [errs_hit he, if_pos he, hee]
          have be : (r == 0) = false := by rw [hee]; exact beq_eq_false_iff_ne.mpr he
          clear he hee
          go_wp2_with (go_at_call 17; refine HA.out.mono ?_; rintro e w2 ⟨rfl, hb2⟩)
          go_ret
          exact ⟨rfl, below_step hb.out hb2⟩
    · as_aux_lemma =>
        clear hj3
        have x := (blk_cell hk.out 2).trans (rfl : _ = some (Value.slice A3 q3.length c3))
        by_cases he : affErr q3 = 0
        · have HA : Hid (Calls Tryd.prog 17 #[.slice A3 q3.length c3] wr fun e w' => e = .returned (.int .i64 0) ∧ Below wr.heap.size wr w') := Lib.hid (by have := checkAffix_any q3 A3 c3 wr (Kd.C_below H.out.r3 hb.out) H.out.c3; rw [he] at this; exact this)
          have hj2 := Aside0.mk (show r = if errs ((rows (⟨q0, q1, ng, q3, q4, f5, f6, f7, f8, f9, f10, f11, sn, si, sf, f15, pl⟩ : Pat)).drop (2 + 1)) ≠ 0 then errs ((rows (⟨q0, q1, ng, q3, q4, f5, f6, f7, f8, f9, f10, f11, sn, si, sf, f15, pl⟩ : Pat)).drop (2 + 1)) else tailS (⟨q0, q1, ng, q3, q4, f5, f6, f7, f8, f9, f10, f11, sn, si, sf, f15, pl⟩ : Pat) by rw [hj.out]; show (if errs (q3 :: (rows (⟨q0, q1, ng, q3, q4, f5, f6, f7, f8, f9, f10, f11, sn, si, sf, f15, pl⟩ : Pat)).drop (2 + 1)) ≠ 0 then errs (q3 :: (rows (⟨q0, q1, ng, q3, q4, f5, f6, f7, f8, f9, f10, f11, sn, si, sf, f15, pl⟩ : Pat)).drop (2 + 1)) else tailS (⟨q0, q1, ng, q3, q4, f5, f6, f7, f8, f9, f10, f11, sn, si, sf, f15, pl⟩ : Pat)) = _; rw [errs_cons he])
          have ha2 := Aside0.mk (show ∀ l ∈ (rows (⟨q0, q1, ng, q3, q4, f5, f6, f7, f8, f9, f10, f11, sn, si, sf, f15, pl⟩ : Pat)).take (2 + 1), affErr l = 0 by
            intro l hl
            rw [show (rows (⟨q0, q1, ng, q3, q4, f5, f6, f7, f8, f9, f10, f11, sn, si, sf, f15, pl⟩ : Pat)).take (2 + 1) = (rows (⟨q0, q1, ng, q3, q4, f5, f6, f7, f8, f9, f10, f11, sn, si, sf, f15, pl⟩ : Pat)).take 2 ++ [q3] from rfl] at hl
            rcases List.mem_append.mp hl with hl | hl
            · exact ha.out l hl
            · rw [List.mem_singleton.mp hl]; exact he)
          clear he
          go_wp2_with (go_at_call 17; refine HA.out.mono ?_; rintro e w2 ⟨rfl, hb2⟩)
          go_roundg (4 - (2 + 1))
          case measure => rw [HG.out]; omega
          case rel => exact ⟨2 + 1, by go_num, rfl, ⟨by omega⟩, ha2, hj2, ⟨blk_below hk.out hb2⟩, ⟨blk_below hp.out hb2⟩, ⟨below_step hb.out hb2⟩⟩
        · obtain ⟨e, hee⟩ : ∃ e, e = affErr q3 := ⟨_, rfl⟩
          have HA : Hid (Calls Tryd.prog 17 #[.slice A3 q3.length c3] wr fun e2 w' => e2 = .returned (.int .i64 e) ∧ Below wr.heap.size wr w') := Lib.hid (by rw [hee]; exact checkAffix_any q3 A3 c3 wr (Kd.C_below H.out.r3 hb.out) H.out.c3)
          obtain rfl : r = e := by
            rw [hj.out]
            show (if errs (q3 :: (rows (⟨q0, q1, ng, q3, q4, f5, f6, f7, f8, f9, f10, f11, sn, si, sf, f15, pl⟩ : Pat)).drop (2 + 1)) ≠ 0 then errs (q3 :: (rows (⟨q0, q1, ng, q3, q4, f5, f6, f7, f8, f9, f10, f11, sn, si, sf, f15, pl⟩ : Pat)).drop (2 + 1)) else tailS (⟨q0, q1, ng, q3, q4, f5, f6, f7, f8, f9, f10, f11, sn, si, sf, f15, pl⟩ : Pat)) = _
            rw [errs_hit he, if_pos he, hee]
          have be : (r == 0) = false := by rw [hee]; exact beq_eq_false_iff_ne.mpr he
          clear he hee
          go_wp2_with (go_at_call 17; refine HA.out.mono ?_; rintro e w2 ⟨rfl, hb2⟩)
          go_ret
          exact ⟨rfl, below_step hb.out hb2⟩
    · as_aux_lemma =>
        clear hj3
        have x := (blk_cell hk.out 3).trans (rfl : _ = some (Value.slice A4 q4.length c4))
        by_cases he : affErr q4 = 0
        · have HA : Hid (Calls Tryd.prog 17 #[.slice A4 q4.length c4] wr fun e w' => e = .returned (.int .i64 0) ∧ Below wr.heap.size wr w') := Lib.hid (by have := checkAffix_any q4 A4 c4 wr (Kd.C_below H.out.r4 hb.out) H.out.c4; rw [he] at this; exact this)
          have hj2 := Aside0.mk (show r = if errs ((rows (⟨q0, q1, ng, q3, q4, f5, f6, f7, f8, f9, f10, f11, sn, si, sf, f15, pl⟩ : Pat)).drop (3 + 1)) ≠ 0 then errs ((rows (⟨q0, q1, ng, q3, q4, f5, f6, f7, f8, f9, f10, f11, sn, si, sf, f15, pl⟩ : Pat)).drop (3 + 1)) else tailS (⟨q0, q1, ng, q3, q4, f5, f6, f7, f8, f9, f10, f11, sn, si, sf, f15, pl⟩ : Pat) by rw [hj.out]; show (if errs (q4 :: (rows (⟨q0, q1, ng, q3, q4, f5, f6, f7, f8, f9, f10, f11, sn, si, sf, f15, pl⟩ : Pat)).drop (3 + 1)) ≠ 0 then errs (q4 :: (rows (⟨q0, q1, ng, q3, q4, f5, f6, f7, f8, f9, f10, f11, sn, si, sf, f15, pl⟩ : Pat)).drop (3 + 1)) else tailS (⟨q0, q1, ng, q3, q4, f5, f6, f7, f8, f9, f10, f11, sn, si, sf, f15, pl⟩ : Pat)) = _; rw [errs_cons he])
          have ha2 := Aside0.mk (show ∀ l ∈ (rows (⟨q0, q1, ng, q3, q4, f5, f6, f7, f8, f9, f10, f11, sn, si, sf, f15, pl⟩ : Pat)).take (3 + 1), affErr l = 0 by
            intro l hl
            rw [show (rows (⟨q0, q1, ng, q3, q4, f5, f6, f7, f8, f9, f10, f11, sn, si, sf, f15, pl⟩ : Pat)).take (3 + 1) = (rows (⟨q0, q1, ng, q3, q4, f5, f6, f7, f8, f9, f10, f11, sn, si, sf, f15, pl⟩ : Pat)).take 3 ++ [q4] from rfl] at hl
            rcases List.mem_append.mp hl with hl | hl
            · exact ha.out l hl
            · rw [List.mem_singleton.mp hl]; exact he)
          clear he
          go_wp2_with (go_at_call 17; refine HA.out.mono ?_; rintro e w2 ⟨rfl, hb2⟩)
          go_roundg (4 - (3 + 1))
          case measure => rw [HG.out]; omega
          case rel => exact ⟨3 + 1, by go_num, rfl, ⟨by omega⟩, ha2, hj2, ⟨blk_below hk.out hb2⟩, ⟨blk_below hp.out hb2⟩, ⟨below_step hb.out hb2⟩⟩
        · obtain ⟨e, hee⟩ : ∃ e, e = affErr q4 := ⟨_, rfl⟩
          have HA : Hid (Calls Tryd.prog 17 #[.slice A4 q4.length c4] wr fun e2 w' => e2 = .returned (.int .i64 e) ∧ Below wr.heap.size wr w') := Lib.hid (by rw [hee]; exact checkAffix_any q4 A4 c4 wr (Kd.C_below H.out.r4 hb.out) H.out.c4)
          obtain rfl : r = e := by
            rw [hj.out]
            show (if errs (q4 :: (rows (⟨q0, q1, ng, q3, q4, f5, f6, f7, f8, f9, f10, f11, sn, si, sf, f15, pl⟩ : Pat)).drop (3 + 1)) ≠ 0 then errs (q4 :: (rows (⟨q0, q1, ng, q3, q4, f5, f6, f7, f8, f9, f10, f11, sn, si, sf, f15, pl⟩ : Pat)).drop (3 + 1)) else tailS (⟨q0, q1, ng, q3, q4, f5, f6, f7, f8, f9, f10, f11, sn, si, sf, f15, pl⟩ : Pat)) = _
            rw [errs_hit he, if_pos he, hee]
          have be : (r == 0) = false := by rw [hee]; exact beq_eq_false_iff_ne.mpr he
          clear he hee
          go_wp2_with (go_at_call 17; refine HA.out.mono ?_; rintro e w2 ⟨rfl, hb2⟩)
          go_ret
          exact ⟨rfl, below_step hb.out hb2⟩
    · have hT := Lib.hid (show r = tailS (⟨q0, q1, ng, q3, q4, f5, f6, f7, f8, f9, f10, f11, sn, si, sf, f15, pl⟩ : Pat) from hj.out)
      have hl0 := affErr_le (ha.out q0 (by simp [rows]))
      have hl1 := affErr_le (ha.out q1 (by simp [rows]))
      have hl3 := affErr_le (ha.out q3 (by simp [rows]))
      have hl4 := affErr_le (ha.out q4 (by simp [rows]))
      clear hj3 ha hj HG hk
      go_upto_region 8 with fail
      obtain ⟨cs, hcs⟩ : ∃ cs, cs = patCells ⟨A0, q0.length, c0⟩ ⟨A1, q1.length, c1⟩ ⟨A3, q3.length, c3⟩ ⟨A4, q4.length, c4⟩ (⟨q0, q1, ng, q3, q4, f5, f6, f7, f8, f9, f10, f11, sn, si, sf, f15, pl⟩ : Pat) := ⟨_, rfl⟩
      have hpc : Aside0 (wr.heap[w.heap.size]? = some (.cells cs 26 (0, 0))) := ⟨by rw [hcs]; exact hp.out⟩
      have hsz := Lib.hid (show (Tryd.prog.info? 26).map (·.size) = some cs.size by rw [hcs]; exact sizePat)
      have HC := Lib.hid hcs
      clear hp hcs
      have k0 := (blk_cell hpc.out 0).trans (by rw [HC.out]; rfl : _ = some (Value.slice A0 q0.length c0))
      have k1 := (blk_cell hpc.out 1).trans (by rw [HC.out]; rfl : _ = some (Value.slice A1 q1.length c1))
      have k2 := (blk_cell hpc.out 2).trans (by rw [HC.out]; rfl : _ = some (Value.bool ng))
      have k3 := (blk_cell hpc.out 3).trans (by rw [HC.out]; rfl : _ = some (Value.slice A3 q3.length c3))
      have k4 := (blk_cell hpc.out 4).trans (by rw [HC.out]; rfl : _ = some (Value.slice A4 q4.length c4))
      have k5 := (blk_cell hpc.out 5).trans (by rw [HC.out]; rfl : _ = some (Value.int .i64 f5))
      have k6 := (blk_cell hpc.out 6).trans (by rw [HC.out]; rfl : _ = some (Value.int .i64 f6))
      have k7 := (blk_cell hpc.out 7).trans (by rw [HC.out]; rfl : _ = some (Value.int .i64 f7))
      have k8 := (blk_cell hpc.out 8).trans (by rw [HC.out]; rfl : _ = some (Value.int .i64 f8))
      have k9 := (blk_cell hpc.out 9).trans (by rw [HC.out]; rfl : _ = some (Value.int .i64 f9))
      have k10 := (blk_cell hpc.out 10).trans (by rw [HC.out]; rfl : _ = some (Value.int .i64 f10))
      have k11 := (blk_cell hpc.out 11).trans (by rw [HC.out]; rfl : _ = some (Value.int .i64 f11))
      have k12 := (blk_cell hpc.out 12).trans (by rw [HC.out]; rfl : _ = some (Value.bool sn))
      have k13 := (blk_cell hpc.out 13).trans (by rw [HC.out]; rfl : _ = some (Value.string (bs si)))
      have k14 := (blk_cell hpc.out 14).trans (by rw [HC.out]; rfl : _ = some (Value.string (bs sf)))
      have k15 := (blk_cell hpc.out 15).trans (by rw [HC.out]; rfl : _ = some (Value.int .i64 f15))
      have k16 := (blk_cell hpc.out 16).trans (by rw [HC.out]; rfl : _ = some (Value.bool pl))
      go_cut [48] (fun v48 wd => ∃ b : Bool, v48 = .bool b ∧ Aside0 (bad8 (⟨q0, q1, ng, q3, q4, f5, f6, f7, f8, f9, f10, f11, sn, si, sf, f15, pl⟩ : Pat) = b) ∧ Aside0 (wd.heap[w.heap.size]? = some (.cells cs 26 (0, 0))) ∧ Aside0 (Below w.heap.size w wd))
      case first =>
        as_aux_lemma =>
          have HP := Lib.hid (H.out.below hb.out)
          cases hn : ng with
          | false =>
            by_cases hs : (0 : Int) < (q3.length : Int) + q4.length
            · have hB := Lib.hid (show bad8 (⟨q0, q1, false, q3, q4, f5, f6, f7, f8, f9, f10, f11, sn, si, sf, f15, pl⟩ : Pat) = true from bad8_rows hs)
              subst hn
              go_wp2
              go_meet
              exact ⟨true, rfl, ⟨hB.out⟩, hpc, hb⟩
            · subst hn
              cases h4 : hasS (⟨q0, q1, false, q3, q4, f5, f6, f7, f8, f9, f10, f11, sn, si, sf, f15, pl⟩ : Pat) 4 with
              | false =>
                have hB := Lib.hid (show bad8 (⟨q0, q1, false, q3, q4, f5, f6, f7, f8, f9, f10, f11, sn, si, sf, f15, pl⟩ : Pat) = false by rw [bad8_no hs, h4]; rfl)
                have H4 : Hid (∀ w1, Below w.heap.size w w1 → Calls Tryd.prog 18 #[.agg cs, .int .i64 4] w1 fun e w9 => e = .returned (.bool false) ∧ Below w1.heap.size w1 w9) := Lib.hid (fun w1 hb1 => by rw [HC.out]; have := has_any ⟨A0, q0.length, c0⟩ ⟨A1, q1.length, c1⟩ ⟨A3, q3.length, c3⟩ ⟨A4, q4.length, c4⟩ (⟨q0, q1, false, q3, q4, f5, f6, f7, f8, f9, f10, f11, sn, si, sf, f15, pl⟩ : Pat) 4 w1 (H.out.below hb1) (Nat.le_trans hl0 (by decide)) (Nat.le_trans hl1 (by decide)); rw [h4] at this; exact this)
                clear h4
                as_aux_lemma =>
                  go_wp2_with (first | ((with_reducible refine gate_ (.load 26 (.tmp 1)) rfl ?_); refine load_row_w (by rfl) 26 (.tmp 1) rfl (w.heap.size) rfl 26 cs (0, 0) _ hpc.out hu2 rfl hsz.out ?_) | (go_at_call_of 18 (Value.int .i64 4); refine (H4.out _ hb.out).mono ?_; rintro e w2 ⟨rfl, hb2⟩; have hq2 := Aside0.mk (blk_below hpc.out hb2); have hw2 := Aside0.mk (below_step hb.out hb2); clear hb2))
                  go_meet
                  exact ⟨false, rfl, ⟨hB.out⟩, hq2, hw2⟩
              | true =>
                have H4 : Hid (∀ w1, Below w.heap.size w w1 → Calls Tryd.prog 18 #[.agg cs, .int .i64 4] w1 fun e w9 => e = .returned (.bool true) ∧ Below w1.heap.size w1 w9) := Lib.hid (fun w1 hb1 => by rw [HC.out]; have := has_any ⟨A0, q0.length, c0⟩ ⟨A1, q1.length, c1⟩ ⟨A3, q3.length, c3⟩ ⟨A4, q4.length, c4⟩ (⟨q0, q1, false, q3, q4, f5, f6, f7, f8, f9, f10, f11, sn, si, sf, f15, pl⟩ : Pat) 4 w1 (H.out.below hb1) (Nat.le_trans hl0 (by decide)) (Nat.le_trans hl1 (by decide)); rw [h4] at this; exact this)
                obtain ⟨b, hb5⟩ : ∃ b, hasS (⟨q0, q1, false, q3, q4, f5, f6, f7, f8, f9, f10, f11, sn, si, sf, f15, pl⟩ : Pat) 5 = b := ⟨_, rfl⟩
                have hB := Lib.hid (show bad8 (⟨q0, q1, false, q3, q4, f5, f6, f7, f8, f9, f10, f11, sn, si, sf, f15, pl⟩ : Pat) = b by rw [bad8_no hs, h4, hb5]; rfl)
                have H5 : Hid (∀ w1, Below w.heap.size w w1 → Calls Tryd.prog 18 #[.agg cs, .int .i64 5] w1 fun e w9 => e = .returned (.bool b) ∧ Below w1.heap.size w1 w9) := Lib.hid (fun w1 hb1 => by rw [HC.out]; have := has_any ⟨A0, q0.length, c0⟩ ⟨A1, q1.length, c1⟩ ⟨A3, q3.length, c3⟩ ⟨A4, q4.length, c4⟩ (⟨q0, q1, false, q3, q4, f5, f6, f7, f8, f9, f10, f11, sn, si, sf, f15, pl⟩ : Pat) 5 w1 (H.out.below hb1) (Nat.le_trans hl0 (by decide)) (Nat.le_trans hl1 (by decide)); rw [hb5] at this; exact this)
                clear h4 hb5
                as_aux_lemma =>
                  go_wp2_with (first | ((with_reducible refine gate_ (.load 26 (.tmp 1)) rfl ?_); refine load_row_w (by rfl) 26 (.tmp 1) rfl (w.heap.size) rfl 26 cs (0, 0) _ hpc.out hu2 rfl hsz.out ?_) | (go_at_call_of 18 (Value.int .i64 4); refine (H4.out _ hb.out).mono ?_; rintro e w2 ⟨rfl, hb2⟩; have hq2 := Aside0.mk (blk_below hpc.out hb2); have hw2 := Aside0.mk (below_step hb.out hb2); clear hb2) | ((with_reducible refine gate_ (.load 26 (.tmp 1)) rfl ?_); refine load_row_w (by rfl) 26 (.tmp 1) rfl (w.heap.size) rfl 26 cs (0, 0) _ hq2.out hu2 rfl hsz.out ?_) | (go_at_call_of 18 (Value.int .i64 5); refine (H5.out _ hw2.out).mono ?_; rintro e w3 ⟨rfl, hb3⟩; have hq3 := Aside0.mk (blk_below hq2.out hb3); have hw3 := Aside0.mk (below_step hw2.out hb3); clear hb3))
                  go_meet
                  exact ⟨b, rfl, ⟨hB.out⟩, hq3, hw3⟩
  
          | true =>
            subst hn
            cases h4 : hasS (⟨q0, q1, true, q3, q4, f5, f6, f7, f8, f9, f10, f11, sn, si, sf, f15, pl⟩ : Pat) 4 with
            | false =>
              have hB := Lib.hid (show bad8 (⟨q0, q1, true, q3, q4, f5, f6, f7, f8, f9, f10, f11, sn, si, sf, f15, pl⟩ : Pat) = false by rw [bad8_neg, h4]; rfl)
              have H4 : Hid (∀ w1, Below w.heap.size w w1 → Calls Tryd.prog 18 #[.agg cs, .int .i64 4] w1 fun e w9 => e = .returned (.bool false) ∧ Below w1.heap.size w1 w9) := Lib.hid (fun w1 hb1 => by rw [HC.out]; have := has_any ⟨A0, q0.length, c0⟩ ⟨A1, q1.length, c1⟩ ⟨A3, q3.length, c3⟩ ⟨A4, q4.length, c4⟩ (⟨q0, q1, true, q3, q4, f5, f6, f7, f8, f9, f10, f11, sn, si, sf, f15, pl⟩ : Pat) 4 w1 (H.out.below hb1) (Nat.le_trans hl0 (by decide)) (Nat.le_trans hl1 (by decide)); rw [h4] at this; exact this)
              clear h4
              as_aux_lemma =>
                go_wp2_with (first | ((with_reducible refine gate_ (.load 26 (.tmp 1)) rfl ?_); refine load_row_w (by rfl) 26 (.tmp 1) rfl (w.heap.size) rfl 26 cs (0, 0) _ hpc.out hu2 rfl hsz.out ?_) | (go_at_call_of 18 (Value.int .i64 4); refine (H4.out _ hb.out).mono ?_; rintro e w2 ⟨rfl, hb2⟩; have hq2 := Aside0.mk (blk_below hpc.out hb2); have hw2 := Aside0.mk (below_step hb.out hb2); clear hb2))
                go_meet
                exact ⟨false, rfl, ⟨hB.out⟩, hq2, hw2⟩
            | true =>
              have H4 : Hid (∀ w1, Below w.heap.size w w1 → Calls Tryd.prog 18 #[.agg cs, .int .i64 4] w1 fun e w9 => e = .returned (.bool true) ∧ Below w1.heap.size w1 w9) := Lib.hid (fun w1 hb1 => by rw [HC.out]; have := has_any ⟨A0, q0.length, c0⟩ ⟨A1, q1.length, c1⟩ ⟨A3, q3.length, c3⟩ ⟨A4, q4.length, c4⟩ (⟨q0, q1, true, q3, q4, f5, f6, f7, f8, f9, f10, f11, sn, si, sf, f15, pl⟩ : Pat) 4 w1 (H.out.below hb1) (Nat.le_trans hl0 (by decide)) (Nat.le_trans hl1 (by decide)); rw [h4] at this; exact this)
              obtain ⟨b, hb5⟩ : ∃ b, hasS (⟨q0, q1, true, q3, q4, f5, f6, f7, f8, f9, f10, f11, sn, si, sf, f15, pl⟩ : Pat) 5 = b := ⟨_, rfl⟩
              have hB := Lib.hid (show bad8 (⟨q0, q1, true, q3, q4, f5, f6, f7, f8, f9, f10, f11, sn, si, sf, f15, pl⟩ : Pat) = b by rw [bad8_neg, h4, hb5]; rfl)
              have H5 : Hid (∀ w1, Below w.heap.size w w1 → Calls Tryd.prog 18 #[.agg cs, .int .i64 5] w1 fun e w9 => e = .returned (.bool b) ∧ Below w1.heap.size w1 w9) := Lib.hid (fun w1 hb1 => by rw [HC.out]; have := has_any ⟨A0, q0.length, c0⟩ ⟨A1, q1.length, c1⟩ ⟨A3, q3.length, c3⟩ ⟨A4, q4.length, c4⟩ (⟨q0, q1, true, q3, q4, f5, f6, f7, f8, f9, f10, f11, sn, si, sf, f15, pl⟩ : Pat) 5 w1 (H.out.below hb1) (Nat.le_trans hl0 (by decide)) (Nat.le_trans hl1 (by decide)); rw [hb5] at this; exact this)
              clear h4 hb5
              as_aux_lemma =>
                go_wp2_with (first | ((with_reducible refine gate_ (.load 26 (.tmp 1)) rfl ?_); refine load_row_w (by rfl) 26 (.tmp 1) rfl (w.heap.size) rfl 26 cs (0, 0) _ hpc.out hu2 rfl hsz.out ?_) | (go_at_call_of 18 (Value.int .i64 4); refine (H4.out _ hb.out).mono ?_; rintro e w2 ⟨rfl, hb2⟩; have hq2 := Aside0.mk (blk_below hpc.out hb2); have hw2 := Aside0.mk (below_step hb.out hb2); clear hb2) | ((with_reducible refine gate_ (.load 26 (.tmp 1)) rfl ?_); refine load_row_w (by rfl) 26 (.tmp 1) rfl (w.heap.size) rfl 26 cs (0, 0) _ hq2.out hu2 rfl hsz.out ?_) | (go_at_call_of 18 (Value.int .i64 5); refine (H5.out _ hw2.out).mono ?_; rintro e w3 ⟨rfl, hb3⟩; have hq3 := Aside0.mk (blk_below hq2.out hb3); have hw3 := Aside0.mk (below_step hw2.out hb3); clear hb3))
                go_meet
                exact ⟨b, rfl, ⟨hB.out⟩, hq3, hw3⟩

      case rest =>
        clear k0 k1 k2 k3 k4 k5 k6 k7 k8 k9 k10 k11 k12 k13 k14 k15 k16 hpc hb
        obtain ⟨b, rfl, hB, hpc, hb⟩ := hcut
        cases b with
        | true =>
          obtain rfl : r = 90 := by rw [hT.out]; unfold tailS; rw [if_pos hB.out]
          go_wp2
          go_ret
          exact ⟨rfl, hb.out⟩
        | false =>
          have hT2 := Lib.hid (show r = tail2 (⟨q0, q1, ng, q3, q4, f5, f6, f7, f8, f9, f10, f11, sn, si, sf, f15, pl⟩ : Pat) by rw [hT.out]; unfold tailS; rw [if_neg (by rw [hB.out]; exact Bool.false_ne_true), tail2_is])
          clear hB hT hl3 hl4
          have k5 := (blk_cell hpc.out 5).trans (by rw [HC.out]; rfl : _ = some (Value.int .i64 f5))
          have k6 := (blk_cell hpc.out 6).trans (by rw [HC.out]; rfl : _ = some (Value.int .i64 f6))
          have k7 := (blk_cell hpc.out 7).trans (by rw [HC.out]; rfl : _ = some (Value.int .i64 f7))
          have k8 := (blk_cell hpc.out 8).trans (by rw [HC.out]; rfl : _ = some (Value.int .i64 f8))
          have k9 := (blk_cell hpc.out 9).trans (by rw [HC.out]; rfl : _ = some (Value.int .i64 f9))
          have k10 := (blk_cell hpc.out 10).trans (by rw [HC.out]; rfl : _ = some (Value.int .i64 f10))
          have k11 := (blk_cell hpc.out 11).trans (by rw [HC.out]; rfl : _ = some (Value.int .i64 f11))
          have k12 := (blk_cell hpc.out 12).trans (by rw [HC.out]; rfl : _ = some (Value.bool sn))
          have k13 := (blk_cell hpc.out 13).trans (by rw [HC.out]; rfl : _ = some (Value.string (bs si)))
          have k14 := (blk_cell hpc.out 14).trans (by rw [HC.out]; rfl : _ = some (Value.string (bs sf)))
          have k15 := (blk_cell hpc.out 15).trans (by rw [HC.out]; rfl : _ = some (Value.int .i64 f15))
          have k16 := (blk_cell hpc.out 16).trans (by rw [HC.out]; rfl : _ = some (Value.bool pl))
          have hT3 := Aside0.mk (show r = cnt2 ((cnts (⟨q0, q1, ng, q3, q4, f5, f6, f7, f8, f9, f10, f11, sn, si, sf, f15, pl⟩ : Pat)).drop 0) (tail3 (⟨q0, q1, ng, q3, q4, f5, f6, f7, f8, f9, f10, f11, sn, si, sf, f15, pl⟩ : Pat)) from hT2.out)
          clear hT2
          go_wp2
          go_loopg [66] 8 (fun kq v66 w9 => ∃ j : Nat, v66 = .int .i64 j ∧ kq = 8 - j ∧ wc = w9 ∧ Aside0 (j ≤ 8) ∧ Aside0 (r = cnt2 ((cnts (⟨q0, q1, ng, q3, q4, f5, f6, f7, f8, f9, f10, f11, sn, si, sf, f15, pl⟩ : Pat)).drop j) (tail3 (⟨q0, q1, ng, q3, q4, f5, f6, f7, f8, f9, f10, f11, sn, si, sf, f15, pl⟩ : Pat))))
          case atStart => exact ⟨0, rfl, rfl, rfl, ⟨by omega⟩, hT3⟩
          case round =>
            obtain ⟨j, rfl, hg, rfl, hj2, hj⟩ := hrel
            have HG := Lib.hid hg
            have hj3 := hj2.out
            clear hg hT3 hj2
            obtain rfl | rfl | rfl | rfl | rfl | rfl | rfl | rfl | rfl : j = 0 ∨ j = 1 ∨ j = 2 ∨ j = 3 ∨ j = 4 ∨ j = 5 ∨ j = 6 ∨ j = 7 ∨ j = 8 := by omega
            · as_aux_lemma =>
                clear hj3
                have hc := hj.out
                clear hj
                have ij : ∀ w, (Instr.index 59 (.agg #[.int .i64 f5, .int .i64 f6, .int .i64 f7, .int .i64 f8, .int .i64 f9, .int .i64 f10, .int .i64 f11, .int .i64 f15]) (.int .i64 0)).run Tryd.prog w = .ok (.int .i64 f5) w := fun _ => by kernel_rfl
                by_cases h1 : f5 < 0
                · obtain rfl : r = 90 := hc.trans (cnt_neg h1)
                  clear hc
                  go_wp2
                  go_ret
                  exact ⟨rfl, hb.out⟩
                · by_cases h2 : 40 < f5
                  · obtain rfl : r = 3 := hc.trans (cnt_big h1 h2)
                    clear hc
                    go_wp2
                    go_ret
                    exact ⟨rfl, hb.out⟩
                  · have hj := Aside0.mk (show r = cnt2 ((cnts (⟨q0, q1, ng, q3, q4, f5, f6, f7, f8, f9, f10, f11, sn, si, sf, f15, pl⟩ : Pat)).drop (0 + 1)) (tail3 (⟨q0, q1, ng, q3, q4, f5, f6, f7, f8, f9, f10, f11, sn, si, sf, f15, pl⟩ : Pat)) from hc.trans (cnt_next h1 h2))
                    clear hc
                    go_wp2
                    go_roundg (8 - (0 + 1))
                    case measure => rw [HG.out]; omega
                    case rel => exact ⟨0 + 1, by go_num, rfl, rfl, ⟨by omega⟩, hj⟩
            · as_aux_lemma =>
                clear hj3
                have hc := hj.out
                clear hj
                have ij : ∀ w, (Instr.index 59 (.agg #[.int .i64 f5, .int .i64 f6, .int .i64 f7, .int .i64 f8, .int .i64 f9, .int .i64 f10, .int .i64 f11, .int .i64 f15]) (.int .i64 1)).run Tryd.prog w = .ok (.int .i64 f6) w := fun _ => by kernel_rfl
                by_cases h1 : f6 < 0
                · obtain rfl : r = 90 := hc.trans (cnt_neg h1)
                  clear hc
                  go_wp2
                  go_ret
                  exact ⟨rfl, hb.out⟩
                · by_cases h2 : 40 < f6
                  · obtain rfl : r = 3 := hc.trans (cnt_big h1 h2)
                    clear hc
                    go_wp2
                    go_ret
                    exact ⟨rfl, hb.out⟩
                  · have hj := Aside0.mk (show r = cnt2 ((cnts (⟨q0, q1, ng, q3, q4, f5, f6, f7, f8, f9, f10, f11, sn, si, sf, f15, pl⟩ : Pat)).drop (1 + 1)) (tail3 (⟨q0, q1, ng, q3, q4, f5, f6, f7, f8, f9, f10, f11, sn, si, sf, f15, pl⟩ : Pat)) from hc.trans (cnt_next h1 h2))
                    clear hc
                    go_wp2
                    go_roundg (8 - (1 + 1))
                    case measure => rw [HG.out]; omega
                    case rel => exact ⟨1 + 1, by go_num, rfl, rfl, ⟨by omega⟩, hj⟩
            · as_aux_lemma =>
                clear hj3
                have hc := hj.out
                clear hj
                have ij : ∀ w, (Instr.index 59 (.agg #[.int .i64 f5, .int .i64 f6, .int .i64 f7, .int .i64 f8, .int .i64 f9, .int .i64 f10, .int .i64 f11, .int .i64 f15]) (.int .i64 2)).run Tryd.prog w = .ok (.int .i64 f7) w := fun _ => by kernel_rfl
                by_cases h1 : f7 < 0
                · obtain rfl : r = 90 := hc.trans (cnt_neg h1)
                  clear hc
                  go_wp2
                  go_ret
                  exact ⟨rfl, hb.out⟩
                · by_cases h2 : 40 < f7
                  · obtain rfl : r = 3 := hc.trans (cnt_big h1 h2)
                    clear hc
                    go_wp2
                    go_ret
                    exact ⟨rfl, hb.out⟩
                  · have hj := Aside0.mk (show r = cnt2 ((cnts (⟨q0, q1, ng, q3, q4, f5, f6, f7, f8, f9, f10, f11, sn, si, sf, f15, pl⟩ : Pat)).drop (2 + 1)) (tail3 (⟨q0, q1, ng, q3, q4, f5, f6, f7, f8, f9, f10, f11, sn, si, sf, f15, pl⟩ : Pat)) from hc.trans (cnt_next h1 h2))
                    clear hc
                    go_wp2
                    go_roundg (8 - (2 + 1))
                    case measure => rw [HG.out]; omega
                    case rel => exact ⟨2 + 1, by go_num, rfl, rfl, ⟨by omega⟩, hj⟩
            · as_aux_lemma =>
                clear hj3
                have hc := hj.out
                clear hj
                have ij : ∀ w, (Instr.index 59 (.agg #[.int .i64 f5, .int .i64 f6, .int .i64 f7, .int .i64 f8, .int .i64 f9, .int .i64 f10, .int .i64 f11, .int .i64 f15]) (.int .i64 3)).run Tryd.prog w = .ok (.int .i64 f8) w := fun _ => by kernel_rfl
                by_cases h1 : f8 < 0
                · obtain rfl : r = 90 := hc.trans (cnt_neg h1)
                  clear hc
                  go_wp2
                  go_ret
                  exact ⟨rfl, hb.out⟩
                · by_cases h2 : 40 < f8
                  · obtain rfl : r = 3 := hc.trans (cnt_big h1 h2)
                    clear hc
                    go_wp2
                    go_ret
                    exact ⟨rfl, hb.out⟩
                  · have hj := Aside0.mk (show r = cnt2 ((cnts (⟨q0, q1, ng, q3, q4, f5, f6, f7, f8, f9, f10, f11, sn, si, sf, f15, pl⟩ : Pat)).drop (3 + 1)) (tail3 (⟨q0, q1, ng, q3, q4, f5, f6, f7, f8, f9, f10, f11, sn, si, sf, f15, pl⟩ : Pat)) from hc.trans (cnt_next h1 h2))
                    clear hc
                    go_wp2
                    go_roundg (8 - (3 + 1))
                    case measure => rw [HG.out]; omega
                    case rel => exact ⟨3 + 1, by go_num, rfl, rfl, ⟨by omega⟩, hj⟩
            · as_aux_lemma =>
                clear hj3
                have hc := hj.out
                clear hj
                have ij : ∀ w, (Instr.index 59 (.agg #[.int .i64 f5, .int .i64 f6, .int .i64 f7, .int .i64 f8, .int .i64 f9, .int .i64 f10, .int .i64 f11, .int .i64 f15]) (.int .i64 4)).run Tryd.prog w = .ok (.int .i64 f9) w := fun _ => by kernel_rfl
                by_cases h1 : f9 < 0
                · obtain rfl : r = 90 := hc.trans (cnt_neg h1)
                  clear hc
                  go_wp2
                  go_ret
                  exact ⟨rfl, hb.out⟩
                · by_cases h2 : 40 < f9
                  · obtain rfl : r = 3 := hc.trans (cnt_big h1 h2)
                    clear hc
                    go_wp2
                    go_ret
                    exact ⟨rfl, hb.out⟩
                  · have hj := Aside0.mk (show r = cnt2 ((cnts (⟨q0, q1, ng, q3, q4, f5, f6, f7, f8, f9, f10, f11, sn, si, sf, f15, pl⟩ : Pat)).drop (4 + 1)) (tail3 (⟨q0, q1, ng, q3, q4, f5, f6, f7, f8, f9, f10, f11, sn, si, sf, f15, pl⟩ : Pat)) from hc.trans (cnt_next h1 h2))
                    clear hc
                    go_wp2
                    go_roundg (8 - (4 + 1))
                    case measure => rw [HG.out]; omega
                    case rel => exact ⟨4 + 1, by go_num, rfl, rfl, ⟨by omega⟩, hj⟩
            · as_aux_lemma =>
                clear hj3
                have hc := hj.out
                clear hj
                have ij : ∀ w, (Instr.index 59 (.agg #[.int .i64 f5, .int .i64 f6, .int .i64 f7, .int .i64 f8, .int .i64 f9, .int .i64 f10, .int .i64 f11, .int .i64 f15]) (.int .i64 5)).run Tryd.prog w = .ok (.int .i64 f10) w := fun _ => by kernel_rfl
                by_cases h1 : f10 < 0
                · obtain rfl : r = 90 := hc.trans (cnt_neg h1)
                  clear hc
                  go_wp2
                  go_ret
                  exact ⟨rfl, hb.out⟩
                · by_cases h2 : 40 < f10
                  · obtain rfl : r = 3 := hc.trans (cnt_big h1 h2)
                    clear hc
                    go_wp2
                    go_ret
                    exact ⟨rfl, hb.out⟩
                  · have hj := Aside0.mk (show r = cnt2 ((cnts (⟨q0, q1, ng, q3, q4, f5, f6, f7, f8, f9, f10, f11, sn, si, sf, f15, pl⟩ : Pat)).drop (5 + 1)) (tail3 (⟨q0, q1, ng, q3, q4, f5, f6, f7, f8, f9, f10, f11, sn, si, sf, f15, pl⟩ : Pat)) from hc.trans (cnt_next h1 h2))
                    clear hc
                    go_wp2
                    go_roundg (8 - (5 + 1))
                    case measure => rw [HG.out]; omega
                    case rel => exact ⟨5 + 1, by go_num, rfl, rfl, ⟨by omega⟩, hj⟩
            · as_aux_lemma =>
                clear hj3
                have hc := hj.out
                clear hj
                have ij : ∀ w, (Instr.index 59 (.agg #[.int .i64 f5, .int .i64 f6, .int .i64 f7, .int .i64 f8, .int .i64 f9, .int .i64 f10, .int .i64 f11, .int .i64 f15]) (.int .i64 6)).run Tryd.prog w = .ok (.int .i64 f11) w := fun _ => by kernel_rfl
                by_cases h1 : f11 < 0
                · obtain rfl : r = 90 := hc.trans (cnt_neg h1)
                  clear hc
                  go_wp2
                  go_ret
                  exact ⟨rfl, hb.out⟩
                · by_cases h2 : 40 < f11
                  · obtain rfl : r = 3 := hc.trans (cnt_big h1 h2)
                    clear hc
                    go_wp2
                    go_ret
                    exact ⟨rfl, hb.out⟩
                  · have hj := Aside0.mk (show r = cnt2 ((cnts (⟨q0, q1, ng, q3, q4, f5, f6, f7, f8, f9, f10, f11, sn, si, sf, f15, pl⟩ : Pat)).drop (6 + 1)) (tail3 (⟨q0, q1, ng, q3, q4, f5, f6, f7, f8, f9, f10, f11, sn, si, sf, f15, pl⟩ : Pat)) from hc.trans (cnt_next h1 h2))
                    clear hc
                    go_wp2
                    go_roundg (8 - (6 + 1))
                    case measure => rw [HG.out]; omega
                    case rel => exact ⟨6 + 1, by go_num, rfl, rfl, ⟨by omega⟩, hj⟩
            · as_aux_lemma =>
                clear hj3
                have hc := hj.out
                clear hj
                have ij : ∀ w, (Instr.index 59 (.agg #[.int .i64 f5, .int .i64 f6, .int .i64 f7, .int .i64 f8, .int .i64 f9, .int .i64 f10, .int .i64 f11, .int .i64 f15]) (.int .i64 7)).run Tryd.prog w = .ok (.int .i64 f15) w := fun _ => by kernel_rfl
                by_cases h1 : f15 < 0
                · obtain rfl : r = 90 := hc.trans (cnt_neg h1)
                  clear hc
                  go_wp2
                  go_ret
                  exact ⟨rfl, hb.out⟩
                · by_cases h2 : 40 < f15
                  · obtain rfl : r = 3 := hc.trans (cnt_big h1 h2)
                    clear hc
                    go_wp2
                    go_ret
                    exact ⟨rfl, hb.out⟩
                  · have hj := Aside0.mk (show r = cnt2 ((cnts (⟨q0, q1, ng, q3, q4, f5, f6, f7, f8, f9, f10, f11, sn, si, sf, f15, pl⟩ : Pat)).drop (7 + 1)) (tail3 (⟨q0, q1, ng, q3, q4, f5, f6, f7, f8, f9, f10, f11, sn, si, sf, f15, pl⟩ : Pat)) from hc.trans (cnt_next h1 h2))
                    clear hc
                    go_wp2
                    go_roundg (8 - (7 + 1))
                    case measure => rw [HG.out]; omega
                    case rel => exact ⟨7 + 1, by go_num, rfl, rfl, ⟨by omega⟩, hj⟩
            · have hr := hj.out.trans cnt_end
              clear hj hj3 HG
              unfold tail3 at hr
              obtain ⟨b1, e1⟩ : ∃ b, b = r1 (⟨q0, q1, ng, q3, q4, f5, f6, f7, f8, f9, f10, f11, sn, si, sf, f15, pl⟩ : Pat) := ⟨_, rfl⟩
              rw [← e1] at hr
              have E1 := Lib.hid e1
              clear e1
              obtain ⟨b2, e2⟩ : ∃ b, b = r2 (⟨q0, q1, ng, q3, q4, f5, f6, f7, f8, f9, f10, f11, sn, si, sf, f15, pl⟩ : Pat) := ⟨_, rfl⟩
              rw [← e2] at hr
              have E2 := Lib.hid e2
              clear e2
              obtain ⟨b3, e3⟩ : ∃ b, b = r3 (⟨q0, q1, ng, q3, q4, f5, f6, f7, f8, f9, f10, f11, sn, si, sf, f15, pl⟩ : Pat) := ⟨_, rfl⟩
              rw [← e3] at hr
              have E3 := Lib.hid e3
              clear e3
              obtain ⟨b4, e4⟩ : ∃ b, b = stepOk (⟨q0, q1, ng, q3, q4, f5, f6, f7, f8, f9, f10, f11, sn, si, sf, f15, pl⟩ : Pat) := ⟨_, rfl⟩
              rw [← e4] at hr
              have E4 := Lib.hid e4
              clear e4
              obtain ⟨b5, e5⟩ : ∃ b, b = r5 (⟨q0, q1, ng, q3, q4, f5, f6, f7, f8, f9, f10, f11, sn, si, sf, f15, pl⟩ : Pat) := ⟨_, rfl⟩
              rw [← e5] at hr
              have E5 := Lib.hid e5
              clear e5
              obtain ⟨b6, e6⟩ : ∃ b, b = r6 (⟨q0, q1, ng, q3, q4, f5, f6, f7, f8, f9, f10, f11, sn, si, sf, f15, pl⟩ : Pat) := ⟨_, rfl⟩
              rw [← e6] at hr
              have E6 := Lib.hid e6
              clear e6
              have HR := Lib.hid hr
              clear hr
              by_cases h1 : f7 < f6
              · obtain rfl : b1 = false := E1.out.trans (decide_eq_false (by dsimp only; omega))
                obtain rfl : r = 90 := by rw [HR.out]; simp
                clear HR E1
                go_wp2
                go_ret
                exact ⟨rfl, hb.out⟩
              by_cases h2 : f9 < f8
              · obtain rfl : b1 = false := E1.out.trans (decide_eq_false (by dsimp only; omega))
                obtain rfl : r = 90 := by rw [HR.out]; simp
                clear HR E1
                go_wp2
                go_ret
                exact ⟨rfl, hb.out⟩
              go_upto_region 20 with fail
              go_cut [76] (fun v76 w9 => v76 = .bool (!b1) ∧ wc = w9)
              case first =>
                as_aux_lemma =>
                  by_cases h3 : f8 = 0
                  · subst h3
                    by_cases h4 : f9 = 0
                    · subst h4
                      obtain rfl : b1 = true := E1.out.trans (decide_eq_true (by dsimp only; omega))
                      clear E1
                      go_wp2
                      go_meet
                      exact ⟨rfl, rfl⟩
                    · have h6 : (f9 == 0) = false := beq_eq_false_iff_ne.mpr h4
                      obtain rfl : b1 = false := E1.out.trans (decide_eq_false (by dsimp only; omega))
                      clear E1
                      go_wp2
                      go_meet
                      exact ⟨rfl, rfl⟩
                  · have h5 : (f8 == 0) = false := beq_eq_false_iff_ne.mpr h3
                    by_cases h4 : f9 = 0
                    · subst h4
                      obtain rfl : b1 = false := E1.out.trans (decide_eq_false (by dsimp only; omega))
                      clear E1
                      go_wp2
                      go_meet
                      exact ⟨rfl, rfl⟩
                    · have h6 : (f9 == 0) = false := beq_eq_false_iff_ne.mpr h4
                      obtain rfl : b1 = true := E1.out.trans (decide_eq_true (by dsimp only; omega))
                      clear E1
                      go_wp2
                      go_meet
                      exact ⟨rfl, rfl⟩
              case rest =>
                obtain ⟨rfl, rfl⟩ := hcut
                clear h1 h2
                cases b1 with
                | false =>
                  obtain rfl : r = 90 := by rw [HR.out]; simp
                  clear HR
                  go_wp2
                  go_ret
                  exact ⟨rfl, hb.out⟩
                | true =>
                  go_upto_region 22 with fail
                  go_cut [94] (fun v94 w9 => v94 = .bool (!b2) ∧ wc = w9)
                  case first =>
                    as_aux_lemma =>
                      by_cases h1 : 0 < f8
                      · by_cases h2 : 0 < f5
                        · skip
                          obtain rfl : b2 = false := E2.out.trans (decide_eq_false (by dsimp only; omega))
                          clear E2
                          go_wp2
                          go_meet
                          exact ⟨rfl, rfl⟩
                        · by_cases h3 : 0 < f7
                          · skip
                            obtain rfl : b2 = false := E2.out.trans (decide_eq_false (by dsimp only; omega))
                            clear E2
                            go_wp2
                            go_meet
                            exact ⟨rfl, rfl⟩
                          · skip
                            obtain rfl : b2 = true := E2.out.trans (decide_eq_true (by dsimp only; omega))
                            clear E2
                            go_wp2
                            go_meet
                            exact ⟨rfl, rfl⟩
                      · skip
                        obtain rfl : b2 = true := E2.out.trans (decide_eq_true (by dsimp only; omega))
                        clear E2
                        go_wp2
                        go_meet
                        exact ⟨rfl, rfl⟩
                  case rest =>
                    obtain ⟨rfl, rfl⟩ := hcut
                    cases b2 with
                    | false =>
                      obtain rfl : r = 90 := by rw [HR.out]; simp
                      clear HR
                      go_wp2
                      go_ret
                      exact ⟨rfl, hb.out⟩
                    | true =>
                      go_upto_region 24 with fail
                      go_cut [108] (fun v108 w9 => v108 = .bool (!b3) ∧ wc = w9)
                      case first =>
                        as_aux_lemma =>
                          by_cases h1 : 0 < f11
                          · by_cases h2 : f10 = 0
                            · have h5 : (f10 == 0) = true := beq_iff_eq.mpr h2
                              obtain rfl : b3 = false := E3.out.trans (decide_eq_false (by dsimp only; omega))
                              clear E3
                              go_wp2
                              go_meet
                              exact ⟨rfl, rfl⟩
                            · have h5 : (f10 == 0) = false := beq_eq_false_iff_ne.mpr h2
                              by_cases h3 : f11 = f10
                              · subst h3
                                obtain rfl : b3 = false := E3.out.trans (decide_eq_false (by dsimp only; omega))
                                clear E3
                                go_wp2
                                go_meet
                                exact ⟨rfl, rfl⟩
                              · have h6 : (f11 == f10) = false := beq_eq_false_iff_ne.mpr h3
                                obtain rfl : b3 = true := E3.out.trans (decide_eq_true (by dsimp only; omega))
                                clear E3
                                go_wp2
                                go_meet
                                exact ⟨rfl, rfl⟩
                          · skip
                            obtain rfl : b3 = true := E3.out.trans (decide_eq_true (by dsimp only; omega))
                            clear E3
                            go_wp2
                            go_meet
                            exact ⟨rfl, rfl⟩
                      case rest =>
                        obtain ⟨rfl, rfl⟩ := hcut
                        cases b3 with
                        | false =>
                          obtain rfl : r = 90 := by rw [HR.out]; simp
                          clear HR
                          go_wp2
                          go_ret
                          exact ⟨rfl, hb.out⟩
                        | true =>
                          go_upto_region 26 with fail
                          have HS : Hid (Calls Tryd.prog 19 #[.agg cs] wc fun e w9 => e = .returned (.bool b4) ∧ Below wc.heap.size wc w9) := Lib.hid (by rw [HC.out, E4.out]; exact step_any ⟨A0, q0.length, c0⟩ ⟨A1, q1.length, c1⟩ ⟨A3, q3.length, c3⟩ ⟨A4, q4.length, c4⟩ (⟨q0, q1, ng, q3, q4, f5, f6, f7, f8, f9, f10, f11, sn, si, sf, f15, pl⟩ : Pat) wc)
                          go_cut [124] (fun v124 w9 => v124 = .bool (!b4) ∧ Aside0 (w9.heap[w.heap.size]? = some (.cells cs 26 (0, 0))) ∧ Aside0 (Below w.heap.size w w9))
                          case first =>
                            as_aux_lemma =>
                              go_wp2_with (first | ((with_reducible refine gate_ (.load 26 (.tmp 1)) rfl ?_); refine load_row_w (by rfl) 26 (.tmp 1) rfl (w.heap.size) rfl 26 cs (0, 0) _ hpc.out hu2 rfl hsz.out ?_) | (go_at_call 19; refine HS.out.mono ?_; rintro e w2 ⟨rfl, hb2⟩; have hq2 := Aside0.mk (blk_below hpc.out hb2); have hw2 := Aside0.mk (below_step hb.out hb2); clear hb2))
                              go_meet
                              exact ⟨rfl, hq2, hw2⟩
                          case rest =>
                            clear k5 k6 k7 k8 k9 k10 k11 k12 k13 k14 k15 k16 hpc hb HS
                            obtain ⟨rfl, hpc, hb⟩ := hcut
                            have k5 := (blk_cell hpc.out 5).trans (by rw [HC.out]; rfl : _ = some (Value.int .i64 f5))
                            have k6 := (blk_cell hpc.out 6).trans (by rw [HC.out]; rfl : _ = some (Value.int .i64 f6))
                            have k7 := (blk_cell hpc.out 7).trans (by rw [HC.out]; rfl : _ = some (Value.int .i64 f7))
                            have k8 := (blk_cell hpc.out 8).trans (by rw [HC.out]; rfl : _ = some (Value.int .i64 f8))
                            have k9 := (blk_cell hpc.out 9).trans (by rw [HC.out]; rfl : _ = some (Value.int .i64 f9))
                            have k10 := (blk_cell hpc.out 10).trans (by rw [HC.out]; rfl : _ = some (Value.int .i64 f10))
                            have k11 := (blk_cell hpc.out 11).trans (by rw [HC.out]; rfl : _ = some (Value.int .i64 f11))
                            have k12 := (blk_cell hpc.out 12).trans (by rw [HC.out]; rfl : _ = some (Value.bool sn))
                            have k13 := (blk_cell hpc.out 13).trans (by rw [HC.out]; rfl : _ = some (Value.string (bs si)))
                            have k14 := (blk_cell hpc.out 14).trans (by rw [HC.out]; rfl : _ = some (Value.string (bs sf)))
                            have k15 := (blk_cell hpc.out 15).trans (by rw [HC.out]; rfl : _ = some (Value.int .i64 f15))
                            have k16 := (blk_cell hpc.out 16).trans (by rw [HC.out]; rfl : _ = some (Value.bool pl))
                            cases b4 with
                            | false =>
                              obtain rfl : r = 90 := by rw [HR.out]; simp
                              clear HR
                              go_wp2
                              go_ret
                              exact ⟨rfl, hb.out⟩
                            | true =>
                              go_upto_region 28 with fail
                              go_cut [128] (fun v128 w9 => v128 = .bool (!b5) ∧ wc = w9)
                              case first =>
                                as_aux_lemma =>
                                  by_cases h1 : 0 < f15
                                  · by_cases h2 : f5 = 0
                                    · have h5 : (f5 == 0) = true := beq_iff_eq.mpr h2
                                      obtain rfl : b5 = false := E5.out.trans (decide_eq_false (by dsimp only; omega))
                                      clear E5
                                      go_wp2
                                      go_meet
                                      exact ⟨rfl, rfl⟩
                                    · have h5 : (f5 == 0) = false := beq_eq_false_iff_ne.mpr h2
                                      by_cases h3 : 0 < f10
                                      · skip
                                        obtain rfl : b5 = false := E5.out.trans (decide_eq_false (by dsimp only; omega))
                                        clear E5
                                        go_wp2
                                        go_meet
                                        exact ⟨rfl, rfl⟩
                                      · by_cases h4 : 0 < f8
                                        · skip
                                          obtain rfl : b5 = false := E5.out.trans (decide_eq_false (by dsimp only; omega))
                                          clear E5
                                          go_wp2
                                          go_meet
                                          exact ⟨rfl, rfl⟩
                                        · clear hsz HC
                                          cases sn with
                                          | true =>
                                            obtain rfl : b5 = false := E5.out.trans (decide_eq_false (by exact fun q => q ⟨h1, .inr (.inr (.inr rfl))⟩))
                                            clear E5
                                            go_wp2
                                            go_meet
                                            exact ⟨rfl, rfl⟩
                                          | false =>
                                            cases si with
                                            | cons ch q =>
                                              obtain rfl : b5 = false := E5.out.trans (decide_eq_false (by exact fun q => q ⟨h1, .inr (.inr (.inr rfl))⟩))
                                              clear E5
                                              go_wp2
                                              go_meet
                                              exact ⟨rfl, rfl⟩
                                            | nil =>
                                              cases sf with
                                              | cons ch q =>
                                                obtain rfl : b5 = false := E5.out.trans (decide_eq_false (by exact fun q => q ⟨h1, .inr (.inr (.inr rfl))⟩))
                                                clear E5
                                                go_wp2
                                                go_meet
                                                exact ⟨rfl, rfl⟩
                                              | nil =>
                                                obtain rfl : b5 = true := E5.out.trans (decide_eq_true (by exact fun q => by rcases q.2 with q | q | q | q <;> first | exact h2 q | exact h3 q | exact h4 q | cases q))
                                                clear E5
                                                go_wp2
                                                go_meet
                                                exact ⟨rfl, rfl⟩
                                  · skip
                                    obtain rfl : b5 = true := E5.out.trans (decide_eq_true (by exact fun q => h1 q.1))
                                    clear E5
                                    go_wp2
                                    go_meet
                                    exact ⟨rfl, rfl⟩
                              case rest =>
                                obtain ⟨rfl, rfl⟩ := hcut
                                cases b5 with
                                | false =>
                                  obtain rfl : r = 90 := by rw [HR.out]; simp
                                  clear HR
                                  go_wp2
                                  go_ret
                                  exact ⟨rfl, hb.out⟩
                                | true =>
                                  go_upto_region 30 with fail
                                  go_cut [153] (fun v153 w9 => v153 = .bool (!b6) ∧ wc = w9)
                                  case first =>
                                    as_aux_lemma =>
                                      cases pl with
                                      | true =>
                                        by_cases h1 : f15 = 0
                                        · have h5 : (f15 == 0) = true := beq_iff_eq.mpr h1
                                          obtain rfl : b6 = false := E6.out.trans (decide_eq_false (by exact fun q => q ⟨rfl, h1⟩))
                                          clear E6
                                          go_wp2
                                          go_meet
                                          exact ⟨rfl, rfl⟩
                                        · have h5 : (f15 == 0) = false := beq_eq_false_iff_ne.mpr h1
                                          obtain rfl : b6 = true := E6.out.trans (decide_eq_true (by exact fun q => h1 q.2))
                                          clear E6
                                          go_wp2
                                          go_meet
                                          exact ⟨rfl, rfl⟩
                                      | false =>
                                        obtain rfl : b6 = true := E6.out.trans (decide_eq_true (by exact fun q => Bool.noConfusion q.1))
                                        clear E6
                                        go_wp2
                                        go_meet
                                        exact ⟨rfl, rfl⟩
                                  case rest =>
                                    obtain ⟨rfl, rfl⟩ := hcut
                                    cases b6 with
                                    | false =>
                                      obtain rfl : r = 90 := by rw [HR.out]; simp
                                      clear HR
                                      go_wp2
                                      go_ret
                                      exact ⟨rfl, hb.out⟩
                                    | true =>
                                      obtain rfl : r = 0 := by rw [HR.out]; simp
                                      clear HR
                                      go_wp2
                                      go_ret
                                      exact ⟨rfl, hb.out⟩
end Go.Proofs.YtjpdakepfmepnaaDoor

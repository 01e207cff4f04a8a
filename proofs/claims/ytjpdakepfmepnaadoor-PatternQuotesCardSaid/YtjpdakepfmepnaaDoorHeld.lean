/- Regions that draw their order and hold calls: what is loaded is held. What Check's yes tells of a pattern. -/
import Derived.Test.YtjpdakepfmepnaaDoorCheck
import Derived.Test.YtjpdakepfmepnaaDoorPair
import Derived.OrdersHeld
namespace Go.Proofs.YtjpdakepfmepnaaDoor
open Go.RowKit Go.Proofs.YtjpdakepfmepnaaDoorW.PrintWords Pat
set_option linter.unusedVariables false
set_option linter.unusedSimpArgs false

theorem call_held {P : Program} {ops : Array Oper} {Q : Exit → Act → World → Prop} {S : World → Prop} {fuel : Nat} {listed : Array Bool} {a : Act} {w : World} {i : Nat} {o : Oper} {f : FuncId} {args : Array Value} {v : Value} {x : Tmp} {R : World → Prop} (ho : ops[i]? = some o) (hg : o.guard = none) (hd : o.dst = some x) (hr : Region.ready .any ops listed = [i])
    (hrun : (execOp a.eval o).run P w = .ok (.enter f args) w) (hc : Calls P f args w fun e w' => e = .returned v ∧ R w')
    (h : ∀ w', R w' → S w' ∧ wpAnyH P .any ops Q S fuel (listed.setIfInBounds i true) (a.put (some x) v) w') : wpAnyH P .any ops Q S (fuel + 1) listed a w := by
  refine wpAnyH_all hr (by simp) (fun j hj => ?_)
  obtain rfl : j = i := by simpa using hj
  unfold Go.wpOp
  simp only [ho]
  rw [if_pos (want_none hg _)]
  left
  unfold Oper.wp
  rw [hrun, Oper.upon_enter]
  refine hc.mono ?_
  rintro e w' ⟨rfl, hR⟩
  have := h w' hR
  rw [hd]
  exact this

theorem run_call2 {P : Program} {a : Act} {w : World} {o : Oper} {f : FuncId} {fn : Func} {c : Code} {x y : Operand} {ts : Array TypeId} {u v : Value} (ho : o.op = .call { callee := .value (.func f), args := #[x, y], argTypes := ts }) (hf : P.funcs[f]? = some fn) (hname : (fn.name == "runtime.NumGoroutine") = false) (hb : fn.body = some c) (hx : a.eval x = u) (hy : a.eval y = v) : (execOp a.eval o).run P w = .ok (.enter f #[u, v]) w := by
  obtain ⟨dst, op, ty, pos, after, guard⟩ := o
  dsimp only at ho
  subst ho
  have e : execOp a.eval { dst, op := .call { callee := .value (.func f), args := #[x, y], argTypes := ts }, type := ty, pos, after, guard } = callFunc f (#[] ++ #[x, y].map a.eval ++ #[]) := rfl
  have e2 : (#[] ++ #[x, y].map a.eval ++ #[] : Array Value) = #[a.eval x, a.eval y] := by simp
  have h1 : fn.name ≠ "runtime.NumGoroutine" := by simpa using hname
  rw [e, e2, hx, hy]
  simp [callFunc, hf, h1, hb]
/-- What Check's yes tells of a pattern. -/
structure POk (p : Pat) : Prop where
  a0 : affErr p.pre = 0
  a1 : affErr p.suf = 0
  a3 : affErr p.npre = 0
  a4 : affErr p.nsuf = 0
  c5 : 0 ≤ p.minInt ∧ p.minInt ≤ 40
  c6 : 0 ≤ p.minFrac ∧ p.minFrac ≤ 40
  c7 : 0 ≤ p.maxFrac ∧ p.maxFrac ≤ 40
  c8 : 0 ≤ p.minSig ∧ p.minSig ≤ 40
  c9 : 0 ≤ p.maxSig ∧ p.maxSig ≤ 40
  c10 : 0 ≤ p.group ∧ p.group ≤ 40
  c11 : 0 ≤ p.second ∧ p.second ≤ 40
  c15 : 0 ≤ p.exp ∧ p.exp ≤ 40
  fr : p.minFrac ≤ p.maxFrac
  sg : p.minSig ≤ p.maxSig
  gr : 0 < p.second → 0 < p.group
  st : stepOk p = true
  b8 : bad8 p = false
  rest : restOk p = true
theorem countErr_ok : ∀ {l : List Int}, countErr l = 0 → ∀ n ∈ l, 0 ≤ n ∧ n ≤ 40
  | [], _, _, h => by simp at h
  | m :: l, h, n, hn => by
    unfold countErr at h
    split at h
    · cases h
    · split at h
      · cases h
      · rcases List.mem_cons.mp hn with rfl | hn
        · omega
        · exact countErr_ok h n hn
theorem POk.of {p : Pat} (h : checkS p = 0) : POk p := by
  rw [checkS_errs] at h
  have he : errs (rows p) = 0 := by
    by_cases he : errs (rows p) = 0
    · exact he
    · rw [if_pos he] at h; exact h
  rw [if_neg (by rw [he]; simp)] at h
  have ha : affErr p.pre = 0 ∧ affErr p.suf = 0 ∧ affErr p.npre = 0 ∧ affErr p.nsuf = 0 := by
    have step : ∀ {l : List Aff} {r : List (List Aff)}, errs (l :: r) = 0 → affErr l = 0 ∧ errs r = 0 := by
      intro l r q
      rw [errs] at q
      by_cases hl : affErr l = 0
      · rw [if_neg (by rw [hl]; simp)] at q; exact ⟨hl, q⟩
      · rw [if_pos hl] at q; exact absurd q hl
    obtain ⟨h0, q⟩ := step he
    obtain ⟨h1, q⟩ := step q
    obtain ⟨h3, q⟩ := step q
    exact ⟨h0, h1, h3, (step q).1⟩
  have hb : bad8 p = false := by
    cases hb : bad8 p with
    | false => rfl
    | true => unfold tailS at h; rw [if_pos hb] at h; cases h
  unfold tailS at h
  rw [if_neg (by rw [hb]; exact Bool.false_ne_true)] at h
  have hc : countErr [p.minInt, p.minFrac, p.maxFrac, p.minSig, p.maxSig, p.group, p.second, p.exp] = 0 := by
    by_cases hc : countErr [p.minInt, p.minFrac, p.maxFrac, p.minSig, p.maxSig, p.group, p.second, p.exp] = 0
    · exact hc
    · rw [if_pos hc] at h; exact h
  rw [if_neg (by rw [hc]; simp)] at h
  have hr : restOk p = true := by
    cases hr : restOk p with
    | true => rfl
    | false => rw [hr] at h; simp at h
  have H := countErr_ok hc
  have hr2 := hr
  rw [restOk_r] at hr2
  simp only [Bool.and_eq_true] at hr2
  obtain ⟨⟨⟨⟨⟨h1, h2⟩, h3⟩, h4⟩, h5⟩, h6⟩ := hr2
  have h1' := of_decide_eq_true h1
  have h3' := of_decide_eq_true h3
  have g := H p.group (by simp)
  exact ⟨ha.1, ha.2.1, ha.2.2.1, ha.2.2.2, H _ (by simp), H _ (by simp), H _ (by simp), H _ (by simp), H _ (by simp), g, H _ (by simp), H _ (by simp), h1'.1, h1'.2.1, fun q => by omega, h4, hb, hr⟩
theorem POk.lens {p : Pat} (h : POk p) : p.sInt.length ≤ 40 ∧ p.sFrac.length ≤ 40 := by
  have hs := h.st
  unfold stepOk at hs
  rw [Bool.or_eq_true] at hs
  rcases hs with hs | hs
  · unfold noStep at hs
    simp only [Bool.and_eq_true, beq_iff_eq] at hs
    rw [hs.1.2, hs.2]; simp
  · simp only [Bool.and_eq_true] at hs
    have hd := hs.1.1.1.1.1
    unfold decOk at hd
    simp only [Bool.and_eq_true, decide_eq_true_eq] at hd
    have := hd.1.1.1.1.1
    omega
end Go.Proofs.YtjpdakepfmepnaaDoor

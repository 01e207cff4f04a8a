/- 'return p, i, false' of named results that are captured: the region that draws its order, once for all its places. -/
import Derived.Test.YtjpdakepfmepnaaDoorExpW
import Derived.RegionTactic
namespace Go.Proofs.YtjpdakepfmepnaaDoor
open Go.RowKit Go.Proofs.YtjpdakepfmepnaaDoorW.PrintWords Pat
set_option linter.unusedVariables false
set_option linter.unusedSimpArgs false

abbrev retOps (p q x y r1 r2 : Tmp) (c : Value) (pos : String) : Array Oper := #[{ dst := some x, op := Op.load 26 (Operand.tmp p), type := 26, pos := pos, after := #[], guard := none },
      { dst := some y, op := Op.load 3 (Operand.tmp q), type := 3, pos := pos, after := #[{ on := 2, ground := Ground.gcOnly Departure.lateStores }], guard := none },
      { dst := none, op := Op.store 26 (Operand.tmp p) (Operand.tmp x), type := 0, pos := pos, after := #[{ on := 0, ground := Ground.data }, { on := 0, ground := Ground.phase }, { on := 1, ground := Ground.textOnly Departure.lateStores }], guard := none },
      { dst := some r1, op := Op.assign (Operand.tmp y), type := 3, pos := pos, after := #[{ on := 1, ground := Ground.data }, { on := 2, ground := Ground.chain }, { on := 0, ground := Ground.phase }, { on := 1, ground := Ground.phase }, { on := 2, ground := Ground.phase }], guard := none },
      { dst := some r2, op := Op.assign (Operand.const c), type := 4, pos := pos, after := #[{ on := 3, ground := Ground.chain }, { on := 0, ground := Ground.phase }, { on := 1, ground := Ground.phase }, { on := 2, ground := Ground.phase }, { on := 3, ground := Ground.phase }], guard := none }]

theorem want_none {o : Oper} (h : o.guard = none) (l : Nat → Option Bool) : Region.wanted o l = true := by simp [Region.wanted, h]
theorem eval_put_ne {a : Act} {p x : Tmp} {v : Value} (h : p ≠ x) : (a.put (some x) v).eval (.tmp p) = a.eval (.tmp p) := by
  simp [Act.eval, Act.put, Array.getElem?_setIfInBounds, Ne.symm h]
theorem eval_put_same {a : Act} {x : Tmp} {v : Value} (h : x < a.tmps.size) : (a.put (some x) v).eval (.tmp x) = v := by
  simp [Act.eval, Act.put, Array.getElem?_setIfInBounds, h]
theorem put_size {a : Act} {x : Tmp} {v : Value} : (a.put (some x) v).tmps.size = a.tmps.size := by simp [Act.put]
theorem put_comm {a : Act} {x y : Tmp} {u v : Value} (h : x ≠ y) : (a.put (some x) u).put (some y) v = (a.put (some y) v).put (some x) u := by
  simp only [Act.put]
  rw [Array.setIfInBounds_comm _ _ h]

theorem run_load_row {P : Program} {a : Act} {w : World} {o : Oper} (ty : TypeId) (x : Operand) (ho : o.op = .load ty x) (g : Nat) (hx : a.eval x = .pointer (some ⟨g, 0, none⟩)) (t : TypeId) (cs : Array Value) (fr : Nat × Nat) (d : TypeDesc) (hg : w.heap[g]? = some (.cells cs t fr))
    (hu : P.underlying ty = some d) (hd : (match d with | .struct _ | .array _ _ => true | _ => false) = true) (hi : (P.info? ty).map (·.size) = some cs.size) : (execOp a.eval o).run P w = .ok (.value (.agg cs)) w := by
  unfold execOp
  simp only [ho, hx, Instr.loadAt, Instr.sureAddr, Sem.run_bind, Sem.run_pure, Result.andThen_ok, run_loadVar_row w g t ty cs fr d hg hu hd hi]
theorem run_load_int {a : Act} {w : World} {o : Oper} (x : Operand) (ho : o.op = .load 3 x) (g : Nat) (hx : a.eval x = .pointer (some ⟨g, 0, none⟩)) (v : Value) (hc : w.cell? ⟨g, 0, none⟩ = some v) : (execOp a.eval o).run Tryd.prog w = .ok (.value v) w := by
  unfold execOp
  simp only [ho, hx]
  go_simp
theorem run_assign_any {P : Program} {a : Act} {w : World} {o : Oper} (x : Operand) (ho : o.op = .assign x) : (execOp a.eval o).run P w = .ok (.value (a.eval x)) w := by
  unfold execOp
  simp only [ho]; rfl
theorem run_store_all {P : Program} {a : Act} {w : World} {o : Oper} (t : TypeId) (p x : Operand) (ho : o.op = .store t p x) (g : Nat) (e : TypeId) (cs : Array Value) (hp : a.eval p = .pointer (some ⟨g, 0, none⟩)) (hx : a.eval x = .agg cs) (hh : w.heap[g]? = some (.cells cs e (0, 0)))
    (ht : (P.info? t).map (·.size) = some cs.size) (h1 : ∀ q ∈ cs.toList, q.oneCell' = true) : (execOp a.eval o).run P w = .ok .skip (w.setCells g 0 cs.toList) := by
  have hrun := run_store_run (P := P) (o := 0) t (.agg cs) cs.toList hh rfl (by rw [ht, Array.length_toList]) (by rw [Array.length_toList]; omega) h1
  unfold execOp
  simp only [ho, hp, hx, Sem.run_bind, Sem.run_pure, Result.andThen_ok, hrun]
theorem stored_same {g : Nat} {w : World} {cs : Array Value} {e : TypeId} (hh : w.heap[g]? = some (.cells cs e (0, 0))) : (w.setCells g 0 cs.toList).heap[g]? = some (.cells cs e (0, 0)) ∧ Only g w (w.setCells g 0 cs.toList) := by
  have hs := setCells_same g cs.toList 0 w
  obtain ⟨cs', h1, h2, h3⟩ := setCells_row cs.toList 0 w cs hh (by rw [Array.length_toList]; omega)
  have : cs' = cs := by apply Array.ext'; rw [h3]; simp
  subst this
  exact ⟨h1, hs.1, hs.2.1, hs.2.2.1, hs.2.2.2, fun k hk => setCells_far _ 0 k hk⟩

section
variable {P : Program} {ops : Array Oper} {o : Oper} {a : Act} {Q : Exit → Act → World → Prop} {K : Act → World → Prop} {w w1 : World} {E : Prop}
theorem step_val {v : Value} (hg : o.guard = none) (hrun : (execOp a.eval o).run P w = .ok (.value v) w1) (h : K (a.put o.dst v) w1) : if Region.wanted o (yielded ops a.tmps) = true then Oper.wp P o a w K Q else E := by
  rw [if_pos (want_none hg _)]
  unfold Oper.wp
  rw [hrun]
  exact h
theorem step_skip (hg : o.guard = none) (hd : o.dst = none) (hrun : (execOp a.eval o).run P w = .ok .skip w1) (h : K a w1) : if Region.wanted o (yielded ops a.tmps) = true then Oper.wp P o a w K Q else E := by
  rw [if_pos (want_none hg _)]
  unfold Oper.wp
  rw [hrun]
  show K (a.put o.dst undef) w1
  rw [hd]
  exact h
end
set_option maxHeartbeats 2000000 in
set_option maxRecDepth 100000 in
theorem ret_region {id : Nat} {p q x y r1 r2 : Tmp} {c : Value} {pos : String} {a : Act} {W : World} {Q : Exit → Act → World → Prop} {g g2 : Nat} {cs : Array Value} {k : Value}
    (hp : a.eval (.tmp p) = .pointer (some ⟨g, 0, none⟩)) (hq : a.eval (.tmp q) = .pointer (some ⟨g2, 0, none⟩)) (hb : W.heap[g]? = some (.cells cs 26 (0, 0))) (hc : W.cell? ⟨g2, 0, none⟩ = some k) (hg : g2 ≠ g)
    (hs : cs.size = 17) (h1 : ∀ q ∈ cs.toList, q.oneCell' = true) (hx : x < a.tmps.size) (hy : y < a.tmps.size) (hxy : x ≠ y) (hpx : p ≠ x) (hpy : p ≠ y) (hqx : q ≠ x) (hqy : q ≠ y)
    (h : ∀ w1, w1.heap[g]? = some (.cells cs 26 (0, 0)) → Only g W.drew w1 → Q .normal ((((a.put (some x) (.agg cs)).put (some y) k).put (some r1) k).put (some r2) c) w1) :
    (Code.region id (retOps p q x y r1 r2 c pos) true).wp Tryd.prog Q a W := by
  have hu := Tryd.underlying26
  have hz : (Tryd.prog.info? 26).map (·.size) = some cs.size := by rw [hs]; exact sizePat
  have hbd : W.drew.heap[g]? = some (.cells cs 26 (0, 0)) := hb
  have hcd : W.drew.cell? ⟨g2, 0, none⟩ = some k := hc
  obtain ⟨hst, hon⟩ := stored_same hbd
  refine wp_region_any (by kernel_rfl) ?_
  show wpAny _ _ _ _ _ _ _ W.drew
  have F : ∀ w1, w1.heap[g]? = some (.cells cs 26 (0, 0)) → Only g W.drew w1 → wpAny Tryd.prog .any (retOps p q x y r1 r2 c pos) Q 2 #[true, true, true, false, false] ((a.put (some x) (.agg cs)).put (some y) k) w1 := by
    intro w1 hw hw2
    refine wpAny_ready (rs := [3]) (by kernel_rfl) (by simp) ?_
    refine AllReady.cons rfl (fun K hK => step_val rfl (run_assign_any (.tmp y) rfl) (hK _ _ ?_)) AllReady.nil
    refine wpAny_ready (rs := [4]) (by kernel_rfl) (by simp) ?_
    refine AllReady.cons rfl (fun K hK => step_val rfl (run_assign_any (.const c) rfl) (hK _ _ ?_)) AllReady.nil
    refine wpAny_done (by kernel_rfl) ?_ _
    rw [eval_put_same (by rw [put_size]; exact hy)]
    exact h w1 hw hw2
  refine wpAny_ready (rs := [0, 1]) (by kernel_rfl) (by simp) ?_
  refine AllReady.cons rfl (fun K hK => step_val rfl (run_load_row _ _ rfl g hp _ _ _ _ hbd hu rfl hz) (hK _ _ ?_)) (AllReady.cons rfl (fun K hK => step_val rfl (run_load_int _ rfl g2 hq k hcd) (hK _ _ ?_)) AllReady.nil)
  · refine wpAny_ready (rs := [1, 2]) (by kernel_rfl) (by simp) ?_
    refine AllReady.cons rfl (fun K hK => step_val rfl (run_load_int _ rfl g2 ((eval_put_ne hqx).trans hq) k hcd) (hK _ _ ?_)) (AllReady.cons rfl (fun K hK => step_skip rfl rfl (run_store_all _ _ _ rfl g _ cs ((eval_put_ne hpx).trans hp) (eval_put_same hx) hbd hz h1) (hK _ _ ?_)) AllReady.nil)
    · refine wpAny_ready (rs := [2]) (by kernel_rfl) (by simp) ?_
      refine AllReady.cons rfl (fun K hK => step_skip rfl rfl (run_store_all _ _ _ rfl g _ cs ((eval_put_ne hpy).trans ((eval_put_ne hpx).trans hp)) ((eval_put_ne hxy).trans (eval_put_same hx)) hbd hz h1) (hK _ _ ?_)) AllReady.nil
      exact F _ hst hon
    · refine wpAny_ready (rs := [1]) (by kernel_rfl) (by simp) ?_
      refine AllReady.cons rfl (fun K hK => step_val rfl (run_load_int _ rfl g2 ((eval_put_ne hqx).trans hq) k ((hon.cell hg).trans hcd)) (hK _ _ ?_)) AllReady.nil
      exact F _ hst hon
  · refine wpAny_ready (rs := [0]) (by kernel_rfl) (by simp) ?_
    refine AllReady.cons rfl (fun K hK => step_val rfl (run_load_row _ _ rfl g ((eval_put_ne hpy).trans hp) _ _ _ _ hbd hu rfl hz) (hK _ _ ?_)) AllReady.nil
    refine wpAny_ready (rs := [2]) (by kernel_rfl) (by simp) ?_
    refine AllReady.cons rfl (fun K hK => step_skip rfl rfl (run_store_all _ _ _ rfl g _ cs ((eval_put_ne hpx).trans ((eval_put_ne hpy).trans hp)) (eval_put_same (show x < (a.put (some y) k).tmps.size by rw [put_size]; exact hx)) hbd hz h1) (hK _ _ ?_)) AllReady.nil
    show wpAny _ _ _ _ _ _ ((a.put (some y) k).put (some x) (.agg cs)) _
    rw [put_comm (Ne.symm hxy)]
    exact F _ hst hon
end Go.Proofs.YtjpdakepfmepnaaDoor

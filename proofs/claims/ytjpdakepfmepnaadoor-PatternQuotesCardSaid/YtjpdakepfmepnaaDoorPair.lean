/- Two rows of a half are laid into a pattern: regions that draw their order. (Printed by gen_parse.py.) -/
import Derived.Test.YtjpdakepfmepnaaDoorRet
namespace Go.Proofs.YtjpdakepfmepnaaDoor
open Go.RowKit Go.Proofs.YtjpdakepfmepnaaDoorW.PrintWords Pat
set_option linter.unusedVariables false
set_option linter.unusedSimpArgs false
theorem ready_skip {P : Program} {md : Region.Mode} {ops : Array Oper} {Q : Exit → Act → World → Prop} {fuel : Nat} {listed : Array Bool} {a : Act} {w w1 : World} {i : Nat} {o : Oper} {rs : List Nat} (ho : ops[i]? = some o) (hg : o.guard = none) (hd : o.dst = none) (hrun : (execOp a.eval o).run P w = .ok .skip w1)
    (h : wpAny P md ops Q fuel (listed.setIfInBounds i true) a w1) (hs : AllReady P md ops Q fuel listed a w rs) : AllReady P md ops Q fuel listed a w (i :: rs) :=
  AllReady.cons ho (fun K hK => step_skip hg hd hrun (hK _ _ h)) hs
theorem ready_val {P : Program} {md : Region.Mode} {ops : Array Oper} {Q : Exit → Act → World → Prop} {fuel : Nat} {listed : Array Bool} {a : Act} {w w1 : World} {i : Nat} {o : Oper} {rs : List Nat} {v : Value} {x : Tmp} (ho : ops[i]? = some o) (hg : o.guard = none) (hd : o.dst = some x) (hrun : (execOp a.eval o).run P w = .ok (.value v) w1)
    (h : wpAny P md ops Q fuel (listed.setIfInBounds i true) (a.put (some x) v) w1) (hs : AllReady P md ops Q fuel listed a w rs) : AllReady P md ops Q fuel listed a w (i :: rs) :=
  AllReady.cons ho (fun K hK => step_val hg hrun (hK _ _ (by rw [hd]; exact h))) hs
theorem take_pure {P : Program} {ops : Array Oper} {Q : Exit → Act → World → Prop} {fuel : Nat} {listed : Array Bool} {a : Act} {w : World} {i : Nat} {o : Oper} {v : Value} {x : Tmp} (ho : ops[i]? = some o) (hg : o.guard = none) (hd : o.dst = some x) (hs : Region.noSelect ops = true) (hf : Region.free .any ops listed i = true) (hr : (Region.ready .any ops listed).contains i = true)
    (hQ : ∀ c (a : Act) (x : Tmp) v w, Q (.panic c) (a.put (some x) v) w → Q (.panic c) a w) (hrun : ∀ w, (execOp a.eval o).run P w = .ok (.value v) w) (h : wpAny P .any ops Q fuel (listed.setIfInBounds i true) (a.put (some x) v) w) : wpAny P .any ops Q (fuel + 1) listed a w :=
  wpAny_take (v := v) ho hs hf hr (fun c a w h => hQ c a x _ w (by rw [hd] at h; exact h)) (.inl ⟨want_none hg _, hrun⟩) (by rw [hd]; exact h)
theorem sizeSl : (Tryd.prog.info? 22).map (·.size) = some 1 := by kernel_rfl
theorem run_load_sl {a : Act} {w : World} {o : Oper} (x : Operand) (ho : o.op = .load 22 x) (g j : Nat) (hx : a.eval x = .pointer (some ⟨g, j, none⟩)) (v : Value) (hc : w.cell? ⟨g, j, none⟩ = some v) : (execOp a.eval o).run Tryd.prog w = .ok (.value v) w := by
  unfold execOp
  simp only [ho, hx]
  go_simp
theorem run_store_sl {a : Act} {w : World} {o : Oper} (p x : Operand) (ho : o.op = .store 22 p x) (g j : Nat) (e : TypeId) (cs : Array Value) (hp : a.eval p = .pointer (some ⟨g, j, none⟩)) {A : Option Addr} {n c : Nat} (hx : a.eval x = .slice A n c) (hh : w.heap[g]? = some (.cells cs e (0, 0))) (hj : j < cs.size) :
    (execOp a.eval o).run Tryd.prog w = .ok .skip (w.setCells g j [.slice A n c]) := by
  have hrun := run_store_run (P := Tryd.prog) (o := j) 22 (.slice A n c) [.slice A n c] hh rfl sizeSl (by simp; omega) (by intro q hq; rw [List.mem_singleton.mp hq]; rfl)
  unfold execOp
  simp only [ho, hp, hx, Sem.run_bind, Sem.run_pure, Result.andThen_ok, hrun]
theorem stored_one {g j : Nat} {w : World} {cs : Array Value} {e : TypeId} (v : Value) (hh : w.heap[g]? = some (.cells cs e (0, 0))) (hj : j < cs.size) : (w.setCells g j [v]).heap[g]? = some (.cells (cs.setIfInBounds j v) e (0, 0)) ∧ Only g w (w.setCells g j [v]) := by
  have hs := setCells_same g [v] j w
  obtain ⟨cs', h1, h2, h3⟩ := setCells_row [v] j w cs hh (by simp; omega)
  have : cs' = cs.setIfInBounds j v := by
    apply Array.ext'
    rw [h3, Array.toList_setIfInBounds, List.set_eq_take_append_cons_drop, if_pos (by simpa using hj)]
    simp
  subst this
  exact ⟨h1, hs.1, hs.2.1, hs.2.2.1, hs.2.2.2, fun k hk => setCells_far _ j k hk⟩
theorem run_fa0 {a : Act} {o : Oper} {g : Nat} (ho : o.op = .fieldAddr 26 (.tmp 8) 0) (h : a.eval (.tmp 8) = .pointer (some ⟨g, 0, none⟩)) (w : World) : (execOp a.eval o).run Tryd.prog w = .ok (.value (.pointer (some ⟨g, 0, none⟩))) w := by
  unfold execOp
  simp only [ho, h]
  go_simp
theorem run_fa1 {a : Act} {o : Oper} {g : Nat} (ho : o.op = .fieldAddr 26 (.tmp 8) 1) (h : a.eval (.tmp 8) = .pointer (some ⟨g, 0, none⟩)) (w : World) : (execOp a.eval o).run Tryd.prog w = .ok (.value (.pointer (some ⟨g, 1, none⟩))) w := by
  unfold execOp
  simp only [ho, h]
  go_simp
theorem run_fa3 {a : Act} {o : Oper} {g : Nat} (ho : o.op = .fieldAddr 26 (.tmp 8) 3) (h : a.eval (.tmp 8) = .pointer (some ⟨g, 0, none⟩)) (w : World) : (execOp a.eval o).run Tryd.prog w = .ok (.value (.pointer (some ⟨g, 3, none⟩))) w := by
  unfold execOp
  simp only [ho, h]
  go_simp
theorem run_fa4 {a : Act} {o : Oper} {g : Nat} (ho : o.op = .fieldAddr 26 (.tmp 8) 4) (h : a.eval (.tmp 8) = .pointer (some ⟨g, 0, none⟩)) (w : World) : (execOp a.eval o).run Tryd.prog w = .ok (.value (.pointer (some ⟨g, 4, none⟩))) w := by
  unfold execOp
  simp only [ho, h]
  go_simp
theorem run_fh0 {a : Act} {o : Oper} {g : Nat} (ho : o.op = .fieldAddr 52 (.tmp 5) 0) (h : a.eval (.tmp 5) = .pointer (some ⟨g, 0, none⟩)) (w : World) : (execOp a.eval o).run Tryd.prog w = .ok (.value (.pointer (some ⟨g, 0, none⟩))) w := by
  unfold execOp
  simp only [ho, h]
  go_simp
theorem run_fh1 {a : Act} {o : Oper} {g : Nat} (ho : o.op = .fieldAddr 52 (.tmp 5) 1) (h : a.eval (.tmp 5) = .pointer (some ⟨g, 0, none⟩)) (w : World) : (execOp a.eval o).run Tryd.prog w = .ok (.value (.pointer (some ⟨g, 1, none⟩))) w := by
  unfold execOp
  simp only [ho, h]
  go_simp
abbrev pair7o0 : Oper := { dst := some 26, op := Op.fieldAddr 52 (Operand.tmp 5) 0, type := 0, pos := "parse.go:223", after := #[], guard := none }
abbrev pair7o1 : Oper := { dst := some 27, op := Op.load 22 (Operand.tmp 26), type := 22, pos := "parse.go:223", after := #[{ on := 0, ground := Ground.data }], guard := none }
abbrev pair7o2 : Oper := { dst := some 28, op := Op.fieldAddr 52 (Operand.tmp 5) 1, type := 0, pos := "parse.go:223", after := #[{ on := 5, ground := Ground.gcOnly Departure.lateStores }], guard := none }
abbrev pair7o3 : Oper := { dst := some 29, op := Op.load 22 (Operand.tmp 28), type := 22, pos := "parse.go:223", after := #[{ on := 2, ground := Ground.data }, { on := 5, ground := Ground.gcOnly Departure.lateStores }], guard := none }
abbrev pair7o4 : Oper := { dst := some 30, op := Op.fieldAddr 26 (Operand.tmp 8) 0, type := 0, pos := "parse.go:223", after := #[{ on := 0, ground := Ground.phase }, { on := 1, ground := Ground.phase }, { on := 2, ground := Ground.textOnly Departure.lateStores }, { on := 3, ground := Ground.textOnly Departure.lateStores }], guard := none }
abbrev pair7o5 : Oper := { dst := none, op := Op.store 22 (Operand.tmp 30) (Operand.tmp 27), type := 0, pos := "parse.go:223", after := #[{ on := 4, ground := Ground.data }, { on := 1, ground := Ground.data }, { on := 0, ground := Ground.phase }, { on := 1, ground := Ground.phase }, { on := 2, ground := Ground.textOnly Departure.lateStores }, { on := 3, ground := Ground.textOnly Departure.lateStores }], guard := none }
abbrev pair7o6 : Oper := { dst := some 31, op := Op.fieldAddr 26 (Operand.tmp 8) 1, type := 0, pos := "parse.go:223", after := #[{ on := 0, ground := Ground.phase }, { on := 1, ground := Ground.phase }, { on := 2, ground := Ground.phase }, { on := 3, ground := Ground.phase }, { on := 4, ground := Ground.phase }, { on := 5, ground := Ground.phase }], guard := none }
abbrev pair7o7 : Oper := { dst := none, op := Op.store 22 (Operand.tmp 31) (Operand.tmp 29), type := 0, pos := "parse.go:223", after := #[{ on := 6, ground := Ground.data }, { on := 3, ground := Ground.data }, { on := 5, ground := Ground.chain }, { on := 0, ground := Ground.phase }, { on := 1, ground := Ground.phase }, { on := 2, ground := Ground.phase }, { on := 3, ground := Ground.phase }, { on := 4, ground := Ground.phase }, { on := 5, ground := Ground.phase }], guard := none }
abbrev pairOps7 : Array Oper := #[pair7o0, pair7o1, pair7o2, pair7o3, pair7o4, pair7o5, pair7o6, pair7o7]
set_option maxHeartbeats 2000000 in
set_option maxRecDepth 100000 in
theorem pair7 {a : Act} {W : World} {Q : Exit → Act → World → Prop} {gh gp nA cA nB cB : Nat} {A B : Option Addr} {cs : Array Value}
    (e5 : a.eval (.tmp 5) = .pointer (some ⟨gh, 0, none⟩)) (e8 : a.eval (.tmp 8) = .pointer (some ⟨gp, 0, none⟩)) (sz : 31 < a.tmps.size)
    (cu : W.cell? ⟨gh, 0, none⟩ = some (.slice A nA cA)) (cv : W.cell? ⟨gh, 1, none⟩ = some (.slice B nB cB)) (hne : gh ≠ gp) (hb : W.heap[gp]? = some (.cells cs 26 (0, 0))) (hs : cs.size = 17)
    (hQ : ∀ c (a : Act) (x : Tmp) v w, Q (.panic c) (a.put (some x) v) w → Q (.panic c) a w)
    (h : ∀ w1, w1.heap[gp]? = some (.cells ((cs.setIfInBounds 0 (.slice A nA cA)).setIfInBounds 1 (.slice B nB cB)) 26 (0, 0)) → Only gp W.drew w1 → Q .normal ((((((a.put (some 26) (.pointer (some ⟨gh, 0, none⟩))).put (some 28) (.pointer (some ⟨gh, 1, none⟩))).put (some 27) (.slice A nA cA)).put (some 30) (.pointer (some ⟨gp, 0, none⟩))).put (some 29) (.slice B nB cB)).put (some 31) (.pointer (some ⟨gp, 1, none⟩))) w1) :
    (Code.region 7 pairOps7 true).wp Tryd.prog Q a W := by
  have hbd : W.drew.heap[gp]? = some (.cells cs 26 (0, 0)) := hb
  have cud : W.drew.cell? ⟨gh, 0, none⟩ = some (.slice A nA cA) := cu
  have cvd : W.drew.cell? ⟨gh, 1, none⟩ = some (.slice B nB cB) := cv
  have hk1 : 0 < cs.size := by omega
  have hk2 : 1 < (cs.setIfInBounds 0 (.slice A nA cA)).size := by simp; omega
  obtain ⟨hs1, ho1⟩ := stored_one (.slice A nA cA) hbd hk1
  obtain ⟨hs2, ho2⟩ := stored_one (.slice B nB cB) hs1 hk2
  have z1 : 26 < a.tmps.size := by omega
  have z2 : 27 < a.tmps.size := by omega
  have z3 : 28 < a.tmps.size := by omega
  have z4 : 29 < a.tmps.size := by omega
  have z5 : 30 < a.tmps.size := by omega
  have cv1 : (W.drew.setCells gp 0 [(.slice A nA cA)]).cell? ⟨gh, 1, none⟩ = some (.slice B nB cB) := (ho1.cell hne).trans cvd
  have R7 : (execOp ((((((a.put (some 26) (.pointer (some ⟨gh, 0, none⟩))).put (some 28) (.pointer (some ⟨gh, 1, none⟩))).put (some 27) (.slice A nA cA)).put (some 30) (.pointer (some ⟨gp, 0, none⟩))).put (some 29) (.slice B nB cB)).put (some 31) (.pointer (some ⟨gp, 1, none⟩))).eval pair7o7).run Tryd.prog (W.drew.setCells gp 0 [(.slice A nA cA)]) = .ok .skip ((W.drew.setCells gp 0 [(.slice A nA cA)]).setCells gp 1 [(.slice B nB cB)]) := run_store_sl (.tmp 31) (.tmp 29) rfl gp 1 26 _ (eval_put_same (by first | omega | (simp only [put_size]; omega))) ((eval_put_ne (by decide)).trans (eval_put_same (by first | omega | (simp only [put_size]; omega)))) hs1 hk2
  have R5a : (execOp (((((a.put (some 26) (.pointer (some ⟨gh, 0, none⟩))).put (some 28) (.pointer (some ⟨gh, 1, none⟩))).put (some 27) (.slice A nA cA)).put (some 30) (.pointer (some ⟨gp, 0, none⟩))).put (some 29) (.slice B nB cB)).eval pair7o5).run Tryd.prog W.drew = .ok .skip (W.drew.setCells gp 0 [(.slice A nA cA)]) := run_store_sl (.tmp 30) (.tmp 27) rfl gp 0 26 cs ((eval_put_ne (by decide)).trans (eval_put_same (by first | omega | (simp only [put_size]; omega)))) ((eval_put_ne (by decide)).trans ((eval_put_ne (by decide)).trans (eval_put_same (by first | omega | (simp only [put_size]; omega))))) hbd hk1
  have R5b : (execOp ((((a.put (some 26) (.pointer (some ⟨gh, 0, none⟩))).put (some 28) (.pointer (some ⟨gh, 1, none⟩))).put (some 27) (.slice A nA cA)).put (some 30) (.pointer (some ⟨gp, 0, none⟩))).eval pair7o5).run Tryd.prog W.drew = .ok .skip (W.drew.setCells gp 0 [(.slice A nA cA)]) := run_store_sl (.tmp 30) (.tmp 27) rfl gp 0 26 cs (eval_put_same (by first | omega | (simp only [put_size]; omega))) ((eval_put_ne (by decide)).trans (eval_put_same (by first | omega | (simp only [put_size]; omega)))) hbd hk1
  have R1a : (execOp ((a.put (some 26) (.pointer (some ⟨gh, 0, none⟩))).put (some 28) (.pointer (some ⟨gh, 1, none⟩))).eval pair7o1).run Tryd.prog W.drew = .ok (.value (.slice A nA cA)) W.drew := run_load_sl (.tmp 26) rfl gh 0 ((eval_put_ne (by decide)).trans (eval_put_same (by first | omega | (simp only [put_size]; omega)))) _ cud
  have R3a : (execOp ((a.put (some 26) (.pointer (some ⟨gh, 0, none⟩))).put (some 28) (.pointer (some ⟨gh, 1, none⟩))).eval pair7o3).run Tryd.prog W.drew = .ok (.value (.slice B nB cB)) W.drew := run_load_sl (.tmp 28) rfl gh 1 (eval_put_same (by first | omega | (simp only [put_size]; omega))) _ cvd
  have R3b : (execOp ((((a.put (some 26) (.pointer (some ⟨gh, 0, none⟩))).put (some 28) (.pointer (some ⟨gh, 1, none⟩))).put (some 27) (.slice A nA cA)).put (some 30) (.pointer (some ⟨gp, 0, none⟩))).eval pair7o3).run Tryd.prog W.drew = .ok (.value (.slice B nB cB)) W.drew := run_load_sl (.tmp 28) rfl gh 1 ((eval_put_ne (by decide)).trans ((eval_put_ne (by decide)).trans (eval_put_same (by first | omega | (simp only [put_size]; omega))))) _ cvd
  have R3c : (execOp ((((a.put (some 26) (.pointer (some ⟨gh, 0, none⟩))).put (some 28) (.pointer (some ⟨gh, 1, none⟩))).put (some 27) (.slice A nA cA)).put (some 30) (.pointer (some ⟨gp, 0, none⟩))).eval pair7o3).run Tryd.prog (W.drew.setCells gp 0 [(.slice A nA cA)]) = .ok (.value (.slice B nB cB)) (W.drew.setCells gp 0 [(.slice A nA cA)]) := run_load_sl (.tmp 28) rfl gh 1 ((eval_put_ne (by decide)).trans ((eval_put_ne (by decide)).trans (eval_put_same (by first | omega | (simp only [put_size]; omega))))) _ cv1
  have R1b : (execOp (((a.put (some 26) (.pointer (some ⟨gh, 0, none⟩))).put (some 28) (.pointer (some ⟨gh, 1, none⟩))).put (some 29) (.slice B nB cB)).eval pair7o1).run Tryd.prog W.drew = .ok (.value (.slice A nA cA)) W.drew := run_load_sl (.tmp 26) rfl gh 0 ((eval_put_ne (by decide)).trans ((eval_put_ne (by decide)).trans (eval_put_same (by first | omega | (simp only [put_size]; omega))))) _ cud
  have T0 : ∀ w, (execOp a.eval pair7o0).run Tryd.prog w = .ok (.value (.pointer (some ⟨gh, 0, none⟩))) w := run_fh0 rfl e5
  have T2 : ∀ w, (execOp (a.put (some 26) (.pointer (some ⟨gh, 0, none⟩))).eval pair7o2).run Tryd.prog w = .ok (.value (.pointer (some ⟨gh, 1, none⟩))) w := run_fh1 rfl ((eval_put_ne (by decide)).trans e5)
  have T4a : ∀ w, (execOp (((a.put (some 26) (.pointer (some ⟨gh, 0, none⟩))).put (some 28) (.pointer (some ⟨gh, 1, none⟩))).put (some 27) (.slice A nA cA)).eval pair7o4).run Tryd.prog w = .ok (.value (.pointer (some ⟨gp, 0, none⟩))) w := run_fa0 rfl ((eval_put_ne (by decide)).trans ((eval_put_ne (by decide)).trans ((eval_put_ne (by decide)).trans e8)))
  have T4b : ∀ w, (execOp ((((a.put (some 26) (.pointer (some ⟨gh, 0, none⟩))).put (some 28) (.pointer (some ⟨gh, 1, none⟩))).put (some 29) (.slice B nB cB)).put (some 27) (.slice A nA cA)).eval pair7o4).run Tryd.prog w = .ok (.value (.pointer (some ⟨gp, 0, none⟩))) w := run_fa0 rfl ((eval_put_ne (by decide)).trans ((eval_put_ne (by decide)).trans ((eval_put_ne (by decide)).trans ((eval_put_ne (by decide)).trans e8))))
  have T6 : ∀ w, (execOp (((((a.put (some 26) (.pointer (some ⟨gh, 0, none⟩))).put (some 28) (.pointer (some ⟨gh, 1, none⟩))).put (some 27) (.slice A nA cA)).put (some 30) (.pointer (some ⟨gp, 0, none⟩))).put (some 29) (.slice B nB cB)).eval pair7o6).run Tryd.prog w = .ok (.value (.pointer (some ⟨gp, 1, none⟩))) w := run_fa1 rfl ((eval_put_ne (by decide)).trans ((eval_put_ne (by decide)).trans ((eval_put_ne (by decide)).trans ((eval_put_ne (by decide)).trans ((eval_put_ne (by decide)).trans e8)))))
  have Z : wpAny Tryd.prog .any pairOps7 Q 2 #[true, true, true, true, true, true, false, false] (((((a.put (some 26) (.pointer (some ⟨gh, 0, none⟩))).put (some 28) (.pointer (some ⟨gh, 1, none⟩))).put (some 27) (.slice A nA cA)).put (some 30) (.pointer (some ⟨gp, 0, none⟩))).put (some 29) (.slice B nB cB)) (W.drew.setCells gp 0 [(.slice A nA cA)]) := by
    refine take_pure (i := 6) (o := pair7o6) (x := 31) (v := (.pointer (some ⟨gp, 1, none⟩))) rfl rfl rfl (by kernel_rfl) (by kernel_rfl) (by kernel_rfl) hQ T6 ?_
    refine wpAny_ready (rs := [7]) (by kernel_rfl) (by simp) ?_
    refine ready_skip (o := pair7o7) rfl rfl rfl R7 ?_ AllReady.nil
    refine wpAny_done (by kernel_rfl) ?_ _
    exact h _ hs2 (ho1.trans ho2)
  have Y : wpAny Tryd.prog .any pairOps7 Q 3 #[true, true, true, true, true, false, false, false] (((((a.put (some 26) (.pointer (some ⟨gh, 0, none⟩))).put (some 28) (.pointer (some ⟨gh, 1, none⟩))).put (some 27) (.slice A nA cA)).put (some 30) (.pointer (some ⟨gp, 0, none⟩))).put (some 29) (.slice B nB cB)) W.drew := by
    refine wpAny_ready (rs := [5]) (by kernel_rfl) (by simp) ?_
    refine ready_skip (o := pair7o5) rfl rfl rfl R5a ?_ AllReady.nil
    exact Z
  refine wp_region_any (by kernel_rfl) ?_
  show wpAny _ _ _ _ 8 _ _ W.drew
  refine take_pure (i := 0) (o := pair7o0) (x := 26) (v := (.pointer (some ⟨gh, 0, none⟩))) rfl rfl rfl (by kernel_rfl) (by kernel_rfl) (by kernel_rfl) hQ T0 ?_
  refine take_pure (i := 2) (o := pair7o2) (x := 28) (v := (.pointer (some ⟨gh, 1, none⟩))) rfl rfl rfl (by kernel_rfl) (by kernel_rfl) (by kernel_rfl) hQ T2 ?_
  refine wpAny_ready (rs := [1, 3]) (by kernel_rfl) (by simp) ?_
  refine ready_val (o := pair7o1) (x := 27) rfl rfl rfl R1a ?_ (ready_val (o := pair7o3) (x := 29) rfl rfl rfl R3a ?_ AllReady.nil)
  · refine take_pure (i := 4) (o := pair7o4) (x := 30) (v := (.pointer (some ⟨gp, 0, none⟩))) rfl rfl rfl (by kernel_rfl) (by kernel_rfl) (by kernel_rfl) hQ T4a ?_
    refine wpAny_ready (rs := [3, 5]) (by kernel_rfl) (by simp) ?_
    refine ready_val (o := pair7o3) (x := 29) rfl rfl rfl R3b ?_ (ready_skip (o := pair7o5) rfl rfl rfl R5b ?_ AllReady.nil)
    · exact Y
    · refine wpAny_ready (rs := [3]) (by kernel_rfl) (by simp) ?_
      refine ready_val (o := pair7o3) (x := 29) rfl rfl rfl R3c ?_ AllReady.nil
      exact Z
  · refine wpAny_ready (rs := [1]) (by kernel_rfl) (by simp) ?_
    refine ready_val (o := pair7o1) (x := 27) rfl rfl rfl R1b ?_ AllReady.nil
    refine take_pure (i := 4) (o := pair7o4) (x := 30) (v := (.pointer (some ⟨gp, 0, none⟩))) rfl rfl rfl (by kernel_rfl) (by kernel_rfl) (by kernel_rfl) hQ T4b ?_
    show wpAny _ _ _ _ _ _ (((((a.put (some 26) (.pointer (some ⟨gh, 0, none⟩))).put (some 28) (.pointer (some ⟨gh, 1, none⟩))).put (some 29) (.slice B nB cB)).put (some 27) (.slice A nA cA)).put (some 30) (.pointer (some ⟨gp, 0, none⟩))) _
    rw [put_comm (by decide : (29 : Nat) ≠ 27), put_comm (by decide : (29 : Nat) ≠ 30)]
    exact Y
abbrev pair13o0 : Oper := { dst := some 55, op := Op.fieldAddr 52 (Operand.tmp 5) 0, type := 0, pos := "parse.go:230", after := #[], guard := none }
abbrev pair13o1 : Oper := { dst := some 56, op := Op.load 22 (Operand.tmp 55), type := 22, pos := "parse.go:230", after := #[{ on := 0, ground := Ground.data }], guard := none }
abbrev pair13o2 : Oper := { dst := some 57, op := Op.fieldAddr 52 (Operand.tmp 5) 1, type := 0, pos := "parse.go:230", after := #[{ on := 5, ground := Ground.gcOnly Departure.lateStores }], guard := none }
abbrev pair13o3 : Oper := { dst := some 58, op := Op.load 22 (Operand.tmp 57), type := 22, pos := "parse.go:230", after := #[{ on := 2, ground := Ground.data }, { on := 5, ground := Ground.gcOnly Departure.lateStores }], guard := none }
abbrev pair13o4 : Oper := { dst := some 59, op := Op.fieldAddr 26 (Operand.tmp 8) 3, type := 0, pos := "parse.go:230", after := #[{ on := 0, ground := Ground.phase }, { on := 1, ground := Ground.phase }, { on := 2, ground := Ground.textOnly Departure.lateStores }, { on := 3, ground := Ground.textOnly Departure.lateStores }], guard := none }
abbrev pair13o5 : Oper := { dst := none, op := Op.store 22 (Operand.tmp 59) (Operand.tmp 56), type := 0, pos := "parse.go:230", after := #[{ on := 4, ground := Ground.data }, { on := 1, ground := Ground.data }, { on := 0, ground := Ground.phase }, { on := 1, ground := Ground.phase }, { on := 2, ground := Ground.textOnly Departure.lateStores }, { on := 3, ground := Ground.textOnly Departure.lateStores }], guard := none }
abbrev pair13o6 : Oper := { dst := some 60, op := Op.fieldAddr 26 (Operand.tmp 8) 4, type := 0, pos := "parse.go:230", after := #[{ on := 0, ground := Ground.phase }, { on := 1, ground := Ground.phase }, { on := 2, ground := Ground.phase }, { on := 3, ground := Ground.phase }, { on := 4, ground := Ground.phase }, { on := 5, ground := Ground.phase }], guard := none }
abbrev pair13o7 : Oper := { dst := none, op := Op.store 22 (Operand.tmp 60) (Operand.tmp 58), type := 0, pos := "parse.go:230", after := #[{ on := 6, ground := Ground.data }, { on := 3, ground := Ground.data }, { on := 5, ground := Ground.chain }, { on := 0, ground := Ground.phase }, { on := 1, ground := Ground.phase }, { on := 2, ground := Ground.phase }, { on := 3, ground := Ground.phase }, { on := 4, ground := Ground.phase }, { on := 5, ground := Ground.phase }], guard := none }
abbrev pairOps13 : Array Oper := #[pair13o0, pair13o1, pair13o2, pair13o3, pair13o4, pair13o5, pair13o6, pair13o7]
set_option maxHeartbeats 2000000 in
set_option maxRecDepth 100000 in
theorem pair13 {a : Act} {W : World} {Q : Exit → Act → World → Prop} {gh gp nA cA nB cB : Nat} {A B : Option Addr} {cs : Array Value}
    (e5 : a.eval (.tmp 5) = .pointer (some ⟨gh, 0, none⟩)) (e8 : a.eval (.tmp 8) = .pointer (some ⟨gp, 0, none⟩)) (sz : 60 < a.tmps.size)
    (cu : W.cell? ⟨gh, 0, none⟩ = some (.slice A nA cA)) (cv : W.cell? ⟨gh, 1, none⟩ = some (.slice B nB cB)) (hne : gh ≠ gp) (hb : W.heap[gp]? = some (.cells cs 26 (0, 0))) (hs : cs.size = 17)
    (hQ : ∀ c (a : Act) (x : Tmp) v w, Q (.panic c) (a.put (some x) v) w → Q (.panic c) a w)
    (h : ∀ w1, w1.heap[gp]? = some (.cells ((cs.setIfInBounds 3 (.slice A nA cA)).setIfInBounds 4 (.slice B nB cB)) 26 (0, 0)) → Only gp W.drew w1 → Q .normal ((((((a.put (some 55) (.pointer (some ⟨gh, 0, none⟩))).put (some 57) (.pointer (some ⟨gh, 1, none⟩))).put (some 56) (.slice A nA cA)).put (some 59) (.pointer (some ⟨gp, 3, none⟩))).put (some 58) (.slice B nB cB)).put (some 60) (.pointer (some ⟨gp, 4, none⟩))) w1) :
    (Code.region 13 pairOps13 true).wp Tryd.prog Q a W := by
  have hbd : W.drew.heap[gp]? = some (.cells cs 26 (0, 0)) := hb
  have cud : W.drew.cell? ⟨gh, 0, none⟩ = some (.slice A nA cA) := cu
  have cvd : W.drew.cell? ⟨gh, 1, none⟩ = some (.slice B nB cB) := cv
  have hk1 : 3 < cs.size := by omega
  have hk2 : 4 < (cs.setIfInBounds 3 (.slice A nA cA)).size := by simp; omega
  obtain ⟨hs1, ho1⟩ := stored_one (.slice A nA cA) hbd hk1
  obtain ⟨hs2, ho2⟩ := stored_one (.slice B nB cB) hs1 hk2
  have z1 : 55 < a.tmps.size := by omega
  have z2 : 56 < a.tmps.size := by omega
  have z3 : 57 < a.tmps.size := by omega
  have z4 : 58 < a.tmps.size := by omega
  have z5 : 59 < a.tmps.size := by omega
  have cv1 : (W.drew.setCells gp 3 [(.slice A nA cA)]).cell? ⟨gh, 1, none⟩ = some (.slice B nB cB) := (ho1.cell hne).trans cvd
  have R7 : (execOp ((((((a.put (some 55) (.pointer (some ⟨gh, 0, none⟩))).put (some 57) (.pointer (some ⟨gh, 1, none⟩))).put (some 56) (.slice A nA cA)).put (some 59) (.pointer (some ⟨gp, 3, none⟩))).put (some 58) (.slice B nB cB)).put (some 60) (.pointer (some ⟨gp, 4, none⟩))).eval pair13o7).run Tryd.prog (W.drew.setCells gp 3 [(.slice A nA cA)]) = .ok .skip ((W.drew.setCells gp 3 [(.slice A nA cA)]).setCells gp 4 [(.slice B nB cB)]) := run_store_sl (.tmp 60) (.tmp 58) rfl gp 4 26 _ (eval_put_same (by first | omega | (simp only [put_size]; omega))) ((eval_put_ne (by decide)).trans (eval_put_same (by first | omega | (simp only [put_size]; omega)))) hs1 hk2
  have R5a : (execOp (((((a.put (some 55) (.pointer (some ⟨gh, 0, none⟩))).put (some 57) (.pointer (some ⟨gh, 1, none⟩))).put (some 56) (.slice A nA cA)).put (some 59) (.pointer (some ⟨gp, 3, none⟩))).put (some 58) (.slice B nB cB)).eval pair13o5).run Tryd.prog W.drew = .ok .skip (W.drew.setCells gp 3 [(.slice A nA cA)]) := run_store_sl (.tmp 59) (.tmp 56) rfl gp 3 26 cs ((eval_put_ne (by decide)).trans (eval_put_same (by first | omega | (simp only [put_size]; omega)))) ((eval_put_ne (by decide)).trans ((eval_put_ne (by decide)).trans (eval_put_same (by first | omega | (simp only [put_size]; omega))))) hbd hk1
  have R5b : (execOp ((((a.put (some 55) (.pointer (some ⟨gh, 0, none⟩))).put (some 57) (.pointer (some ⟨gh, 1, none⟩))).put (some 56) (.slice A nA cA)).put (some 59) (.pointer (some ⟨gp, 3, none⟩))).eval pair13o5).run Tryd.prog W.drew = .ok .skip (W.drew.setCells gp 3 [(.slice A nA cA)]) := run_store_sl (.tmp 59) (.tmp 56) rfl gp 3 26 cs (eval_put_same (by first | omega | (simp only [put_size]; omega))) ((eval_put_ne (by decide)).trans (eval_put_same (by first | omega | (simp only [put_size]; omega)))) hbd hk1
  have R1a : (execOp ((a.put (some 55) (.pointer (some ⟨gh, 0, none⟩))).put (some 57) (.pointer (some ⟨gh, 1, none⟩))).eval pair13o1).run Tryd.prog W.drew = .ok (.value (.slice A nA cA)) W.drew := run_load_sl (.tmp 55) rfl gh 0 ((eval_put_ne (by decide)).trans (eval_put_same (by first | omega | (simp only [put_size]; omega)))) _ cud
  have R3a : (execOp ((a.put (some 55) (.pointer (some ⟨gh, 0, none⟩))).put (some 57) (.pointer (some ⟨gh, 1, none⟩))).eval pair13o3).run Tryd.prog W.drew = .ok (.value (.slice B nB cB)) W.drew := run_load_sl (.tmp 57) rfl gh 1 (eval_put_same (by first | omega | (simp only [put_size]; omega))) _ cvd
  have R3b : (execOp ((((a.put (some 55) (.pointer (some ⟨gh, 0, none⟩))).put (some 57) (.pointer (some ⟨gh, 1, none⟩))).put (some 56) (.slice A nA cA)).put (some 59) (.pointer (some ⟨gp, 3, none⟩))).eval pair13o3).run Tryd.prog W.drew = .ok (.value (.slice B nB cB)) W.drew := run_load_sl (.tmp 57) rfl gh 1 ((eval_put_ne (by decide)).trans ((eval_put_ne (by decide)).trans (eval_put_same (by first | omega | (simp only [put_size]; omega))))) _ cvd
  have R3c : (execOp ((((a.put (some 55) (.pointer (some ⟨gh, 0, none⟩))).put (some 57) (.pointer (some ⟨gh, 1, none⟩))).put (some 56) (.slice A nA cA)).put (some 59) (.pointer (some ⟨gp, 3, none⟩))).eval pair13o3).run Tryd.prog (W.drew.setCells gp 3 [(.slice A nA cA)]) = .ok (.value (.slice B nB cB)) (W.drew.setCells gp 3 [(.slice A nA cA)]) := run_load_sl (.tmp 57) rfl gh 1 ((eval_put_ne (by decide)).trans ((eval_put_ne (by decide)).trans (eval_put_same (by first | omega | (simp only [put_size]; omega))))) _ cv1
  have R1b : (execOp (((a.put (some 55) (.pointer (some ⟨gh, 0, none⟩))).put (some 57) (.pointer (some ⟨gh, 1, none⟩))).put (some 58) (.slice B nB cB)).eval pair13o1).run Tryd.prog W.drew = .ok (.value (.slice A nA cA)) W.drew := run_load_sl (.tmp 55) rfl gh 0 ((eval_put_ne (by decide)).trans ((eval_put_ne (by decide)).trans (eval_put_same (by first | omega | (simp only [put_size]; omega))))) _ cud
  have T0 : ∀ w, (execOp a.eval pair13o0).run Tryd.prog w = .ok (.value (.pointer (some ⟨gh, 0, none⟩))) w := run_fh0 rfl e5
  have T2 : ∀ w, (execOp (a.put (some 55) (.pointer (some ⟨gh, 0, none⟩))).eval pair13o2).run Tryd.prog w = .ok (.value (.pointer (some ⟨gh, 1, none⟩))) w := run_fh1 rfl ((eval_put_ne (by decide)).trans e5)
  have T4a : ∀ w, (execOp (((a.put (some 55) (.pointer (some ⟨gh, 0, none⟩))).put (some 57) (.pointer (some ⟨gh, 1, none⟩))).put (some 56) (.slice A nA cA)).eval pair13o4).run Tryd.prog w = .ok (.value (.pointer (some ⟨gp, 3, none⟩))) w := run_fa3 rfl ((eval_put_ne (by decide)).trans ((eval_put_ne (by decide)).trans ((eval_put_ne (by decide)).trans e8)))
  have T4b : ∀ w, (execOp ((((a.put (some 55) (.pointer (some ⟨gh, 0, none⟩))).put (some 57) (.pointer (some ⟨gh, 1, none⟩))).put (some 58) (.slice B nB cB)).put (some 56) (.slice A nA cA)).eval pair13o4).run Tryd.prog w = .ok (.value (.pointer (some ⟨gp, 3, none⟩))) w := run_fa3 rfl ((eval_put_ne (by decide)).trans ((eval_put_ne (by decide)).trans ((eval_put_ne (by decide)).trans ((eval_put_ne (by decide)).trans e8))))
  have T6 : ∀ w, (execOp (((((a.put (some 55) (.pointer (some ⟨gh, 0, none⟩))).put (some 57) (.pointer (some ⟨gh, 1, none⟩))).put (some 56) (.slice A nA cA)).put (some 59) (.pointer (some ⟨gp, 3, none⟩))).put (some 58) (.slice B nB cB)).eval pair13o6).run Tryd.prog w = .ok (.value (.pointer (some ⟨gp, 4, none⟩))) w := run_fa4 rfl ((eval_put_ne (by decide)).trans ((eval_put_ne (by decide)).trans ((eval_put_ne (by decide)).trans ((eval_put_ne (by decide)).trans ((eval_put_ne (by decide)).trans e8)))))
  have Z : wpAny Tryd.prog .any pairOps13 Q 2 #[true, true, true, true, true, true, false, false] (((((a.put (some 55) (.pointer (some ⟨gh, 0, none⟩))).put (some 57) (.pointer (some ⟨gh, 1, none⟩))).put (some 56) (.slice A nA cA)).put (some 59) (.pointer (some ⟨gp, 3, none⟩))).put (some 58) (.slice B nB cB)) (W.drew.setCells gp 3 [(.slice A nA cA)]) := by
    refine take_pure (i := 6) (o := pair13o6) (x := 60) (v := (.pointer (some ⟨gp, 4, none⟩))) rfl rfl rfl (by kernel_rfl) (by kernel_rfl) (by kernel_rfl) hQ T6 ?_
    refine wpAny_ready (rs := [7]) (by kernel_rfl) (by simp) ?_
    refine ready_skip (o := pair13o7) rfl rfl rfl R7 ?_ AllReady.nil
    refine wpAny_done (by kernel_rfl) ?_ _
    exact h _ hs2 (ho1.trans ho2)
  have Y : wpAny Tryd.prog .any pairOps13 Q 3 #[true, true, true, true, true, false, false, false] (((((a.put (some 55) (.pointer (some ⟨gh, 0, none⟩))).put (some 57) (.pointer (some ⟨gh, 1, none⟩))).put (some 56) (.slice A nA cA)).put (some 59) (.pointer (some ⟨gp, 3, none⟩))).put (some 58) (.slice B nB cB)) W.drew := by
    refine wpAny_ready (rs := [5]) (by kernel_rfl) (by simp) ?_
    refine ready_skip (o := pair13o5) rfl rfl rfl R5a ?_ AllReady.nil
    exact Z
  refine wp_region_any (by kernel_rfl) ?_
  show wpAny _ _ _ _ 8 _ _ W.drew
  refine take_pure (i := 0) (o := pair13o0) (x := 55) (v := (.pointer (some ⟨gh, 0, none⟩))) rfl rfl rfl (by kernel_rfl) (by kernel_rfl) (by kernel_rfl) hQ T0 ?_
  refine take_pure (i := 2) (o := pair13o2) (x := 57) (v := (.pointer (some ⟨gh, 1, none⟩))) rfl rfl rfl (by kernel_rfl) (by kernel_rfl) (by kernel_rfl) hQ T2 ?_
  refine wpAny_ready (rs := [1, 3]) (by kernel_rfl) (by simp) ?_
  refine ready_val (o := pair13o1) (x := 56) rfl rfl rfl R1a ?_ (ready_val (o := pair13o3) (x := 58) rfl rfl rfl R3a ?_ AllReady.nil)
  · refine take_pure (i := 4) (o := pair13o4) (x := 59) (v := (.pointer (some ⟨gp, 3, none⟩))) rfl rfl rfl (by kernel_rfl) (by kernel_rfl) (by kernel_rfl) hQ T4a ?_
    refine wpAny_ready (rs := [3, 5]) (by kernel_rfl) (by simp) ?_
    refine ready_val (o := pair13o3) (x := 58) rfl rfl rfl R3b ?_ (ready_skip (o := pair13o5) rfl rfl rfl R5b ?_ AllReady.nil)
    · exact Y
    · refine wpAny_ready (rs := [3]) (by kernel_rfl) (by simp) ?_
      refine ready_val (o := pair13o3) (x := 58) rfl rfl rfl R3c ?_ AllReady.nil
      exact Z
  · refine wpAny_ready (rs := [1]) (by kernel_rfl) (by simp) ?_
    refine ready_val (o := pair13o1) (x := 56) rfl rfl rfl R1b ?_ AllReady.nil
    refine take_pure (i := 4) (o := pair13o4) (x := 59) (v := (.pointer (some ⟨gp, 3, none⟩))) rfl rfl rfl (by kernel_rfl) (by kernel_rfl) (by kernel_rfl) hQ T4b ?_
    show wpAny _ _ _ _ _ _ (((((a.put (some 55) (.pointer (some ⟨gh, 0, none⟩))).put (some 57) (.pointer (some ⟨gh, 1, none⟩))).put (some 58) (.slice B nB cB)).put (some 56) (.slice A nA cA)).put (some 59) (.pointer (some ⟨gp, 3, none⟩))) _
    rw [put_comm (by decide : (58 : Nat) ≠ 56), put_comm (by decide : (58 : Nat) ≠ 59)]
    exact Y
end Go.Proofs.YtjpdakepfmepnaaDoor

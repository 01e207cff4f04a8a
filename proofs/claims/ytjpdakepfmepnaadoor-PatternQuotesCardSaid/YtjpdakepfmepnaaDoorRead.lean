/- The walk of pattern.read: one half of a number pattern. -/
import Derived.Test.YtjpdakepfmepnaaDoorNum
import Derived.Test.YtjpdakepfmepnaaDoorSuf
import Derived.Test.YtjpdakepfmepnaaDoorSame
import Derived.Test.YtjpdakepfmepnaaDoorRet
import Derived.Deep.RegionWith
namespace Go.Proofs.YtjpdakepfmepnaaDoor
open Go.RowKit Go.Proofs.YtjpdakepfmepnaaDoorW.PrintWords Pat
set_option linter.unusedVariables false
set_option linter.unusedSimpArgs false

abbrev halfCells (u v : Value) (m : Num) : Array Value := #[u, v, .slice none 0 0, .slice none 0 0, .bool false, .slice none 0 0, .slice none 0 0, .int .i64 m.minInt, .int .i64 m.minFrac, .int .i64 m.maxFrac, .int .i64 m.minSig, .int .i64 m.maxSig, .int .i64 m.group, .int .i64 m.second, .bool false, .string (bs m.sInt), .string (bs m.sFrac), .int .i64 m.exp, .bool m.expPlus]
abbrev halfV (u v : Value) (m : Num) : Value := .agg (halfCells u v m)
theorem one_half {u v : Value} (hu : u.oneCell' = true) (hv : v.oneCell' = true) (m : Num) : ∀ q ∈ (halfCells u v m).toList, q.oneCell' = true := by
  intro q hq
  simp only [List.mem_cons, List.not_mem_nil, or_false] at hq
  rcases hq with rfl | rfl | rfl | rfl | rfl | rfl | rfl | rfl | rfl | rfl | rfl | rfl | rfl | rfl | rfl | rfl | rfl | rfl | rfl <;> first | exact hu | exact hv | rfl
theorem sizeHalf : (Tryd.prog.info? 52).map (·.size) = some 19 := by kernel_rfl
/-- The end of 'return h, i, ..': h is loaded and stored as it was; i and the test go into their slots. -/
theorem read_tail {ops : Array Oper} {o0 o12 o13 o14 : Oper} {a : Act} {W : World} {Q : Exit → Act → World → Prop} {g : Nat} {cs : Array Value} {k r : Value} {L : Array Bool} {fuel : Nat}
    (h0 : ops[0]? = some o0) (h12 : ops[12]? = some o12) (h13 : ops[13]? = some o13) (h14 : ops[14]? = some o14) (g0 : o0.guard = none) (g12 : o12.guard = none) (g13 : o13.guard = none) (g14 : o14.guard = none)
    (p0 : o0.op = .load 52 (.tmp 4)) (p12 : o12.op = .store 52 (.tmp 4) (.tmp 43)) (p13 : o13.op = .assign (.tmp 44)) (p14 : o14.op = .assign (.tmp 54))
    (d0 : o0.dst = some 43) (d12 : o12.dst = none) (d13 : o13.dst = some 5) (d14 : o14.dst = some 6)
    (r0 : Region.ready .any ops L = [0]) (r1 : Region.ready .any ops (L.setIfInBounds 0 true) = [12]) (r2 : Region.ready .any ops ((L.setIfInBounds 0 true).setIfInBounds 12 true) = [13])
    (r3 : Region.ready .any ops (((L.setIfInBounds 0 true).setIfInBounds 12 true).setIfInBounds 13 true) = [14]) (r4 : Region.ready .any ops ((((L.setIfInBounds 0 true).setIfInBounds 12 true).setIfInBounds 13 true).setIfInBounds 14 true) = [])
    (e4 : a.eval (.tmp 4) = .pointer (some ⟨g, 0, none⟩)) (e44 : a.eval (.tmp 44) = k) (e54 : a.eval (.tmp 54) = r) (hsz : 54 < a.tmps.size)
    (hb : W.heap[g]? = some (.cells cs 52 (0, 0))) (hs : cs.size = 19) (h1 : ∀ q ∈ cs.toList, q.oneCell' = true)
    (h : ∀ a' w1, a'.eval (.tmp 4) = .pointer (some ⟨g, 0, none⟩) → a'.eval (.tmp 5) = k → a'.eval (.tmp 6) = r → a'.defers = a.defers → w1.heap[g]? = some (.cells cs 52 (0, 0)) → Only g W w1 → Q .normal a' w1) :
    wpAny Tryd.prog .any ops Q (fuel + 4) L a W := by
  have hu := Tryd.underlying52
  have hz : (Tryd.prog.info? 52).map (·.size) = some cs.size := by rw [hs]; exact sizeHalf
  obtain ⟨hst, hon⟩ := stored_same hb
  refine wpAny_ready r0 (by simp) ?_
  refine AllReady.cons h0 (fun K hK => step_val g0 (run_load_row _ _ p0 g e4 _ _ _ _ hb hu rfl hz) (hK _ _ ?_)) AllReady.nil
  rw [d0]
  refine wpAny_ready r1 (by simp) ?_
  refine AllReady.cons h12 (fun K hK => step_skip g12 d12 (run_store_all _ _ _ p12 g _ cs ((eval_put_ne (by decide)).trans e4) (eval_put_same (Nat.lt_trans (by decide : 43 < 54) hsz)) hb hz h1) (hK _ _ ?_)) AllReady.nil
  refine wpAny_ready r2 (by simp) ?_
  refine AllReady.cons h13 (fun K hK => step_val g13 (run_assign_any (.tmp 44) p13) (hK _ _ ?_)) AllReady.nil
  rw [d13, (eval_put_ne (by decide)).trans e44]
  refine wpAny_ready r3 (by simp) ?_
  refine AllReady.cons h14 (fun K hK => step_val g14 (run_assign_any (.tmp 54) p14) (hK _ _ ?_)) AllReady.nil
  rw [d14, (eval_put_ne (by decide)).trans ((eval_put_ne (by decide)).trans e54)]
  refine wpAny_done r4 ?_ _
  refine h _ _ ?_ ?_ ?_ rfl hst hon
  · rw [eval_put_ne (by decide), eval_put_ne (by decide), eval_put_ne (by decide)]; exact e4
  · rw [eval_put_ne (by decide), eval_put_same (by rw [put_size]; exact Nat.lt_trans (by decide : 5 < 54) hsz)]
  · rw [eval_put_same (by rw [put_size, put_size]; exact Nat.lt_trans (by decide : 6 < 54) hsz)]
theorem R_one {w : World} {base e : Nat} {ok : Nat → Prop} {v : Value} {l : List Aff} (h : Kd.R kA e w base ok v l) : v.oneCell' = true := by
  obtain ⟨A, c, rfl⟩ := Kd.R_slice h
  rfl
theorem R_only {w w1 : World} {base e : Nat} {v : Value} {l : List Aff} (h : Kd.R kA e w base (fun _ => True) v l) (ho : ∀ k, base ≤ k → k < w.heap.size → w1.heap[k]? = w.heap[k]?) : Kd.R kA e w1 base (fun _ => True) v l :=
  Kd.R_mono (Kd.R_step (Kd.R_bound h) (fun k hk hlt => ho k hk.2.1 hlt)) (fun _ _ => trivial)
theorem glob_of {w w1 : World} {v : Value} (hb : Below w.heap.size w w1) (hm : w.cell? ⟨0, 0, none⟩ = some v) : w1.cell? ⟨0, 0, none⟩ = some v := by
  have h0 : 0 < w.heap.size := by
    by_cases h0 : 0 < w.heap.size
    · exact h0
    · have : w.heap[0]? = none := Array.getElem?_eq_none (by omega)
      simp [World.cell?, this] at hm
  have hb := hb.block 0 h0
  rw [← hm]
  simp [World.cell?, hb]

/-- What read hands back. -/
def HalfPost (s : ByteArray) (w : World) (r : Option (List Aff × Num × List Aff × List UInt8)) (e : Ending) (w' : World) : Prop :=
  Below w.heap.size w w' ∧ match r with
    | none => ∃ (u v : Value) (m : Num) (j : Int), u.oneCell' = true ∧ v.oneCell' = true ∧ e = .returned (.tuple #[halfV u v m, .int .i64 j, .bool false])
    | some (a, m, b, q) => ∃ u v : Value, e = .returned (.tuple #[halfV u v m, .int .i64 ((s.size - q.length : Nat) : Int), .bool true]) ∧ Kd.R kA 28 w' w.heap.size (fun _ => True) u a ∧ Kd.R kA 28 w' w.heap.size (fun _ => True) v b
theorem HalfPost.no {s : ByteArray} {w w' : World} {r : Option (List Aff × Num × List Aff × List UInt8)} {u v : Value} {m : Num} {j : Int} (hr : r = none) (hu : u.oneCell' = true) (hv : v.oneCell' = true) (hb : Below w.heap.size w w') : HalfPost s w r (.returned (.tuple #[halfV u v m, .int .i64 j, .bool false])) w' := by
  subst hr
  exact ⟨hb, u, v, m, j, hu, hv, rfl⟩

/-- The half's block in a walk, and what its two affixes hold. -/
structure HW (w wc : World) (u v : Value) (m : Num) (a b : List Aff) : Prop where
  b0 : wc.heap[w.heap.size]? = some (.cells (halfCells u v m) 52 (0, 0))
  bel : Below w.heap.size w wc
  ru : Kd.R kA 28 wc (w.heap.size + 1) (fun _ => True) u a
  rv : Kd.R kA 28 wc (w.heap.size + 1) (fun _ => True) v b
abbrev zNum : Num := ⟨0, 0, 0, 0, 0, 0, 0, [], [], 0, false⟩
section
variable {w wc : World} {u v : Value} {m : Num} {a b : List Aff}
theorem HW.start (w : World) : HW w (w.alloc (.cells (halfCells (.slice none 0 0) (.slice none 0 0) zNum) 52)) (.slice none 0 0) (.slice none 0 0) zNum [] [] :=
  ⟨blk_new w _, below_alloc (Below.refl _ _) _, Kd.R_nil _ _ _ _ _, Kd.R_nil _ _ _ _ _⟩
theorem HW.below (h : HW w wc u v m a b) {w2 : World} (hb : Below wc.heap.size wc w2) : HW w w2 u v m a b :=
  ⟨blk_below h.b0 hb, below_step h.bel hb, Kd.R_below h.ru hb, Kd.R_below h.rv hb⟩
theorem HW.only (h : HW w wc u v m a b) {w2 : World} {m2 : Num} {u2 v2 : Value} {a2 b2 : List Aff} (ho : Only w.heap.size wc w2) (hb : w2.heap[w.heap.size]? = some (.cells (halfCells u2 v2 m2) 52 (0, 0)))
    (hu : Kd.R kA 28 wc (w.heap.size + 1) (fun _ => True) u2 a2) (hv : Kd.R kA 28 wc (w.heap.size + 1) (fun _ => True) v2 b2) : HW w w2 u2 v2 m2 a2 b2 :=
  ⟨hb, ho.below h.bel (Nat.le_refl _), R_only hu (fun k hk _ => ho.block k (by omega)), R_only hv (fun k hk _ => ho.block k (by omega))⟩
theorem HW.lt (h : HW w wc u v m a b) : w.heap.size < wc.heap.size := blk_lt h.b0
theorem HW.pre (h : HW w wc u v m a b) (u2 : Value) (a2 : List Aff) (hu : Kd.R kA 28 wc (w.heap.size + 1) (fun _ => True) u2 a2) : HW w (wc.setCell ⟨w.heap.size, 0, none⟩ u2) u2 v m a2 b :=
  h.only (Only.set _ _ _ _) (by rw [blk_set h.b0 0]; rfl) hu h.rv
theorem HW.suf (h : HW w wc u v m a b) (v2 : Value) (b2 : List Aff) (hv : Kd.R kA 28 wc (w.heap.size + 1) (fun _ => True) v2 b2) : HW w (wc.setCell ⟨w.heap.size, 1, none⟩ v2) u v2 m a b2 :=
  h.only (Only.set _ _ _ _) (by rw [blk_set h.b0 1]; rfl) h.ru hv
theorem HW.one (h : HW w wc u v m a b) : ∀ q ∈ (halfCells u v m).toList, q.oneCell' = true := one_half (R_one h.ru) (R_one h.rv) m
theorem HW.yes {s : ByteArray} {q : List UInt8} {r : Option (List Aff × Num × List Aff × List UInt8)} (h : HW w wc u v m a b) (hr : r = some (a, m, b, q)) : HalfPost s w r (.returned (.tuple #[halfV u v m, .int .i64 ((s.size - q.length : Nat) : Int), .bool true])) wc := by
  subst hr
  exact ⟨h.bel, u, v, rfl, Kd.R_lower h.ru (by omega), Kd.R_lower h.rv (by omega)⟩
end

def AffYes (w : World) (a : List Aff) (k : Nat) (e : Ending) (w' : World) : Prop :=
  Below w.heap.size w w' ∧ ∃ A c, e = .returned (.tuple #[.slice A a.length c, .int .i64 k, .bool true]) ∧ Kd.R kA 28 w' w.heap.size (fun _ => True) (.slice A a.length c) a
theorem affix_yes (s : ByteArray) (i : Nat) (w : World) (hs : s.size ≤ 1048576) (hi : i ≤ s.size) {a : List Aff} {r : List UInt8} (h : affS (s.data.toList.drop i) [] = some (a, r)) :
    Calls Tryd.prog 24 #[.string s, .int .i64 i] w (AffYes w a (s.size - r.length)) := by
  have h0 := affix_any s i w hs hi
  rw [h] at h0
  refine h0.mono ?_
  rintro e w1 ⟨hb, u, rfl, hu⟩
  obtain ⟨A, c, rfl⟩ := Kd.R_slice hu
  exact ⟨hb, A, c, rfl, hu⟩
def NumYes (w : World) (m2 : Num) (k : Nat) (e : Ending) (w' : World) : Prop :=
  Below w.heap.size w w' ∧ e = .returned (.tuple #[numV m2, .int .i64 k, .bool true])
theorem number_yes (s : ByteArray) (i : Nat) (w : World) (m : Int) (hs : s.size ≤ 1048576) (hi : i ≤ s.size) (hm : w.cell? ⟨0, 0, none⟩ = some (.int .i64 m)) {m2 : Num} {r : List UInt8} (h : numS (s.data.toList.drop i) = some (m2, r)) :
    Calls Tryd.prog 25 #[.string s, .int .i64 i] w (NumYes w m2 (s.size - r.length)) := by
  have h0 := number_any s i w m hs hi hm
  rw [h] at h0
  exact h0

set_option maxHeartbeats 8000000 in
set_option maxRecDepth 100000 in
theorem read_any (s : ByteArray) (i : Nat) (w : World) (m : Int) (hs : s.size ≤ 1048576) (hi : i ≤ s.size) (hm : w.cell? ⟨0, 0, none⟩ = some (.int .i64 m)) :
    Calls Tryd.prog 15 #[.string s, .int .i64 i] w (HalfPost s w (halfS (s.data.toList.drop i))) := by
  have HM := Lib.hid hm
  clear hm
  have HB0 : Below w.heap.size w w := Below.refl _ _
  cases ha : affS (s.data.toList.drop i) [] with
  | none =>
    have hR := Lib.hid (show halfS (s.data.toList.drop i) = none by unfold halfS; rw [ha])
    have HA : Hid (∀ w0, Calls Tryd.prog 24 #[.string s, .int .i64 i] w0 (AffPost s w0 none)) := Lib.hid fun w0 => by have := affix_any s i w0 hs hi; rw [ha] at this; exact this
    clear ha
    go_enter Tryd.func15, Tryd.ntmps15
    go_wp2_with (first
      | (go_at_call_of 24 (i); refine (HA.out _).mono ?_; rintro e w1 ⟨hb, j, rfl⟩; have hH1 := Aside0.mk ((HW.start w).below hb); have c0 := (blk_cell hH1.out.b0 0).trans (rfl : _ = some (Value.slice none 0 0)); have f0 := blk_frozen hH1.out.b0 0; have hH2 := Aside0.mk (hH1.out.pre (.slice none 0 0) [] (Kd.R_nil _ _ _ _ _)); clear hb)
      | ((with_reducible refine gate_ (.load 52 (.tmp 4)) rfl ?_); refine wpList_load_row rfl 52 (.tmp 4) rfl (w.heap.size) rfl 52 _ (0, 0) _ hH2.out.b0 Tryd.underlying52 rfl sizeHalf ?_)
      | ((with_reducible refine gate_ (.store 52 (.tmp 4) (.tmp 17)) rfl ?_); refine store_blk rfl rfl 52 (.tmp 4) (.tmp 17) rfl (.agg (halfCells (.slice none 0 0) (.slice none 0 0) zNum)) (halfCells (.slice none 0 0) (.slice none 0 0) zNum).toList rfl rfl rfl sizeHalf hH2.out.one hH2.out.b0 (Nat.le_refl 19) (halfCells (.slice none 0 0) (.slice none 0 0) zNum) (by simp) ?_; intro w9 hb9 ho9; have HB9 := Aside0.mk hb9; have HO9 := Aside0.mk ho9; clear hb9 ho9))
    refine bodyPost_ret (v := .tuple #[halfV (.slice none 0 0) (.slice none 0 0) zNum, .int .i64 j, .bool false]) ?_ rfl (HalfPost.no hR.out (R_one hH2.out.ru) (R_one hH2.out.rv) (HO9.out.below hH2.out.bel (Nat.le_refl _)))
    refine (results_ctt (p := 4) (u := 5) (v := 6) (g := w.heap.size) (t := 52) (cs := halfCells (.slice none 0 0) (.slice none 0 0) zNum) (fr := (0, 0)) ?_ _ _ _ ?_ HB9.out Tryd.underlying52 rfl sizeHalf) <;> rfl
  | some x =>
    obtain ⟨a, r1⟩ := x
    obtain ⟨hr1, hi1⟩ := suf_drop (affS_suf _ _ _ _ _ (Nat.le_refl _) ha) (by rw [data_length]; exact hi)
    rw [data_length] at hr1 hi1
    have HA : Hid (∀ w0, Calls Tryd.prog 24 #[.string s, .int .i64 i] w0 (AffYes w0 a (s.size - r1.length))) := Lib.hid fun w0 => affix_yes s i w0 hs hi ha
    obtain ⟨k1, hk1⟩ : ∃ k, k = s.size - r1.length := ⟨_, rfl⟩
    rw [← hk1] at HA
    rw [← hk1] at hr1
    have hk1s : k1 ≤ s.size := by omega
    replace hk1 := Lib.hid hk1
    clear hi1
    cases hn : numS (s.data.toList.drop k1) with
    | none =>
      have hR := Lib.hid (show halfS (s.data.toList.drop i) = none by unfold halfS; rw [ha]; simp only []; rw [hr1, hn])
      have HN : Hid (∀ w0 : World, w0.cell? ⟨0, 0, none⟩ = some (.int .i64 m) → Calls Tryd.prog 25 #[.string s, .int .i64 k1] w0 (NumPost s w0 none)) := Lib.hid fun w0 h0 => by have := number_any s k1 w0 m hs hk1s h0; rw [hn] at this; exact this
      clear ha hn hr1
      go_enter Tryd.func15, Tryd.ntmps15
      go_wp2_with (first
        | (go_at_call_of 24 (i); refine (HA.out _).mono ?_; rintro e w1 ⟨hb, A, cA, rfl, hu⟩; have hH1 := Aside0.mk ((HW.start w).below hb); have hu1 : Kd.R kA 28 w1 (w.heap.size + 1) (fun _ => True) (.slice A a.length cA) a := Kd.R_lower hu (by simp); have c0 := (blk_cell hH1.out.b0 0).trans (rfl : _ = some (Value.slice none 0 0)); have f0 := blk_frozen hH1.out.b0 0; have hH2 := Aside0.mk (hH1.out.pre _ a hu1); clear hb hu hu1)
        | (go_at_call 25; refine (HN.out _ (glob_of hH2.out.bel HM.out)).mono ?_; rintro e w2 ⟨hb, m2, j, rfl⟩; have hH3 := Aside0.mk (hH2.out.below hb); clear hb)
        | ((with_reducible refine gate_ (.store 26 (.tmp 26) (.tmp 23)) rfl ?_); refine store_blk rfl rfl 26 (.tmp 26) (.tmp 23) rfl (numV m2) (numCells m2).toList rfl rfl rfl sizePat (one_num _) hH3.out.b0 (Nat.le_refl 19) (halfCells (.slice A a.length cA) (.slice none 0 0) m2) (by simp) ?_; intro w3 hb3 ho3; have hH4 := Aside0.mk (hH3.out.only ho3 hb3 hH3.out.ru hH3.out.rv); clear hb3 ho3)
        | ((with_reducible refine gate_ (.load 52 (.tmp 4)) rfl ?_); refine wpList_load_row rfl 52 (.tmp 4) rfl (w.heap.size) rfl 52 _ (0, 0) _ hH4.out.b0 Tryd.underlying52 rfl sizeHalf ?_)
        | ((with_reducible refine gate_ (.store 52 (.tmp 4) (.tmp 29)) rfl ?_); refine store_blk rfl rfl 52 (.tmp 4) (.tmp 29) rfl (.agg (halfCells (.slice A a.length cA) (.slice none 0 0) m2)) (halfCells (.slice A a.length cA) (.slice none 0 0) m2).toList rfl rfl rfl sizeHalf hH4.out.one hH4.out.b0 (Nat.le_refl 19) (halfCells (.slice A a.length cA) (.slice none 0 0) m2) (by simp) ?_; intro w9 hb9 ho9; have HB9 := Aside0.mk hb9; have HO9 := Aside0.mk ho9; clear hb9 ho9))
      refine bodyPost_ret (v := .tuple #[halfV (.slice A a.length cA) (.slice none 0 0) m2, .int .i64 j, .bool false]) ?_ rfl (HalfPost.no hR.out (R_one hH4.out.ru) (R_one hH4.out.rv) (HO9.out.below hH4.out.bel (Nat.le_refl _)))
      refine (results_ctt (p := 4) (u := 5) (v := 6) (g := w.heap.size) (t := 52) (cs := halfCells (.slice A a.length cA) (.slice none 0 0) m2) (fr := (0, 0)) ?_ _ _ _ ?_ HB9.out Tryd.underlying52 rfl sizeHalf) <;> rfl
    | some x =>
      obtain ⟨m2, r2⟩ := x
      obtain ⟨hr2, hi2⟩ := suf_drop (numS_suf hn) (by rw [data_length]; exact hk1s)
      rw [data_length] at hr2 hi2
      have HN : Hid (∀ w0 : World, w0.cell? ⟨0, 0, none⟩ = some (.int .i64 m) → Calls Tryd.prog 25 #[.string s, .int .i64 k1] w0 (NumYes w0 m2 (s.size - r2.length))) := Lib.hid fun w0 h0 => number_yes s k1 w0 m hs hk1s h0 hn
      obtain ⟨k2, hk2⟩ : ∃ k, k = s.size - r2.length := ⟨_, rfl⟩
      rw [← hk2] at HN
      rw [← hk2] at hr2
      have hk2s : k2 ≤ s.size := by omega
      replace hk2 := Lib.hid hk2
      clear hi2
      cases hc : affS (s.data.toList.drop k2) [] with
      | none =>
        have hR := Lib.hid (show halfS (s.data.toList.drop i) = none by unfold halfS; rw [ha]; simp only []; rw [hr1, hn]; simp only []; rw [hr2, hc])
        have HA2 : Hid (∀ w0, Calls Tryd.prog 24 #[.string s, .int .i64 k2] w0 (AffPost s w0 none)) := Lib.hid fun w0 => by have := affix_any s k2 w0 hs hk2s; rw [hc] at this; exact this
        clear ha hn hr1 hr2 hc
        go_enter Tryd.func15, Tryd.ntmps15
        go_wp2_with (first
          | (go_at_call_of 24 (i); refine (HA.out _).mono ?_; rintro e w1 ⟨hb, A, cA, rfl, hu⟩; have hH1 := Aside0.mk ((HW.start w).below hb); have hu1 : Kd.R kA 28 w1 (w.heap.size + 1) (fun _ => True) (.slice A a.length cA) a := Kd.R_lower hu (by simp); have c0 := (blk_cell hH1.out.b0 0).trans (rfl : _ = some (Value.slice none 0 0)); have f0 := blk_frozen hH1.out.b0 0; have hH2 := Aside0.mk (hH1.out.pre _ a hu1); clear hb hu hu1)
          | (go_at_call 25; refine (HN.out _ (glob_of hH2.out.bel HM.out)).mono ?_; rintro e w2 ⟨hb, rfl⟩; have hH3 := Aside0.mk (hH2.out.below hb); clear hb)
          | ((with_reducible refine gate_ (.store 26 (.tmp 26) (.tmp 23)) rfl ?_); refine store_blk rfl rfl 26 (.tmp 26) (.tmp 23) rfl (numV m2) (numCells m2).toList rfl rfl rfl sizePat (one_num _) hH3.out.b0 (Nat.le_refl 19) (halfCells (.slice A a.length cA) (.slice none 0 0) m2) (by simp) ?_; intro w3 hb3 ho3; have hH4 := Aside0.mk (hH3.out.only ho3 hb3 hH3.out.ru hH3.out.rv); clear hb3 ho3)
          | (go_at_call_of 24 (k2); refine (HA2.out _).mono ?_; rintro e w4 ⟨hb, j, rfl⟩; have hH5 := Aside0.mk (hH4.out.below hb); have c1 := (blk_cell hH5.out.b0 1).trans (rfl : _ = some (Value.slice none 0 0)); have f1 := blk_frozen hH5.out.b0 1; have hH6 := Aside0.mk (hH5.out.suf (.slice none 0 0) [] (Kd.R_nil _ _ _ _ _)); clear hb)
          | ((with_reducible refine gate_ (.load 52 (.tmp 4)) rfl ?_); refine wpList_load_row rfl 52 (.tmp 4) rfl (w.heap.size) rfl 52 _ (0, 0) _ hH6.out.b0 Tryd.underlying52 rfl sizeHalf ?_)
          | ((with_reducible refine gate_ (.store 52 (.tmp 4) (.tmp 41)) rfl ?_); refine store_blk rfl rfl 52 (.tmp 4) (.tmp 41) rfl (.agg (halfCells (.slice A a.length cA) (.slice none 0 0) m2)) (halfCells (.slice A a.length cA) (.slice none 0 0) m2).toList rfl rfl rfl sizeHalf hH6.out.one hH6.out.b0 (Nat.le_refl 19) (halfCells (.slice A a.length cA) (.slice none 0 0) m2) (by simp) ?_; intro w9 hb9 ho9; have HB9 := Aside0.mk hb9; have HO9 := Aside0.mk ho9; clear hb9 ho9))
        refine bodyPost_ret (v := .tuple #[halfV (.slice A a.length cA) (.slice none 0 0) m2, .int .i64 j, .bool false]) ?_ rfl (HalfPost.no hR.out (R_one hH6.out.ru) (R_one hH6.out.rv) (HO9.out.below hH6.out.bel (Nat.le_refl _)))
        refine (results_ctt (p := 4) (u := 5) (v := 6) (g := w.heap.size) (t := 52) (cs := halfCells (.slice A a.length cA) (.slice none 0 0) m2) (fr := (0, 0)) ?_ _ _ _ ?_ HB9.out Tryd.underlying52 rfl sizeHalf) <;> rfl
      | some x =>
        obtain ⟨b, r3⟩ := x
        obtain ⟨hr3, hi3⟩ := suf_drop (affS_suf _ _ _ _ _ (Nat.le_refl _) hc) (by rw [data_length]; exact hk2s)
        rw [data_length] at hr3 hi3
        have HA2 : Hid (∀ w0, Calls Tryd.prog 24 #[.string s, .int .i64 k2] w0 (AffYes w0 b (s.size - r3.length))) := Lib.hid fun w0 => affix_yes s k2 w0 hs hk2s hc
        obtain ⟨k3, hk3⟩ : ∃ k, k = s.size - r3.length := ⟨_, rfl⟩
        rw [← hk3] at HA2
        rw [← hk3] at hr3
        have hk3s : k3 ≤ s.size := by omega
        replace hk3 := Lib.hid hk3
        clear hi3
        have hS : halfS (s.data.toList.drop i) = if endS r3 then some (a, m2, b, r3) else none := by
          unfold halfS; rw [ha]; simp only []; rw [hr1, hn]; simp only []; rw [hr2, hc]
        clear ha hn hr1 hr2 hc
        by_cases hlt : k3 < s.size
        · obtain ⟨c, hc, hx⟩ := byte_at s k3 hlt
          by_cases h59 : (c.toNat : Int) = 59
          · have b59 : ((c.toNat : Int) == 59) = true := beq_iff_eq.mpr h59
            have hR := Lib.hid (hS.trans (if_pos (by rw [hr3, drop_at hc, u8_eq (n := 59) h59 (by decide)]; rfl)))
            have hne : ¬ ((k3 : Int) = (s.size : Int)) := by omega
            clear hS hc h59
            go_enter Tryd.func15, Tryd.ntmps15
            go_upto_region 10 with (first
              | (go_at_call_of 24 (i); refine (HA.out _).mono ?_; rintro e w1 ⟨hb, A, cA, rfl, hu⟩; have hH1 := Aside0.mk ((HW.start w).below hb); have hu1 : Kd.R kA 28 w1 (w.heap.size + 1) (fun _ => True) (.slice A a.length cA) a := Kd.R_lower hu (by simp); have c0 := (blk_cell hH1.out.b0 0).trans (rfl : _ = some (Value.slice none 0 0)); have f0 := blk_frozen hH1.out.b0 0; have hH2 := Aside0.mk (hH1.out.pre _ a hu1); clear hb hu hu1)
              | (go_at_call 25; refine (HN.out _ (glob_of hH2.out.bel HM.out)).mono ?_; rintro e w2 ⟨hb, rfl⟩; have hH3 := Aside0.mk (hH2.out.below hb); clear hb)
              | ((with_reducible refine gate_ (.store 26 (.tmp 26) (.tmp 23)) rfl ?_); refine store_blk rfl rfl 26 (.tmp 26) (.tmp 23) rfl (numV m2) (numCells m2).toList rfl rfl rfl sizePat (one_num _) hH3.out.b0 (Nat.le_refl 19) (halfCells (.slice A a.length cA) (.slice none 0 0) m2) (by simp) ?_; intro w3 hb3 ho3; have hH4 := Aside0.mk (hH3.out.only ho3 hb3 hH3.out.ru hH3.out.rv); clear hb3 ho3)
              | (go_at_call_of 24 (k2); refine (HA2.out _).mono ?_; rintro e w4 ⟨hb, B, cB, rfl, hv⟩; have hH5 := Aside0.mk (hH4.out.below hb); have hv1 : Kd.R kA 28 w4 (w.heap.size + 1) (fun _ => True) (.slice B b.length cB) b := Kd.R_lower hv (by have := hH4.out.lt; omega); have c1 := (blk_cell hH5.out.b0 1).trans (rfl : _ = some (Value.slice none 0 0)); have f1 := blk_frozen hH5.out.b0 1; have hH6 := Aside0.mk (hH5.out.suf _ b hv1); clear hb hv hv1))
            clear c0 f0 c1 f1
            obtain ⟨w6, hw6⟩ : ∃ w6, w6 = w4.setCell ⟨w.heap.size, 1, none⟩ (.slice B b.length cB) := ⟨_, rfl⟩
            rw [← hw6] at hH6 ⊢
            clear hw6 hH5 hH4 hH3 hH2 hH1
            refine wp_region_any (by kernel_rfl) ?_
            show wpAny _ _ _ _ _ _ _ w6.drew
            refine wpAny_take (i := 1) (v := .int .i64 k3) rfl (by kernel_rfl) (by kernel_rfl) (by kernel_rfl) (fun _ _ _ h => h) (.inl ⟨want_none rfl _, fun w => by go_simp⟩) ?_
            refine wpAny_take (i := 2) (v := .int .i64 k3) rfl (by kernel_rfl) (by kernel_rfl) (by kernel_rfl) (fun _ _ _ h => h) (.inl ⟨want_none rfl _, fun w => by go_simp⟩) ?_
            refine wpAny_take (i := 3) (v := .string s) rfl (by kernel_rfl) (by kernel_rfl) (by kernel_rfl) (fun _ _ _ h => h) (.inl ⟨want_none rfl _, fun w => by go_simp⟩) ?_
            refine wpAny_take (i := 4) (v := .int .i64 s.size) rfl (by kernel_rfl) (by kernel_rfl) (by kernel_rfl) (fun _ _ _ h => h) (.inl ⟨want_none rfl _, fun w => by go_simp⟩) ?_
            refine wpAny_take (i := 5) (v := .bool false) rfl (by kernel_rfl) (by kernel_rfl) (by kernel_rfl) (fun _ _ _ h => h) (.inl ⟨want_none rfl _, fun w => by go_simp⟩) ?_
            refine wpAny_take (i := 6) (v := .bool false) rfl (by kernel_rfl) (by kernel_rfl) (by kernel_rfl) (fun _ _ _ h => h) (.inl ⟨want_none rfl _, fun w => by go_simp⟩) ?_
            refine wpAny_take (i := 7) (v := .string s) rfl (by kernel_rfl) (by kernel_rfl) (by kernel_rfl) (fun _ _ _ h => h) (.inl ⟨by kernel_rfl, fun w => by go_simp⟩) ?_
            refine wpAny_take (i := 8) (v := .int .i64 k3) rfl (by kernel_rfl) (by kernel_rfl) (by kernel_rfl) (fun _ _ _ h => h) (.inl ⟨by kernel_rfl, fun w => by go_simp⟩) ?_
            refine wpAny_take (i := 9) (v := .int .u8 c.toNat) rfl (by kernel_rfl) (by kernel_rfl) (by kernel_rfl) (fun _ _ _ h => h) (.inl ⟨by kernel_rfl, fun w => by go_simp⟩) ?_
            refine wpAny_take (i := 10) (v := .bool true) rfl (by kernel_rfl) (by kernel_rfl) (by kernel_rfl) (fun _ _ _ h => h) (.inl ⟨by kernel_rfl, fun w => by go_simp⟩) ?_
            refine wpAny_take (i := 11) (v := .bool true) rfl (by kernel_rfl) (by kernel_rfl) (by kernel_rfl) (fun _ _ _ h => h) (.inl ⟨want_none rfl _, fun w => by go_simp⟩) ?_
            refine read_tail (g := w.heap.size) (cs := halfCells (.slice A a.length cA) (.slice B b.length cB) m2) (k := .int .i64 k3) (r := .bool true) rfl rfl rfl rfl rfl rfl rfl rfl rfl rfl rfl rfl rfl rfl rfl rfl (by kernel_rfl) (by kernel_rfl) (by kernel_rfl) (by kernel_rfl) (by kernel_rfl) (by go_simp) (by go_simp) (by go_simp) (by simp [Act.put]) hH6.out.b0 rfl hH6.out.one ?_
            intro a7 w7 e4 e5 e6 ed hst hon
            go_wp2
            refine bodyPost_ret (v := .tuple #[halfV (.slice A a.length cA) (.slice B b.length cB) m2, .int .i64 k3, .bool true]) ?_ ed ?_
            · rw [← e5, ← e6]; exact results_ctt (p := 4) (u := 5) (v := 6) (g := w.heap.size) (t := 52) (cs := halfCells (.slice A a.length cA) (.slice B b.length cB) m2) (fr := (0, 0)) rfl _ _ _ e4 hst Tryd.underlying52 rfl sizeHalf
            · rw [hk3.out]; exact HW.yes (hH6.out.only (w2 := w7) (ho := ⟨hon.os, hon.tape, hon.output, hon.size, hon.block⟩) hst hH6.out.ru hH6.out.rv) hR.out
          · have b59 : ((c.toNat : Int) == 59) = false := beq_eq_false_iff_ne.mpr h59
            have n59 : c ≠ 59 := u8_ne (n := 59) h59 (by decide)
            have hR := Lib.hid (hS.trans (if_neg (by rw [hr3, drop_at hc]; unfold endS; simp [n59])))
            clear n59
            have hne : ¬ ((k3 : Int) = (s.size : Int)) := by omega
            clear hS hc h59
            go_enter Tryd.func15, Tryd.ntmps15
            go_upto_region 10 with (first
              | (go_at_call_of 24 (i); refine (HA.out _).mono ?_; rintro e w1 ⟨hb, A, cA, rfl, hu⟩; have hH1 := Aside0.mk ((HW.start w).below hb); have hu1 : Kd.R kA 28 w1 (w.heap.size + 1) (fun _ => True) (.slice A a.length cA) a := Kd.R_lower hu (by simp); have c0 := (blk_cell hH1.out.b0 0).trans (rfl : _ = some (Value.slice none 0 0)); have f0 := blk_frozen hH1.out.b0 0; have hH2 := Aside0.mk (hH1.out.pre _ a hu1); clear hb hu hu1)
              | (go_at_call 25; refine (HN.out _ (glob_of hH2.out.bel HM.out)).mono ?_; rintro e w2 ⟨hb, rfl⟩; have hH3 := Aside0.mk (hH2.out.below hb); clear hb)
              | ((with_reducible refine gate_ (.store 26 (.tmp 26) (.tmp 23)) rfl ?_); refine store_blk rfl rfl 26 (.tmp 26) (.tmp 23) rfl (numV m2) (numCells m2).toList rfl rfl rfl sizePat (one_num _) hH3.out.b0 (Nat.le_refl 19) (halfCells (.slice A a.length cA) (.slice none 0 0) m2) (by simp) ?_; intro w3 hb3 ho3; have hH4 := Aside0.mk (hH3.out.only ho3 hb3 hH3.out.ru hH3.out.rv); clear hb3 ho3)
              | (go_at_call_of 24 (k2); refine (HA2.out _).mono ?_; rintro e w4 ⟨hb, B, cB, rfl, hv⟩; have hH5 := Aside0.mk (hH4.out.below hb); have hv1 : Kd.R kA 28 w4 (w.heap.size + 1) (fun _ => True) (.slice B b.length cB) b := Kd.R_lower hv (by have := hH4.out.lt; omega); have c1 := (blk_cell hH5.out.b0 1).trans (rfl : _ = some (Value.slice none 0 0)); have f1 := blk_frozen hH5.out.b0 1; have hH6 := Aside0.mk (hH5.out.suf _ b hv1); clear hb hv hv1))
            clear c0 f0 c1 f1
            obtain ⟨w6, hw6⟩ : ∃ w6, w6 = w4.setCell ⟨w.heap.size, 1, none⟩ (.slice B b.length cB) := ⟨_, rfl⟩
            rw [← hw6] at hH6 ⊢
            clear hw6 hH5 hH4 hH3 hH2 hH1
            refine wp_region_any (by kernel_rfl) ?_
            show wpAny _ _ _ _ _ _ _ w6.drew
            refine wpAny_take (i := 1) (v := .int .i64 k3) rfl (by kernel_rfl) (by kernel_rfl) (by kernel_rfl) (fun _ _ _ h => h) (.inl ⟨want_none rfl _, fun w => by go_simp⟩) ?_
            refine wpAny_take (i := 2) (v := .int .i64 k3) rfl (by kernel_rfl) (by kernel_rfl) (by kernel_rfl) (fun _ _ _ h => h) (.inl ⟨want_none rfl _, fun w => by go_simp⟩) ?_
            refine wpAny_take (i := 3) (v := .string s) rfl (by kernel_rfl) (by kernel_rfl) (by kernel_rfl) (fun _ _ _ h => h) (.inl ⟨want_none rfl _, fun w => by go_simp⟩) ?_
            refine wpAny_take (i := 4) (v := .int .i64 s.size) rfl (by kernel_rfl) (by kernel_rfl) (by kernel_rfl) (fun _ _ _ h => h) (.inl ⟨want_none rfl _, fun w => by go_simp⟩) ?_
            refine wpAny_take (i := 5) (v := .bool false) rfl (by kernel_rfl) (by kernel_rfl) (by kernel_rfl) (fun _ _ _ h => h) (.inl ⟨want_none rfl _, fun w => by go_simp⟩) ?_
            refine wpAny_take (i := 6) (v := .bool false) rfl (by kernel_rfl) (by kernel_rfl) (by kernel_rfl) (fun _ _ _ h => h) (.inl ⟨want_none rfl _, fun w => by go_simp⟩) ?_
            refine wpAny_take (i := 7) (v := .string s) rfl (by kernel_rfl) (by kernel_rfl) (by kernel_rfl) (fun _ _ _ h => h) (.inl ⟨by kernel_rfl, fun w => by go_simp⟩) ?_
            refine wpAny_take (i := 8) (v := .int .i64 k3) rfl (by kernel_rfl) (by kernel_rfl) (by kernel_rfl) (fun _ _ _ h => h) (.inl ⟨by kernel_rfl, fun w => by go_simp⟩) ?_
            refine wpAny_take (i := 9) (v := .int .u8 c.toNat) rfl (by kernel_rfl) (by kernel_rfl) (by kernel_rfl) (fun _ _ _ h => h) (.inl ⟨by kernel_rfl, fun w => by go_simp⟩) ?_
            refine wpAny_take (i := 10) (v := .bool false) rfl (by kernel_rfl) (by kernel_rfl) (by kernel_rfl) (fun _ _ _ h => h) (.inl ⟨by kernel_rfl, fun w => by go_simp⟩) ?_
            refine wpAny_take (i := 11) (v := .bool false) rfl (by kernel_rfl) (by kernel_rfl) (by kernel_rfl) (fun _ _ _ h => h) (.inl ⟨want_none rfl _, fun w => by go_simp⟩) ?_
            refine read_tail (g := w.heap.size) (cs := halfCells (.slice A a.length cA) (.slice B b.length cB) m2) (k := .int .i64 k3) (r := .bool false) rfl rfl rfl rfl rfl rfl rfl rfl rfl rfl rfl rfl rfl rfl rfl rfl (by kernel_rfl) (by kernel_rfl) (by kernel_rfl) (by kernel_rfl) (by kernel_rfl) (by go_simp) (by go_simp) (by go_simp) (by simp [Act.put]) hH6.out.b0 rfl hH6.out.one ?_
            intro a7 w7 e4 e5 e6 ed hst hon
            go_wp2
            refine bodyPost_ret (v := .tuple #[halfV (.slice A a.length cA) (.slice B b.length cB) m2, .int .i64 k3, .bool false]) ?_ ed ?_
            · rw [← e5, ← e6]; exact results_ctt (p := 4) (u := 5) (v := 6) (g := w.heap.size) (t := 52) (cs := halfCells (.slice A a.length cA) (.slice B b.length cB) m2) (fr := (0, 0)) rfl _ _ _ e4 hst Tryd.underlying52 rfl sizeHalf
            · exact HalfPost.no hR.out rfl rfl (hH6.out.only (w2 := w7) (ho := ⟨hon.os, hon.tape, hon.output, hon.size, hon.block⟩) hst hH6.out.ru hH6.out.rv).bel
        · have hR := Lib.hid (hS.trans (if_pos (by rw [hr3, List.drop_eq_nil_of_le (by rw [data_length]; omega)]; rfl)))
          have hne : (k3 : Int) = (s.size : Int) := by omega
          clear hS
          go_enter Tryd.func15, Tryd.ntmps15
          go_upto_region 10 with (first
            | (go_at_call_of 24 (i); refine (HA.out _).mono ?_; rintro e w1 ⟨hb, A, cA, rfl, hu⟩; have hH1 := Aside0.mk ((HW.start w).below hb); have hu1 : Kd.R kA 28 w1 (w.heap.size + 1) (fun _ => True) (.slice A a.length cA) a := Kd.R_lower hu (by simp); have c0 := (blk_cell hH1.out.b0 0).trans (rfl : _ = some (Value.slice none 0 0)); have f0 := blk_frozen hH1.out.b0 0; have hH2 := Aside0.mk (hH1.out.pre _ a hu1); clear hb hu hu1)
            | (go_at_call 25; refine (HN.out _ (glob_of hH2.out.bel HM.out)).mono ?_; rintro e w2 ⟨hb, rfl⟩; have hH3 := Aside0.mk (hH2.out.below hb); clear hb)
            | ((with_reducible refine gate_ (.store 26 (.tmp 26) (.tmp 23)) rfl ?_); refine store_blk rfl rfl 26 (.tmp 26) (.tmp 23) rfl (numV m2) (numCells m2).toList rfl rfl rfl sizePat (one_num _) hH3.out.b0 (Nat.le_refl 19) (halfCells (.slice A a.length cA) (.slice none 0 0) m2) (by simp) ?_; intro w3 hb3 ho3; have hH4 := Aside0.mk (hH3.out.only ho3 hb3 hH3.out.ru hH3.out.rv); clear hb3 ho3)
            | (go_at_call_of 24 (k2); refine (HA2.out _).mono ?_; rintro e w4 ⟨hb, B, cB, rfl, hv⟩; have hH5 := Aside0.mk (hH4.out.below hb); have hv1 : Kd.R kA 28 w4 (w.heap.size + 1) (fun _ => True) (.slice B b.length cB) b := Kd.R_lower hv (by have := hH4.out.lt; omega); have c1 := (blk_cell hH5.out.b0 1).trans (rfl : _ = some (Value.slice none 0 0)); have f1 := blk_frozen hH5.out.b0 1; have hH6 := Aside0.mk (hH5.out.suf _ b hv1); clear hb hv hv1))
          clear c0 f0 c1 f1
          obtain ⟨w6, hw6⟩ : ∃ w6, w6 = w4.setCell ⟨w.heap.size, 1, none⟩ (.slice B b.length cB) := ⟨_, rfl⟩
          rw [← hw6] at hH6 ⊢
          clear hw6 hH5 hH4 hH3 hH2 hH1
          refine wp_region_any (by kernel_rfl) ?_
          show wpAny _ _ _ _ _ _ _ w6.drew
          refine wpAny_take (i := 1) (v := .int .i64 k3) rfl (by kernel_rfl) (by kernel_rfl) (by kernel_rfl) (fun _ _ _ h => h) (.inl ⟨want_none rfl _, fun w => by go_simp⟩) ?_
          refine wpAny_take (i := 2) (v := .int .i64 k3) rfl (by kernel_rfl) (by kernel_rfl) (by kernel_rfl) (fun _ _ _ h => h) (.inl ⟨want_none rfl _, fun w => by go_simp⟩) ?_
          refine wpAny_take (i := 3) (v := .string s) rfl (by kernel_rfl) (by kernel_rfl) (by kernel_rfl) (fun _ _ _ h => h) (.inl ⟨want_none rfl _, fun w => by go_simp⟩) ?_
          refine wpAny_take (i := 4) (v := .int .i64 s.size) rfl (by kernel_rfl) (by kernel_rfl) (by kernel_rfl) (fun _ _ _ h => h) (.inl ⟨want_none rfl _, fun w => by go_simp⟩) ?_
          refine wpAny_take (i := 5) (v := .bool true) rfl (by kernel_rfl) (by kernel_rfl) (by kernel_rfl) (fun _ _ _ h => h) (.inl ⟨want_none rfl _, fun w => by go_simp⟩) ?_
          refine wpAny_take (i := 6) (v := .bool true) rfl (by kernel_rfl) (by kernel_rfl) (by kernel_rfl) (fun _ _ _ h => h) (.inl ⟨want_none rfl _, fun w => by go_simp⟩) ?_
          refine wpAny_take (i := 7) (v := undef) rfl (by kernel_rfl) (by kernel_rfl) (by kernel_rfl) (fun _ _ _ h => h) (.inr ⟨by kernel_rfl, rfl⟩) ?_
          refine wpAny_take (i := 8) (v := undef) rfl (by kernel_rfl) (by kernel_rfl) (by kernel_rfl) (fun _ _ _ h => h) (.inr ⟨by kernel_rfl, rfl⟩) ?_
          refine wpAny_take (i := 9) (v := undef) rfl (by kernel_rfl) (by kernel_rfl) (by kernel_rfl) (fun _ _ _ h => h) (.inr ⟨by kernel_rfl, rfl⟩) ?_
          refine wpAny_take (i := 10) (v := undef) rfl (by kernel_rfl) (by kernel_rfl) (by kernel_rfl) (fun _ _ _ h => h) (.inr ⟨by kernel_rfl, rfl⟩) ?_
          refine wpAny_take (i := 11) (v := .bool true) rfl (by kernel_rfl) (by kernel_rfl) (by kernel_rfl) (fun _ _ _ h => h) (.inl ⟨want_none rfl _, fun w => by go_simp⟩) ?_
          refine read_tail (g := w.heap.size) (cs := halfCells (.slice A a.length cA) (.slice B b.length cB) m2) (k := .int .i64 k3) (r := .bool true) rfl rfl rfl rfl rfl rfl rfl rfl rfl rfl rfl rfl rfl rfl rfl rfl (by kernel_rfl) (by kernel_rfl) (by kernel_rfl) (by kernel_rfl) (by kernel_rfl) (by go_simp) (by go_simp) (by go_simp) (by simp [Act.put]) hH6.out.b0 rfl hH6.out.one ?_
          intro a7 w7 e4 e5 e6 ed hst hon
          go_wp2
          refine bodyPost_ret (v := .tuple #[halfV (.slice A a.length cA) (.slice B b.length cB) m2, .int .i64 k3, .bool true]) ?_ ed ?_
          · rw [← e5, ← e6]; exact results_ctt (p := 4) (u := 5) (v := 6) (g := w.heap.size) (t := 52) (cs := halfCells (.slice A a.length cA) (.slice B b.length cB) m2) (fr := (0, 0)) rfl _ _ _ e4 hst Tryd.underlying52 rfl sizeHalf
          · rw [hk3.out]; exact HW.yes (hH6.out.only (w2 := w7) (ho := ⟨hon.os, hon.tape, hon.output, hon.size, hon.block⟩) hst hH6.out.ru hH6.out.rv) hR.out
end Go.Proofs.YtjpdakepfmepnaaDoor

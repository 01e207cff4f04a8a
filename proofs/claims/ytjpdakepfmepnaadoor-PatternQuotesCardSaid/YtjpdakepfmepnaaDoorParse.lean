/- The walk of pattern.Parse. (Printed by gen_parse.py.) -/
import Derived.Test.YtjpdakepfmepnaaDoorRead
import Derived.Test.YtjpdakepfmepnaaDoorCheck
import Derived.Test.YtjpdakepfmepnaaDoorPair
import Derived.Deep.MidRow
namespace Go.Proofs.YtjpdakepfmepnaaDoor
open Go.RowKit Go.Proofs.YtjpdakepfmepnaaDoorW.PrintWords Pat
set_option linter.unusedVariables false
set_option linter.unusedSimpArgs false

abbrev zSl : Sl := ⟨none, 0, 0⟩
abbrev zP : Pat := ⟨[], [], false, [], [], 0, 0, 0, 0, 0, 0, 0, false, [], [], 0, false⟩
abbrev zCells : Array Value := patCells zSl zSl zSl zSl zP
theorem one_z : ∀ q ∈ zCells.toList, q.oneCell' = true := one_pat _ _ _ _ _
/-- A pattern whose four rows are the call's own. -/
structure PatOwn (w : World) (base : Nat) (s0 s1 s3 s4 : Sl) (p : Pat) : Prop where
  r0 : Kd.R kA 28 w base (fun _ => True) s0.v p.pre
  r1 : Kd.R kA 28 w base (fun _ => True) s1.v p.suf
  r3 : Kd.R kA 28 w base (fun _ => True) s3.v p.npre
  r4 : Kd.R kA 28 w base (fun _ => True) s4.v p.nsuf
theorem PatOwn.reads {w : World} {base : Nat} {s0 s1 s3 s4 : Sl} {p : Pat} (h : PatOwn w base s0 s1 s3 s4 p) : PatReads w s0 s1 s3 s4 p := by
  obtain ⟨a0, b0, c0⟩ := Kd.R_reads' h.r0
  obtain ⟨a1, b1, c1⟩ := Kd.R_reads' h.r1
  obtain ⟨a3, b3, c3⟩ := Kd.R_reads' h.r3
  obtain ⟨a4, b4, c4⟩ := Kd.R_reads' h.r4
  exact ⟨a0, by omega, c0, a1, by omega, c1, a3, by omega, c3, a4, by omega, c4⟩
/-- What Parse hands back. -/
def ParsePost (w : World) (x : Pat × Int) (e : Ending) (w' : World) : Prop :=
  Below w.heap.size w w' ∧ ∃ (s0 s1 s3 s4 : Sl) (j : Int), e = .returned (.tuple #[patV s0 s1 s3 s4 x.1, .int .i64 j, .int .i64 x.2]) ∧ PatOwn w' w.heap.size s0 s1 s3 s4 x.1
theorem ParsePost.no {w w' : World} {x : Pat × Int} {j e : Int} (hx : x = (Pat.zero, e)) (hb : Below w.heap.size w w') : ParsePost w x (.returned (.tuple #[.agg zCells, .int .i64 j, .int .i64 e])) w' := by
  subst hx
  exact ⟨hb, zSl, zSl, zSl, zSl, j, rfl, Kd.R_nil _ _ _ _ _, Kd.R_nil _ _ _ _ _, Kd.R_nil _ _ _ _ _, Kd.R_nil _ _ _ _ _⟩
/-- The three blocks of Parse: the result's, the half's, the pattern's. -/
structure PH (w : World) (bh : Nat) (wc : World) (hc : Array Value) : Prop where
  lt : w.heap.size < bh
  z : wc.heap[w.heap.size]? = some (.cells zCells 26 (0, 0))
  hh : wc.heap[bh]? = some (.cells hc 52 (0, 0))
  bel : Below w.heap.size w wc
structure PW (w : World) (bh bp : Nat) (wc : World) (hc pc : Array Value) : Prop where
  h : PH w bh wc hc
  lt2 : bh < bp
  hp : wc.heap[bp]? = some (.cells pc 26 (0, 0))
def okP (b0 bh bp k : Nat) : Prop := k ≠ b0 ∧ k ≠ bh ∧ k ≠ bp
abbrev Rw (w : World) (bh bp : Nat) (wc : World) (v : Value) (l : List Aff) : Prop := Kd.R kA 28 wc (w.heap.size + 1) (okP w.heap.size bh bp) v l
section
variable {w wc w2 : World} {bh bp : Nat} {hc pc hc2 pc2 : Array Value} {v : Value} {l : List Aff}
theorem PH.start {z h0 : Obj} {w3 : World} (ez : z = .cells zCells 26 (0, 0)) (hb : Below (w.alloc z).heap.size (w.alloc z) w2) (ho : Only w2.heap.size (w2.alloc h0) w3) (hh : w3.heap[w2.heap.size]? = some (.cells hc 52 (0, 0))) : PH w w2.heap.size w3 hc := by
  subst ez
  have hz := blk_below (blk_new w _) hb
  have hlt := blk_lt hz
  refine ⟨hlt, ho.blk (blk_alloc hz _) (by omega), hh, ho.below (below_alloc (below_then (below_alloc (Below.refl _ _) _) (by simp) hb) _) (by omega)⟩
theorem PH.only0 (h : PH w bh wc hc) (ho : Only w.heap.size wc w2) : Below w.heap.size w w2 := ho.below h.bel (Nat.le_refl _)
theorem PH.pat {o : Obj} (h : PH w bh wc hc) (ho : Only wc.heap.size (wc.alloc o) w2) (hp : w2.heap[wc.heap.size]? = some (.cells pc 26 (0, 0))) : PW w bh wc.heap.size w2 hc pc := by
  have h1 := blk_lt h.hh
  have h2 := h.lt
  exact ⟨⟨h.lt, ho.blk (blk_alloc h.z _) (by omega), ho.blk (blk_alloc h.hh _) (by omega), ho.below (below_alloc h.bel _) (by omega)⟩, h1, hp⟩
theorem PW.below (h : PW w bh bp wc hc pc) (hb : Below wc.heap.size wc w2) : PW w bh bp w2 hc pc :=
  ⟨⟨h.h.lt, blk_below h.h.z hb, blk_below h.h.hh hb, below_step h.h.bel hb⟩, h.lt2, blk_below h.hp hb⟩
theorem PW.half (h : PW w bh bp wc hc pc) (ho : Only bh wc w2) (hh : w2.heap[bh]? = some (.cells hc2 52 (0, 0))) : PW w bh bp w2 hc2 pc := by
  have h1 := h.h.lt
  have h2 := h.lt2
  exact ⟨⟨h1, ho.blk h.h.z (by omega), hh, ho.below h.h.bel (by omega)⟩, h2, ho.blk h.hp (by omega)⟩
theorem PW.pat (h : PW w bh bp wc hc pc) (ho : Only bp wc w2) (hp : w2.heap[bp]? = some (.cells pc2 26 (0, 0))) : PW w bh bp w2 hc pc2 := by
  have h1 := h.h.lt
  have h2 := h.lt2
  exact ⟨⟨h1, ho.blk h.h.z (by omega), ho.blk h.h.hh (by omega), ho.below h.h.bel (by omega)⟩, h2, hp⟩
theorem Rw.below (h : Rw w bh bp wc v l) (hb : Below wc.heap.size wc w2) : Rw w bh bp w2 v l := Kd.R_below h hb
theorem Rw.half (h : Rw w bh bp wc v l) (ho : Only bh wc w2) : Rw w bh bp w2 v l := Kd.R_step h (fun k hk _ => ho.block k hk.2.1)
theorem Rw.pat (h : Rw w bh bp wc v l) (ho : Only bp wc w2) : Rw w bh bp w2 v l := Kd.R_step h (fun k hk _ => ho.block k hk.2.2)
theorem Rw.res (h : Rw w bh bp wc v l) (ho : Only w.heap.size wc w2) : Rw w bh bp w2 v l := Kd.R_step h (fun k hk _ => ho.block k hk.1)
theorem Rw.first {base : Nat} (h : Kd.R kA 28 wc base (fun _ => True) v l) (hb : w.heap.size + 1 ≤ base) (h1 : wc.heap.size ≤ bh) (h2 : bh < bp) : Rw w bh bp wc v l :=
  Kd.R_lower (Kd.R_mono (Kd.R_bound h) (fun k hk => by have a := hk.2.1; have b := hk.2.2.1; exact ⟨by omega, by omega, by omega⟩)) hb
theorem Rw.second {base : Nat} (h : Kd.R kA 28 wc base (fun _ => True) v l) (hb : bp < base) (h1 : w.heap.size < bh) (h2 : bh < bp) : Rw w bh bp wc v l :=
  Kd.R_lower (Kd.R_mono (Kd.R_bound h) (fun k hk => by have a := hk.2.1; exact ⟨by omega, by omega, by omega⟩)) (by omega)
theorem Rw.start6 {z h0 o : Obj} {w3 w4 : World} {hc : Array Value} (hb : Below (w.alloc z).heap.size (w.alloc z) w2) (h : Kd.R kA 28 w2 (w.alloc z).heap.size (fun _ => True) v l) (ho : Only w2.heap.size (w2.alloc h0) w3) (hp : PH w w2.heap.size w3 hc) (ho4 : Only w3.heap.size (w3.alloc o) w4) : Rw w w2.heap.size w3.heap.size w4 v l := by
  have h1 := Rw.first (w := w) (bh := w2.heap.size) (bp := w3.heap.size) h (by simp) (Nat.le_refl _) (blk_lt hp.hh)
  have h2 := Rw.half (Rw.below h1 (below_alloc (Below.refl _ _) h0)) ho
  exact Rw.pat (Rw.below h2 (below_alloc (Below.refl _ _) o)) ho4
theorem Rw.up (h : Rw w bh bp wc v l) : Kd.R kA 28 wc (w.heap.size + 1) (fun _ => True) v l := Kd.R_mono h (fun _ _ => trivial)
theorem Rw.out (h : Rw w bh bp wc v l) : Kd.R kA 28 wc w.heap.size (fun _ => True) v l := Kd.R_lower (Kd.R_mono h (fun _ _ => trivial)) (by omega)
end
def HalfNo (w : World) (e : Ending) (w' : World) : Prop := Below w.heap.size w w' ∧ ∃ (u v : Value) (m : Num) (j : Int), u.oneCell' = true ∧ v.oneCell' = true ∧ e = .returned (.tuple #[halfV u v m, .int .i64 j, .bool false])
def HalfYes (w : World) (a b : List Aff) (m : Num) (k : Nat) (e : Ending) (w' : World) : Prop :=
  Below w.heap.size w w' ∧ ∃ A cA B cB, e = .returned (.tuple #[halfV (.slice A a.length cA) (.slice B b.length cB) m, .int .i64 k, .bool true]) ∧ Kd.R kA 28 w' w.heap.size (fun _ => True) (.slice A a.length cA) a ∧ Kd.R kA 28 w' w.heap.size (fun _ => True) (.slice B b.length cB) b
theorem read_no (s : ByteArray) (i : Nat) (w : World) (m : Int) (hs : s.size ≤ 1048576) (hi : i ≤ s.size) (hm : w.cell? ⟨0, 0, none⟩ = some (.int .i64 m)) (h : halfS (s.data.toList.drop i) = none) : Calls Tryd.prog 15 #[.string s, .int .i64 i] w (HalfNo w) := by
  have h0 := read_any s i w m hs hi hm
  rw [h] at h0
  exact h0
theorem read_yes (s : ByteArray) (i : Nat) (w : World) (m : Int) (hs : s.size ≤ 1048576) (hi : i ≤ s.size) (hm : w.cell? ⟨0, 0, none⟩ = some (.int .i64 m)) {a b : List Aff} {n : Num} {q : List UInt8} (h : halfS (s.data.toList.drop i) = some (a, n, b, q)) : Calls Tryd.prog 15 #[.string s, .int .i64 i] w (HalfYes w a b n (s.size - q.length)) := by
  have h0 := read_any s i w m hs hi hm
  rw [h] at h0
  refine h0.mono ?_
  rintro e w1 ⟨hb, u, v, rfl, hu, hv⟩
  obtain ⟨A, c, rfl⟩ := Kd.R_slice hu
  obtain ⟨B, d, rfl⟩ := Kd.R_slice hv
  exact ⟨hb, A, c, B, d, rfl, hu, hv⟩
theorem half_mid {w : World} {g : Nat} {u v : Value} {m : Num} {t : TypeId} {fr : Nat × Nat} (h : w.heap[g]? = some (.cells (halfCells u v m) t fr)) : w.rangeAt g 2 (numCells m).toList := by
  intro j x hj
  rw [cell_of_row w g _ _ t fr h, ← Array.getElem?_toList, show (halfCells u v m).toList = u :: v :: (numCells m).toList from rfl, show 2 + j = j + 1 + 1 from by omega, List.getElem?_cons_succ, List.getElem?_cons_succ]
  exact hj
theorem halfS_suf {s q : List UInt8} {a b : List Aff} {m : Num} (h : halfS s = some (a, m, b, q)) : q <:+ s := by
  unfold halfS at h
  split at h
  · cases h
  · next a1 r ha =>
    split at h
    · cases h
    · next m1 r2 hn =>
      split at h
      · cases h
      · next b1 r3 hb =>
        split at h
        · simp only [Option.some.injEq, Prod.mk.injEq] at h
          obtain ⟨_, _, _, rfl⟩ := h
          exact ((affS_suf _ _ _ _ _ (Nat.le_refl _) hb).trans (numS_suf hn)).trans (affS_suf _ _ _ _ _ (Nat.le_refl _) ha)
        · cases h
theorem PatOwn.below {w w' : World} {base : Nat} {s0 s1 s3 s4 : Sl} {p : Pat} (h : PatOwn w base s0 s1 s3 s4 p) (hb : Below w.heap.size w w') : PatOwn w' base s0 s1 s3 s4 p :=
  ⟨Kd.R_below h.r0 hb, Kd.R_below h.r1 hb, Kd.R_below h.r3 hb, Kd.R_below h.r4 hb⟩
theorem PatOwn.only {w w' : World} {base : Nat} {s0 s1 s3 s4 : Sl} {p : Pat} (h : PatOwn w (base + 1) s0 s1 s3 s4 p) (ho : Only base w w') : PatOwn w' base s0 s1 s3 s4 p :=
  ⟨Kd.R_lower (R_only h.r0 (fun k hk _ => ho.block k (by omega))) (by omega), Kd.R_lower (R_only h.r1 (fun k hk _ => ho.block k (by omega))) (by omega), Kd.R_lower (R_only h.r3 (fun k hk _ => ho.block k (by omega))) (by omega), Kd.R_lower (R_only h.r4 (fun k hk _ => ho.block k (by omega))) (by omega)⟩
theorem ParsePost.yes {w w' : World} {x : Pat × Int} {p : Pat} {cs : Array Value} {s0 s1 s3 s4 : Sl} {j : Int} (hx : x = (p, 0)) (hc : cs = patCells s0 s1 s3 s4 p) (hb : Below w.heap.size w w') (ho : PatOwn w' w.heap.size s0 s1 s3 s4 p) : ParsePost w x (.returned (.tuple #[.agg cs, .int .i64 j, .int .i64 0])) w' := by
  subst hx hc
  exact ⟨hb, s0, s1, s3, s4, j, rfl, ho⟩
theorem drop_cons {s : ByteArray} {c : UInt8} {q : List UInt8} {k : Nat} (h : c :: q = s.data.toList.drop k) (hk : k ≤ s.size) : s.data.toList.drop (k + 1) = q ∧ k < s.size := by
  have e : s.data.toList.drop (k + 1) = (s.data.toList.drop k).drop 1 := by rw [List.drop_drop]
  have hl := congrArg List.length h
  rw [List.length_drop, data_length] at hl
  simp at hl
  exact ⟨by rw [e, ← h]; rfl, by omega⟩
def parse2 (s : List UInt8) : Pat × Int :=
  match rawS s with
  | none => (Pat.zero, 90)
  | some p => if checkS p = 0 then (p, 0) else (Pat.zero, checkS p)
theorem parse2_is {s : List UInt8} (h : s.length ≤ 65536) : parseS s = parse2 s := by unfold parseS parse2; rw [if_neg (by omega)]; rfl
theorem parse2_one {s : List UInt8} {a b : List Aff} {n : Num} (h : halfS s = some (a, n, b, [])) : parse2 s = if checkS (mkPat a b false [] [] n) = 0 then (mkPat a b false [] [] n, 0) else (Pat.zero, checkS (mkPat a b false [] [] n)) := by unfold parse2 rawS; rw [h]
theorem parse2_two_none {s q : List UInt8} {a b : List Aff} {n : Num} {ch : UInt8} (h : halfS s = some (a, n, b, ch :: q)) (h2 : halfS q = none) : parse2 s = (Pat.zero, 90) := by unfold parse2 rawS; rw [h]; simp only [h2]
theorem parse2_two_more {s q q3 : List UInt8} {a b c d : List Aff} {n n2 : Num} {ch ch2 : UInt8} (h : halfS s = some (a, n, b, ch :: q)) (h2 : halfS q = some (c, n2, d, ch2 :: q3)) : parse2 s = (Pat.zero, 90) := by unfold parse2 rawS; rw [h]; simp only [h2]; simp
theorem parse2_two {s q : List UInt8} {a b c d : List Aff} {n n2 : Num} {ch : UInt8} (h : halfS s = some (a, n, b, ch :: q)) (h2 : halfS q = some (c, n2, d, [])) : parse2 s = if checkS (mkPat a b true c d n) = 0 then (mkPat a b true c d n, 0) else (Pat.zero, checkS (mkPat a b true c d n)) := by unfold parse2 rawS; rw [h]; simp only [h2]; simp
theorem sizeBool : (Tryd.prog.info? 4).map (·.size) = some 1 := by kernel_rfl
theorem one_true : ∀ q ∈ [Value.bool true], q.oneCell' = true := by intro q hq; rw [List.mem_singleton.mp hq]; rfl
theorem parse2_none {s : List UInt8} (h : halfS s = none) : parse2 s = (Pat.zero, 90) := by unfold parse2 rawS; rw [h]
set_option maxHeartbeats 8000000 in
set_option maxRecDepth 100000 in
theorem parse_any (s : ByteArray) (w : World) (m : Int) (hm : w.cell? ⟨0, 0, none⟩ = some (.int .i64 m)) : Calls Tryd.prog 5 #[.string s] w (ParsePost w (parseS s.data.toList)) := by
  have HM := Lib.hid hm
  clear hm
  have hu2 := Tryd.underlying26
  obtain ⟨x, hx⟩ : ∃ x, x = parseS s.data.toList := ⟨_, rfl⟩
  rw [← hx]
  have HX := Lib.hid hx
  clear hx
  by_cases hL : 65536 < s.size
  · as_aux_lemma =>
      have hX := Lib.hid (show x = (Pat.zero, 2) by rw [HX.out]; unfold parseS; rw [if_pos (by rw [data_length]; exact hL)])
      clear HX
      have hLi : (65536 : Int) < (s.size : Int) := by omega
      go_enter Tryd.func5, Tryd.ntmps5
      go_wp2_with ((with_reducible refine gate_ (.store 26 (.tmp 2) (.tmp 13)) rfl ?_); refine store_blk rfl rfl 26 (.tmp 2) (.tmp 13) rfl (.agg zCells) zCells.toList rfl rfl rfl sizePat one_z (blk_new w _) (Nat.le_refl 17) zCells (by simp) ?_; intro w9 hb9 ho9; have HB9 := Aside0.mk hb9; have HO9 := Aside0.mk ho9; clear hb9 ho9)
      refine bodyPost_ret (v := .tuple #[.agg zCells, .int .i64 0, .int .i64 2]) ?_ rfl (ParsePost.no hX.out (HO9.out.below (below_alloc (Below.refl _ _) _) (Nat.le_refl _)))
      refine (results_ctt (p := 2) (u := 3) (v := 4) (g := w.heap.size) (t := 26) (cs := zCells) (fr := (0, 0)) ?_ _ _ _ ?_ HB9.out hu2 rfl sizePat) <;> rfl
  · have hs : s.size ≤ 65536 := by omega
    have hLi : ¬ (65536 : Int) < (s.size : Int) := by omega
    have hs2 : s.size ≤ 1048576 := by omega
    replace HX := Lib.hid (show x = parse2 s.data.toList by rw [HX.out]; exact parse2_is (by rw [data_length]; exact hs))
    cases hh : halfS s.data.toList with
    | none =>
      as_aux_lemma =>
        have hX := Lib.hid (show x = (Pat.zero, 90) by rw [HX.out]; exact parse2_none hh)
        have HN : Hid (∀ w0 : World, w0.cell? ⟨0, 0, none⟩ = some (.int .i64 m) → Calls Tryd.prog 15 #[.string s, .int .i64 0] w0 (HalfNo w0)) := Lib.hid fun w0 h0 => read_no s 0 w0 m hs2 (Nat.zero_le _) h0 hh
        clear hh HX
        go_enter Tryd.func5, Tryd.ntmps5
        go_wp2_with (first
          | (go_at_call 15; refine (HN.out _ (glob_of (below_alloc (Below.refl _ _) _) HM.out)).mono ?_; rintro e w2 ⟨hb, u, v, m2, j, hu1, hv1, rfl⟩; have HB1 := Aside0.mk hb; clear hb)
          | ((with_reducible refine gate_ (.store 52 (.tmp 5) (.tmp 17)) rfl ?_); refine store_blk rfl rfl 52 (.tmp 5) (.tmp 17) rfl (.agg (halfCells u v m2)) (halfCells u v m2).toList rfl rfl rfl sizeHalf (one_half hu1 hv1 m2) (blk_new _ _) (Nat.le_refl 19) (halfCells u v m2) (by simp) ?_; intro w3 hb3 ho3; have hP3 := Aside0.mk (PH.start rfl HB1.out ho3 hb3); clear hb3 ho3)
          | ((with_reducible refine gate_ (.store 26 (.tmp 2) (.tmp 22)) rfl ?_); refine store_blk rfl rfl 26 (.tmp 2) (.tmp 22) rfl (.agg zCells) zCells.toList rfl rfl rfl sizePat one_z (hP3.out.z) (Nat.le_refl 17) zCells (by simp) ?_; intro w9 hb9 ho9; have HB9 := Aside0.mk hb9; have HO9 := Aside0.mk ho9; clear hb9 ho9))
        refine bodyPost_ret (v := .tuple #[.agg zCells, .int .i64 j, .int .i64 90]) ?_ rfl (ParsePost.no hX.out (hP3.out.only0 HO9.out))
        refine (results_ctt (p := 2) (u := 3) (v := 4) (g := w.heap.size) (t := 26) (cs := zCells) (fr := (0, 0)) ?_ _ _ _ ?_ HB9.out hu2 rfl sizePat) <;> rfl
    | some y =>
      obtain ⟨a, n, b, q⟩ := y
      obtain ⟨hr1, hi1⟩ := suf_drop (i := 0) (show q <:+ s.data.toList.drop 0 from halfS_suf hh) (Nat.zero_le _)
      rw [data_length] at hr1 hi1
      have HR : Hid (∀ w0 : World, w0.cell? ⟨0, 0, none⟩ = some (.int .i64 m) → Calls Tryd.prog 15 #[.string s, .int .i64 0] w0 (HalfYes w0 a b n (s.size - q.length))) := Lib.hid fun w0 h0 => read_yes s 0 w0 m hs2 (Nat.zero_le _) h0 hh
      obtain ⟨k1, hk1⟩ : ∃ k, k = s.size - q.length := ⟨_, rfl⟩
      rw [← hk1] at HR
      rw [← hk1] at hr1
      have hk1s : k1 ≤ s.size := by omega
      have HK := Lib.hid hk1
      have HQ := Lib.hid hr1
      clear hk1 hr1 hi1
      cases q with
      | nil =>
        obtain rfl : k1 = s.size := HK.out
        clear hk1s hL
        go_enter Tryd.func5, Tryd.ntmps5
        go_upto_region 7 with (first
          | (go_at_call 15; refine (HR.out _ (glob_of (below_alloc (Below.refl _ _) _) HM.out)).mono ?_; rintro e w2 ⟨hb, A, cA, B, cB, rfl, hu, hv⟩; have HB1 := Aside0.mk hb; have HU := Aside0.mk hu; have HV := Aside0.mk hv; clear hb hu hv)
          | ((with_reducible refine gate_ (.store 52 (.tmp 5) (.tmp 17)) rfl ?_); refine store_blk rfl rfl 52 (.tmp 5) (.tmp 17) rfl (.agg (halfCells (.slice A a.length cA) (.slice B b.length cB) n)) (halfCells (.slice A a.length cA) (.slice B b.length cB) n).toList rfl rfl rfl sizeHalf (one_half rfl rfl n) (blk_new _ _) (Nat.le_refl 19) (halfCells (.slice A a.length cA) (.slice B b.length cB) n) (by simp) ?_; intro w3 hb3 ho3; have hP3 := Aside0.mk (PH.start rfl HB1.out ho3 hb3); have hO3 := Aside0.mk ho3; clear hb3 ho3)
          | ((with_reducible refine gate_ (.load 26 (.tmp 24)) rfl ?_); refine wpList_load_mid rfl 26 (.tmp 24) rfl w2.heap.size 2 rfl (numCells n).toList _ (half_mid hP3.out.hh) hu2 rfl sizePat ?_)
          | ((with_reducible refine gate_ (.store 26 (.tmp 8) (.tmp 25)) rfl ?_); refine store_blk rfl rfl 26 (.tmp 8) (.tmp 25) rfl (.agg (numCells n)) (numCells n).toList rfl rfl rfl sizePat (one_num n) (blk_new _ _) (Nat.le_refl 17) (numCells n) (by simp) ?_; intro w4 hb4 ho4; have hP4 := Aside0.mk (hP3.out.pat ho4 hb4); have HU4 := Aside0.mk (Rw.start6 HB1.out HU.out hO3.out hP3.out ho4); have HV4 := Aside0.mk (Rw.start6 HB1.out HV.out hO3.out hP3.out ho4); clear hb4 ho4))
        refine pair7 (gh := w2.heap.size) (gp := w3.heap.size) rfl rfl (Nat.le_of_ble_eq_true rfl) ((blk_cell hP4.out.h.hh 0).trans (rfl : _ = some (Value.slice A a.length cA))) ((blk_cell hP4.out.h.hh 1).trans (rfl : _ = some (Value.slice B b.length cB))) (Nat.ne_of_lt hP4.out.lt2) hP4.out.hp rfl (fun _ _ _ _ _ h => h) ?_
        intro w5 hb5 ho5
        have hP5 := Aside0.mk (hP4.out.pat (w2 := w5) ⟨ho5.os, ho5.tape, ho5.output, ho5.size, ho5.block⟩ hb5)
        have HU5 := Aside0.mk (Rw.pat HU4.out (w2 := w5) ⟨ho5.os, ho5.tape, ho5.output, ho5.size, ho5.block⟩)
        have HV5 := Aside0.mk (Rw.pat HV4.out (w2 := w5) ⟨ho5.os, ho5.tape, ho5.output, ho5.size, ho5.block⟩)
        clear hb5 ho5
        have hX2 := Lib.hid (show x = _ from HX.out.trans (parse2_one hh))
        obtain ⟨p0, hp0⟩ : ∃ p, p = mkPat a b false [] [] n := ⟨_, rfl⟩
        have hc5 : Aside0 (w5.heap[w3.heap.size]? = some (.cells (patCells ⟨A, a.length, cA⟩ ⟨B, b.length, cB⟩ zSl zSl p0) 26 (0, 0))) := ⟨by rw [hp0]; exact hP5.out.hp⟩
        have HO5 : Aside0 (PatOwn w5 (w.heap.size + 1) ⟨A, a.length, cA⟩ ⟨B, b.length, cB⟩ zSl zSl p0) := ⟨by rw [hp0]; exact ⟨HU5.out.up, HV5.out.up, Kd.R_nil _ _ _ _ _, Kd.R_nil _ _ _ _ _⟩⟩
        rw [← hp0] at hX2
        clear hp0 HX
        obtain ⟨cs, hcs⟩ : ∃ cs, cs = patCells ⟨A, a.length, cA⟩ ⟨B, b.length, cB⟩ zSl zSl p0 := ⟨_, rfl⟩
        rw [← hcs] at hc5
        have hsz := Lib.hid (show (Tryd.prog.info? 26).map (·.size) = some cs.size by rw [hcs]; exact sizePat)
        have hone := Lib.hid (show ∀ q ∈ cs.toList, q.oneCell' = true by rw [hcs]; exact one_pat _ _ _ _ _)
        have HC := Lib.hid hcs
        clear hcs
        have CH : Hid (Calls Tryd.prog 8 #[.agg cs] w5 fun e w9 => e = .returned (.int .i64 (checkS p0)) ∧ Below w5.heap.size w5 w9) := Lib.hid (by rw [HC.out]; exact check_any _ _ _ _ p0 w5 HO5.out.reads)
        obtain ⟨ec, hec⟩ : ∃ e, e = checkS p0 := ⟨_, rfl⟩
        rw [← hec] at CH hX2
        clear hec
        by_cases he : ec = 0
        · subst he
          have hX := Lib.hid (show x = (p0, 0) from hX2.out.trans (if_pos rfl))
          clear hX2
          go_wp2_with (first
            | ((with_reducible refine gate_ (.load 26 (.tmp 8)) rfl ?_); refine load_row_w (by rfl) 26 (.tmp 8) rfl w3.heap.size rfl 26 cs (0, 0) _ hc5.out hu2 rfl hsz.out ?_)
            | (go_at_call 8; refine CH.out.mono ?_; rintro e wT ⟨rfl, hb6⟩; have hPT := Aside0.mk (hP5.out.below hb6); have hc6 := Aside0.mk (blk_below hc5.out hb6); have HO6 := Aside0.mk (HO5.out.below hb6); clear hb6)
            | ((with_reducible refine gate_ (.load 26 (.tmp 8)) rfl ?_); refine load_row_w (by rfl) 26 (.tmp 8) rfl w3.heap.size rfl 26 cs (0, 0) _ hc6.out hu2 rfl hsz.out ?_)
            | ((with_reducible refine gate_ (.store 26 (.tmp 2) (.tmp 67)) rfl ?_); refine store_blk rfl rfl 26 (.tmp 2) (.tmp 67) rfl (.agg cs) cs.toList rfl rfl rfl hsz.out hone.out hPT.out.h.z (by rw [HC.out]; exact Nat.le_refl 17) cs (by rw [HC.out]; simp) ?_; intro w9 hb9 ho9; have HB9 := Aside0.mk hb9; have HO9 := Aside0.mk ho9; clear hb9 ho9))
          refine bodyPost_ret (v := .tuple #[.agg cs, .int .i64 0, .int .i64 0]) ?_ rfl (ParsePost.yes hX.out HC.out (HO9.out.below hPT.out.h.bel (Nat.le_refl _)) (HO6.out.only HO9.out))
          refine (results_ctt (p := 2) (u := 3) (v := 4) (g := w.heap.size) (t := 26) (cs := cs) (fr := (0, 0)) ?_ _ _ _ ?_ HB9.out hu2 rfl hsz.out) <;> rfl
        · have hX := Lib.hid (show x = (Pat.zero, ec) from hX2.out.trans (if_neg he))
          have be : (ec == 0) = false := beq_eq_false_iff_ne.mpr he
          clear hX2
          go_wp2_with (first
            | ((with_reducible refine gate_ (.load 26 (.tmp 8)) rfl ?_); refine load_row_w (by rfl) 26 (.tmp 8) rfl w3.heap.size rfl 26 cs (0, 0) _ hc5.out hu2 rfl hsz.out ?_)
            | (go_at_call 8; refine CH.out.mono ?_; rintro e wT ⟨rfl, hb6⟩; have hPT := Aside0.mk (hP5.out.below hb6); clear hb6)
            | ((with_reducible refine gate_ (.store 26 (.tmp 2) (.tmp 65)) rfl ?_); refine store_blk rfl rfl 26 (.tmp 2) (.tmp 65) rfl (.agg zCells) zCells.toList rfl rfl rfl sizePat one_z (hPT.out.h.z) (Nat.le_refl 17) zCells (by simp) ?_; intro w9 hb9 ho9; have HB9 := Aside0.mk hb9; have HO9 := Aside0.mk ho9; clear hb9 ho9))
          refine bodyPost_ret (v := .tuple #[.agg zCells, .int .i64 0, .int .i64 ec]) ?_ rfl (ParsePost.no hX.out (HO9.out.below hPT.out.h.bel (Nat.le_refl _)))
          refine (results_ctt (p := 2) (u := 3) (v := 4) (g := w.heap.size) (t := 26) (cs := zCells) (fr := (0, 0)) ?_ _ _ _ ?_ HB9.out hu2 rfl sizePat) <;> rfl
      | cons ch q =>
        obtain ⟨hq, hkl⟩ : s.data.toList.drop (k1 + 1) = q ∧ k1 < s.size := drop_cons HQ.out hk1s
        have hki : (k1 : Int) < (s.size : Int) := by omega
        have hk2s : k1 + 1 ≤ s.size := hkl
        cases hh2 : halfS q with
        | none =>
          as_aux_lemma =>
            have hX := Lib.hid (show x = (Pat.zero, 90) by rw [HX.out]; exact parse2_two_none hh hh2)
            have HR2 : Hid (∀ w0 : World, w0.cell? ⟨0, 0, none⟩ = some (.int .i64 m) → Calls Tryd.prog 15 #[.string s, .int .i64 ((k1 : Int) + 1)] w0 (HalfNo w0)) := Lib.hid fun w0 h0 => read_no s (k1 + 1) w0 m hs2 hk2s h0 (by rw [hq]; exact hh2)
            clear hh hh2 HX hq HK HQ
            go_enter Tryd.func5, Tryd.ntmps5
            go_upto_region 7 with (first
              | (go_at_call 15; refine (HR.out _ (glob_of (below_alloc (Below.refl _ _) _) HM.out)).mono ?_; rintro e w2 ⟨hb, A, cA, B, cB, rfl, hu, hv⟩; have HB1 := Aside0.mk hb; have HU := Aside0.mk hu; have HV := Aside0.mk hv; clear hb hu hv)
              | ((with_reducible refine gate_ (.store 52 (.tmp 5) (.tmp 17)) rfl ?_); refine store_blk rfl rfl 52 (.tmp 5) (.tmp 17) rfl (.agg (halfCells (.slice A a.length cA) (.slice B b.length cB) n)) (halfCells (.slice A a.length cA) (.slice B b.length cB) n).toList rfl rfl rfl sizeHalf (one_half rfl rfl n) (blk_new _ _) (Nat.le_refl 19) (halfCells (.slice A a.length cA) (.slice B b.length cB) n) (by simp) ?_; intro w3 hb3 ho3; have hP3 := Aside0.mk (PH.start rfl HB1.out ho3 hb3); have hO3 := Aside0.mk ho3; clear hb3 ho3)
              | ((with_reducible refine gate_ (.load 26 (.tmp 24)) rfl ?_); refine wpList_load_mid rfl 26 (.tmp 24) rfl w2.heap.size 2 rfl (numCells n).toList _ (half_mid hP3.out.hh) hu2 rfl sizePat ?_)
              | ((with_reducible refine gate_ (.store 26 (.tmp 8) (.tmp 25)) rfl ?_); refine store_blk rfl rfl 26 (.tmp 8) (.tmp 25) rfl (.agg (numCells n)) (numCells n).toList rfl rfl rfl sizePat (one_num n) (blk_new _ _) (Nat.le_refl 17) (numCells n) (by simp) ?_; intro w4 hb4 ho4; have hP4 := Aside0.mk (hP3.out.pat ho4 hb4); have HU4 := Aside0.mk (Rw.start6 HB1.out HU.out hO3.out hP3.out ho4); have HV4 := Aside0.mk (Rw.start6 HB1.out HV.out hO3.out hP3.out ho4); clear hb4 ho4))
            refine pair7 (gh := w2.heap.size) (gp := w3.heap.size) rfl rfl (Nat.le_of_ble_eq_true rfl) ((blk_cell hP4.out.h.hh 0).trans (rfl : _ = some (Value.slice A a.length cA))) ((blk_cell hP4.out.h.hh 1).trans (rfl : _ = some (Value.slice B b.length cB))) (Nat.ne_of_lt hP4.out.lt2) hP4.out.hp rfl (fun _ _ _ _ _ h => h) ?_
            intro w5 hb5 ho5
            have hP5 := Aside0.mk (hP4.out.pat (w2 := w5) ⟨ho5.os, ho5.tape, ho5.output, ho5.size, ho5.block⟩ hb5)
            have HU5 := Aside0.mk (Rw.pat HU4.out (w2 := w5) ⟨ho5.os, ho5.tape, ho5.output, ho5.size, ho5.block⟩)
            have HV5 := Aside0.mk (Rw.pat HV4.out (w2 := w5) ⟨ho5.os, ho5.tape, ho5.output, ho5.size, ho5.block⟩)
            clear hb5 ho5
            go_wp2_with (first
              | (go_at_call 15; refine (HR2.out _ (glob_of hP5.out.h.bel HM.out)).mono ?_; rintro e w6 ⟨hb6, u6, v6, m6, j6, hu6, hv6, rfl⟩; have hP6 := Aside0.mk (hP5.out.below hb6); clear hb6)
              | ((with_reducible refine gate_ (.store 52 (.tmp 5) (.tmp 41)) rfl ?_); refine store_blk rfl rfl 52 (.tmp 5) (.tmp 41) rfl (.agg (halfCells u6 v6 m6)) (halfCells u6 v6 m6).toList rfl rfl rfl sizeHalf (one_half hu6 hv6 m6) hP6.out.h.hh (Nat.le_refl 19) (halfCells u6 v6 m6) (by simp) ?_; intro w7 hb7 ho7; have hP7 := Aside0.mk (hP6.out.half ho7 hb7); clear hb7 ho7)
              | ((with_reducible refine gate_ (.store 26 (.tmp 2) (.tmp 52)) rfl ?_); refine store_blk rfl rfl 26 (.tmp 2) (.tmp 52) rfl (.agg zCells) zCells.toList rfl rfl rfl sizePat one_z (hP7.out.h.z) (Nat.le_refl 17) zCells (by simp) ?_; intro w9 hb9 ho9; have HB9 := Aside0.mk hb9; have HO9 := Aside0.mk ho9; clear hb9 ho9))
            refine bodyPost_ret (v := .tuple #[.agg zCells, .int .i64 j6, .int .i64 90]) ?_ rfl (ParsePost.no hX.out (HO9.out.below hP7.out.h.bel (Nat.le_refl _)))
            refine (results_ctt (p := 2) (u := 3) (v := 4) (g := w.heap.size) (t := 26) (cs := zCells) (fr := (0, 0)) ?_ _ _ _ ?_ HB9.out hu2 rfl sizePat) <;> rfl
        | some y2 =>
          obtain ⟨c, n2, d, q2⟩ := y2
          obtain ⟨hr2, hi2⟩ := suf_drop (i := k1 + 1) (show q2 <:+ s.data.toList.drop (k1 + 1) by rw [hq]; exact halfS_suf hh2) (by rw [data_length]; exact hk2s)
          rw [data_length] at hr2 hi2
          have HR2a : Hid (∀ w0 : World, w0.cell? ⟨0, 0, none⟩ = some (.int .i64 m) → Calls Tryd.prog 15 #[.string s, .int .i64 ((k1 : Int) + 1)] w0 (HalfYes w0 c d n2 (s.size - q2.length))) := Lib.hid fun w0 h0 => read_yes s (k1 + 1) w0 m hs2 hk2s h0 (by rw [hq]; exact hh2)
          obtain ⟨k2, hk2⟩ : ∃ k, k = s.size - q2.length := ⟨_, rfl⟩
          rw [← hk2] at HR2a hr2
          have HR2 := Lib.hid HR2a.out
          clear HR2a
          cases q2 with
          | cons ch2 q3 =>
            as_aux_lemma =>
              have hX := Lib.hid (show x = (Pat.zero, 90) by rw [HX.out]; exact parse2_two_more hh hh2)
              obtain ⟨_, hk2l⟩ : s.data.toList.drop (k2 + 1) = q3 ∧ k2 < s.size := drop_cons hr2 (by omega)
              have hk2i : (k2 : Int) < (s.size : Int) := by omega
              clear hh hh2 HX hq HK HQ hr2 hi2 hk2 hk2l
              go_enter Tryd.func5, Tryd.ntmps5
              go_upto_region 7 with (first
                | (go_at_call 15; refine (HR.out _ (glob_of (below_alloc (Below.refl _ _) _) HM.out)).mono ?_; rintro e w2 ⟨hb, A, cA, B, cB, rfl, hu, hv⟩; have HB1 := Aside0.mk hb; have HU := Aside0.mk hu; have HV := Aside0.mk hv; clear hb hu hv)
                | ((with_reducible refine gate_ (.store 52 (.tmp 5) (.tmp 17)) rfl ?_); refine store_blk rfl rfl 52 (.tmp 5) (.tmp 17) rfl (.agg (halfCells (.slice A a.length cA) (.slice B b.length cB) n)) (halfCells (.slice A a.length cA) (.slice B b.length cB) n).toList rfl rfl rfl sizeHalf (one_half rfl rfl n) (blk_new _ _) (Nat.le_refl 19) (halfCells (.slice A a.length cA) (.slice B b.length cB) n) (by simp) ?_; intro w3 hb3 ho3; have hP3 := Aside0.mk (PH.start rfl HB1.out ho3 hb3); have hO3 := Aside0.mk ho3; clear hb3 ho3)
                | ((with_reducible refine gate_ (.load 26 (.tmp 24)) rfl ?_); refine wpList_load_mid rfl 26 (.tmp 24) rfl w2.heap.size 2 rfl (numCells n).toList _ (half_mid hP3.out.hh) hu2 rfl sizePat ?_)
                | ((with_reducible refine gate_ (.store 26 (.tmp 8) (.tmp 25)) rfl ?_); refine store_blk rfl rfl 26 (.tmp 8) (.tmp 25) rfl (.agg (numCells n)) (numCells n).toList rfl rfl rfl sizePat (one_num n) (blk_new _ _) (Nat.le_refl 17) (numCells n) (by simp) ?_; intro w4 hb4 ho4; have hP4 := Aside0.mk (hP3.out.pat ho4 hb4); have HU4 := Aside0.mk (Rw.start6 HB1.out HU.out hO3.out hP3.out ho4); have HV4 := Aside0.mk (Rw.start6 HB1.out HV.out hO3.out hP3.out ho4); clear hb4 ho4))
              refine pair7 (gh := w2.heap.size) (gp := w3.heap.size) rfl rfl (Nat.le_of_ble_eq_true rfl) ((blk_cell hP4.out.h.hh 0).trans (rfl : _ = some (Value.slice A a.length cA))) ((blk_cell hP4.out.h.hh 1).trans (rfl : _ = some (Value.slice B b.length cB))) (Nat.ne_of_lt hP4.out.lt2) hP4.out.hp rfl (fun _ _ _ _ _ h => h) ?_
              intro w5 hb5 ho5
              have hP5 := Aside0.mk (hP4.out.pat (w2 := w5) ⟨ho5.os, ho5.tape, ho5.output, ho5.size, ho5.block⟩ hb5)
              have HU5 := Aside0.mk (Rw.pat HU4.out (w2 := w5) ⟨ho5.os, ho5.tape, ho5.output, ho5.size, ho5.block⟩)
              have HV5 := Aside0.mk (Rw.pat HV4.out (w2 := w5) ⟨ho5.os, ho5.tape, ho5.output, ho5.size, ho5.block⟩)
              clear hb5 ho5
              go_wp2_with (first
                | (go_at_call 15; refine (HR2.out _ (glob_of hP5.out.h.bel HM.out)).mono ?_; rintro e w6 ⟨hb6, C, cC, D, cD, rfl, hu6, hv6⟩; have hP6 := Aside0.mk (hP5.out.below hb6); have HU6 := Aside0.mk (HU5.out.below hb6); have HV6 := Aside0.mk (HV5.out.below hb6); have HC6 := Aside0.mk (Rw.second (w := w) (bh := w2.heap.size) (bp := w3.heap.size) hu6 (blk_lt hP5.out.hp) hP5.out.h.lt hP5.out.lt2); have HD6 := Aside0.mk (Rw.second (w := w) (bh := w2.heap.size) (bp := w3.heap.size) hv6 (blk_lt hP5.out.hp) hP5.out.h.lt hP5.out.lt2); clear hb6 hu6 hv6)
                | ((with_reducible refine gate_ (.store 52 (.tmp 5) (.tmp 41)) rfl ?_); refine store_blk rfl rfl 52 (.tmp 5) (.tmp 41) rfl (.agg (halfCells (.slice C c.length cC) (.slice D d.length cD) n2)) (halfCells (.slice C c.length cC) (.slice D d.length cD) n2).toList rfl rfl rfl sizeHalf (one_half rfl rfl n2) hP6.out.h.hh (Nat.le_refl 19) (halfCells (.slice C c.length cC) (.slice D d.length cD) n2) (by simp) ?_; intro w7 hb7 ho7; have hP7 := Aside0.mk (hP6.out.half ho7 hb7); clear hb7 ho7)
                | ((with_reducible refine gate_ (.store 26 (.tmp 2) (.tmp 52)) rfl ?_); refine store_blk rfl rfl 26 (.tmp 2) (.tmp 52) rfl (.agg zCells) zCells.toList rfl rfl rfl sizePat one_z (hP7.out.h.z) (Nat.le_refl 17) zCells (by simp) ?_; intro w9 hb9 ho9; have HB9 := Aside0.mk hb9; have HO9 := Aside0.mk ho9; clear hb9 ho9))
              refine bodyPost_ret (v := .tuple #[.agg zCells, .int .i64 k2, .int .i64 90]) ?_ rfl (ParsePost.no hX.out (HO9.out.below hP7.out.h.bel (Nat.le_refl _)))
              refine (results_ctt (p := 2) (u := 3) (v := 4) (g := w.heap.size) (t := 26) (cs := zCells) (fr := (0, 0)) ?_ _ _ _ ?_ HB9.out hu2 rfl sizePat) <;> rfl
          | nil =>
            obtain rfl : k2 = s.size := hk2
            have HH := Lib.hid hh
            have HH2 := Lib.hid hh2
            clear hq HK HQ hr2 hi2 hh hh2
            go_enter Tryd.func5, Tryd.ntmps5
            go_upto_region 7 with (first
              | (go_at_call 15; refine (HR.out _ (glob_of (below_alloc (Below.refl _ _) _) HM.out)).mono ?_; rintro e w2 ⟨hb, A, cA, B, cB, rfl, hu, hv⟩; have HB1 := Aside0.mk hb; have HU := Aside0.mk hu; have HV := Aside0.mk hv; clear hb hu hv)
              | ((with_reducible refine gate_ (.store 52 (.tmp 5) (.tmp 17)) rfl ?_); refine store_blk rfl rfl 52 (.tmp 5) (.tmp 17) rfl (.agg (halfCells (.slice A a.length cA) (.slice B b.length cB) n)) (halfCells (.slice A a.length cA) (.slice B b.length cB) n).toList rfl rfl rfl sizeHalf (one_half rfl rfl n) (blk_new _ _) (Nat.le_refl 19) (halfCells (.slice A a.length cA) (.slice B b.length cB) n) (by simp) ?_; intro w3 hb3 ho3; have hP3 := Aside0.mk (PH.start rfl HB1.out ho3 hb3); have hO3 := Aside0.mk ho3; clear hb3 ho3)
              | ((with_reducible refine gate_ (.load 26 (.tmp 24)) rfl ?_); refine wpList_load_mid rfl 26 (.tmp 24) rfl w2.heap.size 2 rfl (numCells n).toList _ (half_mid hP3.out.hh) hu2 rfl sizePat ?_)
              | ((with_reducible refine gate_ (.store 26 (.tmp 8) (.tmp 25)) rfl ?_); refine store_blk rfl rfl 26 (.tmp 8) (.tmp 25) rfl (.agg (numCells n)) (numCells n).toList rfl rfl rfl sizePat (one_num n) (blk_new _ _) (Nat.le_refl 17) (numCells n) (by simp) ?_; intro w4 hb4 ho4; have hP4 := Aside0.mk (hP3.out.pat ho4 hb4); have HU4 := Aside0.mk (Rw.start6 HB1.out HU.out hO3.out hP3.out ho4); have HV4 := Aside0.mk (Rw.start6 HB1.out HV.out hO3.out hP3.out ho4); clear hb4 ho4))
            refine pair7 (gh := w2.heap.size) (gp := w3.heap.size) rfl rfl (Nat.le_of_ble_eq_true rfl) ((blk_cell hP4.out.h.hh 0).trans (rfl : _ = some (Value.slice A a.length cA))) ((blk_cell hP4.out.h.hh 1).trans (rfl : _ = some (Value.slice B b.length cB))) (Nat.ne_of_lt hP4.out.lt2) hP4.out.hp rfl (fun _ _ _ _ _ h => h) ?_
            intro w5 hb5 ho5
            have hP5 := Aside0.mk (hP4.out.pat (w2 := w5) ⟨ho5.os, ho5.tape, ho5.output, ho5.size, ho5.block⟩ hb5)
            have HU5 := Aside0.mk (Rw.pat HU4.out (w2 := w5) ⟨ho5.os, ho5.tape, ho5.output, ho5.size, ho5.block⟩)
            have HV5 := Aside0.mk (Rw.pat HV4.out (w2 := w5) ⟨ho5.os, ho5.tape, ho5.output, ho5.size, ho5.block⟩)
            clear hb5 ho5
            replace hP5 : Aside0 (PW w w2.heap.size w3.heap.size w5 _ (patCells ⟨A, a.length, cA⟩ ⟨B, b.length, cB⟩ zSl zSl (mkPat a b false [] [] n))) := ⟨hP5.out⟩
            go_upto_region 13 with (first
              | (go_at_call 15; refine (HR2.out _ (glob_of hP5.out.h.bel HM.out)).mono ?_; rintro e w6 ⟨hb6, C, cC, D, cD, rfl, hu6, hv6⟩; have hP6 := Aside0.mk (hP5.out.below hb6); have HU6 := Aside0.mk (HU5.out.below hb6); have HV6 := Aside0.mk (HV5.out.below hb6); have HC6 := Aside0.mk (Rw.second (w := w) (bh := w2.heap.size) (bp := w3.heap.size) hu6 (blk_lt hP5.out.hp) hP5.out.h.lt hP5.out.lt2); have HD6 := Aside0.mk (Rw.second (w := w) (bh := w2.heap.size) (bp := w3.heap.size) hv6 (blk_lt hP5.out.hp) hP5.out.h.lt hP5.out.lt2); clear hb6 hu6 hv6)
              | ((with_reducible refine gate_ (.store 52 (.tmp 5) (.tmp 41)) rfl ?_); refine store_blk rfl rfl 52 (.tmp 5) (.tmp 41) rfl (.agg (halfCells (.slice C c.length cC) (.slice D d.length cD) n2)) (halfCells (.slice C c.length cC) (.slice D d.length cD) n2).toList rfl rfl rfl sizeHalf (one_half rfl rfl n2) hP6.out.h.hh (Nat.le_refl 19) (halfCells (.slice C c.length cC) (.slice D d.length cD) n2) (by simp) ?_; intro w7 hb7 ho7; have hP7 := Aside0.mk (hP6.out.half ho7 hb7); have HU7 := Aside0.mk (HU6.out.half ho7); have HV7 := Aside0.mk (HV6.out.half ho7); have HC7 := Aside0.mk (HC6.out.half ho7); have HD7 := Aside0.mk (HD6.out.half ho7); clear hb7 ho7)
              | ((with_reducible refine gate_ (.store 4 (.tmp 54) (.const (.bool true))) rfl ?_); refine store_blk rfl rfl 4 (.tmp 54) (.const (.bool true)) rfl (.bool true) [.bool true] rfl rfl rfl sizeBool one_true hP7.out.hp (Nat.le_of_ble_eq_true rfl) (patCells ⟨A, a.length, cA⟩ ⟨B, b.length, cB⟩ zSl zSl (mkPat a b true [] [] n)) (by simp [mkPat]) ?_; intro w8 hb8 ho8; have hP8 := Aside0.mk (hP7.out.pat ho8 hb8); have HU8 := Aside0.mk (HU7.out.pat ho8); have HV8 := Aside0.mk (HV7.out.pat ho8); have HC8 := Aside0.mk (HC7.out.pat ho8); have HD8 := Aside0.mk (HD7.out.pat ho8); clear hb8 ho8))
            refine pair13 (gh := w2.heap.size) (gp := w3.heap.size) rfl rfl (Nat.le_of_ble_eq_true rfl) ((blk_cell hP8.out.h.hh 0).trans (rfl : _ = some (Value.slice C c.length cC))) ((blk_cell hP8.out.h.hh 1).trans (rfl : _ = some (Value.slice D d.length cD))) (Nat.ne_of_lt hP8.out.lt2) hP8.out.hp rfl (fun _ _ _ _ _ h => h) ?_
            intro w10 hb10 ho10
            have hP10 := Aside0.mk (hP8.out.pat (w2 := w10) ⟨ho10.os, ho10.tape, ho10.output, ho10.size, ho10.block⟩ hb10)
            have HU10 := Aside0.mk (Rw.pat HU8.out (w2 := w10) ⟨ho10.os, ho10.tape, ho10.output, ho10.size, ho10.block⟩)
            have HV10 := Aside0.mk (Rw.pat HV8.out (w2 := w10) ⟨ho10.os, ho10.tape, ho10.output, ho10.size, ho10.block⟩)
            have HC10 := Aside0.mk (Rw.pat HC8.out (w2 := w10) ⟨ho10.os, ho10.tape, ho10.output, ho10.size, ho10.block⟩)
            have HD10 := Aside0.mk (Rw.pat HD8.out (w2 := w10) ⟨ho10.os, ho10.tape, ho10.output, ho10.size, ho10.block⟩)
            clear hb10 ho10
            have hX2 := Lib.hid (show x = _ from HX.out.trans (parse2_two HH.out HH2.out))
            obtain ⟨p0, hp0⟩ : ∃ p, p = mkPat a b true c d n := ⟨_, rfl⟩
            have hc5 : Aside0 (w10.heap[w3.heap.size]? = some (.cells (patCells ⟨A, a.length, cA⟩ ⟨B, b.length, cB⟩ ⟨C, c.length, cC⟩ ⟨D, d.length, cD⟩ p0) 26 (0, 0))) := ⟨by rw [hp0]; exact hP10.out.hp⟩
            have HO5 : Aside0 (PatOwn w10 (w.heap.size + 1) ⟨A, a.length, cA⟩ ⟨B, b.length, cB⟩ ⟨C, c.length, cC⟩ ⟨D, d.length, cD⟩ p0) := ⟨by rw [hp0]; exact ⟨HU10.out.up, HV10.out.up, HC10.out.up, HD10.out.up⟩⟩
            rw [← hp0] at hX2
            clear hp0 HX
            obtain ⟨cs, hcs⟩ : ∃ cs, cs = patCells ⟨A, a.length, cA⟩ ⟨B, b.length, cB⟩ ⟨C, c.length, cC⟩ ⟨D, d.length, cD⟩ p0 := ⟨_, rfl⟩
            rw [← hcs] at hc5
            have hsz := Lib.hid (show (Tryd.prog.info? 26).map (·.size) = some cs.size by rw [hcs]; exact sizePat)
            have hone := Lib.hid (show ∀ q ∈ cs.toList, q.oneCell' = true by rw [hcs]; exact one_pat _ _ _ _ _)
            have HC := Lib.hid hcs
            clear hcs
            have CH : Hid (Calls Tryd.prog 8 #[.agg cs] w10 fun e w9 => e = .returned (.int .i64 (checkS p0)) ∧ Below w10.heap.size w10 w9) := Lib.hid (by rw [HC.out]; exact check_any _ _ _ _ p0 w10 HO5.out.reads)
            obtain ⟨ec, hec⟩ : ∃ e, e = checkS p0 := ⟨_, rfl⟩
            rw [← hec] at CH hX2
            clear hec
            by_cases he : ec = 0
            · subst he
              have hX := Lib.hid (show x = (p0, 0) from hX2.out.trans (if_pos rfl))
              clear hX2
              go_wp2_with (first
                | ((with_reducible refine gate_ (.load 26 (.tmp 8)) rfl ?_); refine load_row_w (by rfl) 26 (.tmp 8) rfl w3.heap.size rfl 26 cs (0, 0) _ hc5.out hu2 rfl hsz.out ?_)
                | (go_at_call 8; refine CH.out.mono ?_; rintro e wT ⟨rfl, hb6⟩; have hPT := Aside0.mk (hP10.out.below hb6); have hc6 := Aside0.mk (blk_below hc5.out hb6); have HO6 := Aside0.mk (HO5.out.below hb6); clear hb6)
                | ((with_reducible refine gate_ (.load 26 (.tmp 8)) rfl ?_); refine load_row_w (by rfl) 26 (.tmp 8) rfl w3.heap.size rfl 26 cs (0, 0) _ hc6.out hu2 rfl hsz.out ?_)
                | ((with_reducible refine gate_ (.store 26 (.tmp 2) (.tmp 67)) rfl ?_); refine store_blk rfl rfl 26 (.tmp 2) (.tmp 67) rfl (.agg cs) cs.toList rfl rfl rfl hsz.out hone.out hPT.out.h.z (by rw [HC.out]; exact Nat.le_refl 17) cs (by rw [HC.out]; simp) ?_; intro w9 hb9 ho9; have HB9 := Aside0.mk hb9; have HO9 := Aside0.mk ho9; clear hb9 ho9))
              refine bodyPost_ret (v := .tuple #[.agg cs, .int .i64 0, .int .i64 0]) ?_ rfl (ParsePost.yes hX.out HC.out (HO9.out.below hPT.out.h.bel (Nat.le_refl _)) (HO6.out.only HO9.out))
              refine (results_ctt (p := 2) (u := 3) (v := 4) (g := w.heap.size) (t := 26) (cs := cs) (fr := (0, 0)) ?_ _ _ _ ?_ HB9.out hu2 rfl hsz.out) <;> rfl
            · have hX := Lib.hid (show x = (Pat.zero, ec) from hX2.out.trans (if_neg he))
              have be : (ec == 0) = false := beq_eq_false_iff_ne.mpr he
              clear hX2
              go_wp2_with (first
                | ((with_reducible refine gate_ (.load 26 (.tmp 8)) rfl ?_); refine load_row_w (by rfl) 26 (.tmp 8) rfl w3.heap.size rfl 26 cs (0, 0) _ hc5.out hu2 rfl hsz.out ?_)
                | (go_at_call 8; refine CH.out.mono ?_; rintro e wT ⟨rfl, hb6⟩; have hPT := Aside0.mk (hP10.out.below hb6); clear hb6)
                | ((with_reducible refine gate_ (.store 26 (.tmp 2) (.tmp 65)) rfl ?_); refine store_blk rfl rfl 26 (.tmp 2) (.tmp 65) rfl (.agg zCells) zCells.toList rfl rfl rfl sizePat one_z (hPT.out.h.z) (Nat.le_refl 17) zCells (by simp) ?_; intro w9 hb9 ho9; have HB9 := Aside0.mk hb9; have HO9 := Aside0.mk ho9; clear hb9 ho9))
              refine bodyPost_ret (v := .tuple #[.agg zCells, .int .i64 0, .int .i64 ec]) ?_ rfl (ParsePost.no hX.out (HO9.out.below hPT.out.h.bel (Nat.le_refl _)))
              refine (results_ctt (p := 2) (u := 3) (v := 4) (g := w.heap.size) (t := 26) (cs := zCells) (fr := (0, 0)) ?_ _ _ _ ?_ HB9.out hu2 rfl sizePat) <;> rfl
end Go.Proofs.YtjpdakepfmepnaaDoor

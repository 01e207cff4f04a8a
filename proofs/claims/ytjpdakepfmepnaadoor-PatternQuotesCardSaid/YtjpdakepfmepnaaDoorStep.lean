/- The walks of decimal.Check and pattern.checkStep. (Printed by gen_step.py.) -/
import Derived.Test.YtjpdakepfmepnaaDoorDec
namespace Go.Proofs.YtjpdakepfmepnaaDoor
open Go.RowKit Go.Proofs.YtjpdakepfmepnaaDoorW.PrintWords Pat
set_option linter.unusedVariables false
set_option linter.unusedSimpArgs false

theorem decOk_form (neg : Bool) (i f : List UInt8) : decOk neg i f = (decide (i.length ≤ 40) && decide (f.length + i.length ≤ 40) && formS neg i f) := by
  unfold decOk formS
  simp only [Bool.and_assoc]
theorem form_bs {neg : Bool} {i f : List UInt8} {b : Bool} (h : formS neg i f = b) (hi : i.length ≤ 1048576) (hf : f.length ≤ 1048576) (w : World) :
    Calls Tryd.prog 46 #[.agg #[.bool neg, .string (bs i), .string (bs f)]] w fun e w' => e = .returned (.bool b) ∧ Below w.heap.size w w' := by
  have := form_any neg i f w hi hf
  rw [h] at this; exact this
set_option maxHeartbeats 2000000 in
set_option maxRecDepth 100000 in
theorem dec_any (neg : Bool) (i f : List UInt8) (w : World) :
    Calls Tryd.prog 27 #[.agg #[.bool neg, .string (bs i), .string (bs f)]] w fun e w' => e = .returned (.int .i64 (if decOk neg i f then 0 else 20)) ∧ Below w.heap.size w w' := by
  have hu := Tryd.underlying24
  obtain ⟨r, hr⟩ : ∃ r : Int, r = if decOk neg i f then 0 else 20 := ⟨_, rfl⟩
  rw [← hr]
  rw [decOk_form] at hr
  have HR := Lib.hid hr
  clear hr
  obtain ⟨n, hn⟩ : ∃ n, n = i.length := ⟨_, rfl⟩
  obtain ⟨m, hm⟩ : ∃ m, m = f.length := ⟨_, rfl⟩
  by_cases h1 : 40 < n
  · obtain rfl : r = 20 := by rw [HR.out, decide_eq_false (by omega)]; rfl
    have h1' : 40 < i.length := by omega
    go_enter Tryd.func27, Tryd.ntmps27
    go_wp2
    go_ret
    exact ⟨rfl, below_alloc (Below.refl _ _) _⟩
  · have h1' : i.length ≤ 40 := by omega
    by_cases h2 : 40 < m + n
    · obtain rfl : r = 20 := by rw [HR.out, decide_eq_true (by omega), decide_eq_false (by omega)]; rfl
      have h2' : (40 : Int) - i.length < f.length := by omega
      clear hn hm h1 h2
      go_enter Tryd.func27, Tryd.ntmps27
      go_wp2
      go_ret
      exact ⟨rfl, below_alloc (Below.refl _ _) _⟩
    · have h2' : (f.length : Int) ≤ 40 - i.length := by omega
      have h3' : f.length ≤ 1048576 := by omega
      have hr := HR.out
      rw [decide_eq_true (by omega), decide_eq_true (by omega), Bool.true_and, Bool.true_and] at hr
      clear HR hn hm h1 h2
      cases h4 : formS neg i f with
      | true =>
        rw [h4] at hr
        obtain rfl : r = 0 := hr
        have HF := Lib.hid (form_bs h4 (by omega) h3')
        clear h4
        go_enter Tryd.func27, Tryd.ntmps27
        go_wp2_with (go_at_call 46; refine (HF.out _).mono ?_; rintro e w2 ⟨rfl, hb⟩; have HB := Aside0.mk (below_then (below_alloc (Below.refl _ _) _) (by simp) hb); clear hb)
        go_ret
        exact ⟨rfl, HB.out⟩
      | false =>
        rw [h4] at hr
        obtain rfl : r = 20 := hr
        have HF := Lib.hid (form_bs h4 (by omega) h3')
        clear h4
        go_enter Tryd.func27, Tryd.ntmps27
        go_wp2_with (go_at_call 46; refine (HF.out _).mono ?_; rintro e w2 ⟨rfl, hb⟩; have HB := Aside0.mk (below_then (below_alloc (Below.refl _ _) _) (by simp) hb); clear hb)
        go_ret
        exact ⟨rfl, HB.out⟩
theorem dec_yes {neg : Bool} {i f : List UInt8} (h : decOk neg i f = true) (w : World) :
    Calls Tryd.prog 27 #[.agg #[.bool neg, .string (bs i), .string (bs f)]] w fun e w' => e = .returned (.int .i64 0) ∧ Below w.heap.size w w' := by
  have := dec_any neg i f w
  rw [h] at this; exact this
theorem dec_no {neg : Bool} {i f : List UInt8} (h : decOk neg i f = false) (w : World) :
    Calls Tryd.prog 27 #[.agg #[.bool neg, .string (bs i), .string (bs f)]] w fun e w' => e = .returned (.int .i64 20) ∧ Below w.heap.size w w' := by
  have := dec_any neg i f w
  rw [h] at this; exact this
/-- A slice's three words. -/
structure Sl where
  A : Option Addr
  n : Nat
  c : Nat
abbrev Sl.v (s : Sl) : Value := .slice s.A s.n s.c
abbrev patCells (s0 s1 s3 s4 : Sl) (p : Pat) : Array Value := #[.slice s0.A s0.n s0.c, .slice s1.A s1.n s1.c, .bool p.neg, .slice s3.A s3.n s3.c, .slice s4.A s4.n s4.c, .int .i64 p.minInt, .int .i64 p.minFrac, .int .i64 p.maxFrac, .int .i64 p.minSig, .int .i64 p.maxSig, .int .i64 p.group, .int .i64 p.second, .bool p.sNeg, .string (bs p.sInt), .string (bs p.sFrac), .int .i64 p.exp, .bool p.expPlus]
abbrev patV (s0 s1 s3 s4 : Sl) (p : Pat) : Value := .agg (patCells s0 s1 s3 s4 p)
attribute [local go_sem high] eqDec
theorem one_pat (s0 s1 s3 s4 : Sl) (p : Pat) : ∀ q ∈ (patCells s0 s1 s3 s4 p).toList, q.oneCell' = true := by
  intro q hq
  simp only [List.mem_cons, List.not_mem_nil, or_false] at hq
  rcases hq with rfl | rfl | rfl | rfl | rfl | rfl | rfl | rfl | rfl | rfl | rfl | rfl | rfl | rfl | rfl | rfl | rfl <;> rfl
theorem blk_alloc2 (w : World) (o1 o2 : Obj) : ((w.alloc o1).alloc o2).heap[w.heap.size + 1]? = some o2 := by
  have := blk_new (w.alloc o1) o2
  rwa [World.size_alloc] at this
theorem trim_cat {l m : List UInt8} (hs : l.length + m.length ≤ 1048576) (w : World) : Calls Tryd.prog 28 #[.string (bs l ++ bs m), .string ⟨#[48]⟩] w fun e w' => e = .returned (.string (bs (Lib.trimB (l ++ m) 48))) ∧ ∃ n, w' = w.drewN n := by
  have := tr_any (bs l ++ bs m) w (by rw [ByteArray.size_append]; show l.length + m.length ≤ _; omega)
  rw [show (bs l ++ bs m).data.toList = l ++ m by rw [ByteArray.data_append, Array.toList_append]] at this
  exact this
set_option maxHeartbeats 4000000 in
set_option maxRecDepth 100000 in
theorem step_any (s0 s1 s3 s4 : Sl) (p : Pat) (w : World) :
    Calls Tryd.prog 19 #[patV s0 s1 s3 s4 p] w fun e w' => e = .returned (.bool (stepOk p)) ∧ Below w.heap.size w w' := by
  have hu := Tryd.underlying24
  have hu2 := Tryd.underlying26
  obtain ⟨p0, p1, p2, p3, p4, minInt, minFrac, maxFrac, minSig, maxSig, group, second, sNeg, sInt, sFrac, exp, plus⟩ := p
  obtain ⟨r, hr⟩ : ∃ r : Bool, r = stepOk ⟨p0, p1, p2, p3, p4, minInt, minFrac, maxFrac, minSig, maxSig, group, second, sNeg, sInt, sFrac, exp, plus⟩ := ⟨_, rfl⟩
  rw [← hr]
  unfold stepOk noStep at hr
  dsimp only at hr ⊢
  have HR := Lib.hid hr
  clear hr
  cases hd : decOk sNeg sInt sFrac with
  | false =>
    by_cases hz : sNeg = false ∧ sInt = [] ∧ sFrac = []
    · obtain ⟨rfl, rfl, rfl⟩ := hz
      obtain rfl : r = true := HR.out
      clear hd
      go_enter Tryd.func19, Tryd.ntmps19
      go_wp2
      go_ret
      exact ⟨rfl, below_alloc (below_alloc (Below.refl _ _) _) _⟩
    · have HD := Lib.hid (dec_no hd)
      obtain rfl : r = false := by
        rw [HR.out, hd]
        have : (sNeg == false && sInt == [] && sFrac == []) = false := by
          cases sNeg <;> cases sInt <;> cases sFrac <;> simp at hz ⊢
        rw [this]; simp
      clear hd HR
      cases sNeg with
      | true =>
        clear hz
        go_enter Tryd.func19, Tryd.ntmps19
        go_wp2_with (go_at_call 27; refine (HD.out _).mono ?_; rintro e w2 ⟨rfl, hb⟩; have HB := Aside0.mk (below_then (below_alloc (below_alloc (Below.refl _ _) _) _) (by simp; omega) hb); clear hb)
        go_ret
        exact ⟨rfl, HB.out⟩
      | false =>
        cases sInt with
        | cons c q =>
          clear hz
          go_enter Tryd.func19, Tryd.ntmps19
          go_wp2_with (go_at_call 27; refine (HD.out _).mono ?_; rintro e w2 ⟨rfl, hb⟩; have HB := Aside0.mk (below_then (below_alloc (below_alloc (Below.refl _ _) _) _) (by simp; omega) hb); clear hb)
          go_ret
          exact ⟨rfl, HB.out⟩
        | nil =>
          cases sFrac with
          | nil => exact absurd ⟨rfl, rfl, rfl⟩ hz
          | cons c q =>
            clear hz
            go_enter Tryd.func19, Tryd.ntmps19
            go_wp2_with (go_at_call 27; refine (HD.out _).mono ?_; rintro e w2 ⟨rfl, hb⟩; have HB := Aside0.mk (below_then (below_alloc (below_alloc (Below.refl _ _) _) _) (by simp; omega) hb); clear hb)
            go_ret
            exact ⟨rfl, HB.out⟩
  | true =>
    have HD := Lib.hid (dec_yes hd)
    have hr := HR.out
    rw [hd, Bool.true_and] at hr
    clear HR
    have hl1 : sInt.length ≤ 40 ∧ sFrac.length + sInt.length ≤ 40 ∧ sInt ≠ [] := by
      have h := hd
      unfold decOk at h
      simp only [Bool.and_eq_true, decide_eq_true_eq] at h
      obtain ⟨⟨⟨⟨⟨⟨h1, h2⟩, h3⟩, _⟩, _⟩, _⟩, _⟩ := h
      exact ⟨h1, h2, by simpa using h3⟩
    obtain ⟨hl1, hl2, hne⟩ := hl1
    clear hd
    cases sInt with
    | nil => exact absurd rfl hne
    | cons c q =>
      clear hne
      have hsI : (bs (c :: q)).size ≤ 1048576 := by show (c :: q).length ≤ _; omega
      have hsF : (bs sFrac).size ≤ 1048576 := by show sFrac.length ≤ _; omega
      cases sNeg with
      | true =>
        obtain rfl : r = false := by rw [hr]; rfl
        clear hr
        go_enter Tryd.func19, Tryd.ntmps19
        go_wp2_with (go_at_call 27; refine (HD.out _).mono ?_; rintro e w2 ⟨rfl, hb⟩; have hk := blk_below (blk_alloc2 w _ _) hb; have k0 := (blk_cell hk 0).trans (rfl : _ = some (Value.bool true)); have HB := Aside0.mk (below_then (below_alloc (below_alloc (Below.refl _ _) _) _) (by simp; omega) hb); clear hb hk)
        go_ret
        exact ⟨rfl, HB.out⟩
      | false =>
        have hr2 : r = (nonzero ((c :: q) ++ sFrac) && ((sFrac.length : Int) == minFrac) && decide (minSig ≤ 0) && ((c :: q) == [48] || decide (((c :: q).length : Int) ≤ minInt))) := by rw [hr]; simp
        clear hr
        have HT0 := trim_cat (l := c :: q) (m := sFrac) (by omega)
        cases hz : nonzero ((c :: q) ++ sFrac) with
        | false =>
          obtain rfl : r = false := by rw [hr2, hz]; simp
          rw [(trim_nil _).mpr hz] at HT0
          have HT := Lib.hid HT0
          clear hr2 hz HT0
          go_enter Tryd.func19, Tryd.ntmps19
          go_wp2_with (first | (go_at_call 27; refine (HD.out _).mono ?_; rintro e w2 ⟨rfl, hb⟩; have hk := blk_below (blk_alloc2 w _ _) hb; have hp := blk_below (heap_alloc2_old w _ _) hb; have k0 := (blk_cell hk 0).trans (rfl : _ = some (Value.bool false)); have k1 := (blk_cell hk 1).trans (rfl : _ = some (Value.string (bs (c :: q)))); have k2 := (blk_cell hk 2).trans (rfl : _ = some (Value.string (bs sFrac))); have m5 := (blk_cell hp 5).trans (rfl : _ = some (Value.int .i64 minInt)); have m6 := (blk_cell hp 6).trans (rfl : _ = some (Value.int .i64 minFrac)); have m8 := (blk_cell hp 8).trans (rfl : _ = some (Value.int .i64 minSig)); have HB := Aside0.mk (below_then (below_alloc (below_alloc (Below.refl _ _) _) _) (by simp; omega) hb); clear hb hk hp) | (go_at_call 28; refine (HT.out _).mono ?_; rintro e w3 ⟨rfl, n, rfl⟩))
          go_ret
          exact ⟨rfl, pw_below_drewN HB.out _⟩
        | true =>
          obtain ⟨c2, q2, hcq⟩ : ∃ c2 q2, Lib.trimB ((c :: q) ++ sFrac) 48 = c2 :: q2 := by
            cases h : Lib.trimB ((c :: q) ++ sFrac) 48 with
            | nil => rw [(trim_nil _).mp h] at hz; cases hz
            | cons x y => exact ⟨x, y, rfl⟩
          rw [hcq] at HT0
          have HT := Lib.hid HT0
          rw [hz, Bool.true_and] at hr2
          clear hz HT0 hcq
          by_cases hf : (sFrac.length : Int) = minFrac
          · have bf : ((sFrac.length : Int) == minFrac) = true := beq_iff_eq.mpr hf
            rw [bf, Bool.true_and] at hr2
            by_cases hg : minSig ≤ 0
            · rw [decide_eq_true hg, Bool.true_and] at hr2
              have hg2 : ¬ 0 < minSig := by omega
              cases q with
              | nil =>
                by_cases h48 : c = 48
                · subst h48
                  obtain rfl : r = true := by rw [hr2]; rfl
                  clear hr2
                  go_enter Tryd.func19, Tryd.ntmps19
                  go_wp2_with (first | (go_at_call 27; refine (HD.out _).mono ?_; rintro e w2 ⟨rfl, hb⟩; have hk := blk_below (blk_alloc2 w _ _) hb; have hp := blk_below (heap_alloc2_old w _ _) hb; have k0 := (blk_cell hk 0).trans (rfl : _ = some (Value.bool false)); have k1 := (blk_cell hk 1).trans (rfl : _ = some (Value.string (bs ([48])))); have k2 := (blk_cell hk 2).trans (rfl : _ = some (Value.string (bs sFrac))); have m5 := (blk_cell hp 5).trans (rfl : _ = some (Value.int .i64 minInt)); have m6 := (blk_cell hp 6).trans (rfl : _ = some (Value.int .i64 minFrac)); have m8 := (blk_cell hp 8).trans (rfl : _ = some (Value.int .i64 minSig)); have HB := Aside0.mk (below_then (below_alloc (below_alloc (Below.refl _ _) _) _) (by simp; omega) hb); clear hb hk hp) | (go_at_call 28; refine (HT.out _).mono ?_; rintro e w3 ⟨rfl, n, rfl⟩))
                  go_ret
                  exact ⟨rfl, pw_below_drewN HB.out _⟩
                · have b48 : (c == 48) = false := beq_eq_false_iff_ne.mpr h48
                  by_cases hi : (([c] : List UInt8).length : Int) ≤ minInt
                  · obtain rfl : r = true := by rw [hr2, decide_eq_true hi, Bool.or_true]
                    have hi2 : (1 : Int) ≤ minInt := hi
                    clear hr2
                    go_enter Tryd.func19, Tryd.ntmps19
                    go_wp2_with (first | (go_at_call 27; refine (HD.out _).mono ?_; rintro e w2 ⟨rfl, hb⟩; have hk := blk_below (blk_alloc2 w _ _) hb; have hp := blk_below (heap_alloc2_old w _ _) hb; have k0 := (blk_cell hk 0).trans (rfl : _ = some (Value.bool false)); have k1 := (blk_cell hk 1).trans (rfl : _ = some (Value.string (bs ([c])))); have k2 := (blk_cell hk 2).trans (rfl : _ = some (Value.string (bs sFrac))); have m5 := (blk_cell hp 5).trans (rfl : _ = some (Value.int .i64 minInt)); have m6 := (blk_cell hp 6).trans (rfl : _ = some (Value.int .i64 minFrac)); have m8 := (blk_cell hp 8).trans (rfl : _ = some (Value.int .i64 minSig)); have HB := Aside0.mk (below_then (below_alloc (below_alloc (Below.refl _ _) _) _) (by simp; omega) hb); clear hb hk hp) | (go_at_call 28; refine (HT.out _).mono ?_; rintro e w3 ⟨rfl, n, rfl⟩))
                    go_ret
                    exact ⟨rfl, pw_below_drewN HB.out _⟩
                  · obtain rfl : r = false := by rw [hr2, decide_eq_false hi]; simp [h48]
                    have hi2 : ¬ (1 : Int) ≤ minInt := hi
                    clear hr2
                    go_enter Tryd.func19, Tryd.ntmps19
                    go_wp2_with (first | (go_at_call 27; refine (HD.out _).mono ?_; rintro e w2 ⟨rfl, hb⟩; have hk := blk_below (blk_alloc2 w _ _) hb; have hp := blk_below (heap_alloc2_old w _ _) hb; have k0 := (blk_cell hk 0).trans (rfl : _ = some (Value.bool false)); have k1 := (blk_cell hk 1).trans (rfl : _ = some (Value.string (bs ([c])))); have k2 := (blk_cell hk 2).trans (rfl : _ = some (Value.string (bs sFrac))); have m5 := (blk_cell hp 5).trans (rfl : _ = some (Value.int .i64 minInt)); have m6 := (blk_cell hp 6).trans (rfl : _ = some (Value.int .i64 minFrac)); have m8 := (blk_cell hp 8).trans (rfl : _ = some (Value.int .i64 minSig)); have HB := Aside0.mk (below_then (below_alloc (below_alloc (Below.refl _ _) _) _) (by simp; omega) hb); clear hb hk hp) | (go_at_call 28; refine (HT.out _).mono ?_; rintro e w3 ⟨rfl, n, rfl⟩))
                    go_ret
                    exact ⟨ret_bool (decide_eq_false (by omega)), pw_below_drewN HB.out _⟩
              | cons d q =>
                by_cases hi : ((c :: d :: q).length : Int) ≤ minInt
                · obtain rfl : r = true := by rw [hr2, decide_eq_true hi, Bool.or_true]
                  have hi2 : (q.length : Int) + 1 + 1 ≤ minInt := by simpa using hi
                  clear hr2
                  go_enter Tryd.func19, Tryd.ntmps19
                  go_wp2_with (first | (go_at_call 27; refine (HD.out _).mono ?_; rintro e w2 ⟨rfl, hb⟩; have hk := blk_below (blk_alloc2 w _ _) hb; have hp := blk_below (heap_alloc2_old w _ _) hb; have k0 := (blk_cell hk 0).trans (rfl : _ = some (Value.bool false)); have k1 := (blk_cell hk 1).trans (rfl : _ = some (Value.string (bs (c :: d :: q)))); have k2 := (blk_cell hk 2).trans (rfl : _ = some (Value.string (bs sFrac))); have m5 := (blk_cell hp 5).trans (rfl : _ = some (Value.int .i64 minInt)); have m6 := (blk_cell hp 6).trans (rfl : _ = some (Value.int .i64 minFrac)); have m8 := (blk_cell hp 8).trans (rfl : _ = some (Value.int .i64 minSig)); have HB := Aside0.mk (below_then (below_alloc (below_alloc (Below.refl _ _) _) _) (by simp; omega) hb); clear hb hk hp) | (go_at_call 28; refine (HT.out _).mono ?_; rintro e w3 ⟨rfl, n, rfl⟩))
                  go_ret
                  exact ⟨rfl, pw_below_drewN HB.out _⟩
                · obtain rfl : r = false := by rw [hr2, decide_eq_false hi]; simp
                  have hi2 : ¬ (q.length : Int) + 1 + 1 ≤ minInt := by simpa using hi
                  clear hr2
                  go_enter Tryd.func19, Tryd.ntmps19
                  go_wp2_with (first | (go_at_call 27; refine (HD.out _).mono ?_; rintro e w2 ⟨rfl, hb⟩; have hk := blk_below (blk_alloc2 w _ _) hb; have hp := blk_below (heap_alloc2_old w _ _) hb; have k0 := (blk_cell hk 0).trans (rfl : _ = some (Value.bool false)); have k1 := (blk_cell hk 1).trans (rfl : _ = some (Value.string (bs (c :: d :: q)))); have k2 := (blk_cell hk 2).trans (rfl : _ = some (Value.string (bs sFrac))); have m5 := (blk_cell hp 5).trans (rfl : _ = some (Value.int .i64 minInt)); have m6 := (blk_cell hp 6).trans (rfl : _ = some (Value.int .i64 minFrac)); have m8 := (blk_cell hp 8).trans (rfl : _ = some (Value.int .i64 minSig)); have HB := Aside0.mk (below_then (below_alloc (below_alloc (Below.refl _ _) _) _) (by simp; omega) hb); clear hb hk hp) | (go_at_call 28; refine (HT.out _).mono ?_; rintro e w3 ⟨rfl, n, rfl⟩))
                  go_ret
                  exact ⟨ret_bool (decide_eq_false (by omega)), pw_below_drewN HB.out _⟩
            · obtain rfl : r = false := by rw [hr2, decide_eq_false hg]; rfl
              have hg2 : 0 < minSig := by omega
              clear hr2
              go_enter Tryd.func19, Tryd.ntmps19
              go_wp2_with (first | (go_at_call 27; refine (HD.out _).mono ?_; rintro e w2 ⟨rfl, hb⟩; have hk := blk_below (blk_alloc2 w _ _) hb; have hp := blk_below (heap_alloc2_old w _ _) hb; have k0 := (blk_cell hk 0).trans (rfl : _ = some (Value.bool false)); have k1 := (blk_cell hk 1).trans (rfl : _ = some (Value.string (bs (c :: q)))); have k2 := (blk_cell hk 2).trans (rfl : _ = some (Value.string (bs sFrac))); have m5 := (blk_cell hp 5).trans (rfl : _ = some (Value.int .i64 minInt)); have m6 := (blk_cell hp 6).trans (rfl : _ = some (Value.int .i64 minFrac)); have m8 := (blk_cell hp 8).trans (rfl : _ = some (Value.int .i64 minSig)); have HB := Aside0.mk (below_then (below_alloc (below_alloc (Below.refl _ _) _) _) (by simp; omega) hb); clear hb hk hp) | (go_at_call 28; refine (HT.out _).mono ?_; rintro e w3 ⟨rfl, n, rfl⟩))
              go_ret
              exact ⟨rfl, pw_below_drewN HB.out _⟩
          · have bf : ((sFrac.length : Int) == minFrac) = false := beq_eq_false_iff_ne.mpr hf
            obtain rfl : r = false := by rw [hr2, bf]; rfl
            clear hr2
            go_enter Tryd.func19, Tryd.ntmps19
            go_wp2_with (first | (go_at_call 27; refine (HD.out _).mono ?_; rintro e w2 ⟨rfl, hb⟩; have hk := blk_below (blk_alloc2 w _ _) hb; have hp := blk_below (heap_alloc2_old w _ _) hb; have k0 := (blk_cell hk 0).trans (rfl : _ = some (Value.bool false)); have k1 := (blk_cell hk 1).trans (rfl : _ = some (Value.string (bs (c :: q)))); have k2 := (blk_cell hk 2).trans (rfl : _ = some (Value.string (bs sFrac))); have m5 := (blk_cell hp 5).trans (rfl : _ = some (Value.int .i64 minInt)); have m6 := (blk_cell hp 6).trans (rfl : _ = some (Value.int .i64 minFrac)); have m8 := (blk_cell hp 8).trans (rfl : _ = some (Value.int .i64 minSig)); have HB := Aside0.mk (below_then (below_alloc (below_alloc (Below.refl _ _) _) _) (by simp; omega) hb); clear hb hk hp) | (go_at_call 28; refine (HT.out _).mono ?_; rintro e w3 ⟨rfl, n, rfl⟩))
            go_ret
            exact ⟨rfl, pw_below_drewN HB.out _⟩
end Go.Proofs.YtjpdakepfmepnaaDoor

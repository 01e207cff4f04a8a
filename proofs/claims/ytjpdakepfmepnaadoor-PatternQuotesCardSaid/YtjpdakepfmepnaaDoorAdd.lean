/- The walk of pattern.add: a piece behind others. -/
import Derived.Test.YtjpdakepfmepnaaDoorQuote
import Derived.StillTailTactics
import Derived.BigRegion
namespace Go.Proofs.YtjpdakepfmepnaaDoor
open Go.RowKit Go.Proofs.YtjpdakepfmepnaaDoorW.PrintWords Pat
set_option linter.unusedVariables false
set_option linter.unusedSimpArgs false

theorem addS_nil (a : Aff) : addS [] a = [a] := rfl
theorem addS_snoc (l : List Aff) (b a : Aff) : addS (l ++ [b]) a = if b.kind = a.kind then (if a.kind = 1 then l ++ [⟨b.kind, b.text ++ a.text, b.n⟩] else if a.kind = 6 then l ++ [⟨b.kind, b.text, b.n + a.n⟩] else l ++ [b] ++ [a]) else l ++ [b] ++ [a] := by
  simp [addS]

/-- The last piece of a row of one's own: its cells. -/
theorem last_cells {l : List Aff} {k : Int} {x : List UInt8} {n : Int} {v : Value} {base : Nat} {w : World} (hO : Kd.R kA 28 w base (fun _ => True) v (l ++ [⟨k, x, n⟩])) :
    ∃ g cap, v = .slice (some ⟨g, 0, none⟩) (l.length + 1) cap ∧ base ≤ g ∧ g < w.heap.size ∧ w.cell? ⟨g, l.length * 3, none⟩ = some (.int .i64 k) ∧ w.cell? ⟨g, l.length * 3 + 1, none⟩ = some (.string (bs x)) ∧ w.cell? ⟨g, l.length * 3 + 2, none⟩ = some (.int .i64 n) ∧ ∀ j, w.frozen? ⟨g, l.length * 3 + j, none⟩ = false := by
  have hlen : (l ++ [(⟨k, x, n⟩ : Aff)]).length = l.length + 1 := by simp
  obtain ⟨g, cap, hv, hbg, hgw, _⟩ := Kd.R_form hO (by simp)
  rw [hlen] at hv
  subst hv
  obtain ⟨c, hcl, hM, hc, hf⟩ := Kd.R_elem hO zA (l.length : Int) (by omega) (by omega)
  rw [Int.toNat_natCast] at hM hc hf
  have hgd : (l ++ [(⟨k, x, n⟩ : Aff)]).getD l.length zA = ⟨k, x, n⟩ := by simp
  rw [hgd] at hM
  obtain rfl := kA_openM hM
  exact ⟨g, cap, rfl, hbg, hgw, hc 0 _ rfl, hc 1 _ rfl, hc 2 _ rfl, hf⟩

theorem take_cells (a b c u : Value) : ([a, b, c].take 1 ++ [u] ++ [a, b, c].drop (1 + [u].length)) = [a, u, c] ∧ ([a, b, c].take 2 ++ [u] ++ [a, b, c].drop (2 + [u].length)) = [a, b, u] := ⟨rfl, rfl⟩
/-- The last piece's text, its number written. -/
theorem last_text {l : List Aff} {k : Int} {x : List UInt8} {n : Int} {g cap base : Nat} {w : World} (hO : Kd.R kA 28 w base (fun _ => True) (.slice (some ⟨g, 0, none⟩) (l.length + 1) cap) (l ++ [⟨k, x, n⟩])) (z : List UInt8) :
    Kd.R kA 28 (w.setCell ⟨g, l.length * 3 + 1, none⟩ (.string (bs z))) base (fun _ => True) (.slice (some ⟨g, 0, none⟩) (l.length + 1) cap) (l ++ [⟨k, z, n⟩]) := by
  obtain ⟨c, hcl, hM, hc, _⟩ := Kd.R_elem hO zA (l.length : Int) (by omega) (by omega)
  have hgd : (l ++ [(⟨k, x, n⟩ : Aff)]).getD (l.length : Int).toNat zA = ⟨k, x, n⟩ := by simp
  rw [hgd] at hM
  obtain rfl := kA_openM hM
  have h := (Kd.R_seg hO (l.length : Int) (by omega) (by omega) (seg := [.string (bs z)]) (j := 1) hcl hc (by rw [kA_sz]; simp) (x' := ⟨k, z, n⟩) (okp := fun _ => False) (kA_mkM _ _ _ _) (fun _ h => h.elim)).1
  have hs : (l ++ [(⟨k, x, n⟩ : Aff)]).set (l.length : Int).toNat ⟨k, z, n⟩ = l ++ [⟨k, z, n⟩] := by simp
  rw [hs] at h
  exact h
theorem last_num {l : List Aff} {k : Int} {x : List UInt8} {n : Int} {g cap base : Nat} {w : World} (hO : Kd.R kA 28 w base (fun _ => True) (.slice (some ⟨g, 0, none⟩) (l.length + 1) cap) (l ++ [⟨k, x, n⟩])) (z : Int) :
    Kd.R kA 28 (w.setCell ⟨g, l.length * 3 + 2, none⟩ (.int .i64 z)) base (fun _ => True) (.slice (some ⟨g, 0, none⟩) (l.length + 1) cap) (l ++ [⟨k, x, z⟩]) := by
  obtain ⟨c, hcl, hM, hc, _⟩ := Kd.R_elem hO zA (l.length : Int) (by omega) (by omega)
  have hgd : (l ++ [(⟨k, x, n⟩ : Aff)]).getD (l.length : Int).toNat zA = ⟨k, x, n⟩ := by simp
  rw [hgd] at hM
  obtain rfl := kA_openM hM
  have h := (Kd.R_seg hO (l.length : Int) (by omega) (by omega) (seg := [.int .i64 z]) (j := 2) hcl hc (by rw [kA_sz]; simp) (x' := ⟨k, x, z⟩) (okp := fun _ => False) (kA_mkM _ _ _ _) (fun _ h => h.elim)).1
  have hs : (l ++ [(⟨k, x, n⟩ : Aff)]).set (l.length : Int).toNat ⟨k, x, z⟩ = l ++ [⟨k, x, z⟩] := by simp
  rw [hs] at h
  exact h
theorem bs_append (x y : List UInt8) : bs x ++ bs y = bs (x ++ y) := by
  apply ByteArray.ext
  simp [bs]

def AddPost (w0 : World) (l : List Aff) (e : Ending) (w' : World) : Prop := ∃ v', e = .returned v' ∧ Kd.R kA 28 w' w0.heap.size (fun _ => True) v' l ∧ Below w0.heap.size w0 w'

set_option maxHeartbeats 2000000 in
set_option maxRecDepth 100000 in
theorem add_text (l : List Aff) (x y : List UInt8) (n m : Int) (v : Value) (w0 w : World) (hO : Kd.R kA 28 w w0.heap.size (fun _ => True) v (l ++ [⟨1, x, n⟩])) (hB : Below w0.heap.size w0 w) (hl : l.length ≤ 1048576) (hz : x.length + y.length ≤ 1073741824) :
    Calls Tryd.prog 36 #[v, affV ⟨1, y, m⟩] w (AddPost w0 (l ++ [⟨1, x ++ y, n⟩])) := by
  obtain ⟨g, cap, rfl, hbg, hgw, c0, c1, c2, hf⟩ := last_cells hO
  have HO := Lib.hid hO
  have HB := Lib.hid hB
  have f1 := hf 1
  have ht : ((l.length : Int) < (l.length : Int) + 1) = True := eq_true (by omega)
  clear hO hB hf
  go_enter Tryd.func36, Tryd.ntmps36
  go_wp2
  go_quiet (fail)
  go_wp2
  go_region
  go_wp2
  go_ret
  refine ⟨_, rfl, ?_, ?_⟩
  · rw [bs_append]
    exact last_text (Kd.R_drewN (Kd.R_alloc HO.out _) _) _
  · exact below_set (pw_below_drewN (below_alloc HB.out _) _) hbg
set_option maxHeartbeats 2000000 in
set_option maxRecDepth 100000 in
theorem add_money (l : List Aff) (x y : List UInt8) (n m : Int) (v : Value) (w0 w : World) (hO : Kd.R kA 28 w w0.heap.size (fun _ => True) v (l ++ [⟨6, x, n⟩])) (hB : Below w0.heap.size w0 w) (hl : l.length ≤ 1048576) (h0 : 0 ≤ n) (h1 : n ≤ 1048576) (h2 : 0 ≤ m) (h3 : m ≤ 1048576) :
    Calls Tryd.prog 36 #[v, affV ⟨6, y, m⟩] w (AddPost w0 (l ++ [⟨6, x, n + m⟩])) := by
  obtain ⟨g, cap, rfl, hbg, hgw, c0, c1, c2, hf⟩ := last_cells hO
  have HO := Lib.hid hO
  have HB := Lib.hid hB
  have f1 := hf 2
  have ht : ((l.length : Int) < (l.length : Int) + 1) = True := eq_true (by omega)
  clear hO hB hf
  go_enter Tryd.func36, Tryd.ntmps36
  go_wp2
  go_quiet (fail)
  go_wp2
  go_region
  go_wp2
  go_ret
  refine ⟨_, rfl, ?_, ?_⟩
  · exact last_num (Kd.R_drewN (Kd.R_alloc HO.out _) _) _
  · exact below_set (pw_below_drewN (below_alloc HB.out _) _) hbg
set_option maxHeartbeats 2000000 in
set_option maxRecDepth 100000 in
theorem add_other (l : List Aff) (k j : Int) (x y : List UInt8) (n m : Int) (v : Value) (w0 w : World) (hO : Kd.R kA 28 w w0.heap.size (fun _ => True) v (l ++ [⟨k, x, n⟩])) (hB : Below w0.heap.size w0 w) (hl : l.length ≤ 1048576) (hkj : k ≠ j) :
    Calls Tryd.prog 36 #[v, affV ⟨j, y, m⟩] w (AddPost w0 (l ++ [⟨k, x, n⟩] ++ [⟨j, y, m⟩])) := by
  obtain ⟨g, cap, rfl, hbg, hgw, c0, c1, c2, hf⟩ := last_cells hO
  have HO := Lib.hid hO
  have HB := Lib.hid hB
  have f1 := hf 2
  have bk : (k == j) = false := beq_eq_false_iff_ne.mpr hkj
  clear hO hB hf hkj
  go_enter Tryd.func36, Tryd.ntmps36
  go_wp2
  go_quiet (fail)
  go_wp2_with (at_builtin; refine Kd.R_append kA (w0 := w0) w0.heap.size rfl (.tmp 49) (.tmp 51) 22 28 (.agg #[.int .i64 0, .string ⟨#[]⟩, .int .i64 0]) 32 rfl Tryd.underlying22 infoAff rfl (by decide) (by decide) (.slice (some ⟨g, 0, none⟩) (l.length + 1) cap) (l ++ [⟨k, x, n⟩]) ⟨j, y, m⟩ [.int .i64 j, .string (bs y), .int .i64 m] (fun _ => True) (fun _ => False) rfl ?aX ?aP (fun _ hk => hk.elim) ?aF ?aO ?aB ?aS ?aL ?_; (case aX => simp [Act.eval]); (case aP => exact kA_mkM _ _ _ _); (case aB => exact pw_below_drewN (below_alloc HB.out _) _); (case aF => exact (fun _ _ => trivial)); (case aO => exact Kd.R_drewN (Kd.R_alloc HO.out _) _); (case aS => exact (below_size (pw_below_drewN (below_alloc HB.out _) _))); (case aL => simp; omega); intro v1 w1 ho hb _ _; have hO1 := Aside0.mk ho; have hB1 := Aside0.mk hb; clear ho hb)
  go_ret
  exact ⟨_, rfl, hO1.out, hB1.out⟩
set_option maxHeartbeats 2000000 in
set_option maxRecDepth 100000 in
theorem add_nil (j : Int) (y : List UInt8) (m : Int) (v : Value) (w0 w : World) (hO : Kd.R kA 28 w w0.heap.size (fun _ => True) v []) (hB : Below w0.heap.size w0 w) :
    Calls Tryd.prog 36 #[v, affV ⟨j, y, m⟩] w (AddPost w0 [⟨j, y, m⟩]) := by
  obtain ⟨A, c, rfl⟩ := Kd.R_slice hO
  have HO := Lib.hid hO
  have HB := Lib.hid hB
  clear hO hB
  go_enter Tryd.func36, Tryd.ntmps36
  go_wp2
  go_quiet (fail)
  go_wp2_with (at_builtin; refine Kd.R_append kA (w0 := w0) w0.heap.size rfl (.tmp 49) (.tmp 51) 22 28 (.agg #[.int .i64 0, .string ⟨#[]⟩, .int .i64 0]) 32 rfl Tryd.underlying22 infoAff rfl (by decide) (by decide) (.slice A 0 c) ([]) ⟨j, y, m⟩ [.int .i64 j, .string (bs y), .int .i64 m] (fun _ => True) (fun _ => False) rfl ?aX ?aP (fun _ hk => hk.elim) ?aF ?aO ?aB ?aS ?aL ?_; (case aX => simp [Act.eval]); (case aP => exact kA_mkM _ _ _ _); (case aB => exact pw_below_drewN (below_alloc HB.out _) _); (case aF => exact (fun _ _ => trivial)); (case aO => exact Kd.R_drewN (Kd.R_alloc HO.out _) _); (case aS => exact (below_size (pw_below_drewN (below_alloc HB.out _) _))); (case aL => simp); intro v1 w1 ho hb _ _; have hO1 := Aside0.mk ho; have hB1 := Aside0.mk hb; clear ho hb)
  go_ret
  exact ⟨_, rfl, hO1.out, hB1.out⟩
set_option maxHeartbeats 2000000 in
set_option maxRecDepth 100000 in
/-- A plain sign behind one of its own kind. -/
theorem add_same (l : List Aff) (k : Int) (x y : List UInt8) (n m : Int) (v : Value) (w0 w : World) (hO : Kd.R kA 28 w w0.heap.size (fun _ => True) v (l ++ [⟨k, x, n⟩])) (hB : Below w0.heap.size w0 w) (hl : l.length ≤ 1048576) (h1 : k ≠ 1) (h6 : k ≠ 6) :
    Calls Tryd.prog 36 #[v, affV ⟨k, y, m⟩] w (AddPost w0 (l ++ [⟨k, x, n⟩] ++ [⟨k, y, m⟩])) := by
  obtain ⟨g, cap, rfl, hbg, hgw, c0, c1, c2, hf⟩ := last_cells hO
  have HO := Lib.hid hO
  have HB := Lib.hid hB
  have ht : ((l.length : Int) < (l.length : Int) + 1) = True := eq_true (by omega)
  have b1 : (k == 1) = false := beq_eq_false_iff_ne.mpr h1
  have b6 : (k == 6) = false := beq_eq_false_iff_ne.mpr h6
  clear hO hB hf h1 h6
  go_enter Tryd.func36, Tryd.ntmps36
  go_wp2
  go_quiet (fail)
  go_wp2_with (at_builtin; refine Kd.R_append kA (w0 := w0) w0.heap.size rfl (.tmp 49) (.tmp 51) 22 28 (.agg #[.int .i64 0, .string ⟨#[]⟩, .int .i64 0]) 32 rfl Tryd.underlying22 infoAff rfl (by decide) (by decide) (.slice (some ⟨g, 0, none⟩) (l.length + 1) cap) (l ++ [⟨k, x, n⟩]) ⟨k, y, m⟩ [.int .i64 k, .string (bs y), .int .i64 m] (fun _ => True) (fun _ => False) rfl ?aX ?aP (fun _ hk => hk.elim) ?aF ?aO ?aB ?aS ?aL ?_; (case aX => simp [Act.eval]); (case aP => exact kA_mkM _ _ _ _); (case aB => exact pw_below_drewN (below_alloc HB.out _) _); (case aF => exact (fun _ _ => trivial)); (case aO => exact Kd.R_drewN (Kd.R_alloc HO.out _) _); (case aS => exact (below_size (pw_below_drewN (below_alloc HB.out _) _))); (case aL => simp; omega); intro v1 w1 ho hb _ _; have hO1 := Aside0.mk ho; have hB1 := Aside0.mk hb; clear ho hb)
  go_ret
  exact ⟨_, rfl, hO1.out, hB1.out⟩
/-- Whatever the piece: addS. -/
theorem add_any (l : List Aff) (a : Aff) (v : Value) (w0 w : World) (hO : Kd.R kA 28 w w0.heap.size (fun _ => True) v l) (hB : Below w0.heap.size w0 w) (hl : l.length ≤ 1048576)
    (hz : ∀ b ∈ l, b.text.length + a.text.length ≤ 1073741824) (hn : ∀ b ∈ l, b.kind = 6 → 0 ≤ b.n ∧ b.n ≤ 3) (h0 : a.kind = 6 → 0 ≤ a.n ∧ a.n ≤ 3) :
    Calls Tryd.prog 36 #[v, affV a] w (AddPost w0 (addS l a)) := by
  obtain ⟨j, y, m⟩ := a
  rcases List.eq_nil_or_concat l with rfl | ⟨l, ⟨k, x, n⟩, rfl⟩
  · exact add_nil j y m v w0 w hO hB
  · simp only [List.concat_eq_append] at *
    have hl2 : l.length ≤ 1048576 := by simp at hl; omega
    rw [addS_snoc]
    by_cases hk : k = j
    · subst hk
      rw [if_pos rfl]
      by_cases h1 : k = 1
      · subst h1
        rw [if_pos rfl]
        exact add_text l x y n m v w0 w hO hB hl2 (hz ⟨1, x, n⟩ (by simp))
      · rw [if_neg h1]
        by_cases h6 : k = 6
        · subst h6
          rw [if_pos rfl]
          obtain ⟨a1, a2⟩ := hn ⟨6, x, n⟩ (by simp) rfl
          obtain ⟨a3, a4⟩ := h0 rfl
          simp only at a1 a2 a3 a4
          exact add_money l x y n m v w0 w hO hB hl2 a1 (by omega) a3 (by omega)
        · rw [if_neg h6]
          exact add_same l k x y n m v w0 w hO hB hl2 h1 h6
    · rw [if_neg hk]
      exact add_other l k j x y n m v w0 w hO hB hl2 hk
end Go.Proofs.YtjpdakepfmepnaaDoor

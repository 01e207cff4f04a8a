/- The walk of pattern.printAffix. (Printed by gen_paff.py.) -/
import Derived.Test.YtjpdakepfmepnaaDoorBuild
import Derived.Test.YtjpdakepfmepnaaDoorText
import Derived.Test.YtjpdakepfmepnaaDoorHeld
namespace Go.Proofs.YtjpdakepfmepnaaDoor
open Go.RowKit Go.Proofs.YtjpdakepfmepnaaDoorW.PrintWords Pat
set_option linter.unusedVariables false
set_option linter.unusedSimpArgs false

theorem glob_up {w w1 : World} {v : Value} (hb : Below w.heap.size w w1) (hm : w.cell? ⟨0, 0, none⟩ = some v) : w1.cell? ⟨0, 0, none⟩ = some v := (hb.cell (World.block_lt_of_cell? w _ hm)).trans hm
theorem usedB.below {B b : Nat} {p : Value} {bs : List Value} {w w' : World} (h : Lib.BuilderAt 41 5 B b p bs w) (hb : Below w.heap.size w w') : Lib.BuilderAt 41 5 B b p bs w' := by
  obtain ⟨hB, v, hbk, hown, hne⟩ := h
  exact ⟨hB, v, blk_below hbk hb, own_move hown (fun k hk => hb.block k (hown.lt k hk).2), hne⟩
theorem isB.below {B b : Nat} {bs : List Value} {w w' : World} (h : isB B b bs w) (hb : Below w.heap.size w w') : isB B b bs w' := by
  rcases h with h | h
  · exact .inl (usedB.below h hb)
  · exact .inr (usedB.below h hb)
/-- A builder that holds these bytes. -/
abbrev bB (B b : Nat) (l : List UInt8) (w : World) : Prop := isB B b (Lib.byteCells l) w
theorem bB.str {B b : Nat} {l m : List UInt8} {w : World} (h : usedB B b (Lib.byteCells l ++ Lib.strCells (bs m)) w) : bB B b (l ++ m) w := by
  have e : Lib.byteCells l ++ Lib.strCells (bs m) = Lib.byteCells (l ++ m) := by
    rw [Lib.strCells_eq]; simp [Lib.byteCells]
  rw [e] at h
  exact .inr h
theorem bB.byte {B b : Nat} {l : List UInt8} {c : UInt8} {w : World} (h : usedB B b (Lib.byteCells l ++ [.int .u8 c.toNat]) w) : bB B b (l ++ [c]) w := by
  have e : Lib.byteCells l ++ [.int .u8 c.toNat] = Lib.byteCells (l ++ [c]) := by simp [Lib.byteCells]
  rw [e] at h
  exact .inr h
theorem ws_any (B b : Nat) (l m : List UInt8) (w : World) (h : bB B b l w) (hlen : (l ++ m).length ≤ 140737488355328) (hBw : B ≤ w.heap.size) :
    Calls Tryd.prog 11 #[.pointer (some ⟨b, 0, none⟩), .string (bs m)] w fun e w' => e = .returned (.tuple #[.int .i64 m.length, .nilIface]) ∧ (bB B b (l ++ m) w' ∧ Below B w w') := by
  refine (writeString_any B b (Lib.byteCells l) (bs m) w h (by rw [Lib.byteCells_length]; rw [List.length_append] at hlen; exact hlen) hBw).mono ?_
  rintro e w' ⟨rfl, h1, h2⟩
  exact ⟨rfl, bB.str h1, h2⟩
theorem wb_any (B b : Nat) (l : List UInt8) (c : UInt8) (w : World) (h : bB B b l w) (hlen : (l ++ [c]).length ≤ 140737488355328) (hBw : B ≤ w.heap.size) :
    Calls Tryd.prog 12 #[.pointer (some ⟨b, 0, none⟩), .int .u8 c.toNat] w fun e w' => e = .returned .nilIface ∧ (bB B b (l ++ [c]) w' ∧ Below B w w') := by
  refine (writeByte_any B b (Lib.byteCells l) c.toNat w h (by rw [Lib.byteCells_length]; rw [List.length_append] at hlen; exact hlen) hBw).mono ?_
  rintro e w' ⟨rfl, h1, h2⟩
  exact ⟨rfl, bB.byte h1, h2⟩
theorem affStr_step {l : List Aff} {i : Nat} (h : i < l.length) : affStr (l.take (i + 1)) = affStr (l.take i) ++ pieceStr (l.getD i zA) := by
  have e : l.getD i zA = l[i] := by simp [List.getD, List.getElem?_eq_getElem h]
  rw [List.take_succ_eq_append_getElem h, e]
  unfold affStr
  rw [List.flatMap_append]
  simp
theorem affStr_le (l : List Aff) (i : Nat) : (affStr (l.take i)).length ≤ (affStr l).length := by
  have e : affStr l = affStr (l.take i) ++ affStr (l.drop i) := by
    unfold affStr
    rw [← List.flatMap_append, List.take_append_drop]
  rw [e, List.length_append]; omega
/-- A piece that can be printed. -/
def goodP (a : Aff) : Prop := a.text.length ≤ 268435456 ∧ (a.kind = 1 ∨ a.kind = 2 ∨ a.kind = 3 ∨ a.kind = 4 ∨ a.kind = 5 ∨ (a.kind = 6 ∧ 1 ≤ a.n ∧ a.n ≤ 3))
theorem pieces_good : ∀ {b : Int} {l : List Aff}, piecesOk b l = true → ∀ a ∈ l, a.kind = 1 ∨ a.kind = 2 ∨ a.kind = 3 ∨ a.kind = 4 ∨ a.kind = 5 ∨ (a.kind = 6 ∧ 1 ≤ a.n ∧ a.n ≤ 3)
  | _, [], _, _, h => by simp at h
  | b, x :: l, h, a, ha => by
    unfold piecesOk at h
    rw [Bool.and_eq_true] at h
    rcases List.mem_cons.mp ha with rfl | ha
    · have h1 := h.1
      unfold pieceOk at h1
      split at h1
      · next e => exact .inl e
      · split at h1
        · next e =>
          simp only [Bool.and_eq_true, decide_eq_true_eq] at h1
          exact .inr (.inr (.inr (.inr (.inr ⟨e, h1.1.1.2, h1.1.2⟩))))
        · split at h1
          · next e => omega
          · cases h1
    · exact pieces_good h.2 a ha
theorem good_of {l : List Aff} (h : affErr l = 0) (ht : ∀ a ∈ l, a.text.length ≤ 268435456) : ∀ a ∈ l, goodP a := by
  intro a ha
  have hp : piecesOk 0 l = true := by
    unfold affErr at h
    split at h
    · cases h
    · split at h
      · assumption
      · cases h
  exact ⟨ht a ha, pieces_good hp a ha⟩
set_option maxHeartbeats 4000000 in
set_option maxRecDepth 100000 in
theorem printAffix_any (B b : Nat) (pre : List UInt8) (l : List Aff) (A : Option Addr) (c : Nat) (w0 w : World) (m : Int) (hm : w0.cell? ⟨0, 0, none⟩ = some (.int .i64 m)) (hC : Kd.C kA w0 A l.length l) (hB0 : w0.heap.size ≤ B) (hb0 : Below B w0 w) (hBw : B ≤ w.heap.size)
    (h : bB B b pre w) (hlen : (pre ++ affStr l).length ≤ 140737488355328) (hgood : ∀ a ∈ l, goodP a) (hl : l.length ≤ 1048576) :
    Calls Tryd.prog 10 #[.pointer (some ⟨b, 0, none⟩), .slice A l.length c] w fun e w' => e = .returned (.tuple #[]) ∧ (bB B b (pre ++ affStr l) w' ∧ Below B w w') := by
  have hu40 := Tryd.underlying28
  have HM := Lib.hid hm
  have HC := Aside0.mk hC
  have HH := Aside0.mk h
  have HG := Lib.hid hgood
  have HB0 := Aside0.mk (And.intro hb0 hBw)
  clear hm hC h hgood hb0 hBw
  go_enter Tryd.func10, Tryd.ntmps10
  go_wp2
  go_loopg [8] l.length (fun kq v8 w9 => ∃ i : Nat, v8 = .int .i64 i ∧ kq = l.length - i ∧ Aside0 (i ≤ l.length) ∧ Aside0 (bB B b (pre ++ affStr (l.take i)) w9) ∧ Aside0 (Below B w w9))
  case atStart => exact ⟨0, rfl, rfl, ⟨Nat.zero_le _⟩, ⟨by rw [List.take_zero]; simpa [affStr] using HH.out⟩, ⟨Below.refl _ _⟩⟩
  case round =>
    obtain ⟨i, rfl, hg, hi, hp, hb⟩ := hrel
    have HGR := Lib.hid hg
    clear hg
    by_cases hlt : i < l.length
    · obtain ⟨ad, e, x0, x1, x2⟩ := at_A HC.out i hlt
      cases e
      have HB := Aside0.mk (show Below B w0 wr from Below.trans HB0.out.1 hb.out)
      have hsz := Aside0.mk (show B ≤ wr.heap.size from Nat.le_trans HB0.out.2 hb.out.size)
      have HMr := Lib.hid (show wr.cell? ⟨0, 0, none⟩ = some (.int .i64 m) from (HB.out.cell (Nat.lt_of_lt_of_le (World.block_lt_of_cell? w0 _ HM.out) hB0)).trans HM.out)
      replace x0 := (HB.out.cell (Nat.lt_of_lt_of_le (World.block_lt_of_cell? w0 _ x0) hB0)).trans x0
      replace x1 := (HB.out.cell (Nat.lt_of_lt_of_le (World.block_lt_of_cell? w0 _ x1) hB0)).trans x1
      replace x2 := (HB.out.cell (Nat.lt_of_lt_of_le (World.block_lt_of_cell? w0 _ x2) hB0)).trans x2
      have hgd := HG.out (l.getD i zA) (by simp [List.getD, List.getElem?_eq_getElem hlt])
      have hst := affStr_step hlt
      have hle := affStr_le l (i + 1)
      rw [hst] at hle
      obtain ⟨x, hx⟩ : ∃ x, x = l.getD i zA := ⟨_, rfl⟩
      rw [← hx] at x0 x1 x2 hgd hst hle
      clear hx
      obtain ⟨xk, xt, xn⟩ := x
      dsimp only at x0 x1 x2
      obtain ⟨R, hR⟩ : ∃ R, R = pre ++ affStr (l.take i) := ⟨_, rfl⟩
      rw [← hR] at hp
      have hst2 := Lib.hid (show pre ++ affStr (l.take (i + 1)) = R ++ pieceStr ⟨xk, xt, xn⟩ by rw [hst, hR, List.append_assoc])
      have hln : (R ++ pieceStr ⟨xk, xt, xn⟩).length ≤ 140737488355328 := by
        rw [hR, List.append_assoc, List.length_append]
        rw [List.length_append] at hlen
        omega
      have HL := Lib.hid hln
      clear hst hle hR hln
      obtain ⟨hgt, hk⟩ := hgd
      dsimp only at hgt hk
      have hpa := Aside0.mk (hp.out.below (below_alloc (Below.refl wr.heap.size wr) (.cells #[.int .i64 xk, .string (bs xt), .int .i64 xn] 28 (0, 0))))
      have hba := Aside0.mk (Below.alloc hb.out hsz.out (.cells #[.int .i64 xk, .string (bs xt), .int .i64 xn] 28 (0, 0)))
      rcases hk with rfl | rfl | rfl | rfl | rfl | ⟨rfl, hn1, hn3⟩
      · have e := hst2.out
        have HT : Hid (∀ w1 : World, w1.cell? ⟨0, 0, none⟩ = some (.int .i64 m) → Calls Tryd.prog 22 #[.string (bs xt)] w1 fun e w' => e = .returned (.string (bs (textS xt))) ∧ Below w1.heap.size w1 w') := Lib.hid fun w1 h1 => printText_any (bs xt) m w1 hgt h1
        clear e
        go_wp2_with (first
          | (go_at_call 22; refine (HT.out _ (glob_up (below_alloc (Below.refl _ _) _) HMr.out)).mono ?_; rintro e w2 ⟨rfl, hb2⟩; have hp2 := Aside0.mk (hpa.out.below hb2); have hbb2 := Aside0.mk (Below.trans hba.out (hb2.mono (Nat.le_trans hsz.out (by simp)))); have hs2 := Aside0.mk (Nat.le_trans hsz.out (Nat.le_trans (by simp) hb2.size)); clear hb2)
          | (go_at_call 11; refine (ws_any B b R (textS xt) _ hp2.out HL.out hs2.out).mono ?_; rintro e w3 ⟨rfl, hq3, hb3⟩; have hp9 := Aside0.mk hq3; have hb9 := Aside0.mk (Below.trans hbb2.out hb3); clear hq3 hb3))
        go_roundg (l.length - (i + 1))
        case measure => rw [HGR.out]; omega
        case rel => exact ⟨i + 1, by go_num, rfl, ⟨hlt⟩, ⟨by rw [hst2.out]; exact hp9.out⟩, hb9⟩
      · go_wp2_with (go_at_call 12; refine (wb_any B b R 45 _ hpa.out HL.out (Nat.le_trans hsz.out (by simp))).mono ?_; rintro e w3 ⟨rfl, hq3, hb3⟩; have hp9 := Aside0.mk hq3; have hb9 := Aside0.mk (Below.trans hba.out hb3); clear hq3 hb3)
        go_roundg (l.length - (i + 1))
        case measure => rw [HGR.out]; omega
        case rel => exact ⟨i + 1, by go_num, rfl, ⟨hlt⟩, ⟨by rw [hst2.out]; exact hp9.out⟩, hb9⟩
      · go_wp2_with (go_at_call 12; refine (wb_any B b R 43 _ hpa.out HL.out (Nat.le_trans hsz.out (by simp))).mono ?_; rintro e w3 ⟨rfl, hq3, hb3⟩; have hp9 := Aside0.mk hq3; have hb9 := Aside0.mk (Below.trans hba.out hb3); clear hq3 hb3)
        go_roundg (l.length - (i + 1))
        case measure => rw [HGR.out]; omega
        case rel => exact ⟨i + 1, by go_num, rfl, ⟨hlt⟩, ⟨by rw [hst2.out]; exact hp9.out⟩, hb9⟩
      · go_wp2_with (go_at_call 12; refine (wb_any B b R 37 _ hpa.out HL.out (Nat.le_trans hsz.out (by simp))).mono ?_; rintro e w3 ⟨rfl, hq3, hb3⟩; have hp9 := Aside0.mk hq3; have hb9 := Aside0.mk (Below.trans hba.out hb3); clear hq3 hb3)
        go_roundg (l.length - (i + 1))
        case measure => rw [HGR.out]; omega
        case rel => exact ⟨i + 1, by go_num, rfl, ⟨hlt⟩, ⟨by rw [hst2.out]; exact hp9.out⟩, hb9⟩
      · go_wp2_with (go_at_call 11; refine (ws_any B b R permille _ hpa.out HL.out (Nat.le_trans hsz.out (by simp))).mono ?_; rintro e w3 ⟨rfl, hq3, hb3⟩; have hp9 := Aside0.mk hq3; have hb9 := Aside0.mk (Below.trans hba.out hb3); clear hq3 hb3)
        go_roundg (l.length - (i + 1))
        case measure => rw [HGR.out]; omega
        case rel => exact ⟨i + 1, by go_num, rfl, ⟨hlt⟩, ⟨by rw [hst2.out]; exact hp9.out⟩, hb9⟩
      · have HT : Hid (∀ w1 : World, Calls Tryd.prog 21 #[.string ⟨#[194, 164]⟩, .int .i64 xn] w1 fun e w' => e = .returned (.string (bs (List.replicate xn.toNat money).flatten)) ∧ Below w1.heap.size w1 w') := Lib.hid fun w1 => by have := rep_flat ⟨#[194, 164]⟩ xn.toNat w1 (by show 2 * _ ≤ _; omega) (by omega); rw [Int.toNat_of_nonneg (by omega)] at this; exact this
        go_wp2_with (first
          | (go_at_call 21; refine (HT.out _).mono ?_; rintro e w2 ⟨rfl, hb2⟩; have hp2 := Aside0.mk (hpa.out.below hb2); have hbb2 := Aside0.mk (Below.trans hba.out (hb2.mono (Nat.le_trans hsz.out (by simp)))); have hs2 := Aside0.mk (Nat.le_trans hsz.out (Nat.le_trans (by simp) hb2.size)); clear hb2)
          | (go_at_call 11; refine (ws_any B b R (List.replicate xn.toNat money).flatten _ hp2.out HL.out hs2.out).mono ?_; rintro e w3 ⟨rfl, hq3, hb3⟩; have hp9 := Aside0.mk hq3; have hb9 := Aside0.mk (Below.trans hbb2.out hb3); clear hq3 hb3))
        go_roundg (l.length - (i + 1))
        case measure => rw [HGR.out]; omega
        case rel => exact ⟨i + 1, by go_num, rfl, ⟨hlt⟩, ⟨by rw [hst2.out]; exact hp9.out⟩, hb9⟩
    · have e : l.take i = l := List.take_of_length_le (by omega)
      rw [e] at hp
      go_wp2
      go_end0
      exact ⟨rfl, hp.out, hb.out⟩
end Go.Proofs.YtjpdakepfmepnaaDoor

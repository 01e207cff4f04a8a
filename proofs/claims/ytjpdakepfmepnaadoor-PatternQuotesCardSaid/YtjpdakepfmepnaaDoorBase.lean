/- How the pieces of an affix and a number pattern lie in memory: the words that the walks use. -/
import Derived.Test.YtjpdakepfmepnaaDoorProg
import Derived.Test.YtjpdakepfmepnaaDoorSpec
import Derived.Test.YtjpdakepfmepnaaDoorWWords
import Derived.Test.YtjpdakepfmepnaaDoorWEqStruct
import Derived.Lib.Hide
import Derived.Outline
import Derived.WalkLawsBesides
import Derived.WalkSpells
namespace Go.Proofs.YtjpdakepfmepnaaDoor
open Go.RowKit Go.Proofs.YtjpdakepfmepnaaDoorW.PrintWords Pat
set_option linter.unusedVariables false

/-- A list of bytes as a string. -/
abbrev bs (l : List UInt8) : ByteArray := ⟨l.toArray⟩
theorem bs_data (s : ByteArray) : bs s.data.toList = s := by cases s; rfl
theorem bs_size (l : List UInt8) : (bs l).size = l.length := rfl
theorem bs_toList (l : List UInt8) : (bs l).data.toList = l := rfl
theorem bs_inj {a b : List UInt8} (h : bs a = bs b) : a = b := by
  have : (bs a).data.toList = (bs b).data.toList := by rw [h]
  exact this

abbrev affV (a : Aff) : Value := .agg #[.int .i64 a.kind, .string (bs a.text), .int .i64 a.n]
def affT (x : Aff) : Int × ByteArray × Int := (x.kind, bs x.text, x.n)
def kA : Kd Aff := Kd.iso (Kd.pair (Kd.int .i64) (Kd.pair Kd.string (Kd.int .i64))) affT
def zA : Aff := ⟨0, [], 0⟩
theorem kA_sz : kA.sz = 3 := rfl
theorem kA_open {w : World} {x : Aff} {cs : List Value} (h : kA.K w x cs) : cs = [.int .i64 x.kind, .string (bs x.text), .int .i64 x.n] := by
  obtain ⟨_, _, rfl, rfl, ⟨_, _, rfl, rfl, rfl⟩⟩ := h
  exact rfl
theorem kA_openM {w : World} {base : Nat} {ok : Nat → Prop} {x : Aff} {cs : List Value} (h : kA.M w base ok x cs) : cs = [.int .i64 x.kind, .string (bs x.text), .int .i64 x.n] := by
  obtain ⟨_, _, rfl, rfl, ⟨_, _, rfl, rfl, rfl⟩⟩ := h
  exact rfl
theorem kA_mk (w : World) (x : Aff) : kA.K w x [.int .i64 x.kind, .string (bs x.text), .int .i64 x.n] := ⟨[.int .i64 x.kind], [.string (bs x.text), .int .i64 x.n], rfl, rfl, ⟨[.string (bs x.text)], [.int .i64 x.n], rfl, rfl, rfl⟩⟩
theorem kA_mkM (w : World) (base : Nat) (ok : Nat → Prop) (x : Aff) : kA.M w base ok x [.int .i64 x.kind, .string (bs x.text), .int .i64 x.n] := ⟨[.int .i64 x.kind], [.string (bs x.text), .int .i64 x.n], rfl, rfl, ⟨[.string (bs x.text)], [.int .i64 x.n], rfl, rfl, rfl⟩⟩
theorem at_A {w : World} {A : Option Addr} {n : Nat} {xs : List Aff} (h : Kd.C kA w A n xs) (i : Nat) (h1 : i < n) : ∃ ad, A = some ad ∧ w.cell? (ad.add (i * 3)) = some (.int .i64 (xs.getD i zA).kind) ∧ w.cell? ⟨(ad.add (i * 3)).block, (ad.add (i * 3)).off + 1, none⟩ = some (.string (bs (xs.getD i zA).text)) ∧ w.cell? ⟨(ad.add (i * 3)).block, (ad.add (i * 3)).off + 2, none⟩ = some (.int .i64 (xs.getD i zA).n) := by
  obtain ⟨ad, c, e, _, hK, hc0⟩ := Kd.C_get h zA (i : Int) (by omega) (by omega)
  have hc : ∀ j u, c[j]? = some u → w.cell? (ad.add (i * 3 + j)) = some u := by
    intro j u hj
    have h := hc0 j u hj
    rw [Int.toNat_natCast] at h
    exact h
  obtain rfl := kA_open hK
  exact ⟨ad, e, hc 0 _ rfl, by rw [← add_field _ _ 1 (by omega)]; exact hc 1 _ rfl, by rw [← add_field _ _ 2 (by omega)]; exact hc 2 _ rfl⟩

theorem infoInt : (Tryd.prog.info? 3).map (fun i => (i.zero, i.size, i.bytes)) = some (some (.int .i64 0), 1, 8) := by kernel_rfl
theorem infoByte : (Tryd.prog.info? 5).map (fun i => (i.zero, i.size, i.bytes)) = some (some (.int .u8 0), 1, 1) := by kernel_rfl
theorem infoSl : (Tryd.prog.info? 22).map (fun i => (i.zero, i.size, i.bytes)) = some (some (.slice none 0 0), 1, 24) := by kernel_rfl
theorem infoAff : (Tryd.prog.info? 28).map (fun i => (i.zero, i.size, i.bytes)) = some (some (.agg #[.int .i64 0, .string ⟨#[]⟩, .int .i64 0]), 3, 32) := by kernel_rfl

theorem ret_int {k : IntKind} {a b : Int} (h : a = b) : Ending.returned (.int k a) = .returned (.int k b) := by rw [h]
theorem ret_bool {a b : Bool} (h : a = b) : Ending.returned (.bool a) = .returned (.bool b) := by rw [h]
end Go.Proofs.YtjpdakepfmepnaaDoor

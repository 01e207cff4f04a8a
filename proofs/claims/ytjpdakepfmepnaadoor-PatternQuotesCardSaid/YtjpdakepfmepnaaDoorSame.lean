/- To store what a cell holds changes nothing. -/
import Derived.Test.YtjpdakepfmepnaaDoorBlk
namespace Go.Proofs.YtjpdakepfmepnaaDoor
open Go.RowKit Go.Proofs.YtjpdakepfmepnaaDoorW.PrintWords Pat
set_option linter.unusedVariables false

theorem setCell_same {w : World} {a : Addr} {v : Value} (h : w.cell? a = some v) : w.setCell a v = w := by
  unfold World.cell? at h
  split at h
  · rename_i c e fr hb
    split at h
    · cases h
    · rename_i hs
      obtain ⟨hlt, he⟩ := Array.getElem?_eq_some_iff.mp hb
      have : w.setCell a v = { w with heap := w.heap } := by
        unfold World.setCell
        congr 1
        apply Array.ext_getElem?
        intro j
        rw [Array.getElem?_modify]
        split
        · rename_i hj
          subst hj
          rw [hb]
          simp only [Option.map_some, if_neg hs]
          congr 2
          apply Array.ext_getElem?
          intro i
          rw [Array.getElem?_setIfInBounds]
          split
          · rename_i hi
            subst hi
            rw [if_pos (Array.getElem?_eq_some_iff.mp h).1, h]
          · rfl
        · rfl
      exact this
  · cases h
end Go.Proofs.YtjpdakepfmepnaaDoor

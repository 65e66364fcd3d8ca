/- What every row of this seat wants: what is laid, and how what is read comes back. -/
import Derived.Test.YtjobmlnekpaagaaDoorActs
import Derived.Test.YtjobmlnekpaagaaDoorRows
import Derived.Test.YtjobmlnekpaagaaDoorCards
import Derived.Test.YtjobmlnekpaagaaDoorTie
import Derived.ChangeSame
import Derived.ChangeVars
import Derived.JoinedOf
import Derived.RowKit
import Derived.LaidLaws
import Derived.Lay
import Derived.Carry
import Derived.SevenTiedAt
import Derived.ProofKit
namespace Go.Proofs.YtjobmlnekpaagaaDoor
open Go Go.RowKit Go.Maps Go.ChangeShapes Go.WideShapes Go.Deep
set_option linter.unusedVariables false
set_option maxRecDepth 100000

theorem Tryd.own : ownKnob Tryd.prog.godebug = none := by kernel_rfl
theorem Tryd.laidOut : laidOutB Tryd.prog = true := by kernel_rfl
noncomputable abbrev laid2 : List (String × DataW Unit) := [("unicode/utf8.acceptRanges", Rows.laid_unicode_utf8_acceptRanges), ("unicode/utf8.first", Rows.laid_unicode_utf8_first)]
theorem laid2_world (os : Os) (args : Array Value) : laidMet Tryd.prog laid2 ((World.laidAll Tryd.prog os laid2).forCall (fun _ _ => 0) ⟨#[], args, []⟩).memory :=
  laidMet_laidAll _ (by kernel_rfl) (by kernel_rfl)
theorem keep_laid {W W' : World} {ps : List MemPlace} (hW : ∀ x ∈ ps, x.block < W.heap.size) (hk : Kept (fun _ => False) W W') : Below W.heap.size W W' := hk.below (fun k h => ⟨h, fun f => f⟩)

end Go.Proofs.YtjobmlnekpaagaaDoor

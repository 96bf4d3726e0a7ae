/- What the rows ask of the program as a whole, fact by fact. -/
import Derived.Test.YtkefmlhkejoknaaRows
import Derived.WalkKit
import Derived.ProofKit
import Derived.OpenShut
namespace Go.Proofs.Ytkefmlhkejoknaa.Facts
open Go.RowKit
theorem laidOut : laidOutB Try.pinned.checked.prog = true := by kernel_rfl
theorem mapsRow : mapsRowed Try.pinned.checked.prog = true := by kernel_rfl
theorem stops : (Try.pinned.checked.prog.stops == []) = true := by kernel_rfl
theorem knobs : (Try.pinned.checked.prog.stopKnobs == []) = true := by kernel_rfl
theorem heard : Try.pinned.checked.prog.stopsHeard = true := by kernel_rfl
theorem enters : Try.pinned.checked.prog.mayEnter = true := by kernel_rfl
theorem lifts : (false == Try.pinned.checked.prog.liftsFinal) = true := by kernel_rfl
theorem makes : (Try.pinned.checked.prog.make == some Rows.beltBestsRow.make) = true := by kernel_rfl
theorem plainKeys : (false == Try.pinned.checked.prog.plainKeys) = true := by kernel_rfl
end Go.Proofs.Ytkefmlhkejoknaa.Facts

/-
  No cell of these rows narrows 'for every input' (looked for: loops, veiled, ifaces, maps, wideKeys, modest, calm, conditions, laid).
  DERIVED. THE GIVEN ROWS OF THIS SEAT. 20 by the template 'for every input the law returns true; each argument reads behind the call as it read before'; 0 by the template 'total and deterministic' (their statements: YtkjojcepombhpaaTotals.lean).
  GIVEN WITH THE SEED: the statements are not yours to turn. If you find one false, say at which input.
  Laid BY PROGRAM, IN A SANDBOX (cutbox-rows.mjs): the forced cells as the released guide's own fill.sh prints them over the translation 5fff34fb23603427… (all of the seat's roots in one cut). By AI agents, Wed Nov 11 2026. No macro, syntax, notation, axiom, sorry.
-/
import Derived.Test.YtkjojcepombhpaaChecked
import GoSem.Claim
import GoSem.ClaimJoined
import GoSem.ClaimMapViews
import Derived.JoinedTies
import Derived.KernelRfl
namespace Go.Proofs.Ytkjojcepombhpaa
/- THE CELL 'sum', in the pinned program and in every row, IS THE sha256 OF THE DUMP (.gsa) THAT YtkjojcepombhpaaProg.lean LOADS. Nothing in Lean hashes anything: it is a label: what it is worth is what the hold of that sum in a sandbox is worth. -/
noncomputable def Try.pinned : Pinned := { name := "ytkjojcepombhpaa", sum := "5fff34fb23603427acfecb4f0ab72aede2ea78fc9b737fbc1bf94b00a6724d05", checked := Try.checked }
namespace Rows
def none {H : Type} : Left H := { results := [], args := [] }

/-- 'remouldlaw06.WheelOrbits': WHATEVER THE INPUT: true; the input reads as it did. -/
def wheelOrbitsSpec : ChangeSpec := { name := "wheelOrbits", fn := fun _ => fun
  | [d1, d2, d3] => { results := [.lit (.bool true)], args := [d1, d2, d3] }
  | _ => none }
def wheelOrbitsRow : OpenClaim := { program := "ytkjojcepombhpaa", sum := "5fff34fb23603427acfecb4f0ab72aede2ea78fc9b737fbc1bf94b00a6724d05", func := "remould/remouldlaw06.WheelOrbits", spec := "wheelOrbits", unfollowed := true, recurses := true, apart := false }
def WheelOrbitsSaid : Prop := wheelOrbitsRow.holds Try.pinned (OpenSpec.ofChange wheelOrbitsSpec)

/-- ITS FALSE NEIGHBOUR: 'it returns false'. Refute it at one input. -/
def wheelOrbitsWrong : ChangeSpec := { name := "wheelOrbits", fn := fun _ => fun
  | [d1, d2, d3] => { results := [.lit (.bool false)], args := [d1, d2, d3] }
  | _ => none }
def WheelOrbitsWrongFalsely : Prop := wheelOrbitsRow.holds Try.pinned (OpenSpec.ofChange wheelOrbitsWrong)

/-- 'remouldlaw06.WheelWholes': WHATEVER THE INPUT: true; the input reads as it did. -/
def wheelWholesSpec : ChangeSpec := { name := "wheelWholes", fn := fun _ => fun
  | [d1, d2] => { results := [.lit (.bool true)], args := [d1, d2] }
  | _ => none }
def wheelWholesRow : OpenClaim := { program := "ytkjojcepombhpaa", sum := "5fff34fb23603427acfecb4f0ab72aede2ea78fc9b737fbc1bf94b00a6724d05", func := "remould/remouldlaw06.WheelWholes", spec := "wheelWholes", unfollowed := true, recurses := true, apart := false }
def WheelWholesSaid : Prop := wheelWholesRow.holds Try.pinned (OpenSpec.ofChange wheelWholesSpec)

/-- ITS FALSE NEIGHBOUR: 'it returns false'. Refute it at one input. -/
def wheelWholesWrong : ChangeSpec := { name := "wheelWholes", fn := fun _ => fun
  | [d1, d2] => { results := [.lit (.bool false)], args := [d1, d2] }
  | _ => none }
def WheelWholesWrongFalsely : Prop := wheelWholesRow.holds Try.pinned (OpenSpec.ofChange wheelWholesWrong)

/-- 'remouldlaw06.WheelCycles': WHATEVER THE INPUT: true; the input reads as it did. -/
def wheelCyclesSpec : ChangeSpec := { name := "wheelCycles", fn := fun _ => fun
  | [d1, d2, d3] => { results := [.lit (.bool true)], args := [d1, d2, d3] }
  | _ => none }
def wheelCyclesRow : OpenClaim := { program := "ytkjojcepombhpaa", sum := "5fff34fb23603427acfecb4f0ab72aede2ea78fc9b737fbc1bf94b00a6724d05", func := "remould/remouldlaw06.WheelCycles", spec := "wheelCycles", unfollowed := true, recurses := true, apart := false }
def WheelCyclesSaid : Prop := wheelCyclesRow.holds Try.pinned (OpenSpec.ofChange wheelCyclesSpec)

/-- ITS FALSE NEIGHBOUR: 'it returns false'. Refute it at one input. -/
def wheelCyclesWrong : ChangeSpec := { name := "wheelCycles", fn := fun _ => fun
  | [d1, d2, d3] => { results := [.lit (.bool false)], args := [d1, d2, d3] }
  | _ => none }
def WheelCyclesWrongFalsely : Prop := wheelCyclesRow.holds Try.pinned (OpenSpec.ofChange wheelCyclesWrong)

/-- 'remouldlaw06.WheelForms': WHATEVER THE INPUT: true; the input reads as it did. -/
def wheelFormsSpec : ChangeSpec := { name := "wheelForms", fn := fun _ => fun
  | [d1, d2] => { results := [.lit (.bool true)], args := [d1, d2] }
  | _ => none }
def wheelFormsRow : OpenClaim := { program := "ytkjojcepombhpaa", sum := "5fff34fb23603427acfecb4f0ab72aede2ea78fc9b737fbc1bf94b00a6724d05", func := "remould/remouldlaw06.WheelForms", spec := "wheelForms", unfollowed := true, recurses := true, apart := false }
def WheelFormsSaid : Prop := wheelFormsRow.holds Try.pinned (OpenSpec.ofChange wheelFormsSpec)

/-- ITS FALSE NEIGHBOUR: 'it returns false'. Refute it at one input. -/
def wheelFormsWrong : ChangeSpec := { name := "wheelForms", fn := fun _ => fun
  | [d1, d2] => { results := [.lit (.bool false)], args := [d1, d2] }
  | _ => none }
def WheelFormsWrongFalsely : Prop := wheelFormsRow.holds Try.pinned (OpenSpec.ofChange wheelFormsWrong)

/-- 'remouldlaw06.WheelCourses': WHATEVER THE INPUT: true; the input reads as it did. -/
def wheelCoursesSpec : ChangeSpec := { name := "wheelCourses", fn := fun _ => fun
  | [d1, d2, d3] => { results := [.lit (.bool true)], args := [d1, d2, d3] }
  | _ => none }
def wheelCoursesRow : OpenClaim := { program := "ytkjojcepombhpaa", sum := "5fff34fb23603427acfecb4f0ab72aede2ea78fc9b737fbc1bf94b00a6724d05", func := "remould/remouldlaw06.WheelCourses", spec := "wheelCourses", unfollowed := true, recurses := true, apart := false }
def WheelCoursesSaid : Prop := wheelCoursesRow.holds Try.pinned (OpenSpec.ofChange wheelCoursesSpec)

/-- ITS FALSE NEIGHBOUR: 'it returns false'. Refute it at one input. -/
def wheelCoursesWrong : ChangeSpec := { name := "wheelCourses", fn := fun _ => fun
  | [d1, d2, d3] => { results := [.lit (.bool false)], args := [d1, d2, d3] }
  | _ => none }
def WheelCoursesWrongFalsely : Prop := wheelCoursesRow.holds Try.pinned (OpenSpec.ofChange wheelCoursesWrong)

/-- 'remouldlaw06.WheelTerras': WHATEVER THE INPUT: true; the input reads as it did. -/
def wheelTerrasSpec : ChangeSpec := { name := "wheelTerras", fn := fun _ => fun
  | [d1, d2, d3, d4, d5] => { results := [.lit (.bool true)], args := [d1, d2, d3, d4, d5] }
  | _ => none }
def wheelTerrasRow : OpenClaim := { program := "ytkjojcepombhpaa", sum := "5fff34fb23603427acfecb4f0ab72aede2ea78fc9b737fbc1bf94b00a6724d05", func := "remould/remouldlaw06.WheelTerras", spec := "wheelTerras", unfollowed := true, recurses := true, apart := false }
def WheelTerrasSaid : Prop := wheelTerrasRow.holds Try.pinned (OpenSpec.ofChange wheelTerrasSpec)

/-- ITS FALSE NEIGHBOUR: 'it returns false'. Refute it at one input. -/
def wheelTerrasWrong : ChangeSpec := { name := "wheelTerras", fn := fun _ => fun
  | [d1, d2, d3, d4, d5] => { results := [.lit (.bool false)], args := [d1, d2, d3, d4, d5] }
  | _ => none }
def WheelTerrasWrongFalsely : Prop := wheelTerrasRow.holds Try.pinned (OpenSpec.ofChange wheelTerrasWrong)

/-- 'remouldlaw06.WheelEnds': WHATEVER THE INPUT: true; the input reads as it did. -/
def wheelEndsSpec : ChangeSpec := { name := "wheelEnds", fn := fun _ => fun
  | [d1, d2, d3, d4, d5] => { results := [.lit (.bool true)], args := [d1, d2, d3, d4, d5] }
  | _ => none }
def wheelEndsRow : OpenClaim := { program := "ytkjojcepombhpaa", sum := "5fff34fb23603427acfecb4f0ab72aede2ea78fc9b737fbc1bf94b00a6724d05", func := "remould/remouldlaw06.WheelEnds", spec := "wheelEnds", unfollowed := true, recurses := true, apart := false }
def WheelEndsSaid : Prop := wheelEndsRow.holds Try.pinned (OpenSpec.ofChange wheelEndsSpec)

/-- ITS FALSE NEIGHBOUR: 'it returns false'. Refute it at one input. -/
def wheelEndsWrong : ChangeSpec := { name := "wheelEnds", fn := fun _ => fun
  | [d1, d2, d3, d4, d5] => { results := [.lit (.bool false)], args := [d1, d2, d3, d4, d5] }
  | _ => none }
def WheelEndsWrongFalsely : Prop := wheelEndsRow.holds Try.pinned (OpenSpec.ofChange wheelEndsWrong)

/-- 'remouldlaw06.WheelFalls': WHATEVER THE INPUT: true; the input reads as it did. -/
def wheelFallsSpec : ChangeSpec := { name := "wheelFalls", fn := fun _ => fun
  | [d1, d2] => { results := [.lit (.bool true)], args := [d1, d2] }
  | _ => none }
def wheelFallsRow : OpenClaim := { program := "ytkjojcepombhpaa", sum := "5fff34fb23603427acfecb4f0ab72aede2ea78fc9b737fbc1bf94b00a6724d05", func := "remould/remouldlaw06.WheelFalls", spec := "wheelFalls", unfollowed := true, recurses := true, apart := false }
def WheelFallsSaid : Prop := wheelFallsRow.holds Try.pinned (OpenSpec.ofChange wheelFallsSpec)

/-- ITS FALSE NEIGHBOUR: 'it returns false'. Refute it at one input. -/
def wheelFallsWrong : ChangeSpec := { name := "wheelFalls", fn := fun _ => fun
  | [d1, d2] => { results := [.lit (.bool false)], args := [d1, d2] }
  | _ => none }
def WheelFallsWrongFalsely : Prop := wheelFallsRow.holds Try.pinned (OpenSpec.ofChange wheelFallsWrong)

/-- 'remouldlaw06.WheelFew': WHATEVER THE INPUT: true; the input reads as it did. -/
def wheelFewSpec : ChangeSpec := { name := "wheelFew", fn := fun _ => fun
  | [d1, d2, d3, d4] => { results := [.lit (.bool true)], args := [d1, d2, d3, d4] }
  | _ => none }
def wheelFewRow : OpenClaim := { program := "ytkjojcepombhpaa", sum := "5fff34fb23603427acfecb4f0ab72aede2ea78fc9b737fbc1bf94b00a6724d05", func := "remould/remouldlaw06.WheelFew", spec := "wheelFew", unfollowed := true, recurses := true, apart := false }
def WheelFewSaid : Prop := wheelFewRow.holds Try.pinned (OpenSpec.ofChange wheelFewSpec)

/-- ITS FALSE NEIGHBOUR: 'it returns false'. Refute it at one input. -/
def wheelFewWrong : ChangeSpec := { name := "wheelFew", fn := fun _ => fun
  | [d1, d2, d3, d4] => { results := [.lit (.bool false)], args := [d1, d2, d3, d4] }
  | _ => none }
def WheelFewWrongFalsely : Prop := wheelFewRow.holds Try.pinned (OpenSpec.ofChange wheelFewWrong)

/-- 'remouldlaw06.WheelFixed': WHATEVER THE INPUT: true; the input reads as it did. -/
def wheelFixedSpec : ChangeSpec := { name := "wheelFixed", fn := fun _ => fun
  | [d1, d2, d3, d4] => { results := [.lit (.bool true)], args := [d1, d2, d3, d4] }
  | _ => none }
def wheelFixedRow : OpenClaim := { program := "ytkjojcepombhpaa", sum := "5fff34fb23603427acfecb4f0ab72aede2ea78fc9b737fbc1bf94b00a6724d05", func := "remould/remouldlaw06.WheelFixed", spec := "wheelFixed", unfollowed := true, recurses := true, apart := false }
def WheelFixedSaid : Prop := wheelFixedRow.holds Try.pinned (OpenSpec.ofChange wheelFixedSpec)

/-- ITS FALSE NEIGHBOUR: 'it returns false'. Refute it at one input. -/
def wheelFixedWrong : ChangeSpec := { name := "wheelFixed", fn := fun _ => fun
  | [d1, d2, d3, d4] => { results := [.lit (.bool false)], args := [d1, d2, d3, d4] }
  | _ => none }
def WheelFixedWrongFalsely : Prop := wheelFixedRow.holds Try.pinned (OpenSpec.ofChange wheelFixedWrong)

/-- 'remouldlaw06.WheelFormed': WHATEVER THE INPUT: true; the input reads as it did. -/
def wheelFormedSpec : ChangeSpec := { name := "wheelFormed", fn := fun _ => fun
  | [d1, d2, d3, d4, d5] => { results := [.lit (.bool true)], args := [d1, d2, d3, d4, d5] }
  | _ => none }
def wheelFormedRow : OpenClaim := { program := "ytkjojcepombhpaa", sum := "5fff34fb23603427acfecb4f0ab72aede2ea78fc9b737fbc1bf94b00a6724d05", func := "remould/remouldlaw06.WheelFormed", spec := "wheelFormed", unfollowed := true, recurses := true, apart := false }
def WheelFormedSaid : Prop := wheelFormedRow.holds Try.pinned (OpenSpec.ofChange wheelFormedSpec)

/-- ITS FALSE NEIGHBOUR: 'it returns false'. Refute it at one input. -/
def wheelFormedWrong : ChangeSpec := { name := "wheelFormed", fn := fun _ => fun
  | [d1, d2, d3, d4, d5] => { results := [.lit (.bool false)], args := [d1, d2, d3, d4, d5] }
  | _ => none }
def WheelFormedWrongFalsely : Prop := wheelFormedRow.holds Try.pinned (OpenSpec.ofChange wheelFormedWrong)

/-- 'remouldlaw06.WheelShifted': WHATEVER THE INPUT: true; the input reads as it did. -/
def wheelShiftedSpec : ChangeSpec := { name := "wheelShifted", fn := fun _ => fun
  | [d1, d2, d3, d4, d5] => { results := [.lit (.bool true)], args := [d1, d2, d3, d4, d5] }
  | _ => none }
def wheelShiftedRow : OpenClaim := { program := "ytkjojcepombhpaa", sum := "5fff34fb23603427acfecb4f0ab72aede2ea78fc9b737fbc1bf94b00a6724d05", func := "remould/remouldlaw06.WheelShifted", spec := "wheelShifted", unfollowed := true, recurses := true, apart := false }
def WheelShiftedSaid : Prop := wheelShiftedRow.holds Try.pinned (OpenSpec.ofChange wheelShiftedSpec)

/-- ITS FALSE NEIGHBOUR: 'it returns false'. Refute it at one input. -/
def wheelShiftedWrong : ChangeSpec := { name := "wheelShifted", fn := fun _ => fun
  | [d1, d2, d3, d4, d5] => { results := [.lit (.bool false)], args := [d1, d2, d3, d4, d5] }
  | _ => none }
def WheelShiftedWrongFalsely : Prop := wheelShiftedRow.holds Try.pinned (OpenSpec.ofChange wheelShiftedWrong)

/-- 'remouldlaw06.WheelSets': WHATEVER THE INPUT: true; the input reads as it did. -/
def wheelSetsSpec : ChangeSpec := { name := "wheelSets", fn := fun _ => fun
  | [d1, d2, d3] => { results := [.lit (.bool true)], args := [d1, d2, d3] }
  | _ => none }
def wheelSetsRow : OpenClaim := { program := "ytkjojcepombhpaa", sum := "5fff34fb23603427acfecb4f0ab72aede2ea78fc9b737fbc1bf94b00a6724d05", func := "remould/remouldlaw06.WheelSets", spec := "wheelSets", unfollowed := true, recurses := true, apart := false }
def WheelSetsSaid : Prop := wheelSetsRow.holds Try.pinned (OpenSpec.ofChange wheelSetsSpec)

/-- ITS FALSE NEIGHBOUR: 'it returns false'. Refute it at one input. -/
def wheelSetsWrong : ChangeSpec := { name := "wheelSets", fn := fun _ => fun
  | [d1, d2, d3] => { results := [.lit (.bool false)], args := [d1, d2, d3] }
  | _ => none }
def WheelSetsWrongFalsely : Prop := wheelSetsRow.holds Try.pinned (OpenSpec.ofChange wheelSetsWrong)

/-- 'remouldlaw06.WheelOwn': WHATEVER THE INPUT: true; the input reads as it did. -/
def wheelOwnSpec : ChangeSpec := { name := "wheelOwn", fn := fun _ => fun
  | [d1, d2, d3, d4] => { results := [.lit (.bool true)], args := [d1, d2, d3, d4] }
  | _ => none }
def wheelOwnRow : OpenClaim := { program := "ytkjojcepombhpaa", sum := "5fff34fb23603427acfecb4f0ab72aede2ea78fc9b737fbc1bf94b00a6724d05", func := "remould/remouldlaw06.WheelOwn", spec := "wheelOwn", unfollowed := true, recurses := true, apart := false }
def WheelOwnSaid : Prop := wheelOwnRow.holds Try.pinned (OpenSpec.ofChange wheelOwnSpec)

/-- ITS FALSE NEIGHBOUR: 'it returns false'. Refute it at one input. -/
def wheelOwnWrong : ChangeSpec := { name := "wheelOwn", fn := fun _ => fun
  | [d1, d2, d3, d4] => { results := [.lit (.bool false)], args := [d1, d2, d3, d4] }
  | _ => none }
def WheelOwnWrongFalsely : Prop := wheelOwnRow.holds Try.pinned (OpenSpec.ofChange wheelOwnWrong)

/-- 'remouldlaw06.WheelSends': WHATEVER THE INPUT: true; the input reads as it did. -/
def wheelSendsSpec : ChangeSpec := { name := "wheelSends", fn := fun _ => fun
  | [d1, d2] => { results := [.lit (.bool true)], args := [d1, d2] }
  | _ => none }
def wheelSendsRow : OpenClaim := { program := "ytkjojcepombhpaa", sum := "5fff34fb23603427acfecb4f0ab72aede2ea78fc9b737fbc1bf94b00a6724d05", func := "remould/remouldlaw06.WheelSends", spec := "wheelSends", unfollowed := true, recurses := true, apart := false }
def WheelSendsSaid : Prop := wheelSendsRow.holds Try.pinned (OpenSpec.ofChange wheelSendsSpec)

/-- ITS FALSE NEIGHBOUR: 'it returns false'. Refute it at one input. -/
def wheelSendsWrong : ChangeSpec := { name := "wheelSends", fn := fun _ => fun
  | [d1, d2] => { results := [.lit (.bool false)], args := [d1, d2] }
  | _ => none }
def WheelSendsWrongFalsely : Prop := wheelSendsRow.holds Try.pinned (OpenSpec.ofChange wheelSendsWrong)

/-- 'remouldlaw06.WheelBacked': WHATEVER THE INPUT: true; the input reads as it did. -/
def wheelBackedSpec : ChangeSpec := { name := "wheelBacked", fn := fun _ => fun
  | [d1, d2, d3, d4] => { results := [.lit (.bool true)], args := [d1, d2, d3, d4] }
  | _ => none }
def wheelBackedRow : OpenClaim := { program := "ytkjojcepombhpaa", sum := "5fff34fb23603427acfecb4f0ab72aede2ea78fc9b737fbc1bf94b00a6724d05", func := "remould/remouldlaw06.WheelBacked", spec := "wheelBacked", unfollowed := true, recurses := true, apart := false }
def WheelBackedSaid : Prop := wheelBackedRow.holds Try.pinned (OpenSpec.ofChange wheelBackedSpec)

/-- ITS FALSE NEIGHBOUR: 'it returns false'. Refute it at one input. -/
def wheelBackedWrong : ChangeSpec := { name := "wheelBacked", fn := fun _ => fun
  | [d1, d2, d3, d4] => { results := [.lit (.bool false)], args := [d1, d2, d3, d4] }
  | _ => none }
def WheelBackedWrongFalsely : Prop := wheelBackedRow.holds Try.pinned (OpenSpec.ofChange wheelBackedWrong)

/-- 'remouldlaw06.WheelTree': WHATEVER THE INPUT: true; the input reads as it did. -/
def wheelTreeSpec : ChangeSpec := { name := "wheelTree", fn := fun _ => fun
  | [d1, d2, d3, d4, d5] => { results := [.lit (.bool true)], args := [d1, d2, d3, d4, d5] }
  | _ => none }
def wheelTreeRow : OpenClaim := { program := "ytkjojcepombhpaa", sum := "5fff34fb23603427acfecb4f0ab72aede2ea78fc9b737fbc1bf94b00a6724d05", func := "remould/remouldlaw06.WheelTree", spec := "wheelTree", unfollowed := true, recurses := true, apart := false }
def WheelTreeSaid : Prop := wheelTreeRow.holds Try.pinned (OpenSpec.ofChange wheelTreeSpec)

/-- ITS FALSE NEIGHBOUR: 'it returns false'. Refute it at one input. -/
def wheelTreeWrong : ChangeSpec := { name := "wheelTree", fn := fun _ => fun
  | [d1, d2, d3, d4, d5] => { results := [.lit (.bool false)], args := [d1, d2, d3, d4, d5] }
  | _ => none }
def WheelTreeWrongFalsely : Prop := wheelTreeRow.holds Try.pinned (OpenSpec.ofChange wheelTreeWrong)

/-- 'remouldlaw06.WheelRanges': WHATEVER THE INPUT: true; the input reads as it did. -/
def wheelRangesSpec : ChangeSpec := { name := "wheelRanges", fn := fun _ => fun
  | [d1, d2, d3, d4] => { results := [.lit (.bool true)], args := [d1, d2, d3, d4] }
  | _ => none }
def wheelRangesRow : OpenClaim := { program := "ytkjojcepombhpaa", sum := "5fff34fb23603427acfecb4f0ab72aede2ea78fc9b737fbc1bf94b00a6724d05", func := "remould/remouldlaw06.WheelRanges", spec := "wheelRanges", unfollowed := true, recurses := true, apart := false }
def WheelRangesSaid : Prop := wheelRangesRow.holds Try.pinned (OpenSpec.ofChange wheelRangesSpec)

/-- ITS FALSE NEIGHBOUR: 'it returns false'. Refute it at one input. -/
def wheelRangesWrong : ChangeSpec := { name := "wheelRanges", fn := fun _ => fun
  | [d1, d2, d3, d4] => { results := [.lit (.bool false)], args := [d1, d2, d3, d4] }
  | _ => none }
def WheelRangesWrongFalsely : Prop := wheelRangesRow.holds Try.pinned (OpenSpec.ofChange wheelRangesWrong)

/-- 'remouldlaw06.WheelWholeOf': WHATEVER THE INPUT: true; the input reads as it did. -/
def wheelWholeOfSpec : ChangeSpec := { name := "wheelWholeOf", fn := fun _ => fun
  | [d1, d2, d3, d4, d5] => { results := [.lit (.bool true)], args := [d1, d2, d3, d4, d5] }
  | _ => none }
def wheelWholeOfRow : OpenClaim := { program := "ytkjojcepombhpaa", sum := "5fff34fb23603427acfecb4f0ab72aede2ea78fc9b737fbc1bf94b00a6724d05", func := "remould/remouldlaw06.WheelWholeOf", spec := "wheelWholeOf", unfollowed := true, recurses := true, apart := false }
def WheelWholeOfSaid : Prop := wheelWholeOfRow.holds Try.pinned (OpenSpec.ofChange wheelWholeOfSpec)

/-- ITS FALSE NEIGHBOUR: 'it returns false'. Refute it at one input. -/
def wheelWholeOfWrong : ChangeSpec := { name := "wheelWholeOf", fn := fun _ => fun
  | [d1, d2, d3, d4, d5] => { results := [.lit (.bool false)], args := [d1, d2, d3, d4, d5] }
  | _ => none }
def WheelWholeOfWrongFalsely : Prop := wheelWholeOfRow.holds Try.pinned (OpenSpec.ofChange wheelWholeOfWrong)

/-- 'remouldlaw06.WheelListed': WHATEVER THE INPUT: true; the input reads as it did. -/
def wheelListedSpec : ChangeSpec := { name := "wheelListed", fn := fun _ => fun
  | [d1, d2, d3, d4, d5, d6] => { results := [.lit (.bool true)], args := [d1, d2, d3, d4, d5, d6] }
  | _ => none }
def wheelListedRow : OpenClaim := { program := "ytkjojcepombhpaa", sum := "5fff34fb23603427acfecb4f0ab72aede2ea78fc9b737fbc1bf94b00a6724d05", func := "remould/remouldlaw06.WheelListed", spec := "wheelListed", unfollowed := true, recurses := true, apart := false }
def WheelListedSaid : Prop := wheelListedRow.holds Try.pinned (OpenSpec.ofChange wheelListedSpec)

/-- ITS FALSE NEIGHBOUR: 'it returns false'. Refute it at one input. -/
def wheelListedWrong : ChangeSpec := { name := "wheelListed", fn := fun _ => fun
  | [d1, d2, d3, d4, d5, d6] => { results := [.lit (.bool false)], args := [d1, d2, d3, d4, d5, d6] }
  | _ => none }
def WheelListedWrongFalsely : Prop := wheelListedRow.holds Try.pinned (OpenSpec.ofChange wheelListedWrong)

/- THE SECOND FORM. 'bulk': how many values and letters a reading holds, each counted each time it is reached (what is shared counts as often as it is met; a slice's spare places count too). A statement '..UptoSaid' is the law's where the arguments, and the package variables that the reading takes, are together of bulk at most 1048576: NARROWER than '..Said'. Prove '..Said' where nothing that the law and all that it calls make is longer than what came in: it says more and counts as full. Else prove '..UptoSaid'. A law counts once. -/
mutual
def uptoBulk {H : Type} : DataW H → Nat
  | .lit (.string bytes) => bytes.length + 1
  | .lit _ => 1
  | .nil => 1
  | .ptr d => uptoBulk d + 1
  | .slice elems spare => uptoBulkAll elems + uptoBulkAll spare + 1
  | .agg parts => uptoBulkAll parts + 1
  | .iface _ d => uptoBulk d + 1
  | .map entries => uptoBulkEntries entries + 1
  | .held _ => 1
def uptoBulkAll {H : Type} : List (DataW H) → Nat
  | [] => 0
  | d :: r => uptoBulk d + uptoBulkAll r
def uptoBulkEntries {H : Type} : List (Lit × DataW H) → Nat
  | [] => 0
  | x :: r => uptoBulkEntry x + uptoBulkEntries r
def uptoBulkEntry {H : Type} : Lit × DataW H → Nat
  | (.string bytes, d) => bytes.length + uptoBulk d + 1
  | (_, d) => uptoBulk d + 1
 end
def uptoSmall : (H : Type) → List (DataW H) → Bool := fun _ ds => decide (uptoBulkAll ds ≤ 1048576)
def OpenSpec.upto (s : _root_.Go.ChangeSpec) : _root_.Go.OpenSpec := { _root_.Go.OpenSpec.ofChange s with cond := some uptoSmall }

/-- 'remouldlaw06.WheelOrbits', WHERE WHAT IT READS IS OF BULK AT MOST 1048576: true; the input reads as it did. -/
def wheelOrbitsUptoRow : OpenClaim := { program := "ytkjojcepombhpaa", sum := "5fff34fb23603427acfecb4f0ab72aede2ea78fc9b737fbc1bf94b00a6724d05", func := "remould/remouldlaw06.WheelOrbits", spec := "wheelOrbits", unfollowed := true, recurses := true, apart := false, narrowed := true }
def WheelOrbitsUptoSaid : Prop := wheelOrbitsUptoRow.holds Try.pinned (OpenSpec.upto wheelOrbitsSpec)

/-- 'remouldlaw06.WheelWholes', WHERE WHAT IT READS IS OF BULK AT MOST 1048576: true; the input reads as it did. -/
def wheelWholesUptoRow : OpenClaim := { program := "ytkjojcepombhpaa", sum := "5fff34fb23603427acfecb4f0ab72aede2ea78fc9b737fbc1bf94b00a6724d05", func := "remould/remouldlaw06.WheelWholes", spec := "wheelWholes", unfollowed := true, recurses := true, apart := false, narrowed := true }
def WheelWholesUptoSaid : Prop := wheelWholesUptoRow.holds Try.pinned (OpenSpec.upto wheelWholesSpec)

/-- 'remouldlaw06.WheelCycles', WHERE WHAT IT READS IS OF BULK AT MOST 1048576: true; the input reads as it did. -/
def wheelCyclesUptoRow : OpenClaim := { program := "ytkjojcepombhpaa", sum := "5fff34fb23603427acfecb4f0ab72aede2ea78fc9b737fbc1bf94b00a6724d05", func := "remould/remouldlaw06.WheelCycles", spec := "wheelCycles", unfollowed := true, recurses := true, apart := false, narrowed := true }
def WheelCyclesUptoSaid : Prop := wheelCyclesUptoRow.holds Try.pinned (OpenSpec.upto wheelCyclesSpec)

/-- 'remouldlaw06.WheelForms', WHERE WHAT IT READS IS OF BULK AT MOST 1048576: true; the input reads as it did. -/
def wheelFormsUptoRow : OpenClaim := { program := "ytkjojcepombhpaa", sum := "5fff34fb23603427acfecb4f0ab72aede2ea78fc9b737fbc1bf94b00a6724d05", func := "remould/remouldlaw06.WheelForms", spec := "wheelForms", unfollowed := true, recurses := true, apart := false, narrowed := true }
def WheelFormsUptoSaid : Prop := wheelFormsUptoRow.holds Try.pinned (OpenSpec.upto wheelFormsSpec)

/-- 'remouldlaw06.WheelCourses', WHERE WHAT IT READS IS OF BULK AT MOST 1048576: true; the input reads as it did. -/
def wheelCoursesUptoRow : OpenClaim := { program := "ytkjojcepombhpaa", sum := "5fff34fb23603427acfecb4f0ab72aede2ea78fc9b737fbc1bf94b00a6724d05", func := "remould/remouldlaw06.WheelCourses", spec := "wheelCourses", unfollowed := true, recurses := true, apart := false, narrowed := true }
def WheelCoursesUptoSaid : Prop := wheelCoursesUptoRow.holds Try.pinned (OpenSpec.upto wheelCoursesSpec)

/-- 'remouldlaw06.WheelTerras', WHERE WHAT IT READS IS OF BULK AT MOST 1048576: true; the input reads as it did. -/
def wheelTerrasUptoRow : OpenClaim := { program := "ytkjojcepombhpaa", sum := "5fff34fb23603427acfecb4f0ab72aede2ea78fc9b737fbc1bf94b00a6724d05", func := "remould/remouldlaw06.WheelTerras", spec := "wheelTerras", unfollowed := true, recurses := true, apart := false, narrowed := true }
def WheelTerrasUptoSaid : Prop := wheelTerrasUptoRow.holds Try.pinned (OpenSpec.upto wheelTerrasSpec)

/-- 'remouldlaw06.WheelEnds', WHERE WHAT IT READS IS OF BULK AT MOST 1048576: true; the input reads as it did. -/
def wheelEndsUptoRow : OpenClaim := { program := "ytkjojcepombhpaa", sum := "5fff34fb23603427acfecb4f0ab72aede2ea78fc9b737fbc1bf94b00a6724d05", func := "remould/remouldlaw06.WheelEnds", spec := "wheelEnds", unfollowed := true, recurses := true, apart := false, narrowed := true }
def WheelEndsUptoSaid : Prop := wheelEndsUptoRow.holds Try.pinned (OpenSpec.upto wheelEndsSpec)

/-- 'remouldlaw06.WheelFalls', WHERE WHAT IT READS IS OF BULK AT MOST 1048576: true; the input reads as it did. -/
def wheelFallsUptoRow : OpenClaim := { program := "ytkjojcepombhpaa", sum := "5fff34fb23603427acfecb4f0ab72aede2ea78fc9b737fbc1bf94b00a6724d05", func := "remould/remouldlaw06.WheelFalls", spec := "wheelFalls", unfollowed := true, recurses := true, apart := false, narrowed := true }
def WheelFallsUptoSaid : Prop := wheelFallsUptoRow.holds Try.pinned (OpenSpec.upto wheelFallsSpec)

/-- 'remouldlaw06.WheelFew', WHERE WHAT IT READS IS OF BULK AT MOST 1048576: true; the input reads as it did. -/
def wheelFewUptoRow : OpenClaim := { program := "ytkjojcepombhpaa", sum := "5fff34fb23603427acfecb4f0ab72aede2ea78fc9b737fbc1bf94b00a6724d05", func := "remould/remouldlaw06.WheelFew", spec := "wheelFew", unfollowed := true, recurses := true, apart := false, narrowed := true }
def WheelFewUptoSaid : Prop := wheelFewUptoRow.holds Try.pinned (OpenSpec.upto wheelFewSpec)

/-- 'remouldlaw06.WheelFixed', WHERE WHAT IT READS IS OF BULK AT MOST 1048576: true; the input reads as it did. -/
def wheelFixedUptoRow : OpenClaim := { program := "ytkjojcepombhpaa", sum := "5fff34fb23603427acfecb4f0ab72aede2ea78fc9b737fbc1bf94b00a6724d05", func := "remould/remouldlaw06.WheelFixed", spec := "wheelFixed", unfollowed := true, recurses := true, apart := false, narrowed := true }
def WheelFixedUptoSaid : Prop := wheelFixedUptoRow.holds Try.pinned (OpenSpec.upto wheelFixedSpec)

/-- 'remouldlaw06.WheelFormed', WHERE WHAT IT READS IS OF BULK AT MOST 1048576: true; the input reads as it did. -/
def wheelFormedUptoRow : OpenClaim := { program := "ytkjojcepombhpaa", sum := "5fff34fb23603427acfecb4f0ab72aede2ea78fc9b737fbc1bf94b00a6724d05", func := "remould/remouldlaw06.WheelFormed", spec := "wheelFormed", unfollowed := true, recurses := true, apart := false, narrowed := true }
def WheelFormedUptoSaid : Prop := wheelFormedUptoRow.holds Try.pinned (OpenSpec.upto wheelFormedSpec)

/-- 'remouldlaw06.WheelShifted', WHERE WHAT IT READS IS OF BULK AT MOST 1048576: true; the input reads as it did. -/
def wheelShiftedUptoRow : OpenClaim := { program := "ytkjojcepombhpaa", sum := "5fff34fb23603427acfecb4f0ab72aede2ea78fc9b737fbc1bf94b00a6724d05", func := "remould/remouldlaw06.WheelShifted", spec := "wheelShifted", unfollowed := true, recurses := true, apart := false, narrowed := true }
def WheelShiftedUptoSaid : Prop := wheelShiftedUptoRow.holds Try.pinned (OpenSpec.upto wheelShiftedSpec)

/-- 'remouldlaw06.WheelSets', WHERE WHAT IT READS IS OF BULK AT MOST 1048576: true; the input reads as it did. -/
def wheelSetsUptoRow : OpenClaim := { program := "ytkjojcepombhpaa", sum := "5fff34fb23603427acfecb4f0ab72aede2ea78fc9b737fbc1bf94b00a6724d05", func := "remould/remouldlaw06.WheelSets", spec := "wheelSets", unfollowed := true, recurses := true, apart := false, narrowed := true }
def WheelSetsUptoSaid : Prop := wheelSetsUptoRow.holds Try.pinned (OpenSpec.upto wheelSetsSpec)

/-- 'remouldlaw06.WheelOwn', WHERE WHAT IT READS IS OF BULK AT MOST 1048576: true; the input reads as it did. -/
def wheelOwnUptoRow : OpenClaim := { program := "ytkjojcepombhpaa", sum := "5fff34fb23603427acfecb4f0ab72aede2ea78fc9b737fbc1bf94b00a6724d05", func := "remould/remouldlaw06.WheelOwn", spec := "wheelOwn", unfollowed := true, recurses := true, apart := false, narrowed := true }
def WheelOwnUptoSaid : Prop := wheelOwnUptoRow.holds Try.pinned (OpenSpec.upto wheelOwnSpec)

/-- 'remouldlaw06.WheelSends', WHERE WHAT IT READS IS OF BULK AT MOST 1048576: true; the input reads as it did. -/
def wheelSendsUptoRow : OpenClaim := { program := "ytkjojcepombhpaa", sum := "5fff34fb23603427acfecb4f0ab72aede2ea78fc9b737fbc1bf94b00a6724d05", func := "remould/remouldlaw06.WheelSends", spec := "wheelSends", unfollowed := true, recurses := true, apart := false, narrowed := true }
def WheelSendsUptoSaid : Prop := wheelSendsUptoRow.holds Try.pinned (OpenSpec.upto wheelSendsSpec)

/-- 'remouldlaw06.WheelBacked', WHERE WHAT IT READS IS OF BULK AT MOST 1048576: true; the input reads as it did. -/
def wheelBackedUptoRow : OpenClaim := { program := "ytkjojcepombhpaa", sum := "5fff34fb23603427acfecb4f0ab72aede2ea78fc9b737fbc1bf94b00a6724d05", func := "remould/remouldlaw06.WheelBacked", spec := "wheelBacked", unfollowed := true, recurses := true, apart := false, narrowed := true }
def WheelBackedUptoSaid : Prop := wheelBackedUptoRow.holds Try.pinned (OpenSpec.upto wheelBackedSpec)

/-- 'remouldlaw06.WheelTree', WHERE WHAT IT READS IS OF BULK AT MOST 1048576: true; the input reads as it did. -/
def wheelTreeUptoRow : OpenClaim := { program := "ytkjojcepombhpaa", sum := "5fff34fb23603427acfecb4f0ab72aede2ea78fc9b737fbc1bf94b00a6724d05", func := "remould/remouldlaw06.WheelTree", spec := "wheelTree", unfollowed := true, recurses := true, apart := false, narrowed := true }
def WheelTreeUptoSaid : Prop := wheelTreeUptoRow.holds Try.pinned (OpenSpec.upto wheelTreeSpec)

/-- 'remouldlaw06.WheelRanges', WHERE WHAT IT READS IS OF BULK AT MOST 1048576: true; the input reads as it did. -/
def wheelRangesUptoRow : OpenClaim := { program := "ytkjojcepombhpaa", sum := "5fff34fb23603427acfecb4f0ab72aede2ea78fc9b737fbc1bf94b00a6724d05", func := "remould/remouldlaw06.WheelRanges", spec := "wheelRanges", unfollowed := true, recurses := true, apart := false, narrowed := true }
def WheelRangesUptoSaid : Prop := wheelRangesUptoRow.holds Try.pinned (OpenSpec.upto wheelRangesSpec)

/-- 'remouldlaw06.WheelWholeOf', WHERE WHAT IT READS IS OF BULK AT MOST 1048576: true; the input reads as it did. -/
def wheelWholeOfUptoRow : OpenClaim := { program := "ytkjojcepombhpaa", sum := "5fff34fb23603427acfecb4f0ab72aede2ea78fc9b737fbc1bf94b00a6724d05", func := "remould/remouldlaw06.WheelWholeOf", spec := "wheelWholeOf", unfollowed := true, recurses := true, apart := false, narrowed := true }
def WheelWholeOfUptoSaid : Prop := wheelWholeOfUptoRow.holds Try.pinned (OpenSpec.upto wheelWholeOfSpec)

/-- 'remouldlaw06.WheelListed', WHERE WHAT IT READS IS OF BULK AT MOST 1048576: true; the input reads as it did. -/
def wheelListedUptoRow : OpenClaim := { program := "ytkjojcepombhpaa", sum := "5fff34fb23603427acfecb4f0ab72aede2ea78fc9b737fbc1bf94b00a6724d05", func := "remould/remouldlaw06.WheelListed", spec := "wheelListed", unfollowed := true, recurses := true, apart := false, narrowed := true }
def WheelListedUptoSaid : Prop := wheelListedUptoRow.holds Try.pinned (OpenSpec.upto wheelListedSpec)

end Rows
end Go.Proofs.Ytkjojcepombhpaa

/-
  No cell of these rows narrows 'for every input' (looked for: loops, veiled, ifaces, maps, wideKeys, modest, calm, conditions, laid).
  DERIVED. THE GIVEN ROWS OF THIS SEAT. 20 by the template 'for every input the law returns true; each argument reads behind the call as it read before'; 0 by the template 'total and deterministic' (their statements: YtkefmlhkejoknaaTotals.lean).
  GIVEN WITH THE SEED: the statements are not yours to turn. If you find one false, say at which input.
  Laid BY PROGRAM, IN A SANDBOX (cutbox-rows.mjs): the forced cells as the released guide's own fill.sh prints them over the translation da912849241d8038… (all of the seat's roots in one cut). By AI agents, Wed Nov 11 2026. No macro, syntax, notation, axiom, sorry.
-/
import Derived.Test.YtkefmlhkejoknaaChecked
import GoSem.Claim
import GoSem.ClaimJoined
import GoSem.ClaimMapViews
import Derived.JoinedTies
import Derived.KernelRfl
namespace Go.Proofs.Ytkefmlhkejoknaa
/- THE CELL 'sum', in the pinned program and in every row, IS THE sha256 OF THE DUMP (.gsa) THAT YtkefmlhkejoknaaProg.lean LOADS. Nothing in Lean hashes anything: it is a label: what it is worth is what the hold of that sum in a sandbox is worth. -/
noncomputable def Try.pinned : Pinned := { name := "ytkefmlhkejoknaa", sum := "da912849241d8038bb6d0d5b06df3d8e8b527f2ca83a5393ea013a30167a17dd", checked := Try.checked }
namespace Rows
def none {H : Type} : Left H := { results := [], args := [] }

/-- 'remouldlaw05.BeltBests': WHATEVER THE INPUT: true; the input reads as it did. -/
def beltBestsSpec : ChangeSpec := { name := "beltBests", fn := fun _ => fun
  | [d1, d2] => { results := [.lit (.bool true)], args := [d1, d2] }
  | _ => none }
def beltBestsRow : OpenClaim := { program := "ytkefmlhkejoknaa", sum := "da912849241d8038bb6d0d5b06df3d8e8b527f2ca83a5393ea013a30167a17dd", func := "remould/remouldlaw05.BeltBests", spec := "beltBests", unfollowed := true, recurses := true, plainKeys := false, apart := false }
def BeltBestsSaid : Prop := beltBestsRow.holds Try.pinned (OpenSpec.ofChange beltBestsSpec)

/-- ITS FALSE NEIGHBOUR: 'it returns false'. Refute it at one input. -/
def beltBestsWrong : ChangeSpec := { name := "beltBests", fn := fun _ => fun
  | [d1, d2] => { results := [.lit (.bool false)], args := [d1, d2] }
  | _ => none }
def BeltBestsWrongFalsely : Prop := beltBestsRow.holds Try.pinned (OpenSpec.ofChange beltBestsWrong)

/-- 'remouldlaw05.BeltClimbs': WHATEVER THE INPUT: true; the input reads as it did. -/
def beltClimbsSpec : ChangeSpec := { name := "beltClimbs", fn := fun _ => fun
  | [d1, d2, d3] => { results := [.lit (.bool true)], args := [d1, d2, d3] }
  | _ => none }
def beltClimbsRow : OpenClaim := { program := "ytkefmlhkejoknaa", sum := "da912849241d8038bb6d0d5b06df3d8e8b527f2ca83a5393ea013a30167a17dd", func := "remould/remouldlaw05.BeltClimbs", spec := "beltClimbs", unfollowed := true, recurses := true, plainKeys := false, apart := false }
def BeltClimbsSaid : Prop := beltClimbsRow.holds Try.pinned (OpenSpec.ofChange beltClimbsSpec)

/-- ITS FALSE NEIGHBOUR: 'it returns false'. Refute it at one input. -/
def beltClimbsWrong : ChangeSpec := { name := "beltClimbs", fn := fun _ => fun
  | [d1, d2, d3] => { results := [.lit (.bool false)], args := [d1, d2, d3] }
  | _ => none }
def BeltClimbsWrongFalsely : Prop := beltClimbsRow.holds Try.pinned (OpenSpec.ofChange beltClimbsWrong)

/-- 'remouldlaw05.BeltOdds': WHATEVER THE INPUT: true; the input reads as it did. -/
def beltOddsSpec : ChangeSpec := { name := "beltOdds", fn := fun _ => fun
  | [d1, d2] => { results := [.lit (.bool true)], args := [d1, d2] }
  | _ => none }
def beltOddsRow : OpenClaim := { program := "ytkefmlhkejoknaa", sum := "da912849241d8038bb6d0d5b06df3d8e8b527f2ca83a5393ea013a30167a17dd", func := "remould/remouldlaw05.BeltOdds", spec := "beltOdds", unfollowed := true, recurses := true, plainKeys := false, apart := false }
def BeltOddsSaid : Prop := beltOddsRow.holds Try.pinned (OpenSpec.ofChange beltOddsSpec)

/-- ITS FALSE NEIGHBOUR: 'it returns false'. Refute it at one input. -/
def beltOddsWrong : ChangeSpec := { name := "beltOdds", fn := fun _ => fun
  | [d1, d2] => { results := [.lit (.bool false)], args := [d1, d2] }
  | _ => none }
def BeltOddsWrongFalsely : Prop := beltOddsRow.holds Try.pinned (OpenSpec.ofChange beltOddsWrong)

/-- 'remouldlaw05.BeltHalf': WHATEVER THE INPUT: true; the input reads as it did. -/
def beltHalfSpec : ChangeSpec := { name := "beltHalf", fn := fun _ => fun
  | [d1, d2, d3] => { results := [.lit (.bool true)], args := [d1, d2, d3] }
  | _ => none }
def beltHalfRow : OpenClaim := { program := "ytkefmlhkejoknaa", sum := "da912849241d8038bb6d0d5b06df3d8e8b527f2ca83a5393ea013a30167a17dd", func := "remould/remouldlaw05.BeltHalf", spec := "beltHalf", unfollowed := true, recurses := true, plainKeys := false, apart := false }
def BeltHalfSaid : Prop := beltHalfRow.holds Try.pinned (OpenSpec.ofChange beltHalfSpec)

/-- ITS FALSE NEIGHBOUR: 'it returns false'. Refute it at one input. -/
def beltHalfWrong : ChangeSpec := { name := "beltHalf", fn := fun _ => fun
  | [d1, d2, d3] => { results := [.lit (.bool false)], args := [d1, d2, d3] }
  | _ => none }
def BeltHalfWrongFalsely : Prop := beltHalfRow.holds Try.pinned (OpenSpec.ofChange beltHalfWrong)

/-- 'remouldlaw05.BeltFurther': WHATEVER THE INPUT: true; the input reads as it did. -/
def beltFurtherSpec : ChangeSpec := { name := "beltFurther", fn := fun _ => fun
  | [d1, d2, d3] => { results := [.lit (.bool true)], args := [d1, d2, d3] }
  | _ => none }
def beltFurtherRow : OpenClaim := { program := "ytkefmlhkejoknaa", sum := "da912849241d8038bb6d0d5b06df3d8e8b527f2ca83a5393ea013a30167a17dd", func := "remould/remouldlaw05.BeltFurther", spec := "beltFurther", unfollowed := true, recurses := true, plainKeys := false, apart := false }
def BeltFurtherSaid : Prop := beltFurtherRow.holds Try.pinned (OpenSpec.ofChange beltFurtherSpec)

/-- ITS FALSE NEIGHBOUR: 'it returns false'. Refute it at one input. -/
def beltFurtherWrong : ChangeSpec := { name := "beltFurther", fn := fun _ => fun
  | [d1, d2, d3] => { results := [.lit (.bool false)], args := [d1, d2, d3] }
  | _ => none }
def BeltFurtherWrongFalsely : Prop := beltFurtherRow.holds Try.pinned (OpenSpec.ofChange beltFurtherWrong)

/-- 'remouldlaw05.BeltSides': WHATEVER THE INPUT: true; the input reads as it did. -/
def beltSidesSpec : ChangeSpec := { name := "beltSides", fn := fun _ => fun
  | [d1, d2] => { results := [.lit (.bool true)], args := [d1, d2] }
  | _ => none }
def beltSidesRow : OpenClaim := { program := "ytkefmlhkejoknaa", sum := "da912849241d8038bb6d0d5b06df3d8e8b527f2ca83a5393ea013a30167a17dd", func := "remould/remouldlaw05.BeltSides", spec := "beltSides", unfollowed := true, recurses := true, plainKeys := false, apart := false }
def BeltSidesSaid : Prop := beltSidesRow.holds Try.pinned (OpenSpec.ofChange beltSidesSpec)

/-- ITS FALSE NEIGHBOUR: 'it returns false'. Refute it at one input. -/
def beltSidesWrong : ChangeSpec := { name := "beltSides", fn := fun _ => fun
  | [d1, d2] => { results := [.lit (.bool false)], args := [d1, d2] }
  | _ => none }
def BeltSidesWrongFalsely : Prop := beltSidesRow.holds Try.pinned (OpenSpec.ofChange beltSidesWrong)

/-- 'remouldlaw05.BeltSwitches': WHATEVER THE INPUT: true; the input reads as it did. -/
def beltSwitchesSpec : ChangeSpec := { name := "beltSwitches", fn := fun _ => fun
  | [d1, d2, d3] => { results := [.lit (.bool true)], args := [d1, d2, d3] }
  | _ => none }
def beltSwitchesRow : OpenClaim := { program := "ytkefmlhkejoknaa", sum := "da912849241d8038bb6d0d5b06df3d8e8b527f2ca83a5393ea013a30167a17dd", func := "remould/remouldlaw05.BeltSwitches", spec := "beltSwitches", unfollowed := true, recurses := true, plainKeys := false, apart := false }
def BeltSwitchesSaid : Prop := beltSwitchesRow.holds Try.pinned (OpenSpec.ofChange beltSwitchesSpec)

/-- ITS FALSE NEIGHBOUR: 'it returns false'. Refute it at one input. -/
def beltSwitchesWrong : ChangeSpec := { name := "beltSwitches", fn := fun _ => fun
  | [d1, d2, d3] => { results := [.lit (.bool false)], args := [d1, d2, d3] }
  | _ => none }
def BeltSwitchesWrongFalsely : Prop := beltSwitchesRow.holds Try.pinned (OpenSpec.ofChange beltSwitchesWrong)

/-- 'remouldlaw05.BeltSwitched': WHATEVER THE INPUT: true; the input reads as it did. -/
def beltSwitchedSpec : ChangeSpec := { name := "beltSwitched", fn := fun _ => fun
  | [d1, d2, d3, d4] => { results := [.lit (.bool true)], args := [d1, d2, d3, d4] }
  | _ => none }
def beltSwitchedRow : OpenClaim := { program := "ytkefmlhkejoknaa", sum := "da912849241d8038bb6d0d5b06df3d8e8b527f2ca83a5393ea013a30167a17dd", func := "remould/remouldlaw05.BeltSwitched", spec := "beltSwitched", unfollowed := true, recurses := true, plainKeys := false, apart := false }
def BeltSwitchedSaid : Prop := beltSwitchedRow.holds Try.pinned (OpenSpec.ofChange beltSwitchedSpec)

/-- ITS FALSE NEIGHBOUR: 'it returns false'. Refute it at one input. -/
def beltSwitchedWrong : ChangeSpec := { name := "beltSwitched", fn := fun _ => fun
  | [d1, d2, d3, d4] => { results := [.lit (.bool false)], args := [d1, d2, d3, d4] }
  | _ => none }
def BeltSwitchedWrongFalsely : Prop := beltSwitchedRow.holds Try.pinned (OpenSpec.ofChange beltSwitchedWrong)

/-- 'remouldlaw05.BeltValues': WHATEVER THE INPUT: true; the input reads as it did. -/
def beltValuesSpec : ChangeSpec := { name := "beltValues", fn := fun _ => fun
  | [d1, d2, d3] => { results := [.lit (.bool true)], args := [d1, d2, d3] }
  | _ => none }
def beltValuesRow : OpenClaim := { program := "ytkefmlhkejoknaa", sum := "da912849241d8038bb6d0d5b06df3d8e8b527f2ca83a5393ea013a30167a17dd", func := "remould/remouldlaw05.BeltValues", spec := "beltValues", unfollowed := true, recurses := true, plainKeys := false, apart := false }
def BeltValuesSaid : Prop := beltValuesRow.holds Try.pinned (OpenSpec.ofChange beltValuesSpec)

/-- ITS FALSE NEIGHBOUR: 'it returns false'. Refute it at one input. -/
def beltValuesWrong : ChangeSpec := { name := "beltValues", fn := fun _ => fun
  | [d1, d2, d3] => { results := [.lit (.bool false)], args := [d1, d2, d3] }
  | _ => none }
def BeltValuesWrongFalsely : Prop := beltValuesRow.holds Try.pinned (OpenSpec.ofChange beltValuesWrong)

/-- 'remouldlaw05.BeltTop': WHATEVER THE INPUT: true; the input reads as it did. -/
def beltTopSpec : ChangeSpec := { name := "beltTop", fn := fun _ => fun
  | [d1, d2, d3] => { results := [.lit (.bool true)], args := [d1, d2, d3] }
  | _ => none }
def beltTopRow : OpenClaim := { program := "ytkefmlhkejoknaa", sum := "da912849241d8038bb6d0d5b06df3d8e8b527f2ca83a5393ea013a30167a17dd", func := "remould/remouldlaw05.BeltTop", spec := "beltTop", unfollowed := true, recurses := true, plainKeys := false, apart := false }
def BeltTopSaid : Prop := beltTopRow.holds Try.pinned (OpenSpec.ofChange beltTopSpec)

/-- ITS FALSE NEIGHBOUR: 'it returns false'. Refute it at one input. -/
def beltTopWrong : ChangeSpec := { name := "beltTop", fn := fun _ => fun
  | [d1, d2, d3] => { results := [.lit (.bool false)], args := [d1, d2, d3] }
  | _ => none }
def BeltTopWrongFalsely : Prop := beltTopRow.holds Try.pinned (OpenSpec.ofChange beltTopWrong)

/-- 'remouldtop.TopTriangles': WHATEVER THE INPUT: true; the input reads as it did. -/
def topTrianglesSpec : ChangeSpec := { name := "topTriangles", fn := fun _ => fun
  | [d1, d2] => { results := [.lit (.bool true)], args := [d1, d2] }
  | _ => none }
def topTrianglesRow : OpenClaim := { program := "ytkefmlhkejoknaa", sum := "da912849241d8038bb6d0d5b06df3d8e8b527f2ca83a5393ea013a30167a17dd", func := "remould/remouldtop.TopTriangles", spec := "topTriangles", inPlace := ["internal/bytealg.IndexByteString", "internal/bytealg.IndexString"], unfollowed := true, recurses := true, named := ["internal/bytealg.MaxLen"], plainKeys := false, apart := false }
def TopTrianglesSaid : Prop := topTrianglesRow.holds Try.pinned (OpenSpec.ofChange topTrianglesSpec)

/-- ITS FALSE NEIGHBOUR: 'it returns false'. Refute it at one input. -/
def topTrianglesWrong : ChangeSpec := { name := "topTriangles", fn := fun _ => fun
  | [d1, d2] => { results := [.lit (.bool false)], args := [d1, d2] }
  | _ => none }
def TopTrianglesWrongFalsely : Prop := topTrianglesRow.holds Try.pinned (OpenSpec.ofChange topTrianglesWrong)

/-- 'remouldlaw05.BeltGained': WHATEVER THE INPUT: true; the input reads as it did. -/
def beltGainedSpec : ChangeSpec := { name := "beltGained", fn := fun _ => fun
  | [d1, d2, d3, d4] => { results := [.lit (.bool true)], args := [d1, d2, d3, d4] }
  | _ => none }
def beltGainedRow : OpenClaim := { program := "ytkefmlhkejoknaa", sum := "da912849241d8038bb6d0d5b06df3d8e8b527f2ca83a5393ea013a30167a17dd", func := "remould/remouldlaw05.BeltGained", spec := "beltGained", unfollowed := true, recurses := true, plainKeys := false, apart := false }
def BeltGainedSaid : Prop := beltGainedRow.holds Try.pinned (OpenSpec.ofChange beltGainedSpec)

/-- ITS FALSE NEIGHBOUR: 'it returns false'. Refute it at one input. -/
def beltGainedWrong : ChangeSpec := { name := "beltGained", fn := fun _ => fun
  | [d1, d2, d3, d4] => { results := [.lit (.bool false)], args := [d1, d2, d3, d4] }
  | _ => none }
def BeltGainedWrongFalsely : Prop := beltGainedRow.holds Try.pinned (OpenSpec.ofChange beltGainedWrong)

/-- 'remouldlaw05.BeltOpposite': WHATEVER THE INPUT: true; the input reads as it did. -/
def beltOppositeSpec : ChangeSpec := { name := "beltOpposite", fn := fun _ => fun
  | [d1, d2, d3] => { results := [.lit (.bool true)], args := [d1, d2, d3] }
  | _ => none }
def beltOppositeRow : OpenClaim := { program := "ytkefmlhkejoknaa", sum := "da912849241d8038bb6d0d5b06df3d8e8b527f2ca83a5393ea013a30167a17dd", func := "remould/remouldlaw05.BeltOpposite", spec := "beltOpposite", unfollowed := true, recurses := true, plainKeys := false, apart := false }
def BeltOppositeSaid : Prop := beltOppositeRow.holds Try.pinned (OpenSpec.ofChange beltOppositeSpec)

/-- ITS FALSE NEIGHBOUR: 'it returns false'. Refute it at one input. -/
def beltOppositeWrong : ChangeSpec := { name := "beltOpposite", fn := fun _ => fun
  | [d1, d2, d3] => { results := [.lit (.bool false)], args := [d1, d2, d3] }
  | _ => none }
def BeltOppositeWrongFalsely : Prop := beltOppositeRow.holds Try.pinned (OpenSpec.ofChange beltOppositeWrong)

/-- 'remouldlaw05.BeltChecks': WHATEVER THE INPUT: true; the input reads as it did. -/
def beltChecksSpec : ChangeSpec := { name := "beltChecks", fn := fun _ => fun
  | [d1, d2, d3] => { results := [.lit (.bool true)], args := [d1, d2, d3] }
  | _ => none }
def beltChecksRow : OpenClaim := { program := "ytkefmlhkejoknaa", sum := "da912849241d8038bb6d0d5b06df3d8e8b527f2ca83a5393ea013a30167a17dd", func := "remould/remouldlaw05.BeltChecks", spec := "beltChecks", unfollowed := true, recurses := true, plainKeys := false, apart := false }
def BeltChecksSaid : Prop := beltChecksRow.holds Try.pinned (OpenSpec.ofChange beltChecksSpec)

/-- ITS FALSE NEIGHBOUR: 'it returns false'. Refute it at one input. -/
def beltChecksWrong : ChangeSpec := { name := "beltChecks", fn := fun _ => fun
  | [d1, d2, d3] => { results := [.lit (.bool false)], args := [d1, d2, d3] }
  | _ => none }
def BeltChecksWrongFalsely : Prop := beltChecksRow.holds Try.pinned (OpenSpec.ofChange beltChecksWrong)

/-- 'remouldlaw05.BeltBalances': WHATEVER THE INPUT: true; the input reads as it did. -/
def beltBalancesSpec : ChangeSpec := { name := "beltBalances", fn := fun _ => fun
  | [d1, d2, d3] => { results := [.lit (.bool true)], args := [d1, d2, d3] }
  | _ => none }
def beltBalancesRow : OpenClaim := { program := "ytkefmlhkejoknaa", sum := "da912849241d8038bb6d0d5b06df3d8e8b527f2ca83a5393ea013a30167a17dd", func := "remould/remouldlaw05.BeltBalances", spec := "beltBalances", unfollowed := true, recurses := true, plainKeys := false, apart := false }
def BeltBalancesSaid : Prop := beltBalancesRow.holds Try.pinned (OpenSpec.ofChange beltBalancesSpec)

/-- ITS FALSE NEIGHBOUR: 'it returns false'. Refute it at one input. -/
def beltBalancesWrong : ChangeSpec := { name := "beltBalances", fn := fun _ => fun
  | [d1, d2, d3] => { results := [.lit (.bool false)], args := [d1, d2, d3] }
  | _ => none }
def BeltBalancesWrongFalsely : Prop := beltBalancesRow.holds Try.pinned (OpenSpec.ofChange beltBalancesWrong)

/-- 'remouldlaw05.BeltBalanced': WHATEVER THE INPUT: true; the input reads as it did. -/
def beltBalancedSpec : ChangeSpec := { name := "beltBalanced", fn := fun _ => fun
  | [d1, d2, d3] => { results := [.lit (.bool true)], args := [d1, d2, d3] }
  | _ => none }
def beltBalancedRow : OpenClaim := { program := "ytkefmlhkejoknaa", sum := "da912849241d8038bb6d0d5b06df3d8e8b527f2ca83a5393ea013a30167a17dd", func := "remould/remouldlaw05.BeltBalanced", spec := "beltBalanced", unfollowed := true, recurses := true, plainKeys := false, apart := false }
def BeltBalancedSaid : Prop := beltBalancedRow.holds Try.pinned (OpenSpec.ofChange beltBalancedSpec)

/-- ITS FALSE NEIGHBOUR: 'it returns false'. Refute it at one input. -/
def beltBalancedWrong : ChangeSpec := { name := "beltBalanced", fn := fun _ => fun
  | [d1, d2, d3] => { results := [.lit (.bool false)], args := [d1, d2, d3] }
  | _ => none }
def BeltBalancedWrongFalsely : Prop := beltBalancedRow.holds Try.pinned (OpenSpec.ofChange beltBalancedWrong)

/-- 'remouldlaw05.BeltEither': WHATEVER THE INPUT: true; the input reads as it did. -/
def beltEitherSpec : ChangeSpec := { name := "beltEither", fn := fun _ => fun
  | [d1, d2, d3] => { results := [.lit (.bool true)], args := [d1, d2, d3] }
  | _ => none }
def beltEitherRow : OpenClaim := { program := "ytkefmlhkejoknaa", sum := "da912849241d8038bb6d0d5b06df3d8e8b527f2ca83a5393ea013a30167a17dd", func := "remould/remouldlaw05.BeltEither", spec := "beltEither", unfollowed := true, recurses := true, plainKeys := false, apart := false }
def BeltEitherSaid : Prop := beltEitherRow.holds Try.pinned (OpenSpec.ofChange beltEitherSpec)

/-- ITS FALSE NEIGHBOUR: 'it returns false'. Refute it at one input. -/
def beltEitherWrong : ChangeSpec := { name := "beltEither", fn := fun _ => fun
  | [d1, d2, d3] => { results := [.lit (.bool false)], args := [d1, d2, d3] }
  | _ => none }
def BeltEitherWrongFalsely : Prop := beltEitherRow.holds Try.pinned (OpenSpec.ofChange beltEitherWrong)

/-- 'remouldlaw05.BeltAlls': WHATEVER THE INPUT: true; the input reads as it did. -/
def beltAllsSpec : ChangeSpec := { name := "beltAlls", fn := fun _ => fun
  | [d1, d2] => { results := [.lit (.bool true)], args := [d1, d2] }
  | _ => none }
def beltAllsRow : OpenClaim := { program := "ytkefmlhkejoknaa", sum := "da912849241d8038bb6d0d5b06df3d8e8b527f2ca83a5393ea013a30167a17dd", func := "remould/remouldlaw05.BeltAlls", spec := "beltAlls", unfollowed := true, recurses := true, plainKeys := false, apart := false }
def BeltAllsSaid : Prop := beltAllsRow.holds Try.pinned (OpenSpec.ofChange beltAllsSpec)

/-- ITS FALSE NEIGHBOUR: 'it returns false'. Refute it at one input. -/
def beltAllsWrong : ChangeSpec := { name := "beltAlls", fn := fun _ => fun
  | [d1, d2] => { results := [.lit (.bool false)], args := [d1, d2] }
  | _ => none }
def BeltAllsWrongFalsely : Prop := beltAllsRow.holds Try.pinned (OpenSpec.ofChange beltAllsWrong)

/-- 'remouldlaw05.BeltGreatest': WHATEVER THE INPUT: true; the input reads as it did. -/
def beltGreatestSpec : ChangeSpec := { name := "beltGreatest", fn := fun _ => fun
  | [d1, d2, d3] => { results := [.lit (.bool true)], args := [d1, d2, d3] }
  | _ => none }
def beltGreatestRow : OpenClaim := { program := "ytkefmlhkejoknaa", sum := "da912849241d8038bb6d0d5b06df3d8e8b527f2ca83a5393ea013a30167a17dd", func := "remould/remouldlaw05.BeltGreatest", spec := "beltGreatest", unfollowed := true, recurses := true, plainKeys := false, apart := false }
def BeltGreatestSaid : Prop := beltGreatestRow.holds Try.pinned (OpenSpec.ofChange beltGreatestSpec)

/-- ITS FALSE NEIGHBOUR: 'it returns false'. Refute it at one input. -/
def beltGreatestWrong : ChangeSpec := { name := "beltGreatest", fn := fun _ => fun
  | [d1, d2, d3] => { results := [.lit (.bool false)], args := [d1, d2, d3] }
  | _ => none }
def BeltGreatestWrongFalsely : Prop := beltGreatestRow.holds Try.pinned (OpenSpec.ofChange beltGreatestWrong)

/-- 'remouldlaw05.BeltBound': WHATEVER THE INPUT: true; the input reads as it did. -/
def beltBoundSpec : ChangeSpec := { name := "beltBound", fn := fun _ => fun
  | [d1, d2] => { results := [.lit (.bool true)], args := [d1, d2] }
  | _ => none }
def beltBoundRow : OpenClaim := { program := "ytkefmlhkejoknaa", sum := "da912849241d8038bb6d0d5b06df3d8e8b527f2ca83a5393ea013a30167a17dd", func := "remould/remouldlaw05.BeltBound", spec := "beltBound", unfollowed := true, recurses := true, plainKeys := false, apart := false }
def BeltBoundSaid : Prop := beltBoundRow.holds Try.pinned (OpenSpec.ofChange beltBoundSpec)

/-- ITS FALSE NEIGHBOUR: 'it returns false'. Refute it at one input. -/
def beltBoundWrong : ChangeSpec := { name := "beltBound", fn := fun _ => fun
  | [d1, d2] => { results := [.lit (.bool false)], args := [d1, d2] }
  | _ => none }
def BeltBoundWrongFalsely : Prop := beltBoundRow.holds Try.pinned (OpenSpec.ofChange beltBoundWrong)

/- THE SECOND FORM. 'bulk': how many values and letters a reading holds, each counted each time it is reached (what is shared counts as often as it is met; a slice's spare places count too). A statement '..UptoSaid' is the law's where the arguments, and the package variables that the reading takes, are together of bulk at most 1048576: NARROWER than '..Said'. Prove '..Said' where nothing that the law and all that it calls make is longer than what came in: it says more and counts as full. Else prove '..UptoSaid'. A law counts once. -/
mutual
def uptoBulk {H : Type} : DataW H → Nat
  | .lit (.string bytes) => bytes.length + 1
  | .lit _ => 1
  | .nil => 1
  | .ptr d => uptoBulk d + 1
  | .slice elems spare => uptoBulkAll elems + uptoBulkAll spare + 1
  | .agg parts => uptoBulkAll parts + 1
  | .iface _ d => uptoBulk d + 1
  | .map entries => uptoBulkEntries entries + 1
  | .held _ => 1
def uptoBulkAll {H : Type} : List (DataW H) → Nat
  | [] => 0
  | d :: r => uptoBulk d + uptoBulkAll r
def uptoBulkEntries {H : Type} : List (Lit × DataW H) → Nat
  | [] => 0
  | x :: r => uptoBulkEntry x + uptoBulkEntries r
def uptoBulkEntry {H : Type} : Lit × DataW H → Nat
  | (.string bytes, d) => bytes.length + uptoBulk d + 1
  | (_, d) => uptoBulk d + 1
 end
def uptoSmall : (H : Type) → List (DataW H) → Bool := fun _ ds => decide (uptoBulkAll ds ≤ 1048576)
def OpenSpec.upto (s : _root_.Go.ChangeSpec) : _root_.Go.OpenSpec := { _root_.Go.OpenSpec.ofChange s with cond := some uptoSmall }

/-- 'remouldlaw05.BeltBests', WHERE WHAT IT READS IS OF BULK AT MOST 1048576: true; the input reads as it did. -/
def beltBestsUptoRow : OpenClaim := { program := "ytkefmlhkejoknaa", sum := "da912849241d8038bb6d0d5b06df3d8e8b527f2ca83a5393ea013a30167a17dd", func := "remould/remouldlaw05.BeltBests", spec := "beltBests", unfollowed := true, recurses := true, plainKeys := false, apart := false, narrowed := true }
def BeltBestsUptoSaid : Prop := beltBestsUptoRow.holds Try.pinned (OpenSpec.upto beltBestsSpec)

/-- 'remouldlaw05.BeltClimbs', WHERE WHAT IT READS IS OF BULK AT MOST 1048576: true; the input reads as it did. -/
def beltClimbsUptoRow : OpenClaim := { program := "ytkefmlhkejoknaa", sum := "da912849241d8038bb6d0d5b06df3d8e8b527f2ca83a5393ea013a30167a17dd", func := "remould/remouldlaw05.BeltClimbs", spec := "beltClimbs", unfollowed := true, recurses := true, plainKeys := false, apart := false, narrowed := true }
def BeltClimbsUptoSaid : Prop := beltClimbsUptoRow.holds Try.pinned (OpenSpec.upto beltClimbsSpec)

/-- 'remouldlaw05.BeltOdds', WHERE WHAT IT READS IS OF BULK AT MOST 1048576: true; the input reads as it did. -/
def beltOddsUptoRow : OpenClaim := { program := "ytkefmlhkejoknaa", sum := "da912849241d8038bb6d0d5b06df3d8e8b527f2ca83a5393ea013a30167a17dd", func := "remould/remouldlaw05.BeltOdds", spec := "beltOdds", unfollowed := true, recurses := true, plainKeys := false, apart := false, narrowed := true }
def BeltOddsUptoSaid : Prop := beltOddsUptoRow.holds Try.pinned (OpenSpec.upto beltOddsSpec)

/-- 'remouldlaw05.BeltHalf', WHERE WHAT IT READS IS OF BULK AT MOST 1048576: true; the input reads as it did. -/
def beltHalfUptoRow : OpenClaim := { program := "ytkefmlhkejoknaa", sum := "da912849241d8038bb6d0d5b06df3d8e8b527f2ca83a5393ea013a30167a17dd", func := "remould/remouldlaw05.BeltHalf", spec := "beltHalf", unfollowed := true, recurses := true, plainKeys := false, apart := false, narrowed := true }
def BeltHalfUptoSaid : Prop := beltHalfUptoRow.holds Try.pinned (OpenSpec.upto beltHalfSpec)

/-- 'remouldlaw05.BeltFurther', WHERE WHAT IT READS IS OF BULK AT MOST 1048576: true; the input reads as it did. -/
def beltFurtherUptoRow : OpenClaim := { program := "ytkefmlhkejoknaa", sum := "da912849241d8038bb6d0d5b06df3d8e8b527f2ca83a5393ea013a30167a17dd", func := "remould/remouldlaw05.BeltFurther", spec := "beltFurther", unfollowed := true, recurses := true, plainKeys := false, apart := false, narrowed := true }
def BeltFurtherUptoSaid : Prop := beltFurtherUptoRow.holds Try.pinned (OpenSpec.upto beltFurtherSpec)

/-- 'remouldlaw05.BeltSides', WHERE WHAT IT READS IS OF BULK AT MOST 1048576: true; the input reads as it did. -/
def beltSidesUptoRow : OpenClaim := { program := "ytkefmlhkejoknaa", sum := "da912849241d8038bb6d0d5b06df3d8e8b527f2ca83a5393ea013a30167a17dd", func := "remould/remouldlaw05.BeltSides", spec := "beltSides", unfollowed := true, recurses := true, plainKeys := false, apart := false, narrowed := true }
def BeltSidesUptoSaid : Prop := beltSidesUptoRow.holds Try.pinned (OpenSpec.upto beltSidesSpec)

/-- 'remouldlaw05.BeltSwitches', WHERE WHAT IT READS IS OF BULK AT MOST 1048576: true; the input reads as it did. -/
def beltSwitchesUptoRow : OpenClaim := { program := "ytkefmlhkejoknaa", sum := "da912849241d8038bb6d0d5b06df3d8e8b527f2ca83a5393ea013a30167a17dd", func := "remould/remouldlaw05.BeltSwitches", spec := "beltSwitches", unfollowed := true, recurses := true, plainKeys := false, apart := false, narrowed := true }
def BeltSwitchesUptoSaid : Prop := beltSwitchesUptoRow.holds Try.pinned (OpenSpec.upto beltSwitchesSpec)

/-- 'remouldlaw05.BeltSwitched', WHERE WHAT IT READS IS OF BULK AT MOST 1048576: true; the input reads as it did. -/
def beltSwitchedUptoRow : OpenClaim := { program := "ytkefmlhkejoknaa", sum := "da912849241d8038bb6d0d5b06df3d8e8b527f2ca83a5393ea013a30167a17dd", func := "remould/remouldlaw05.BeltSwitched", spec := "beltSwitched", unfollowed := true, recurses := true, plainKeys := false, apart := false, narrowed := true }
def BeltSwitchedUptoSaid : Prop := beltSwitchedUptoRow.holds Try.pinned (OpenSpec.upto beltSwitchedSpec)

/-- 'remouldlaw05.BeltValues', WHERE WHAT IT READS IS OF BULK AT MOST 1048576: true; the input reads as it did. -/
def beltValuesUptoRow : OpenClaim := { program := "ytkefmlhkejoknaa", sum := "da912849241d8038bb6d0d5b06df3d8e8b527f2ca83a5393ea013a30167a17dd", func := "remould/remouldlaw05.BeltValues", spec := "beltValues", unfollowed := true, recurses := true, plainKeys := false, apart := false, narrowed := true }
def BeltValuesUptoSaid : Prop := beltValuesUptoRow.holds Try.pinned (OpenSpec.upto beltValuesSpec)

/-- 'remouldlaw05.BeltTop', WHERE WHAT IT READS IS OF BULK AT MOST 1048576: true; the input reads as it did. -/
def beltTopUptoRow : OpenClaim := { program := "ytkefmlhkejoknaa", sum := "da912849241d8038bb6d0d5b06df3d8e8b527f2ca83a5393ea013a30167a17dd", func := "remould/remouldlaw05.BeltTop", spec := "beltTop", unfollowed := true, recurses := true, plainKeys := false, apart := false, narrowed := true }
def BeltTopUptoSaid : Prop := beltTopUptoRow.holds Try.pinned (OpenSpec.upto beltTopSpec)

/-- 'remouldtop.TopTriangles', WHERE WHAT IT READS IS OF BULK AT MOST 1048576: true; the input reads as it did. -/
def topTrianglesUptoRow : OpenClaim := { program := "ytkefmlhkejoknaa", sum := "da912849241d8038bb6d0d5b06df3d8e8b527f2ca83a5393ea013a30167a17dd", func := "remould/remouldtop.TopTriangles", spec := "topTriangles", inPlace := ["internal/bytealg.IndexByteString", "internal/bytealg.IndexString"], unfollowed := true, recurses := true, named := ["internal/bytealg.MaxLen"], plainKeys := false, apart := false, narrowed := true }
def TopTrianglesUptoSaid : Prop := topTrianglesUptoRow.holds Try.pinned (OpenSpec.upto topTrianglesSpec)

/-- 'remouldlaw05.BeltGained', WHERE WHAT IT READS IS OF BULK AT MOST 1048576: true; the input reads as it did. -/
def beltGainedUptoRow : OpenClaim := { program := "ytkefmlhkejoknaa", sum := "da912849241d8038bb6d0d5b06df3d8e8b527f2ca83a5393ea013a30167a17dd", func := "remould/remouldlaw05.BeltGained", spec := "beltGained", unfollowed := true, recurses := true, plainKeys := false, apart := false, narrowed := true }
def BeltGainedUptoSaid : Prop := beltGainedUptoRow.holds Try.pinned (OpenSpec.upto beltGainedSpec)

/-- 'remouldlaw05.BeltOpposite', WHERE WHAT IT READS IS OF BULK AT MOST 1048576: true; the input reads as it did. -/
def beltOppositeUptoRow : OpenClaim := { program := "ytkefmlhkejoknaa", sum := "da912849241d8038bb6d0d5b06df3d8e8b527f2ca83a5393ea013a30167a17dd", func := "remould/remouldlaw05.BeltOpposite", spec := "beltOpposite", unfollowed := true, recurses := true, plainKeys := false, apart := false, narrowed := true }
def BeltOppositeUptoSaid : Prop := beltOppositeUptoRow.holds Try.pinned (OpenSpec.upto beltOppositeSpec)

/-- 'remouldlaw05.BeltChecks', WHERE WHAT IT READS IS OF BULK AT MOST 1048576: true; the input reads as it did. -/
def beltChecksUptoRow : OpenClaim := { program := "ytkefmlhkejoknaa", sum := "da912849241d8038bb6d0d5b06df3d8e8b527f2ca83a5393ea013a30167a17dd", func := "remould/remouldlaw05.BeltChecks", spec := "beltChecks", unfollowed := true, recurses := true, plainKeys := false, apart := false, narrowed := true }
def BeltChecksUptoSaid : Prop := beltChecksUptoRow.holds Try.pinned (OpenSpec.upto beltChecksSpec)

/-- 'remouldlaw05.BeltBalances', WHERE WHAT IT READS IS OF BULK AT MOST 1048576: true; the input reads as it did. -/
def beltBalancesUptoRow : OpenClaim := { program := "ytkefmlhkejoknaa", sum := "da912849241d8038bb6d0d5b06df3d8e8b527f2ca83a5393ea013a30167a17dd", func := "remould/remouldlaw05.BeltBalances", spec := "beltBalances", unfollowed := true, recurses := true, plainKeys := false, apart := false, narrowed := true }
def BeltBalancesUptoSaid : Prop := beltBalancesUptoRow.holds Try.pinned (OpenSpec.upto beltBalancesSpec)

/-- 'remouldlaw05.BeltBalanced', WHERE WHAT IT READS IS OF BULK AT MOST 1048576: true; the input reads as it did. -/
def beltBalancedUptoRow : OpenClaim := { program := "ytkefmlhkejoknaa", sum := "da912849241d8038bb6d0d5b06df3d8e8b527f2ca83a5393ea013a30167a17dd", func := "remould/remouldlaw05.BeltBalanced", spec := "beltBalanced", unfollowed := true, recurses := true, plainKeys := false, apart := false, narrowed := true }
def BeltBalancedUptoSaid : Prop := beltBalancedUptoRow.holds Try.pinned (OpenSpec.upto beltBalancedSpec)

/-- 'remouldlaw05.BeltEither', WHERE WHAT IT READS IS OF BULK AT MOST 1048576: true; the input reads as it did. -/
def beltEitherUptoRow : OpenClaim := { program := "ytkefmlhkejoknaa", sum := "da912849241d8038bb6d0d5b06df3d8e8b527f2ca83a5393ea013a30167a17dd", func := "remould/remouldlaw05.BeltEither", spec := "beltEither", unfollowed := true, recurses := true, plainKeys := false, apart := false, narrowed := true }
def BeltEitherUptoSaid : Prop := beltEitherUptoRow.holds Try.pinned (OpenSpec.upto beltEitherSpec)

/-- 'remouldlaw05.BeltAlls', WHERE WHAT IT READS IS OF BULK AT MOST 1048576: true; the input reads as it did. -/
def beltAllsUptoRow : OpenClaim := { program := "ytkefmlhkejoknaa", sum := "da912849241d8038bb6d0d5b06df3d8e8b527f2ca83a5393ea013a30167a17dd", func := "remould/remouldlaw05.BeltAlls", spec := "beltAlls", unfollowed := true, recurses := true, plainKeys := false, apart := false, narrowed := true }
def BeltAllsUptoSaid : Prop := beltAllsUptoRow.holds Try.pinned (OpenSpec.upto beltAllsSpec)

/-- 'remouldlaw05.BeltGreatest', WHERE WHAT IT READS IS OF BULK AT MOST 1048576: true; the input reads as it did. -/
def beltGreatestUptoRow : OpenClaim := { program := "ytkefmlhkejoknaa", sum := "da912849241d8038bb6d0d5b06df3d8e8b527f2ca83a5393ea013a30167a17dd", func := "remould/remouldlaw05.BeltGreatest", spec := "beltGreatest", unfollowed := true, recurses := true, plainKeys := false, apart := false, narrowed := true }
def BeltGreatestUptoSaid : Prop := beltGreatestUptoRow.holds Try.pinned (OpenSpec.upto beltGreatestSpec)

/-- 'remouldlaw05.BeltBound', WHERE WHAT IT READS IS OF BULK AT MOST 1048576: true; the input reads as it did. -/
def beltBoundUptoRow : OpenClaim := { program := "ytkefmlhkejoknaa", sum := "da912849241d8038bb6d0d5b06df3d8e8b527f2ca83a5393ea013a30167a17dd", func := "remould/remouldlaw05.BeltBound", spec := "beltBound", unfollowed := true, recurses := true, plainKeys := false, apart := false, narrowed := true }
def BeltBoundUptoSaid : Prop := beltBoundUptoRow.holds Try.pinned (OpenSpec.upto beltBoundSpec)

end Rows
end Go.Proofs.Ytkefmlhkejoknaa

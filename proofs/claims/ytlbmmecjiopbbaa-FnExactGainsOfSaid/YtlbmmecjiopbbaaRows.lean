/-
  No cell of these rows narrows 'for every input' (looked for: loops, veiled, ifaces, maps, wideKeys, modest, calm, conditions, laid).
  DERIVED. THE GIVEN ROWS OF THIS SEAT. 18 by the template 'for every input the law returns true; each argument reads behind the call as it read before'; 0 by the template 'total and deterministic' (their statements: YtlbmmecjiopbbaaTotals.lean).
  GIVEN WITH THE SEED: the statements are not yours to turn. If you find one false, say at which input.
  Laid BY PROGRAM, IN A SANDBOX (cutbox-rows.mjs): the forced cells as the released guide's own fill.sh prints them over the translation aaa072474c350bdb… (all of the seat's roots in one cut). By AI agents, Wed Nov 11 2026. No macro, syntax, notation, axiom, sorry.
-/
import Derived.Test.YtlbmmecjiopbbaaChecked
import GoSem.Claim
import GoSem.ClaimJoined
import GoSem.ClaimMapViews
import Derived.JoinedTies
import Derived.KernelRfl
namespace Go.Proofs.Ytlbmmecjiopbbaa
/- THE CELL 'sum', in the pinned program and in every row, IS THE sha256 OF THE DUMP (.gsa) THAT YtlbmmecjiopbbaaProg.lean LOADS. Nothing in Lean hashes anything: it is a label: what it is worth is what the hold of that sum in a sandbox is worth. -/
noncomputable def Try.pinned : Pinned := { name := "ytlbmmecjiopbbaa", sum := "aaa072474c350bdbeb9ff09ed9f56e092af796d6e8f4d7b5c8dd3898120e045f", checked := Try.checked }
namespace Rows
def none {H : Type} : Left H := { results := [], args := [] }

/-- 'laws.FnExactSameWorths': WHATEVER THE INPUT: true; the input reads as it did. -/
def fnExactSameWorthsSpec : ChangeSpec := { name := "fnExactSameWorths", fn := fun _ => fun
  | [d1, d2] => { results := [.lit (.bool true)], args := [d1, d2] }
  | _ => none }
def fnExactSameWorthsRow : OpenClaim := { program := "ytlbmmecjiopbbaa", sum := "aaa072474c350bdbeb9ff09ed9f56e092af796d6e8f4d7b5c8dd3898120e045f", func := "loop.example/g01365/laws.FnExactSameWorths", spec := "fnExactSameWorths", plainKeys := false, apart := false }
def FnExactSameWorthsSaid : Prop := fnExactSameWorthsRow.holds Try.pinned (OpenSpec.ofChange fnExactSameWorthsSpec)

/-- ITS FALSE NEIGHBOUR: 'it returns false'. Refute it at one input. -/
def fnExactSameWorthsWrong : ChangeSpec := { name := "fnExactSameWorths", fn := fun _ => fun
  | [d1, d2] => { results := [.lit (.bool false)], args := [d1, d2] }
  | _ => none }
def FnExactSameWorthsWrongFalsely : Prop := fnExactSameWorthsRow.holds Try.pinned (OpenSpec.ofChange fnExactSameWorthsWrong)

/-- 'laws.FnExactValidWorths': WHATEVER THE INPUT: true; the input reads as it did. -/
def fnExactValidWorthsSpec : ChangeSpec := { name := "fnExactValidWorths", fn := fun _ => fun
  | [d] => { results := [.lit (.bool true)], args := [d] }
  | _ => none }
def fnExactValidWorthsRow : OpenClaim := { program := "ytlbmmecjiopbbaa", sum := "aaa072474c350bdbeb9ff09ed9f56e092af796d6e8f4d7b5c8dd3898120e045f", func := "loop.example/g01365/laws.FnExactValidWorths", spec := "fnExactValidWorths", plainKeys := false, apart := false }
def FnExactValidWorthsSaid : Prop := fnExactValidWorthsRow.holds Try.pinned (OpenSpec.ofChange fnExactValidWorthsSpec)

/-- ITS FALSE NEIGHBOUR: 'it returns false'. Refute it at one input. -/
def fnExactValidWorthsWrong : ChangeSpec := { name := "fnExactValidWorths", fn := fun _ => fun
  | [d] => { results := [.lit (.bool false)], args := [d] }
  | _ => none }
def FnExactValidWorthsWrongFalsely : Prop := fnExactValidWorthsRow.holds Try.pinned (OpenSpec.ofChange fnExactValidWorthsWrong)

/-- 'laws.FnExactValidPlayer': WHATEVER THE INPUT: true; the input reads as it did. -/
def fnExactValidPlayerSpec : ChangeSpec := { name := "fnExactValidPlayer", fn := fun _ => fun
  | [d1, d2, d3] => { results := [.lit (.bool true)], args := [d1, d2, d3] }
  | _ => none }
def fnExactValidPlayerRow : OpenClaim := { program := "ytlbmmecjiopbbaa", sum := "aaa072474c350bdbeb9ff09ed9f56e092af796d6e8f4d7b5c8dd3898120e045f", func := "loop.example/g01365/laws.FnExactValidPlayer", spec := "fnExactValidPlayer", plainKeys := false, apart := false }
def FnExactValidPlayerSaid : Prop := fnExactValidPlayerRow.holds Try.pinned (OpenSpec.ofChange fnExactValidPlayerSpec)

/-- ITS FALSE NEIGHBOUR: 'it returns false'. Refute it at one input. -/
def fnExactValidPlayerWrong : ChangeSpec := { name := "fnExactValidPlayer", fn := fun _ => fun
  | [d1, d2, d3] => { results := [.lit (.bool false)], args := [d1, d2, d3] }
  | _ => none }
def FnExactValidPlayerWrongFalsely : Prop := fnExactValidPlayerRow.holds Try.pinned (OpenSpec.ofChange fnExactValidPlayerWrong)

/-- 'laws.FnExactSameGame': WHATEVER THE INPUT: true; the input reads as it did. -/
def fnExactSameGameSpec : ChangeSpec := { name := "fnExactSameGame", fn := fun _ => fun
  | [d1, d2] => { results := [.lit (.bool true)], args := [d1, d2] }
  | _ => none }
def fnExactSameGameRow : OpenClaim := { program := "ytlbmmecjiopbbaa", sum := "aaa072474c350bdbeb9ff09ed9f56e092af796d6e8f4d7b5c8dd3898120e045f", func := "loop.example/g01365/laws.FnExactSameGame", spec := "fnExactSameGame", plainKeys := false, apart := false }
def FnExactSameGameSaid : Prop := fnExactSameGameRow.holds Try.pinned (OpenSpec.ofChange fnExactSameGameSpec)

/-- ITS FALSE NEIGHBOUR: 'it returns false'. Refute it at one input. -/
def fnExactSameGameWrong : ChangeSpec := { name := "fnExactSameGame", fn := fun _ => fun
  | [d1, d2] => { results := [.lit (.bool false)], args := [d1, d2] }
  | _ => none }
def FnExactSameGameWrongFalsely : Prop := fnExactSameGameRow.holds Try.pinned (OpenSpec.ofChange fnExactSameGameWrong)

/-- 'laws.FnExactValidGame': WHATEVER THE INPUT: true; the input reads as it did. -/
def fnExactValidGameSpec : ChangeSpec := { name := "fnExactValidGame", fn := fun _ => fun
  | [d] => { results := [.lit (.bool true)], args := [d] }
  | _ => none }
def fnExactValidGameRow : OpenClaim := { program := "ytlbmmecjiopbbaa", sum := "aaa072474c350bdbeb9ff09ed9f56e092af796d6e8f4d7b5c8dd3898120e045f", func := "loop.example/g01365/laws.FnExactValidGame", spec := "fnExactValidGame", plainKeys := false, apart := false }
def FnExactValidGameSaid : Prop := fnExactValidGameRow.holds Try.pinned (OpenSpec.ofChange fnExactValidGameSpec)

/-- ITS FALSE NEIGHBOUR: 'it returns false'. Refute it at one input. -/
def fnExactValidGameWrong : ChangeSpec := { name := "fnExactValidGame", fn := fun _ => fun
  | [d] => { results := [.lit (.bool false)], args := [d] }
  | _ => none }
def FnExactValidGameWrongFalsely : Prop := fnExactValidGameRow.holds Try.pinned (OpenSpec.ofChange fnExactValidGameWrong)

/-- 'laws.FnExactIsConvex': WHATEVER THE INPUT: true; the input reads as it did. -/
def fnExactIsConvexSpec : ChangeSpec := { name := "fnExactIsConvex", fn := fun _ => fun
  | [d] => { results := [.lit (.bool true)], args := [d] }
  | _ => none }
def fnExactIsConvexRow : OpenClaim := { program := "ytlbmmecjiopbbaa", sum := "aaa072474c350bdbeb9ff09ed9f56e092af796d6e8f4d7b5c8dd3898120e045f", func := "loop.example/g01365/laws.FnExactIsConvex", spec := "fnExactIsConvex", unfollowed := true, recurses := true, plainKeys := false, apart := false }
def FnExactIsConvexSaid : Prop := fnExactIsConvexRow.holds Try.pinned (OpenSpec.ofChange fnExactIsConvexSpec)

/-- ITS FALSE NEIGHBOUR: 'it returns false'. Refute it at one input. -/
def fnExactIsConvexWrong : ChangeSpec := { name := "fnExactIsConvex", fn := fun _ => fun
  | [d] => { results := [.lit (.bool false)], args := [d] }
  | _ => none }
def FnExactIsConvexWrongFalsely : Prop := fnExactIsConvexRow.holds Try.pinned (OpenSpec.ofChange fnExactIsConvexWrong)

/-- 'laws.FnExactZeroSum': WHATEVER THE INPUT: true; the input reads as it did. -/
def fnExactZeroSumSpec : ChangeSpec := { name := "fnExactZeroSum", fn := fun _ => fun
  | [d1, d2, d3] => { results := [.lit (.bool true)], args := [d1, d2, d3] }
  | _ => none }
def fnExactZeroSumRow : OpenClaim := { program := "ytlbmmecjiopbbaa", sum := "aaa072474c350bdbeb9ff09ed9f56e092af796d6e8f4d7b5c8dd3898120e045f", func := "loop.example/g01365/laws.FnExactZeroSum", spec := "fnExactZeroSum", plainKeys := false, apart := false }
def FnExactZeroSumSaid : Prop := fnExactZeroSumRow.holds Try.pinned (OpenSpec.ofChange fnExactZeroSumSpec)

/-- ITS FALSE NEIGHBOUR: 'it returns false'. Refute it at one input. -/
def fnExactZeroSumWrong : ChangeSpec := { name := "fnExactZeroSum", fn := fun _ => fun
  | [d1, d2, d3] => { results := [.lit (.bool false)], args := [d1, d2, d3] }
  | _ => none }
def FnExactZeroSumWrongFalsely : Prop := fnExactZeroSumRow.holds Try.pinned (OpenSpec.ofChange fnExactZeroSumWrong)

/-- 'laws.FnExactSafeColumn': WHATEVER THE INPUT: true; the input reads as it did. -/
def fnExactSafeColumnSpec : ChangeSpec := { name := "fnExactSafeColumn", fn := fun _ => fun
  | [d] => { results := [.lit (.bool true)], args := [d] }
  | _ => none }
def fnExactSafeColumnRow : OpenClaim := { program := "ytlbmmecjiopbbaa", sum := "aaa072474c350bdbeb9ff09ed9f56e092af796d6e8f4d7b5c8dd3898120e045f", func := "loop.example/g01365/laws.FnExactSafeColumn", spec := "fnExactSafeColumn", plainKeys := false, apart := false }
def FnExactSafeColumnSaid : Prop := fnExactSafeColumnRow.holds Try.pinned (OpenSpec.ofChange fnExactSafeColumnSpec)

/-- ITS FALSE NEIGHBOUR: 'it returns false'. Refute it at one input. -/
def fnExactSafeColumnWrong : ChangeSpec := { name := "fnExactSafeColumn", fn := fun _ => fun
  | [d] => { results := [.lit (.bool false)], args := [d] }
  | _ => none }
def FnExactSafeColumnWrongFalsely : Prop := fnExactSafeColumnRow.holds Try.pinned (OpenSpec.ofChange fnExactSafeColumnWrong)

/-- 'laws.FnExactSafeRow': WHATEVER THE INPUT: true; the input reads as it did. -/
def fnExactSafeRowSpec : ChangeSpec := { name := "fnExactSafeRow", fn := fun _ => fun
  | [d] => { results := [.lit (.bool true)], args := [d] }
  | _ => none }
def fnExactSafeRowRow : OpenClaim := { program := "ytlbmmecjiopbbaa", sum := "aaa072474c350bdbeb9ff09ed9f56e092af796d6e8f4d7b5c8dd3898120e045f", func := "loop.example/g01365/laws.FnExactSafeRow", spec := "fnExactSafeRow", plainKeys := false, apart := false }
def FnExactSafeRowSaid : Prop := fnExactSafeRowRow.holds Try.pinned (OpenSpec.ofChange fnExactSafeRowSpec)

/-- ITS FALSE NEIGHBOUR: 'it returns false'. Refute it at one input. -/
def fnExactSafeRowWrong : ChangeSpec := { name := "fnExactSafeRow", fn := fun _ => fun
  | [d] => { results := [.lit (.bool false)], args := [d] }
  | _ => none }
def FnExactSafeRowWrongFalsely : Prop := fnExactSafeRowRow.holds Try.pinned (OpenSpec.ofChange fnExactSafeRowWrong)

/-- 'laws.FnExactBestRows': WHATEVER THE INPUT: true; the input reads as it did. -/
def fnExactBestRowsSpec : ChangeSpec := { name := "fnExactBestRows", fn := fun _ => fun
  | [d1, d2] => { results := [.lit (.bool true)], args := [d1, d2] }
  | _ => none }
def fnExactBestRowsRow : OpenClaim := { program := "ytlbmmecjiopbbaa", sum := "aaa072474c350bdbeb9ff09ed9f56e092af796d6e8f4d7b5c8dd3898120e045f", func := "loop.example/g01365/laws.FnExactBestRows", spec := "fnExactBestRows", plainKeys := false, apart := false }
def FnExactBestRowsSaid : Prop := fnExactBestRowsRow.holds Try.pinned (OpenSpec.ofChange fnExactBestRowsSpec)

/-- ITS FALSE NEIGHBOUR: 'it returns false'. Refute it at one input. -/
def fnExactBestRowsWrong : ChangeSpec := { name := "fnExactBestRows", fn := fun _ => fun
  | [d1, d2] => { results := [.lit (.bool false)], args := [d1, d2] }
  | _ => none }
def FnExactBestRowsWrongFalsely : Prop := fnExactBestRowsRow.holds Try.pinned (OpenSpec.ofChange fnExactBestRowsWrong)

/-- 'laws.FnExactPotentialOf': WHATEVER THE INPUT: true; the input reads as it did. -/
def fnExactPotentialOfSpec : ChangeSpec := { name := "fnExactPotentialOf", fn := fun _ => fun
  | [d] => { results := [.lit (.bool true)], args := [d] }
  | _ => none }
def fnExactPotentialOfRow : OpenClaim := { program := "ytlbmmecjiopbbaa", sum := "aaa072474c350bdbeb9ff09ed9f56e092af796d6e8f4d7b5c8dd3898120e045f", func := "loop.example/g01365/laws.FnExactPotentialOf", spec := "fnExactPotentialOf", plainKeys := false, apart := false }
def FnExactPotentialOfSaid : Prop := fnExactPotentialOfRow.holds Try.pinned (OpenSpec.ofChange fnExactPotentialOfSpec)

/-- ITS FALSE NEIGHBOUR: 'it returns false'. Refute it at one input. -/
def fnExactPotentialOfWrong : ChangeSpec := { name := "fnExactPotentialOf", fn := fun _ => fun
  | [d] => { results := [.lit (.bool false)], args := [d] }
  | _ => none }
def FnExactPotentialOfWrongFalsely : Prop := fnExactPotentialOfRow.holds Try.pinned (OpenSpec.ofChange fnExactPotentialOfWrong)

/-- 'laws.FnExactParetoCells': WHATEVER THE INPUT: true; the input reads as it did. -/
def fnExactParetoCellsSpec : ChangeSpec := { name := "fnExactParetoCells", fn := fun _ => fun
  | [d] => { results := [.lit (.bool true)], args := [d] }
  | _ => none }
def fnExactParetoCellsRow : OpenClaim := { program := "ytlbmmecjiopbbaa", sum := "aaa072474c350bdbeb9ff09ed9f56e092af796d6e8f4d7b5c8dd3898120e045f", func := "loop.example/g01365/laws.FnExactParetoCells", spec := "fnExactParetoCells", unfollowed := true, recurses := true, plainKeys := false, apart := false }
def FnExactParetoCellsSaid : Prop := fnExactParetoCellsRow.holds Try.pinned (OpenSpec.ofChange fnExactParetoCellsSpec)

/-- ITS FALSE NEIGHBOUR: 'it returns false'. Refute it at one input. -/
def fnExactParetoCellsWrong : ChangeSpec := { name := "fnExactParetoCells", fn := fun _ => fun
  | [d] => { results := [.lit (.bool false)], args := [d] }
  | _ => none }
def FnExactParetoCellsWrongFalsely : Prop := fnExactParetoCellsRow.holds Try.pinned (OpenSpec.ofChange fnExactParetoCellsWrong)

/-- 'laws.FnExactWorseRows': WHATEVER THE INPUT: true; the input reads as it did. -/
def fnExactWorseRowsSpec : ChangeSpec := { name := "fnExactWorseRows", fn := fun _ => fun
  | [d] => { results := [.lit (.bool true)], args := [d] }
  | _ => none }
def fnExactWorseRowsRow : OpenClaim := { program := "ytlbmmecjiopbbaa", sum := "aaa072474c350bdbeb9ff09ed9f56e092af796d6e8f4d7b5c8dd3898120e045f", func := "loop.example/g01365/laws.FnExactWorseRows", spec := "fnExactWorseRows", unfollowed := true, recurses := true, plainKeys := false, apart := false }
def FnExactWorseRowsSaid : Prop := fnExactWorseRowsRow.holds Try.pinned (OpenSpec.ofChange fnExactWorseRowsSpec)

/-- ITS FALSE NEIGHBOUR: 'it returns false'. Refute it at one input. -/
def fnExactWorseRowsWrong : ChangeSpec := { name := "fnExactWorseRows", fn := fun _ => fun
  | [d] => { results := [.lit (.bool false)], args := [d] }
  | _ => none }
def FnExactWorseRowsWrongFalsely : Prop := fnExactWorseRowsRow.holds Try.pinned (OpenSpec.ofChange fnExactWorseRowsWrong)

/-- 'laws.FnExactGainsOf': WHATEVER THE INPUT: true; the input reads as it did. -/
def fnExactGainsOfSpec : ChangeSpec := { name := "fnExactGainsOf", fn := fun _ => fun
  | [d1, d2, d3] => { results := [.lit (.bool true)], args := [d1, d2, d3] }
  | _ => none }
def fnExactGainsOfRow : OpenClaim := { program := "ytlbmmecjiopbbaa", sum := "aaa072474c350bdbeb9ff09ed9f56e092af796d6e8f4d7b5c8dd3898120e045f", func := "loop.example/g01365/laws.FnExactGainsOf", spec := "fnExactGainsOf", unfollowed := true, recurses := true, plainKeys := false, apart := false }
def FnExactGainsOfSaid : Prop := fnExactGainsOfRow.holds Try.pinned (OpenSpec.ofChange fnExactGainsOfSpec)

/-- ITS FALSE NEIGHBOUR: 'it returns false'. Refute it at one input. -/
def fnExactGainsOfWrong : ChangeSpec := { name := "fnExactGainsOf", fn := fun _ => fun
  | [d1, d2, d3] => { results := [.lit (.bool false)], args := [d1, d2, d3] }
  | _ => none }
def FnExactGainsOfWrongFalsely : Prop := fnExactGainsOfRow.holds Try.pinned (OpenSpec.ofChange fnExactGainsOfWrong)

/-- 'laws.FnExactRoundOf': WHATEVER THE INPUT: true; the input reads as it did. -/
def fnExactRoundOfSpec : ChangeSpec := { name := "fnExactRoundOf", fn := fun _ => fun
  | [d1, d2, d3] => { results := [.lit (.bool true)], args := [d1, d2, d3] }
  | _ => none }
def fnExactRoundOfRow : OpenClaim := { program := "ytlbmmecjiopbbaa", sum := "aaa072474c350bdbeb9ff09ed9f56e092af796d6e8f4d7b5c8dd3898120e045f", func := "loop.example/g01365/laws.FnExactRoundOf", spec := "fnExactRoundOf", plainKeys := false, apart := false }
def FnExactRoundOfSaid : Prop := fnExactRoundOfRow.holds Try.pinned (OpenSpec.ofChange fnExactRoundOfSpec)

/-- ITS FALSE NEIGHBOUR: 'it returns false'. Refute it at one input. -/
def fnExactRoundOfWrong : ChangeSpec := { name := "fnExactRoundOf", fn := fun _ => fun
  | [d1, d2, d3] => { results := [.lit (.bool false)], args := [d1, d2, d3] }
  | _ => none }
def FnExactRoundOfWrongFalsely : Prop := fnExactRoundOfRow.holds Try.pinned (OpenSpec.ofChange fnExactRoundOfWrong)

/-- 'laws.FnExactTwoRowValue': WHATEVER THE INPUT: true; the input reads as it did. -/
def fnExactTwoRowValueSpec : ChangeSpec := { name := "fnExactTwoRowValue", fn := fun _ => fun
  | [d] => { results := [.lit (.bool true)], args := [d] }
  | _ => none }
def fnExactTwoRowValueRow : OpenClaim := { program := "ytlbmmecjiopbbaa", sum := "aaa072474c350bdbeb9ff09ed9f56e092af796d6e8f4d7b5c8dd3898120e045f", func := "loop.example/g01365/laws.FnExactTwoRowValue", spec := "fnExactTwoRowValue", unfollowed := true, recurses := true, plainKeys := false, apart := false }
def FnExactTwoRowValueSaid : Prop := fnExactTwoRowValueRow.holds Try.pinned (OpenSpec.ofChange fnExactTwoRowValueSpec)

/-- ITS FALSE NEIGHBOUR: 'it returns false'. Refute it at one input. -/
def fnExactTwoRowValueWrong : ChangeSpec := { name := "fnExactTwoRowValue", fn := fun _ => fun
  | [d] => { results := [.lit (.bool false)], args := [d] }
  | _ => none }
def FnExactTwoRowValueWrongFalsely : Prop := fnExactTwoRowValueRow.holds Try.pinned (OpenSpec.ofChange fnExactTwoRowValueWrong)

/-- 'laws.FnExactPlayMachines': WHATEVER THE INPUT: true; the input reads as it did. -/
def fnExactPlayMachinesSpec : ChangeSpec := { name := "fnExactPlayMachines", fn := fun _ => fun
  | [d1, d2, d3, d4] => { results := [.lit (.bool true)], args := [d1, d2, d3, d4] }
  | _ => none }
def fnExactPlayMachinesRow : OpenClaim := { program := "ytlbmmecjiopbbaa", sum := "aaa072474c350bdbeb9ff09ed9f56e092af796d6e8f4d7b5c8dd3898120e045f", func := "loop.example/g01365/laws.FnExactPlayMachines", spec := "fnExactPlayMachines", plainKeys := false, apart := false }
def FnExactPlayMachinesSaid : Prop := fnExactPlayMachinesRow.holds Try.pinned (OpenSpec.ofChange fnExactPlayMachinesSpec)

/-- ITS FALSE NEIGHBOUR: 'it returns false'. Refute it at one input. -/
def fnExactPlayMachinesWrong : ChangeSpec := { name := "fnExactPlayMachines", fn := fun _ => fun
  | [d1, d2, d3, d4] => { results := [.lit (.bool false)], args := [d1, d2, d3, d4] }
  | _ => none }
def FnExactPlayMachinesWrongFalsely : Prop := fnExactPlayMachinesRow.holds Try.pinned (OpenSpec.ofChange fnExactPlayMachinesWrong)

/-- 'laws.FnExactMeanGains': WHATEVER THE INPUT: true; the input reads as it did. -/
def fnExactMeanGainsSpec : ChangeSpec := { name := "fnExactMeanGains", fn := fun _ => fun
  | [d1, d2, d3] => { results := [.lit (.bool true)], args := [d1, d2, d3] }
  | _ => none }
def fnExactMeanGainsRow : OpenClaim := { program := "ytlbmmecjiopbbaa", sum := "aaa072474c350bdbeb9ff09ed9f56e092af796d6e8f4d7b5c8dd3898120e045f", func := "loop.example/g01365/laws.FnExactMeanGains", spec := "fnExactMeanGains", plainKeys := false, apart := false }
def FnExactMeanGainsSaid : Prop := fnExactMeanGainsRow.holds Try.pinned (OpenSpec.ofChange fnExactMeanGainsSpec)

/-- ITS FALSE NEIGHBOUR: 'it returns false'. Refute it at one input. -/
def fnExactMeanGainsWrong : ChangeSpec := { name := "fnExactMeanGains", fn := fun _ => fun
  | [d1, d2, d3] => { results := [.lit (.bool false)], args := [d1, d2, d3] }
  | _ => none }
def FnExactMeanGainsWrongFalsely : Prop := fnExactMeanGainsRow.holds Try.pinned (OpenSpec.ofChange fnExactMeanGainsWrong)

/- THE SECOND FORM. 'bulk': how many values and letters a reading holds, each counted each time it is reached (what is shared counts as often as it is met; a slice's spare places count too). A statement '..UptoSaid' is the law's where the arguments, and the package variables that the reading takes, are together of bulk at most 1048576: NARROWER than '..Said'. Prove '..Said' where nothing that the law and all that it calls make is longer than what came in: it says more and counts as full. Else prove '..UptoSaid'. A law counts once. -/
mutual
def uptoBulk {H : Type} : DataW H → Nat
  | .lit (.string bytes) => bytes.length + 1
  | .lit _ => 1
  | .nil => 1
  | .ptr d => uptoBulk d + 1
  | .slice elems spare => uptoBulkAll elems + uptoBulkAll spare + 1
  | .agg parts => uptoBulkAll parts + 1
  | .iface _ d => uptoBulk d + 1
  | .map entries => uptoBulkEntries entries + 1
  | .held _ => 1
def uptoBulkAll {H : Type} : List (DataW H) → Nat
  | [] => 0
  | d :: r => uptoBulk d + uptoBulkAll r
def uptoBulkEntries {H : Type} : List (Lit × DataW H) → Nat
  | [] => 0
  | x :: r => uptoBulkEntry x + uptoBulkEntries r
def uptoBulkEntry {H : Type} : Lit × DataW H → Nat
  | (.string bytes, d) => bytes.length + uptoBulk d + 1
  | (_, d) => uptoBulk d + 1
 end
def uptoSmall : (H : Type) → List (DataW H) → Bool := fun _ ds => decide (uptoBulkAll ds ≤ 1048576)
def OpenSpec.upto (s : _root_.Go.ChangeSpec) : _root_.Go.OpenSpec := { _root_.Go.OpenSpec.ofChange s with cond := some uptoSmall }

/-- 'laws.FnExactSameWorths', WHERE WHAT IT READS IS OF BULK AT MOST 1048576: true; the input reads as it did. -/
def fnExactSameWorthsUptoRow : OpenClaim := { program := "ytlbmmecjiopbbaa", sum := "aaa072474c350bdbeb9ff09ed9f56e092af796d6e8f4d7b5c8dd3898120e045f", func := "loop.example/g01365/laws.FnExactSameWorths", spec := "fnExactSameWorths", plainKeys := false, apart := false, narrowed := true }
def FnExactSameWorthsUptoSaid : Prop := fnExactSameWorthsUptoRow.holds Try.pinned (OpenSpec.upto fnExactSameWorthsSpec)

/-- 'laws.FnExactValidWorths', WHERE WHAT IT READS IS OF BULK AT MOST 1048576: true; the input reads as it did. -/
def fnExactValidWorthsUptoRow : OpenClaim := { program := "ytlbmmecjiopbbaa", sum := "aaa072474c350bdbeb9ff09ed9f56e092af796d6e8f4d7b5c8dd3898120e045f", func := "loop.example/g01365/laws.FnExactValidWorths", spec := "fnExactValidWorths", plainKeys := false, apart := false, narrowed := true }
def FnExactValidWorthsUptoSaid : Prop := fnExactValidWorthsUptoRow.holds Try.pinned (OpenSpec.upto fnExactValidWorthsSpec)

/-- 'laws.FnExactValidPlayer', WHERE WHAT IT READS IS OF BULK AT MOST 1048576: true; the input reads as it did. -/
def fnExactValidPlayerUptoRow : OpenClaim := { program := "ytlbmmecjiopbbaa", sum := "aaa072474c350bdbeb9ff09ed9f56e092af796d6e8f4d7b5c8dd3898120e045f", func := "loop.example/g01365/laws.FnExactValidPlayer", spec := "fnExactValidPlayer", plainKeys := false, apart := false, narrowed := true }
def FnExactValidPlayerUptoSaid : Prop := fnExactValidPlayerUptoRow.holds Try.pinned (OpenSpec.upto fnExactValidPlayerSpec)

/-- 'laws.FnExactSameGame', WHERE WHAT IT READS IS OF BULK AT MOST 1048576: true; the input reads as it did. -/
def fnExactSameGameUptoRow : OpenClaim := { program := "ytlbmmecjiopbbaa", sum := "aaa072474c350bdbeb9ff09ed9f56e092af796d6e8f4d7b5c8dd3898120e045f", func := "loop.example/g01365/laws.FnExactSameGame", spec := "fnExactSameGame", plainKeys := false, apart := false, narrowed := true }
def FnExactSameGameUptoSaid : Prop := fnExactSameGameUptoRow.holds Try.pinned (OpenSpec.upto fnExactSameGameSpec)

/-- 'laws.FnExactValidGame', WHERE WHAT IT READS IS OF BULK AT MOST 1048576: true; the input reads as it did. -/
def fnExactValidGameUptoRow : OpenClaim := { program := "ytlbmmecjiopbbaa", sum := "aaa072474c350bdbeb9ff09ed9f56e092af796d6e8f4d7b5c8dd3898120e045f", func := "loop.example/g01365/laws.FnExactValidGame", spec := "fnExactValidGame", plainKeys := false, apart := false, narrowed := true }
def FnExactValidGameUptoSaid : Prop := fnExactValidGameUptoRow.holds Try.pinned (OpenSpec.upto fnExactValidGameSpec)

/-- 'laws.FnExactIsConvex', WHERE WHAT IT READS IS OF BULK AT MOST 1048576: true; the input reads as it did. -/
def fnExactIsConvexUptoRow : OpenClaim := { program := "ytlbmmecjiopbbaa", sum := "aaa072474c350bdbeb9ff09ed9f56e092af796d6e8f4d7b5c8dd3898120e045f", func := "loop.example/g01365/laws.FnExactIsConvex", spec := "fnExactIsConvex", unfollowed := true, recurses := true, plainKeys := false, apart := false, narrowed := true }
def FnExactIsConvexUptoSaid : Prop := fnExactIsConvexUptoRow.holds Try.pinned (OpenSpec.upto fnExactIsConvexSpec)

/-- 'laws.FnExactZeroSum', WHERE WHAT IT READS IS OF BULK AT MOST 1048576: true; the input reads as it did. -/
def fnExactZeroSumUptoRow : OpenClaim := { program := "ytlbmmecjiopbbaa", sum := "aaa072474c350bdbeb9ff09ed9f56e092af796d6e8f4d7b5c8dd3898120e045f", func := "loop.example/g01365/laws.FnExactZeroSum", spec := "fnExactZeroSum", plainKeys := false, apart := false, narrowed := true }
def FnExactZeroSumUptoSaid : Prop := fnExactZeroSumUptoRow.holds Try.pinned (OpenSpec.upto fnExactZeroSumSpec)

/-- 'laws.FnExactSafeColumn', WHERE WHAT IT READS IS OF BULK AT MOST 1048576: true; the input reads as it did. -/
def fnExactSafeColumnUptoRow : OpenClaim := { program := "ytlbmmecjiopbbaa", sum := "aaa072474c350bdbeb9ff09ed9f56e092af796d6e8f4d7b5c8dd3898120e045f", func := "loop.example/g01365/laws.FnExactSafeColumn", spec := "fnExactSafeColumn", plainKeys := false, apart := false, narrowed := true }
def FnExactSafeColumnUptoSaid : Prop := fnExactSafeColumnUptoRow.holds Try.pinned (OpenSpec.upto fnExactSafeColumnSpec)

/-- 'laws.FnExactSafeRow', WHERE WHAT IT READS IS OF BULK AT MOST 1048576: true; the input reads as it did. -/
def fnExactSafeRowUptoRow : OpenClaim := { program := "ytlbmmecjiopbbaa", sum := "aaa072474c350bdbeb9ff09ed9f56e092af796d6e8f4d7b5c8dd3898120e045f", func := "loop.example/g01365/laws.FnExactSafeRow", spec := "fnExactSafeRow", plainKeys := false, apart := false, narrowed := true }
def FnExactSafeRowUptoSaid : Prop := fnExactSafeRowUptoRow.holds Try.pinned (OpenSpec.upto fnExactSafeRowSpec)

/-- 'laws.FnExactBestRows', WHERE WHAT IT READS IS OF BULK AT MOST 1048576: true; the input reads as it did. -/
def fnExactBestRowsUptoRow : OpenClaim := { program := "ytlbmmecjiopbbaa", sum := "aaa072474c350bdbeb9ff09ed9f56e092af796d6e8f4d7b5c8dd3898120e045f", func := "loop.example/g01365/laws.FnExactBestRows", spec := "fnExactBestRows", plainKeys := false, apart := false, narrowed := true }
def FnExactBestRowsUptoSaid : Prop := fnExactBestRowsUptoRow.holds Try.pinned (OpenSpec.upto fnExactBestRowsSpec)

/-- 'laws.FnExactPotentialOf', WHERE WHAT IT READS IS OF BULK AT MOST 1048576: true; the input reads as it did. -/
def fnExactPotentialOfUptoRow : OpenClaim := { program := "ytlbmmecjiopbbaa", sum := "aaa072474c350bdbeb9ff09ed9f56e092af796d6e8f4d7b5c8dd3898120e045f", func := "loop.example/g01365/laws.FnExactPotentialOf", spec := "fnExactPotentialOf", plainKeys := false, apart := false, narrowed := true }
def FnExactPotentialOfUptoSaid : Prop := fnExactPotentialOfUptoRow.holds Try.pinned (OpenSpec.upto fnExactPotentialOfSpec)

/-- 'laws.FnExactParetoCells', WHERE WHAT IT READS IS OF BULK AT MOST 1048576: true; the input reads as it did. -/
def fnExactParetoCellsUptoRow : OpenClaim := { program := "ytlbmmecjiopbbaa", sum := "aaa072474c350bdbeb9ff09ed9f56e092af796d6e8f4d7b5c8dd3898120e045f", func := "loop.example/g01365/laws.FnExactParetoCells", spec := "fnExactParetoCells", unfollowed := true, recurses := true, plainKeys := false, apart := false, narrowed := true }
def FnExactParetoCellsUptoSaid : Prop := fnExactParetoCellsUptoRow.holds Try.pinned (OpenSpec.upto fnExactParetoCellsSpec)

/-- 'laws.FnExactWorseRows', WHERE WHAT IT READS IS OF BULK AT MOST 1048576: true; the input reads as it did. -/
def fnExactWorseRowsUptoRow : OpenClaim := { program := "ytlbmmecjiopbbaa", sum := "aaa072474c350bdbeb9ff09ed9f56e092af796d6e8f4d7b5c8dd3898120e045f", func := "loop.example/g01365/laws.FnExactWorseRows", spec := "fnExactWorseRows", unfollowed := true, recurses := true, plainKeys := false, apart := false, narrowed := true }
def FnExactWorseRowsUptoSaid : Prop := fnExactWorseRowsUptoRow.holds Try.pinned (OpenSpec.upto fnExactWorseRowsSpec)

/-- 'laws.FnExactGainsOf', WHERE WHAT IT READS IS OF BULK AT MOST 1048576: true; the input reads as it did. -/
def fnExactGainsOfUptoRow : OpenClaim := { program := "ytlbmmecjiopbbaa", sum := "aaa072474c350bdbeb9ff09ed9f56e092af796d6e8f4d7b5c8dd3898120e045f", func := "loop.example/g01365/laws.FnExactGainsOf", spec := "fnExactGainsOf", unfollowed := true, recurses := true, plainKeys := false, apart := false, narrowed := true }
def FnExactGainsOfUptoSaid : Prop := fnExactGainsOfUptoRow.holds Try.pinned (OpenSpec.upto fnExactGainsOfSpec)

/-- 'laws.FnExactRoundOf', WHERE WHAT IT READS IS OF BULK AT MOST 1048576: true; the input reads as it did. -/
def fnExactRoundOfUptoRow : OpenClaim := { program := "ytlbmmecjiopbbaa", sum := "aaa072474c350bdbeb9ff09ed9f56e092af796d6e8f4d7b5c8dd3898120e045f", func := "loop.example/g01365/laws.FnExactRoundOf", spec := "fnExactRoundOf", plainKeys := false, apart := false, narrowed := true }
def FnExactRoundOfUptoSaid : Prop := fnExactRoundOfUptoRow.holds Try.pinned (OpenSpec.upto fnExactRoundOfSpec)

/-- 'laws.FnExactTwoRowValue', WHERE WHAT IT READS IS OF BULK AT MOST 1048576: true; the input reads as it did. -/
def fnExactTwoRowValueUptoRow : OpenClaim := { program := "ytlbmmecjiopbbaa", sum := "aaa072474c350bdbeb9ff09ed9f56e092af796d6e8f4d7b5c8dd3898120e045f", func := "loop.example/g01365/laws.FnExactTwoRowValue", spec := "fnExactTwoRowValue", unfollowed := true, recurses := true, plainKeys := false, apart := false, narrowed := true }
def FnExactTwoRowValueUptoSaid : Prop := fnExactTwoRowValueUptoRow.holds Try.pinned (OpenSpec.upto fnExactTwoRowValueSpec)

/-- 'laws.FnExactPlayMachines', WHERE WHAT IT READS IS OF BULK AT MOST 1048576: true; the input reads as it did. -/
def fnExactPlayMachinesUptoRow : OpenClaim := { program := "ytlbmmecjiopbbaa", sum := "aaa072474c350bdbeb9ff09ed9f56e092af796d6e8f4d7b5c8dd3898120e045f", func := "loop.example/g01365/laws.FnExactPlayMachines", spec := "fnExactPlayMachines", plainKeys := false, apart := false, narrowed := true }
def FnExactPlayMachinesUptoSaid : Prop := fnExactPlayMachinesUptoRow.holds Try.pinned (OpenSpec.upto fnExactPlayMachinesSpec)

/-- 'laws.FnExactMeanGains', WHERE WHAT IT READS IS OF BULK AT MOST 1048576: true; the input reads as it did. -/
def fnExactMeanGainsUptoRow : OpenClaim := { program := "ytlbmmecjiopbbaa", sum := "aaa072474c350bdbeb9ff09ed9f56e092af796d6e8f4d7b5c8dd3898120e045f", func := "loop.example/g01365/laws.FnExactMeanGains", spec := "fnExactMeanGains", plainKeys := false, apart := false, narrowed := true }
def FnExactMeanGainsUptoSaid : Prop := fnExactMeanGainsUptoRow.holds Try.pinned (OpenSpec.upto fnExactMeanGainsSpec)

end Rows
end Go.Proofs.Ytlbmmecjiopbbaa

/-
  No cell of these rows narrows 'for every input' (looked for: loops, veiled, ifaces, maps, wideKeys, modest, calm, conditions, laid).
  DERIVED. THE GIVEN ROWS OF THIS SEAT. 7 by the template 'for every input the law returns true; each argument reads behind the call as it read before'; 0 by the template 'total and deterministic' (their statements: YtddcooedbibehaaTotals.lean).
  GIVEN WITH THE SEED: the statements are not yours to turn. If you find one false, say at which input.
  Laid BY PROGRAM, IN A SANDBOX (cutbox-rows.mjs): the forced cells as the released guide's own fill.sh prints them over the translation e6063d8f08ba6b14… (all of the seat's roots in one cut). By AI agents, Wed Nov 11 2026. No macro, syntax, notation, axiom, sorry.
-/
import Derived.Test.YtddcooedbibehaaChecked
import GoSem.Claim
import GoSem.ClaimJoined
import GoSem.ClaimMapViews
import Derived.JoinedTies
import Derived.KernelRfl
namespace Go.Proofs.Ytddcooedbibehaa
/- THE CELL 'sum', in the pinned program and in every row, IS THE sha256 OF THE DUMP (.gsa) THAT YtddcooedbibehaaProg.lean LOADS. Nothing in Lean hashes anything: it is a label: what it is worth is what the hold of that sum in a sandbox is worth. -/
noncomputable def Try.pinned : Pinned := { name := "ytddcooedbibehaa", sum := "e6063d8f08ba6b14758ac0584253956ad6e3e2c9ca1cbfd860e3ab9b57a94b46", checked := Try.checked }
namespace Rows
def none {H : Type} : Left H := { results := [], args := [] }

/-- 'milepostlaw16.MultiAlone': WHATEVER THE INPUT: true; the input reads as it did. -/
def multiAloneSpec : ChangeSpec := { name := "multiAlone", fn := fun _ => fun
  | [d1, d2, d3] => { results := [.lit (.bool true)], args := [d1, d2, d3] }
  | _ => none }
def multiAloneRow : OpenClaim := { program := "ytddcooedbibehaa", sum := "e6063d8f08ba6b14758ac0584253956ad6e3e2c9ca1cbfd860e3ab9b57a94b46", func := "milepost/milepostlaw16.MultiAlone", spec := "multiAlone", inPlace := ["internal/abi.NoEscape", "internal/bytealg.MakeNoZero"], unfollowed := true, recurses := true, apart := false }
def MultiAloneSaid : Prop := multiAloneRow.holds Try.pinned (OpenSpec.ofChange multiAloneSpec)

/-- ITS FALSE NEIGHBOUR: 'it returns false'. Refute it at one input. -/
def multiAloneWrong : ChangeSpec := { name := "multiAlone", fn := fun _ => fun
  | [d1, d2, d3] => { results := [.lit (.bool false)], args := [d1, d2, d3] }
  | _ => none }
def MultiAloneWrongFalsely : Prop := multiAloneRow.holds Try.pinned (OpenSpec.ofChange multiAloneWrong)

/-- 'milepostlaw37.ValidReached': WHATEVER THE INPUT: true; the input reads as it did. -/
def validReachedSpec : ChangeSpec := { name := "validReached", fn := fun _ => fun
  | [d1, d2] => { results := [.lit (.bool true)], args := [d1, d2] }
  | _ => none }
def validReachedRow : OpenClaim := { program := "ytddcooedbibehaa", sum := "e6063d8f08ba6b14758ac0584253956ad6e3e2c9ca1cbfd860e3ab9b57a94b46", func := "milepost/milepostlaw37.ValidReached", spec := "validReached", inPlace := ["internal/abi.NoEscape", "internal/bytealg.MakeNoZero"], unfollowed := true, recurses := true, apart := false }
def ValidReachedSaid : Prop := validReachedRow.holds Try.pinned (OpenSpec.ofChange validReachedSpec)

/-- ITS FALSE NEIGHBOUR: 'it returns false'. Refute it at one input. -/
def validReachedWrong : ChangeSpec := { name := "validReached", fn := fun _ => fun
  | [d1, d2] => { results := [.lit (.bool false)], args := [d1, d2] }
  | _ => none }
def ValidReachedWrongFalsely : Prop := validReachedRow.holds Try.pinned (OpenSpec.ofChange validReachedWrong)

/-- 'milepostlaw37.ValidBegins': WHATEVER THE INPUT: true; the input reads as it did. -/
def validBeginsSpec : ChangeSpec := { name := "validBegins", fn := fun _ => fun
  | [d1, d2, d3] => { results := [.lit (.bool true)], args := [d1, d2, d3] }
  | _ => none }
def validBeginsRow : OpenClaim := { program := "ytddcooedbibehaa", sum := "e6063d8f08ba6b14758ac0584253956ad6e3e2c9ca1cbfd860e3ab9b57a94b46", func := "milepost/milepostlaw37.ValidBegins", spec := "validBegins", inPlace := ["internal/abi.NoEscape", "internal/bytealg.MakeNoZero"], unfollowed := true, recurses := true, apart := false }
def ValidBeginsSaid : Prop := validBeginsRow.holds Try.pinned (OpenSpec.ofChange validBeginsSpec)

/-- ITS FALSE NEIGHBOUR: 'it returns false'. Refute it at one input. -/
def validBeginsWrong : ChangeSpec := { name := "validBegins", fn := fun _ => fun
  | [d1, d2, d3] => { results := [.lit (.bool false)], args := [d1, d2, d3] }
  | _ => none }
def ValidBeginsWrongFalsely : Prop := validBeginsRow.holds Try.pinned (OpenSpec.ofChange validBeginsWrong)

/-- 'milepostlaw25.MineSeeks': WHATEVER THE INPUT: true; the input reads as it did. -/
def mineSeeksSpec : ChangeSpec := { name := "mineSeeks", fn := fun _ => fun
  | [d1, d2, d3] => { results := [.lit (.bool true)], args := [d1, d2, d3] }
  | _ => none }
def mineSeeksRow : OpenClaim := { program := "ytddcooedbibehaa", sum := "e6063d8f08ba6b14758ac0584253956ad6e3e2c9ca1cbfd860e3ab9b57a94b46", func := "milepost/milepostlaw25.MineSeeks", spec := "mineSeeks", inPlace := ["internal/abi.NoEscape", "internal/bytealg.MakeNoZero"], unfollowed := true, recurses := true, apart := false }
def MineSeeksSaid : Prop := mineSeeksRow.holds Try.pinned (OpenSpec.ofChange mineSeeksSpec)

/-- ITS FALSE NEIGHBOUR: 'it returns false'. Refute it at one input. -/
def mineSeeksWrong : ChangeSpec := { name := "mineSeeks", fn := fun _ => fun
  | [d1, d2, d3] => { results := [.lit (.bool false)], args := [d1, d2, d3] }
  | _ => none }
def MineSeeksWrongFalsely : Prop := mineSeeksRow.holds Try.pinned (OpenSpec.ofChange mineSeeksWrong)

/-- 'milepostlaw50.WithinBehind': WHATEVER THE INPUT: true; the input reads as it did. -/
def withinBehindSpec : ChangeSpec := { name := "withinBehind", fn := fun _ => fun
  | [d1, d2, d3] => { results := [.lit (.bool true)], args := [d1, d2, d3] }
  | _ => none }
def withinBehindRow : OpenClaim := { program := "ytddcooedbibehaa", sum := "e6063d8f08ba6b14758ac0584253956ad6e3e2c9ca1cbfd860e3ab9b57a94b46", func := "milepost/milepostlaw50.WithinBehind", spec := "withinBehind", inPlace := ["internal/abi.NoEscape", "internal/bytealg.MakeNoZero"], unfollowed := true, recurses := true, apart := false }
def WithinBehindSaid : Prop := withinBehindRow.holds Try.pinned (OpenSpec.ofChange withinBehindSpec)

/-- ITS FALSE NEIGHBOUR: 'it returns false'. Refute it at one input. -/
def withinBehindWrong : ChangeSpec := { name := "withinBehind", fn := fun _ => fun
  | [d1, d2, d3] => { results := [.lit (.bool false)], args := [d1, d2, d3] }
  | _ => none }
def WithinBehindWrongFalsely : Prop := withinBehindRow.holds Try.pinned (OpenSpec.ofChange withinBehindWrong)

/-- 'milepostlaw24.ChainLong': WHATEVER THE INPUT: true; the input reads as it did. -/
def chainLongSpec : ChangeSpec := { name := "chainLong", fn := fun _ => fun
  | [d1, d2] => { results := [.lit (.bool true)], args := [d1, d2] }
  | _ => none }
def chainLongRow : OpenClaim := { program := "ytddcooedbibehaa", sum := "e6063d8f08ba6b14758ac0584253956ad6e3e2c9ca1cbfd860e3ab9b57a94b46", func := "milepost/milepostlaw24.ChainLong", spec := "chainLong", inPlace := ["internal/abi.NoEscape", "internal/bytealg.MakeNoZero"], unfollowed := true, recurses := true, apart := false }
def ChainLongSaid : Prop := chainLongRow.holds Try.pinned (OpenSpec.ofChange chainLongSpec)

/-- ITS FALSE NEIGHBOUR: 'it returns false'. Refute it at one input. -/
def chainLongWrong : ChangeSpec := { name := "chainLong", fn := fun _ => fun
  | [d1, d2] => { results := [.lit (.bool false)], args := [d1, d2] }
  | _ => none }
def ChainLongWrongFalsely : Prop := chainLongRow.holds Try.pinned (OpenSpec.ofChange chainLongWrong)

/-- 'milepostlaw24.ChainBegins': WHATEVER THE INPUT: true; the input reads as it did. -/
def chainBeginsSpec : ChangeSpec := { name := "chainBegins", fn := fun _ => fun
  | [d1, d2, d3] => { results := [.lit (.bool true)], args := [d1, d2, d3] }
  | _ => none }
def chainBeginsRow : OpenClaim := { program := "ytddcooedbibehaa", sum := "e6063d8f08ba6b14758ac0584253956ad6e3e2c9ca1cbfd860e3ab9b57a94b46", func := "milepost/milepostlaw24.ChainBegins", spec := "chainBegins", inPlace := ["internal/abi.NoEscape", "internal/bytealg.MakeNoZero"], unfollowed := true, recurses := true, apart := false }
def ChainBeginsSaid : Prop := chainBeginsRow.holds Try.pinned (OpenSpec.ofChange chainBeginsSpec)

/-- ITS FALSE NEIGHBOUR: 'it returns false'. Refute it at one input. -/
def chainBeginsWrong : ChangeSpec := { name := "chainBegins", fn := fun _ => fun
  | [d1, d2, d3] => { results := [.lit (.bool false)], args := [d1, d2, d3] }
  | _ => none }
def ChainBeginsWrongFalsely : Prop := chainBeginsRow.holds Try.pinned (OpenSpec.ofChange chainBeginsWrong)

/- THE SECOND FORM. 'bulk': how many values and letters a reading holds, each counted each time it is reached (what is shared counts as often as it is met; a slice's spare places count too). A statement '..UptoSaid' is the law's where the arguments, and the package variables that the reading takes, are together of bulk at most 1048576: NARROWER than '..Said'. Prove '..Said' where nothing that the law and all that it calls make is longer than what came in: it says more and counts as full. Else prove '..UptoSaid'. A law counts once. -/
mutual
def uptoBulk {H : Type} : DataW H → Nat
  | .lit (.string bytes) => bytes.length + 1
  | .lit _ => 1
  | .nil => 1
  | .ptr d => uptoBulk d + 1
  | .slice elems spare => uptoBulkAll elems + uptoBulkAll spare + 1
  | .agg parts => uptoBulkAll parts + 1
  | .iface _ d => uptoBulk d + 1
  | .map entries => uptoBulkEntries entries + 1
  | .held _ => 1
def uptoBulkAll {H : Type} : List (DataW H) → Nat
  | [] => 0
  | d :: r => uptoBulk d + uptoBulkAll r
def uptoBulkEntries {H : Type} : List (Lit × DataW H) → Nat
  | [] => 0
  | x :: r => uptoBulkEntry x + uptoBulkEntries r
def uptoBulkEntry {H : Type} : Lit × DataW H → Nat
  | (.string bytes, d) => bytes.length + uptoBulk d + 1
  | (_, d) => uptoBulk d + 1
 end
def uptoSmall : (H : Type) → List (DataW H) → Bool := fun _ ds => decide (uptoBulkAll ds ≤ 1048576)
def OpenSpec.upto (s : _root_.Go.ChangeSpec) : _root_.Go.OpenSpec := { _root_.Go.OpenSpec.ofChange s with cond := some uptoSmall }

/-- 'milepostlaw16.MultiAlone', WHERE WHAT IT READS IS OF BULK AT MOST 1048576: true; the input reads as it did. -/
def multiAloneUptoRow : OpenClaim := { program := "ytddcooedbibehaa", sum := "e6063d8f08ba6b14758ac0584253956ad6e3e2c9ca1cbfd860e3ab9b57a94b46", func := "milepost/milepostlaw16.MultiAlone", spec := "multiAlone", inPlace := ["internal/abi.NoEscape", "internal/bytealg.MakeNoZero"], unfollowed := true, recurses := true, apart := false, narrowed := true }
def MultiAloneUptoSaid : Prop := multiAloneUptoRow.holds Try.pinned (OpenSpec.upto multiAloneSpec)

/-- 'milepostlaw37.ValidReached', WHERE WHAT IT READS IS OF BULK AT MOST 1048576: true; the input reads as it did. -/
def validReachedUptoRow : OpenClaim := { program := "ytddcooedbibehaa", sum := "e6063d8f08ba6b14758ac0584253956ad6e3e2c9ca1cbfd860e3ab9b57a94b46", func := "milepost/milepostlaw37.ValidReached", spec := "validReached", inPlace := ["internal/abi.NoEscape", "internal/bytealg.MakeNoZero"], unfollowed := true, recurses := true, apart := false, narrowed := true }
def ValidReachedUptoSaid : Prop := validReachedUptoRow.holds Try.pinned (OpenSpec.upto validReachedSpec)

/-- 'milepostlaw37.ValidBegins', WHERE WHAT IT READS IS OF BULK AT MOST 1048576: true; the input reads as it did. -/
def validBeginsUptoRow : OpenClaim := { program := "ytddcooedbibehaa", sum := "e6063d8f08ba6b14758ac0584253956ad6e3e2c9ca1cbfd860e3ab9b57a94b46", func := "milepost/milepostlaw37.ValidBegins", spec := "validBegins", inPlace := ["internal/abi.NoEscape", "internal/bytealg.MakeNoZero"], unfollowed := true, recurses := true, apart := false, narrowed := true }
def ValidBeginsUptoSaid : Prop := validBeginsUptoRow.holds Try.pinned (OpenSpec.upto validBeginsSpec)

/-- 'milepostlaw25.MineSeeks', WHERE WHAT IT READS IS OF BULK AT MOST 1048576: true; the input reads as it did. -/
def mineSeeksUptoRow : OpenClaim := { program := "ytddcooedbibehaa", sum := "e6063d8f08ba6b14758ac0584253956ad6e3e2c9ca1cbfd860e3ab9b57a94b46", func := "milepost/milepostlaw25.MineSeeks", spec := "mineSeeks", inPlace := ["internal/abi.NoEscape", "internal/bytealg.MakeNoZero"], unfollowed := true, recurses := true, apart := false, narrowed := true }
def MineSeeksUptoSaid : Prop := mineSeeksUptoRow.holds Try.pinned (OpenSpec.upto mineSeeksSpec)

/-- 'milepostlaw50.WithinBehind', WHERE WHAT IT READS IS OF BULK AT MOST 1048576: true; the input reads as it did. -/
def withinBehindUptoRow : OpenClaim := { program := "ytddcooedbibehaa", sum := "e6063d8f08ba6b14758ac0584253956ad6e3e2c9ca1cbfd860e3ab9b57a94b46", func := "milepost/milepostlaw50.WithinBehind", spec := "withinBehind", inPlace := ["internal/abi.NoEscape", "internal/bytealg.MakeNoZero"], unfollowed := true, recurses := true, apart := false, narrowed := true }
def WithinBehindUptoSaid : Prop := withinBehindUptoRow.holds Try.pinned (OpenSpec.upto withinBehindSpec)

/-- 'milepostlaw24.ChainLong', WHERE WHAT IT READS IS OF BULK AT MOST 1048576: true; the input reads as it did. -/
def chainLongUptoRow : OpenClaim := { program := "ytddcooedbibehaa", sum := "e6063d8f08ba6b14758ac0584253956ad6e3e2c9ca1cbfd860e3ab9b57a94b46", func := "milepost/milepostlaw24.ChainLong", spec := "chainLong", inPlace := ["internal/abi.NoEscape", "internal/bytealg.MakeNoZero"], unfollowed := true, recurses := true, apart := false, narrowed := true }
def ChainLongUptoSaid : Prop := chainLongUptoRow.holds Try.pinned (OpenSpec.upto chainLongSpec)

/-- 'milepostlaw24.ChainBegins', WHERE WHAT IT READS IS OF BULK AT MOST 1048576: true; the input reads as it did. -/
def chainBeginsUptoRow : OpenClaim := { program := "ytddcooedbibehaa", sum := "e6063d8f08ba6b14758ac0584253956ad6e3e2c9ca1cbfd860e3ab9b57a94b46", func := "milepost/milepostlaw24.ChainBegins", spec := "chainBegins", inPlace := ["internal/abi.NoEscape", "internal/bytealg.MakeNoZero"], unfollowed := true, recurses := true, apart := false, narrowed := true }
def ChainBeginsUptoSaid : Prop := chainBeginsUptoRow.holds Try.pinned (OpenSpec.upto chainBeginsSpec)

end Rows
end Go.Proofs.Ytddcooedbibehaa

/-
  No cell of these rows narrows 'for every input' (looked for: loops, veiled, ifaces, maps, wideKeys, modest, calm, conditions, laid).
  DERIVED. THE GIVEN ROWS OF THIS SEAT. 5 by the template 'for every input the law returns true; each argument reads behind the call as it read before'; 0 by the template 'total and deterministic' (their statements: YtddcooedbibehaaGreatTotals.lean).
  GIVEN WITH THE SEED: the statements are not yours to turn. If you find one false, say at which input.
  Laid BY PROGRAM, IN A SANDBOX (cutbox-rows.mjs): the forced cells as the released guide's own fill.sh prints them over the translation 9efbf854737bccb3… (all of the seat's roots in one cut). By AI agents, Wed Nov 11 2026. No macro, syntax, notation, axiom, sorry.
-/
import Derived.Test.YtddcooedbibehaaGreatChecked
import GoSem.Claim
import GoSem.ClaimJoined
import GoSem.ClaimMapViews
import Derived.JoinedTies
import Derived.KernelRfl
namespace Go.Proofs.YtddcooedbibehaaGreat
/- THE CELL 'sum', in the pinned program and in every row, IS THE sha256 OF THE DUMP (.gsa) THAT YtddcooedbibehaaGreatProg.lean LOADS. Nothing in Lean hashes anything: it is a label: what it is worth is what the hold of that sum in a sandbox is worth. -/
noncomputable def Tryz.pinned : Pinned := { name := "ytddcooedbibehaagreat", sum := "9efbf854737bccb3f23db856f8d09f3c5215c6eaefc3cf4c8870bb2cdba92a7b", checked := Tryz.checked }
namespace Rows
def none {H : Type} : Left H := { results := [], args := [] }

/-- 'milepostlaw37.ValidChecks': WHATEVER THE INPUT: true; the input reads as it did. -/
def validChecksSpec : ChangeSpec := { name := "validChecks", fn := fun _ => fun
  | [d1, d2] => { results := [.lit (.bool true)], args := [d1, d2] }
  | _ => none }
def validChecksRow : OpenClaim := { program := "ytddcooedbibehaagreat", sum := "9efbf854737bccb3f23db856f8d09f3c5215c6eaefc3cf4c8870bb2cdba92a7b", func := "milepost/milepostlaw37.ValidChecks", spec := "validChecks", inPlace := ["internal/abi.NoEscape", "internal/bytealg.MakeNoZero"], unfollowed := true, recurses := true, apart := false }
def ValidChecksSaid : Prop := validChecksRow.holds Tryz.pinned (OpenSpec.ofChange validChecksSpec)

/-- ITS FALSE NEIGHBOUR: 'it returns false'. Refute it at one input. -/
def validChecksWrong : ChangeSpec := { name := "validChecks", fn := fun _ => fun
  | [d1, d2] => { results := [.lit (.bool false)], args := [d1, d2] }
  | _ => none }
def ValidChecksWrongFalsely : Prop := validChecksRow.holds Tryz.pinned (OpenSpec.ofChange validChecksWrong)

/-- 'milepostlaw25.MineMakes': WHATEVER THE INPUT: true; the input reads as it did. -/
def mineMakesSpec : ChangeSpec := { name := "mineMakes", fn := fun _ => fun
  | [d1, d2] => { results := [.lit (.bool true)], args := [d1, d2] }
  | _ => none }
def mineMakesRow : OpenClaim := { program := "ytddcooedbibehaagreat", sum := "9efbf854737bccb3f23db856f8d09f3c5215c6eaefc3cf4c8870bb2cdba92a7b", func := "milepost/milepostlaw25.MineMakes", spec := "mineMakes", inPlace := ["internal/abi.NoEscape", "internal/bytealg.MakeNoZero"], unfollowed := true, recurses := true, apart := false }
def MineMakesSaid : Prop := mineMakesRow.holds Tryz.pinned (OpenSpec.ofChange mineMakesSpec)

/-- ITS FALSE NEIGHBOUR: 'it returns false'. Refute it at one input. -/
def mineMakesWrong : ChangeSpec := { name := "mineMakes", fn := fun _ => fun
  | [d1, d2] => { results := [.lit (.bool false)], args := [d1, d2] }
  | _ => none }
def MineMakesWrongFalsely : Prop := mineMakesRow.holds Tryz.pinned (OpenSpec.ofChange mineMakesWrong)

/-- 'milepostlaw50.WithinChecks': WHATEVER THE INPUT: true; the input reads as it did. -/
def withinChecksSpec : ChangeSpec := { name := "withinChecks", fn := fun _ => fun
  | [d1, d2, d3] => { results := [.lit (.bool true)], args := [d1, d2, d3] }
  | _ => none }
def withinChecksRow : OpenClaim := { program := "ytddcooedbibehaagreat", sum := "9efbf854737bccb3f23db856f8d09f3c5215c6eaefc3cf4c8870bb2cdba92a7b", func := "milepost/milepostlaw50.WithinChecks", spec := "withinChecks", inPlace := ["internal/abi.NoEscape", "internal/bytealg.MakeNoZero"], unfollowed := true, recurses := true, apart := false }
def WithinChecksSaid : Prop := withinChecksRow.holds Tryz.pinned (OpenSpec.ofChange withinChecksSpec)

/-- ITS FALSE NEIGHBOUR: 'it returns false'. Refute it at one input. -/
def withinChecksWrong : ChangeSpec := { name := "withinChecks", fn := fun _ => fun
  | [d1, d2, d3] => { results := [.lit (.bool false)], args := [d1, d2, d3] }
  | _ => none }
def WithinChecksWrongFalsely : Prop := withinChecksRow.holds Tryz.pinned (OpenSpec.ofChange withinChecksWrong)

/-- 'milepostlaw24.ChainChecks': WHATEVER THE INPUT: true; the input reads as it did. -/
def chainChecksSpec : ChangeSpec := { name := "chainChecks", fn := fun _ => fun
  | [d1, d2] => { results := [.lit (.bool true)], args := [d1, d2] }
  | _ => none }
def chainChecksRow : OpenClaim := { program := "ytddcooedbibehaagreat", sum := "9efbf854737bccb3f23db856f8d09f3c5215c6eaefc3cf4c8870bb2cdba92a7b", func := "milepost/milepostlaw24.ChainChecks", spec := "chainChecks", inPlace := ["internal/abi.NoEscape", "internal/bytealg.MakeNoZero"], unfollowed := true, recurses := true, apart := false }
def ChainChecksSaid : Prop := chainChecksRow.holds Tryz.pinned (OpenSpec.ofChange chainChecksSpec)

/-- ITS FALSE NEIGHBOUR: 'it returns false'. Refute it at one input. -/
def chainChecksWrong : ChangeSpec := { name := "chainChecks", fn := fun _ => fun
  | [d1, d2] => { results := [.lit (.bool false)], args := [d1, d2] }
  | _ => none }
def ChainChecksWrongFalsely : Prop := chainChecksRow.holds Tryz.pinned (OpenSpec.ofChange chainChecksWrong)

/-- 'milepostlaw51.TrailMakes': WHATEVER THE INPUT: true; the input reads as it did. -/
def trailMakesSpec : ChangeSpec := { name := "trailMakes", fn := fun _ => fun
  | [d1, d2, d3] => { results := [.lit (.bool true)], args := [d1, d2, d3] }
  | _ => none }
def trailMakesRow : OpenClaim := { program := "ytddcooedbibehaagreat", sum := "9efbf854737bccb3f23db856f8d09f3c5215c6eaefc3cf4c8870bb2cdba92a7b", func := "milepost/milepostlaw51.TrailMakes", spec := "trailMakes", inPlace := ["internal/abi.NoEscape", "internal/bytealg.MakeNoZero"], unfollowed := true, recurses := true, apart := false }
def TrailMakesSaid : Prop := trailMakesRow.holds Tryz.pinned (OpenSpec.ofChange trailMakesSpec)

/-- ITS FALSE NEIGHBOUR: 'it returns false'. Refute it at one input. -/
def trailMakesWrong : ChangeSpec := { name := "trailMakes", fn := fun _ => fun
  | [d1, d2, d3] => { results := [.lit (.bool false)], args := [d1, d2, d3] }
  | _ => none }
def TrailMakesWrongFalsely : Prop := trailMakesRow.holds Tryz.pinned (OpenSpec.ofChange trailMakesWrong)

/- THE SECOND FORM. 'bulk': how many values and letters a reading holds, each counted each time it is reached (what is shared counts as often as it is met; a slice's spare places count too). A statement '..UptoSaid' is the law's where the arguments, and the package variables that the reading takes, are together of bulk at most 1048576: NARROWER than '..Said'. Prove '..Said' where nothing that the law and all that it calls make is longer than what came in: it says more and counts as full. Else prove '..UptoSaid'. A law counts once. -/
mutual
def uptoBulk {H : Type} : DataW H → Nat
  | .lit (.string bytes) => bytes.length + 1
  | .lit _ => 1
  | .nil => 1
  | .ptr d => uptoBulk d + 1
  | .slice elems spare => uptoBulkAll elems + uptoBulkAll spare + 1
  | .agg parts => uptoBulkAll parts + 1
  | .iface _ d => uptoBulk d + 1
  | .map entries => uptoBulkEntries entries + 1
  | .held _ => 1
def uptoBulkAll {H : Type} : List (DataW H) → Nat
  | [] => 0
  | d :: r => uptoBulk d + uptoBulkAll r
def uptoBulkEntries {H : Type} : List (Lit × DataW H) → Nat
  | [] => 0
  | x :: r => uptoBulkEntry x + uptoBulkEntries r
def uptoBulkEntry {H : Type} : Lit × DataW H → Nat
  | (.string bytes, d) => bytes.length + uptoBulk d + 1
  | (_, d) => uptoBulk d + 1
 end
def uptoSmall : (H : Type) → List (DataW H) → Bool := fun _ ds => decide (uptoBulkAll ds ≤ 1048576)
def OpenSpec.upto (s : _root_.Go.ChangeSpec) : _root_.Go.OpenSpec := { _root_.Go.OpenSpec.ofChange s with cond := some uptoSmall }

/-- 'milepostlaw37.ValidChecks', WHERE WHAT IT READS IS OF BULK AT MOST 1048576: true; the input reads as it did. -/
def validChecksUptoRow : OpenClaim := { program := "ytddcooedbibehaagreat", sum := "9efbf854737bccb3f23db856f8d09f3c5215c6eaefc3cf4c8870bb2cdba92a7b", func := "milepost/milepostlaw37.ValidChecks", spec := "validChecks", inPlace := ["internal/abi.NoEscape", "internal/bytealg.MakeNoZero"], unfollowed := true, recurses := true, apart := false, narrowed := true }
def ValidChecksUptoSaid : Prop := validChecksUptoRow.holds Tryz.pinned (OpenSpec.upto validChecksSpec)

/-- 'milepostlaw25.MineMakes', WHERE WHAT IT READS IS OF BULK AT MOST 1048576: true; the input reads as it did. -/
def mineMakesUptoRow : OpenClaim := { program := "ytddcooedbibehaagreat", sum := "9efbf854737bccb3f23db856f8d09f3c5215c6eaefc3cf4c8870bb2cdba92a7b", func := "milepost/milepostlaw25.MineMakes", spec := "mineMakes", inPlace := ["internal/abi.NoEscape", "internal/bytealg.MakeNoZero"], unfollowed := true, recurses := true, apart := false, narrowed := true }
def MineMakesUptoSaid : Prop := mineMakesUptoRow.holds Tryz.pinned (OpenSpec.upto mineMakesSpec)

/-- 'milepostlaw50.WithinChecks', WHERE WHAT IT READS IS OF BULK AT MOST 1048576: true; the input reads as it did. -/
def withinChecksUptoRow : OpenClaim := { program := "ytddcooedbibehaagreat", sum := "9efbf854737bccb3f23db856f8d09f3c5215c6eaefc3cf4c8870bb2cdba92a7b", func := "milepost/milepostlaw50.WithinChecks", spec := "withinChecks", inPlace := ["internal/abi.NoEscape", "internal/bytealg.MakeNoZero"], unfollowed := true, recurses := true, apart := false, narrowed := true }
def WithinChecksUptoSaid : Prop := withinChecksUptoRow.holds Tryz.pinned (OpenSpec.upto withinChecksSpec)

/-- 'milepostlaw24.ChainChecks', WHERE WHAT IT READS IS OF BULK AT MOST 1048576: true; the input reads as it did. -/
def chainChecksUptoRow : OpenClaim := { program := "ytddcooedbibehaagreat", sum := "9efbf854737bccb3f23db856f8d09f3c5215c6eaefc3cf4c8870bb2cdba92a7b", func := "milepost/milepostlaw24.ChainChecks", spec := "chainChecks", inPlace := ["internal/abi.NoEscape", "internal/bytealg.MakeNoZero"], unfollowed := true, recurses := true, apart := false, narrowed := true }
def ChainChecksUptoSaid : Prop := chainChecksUptoRow.holds Tryz.pinned (OpenSpec.upto chainChecksSpec)

/-- 'milepostlaw51.TrailMakes', WHERE WHAT IT READS IS OF BULK AT MOST 1048576: true; the input reads as it did. -/
def trailMakesUptoRow : OpenClaim := { program := "ytddcooedbibehaagreat", sum := "9efbf854737bccb3f23db856f8d09f3c5215c6eaefc3cf4c8870bb2cdba92a7b", func := "milepost/milepostlaw51.TrailMakes", spec := "trailMakes", inPlace := ["internal/abi.NoEscape", "internal/bytealg.MakeNoZero"], unfollowed := true, recurses := true, apart := false, narrowed := true }
def TrailMakesUptoSaid : Prop := trailMakesUptoRow.holds Tryz.pinned (OpenSpec.upto trailMakesSpec)

end Rows
end Go.Proofs.YtddcooedbibehaaGreat

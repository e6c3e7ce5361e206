/-
  No cell of these rows narrows 'for every input' (looked for: loops, veiled, ifaces, maps, wideKeys, modest, calm, conditions, laid).
  DERIVED. THE GIVEN ROWS OF THIS SEAT. 3 by the template 'for every input the law returns true; each argument reads behind the call as it read before'; 0 by the template 'total and deterministic' (their statements: YteiahdlklppghaaGreatTotals.lean).
  GIVEN WITH THE SEED: the statements are not yours to turn. If you find one false, say at which input.
  Laid BY PROGRAM, IN A SANDBOX (cutbox-rows.mjs): the forced cells as the released guide's own fill.sh prints them over the translation 6936ab88274ae1a3… (all of the seat's roots in one cut). By AI agents, Wed Nov 11 2026. No macro, syntax, notation, axiom, sorry.
-/
import Derived.Test.YteiahdlklppghaaGreatChecked
import GoSem.Claim
import GoSem.ClaimJoined
import GoSem.ClaimMapViews
import Derived.JoinedTies
import Derived.KernelRfl
namespace Go.Proofs.YteiahdlklppghaaGreat
/- THE CELL 'sum', in the pinned program and in every row, IS THE sha256 OF THE DUMP (.gsa) THAT YteiahdlklppghaaGreatProg.lean LOADS. Nothing in Lean hashes anything: it is a label: what it is worth is what the hold of that sum in a sandbox is worth. -/
noncomputable def Tryz.pinned : Pinned := { name := "yteiahdlklppghaagreat", sum := "6936ab88274ae1a3e76d25b789bef7b8482145546205a4287c1e715c6c6650b7", checked := Tryz.checked }
namespace Rows
def none {H : Type} : Left H := { results := [], args := [] }

/-- 'milepostlaw48.ProveMakes': WHATEVER THE INPUT: true; the input reads as it did. -/
def proveMakesSpec : ChangeSpec := { name := "proveMakes", fn := fun _ => fun
  | [d1, d2] => { results := [.lit (.bool true)], args := [d1, d2] }
  | _ => none }
def proveMakesRow : OpenClaim := { program := "yteiahdlklppghaagreat", sum := "6936ab88274ae1a3e76d25b789bef7b8482145546205a4287c1e715c6c6650b7", func := "milepost/milepostlaw48.ProveMakes", spec := "proveMakes", inPlace := ["internal/abi.NoEscape", "internal/bytealg.MakeNoZero"], unfollowed := true, recurses := true, apart := false }
def ProveMakesSaid : Prop := proveMakesRow.holds Tryz.pinned (OpenSpec.ofChange proveMakesSpec)

/-- ITS FALSE NEIGHBOUR: 'it returns false'. Refute it at one input. -/
def proveMakesWrong : ChangeSpec := { name := "proveMakes", fn := fun _ => fun
  | [d1, d2] => { results := [.lit (.bool false)], args := [d1, d2] }
  | _ => none }
def ProveMakesWrongFalsely : Prop := proveMakesRow.holds Tryz.pinned (OpenSpec.ofChange proveMakesWrong)

/-- 'milepostlaw49.WayBetween': WHATEVER THE INPUT: true; the input reads as it did. -/
def wayBetweenSpec : ChangeSpec := { name := "wayBetween", fn := fun _ => fun
  | [d1, d2] => { results := [.lit (.bool true)], args := [d1, d2] }
  | _ => none }
def wayBetweenRow : OpenClaim := { program := "yteiahdlklppghaagreat", sum := "6936ab88274ae1a3e76d25b789bef7b8482145546205a4287c1e715c6c6650b7", func := "milepost/milepostlaw49.WayBetween", spec := "wayBetween", inPlace := ["internal/abi.NoEscape", "internal/bytealg.MakeNoZero"], unfollowed := true, recurses := true, apart := false }
def WayBetweenSaid : Prop := wayBetweenRow.holds Tryz.pinned (OpenSpec.ofChange wayBetweenSpec)

/-- ITS FALSE NEIGHBOUR: 'it returns false'. Refute it at one input. -/
def wayBetweenWrong : ChangeSpec := { name := "wayBetween", fn := fun _ => fun
  | [d1, d2] => { results := [.lit (.bool false)], args := [d1, d2] }
  | _ => none }
def WayBetweenWrongFalsely : Prop := wayBetweenRow.holds Tryz.pinned (OpenSpec.ofChange wayBetweenWrong)

/-- 'milepostlaw49.WayMakes': WHATEVER THE INPUT: true; the input reads as it did. -/
def wayMakesSpec : ChangeSpec := { name := "wayMakes", fn := fun _ => fun
  | [d1, d2, d3] => { results := [.lit (.bool true)], args := [d1, d2, d3] }
  | _ => none }
def wayMakesRow : OpenClaim := { program := "yteiahdlklppghaagreat", sum := "6936ab88274ae1a3e76d25b789bef7b8482145546205a4287c1e715c6c6650b7", func := "milepost/milepostlaw49.WayMakes", spec := "wayMakes", inPlace := ["internal/abi.NoEscape", "internal/bytealg.MakeNoZero"], unfollowed := true, recurses := true, apart := false }
def WayMakesSaid : Prop := wayMakesRow.holds Tryz.pinned (OpenSpec.ofChange wayMakesSpec)

/-- ITS FALSE NEIGHBOUR: 'it returns false'. Refute it at one input. -/
def wayMakesWrong : ChangeSpec := { name := "wayMakes", fn := fun _ => fun
  | [d1, d2, d3] => { results := [.lit (.bool false)], args := [d1, d2, d3] }
  | _ => none }
def WayMakesWrongFalsely : Prop := wayMakesRow.holds Tryz.pinned (OpenSpec.ofChange wayMakesWrong)

/- THE SECOND FORM. 'bulk': how many values and letters a reading holds, each counted each time it is reached (what is shared counts as often as it is met; a slice's spare places count too). A statement '..UptoSaid' is the law's where the arguments, and the package variables that the reading takes, are together of bulk at most 1048576: NARROWER than '..Said'. Prove '..Said' where nothing that the law and all that it calls make is longer than what came in: it says more and counts as full. Else prove '..UptoSaid'. A law counts once. -/
mutual
def uptoBulk {H : Type} : DataW H → Nat
  | .lit (.string bytes) => bytes.length + 1
  | .lit _ => 1
  | .nil => 1
  | .ptr d => uptoBulk d + 1
  | .slice elems spare => uptoBulkAll elems + uptoBulkAll spare + 1
  | .agg parts => uptoBulkAll parts + 1
  | .iface _ d => uptoBulk d + 1
  | .map entries => uptoBulkEntries entries + 1
  | .held _ => 1
def uptoBulkAll {H : Type} : List (DataW H) → Nat
  | [] => 0
  | d :: r => uptoBulk d + uptoBulkAll r
def uptoBulkEntries {H : Type} : List (Lit × DataW H) → Nat
  | [] => 0
  | x :: r => uptoBulkEntry x + uptoBulkEntries r
def uptoBulkEntry {H : Type} : Lit × DataW H → Nat
  | (.string bytes, d) => bytes.length + uptoBulk d + 1
  | (_, d) => uptoBulk d + 1
 end
def uptoSmall : (H : Type) → List (DataW H) → Bool := fun _ ds => decide (uptoBulkAll ds ≤ 1048576)
def OpenSpec.upto (s : _root_.Go.ChangeSpec) : _root_.Go.OpenSpec := { _root_.Go.OpenSpec.ofChange s with cond := some uptoSmall }

/-- 'milepostlaw48.ProveMakes', WHERE WHAT IT READS IS OF BULK AT MOST 1048576: true; the input reads as it did. -/
def proveMakesUptoRow : OpenClaim := { program := "yteiahdlklppghaagreat", sum := "6936ab88274ae1a3e76d25b789bef7b8482145546205a4287c1e715c6c6650b7", func := "milepost/milepostlaw48.ProveMakes", spec := "proveMakes", inPlace := ["internal/abi.NoEscape", "internal/bytealg.MakeNoZero"], unfollowed := true, recurses := true, apart := false, narrowed := true }
def ProveMakesUptoSaid : Prop := proveMakesUptoRow.holds Tryz.pinned (OpenSpec.upto proveMakesSpec)

/-- 'milepostlaw49.WayBetween', WHERE WHAT IT READS IS OF BULK AT MOST 1048576: true; the input reads as it did. -/
def wayBetweenUptoRow : OpenClaim := { program := "yteiahdlklppghaagreat", sum := "6936ab88274ae1a3e76d25b789bef7b8482145546205a4287c1e715c6c6650b7", func := "milepost/milepostlaw49.WayBetween", spec := "wayBetween", inPlace := ["internal/abi.NoEscape", "internal/bytealg.MakeNoZero"], unfollowed := true, recurses := true, apart := false, narrowed := true }
def WayBetweenUptoSaid : Prop := wayBetweenUptoRow.holds Tryz.pinned (OpenSpec.upto wayBetweenSpec)

/-- 'milepostlaw49.WayMakes', WHERE WHAT IT READS IS OF BULK AT MOST 1048576: true; the input reads as it did. -/
def wayMakesUptoRow : OpenClaim := { program := "yteiahdlklppghaagreat", sum := "6936ab88274ae1a3e76d25b789bef7b8482145546205a4287c1e715c6c6650b7", func := "milepost/milepostlaw49.WayMakes", spec := "wayMakes", inPlace := ["internal/abi.NoEscape", "internal/bytealg.MakeNoZero"], unfollowed := true, recurses := true, apart := false, narrowed := true }
def WayMakesUptoSaid : Prop := wayMakesUptoRow.holds Tryz.pinned (OpenSpec.upto wayMakesSpec)

end Rows
end Go.Proofs.YteiahdlklppghaaGreat

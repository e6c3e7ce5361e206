/-
  No cell of these rows narrows 'for every input' (looked for: loops, veiled, ifaces, maps, wideKeys, modest, calm, conditions, laid).
  DERIVED. THE GIVEN ROWS OF THIS SEAT. 12 by the template 'for every input the law returns true; each argument reads behind the call as it read before'; 0 by the template 'total and deterministic' (their statements: YtcpdiahbdmcdcaaTotals.lean).
  GIVEN WITH THE SEED: the statements are not yours to turn. If you find one false, say at which input.
  Laid BY PROGRAM, IN A SANDBOX (cutbox-rows.mjs): the forced cells as the released guide's own fill.sh prints them over the translation af1ce74680a8ece5… (all of the seat's roots in one cut). By AI agents, Wed Nov 11 2026. No macro, syntax, notation, axiom, sorry.
-/
import Derived.Test.YtcpdiahbdmcdcaaChecked
import GoSem.Claim
import GoSem.ClaimJoined
import GoSem.ClaimMapViews
import Derived.JoinedTies
import Derived.KernelRfl
namespace Go.Proofs.Ytcpdiahbdmcdcaa
/- THE CELL 'sum', in the pinned program and in every row, IS THE sha256 OF THE DUMP (.gsa) THAT YtcpdiahbdmcdcaaProg.lean LOADS. Nothing in Lean hashes anything: it is a label: what it is worth is what the hold of that sum in a sandbox is worth. -/
noncomputable def Try.pinned : Pinned := { name := "ytcpdiahbdmcdcaa", sum := "af1ce74680a8ece55e98a779eaa8b79f1fe3e21cc1b0117ba322856e25e0edec", checked := Try.checked }
namespace Rows
def none {H : Type} : Left H := { results := [], args := [] }

/-- 'milepostlaw12.TreeRoots': WHATEVER THE INPUT: true; the input reads as it did. -/
def treeRootsSpec : ChangeSpec := { name := "treeRoots", fn := fun _ => fun
  | [d] => { results := [.lit (.bool true)], args := [d] }
  | _ => none }
def treeRootsRow : OpenClaim := { program := "ytcpdiahbdmcdcaa", sum := "af1ce74680a8ece55e98a779eaa8b79f1fe3e21cc1b0117ba322856e25e0edec", func := "milepost/milepostlaw12.TreeRoots", spec := "treeRoots", inPlace := ["internal/abi.NoEscape", "internal/bytealg.MakeNoZero"], unfollowed := true, recurses := true, apart := false }
def TreeRootsSaid : Prop := treeRootsRow.holds Try.pinned (OpenSpec.ofChange treeRootsSpec)

/-- ITS FALSE NEIGHBOUR: 'it returns false'. Refute it at one input. -/
def treeRootsWrong : ChangeSpec := { name := "treeRoots", fn := fun _ => fun
  | [d] => { results := [.lit (.bool false)], args := [d] }
  | _ => none }
def TreeRootsWrongFalsely : Prop := treeRootsRow.holds Try.pinned (OpenSpec.ofChange treeRootsWrong)

/-- 'milepostlaw12.TreeTops': WHATEVER THE INPUT: true; the input reads as it did. -/
def treeTopsSpec : ChangeSpec := { name := "treeTops", fn := fun _ => fun
  | [d] => { results := [.lit (.bool true)], args := [d] }
  | _ => none }
def treeTopsRow : OpenClaim := { program := "ytcpdiahbdmcdcaa", sum := "af1ce74680a8ece55e98a779eaa8b79f1fe3e21cc1b0117ba322856e25e0edec", func := "milepost/milepostlaw12.TreeTops", spec := "treeTops", inPlace := ["internal/abi.NoEscape", "internal/bytealg.MakeNoZero"], unfollowed := true, recurses := true, apart := false }
def TreeTopsSaid : Prop := treeTopsRow.holds Try.pinned (OpenSpec.ofChange treeTopsSpec)

/-- ITS FALSE NEIGHBOUR: 'it returns false'. Refute it at one input. -/
def treeTopsWrong : ChangeSpec := { name := "treeTops", fn := fun _ => fun
  | [d] => { results := [.lit (.bool false)], args := [d] }
  | _ => none }
def TreeTopsWrongFalsely : Prop := treeTopsRow.holds Try.pinned (OpenSpec.ofChange treeTopsWrong)

/-- 'milepostlaw12.TreeApart': WHATEVER THE INPUT: true; the input reads as it did. -/
def treeApartSpec : ChangeSpec := { name := "treeApart", fn := fun _ => fun
  | [d1, d2] => { results := [.lit (.bool true)], args := [d1, d2] }
  | _ => none }
def treeApartRow : OpenClaim := { program := "ytcpdiahbdmcdcaa", sum := "af1ce74680a8ece55e98a779eaa8b79f1fe3e21cc1b0117ba322856e25e0edec", func := "milepost/milepostlaw12.TreeApart", spec := "treeApart", inPlace := ["internal/abi.NoEscape", "internal/bytealg.MakeNoZero"], unfollowed := true, recurses := true, apart := false }
def TreeApartSaid : Prop := treeApartRow.holds Try.pinned (OpenSpec.ofChange treeApartSpec)

/-- ITS FALSE NEIGHBOUR: 'it returns false'. Refute it at one input. -/
def treeApartWrong : ChangeSpec := { name := "treeApart", fn := fun _ => fun
  | [d1, d2] => { results := [.lit (.bool false)], args := [d1, d2] }
  | _ => none }
def TreeApartWrongFalsely : Prop := treeApartRow.holds Try.pinned (OpenSpec.ofChange treeApartWrong)

/-- 'milepostlaw13.OpenLeaves': WHATEVER THE INPUT: true; the input reads as it did. -/
def openLeavesSpec : ChangeSpec := { name := "openLeaves", fn := fun _ => fun
  | [d1, d2] => { results := [.lit (.bool true)], args := [d1, d2] }
  | _ => none }
def openLeavesRow : OpenClaim := { program := "ytcpdiahbdmcdcaa", sum := "af1ce74680a8ece55e98a779eaa8b79f1fe3e21cc1b0117ba322856e25e0edec", func := "milepost/milepostlaw13.OpenLeaves", spec := "openLeaves", inPlace := ["internal/abi.NoEscape", "internal/bytealg.MakeNoZero"], unfollowed := true, recurses := true, apart := false }
def OpenLeavesSaid : Prop := openLeavesRow.holds Try.pinned (OpenSpec.ofChange openLeavesSpec)

/-- ITS FALSE NEIGHBOUR: 'it returns false'. Refute it at one input. -/
def openLeavesWrong : ChangeSpec := { name := "openLeaves", fn := fun _ => fun
  | [d1, d2] => { results := [.lit (.bool false)], args := [d1, d2] }
  | _ => none }
def OpenLeavesWrongFalsely : Prop := openLeavesRow.holds Try.pinned (OpenSpec.ofChange openLeavesWrong)

/-- 'milepostlaw13.OpenSame': WHATEVER THE INPUT: true; the input reads as it did. -/
def openSameSpec : ChangeSpec := { name := "openSame", fn := fun _ => fun
  | [d1, d2] => { results := [.lit (.bool true)], args := [d1, d2] }
  | _ => none }
def openSameRow : OpenClaim := { program := "ytcpdiahbdmcdcaa", sum := "af1ce74680a8ece55e98a779eaa8b79f1fe3e21cc1b0117ba322856e25e0edec", func := "milepost/milepostlaw13.OpenSame", spec := "openSame", inPlace := ["internal/abi.NoEscape", "internal/bytealg.MakeNoZero"], unfollowed := true, recurses := true, apart := false }
def OpenSameSaid : Prop := openSameRow.holds Try.pinned (OpenSpec.ofChange openSameSpec)

/-- ITS FALSE NEIGHBOUR: 'it returns false'. Refute it at one input. -/
def openSameWrong : ChangeSpec := { name := "openSame", fn := fun _ => fun
  | [d1, d2] => { results := [.lit (.bool false)], args := [d1, d2] }
  | _ => none }
def OpenSameWrongFalsely : Prop := openSameRow.holds Try.pinned (OpenSpec.ofChange openSameWrong)

/-- 'milepostlaw14.HoldTells': WHATEVER THE INPUT: true; the input reads as it did. -/
def holdTellsSpec : ChangeSpec := { name := "holdTells", fn := fun _ => fun
  | [d1, d2, d3] => { results := [.lit (.bool true)], args := [d1, d2, d3] }
  | _ => none }
def holdTellsRow : OpenClaim := { program := "ytcpdiahbdmcdcaa", sum := "af1ce74680a8ece55e98a779eaa8b79f1fe3e21cc1b0117ba322856e25e0edec", func := "milepost/milepostlaw14.HoldTells", spec := "holdTells", inPlace := ["internal/abi.NoEscape", "internal/bytealg.MakeNoZero"], unfollowed := true, recurses := true, apart := false }
def HoldTellsSaid : Prop := holdTellsRow.holds Try.pinned (OpenSpec.ofChange holdTellsSpec)

/-- ITS FALSE NEIGHBOUR: 'it returns false'. Refute it at one input. -/
def holdTellsWrong : ChangeSpec := { name := "holdTells", fn := fun _ => fun
  | [d1, d2, d3] => { results := [.lit (.bool false)], args := [d1, d2, d3] }
  | _ => none }
def HoldTellsWrongFalsely : Prop := holdTellsRow.holds Try.pinned (OpenSpec.ofChange holdTellsWrong)

/-- 'milepostlaw16.MultiTells': WHATEVER THE INPUT: true; the input reads as it did. -/
def multiTellsSpec : ChangeSpec := { name := "multiTells", fn := fun _ => fun
  | [d1, d2, d3] => { results := [.lit (.bool true)], args := [d1, d2, d3] }
  | _ => none }
def multiTellsRow : OpenClaim := { program := "ytcpdiahbdmcdcaa", sum := "af1ce74680a8ece55e98a779eaa8b79f1fe3e21cc1b0117ba322856e25e0edec", func := "milepost/milepostlaw16.MultiTells", spec := "multiTells", inPlace := ["internal/abi.NoEscape", "internal/bytealg.MakeNoZero"], recurses := true, apart := false }
def MultiTellsSaid : Prop := multiTellsRow.holds Try.pinned (OpenSpec.ofChange multiTellsSpec)

/-- ITS FALSE NEIGHBOUR: 'it returns false'. Refute it at one input. -/
def multiTellsWrong : ChangeSpec := { name := "multiTells", fn := fun _ => fun
  | [d1, d2, d3] => { results := [.lit (.bool false)], args := [d1, d2, d3] }
  | _ => none }
def MultiTellsWrongFalsely : Prop := multiTellsRow.holds Try.pinned (OpenSpec.ofChange multiTellsWrong)

/-- 'milepostlaw16.MultiOpens': WHATEVER THE INPUT: true; the input reads as it did. -/
def multiOpensSpec : ChangeSpec := { name := "multiOpens", fn := fun _ => fun
  | [d1, d2] => { results := [.lit (.bool true)], args := [d1, d2] }
  | _ => none }
def multiOpensRow : OpenClaim := { program := "ytcpdiahbdmcdcaa", sum := "af1ce74680a8ece55e98a779eaa8b79f1fe3e21cc1b0117ba322856e25e0edec", func := "milepost/milepostlaw16.MultiOpens", spec := "multiOpens", inPlace := ["internal/abi.NoEscape", "internal/bytealg.MakeNoZero"], unfollowed := true, recurses := true, apart := false }
def MultiOpensSaid : Prop := multiOpensRow.holds Try.pinned (OpenSpec.ofChange multiOpensSpec)

/-- ITS FALSE NEIGHBOUR: 'it returns false'. Refute it at one input. -/
def multiOpensWrong : ChangeSpec := { name := "multiOpens", fn := fun _ => fun
  | [d1, d2] => { results := [.lit (.bool false)], args := [d1, d2] }
  | _ => none }
def MultiOpensWrongFalsely : Prop := multiOpensRow.holds Try.pinned (OpenSpec.ofChange multiOpensWrong)

/-- 'milepostlaw23.BlockMakes': WHATEVER THE INPUT: true; the input reads as it did. -/
def blockMakesSpec : ChangeSpec := { name := "blockMakes", fn := fun _ => fun
  | [d] => { results := [.lit (.bool true)], args := [d] }
  | _ => none }
def blockMakesRow : OpenClaim := { program := "ytcpdiahbdmcdcaa", sum := "af1ce74680a8ece55e98a779eaa8b79f1fe3e21cc1b0117ba322856e25e0edec", func := "milepost/milepostlaw23.BlockMakes", spec := "blockMakes", inPlace := ["internal/abi.NoEscape", "internal/bytealg.MakeNoZero"], unfollowed := true, recurses := true, apart := false }
def BlockMakesSaid : Prop := blockMakesRow.holds Try.pinned (OpenSpec.ofChange blockMakesSpec)

/-- ITS FALSE NEIGHBOUR: 'it returns false'. Refute it at one input. -/
def blockMakesWrong : ChangeSpec := { name := "blockMakes", fn := fun _ => fun
  | [d] => { results := [.lit (.bool false)], args := [d] }
  | _ => none }
def BlockMakesWrongFalsely : Prop := blockMakesRow.holds Try.pinned (OpenSpec.ofChange blockMakesWrong)

/-- 'milepostlaw23.BlockChecks': WHATEVER THE INPUT: true; the input reads as it did. -/
def blockChecksSpec : ChangeSpec := { name := "blockChecks", fn := fun _ => fun
  | [d1, d2, d3] => { results := [.lit (.bool true)], args := [d1, d2, d3] }
  | _ => none }
def blockChecksRow : OpenClaim := { program := "ytcpdiahbdmcdcaa", sum := "af1ce74680a8ece55e98a779eaa8b79f1fe3e21cc1b0117ba322856e25e0edec", func := "milepost/milepostlaw23.BlockChecks", spec := "blockChecks", inPlace := ["internal/abi.NoEscape", "internal/bytealg.MakeNoZero"], unfollowed := true, recurses := true, apart := false }
def BlockChecksSaid : Prop := blockChecksRow.holds Try.pinned (OpenSpec.ofChange blockChecksSpec)

/-- ITS FALSE NEIGHBOUR: 'it returns false'. Refute it at one input. -/
def blockChecksWrong : ChangeSpec := { name := "blockChecks", fn := fun _ => fun
  | [d1, d2, d3] => { results := [.lit (.bool false)], args := [d1, d2, d3] }
  | _ => none }
def BlockChecksWrongFalsely : Prop := blockChecksRow.holds Try.pinned (OpenSpec.ofChange blockChecksWrong)

/-- 'milepostlaw23.BlockBack': WHATEVER THE INPUT: true; the input reads as it did. -/
def blockBackSpec : ChangeSpec := { name := "blockBack", fn := fun _ => fun
  | [d1, d2] => { results := [.lit (.bool true)], args := [d1, d2] }
  | _ => none }
def blockBackRow : OpenClaim := { program := "ytcpdiahbdmcdcaa", sum := "af1ce74680a8ece55e98a779eaa8b79f1fe3e21cc1b0117ba322856e25e0edec", func := "milepost/milepostlaw23.BlockBack", spec := "blockBack", inPlace := ["internal/abi.NoEscape", "internal/bytealg.MakeNoZero"], unfollowed := true, recurses := true, apart := false }
def BlockBackSaid : Prop := blockBackRow.holds Try.pinned (OpenSpec.ofChange blockBackSpec)

/-- ITS FALSE NEIGHBOUR: 'it returns false'. Refute it at one input. -/
def blockBackWrong : ChangeSpec := { name := "blockBack", fn := fun _ => fun
  | [d1, d2] => { results := [.lit (.bool false)], args := [d1, d2] }
  | _ => none }
def BlockBackWrongFalsely : Prop := blockBackRow.holds Try.pinned (OpenSpec.ofChange blockBackWrong)

/-- 'milepostlaw15.ClashIs': WHATEVER THE INPUT: true; the input reads as it did. -/
def clashIsSpec : ChangeSpec := { name := "clashIs", fn := fun _ => fun
  | [d1, d2] => { results := [.lit (.bool true)], args := [d1, d2] }
  | _ => none }
def clashIsRow : OpenClaim := { program := "ytcpdiahbdmcdcaa", sum := "af1ce74680a8ece55e98a779eaa8b79f1fe3e21cc1b0117ba322856e25e0edec", func := "milepost/milepostlaw15.ClashIs", spec := "clashIs", inPlace := ["internal/abi.NoEscape", "internal/bytealg.MakeNoZero"], unfollowed := true, recurses := true, apart := false }
def ClashIsSaid : Prop := clashIsRow.holds Try.pinned (OpenSpec.ofChange clashIsSpec)

/-- ITS FALSE NEIGHBOUR: 'it returns false'. Refute it at one input. -/
def clashIsWrong : ChangeSpec := { name := "clashIs", fn := fun _ => fun
  | [d1, d2] => { results := [.lit (.bool false)], args := [d1, d2] }
  | _ => none }
def ClashIsWrongFalsely : Prop := clashIsRow.holds Try.pinned (OpenSpec.ofChange clashIsWrong)

/- THE SECOND FORM. 'bulk': how many values and letters a reading holds, each counted each time it is reached (what is shared counts as often as it is met; a slice's spare places count too). A statement '..UptoSaid' is the law's where the arguments, and the package variables that the reading takes, are together of bulk at most 1048576: NARROWER than '..Said'. Prove '..Said' where nothing that the law and all that it calls make is longer than what came in: it says more and counts as full. Else prove '..UptoSaid'. A law counts once. -/
mutual
def uptoBulk {H : Type} : DataW H → Nat
  | .lit (.string bytes) => bytes.length + 1
  | .lit _ => 1
  | .nil => 1
  | .ptr d => uptoBulk d + 1
  | .slice elems spare => uptoBulkAll elems + uptoBulkAll spare + 1
  | .agg parts => uptoBulkAll parts + 1
  | .iface _ d => uptoBulk d + 1
  | .map entries => uptoBulkEntries entries + 1
  | .held _ => 1
def uptoBulkAll {H : Type} : List (DataW H) → Nat
  | [] => 0
  | d :: r => uptoBulk d + uptoBulkAll r
def uptoBulkEntries {H : Type} : List (Lit × DataW H) → Nat
  | [] => 0
  | x :: r => uptoBulkEntry x + uptoBulkEntries r
def uptoBulkEntry {H : Type} : Lit × DataW H → Nat
  | (.string bytes, d) => bytes.length + uptoBulk d + 1
  | (_, d) => uptoBulk d + 1
 end
def uptoSmall : (H : Type) → List (DataW H) → Bool := fun _ ds => decide (uptoBulkAll ds ≤ 1048576)
def OpenSpec.upto (s : _root_.Go.ChangeSpec) : _root_.Go.OpenSpec := { _root_.Go.OpenSpec.ofChange s with cond := some uptoSmall }

/-- 'milepostlaw12.TreeRoots', WHERE WHAT IT READS IS OF BULK AT MOST 1048576: true; the input reads as it did. -/
def treeRootsUptoRow : OpenClaim := { program := "ytcpdiahbdmcdcaa", sum := "af1ce74680a8ece55e98a779eaa8b79f1fe3e21cc1b0117ba322856e25e0edec", func := "milepost/milepostlaw12.TreeRoots", spec := "treeRoots", inPlace := ["internal/abi.NoEscape", "internal/bytealg.MakeNoZero"], unfollowed := true, recurses := true, apart := false, narrowed := true }
def TreeRootsUptoSaid : Prop := treeRootsUptoRow.holds Try.pinned (OpenSpec.upto treeRootsSpec)

/-- 'milepostlaw12.TreeTops', WHERE WHAT IT READS IS OF BULK AT MOST 1048576: true; the input reads as it did. -/
def treeTopsUptoRow : OpenClaim := { program := "ytcpdiahbdmcdcaa", sum := "af1ce74680a8ece55e98a779eaa8b79f1fe3e21cc1b0117ba322856e25e0edec", func := "milepost/milepostlaw12.TreeTops", spec := "treeTops", inPlace := ["internal/abi.NoEscape", "internal/bytealg.MakeNoZero"], unfollowed := true, recurses := true, apart := false, narrowed := true }
def TreeTopsUptoSaid : Prop := treeTopsUptoRow.holds Try.pinned (OpenSpec.upto treeTopsSpec)

/-- 'milepostlaw12.TreeApart', WHERE WHAT IT READS IS OF BULK AT MOST 1048576: true; the input reads as it did. -/
def treeApartUptoRow : OpenClaim := { program := "ytcpdiahbdmcdcaa", sum := "af1ce74680a8ece55e98a779eaa8b79f1fe3e21cc1b0117ba322856e25e0edec", func := "milepost/milepostlaw12.TreeApart", spec := "treeApart", inPlace := ["internal/abi.NoEscape", "internal/bytealg.MakeNoZero"], unfollowed := true, recurses := true, apart := false, narrowed := true }
def TreeApartUptoSaid : Prop := treeApartUptoRow.holds Try.pinned (OpenSpec.upto treeApartSpec)

/-- 'milepostlaw13.OpenLeaves', WHERE WHAT IT READS IS OF BULK AT MOST 1048576: true; the input reads as it did. -/
def openLeavesUptoRow : OpenClaim := { program := "ytcpdiahbdmcdcaa", sum := "af1ce74680a8ece55e98a779eaa8b79f1fe3e21cc1b0117ba322856e25e0edec", func := "milepost/milepostlaw13.OpenLeaves", spec := "openLeaves", inPlace := ["internal/abi.NoEscape", "internal/bytealg.MakeNoZero"], unfollowed := true, recurses := true, apart := false, narrowed := true }
def OpenLeavesUptoSaid : Prop := openLeavesUptoRow.holds Try.pinned (OpenSpec.upto openLeavesSpec)

/-- 'milepostlaw13.OpenSame', WHERE WHAT IT READS IS OF BULK AT MOST 1048576: true; the input reads as it did. -/
def openSameUptoRow : OpenClaim := { program := "ytcpdiahbdmcdcaa", sum := "af1ce74680a8ece55e98a779eaa8b79f1fe3e21cc1b0117ba322856e25e0edec", func := "milepost/milepostlaw13.OpenSame", spec := "openSame", inPlace := ["internal/abi.NoEscape", "internal/bytealg.MakeNoZero"], unfollowed := true, recurses := true, apart := false, narrowed := true }
def OpenSameUptoSaid : Prop := openSameUptoRow.holds Try.pinned (OpenSpec.upto openSameSpec)

/-- 'milepostlaw14.HoldTells', WHERE WHAT IT READS IS OF BULK AT MOST 1048576: true; the input reads as it did. -/
def holdTellsUptoRow : OpenClaim := { program := "ytcpdiahbdmcdcaa", sum := "af1ce74680a8ece55e98a779eaa8b79f1fe3e21cc1b0117ba322856e25e0edec", func := "milepost/milepostlaw14.HoldTells", spec := "holdTells", inPlace := ["internal/abi.NoEscape", "internal/bytealg.MakeNoZero"], unfollowed := true, recurses := true, apart := false, narrowed := true }
def HoldTellsUptoSaid : Prop := holdTellsUptoRow.holds Try.pinned (OpenSpec.upto holdTellsSpec)

/-- 'milepostlaw16.MultiTells', WHERE WHAT IT READS IS OF BULK AT MOST 1048576: true; the input reads as it did. -/
def multiTellsUptoRow : OpenClaim := { program := "ytcpdiahbdmcdcaa", sum := "af1ce74680a8ece55e98a779eaa8b79f1fe3e21cc1b0117ba322856e25e0edec", func := "milepost/milepostlaw16.MultiTells", spec := "multiTells", inPlace := ["internal/abi.NoEscape", "internal/bytealg.MakeNoZero"], recurses := true, apart := false, narrowed := true }
def MultiTellsUptoSaid : Prop := multiTellsUptoRow.holds Try.pinned (OpenSpec.upto multiTellsSpec)

/-- 'milepostlaw16.MultiOpens', WHERE WHAT IT READS IS OF BULK AT MOST 1048576: true; the input reads as it did. -/
def multiOpensUptoRow : OpenClaim := { program := "ytcpdiahbdmcdcaa", sum := "af1ce74680a8ece55e98a779eaa8b79f1fe3e21cc1b0117ba322856e25e0edec", func := "milepost/milepostlaw16.MultiOpens", spec := "multiOpens", inPlace := ["internal/abi.NoEscape", "internal/bytealg.MakeNoZero"], unfollowed := true, recurses := true, apart := false, narrowed := true }
def MultiOpensUptoSaid : Prop := multiOpensUptoRow.holds Try.pinned (OpenSpec.upto multiOpensSpec)

/-- 'milepostlaw23.BlockMakes', WHERE WHAT IT READS IS OF BULK AT MOST 1048576: true; the input reads as it did. -/
def blockMakesUptoRow : OpenClaim := { program := "ytcpdiahbdmcdcaa", sum := "af1ce74680a8ece55e98a779eaa8b79f1fe3e21cc1b0117ba322856e25e0edec", func := "milepost/milepostlaw23.BlockMakes", spec := "blockMakes", inPlace := ["internal/abi.NoEscape", "internal/bytealg.MakeNoZero"], unfollowed := true, recurses := true, apart := false, narrowed := true }
def BlockMakesUptoSaid : Prop := blockMakesUptoRow.holds Try.pinned (OpenSpec.upto blockMakesSpec)

/-- 'milepostlaw23.BlockChecks', WHERE WHAT IT READS IS OF BULK AT MOST 1048576: true; the input reads as it did. -/
def blockChecksUptoRow : OpenClaim := { program := "ytcpdiahbdmcdcaa", sum := "af1ce74680a8ece55e98a779eaa8b79f1fe3e21cc1b0117ba322856e25e0edec", func := "milepost/milepostlaw23.BlockChecks", spec := "blockChecks", inPlace := ["internal/abi.NoEscape", "internal/bytealg.MakeNoZero"], unfollowed := true, recurses := true, apart := false, narrowed := true }
def BlockChecksUptoSaid : Prop := blockChecksUptoRow.holds Try.pinned (OpenSpec.upto blockChecksSpec)

/-- 'milepostlaw23.BlockBack', WHERE WHAT IT READS IS OF BULK AT MOST 1048576: true; the input reads as it did. -/
def blockBackUptoRow : OpenClaim := { program := "ytcpdiahbdmcdcaa", sum := "af1ce74680a8ece55e98a779eaa8b79f1fe3e21cc1b0117ba322856e25e0edec", func := "milepost/milepostlaw23.BlockBack", spec := "blockBack", inPlace := ["internal/abi.NoEscape", "internal/bytealg.MakeNoZero"], unfollowed := true, recurses := true, apart := false, narrowed := true }
def BlockBackUptoSaid : Prop := blockBackUptoRow.holds Try.pinned (OpenSpec.upto blockBackSpec)

/-- 'milepostlaw15.ClashIs', WHERE WHAT IT READS IS OF BULK AT MOST 1048576: true; the input reads as it did. -/
def clashIsUptoRow : OpenClaim := { program := "ytcpdiahbdmcdcaa", sum := "af1ce74680a8ece55e98a779eaa8b79f1fe3e21cc1b0117ba322856e25e0edec", func := "milepost/milepostlaw15.ClashIs", spec := "clashIs", inPlace := ["internal/abi.NoEscape", "internal/bytealg.MakeNoZero"], unfollowed := true, recurses := true, apart := false, narrowed := true }
def ClashIsUptoSaid : Prop := clashIsUptoRow.holds Try.pinned (OpenSpec.upto clashIsSpec)

end Rows
end Go.Proofs.Ytcpdiahbdmcdcaa

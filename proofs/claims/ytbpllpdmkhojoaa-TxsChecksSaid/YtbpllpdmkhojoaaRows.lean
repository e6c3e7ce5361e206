/-
  No cell of these rows narrows 'for every input' (looked for: loops, veiled, ifaces, maps, wideKeys, modest, calm, conditions, laid).
  DERIVED. THE GIVEN ROWS OF THIS SEAT. 12 by the template 'for every input the law returns true; each argument reads behind the call as it read before'; 0 by the template 'total and deterministic' (their statements: YtbpllpdmkhojoaaTotals.lean).
  GIVEN WITH THE SEED: the statements are not yours to turn. If you find one false, say at which input.
  Laid BY PROGRAM, IN A SANDBOX (cutbox-rows.mjs): the forced cells as the released guide's own fill.sh prints them over the translation c9620b43f1b02392… (all of the seat's roots in one cut). By AI agents, Wed Nov 11 2026. No macro, syntax, notation, axiom, sorry.
-/
import Derived.Test.YtbpllpdmkhojoaaChecked
import GoSem.Claim
import GoSem.ClaimJoined
import GoSem.ClaimMapViews
import Derived.JoinedTies
import Derived.KernelRfl
namespace Go.Proofs.Ytbpllpdmkhojoaa
/- THE CELL 'sum', in the pinned program and in every row, IS THE sha256 OF THE DUMP (.gsa) THAT YtbpllpdmkhojoaaProg.lean LOADS. Nothing in Lean hashes anything: it is a label: what it is worth is what the hold of that sum in a sandbox is worth. -/
noncomputable def Try.pinned : Pinned := { name := "ytbpllpdmkhojoaa", sum := "c9620b43f1b0239246709463847c4de5739040cdb79b9e52a005583ed48725ad", checked := Try.checked }
namespace Rows
def none {H : Type} : Left H := { results := [], args := [] }

/-- 'milepostlaw15.ClashFinds': WHATEVER THE INPUT: true; the input reads as it did. -/
def clashFindsSpec : ChangeSpec := { name := "clashFinds", fn := fun _ => fun
  | [d1, d2, d3] => { results := [.lit (.bool true)], args := [d1, d2, d3] }
  | _ => none }
def clashFindsRow : OpenClaim := { program := "ytbpllpdmkhojoaa", sum := "c9620b43f1b0239246709463847c4de5739040cdb79b9e52a005583ed48725ad", func := "milepost/milepostlaw15.ClashFinds", spec := "clashFinds", inPlace := ["internal/abi.NoEscape", "internal/bytealg.MakeNoZero"], unfollowed := true, recurses := true, apart := false }
def ClashFindsSaid : Prop := clashFindsRow.holds Try.pinned (OpenSpec.ofChange clashFindsSpec)

/-- ITS FALSE NEIGHBOUR: 'it returns false'. Refute it at one input. -/
def clashFindsWrong : ChangeSpec := { name := "clashFinds", fn := fun _ => fun
  | [d1, d2, d3] => { results := [.lit (.bool false)], args := [d1, d2, d3] }
  | _ => none }
def ClashFindsWrongFalsely : Prop := clashFindsRow.holds Try.pinned (OpenSpec.ofChange clashFindsWrong)

/-- 'milepostlaw15.ClashOpened': WHATEVER THE INPUT: true; the input reads as it did. -/
def clashOpenedSpec : ChangeSpec := { name := "clashOpened", fn := fun _ => fun
  | [d1, d2, d3] => { results := [.lit (.bool true)], args := [d1, d2, d3] }
  | _ => none }
def clashOpenedRow : OpenClaim := { program := "ytbpllpdmkhojoaa", sum := "c9620b43f1b0239246709463847c4de5739040cdb79b9e52a005583ed48725ad", func := "milepost/milepostlaw15.ClashOpened", spec := "clashOpened", inPlace := ["internal/abi.NoEscape", "internal/bytealg.MakeNoZero"], unfollowed := true, recurses := true, apart := false }
def ClashOpenedSaid : Prop := clashOpenedRow.holds Try.pinned (OpenSpec.ofChange clashOpenedSpec)

/-- ITS FALSE NEIGHBOUR: 'it returns false'. Refute it at one input. -/
def clashOpenedWrong : ChangeSpec := { name := "clashOpened", fn := fun _ => fun
  | [d1, d2, d3] => { results := [.lit (.bool false)], args := [d1, d2, d3] }
  | _ => none }
def ClashOpenedWrongFalsely : Prop := clashOpenedRow.holds Try.pinned (OpenSpec.ofChange clashOpenedWrong)

/-- 'milepostlaw35.JoinHolds': WHATEVER THE INPUT: true; the input reads as it did. -/
def joinHoldsSpec : ChangeSpec := { name := "joinHolds", fn := fun _ => fun
  | [d1, d2] => { results := [.lit (.bool true)], args := [d1, d2] }
  | _ => none }
def joinHoldsRow : OpenClaim := { program := "ytbpllpdmkhojoaa", sum := "c9620b43f1b0239246709463847c4de5739040cdb79b9e52a005583ed48725ad", func := "milepost/milepostlaw35.JoinHolds", spec := "joinHolds", inPlace := ["internal/abi.NoEscape", "internal/bytealg.MakeNoZero"], unfollowed := true, recurses := true, apart := false }
def JoinHoldsSaid : Prop := joinHoldsRow.holds Try.pinned (OpenSpec.ofChange joinHoldsSpec)

/-- ITS FALSE NEIGHBOUR: 'it returns false'. Refute it at one input. -/
def joinHoldsWrong : ChangeSpec := { name := "joinHolds", fn := fun _ => fun
  | [d1, d2] => { results := [.lit (.bool false)], args := [d1, d2] }
  | _ => none }
def JoinHoldsWrongFalsely : Prop := joinHoldsRow.holds Try.pinned (OpenSpec.ofChange joinHoldsWrong)

/-- 'milepostlaw35.JoinFirst': WHATEVER THE INPUT: true; the input reads as it did. -/
def joinFirstSpec : ChangeSpec := { name := "joinFirst", fn := fun _ => fun
  | [d] => { results := [.lit (.bool true)], args := [d] }
  | _ => none }
def joinFirstRow : OpenClaim := { program := "ytbpllpdmkhojoaa", sum := "c9620b43f1b0239246709463847c4de5739040cdb79b9e52a005583ed48725ad", func := "milepost/milepostlaw35.JoinFirst", spec := "joinFirst", inPlace := ["internal/abi.NoEscape", "internal/bytealg.MakeNoZero"], unfollowed := true, recurses := true, apart := false }
def JoinFirstSaid : Prop := joinFirstRow.holds Try.pinned (OpenSpec.ofChange joinFirstSpec)

/-- ITS FALSE NEIGHBOUR: 'it returns false'. Refute it at one input. -/
def joinFirstWrong : ChangeSpec := { name := "joinFirst", fn := fun _ => fun
  | [d] => { results := [.lit (.bool false)], args := [d] }
  | _ => none }
def JoinFirstWrongFalsely : Prop := joinFirstRow.holds Try.pinned (OpenSpec.ofChange joinFirstWrong)

/-- 'milepostlaw14.HoldOpened': WHATEVER THE INPUT: true; the input reads as it did. -/
def holdOpenedSpec : ChangeSpec := { name := "holdOpened", fn := fun _ => fun
  | [d1, d2] => { results := [.lit (.bool true)], args := [d1, d2] }
  | _ => none }
def holdOpenedRow : OpenClaim := { program := "ytbpllpdmkhojoaa", sum := "c9620b43f1b0239246709463847c4de5739040cdb79b9e52a005583ed48725ad", func := "milepost/milepostlaw14.HoldOpened", spec := "holdOpened", inPlace := ["internal/abi.NoEscape", "internal/bytealg.MakeNoZero"], unfollowed := true, recurses := true, apart := false }
def HoldOpenedSaid : Prop := holdOpenedRow.holds Try.pinned (OpenSpec.ofChange holdOpenedSpec)

/-- ITS FALSE NEIGHBOUR: 'it returns false'. Refute it at one input. -/
def holdOpenedWrong : ChangeSpec := { name := "holdOpened", fn := fun _ => fun
  | [d1, d2] => { results := [.lit (.bool false)], args := [d1, d2] }
  | _ => none }
def HoldOpenedWrongFalsely : Prop := holdOpenedRow.holds Try.pinned (OpenSpec.ofChange holdOpenedWrong)

/-- 'milepostlaw21.LinkRoots': WHATEVER THE INPUT: true; the input reads as it did. -/
def linkRootsSpec : ChangeSpec := { name := "linkRoots", fn := fun _ => fun
  | [d1, d2] => { results := [.lit (.bool true)], args := [d1, d2] }
  | _ => none }
def linkRootsRow : OpenClaim := { program := "ytbpllpdmkhojoaa", sum := "c9620b43f1b0239246709463847c4de5739040cdb79b9e52a005583ed48725ad", func := "milepost/milepostlaw21.LinkRoots", spec := "linkRoots", inPlace := ["internal/abi.NoEscape", "internal/bytealg.MakeNoZero"], unfollowed := true, recurses := true, apart := false }
def LinkRootsSaid : Prop := linkRootsRow.holds Try.pinned (OpenSpec.ofChange linkRootsSpec)

/-- ITS FALSE NEIGHBOUR: 'it returns false'. Refute it at one input. -/
def linkRootsWrong : ChangeSpec := { name := "linkRoots", fn := fun _ => fun
  | [d1, d2] => { results := [.lit (.bool false)], args := [d1, d2] }
  | _ => none }
def LinkRootsWrongFalsely : Prop := linkRootsRow.holds Try.pinned (OpenSpec.ofChange linkRootsWrong)

/-- 'milepostlaw21.LinkChecks': WHATEVER THE INPUT: true; the input reads as it did. -/
def linkChecksSpec : ChangeSpec := { name := "linkChecks", fn := fun _ => fun
  | [d1, d2, d3] => { results := [.lit (.bool true)], args := [d1, d2, d3] }
  | _ => none }
def linkChecksRow : OpenClaim := { program := "ytbpllpdmkhojoaa", sum := "c9620b43f1b0239246709463847c4de5739040cdb79b9e52a005583ed48725ad", func := "milepost/milepostlaw21.LinkChecks", spec := "linkChecks", inPlace := ["internal/abi.NoEscape", "internal/bytealg.MakeNoZero"], unfollowed := true, recurses := true, apart := false }
def LinkChecksSaid : Prop := linkChecksRow.holds Try.pinned (OpenSpec.ofChange linkChecksSpec)

/-- ITS FALSE NEIGHBOUR: 'it returns false'. Refute it at one input. -/
def linkChecksWrong : ChangeSpec := { name := "linkChecks", fn := fun _ => fun
  | [d1, d2, d3] => { results := [.lit (.bool false)], args := [d1, d2, d3] }
  | _ => none }
def LinkChecksWrongFalsely : Prop := linkChecksRow.holds Try.pinned (OpenSpec.ofChange linkChecksWrong)

/-- 'milepostlaw21.LinkBack': WHATEVER THE INPUT: true; the input reads as it did. -/
def linkBackSpec : ChangeSpec := { name := "linkBack", fn := fun _ => fun
  | [d1, d2] => { results := [.lit (.bool true)], args := [d1, d2] }
  | _ => none }
def linkBackRow : OpenClaim := { program := "ytbpllpdmkhojoaa", sum := "c9620b43f1b0239246709463847c4de5739040cdb79b9e52a005583ed48725ad", func := "milepost/milepostlaw21.LinkBack", spec := "linkBack", inPlace := ["internal/abi.NoEscape", "internal/bytealg.MakeNoZero"], unfollowed := true, recurses := true, apart := false }
def LinkBackSaid : Prop := linkBackRow.holds Try.pinned (OpenSpec.ofChange linkBackSpec)

/-- ITS FALSE NEIGHBOUR: 'it returns false'. Refute it at one input. -/
def linkBackWrong : ChangeSpec := { name := "linkBack", fn := fun _ => fun
  | [d1, d2] => { results := [.lit (.bool false)], args := [d1, d2] }
  | _ => none }
def LinkBackWrongFalsely : Prop := linkBackRow.holds Try.pinned (OpenSpec.ofChange linkBackWrong)

/-- 'milepostlaw35.JoinTwo': WHATEVER THE INPUT: true; the input reads as it did. -/
def joinTwoSpec : ChangeSpec := { name := "joinTwo", fn := fun _ => fun
  | [d1, d2, d3] => { results := [.lit (.bool true)], args := [d1, d2, d3] }
  | _ => none }
def joinTwoRow : OpenClaim := { program := "ytbpllpdmkhojoaa", sum := "c9620b43f1b0239246709463847c4de5739040cdb79b9e52a005583ed48725ad", func := "milepost/milepostlaw35.JoinTwo", spec := "joinTwo", inPlace := ["internal/abi.NoEscape", "internal/bytealg.MakeNoZero"], unfollowed := true, recurses := true, apart := false }
def JoinTwoSaid : Prop := joinTwoRow.holds Try.pinned (OpenSpec.ofChange joinTwoSpec)

/-- ITS FALSE NEIGHBOUR: 'it returns false'. Refute it at one input. -/
def joinTwoWrong : ChangeSpec := { name := "joinTwo", fn := fun _ => fun
  | [d1, d2, d3] => { results := [.lit (.bool false)], args := [d1, d2, d3] }
  | _ => none }
def JoinTwoWrongFalsely : Prop := joinTwoRow.holds Try.pinned (OpenSpec.ofChange joinTwoWrong)

/-- 'milepostlaw22.TxsRoots': WHATEVER THE INPUT: true; the input reads as it did. -/
def txsRootsSpec : ChangeSpec := { name := "txsRoots", fn := fun _ => fun
  | [d1, d2] => { results := [.lit (.bool true)], args := [d1, d2] }
  | _ => none }
def txsRootsRow : OpenClaim := { program := "ytbpllpdmkhojoaa", sum := "c9620b43f1b0239246709463847c4de5739040cdb79b9e52a005583ed48725ad", func := "milepost/milepostlaw22.TxsRoots", spec := "txsRoots", inPlace := ["internal/abi.NoEscape", "internal/bytealg.MakeNoZero"], unfollowed := true, recurses := true, apart := false }
def TxsRootsSaid : Prop := txsRootsRow.holds Try.pinned (OpenSpec.ofChange txsRootsSpec)

/-- ITS FALSE NEIGHBOUR: 'it returns false'. Refute it at one input. -/
def txsRootsWrong : ChangeSpec := { name := "txsRoots", fn := fun _ => fun
  | [d1, d2] => { results := [.lit (.bool false)], args := [d1, d2] }
  | _ => none }
def TxsRootsWrongFalsely : Prop := txsRootsRow.holds Try.pinned (OpenSpec.ofChange txsRootsWrong)

/-- 'milepostlaw22.TxsChecks': WHATEVER THE INPUT: true; the input reads as it did. -/
def txsChecksSpec : ChangeSpec := { name := "txsChecks", fn := fun _ => fun
  | [d1, d2, d3] => { results := [.lit (.bool true)], args := [d1, d2, d3] }
  | _ => none }
def txsChecksRow : OpenClaim := { program := "ytbpllpdmkhojoaa", sum := "c9620b43f1b0239246709463847c4de5739040cdb79b9e52a005583ed48725ad", func := "milepost/milepostlaw22.TxsChecks", spec := "txsChecks", inPlace := ["internal/abi.NoEscape", "internal/bytealg.MakeNoZero"], unfollowed := true, recurses := true, apart := false }
def TxsChecksSaid : Prop := txsChecksRow.holds Try.pinned (OpenSpec.ofChange txsChecksSpec)

/-- ITS FALSE NEIGHBOUR: 'it returns false'. Refute it at one input. -/
def txsChecksWrong : ChangeSpec := { name := "txsChecks", fn := fun _ => fun
  | [d1, d2, d3] => { results := [.lit (.bool false)], args := [d1, d2, d3] }
  | _ => none }
def TxsChecksWrongFalsely : Prop := txsChecksRow.holds Try.pinned (OpenSpec.ofChange txsChecksWrong)

/-- 'milepostlaw22.TxsApart': WHATEVER THE INPUT: true; the input reads as it did. -/
def txsApartSpec : ChangeSpec := { name := "txsApart", fn := fun _ => fun
  | [d1, d2, d3] => { results := [.lit (.bool true)], args := [d1, d2, d3] }
  | _ => none }
def txsApartRow : OpenClaim := { program := "ytbpllpdmkhojoaa", sum := "c9620b43f1b0239246709463847c4de5739040cdb79b9e52a005583ed48725ad", func := "milepost/milepostlaw22.TxsApart", spec := "txsApart", inPlace := ["internal/abi.NoEscape", "internal/bytealg.MakeNoZero"], unfollowed := true, recurses := true, apart := false }
def TxsApartSaid : Prop := txsApartRow.holds Try.pinned (OpenSpec.ofChange txsApartSpec)

/-- ITS FALSE NEIGHBOUR: 'it returns false'. Refute it at one input. -/
def txsApartWrong : ChangeSpec := { name := "txsApart", fn := fun _ => fun
  | [d1, d2, d3] => { results := [.lit (.bool false)], args := [d1, d2, d3] }
  | _ => none }
def TxsApartWrongFalsely : Prop := txsApartRow.holds Try.pinned (OpenSpec.ofChange txsApartWrong)

/- THE SECOND FORM. 'bulk': how many values and letters a reading holds, each counted each time it is reached (what is shared counts as often as it is met; a slice's spare places count too). A statement '..UptoSaid' is the law's where the arguments, and the package variables that the reading takes, are together of bulk at most 1048576: NARROWER than '..Said'. Prove '..Said' where nothing that the law and all that it calls make is longer than what came in: it says more and counts as full. Else prove '..UptoSaid'. A law counts once. -/
mutual
def uptoBulk {H : Type} : DataW H → Nat
  | .lit (.string bytes) => bytes.length + 1
  | .lit _ => 1
  | .nil => 1
  | .ptr d => uptoBulk d + 1
  | .slice elems spare => uptoBulkAll elems + uptoBulkAll spare + 1
  | .agg parts => uptoBulkAll parts + 1
  | .iface _ d => uptoBulk d + 1
  | .map entries => uptoBulkEntries entries + 1
  | .held _ => 1
def uptoBulkAll {H : Type} : List (DataW H) → Nat
  | [] => 0
  | d :: r => uptoBulk d + uptoBulkAll r
def uptoBulkEntries {H : Type} : List (Lit × DataW H) → Nat
  | [] => 0
  | x :: r => uptoBulkEntry x + uptoBulkEntries r
def uptoBulkEntry {H : Type} : Lit × DataW H → Nat
  | (.string bytes, d) => bytes.length + uptoBulk d + 1
  | (_, d) => uptoBulk d + 1
 end
def uptoSmall : (H : Type) → List (DataW H) → Bool := fun _ ds => decide (uptoBulkAll ds ≤ 1048576)
def OpenSpec.upto (s : _root_.Go.ChangeSpec) : _root_.Go.OpenSpec := { _root_.Go.OpenSpec.ofChange s with cond := some uptoSmall }

/-- 'milepostlaw15.ClashFinds', WHERE WHAT IT READS IS OF BULK AT MOST 1048576: true; the input reads as it did. -/
def clashFindsUptoRow : OpenClaim := { program := "ytbpllpdmkhojoaa", sum := "c9620b43f1b0239246709463847c4de5739040cdb79b9e52a005583ed48725ad", func := "milepost/milepostlaw15.ClashFinds", spec := "clashFinds", inPlace := ["internal/abi.NoEscape", "internal/bytealg.MakeNoZero"], unfollowed := true, recurses := true, apart := false, narrowed := true }
def ClashFindsUptoSaid : Prop := clashFindsUptoRow.holds Try.pinned (OpenSpec.upto clashFindsSpec)

/-- 'milepostlaw15.ClashOpened', WHERE WHAT IT READS IS OF BULK AT MOST 1048576: true; the input reads as it did. -/
def clashOpenedUptoRow : OpenClaim := { program := "ytbpllpdmkhojoaa", sum := "c9620b43f1b0239246709463847c4de5739040cdb79b9e52a005583ed48725ad", func := "milepost/milepostlaw15.ClashOpened", spec := "clashOpened", inPlace := ["internal/abi.NoEscape", "internal/bytealg.MakeNoZero"], unfollowed := true, recurses := true, apart := false, narrowed := true }
def ClashOpenedUptoSaid : Prop := clashOpenedUptoRow.holds Try.pinned (OpenSpec.upto clashOpenedSpec)

/-- 'milepostlaw35.JoinHolds', WHERE WHAT IT READS IS OF BULK AT MOST 1048576: true; the input reads as it did. -/
def joinHoldsUptoRow : OpenClaim := { program := "ytbpllpdmkhojoaa", sum := "c9620b43f1b0239246709463847c4de5739040cdb79b9e52a005583ed48725ad", func := "milepost/milepostlaw35.JoinHolds", spec := "joinHolds", inPlace := ["internal/abi.NoEscape", "internal/bytealg.MakeNoZero"], unfollowed := true, recurses := true, apart := false, narrowed := true }
def JoinHoldsUptoSaid : Prop := joinHoldsUptoRow.holds Try.pinned (OpenSpec.upto joinHoldsSpec)

/-- 'milepostlaw35.JoinFirst', WHERE WHAT IT READS IS OF BULK AT MOST 1048576: true; the input reads as it did. -/
def joinFirstUptoRow : OpenClaim := { program := "ytbpllpdmkhojoaa", sum := "c9620b43f1b0239246709463847c4de5739040cdb79b9e52a005583ed48725ad", func := "milepost/milepostlaw35.JoinFirst", spec := "joinFirst", inPlace := ["internal/abi.NoEscape", "internal/bytealg.MakeNoZero"], unfollowed := true, recurses := true, apart := false, narrowed := true }
def JoinFirstUptoSaid : Prop := joinFirstUptoRow.holds Try.pinned (OpenSpec.upto joinFirstSpec)

/-- 'milepostlaw14.HoldOpened', WHERE WHAT IT READS IS OF BULK AT MOST 1048576: true; the input reads as it did. -/
def holdOpenedUptoRow : OpenClaim := { program := "ytbpllpdmkhojoaa", sum := "c9620b43f1b0239246709463847c4de5739040cdb79b9e52a005583ed48725ad", func := "milepost/milepostlaw14.HoldOpened", spec := "holdOpened", inPlace := ["internal/abi.NoEscape", "internal/bytealg.MakeNoZero"], unfollowed := true, recurses := true, apart := false, narrowed := true }
def HoldOpenedUptoSaid : Prop := holdOpenedUptoRow.holds Try.pinned (OpenSpec.upto holdOpenedSpec)

/-- 'milepostlaw21.LinkRoots', WHERE WHAT IT READS IS OF BULK AT MOST 1048576: true; the input reads as it did. -/
def linkRootsUptoRow : OpenClaim := { program := "ytbpllpdmkhojoaa", sum := "c9620b43f1b0239246709463847c4de5739040cdb79b9e52a005583ed48725ad", func := "milepost/milepostlaw21.LinkRoots", spec := "linkRoots", inPlace := ["internal/abi.NoEscape", "internal/bytealg.MakeNoZero"], unfollowed := true, recurses := true, apart := false, narrowed := true }
def LinkRootsUptoSaid : Prop := linkRootsUptoRow.holds Try.pinned (OpenSpec.upto linkRootsSpec)

/-- 'milepostlaw21.LinkChecks', WHERE WHAT IT READS IS OF BULK AT MOST 1048576: true; the input reads as it did. -/
def linkChecksUptoRow : OpenClaim := { program := "ytbpllpdmkhojoaa", sum := "c9620b43f1b0239246709463847c4de5739040cdb79b9e52a005583ed48725ad", func := "milepost/milepostlaw21.LinkChecks", spec := "linkChecks", inPlace := ["internal/abi.NoEscape", "internal/bytealg.MakeNoZero"], unfollowed := true, recurses := true, apart := false, narrowed := true }
def LinkChecksUptoSaid : Prop := linkChecksUptoRow.holds Try.pinned (OpenSpec.upto linkChecksSpec)

/-- 'milepostlaw21.LinkBack', WHERE WHAT IT READS IS OF BULK AT MOST 1048576: true; the input reads as it did. -/
def linkBackUptoRow : OpenClaim := { program := "ytbpllpdmkhojoaa", sum := "c9620b43f1b0239246709463847c4de5739040cdb79b9e52a005583ed48725ad", func := "milepost/milepostlaw21.LinkBack", spec := "linkBack", inPlace := ["internal/abi.NoEscape", "internal/bytealg.MakeNoZero"], unfollowed := true, recurses := true, apart := false, narrowed := true }
def LinkBackUptoSaid : Prop := linkBackUptoRow.holds Try.pinned (OpenSpec.upto linkBackSpec)

/-- 'milepostlaw35.JoinTwo', WHERE WHAT IT READS IS OF BULK AT MOST 1048576: true; the input reads as it did. -/
def joinTwoUptoRow : OpenClaim := { program := "ytbpllpdmkhojoaa", sum := "c9620b43f1b0239246709463847c4de5739040cdb79b9e52a005583ed48725ad", func := "milepost/milepostlaw35.JoinTwo", spec := "joinTwo", inPlace := ["internal/abi.NoEscape", "internal/bytealg.MakeNoZero"], unfollowed := true, recurses := true, apart := false, narrowed := true }
def JoinTwoUptoSaid : Prop := joinTwoUptoRow.holds Try.pinned (OpenSpec.upto joinTwoSpec)

/-- 'milepostlaw22.TxsRoots', WHERE WHAT IT READS IS OF BULK AT MOST 1048576: true; the input reads as it did. -/
def txsRootsUptoRow : OpenClaim := { program := "ytbpllpdmkhojoaa", sum := "c9620b43f1b0239246709463847c4de5739040cdb79b9e52a005583ed48725ad", func := "milepost/milepostlaw22.TxsRoots", spec := "txsRoots", inPlace := ["internal/abi.NoEscape", "internal/bytealg.MakeNoZero"], unfollowed := true, recurses := true, apart := false, narrowed := true }
def TxsRootsUptoSaid : Prop := txsRootsUptoRow.holds Try.pinned (OpenSpec.upto txsRootsSpec)

/-- 'milepostlaw22.TxsChecks', WHERE WHAT IT READS IS OF BULK AT MOST 1048576: true; the input reads as it did. -/
def txsChecksUptoRow : OpenClaim := { program := "ytbpllpdmkhojoaa", sum := "c9620b43f1b0239246709463847c4de5739040cdb79b9e52a005583ed48725ad", func := "milepost/milepostlaw22.TxsChecks", spec := "txsChecks", inPlace := ["internal/abi.NoEscape", "internal/bytealg.MakeNoZero"], unfollowed := true, recurses := true, apart := false, narrowed := true }
def TxsChecksUptoSaid : Prop := txsChecksUptoRow.holds Try.pinned (OpenSpec.upto txsChecksSpec)

/-- 'milepostlaw22.TxsApart', WHERE WHAT IT READS IS OF BULK AT MOST 1048576: true; the input reads as it did. -/
def txsApartUptoRow : OpenClaim := { program := "ytbpllpdmkhojoaa", sum := "c9620b43f1b0239246709463847c4de5739040cdb79b9e52a005583ed48725ad", func := "milepost/milepostlaw22.TxsApart", spec := "txsApart", inPlace := ["internal/abi.NoEscape", "internal/bytealg.MakeNoZero"], unfollowed := true, recurses := true, apart := false, narrowed := true }
def TxsApartUptoSaid : Prop := txsApartUptoRow.holds Try.pinned (OpenSpec.upto txsApartSpec)

end Rows
end Go.Proofs.Ytbpllpdmkhojoaa

/-
  No cell of these rows narrows 'for every input' (looked for: loops, veiled, ifaces, maps, wideKeys, modest, calm, conditions, laid).
  DERIVED. THE GIVEN ROWS OF THIS SEAT. 5 by the template 'for every input the law returns true; each argument reads behind the call as it read before'; 0 by the template 'total and deterministic' (their statements: YtncajhkogppojaaTotals.lean).
  GIVEN WITH THE SEED: the statements are not yours to turn. If you find one false, say at which input.
  Laid BY PROGRAM, IN A SANDBOX (cutbox-rows.mjs): the forced cells as the released guide's own fill.sh prints them over the translation 108005d9d15a70c2… (all of the seat's roots in one cut). By AI agents, Wed Nov 11 2026. No macro, syntax, notation, axiom, sorry.
-/
import Derived.Test.YtncajhkogppojaaChecked
import GoSem.Claim
import GoSem.ClaimJoined
import GoSem.ClaimMapViews
import Derived.JoinedTies
import Derived.KernelRfl
namespace Go.Proofs.Ytncajhkogppojaa
/- THE CELL 'sum', in the pinned program and in every row, IS THE sha256 OF THE DUMP (.gsa) THAT YtncajhkogppojaaProg.lean LOADS. Nothing in Lean hashes anything: it is a label: what it is worth is what the hold of that sum in a sandbox is worth. -/
noncomputable def Try.pinned : Pinned := { name := "ytncajhkogppojaa", sum := "108005d9d15a70c29716084911cee66c38e8bb449a30a4fe12f017a98d363381", checked := Try.checked }
namespace Rows
def none {H : Type} : Left H := { results := [], args := [] }

/-- 'milepostlaw16.MultiOnes': WHATEVER THE INPUT: true; the input reads as it did. -/
def multiOnesSpec : ChangeSpec := { name := "multiOnes", fn := fun _ => fun
  | [d1, d2, d3] => { results := [.lit (.bool true)], args := [d1, d2, d3] }
  | _ => none }
def multiOnesRow : OpenClaim := { program := "ytncajhkogppojaa", sum := "108005d9d15a70c29716084911cee66c38e8bb449a30a4fe12f017a98d363381", func := "milepost/milepostlaw16.MultiOnes", spec := "multiOnes", inPlace := ["internal/abi.NoEscape", "internal/bytealg.MakeNoZero"], unfollowed := true, recurses := true, apart := false }
def MultiOnesSaid : Prop := multiOnesRow.holds Try.pinned (OpenSpec.ofChange multiOnesSpec)

/-- ITS FALSE NEIGHBOUR: 'it returns false'. Refute it at one input. -/
def multiOnesWrong : ChangeSpec := { name := "multiOnes", fn := fun _ => fun
  | [d1, d2, d3] => { results := [.lit (.bool false)], args := [d1, d2, d3] }
  | _ => none }
def MultiOnesWrongFalsely : Prop := multiOnesRow.holds Try.pinned (OpenSpec.ofChange multiOnesWrong)

/-- 'milepostlaw25.MineGrows': WHATEVER THE INPUT: true; the input reads as it did. -/
def mineGrowsSpec : ChangeSpec := { name := "mineGrows", fn := fun _ => fun
  | [d1, d2, d3] => { results := [.lit (.bool true)], args := [d1, d2, d3] }
  | _ => none }
def mineGrowsRow : OpenClaim := { program := "ytncajhkogppojaa", sum := "108005d9d15a70c29716084911cee66c38e8bb449a30a4fe12f017a98d363381", func := "milepost/milepostlaw25.MineGrows", spec := "mineGrows", inPlace := ["internal/abi.NoEscape", "internal/bytealg.MakeNoZero"], unfollowed := true, recurses := true, apart := false }
def MineGrowsSaid : Prop := mineGrowsRow.holds Try.pinned (OpenSpec.ofChange mineGrowsSpec)

/-- ITS FALSE NEIGHBOUR: 'it returns false'. Refute it at one input. -/
def mineGrowsWrong : ChangeSpec := { name := "mineGrows", fn := fun _ => fun
  | [d1, d2, d3] => { results := [.lit (.bool false)], args := [d1, d2, d3] }
  | _ => none }
def MineGrowsWrongFalsely : Prop := mineGrowsRow.holds Try.pinned (OpenSpec.ofChange mineGrowsWrong)

/-- 'milepostlaw26.NearVectors': WHATEVER THE INPUT: true; the input reads as it did. -/
def nearVectorsSpec : ChangeSpec := { name := "nearVectors", fn := fun _ => fun
  | [d1, d2] => { results := [.lit (.bool true)], args := [d1, d2] }
  | _ => none }
def nearVectorsRow : OpenClaim := { program := "ytncajhkogppojaa", sum := "108005d9d15a70c29716084911cee66c38e8bb449a30a4fe12f017a98d363381", func := "milepost/milepostlaw26.NearVectors", spec := "nearVectors", inPlace := ["internal/abi.NoEscape", "internal/bytealg.MakeNoZero"], unfollowed := true, recurses := true, apart := false }
def NearVectorsSaid : Prop := nearVectorsRow.holds Try.pinned (OpenSpec.ofChange nearVectorsSpec)

/-- ITS FALSE NEIGHBOUR: 'it returns false'. Refute it at one input. -/
def nearVectorsWrong : ChangeSpec := { name := "nearVectors", fn := fun _ => fun
  | [d1, d2] => { results := [.lit (.bool false)], args := [d1, d2] }
  | _ => none }
def NearVectorsWrongFalsely : Prop := nearVectorsRow.holds Try.pinned (OpenSpec.ofChange nearVectorsWrong)

/-- 'milepostlaw51.TrailLeads': WHATEVER THE INPUT: true; the input reads as it did. -/
def trailLeadsSpec : ChangeSpec := { name := "trailLeads", fn := fun _ => fun
  | [d1, d2, d3] => { results := [.lit (.bool true)], args := [d1, d2, d3] }
  | _ => none }
def trailLeadsRow : OpenClaim := { program := "ytncajhkogppojaa", sum := "108005d9d15a70c29716084911cee66c38e8bb449a30a4fe12f017a98d363381", func := "milepost/milepostlaw51.TrailLeads", spec := "trailLeads", inPlace := ["internal/abi.NoEscape", "internal/bytealg.MakeNoZero"], unfollowed := true, recurses := true, apart := false }
def TrailLeadsSaid : Prop := trailLeadsRow.holds Try.pinned (OpenSpec.ofChange trailLeadsSpec)

/-- ITS FALSE NEIGHBOUR: 'it returns false'. Refute it at one input. -/
def trailLeadsWrong : ChangeSpec := { name := "trailLeads", fn := fun _ => fun
  | [d1, d2, d3] => { results := [.lit (.bool false)], args := [d1, d2, d3] }
  | _ => none }
def TrailLeadsWrongFalsely : Prop := trailLeadsRow.holds Try.pinned (OpenSpec.ofChange trailLeadsWrong)

/-- 'milepostlaw27.DownChain': WHATEVER THE INPUT: true; the input reads as it did. -/
def downChainSpec : ChangeSpec := { name := "downChain", fn := fun _ => fun
  | [d1, d2] => { results := [.lit (.bool true)], args := [d1, d2] }
  | _ => none }
def downChainRow : OpenClaim := { program := "ytncajhkogppojaa", sum := "108005d9d15a70c29716084911cee66c38e8bb449a30a4fe12f017a98d363381", func := "milepost/milepostlaw27.DownChain", spec := "downChain", inPlace := ["internal/abi.NoEscape", "internal/bytealg.MakeNoZero"], unfollowed := true, recurses := true, apart := false }
def DownChainSaid : Prop := downChainRow.holds Try.pinned (OpenSpec.ofChange downChainSpec)

/-- ITS FALSE NEIGHBOUR: 'it returns false'. Refute it at one input. -/
def downChainWrong : ChangeSpec := { name := "downChain", fn := fun _ => fun
  | [d1, d2] => { results := [.lit (.bool false)], args := [d1, d2] }
  | _ => none }
def DownChainWrongFalsely : Prop := downChainRow.holds Try.pinned (OpenSpec.ofChange downChainWrong)

/- THE SECOND FORM. 'bulk': how many values and letters a reading holds, each counted each time it is reached (what is shared counts as often as it is met; a slice's spare places count too). A statement '..UptoSaid' is the law's where the arguments, and the package variables that the reading takes, are together of bulk at most 1048576: NARROWER than '..Said'. Prove '..Said' where nothing that the law and all that it calls make is longer than what came in: it says more and counts as full. Else prove '..UptoSaid'. A law counts once. -/
mutual
def uptoBulk {H : Type} : DataW H → Nat
  | .lit (.string bytes) => bytes.length + 1
  | .lit _ => 1
  | .nil => 1
  | .ptr d => uptoBulk d + 1
  | .slice elems spare => uptoBulkAll elems + uptoBulkAll spare + 1
  | .agg parts => uptoBulkAll parts + 1
  | .iface _ d => uptoBulk d + 1
  | .map entries => uptoBulkEntries entries + 1
  | .held _ => 1
def uptoBulkAll {H : Type} : List (DataW H) → Nat
  | [] => 0
  | d :: r => uptoBulk d + uptoBulkAll r
def uptoBulkEntries {H : Type} : List (Lit × DataW H) → Nat
  | [] => 0
  | x :: r => uptoBulkEntry x + uptoBulkEntries r
def uptoBulkEntry {H : Type} : Lit × DataW H → Nat
  | (.string bytes, d) => bytes.length + uptoBulk d + 1
  | (_, d) => uptoBulk d + 1
 end
def uptoSmall : (H : Type) → List (DataW H) → Bool := fun _ ds => decide (uptoBulkAll ds ≤ 1048576)
def OpenSpec.upto (s : _root_.Go.ChangeSpec) : _root_.Go.OpenSpec := { _root_.Go.OpenSpec.ofChange s with cond := some uptoSmall }

/-- 'milepostlaw16.MultiOnes', WHERE WHAT IT READS IS OF BULK AT MOST 1048576: true; the input reads as it did. -/
def multiOnesUptoRow : OpenClaim := { program := "ytncajhkogppojaa", sum := "108005d9d15a70c29716084911cee66c38e8bb449a30a4fe12f017a98d363381", func := "milepost/milepostlaw16.MultiOnes", spec := "multiOnes", inPlace := ["internal/abi.NoEscape", "internal/bytealg.MakeNoZero"], unfollowed := true, recurses := true, apart := false, narrowed := true }
def MultiOnesUptoSaid : Prop := multiOnesUptoRow.holds Try.pinned (OpenSpec.upto multiOnesSpec)

/-- 'milepostlaw25.MineGrows', WHERE WHAT IT READS IS OF BULK AT MOST 1048576: true; the input reads as it did. -/
def mineGrowsUptoRow : OpenClaim := { program := "ytncajhkogppojaa", sum := "108005d9d15a70c29716084911cee66c38e8bb449a30a4fe12f017a98d363381", func := "milepost/milepostlaw25.MineGrows", spec := "mineGrows", inPlace := ["internal/abi.NoEscape", "internal/bytealg.MakeNoZero"], unfollowed := true, recurses := true, apart := false, narrowed := true }
def MineGrowsUptoSaid : Prop := mineGrowsUptoRow.holds Try.pinned (OpenSpec.upto mineGrowsSpec)

/-- 'milepostlaw26.NearVectors', WHERE WHAT IT READS IS OF BULK AT MOST 1048576: true; the input reads as it did. -/
def nearVectorsUptoRow : OpenClaim := { program := "ytncajhkogppojaa", sum := "108005d9d15a70c29716084911cee66c38e8bb449a30a4fe12f017a98d363381", func := "milepost/milepostlaw26.NearVectors", spec := "nearVectors", inPlace := ["internal/abi.NoEscape", "internal/bytealg.MakeNoZero"], unfollowed := true, recurses := true, apart := false, narrowed := true }
def NearVectorsUptoSaid : Prop := nearVectorsUptoRow.holds Try.pinned (OpenSpec.upto nearVectorsSpec)

/-- 'milepostlaw51.TrailLeads', WHERE WHAT IT READS IS OF BULK AT MOST 1048576: true; the input reads as it did. -/
def trailLeadsUptoRow : OpenClaim := { program := "ytncajhkogppojaa", sum := "108005d9d15a70c29716084911cee66c38e8bb449a30a4fe12f017a98d363381", func := "milepost/milepostlaw51.TrailLeads", spec := "trailLeads", inPlace := ["internal/abi.NoEscape", "internal/bytealg.MakeNoZero"], unfollowed := true, recurses := true, apart := false, narrowed := true }
def TrailLeadsUptoSaid : Prop := trailLeadsUptoRow.holds Try.pinned (OpenSpec.upto trailLeadsSpec)

/-- 'milepostlaw27.DownChain', WHERE WHAT IT READS IS OF BULK AT MOST 1048576: true; the input reads as it did. -/
def downChainUptoRow : OpenClaim := { program := "ytncajhkogppojaa", sum := "108005d9d15a70c29716084911cee66c38e8bb449a30a4fe12f017a98d363381", func := "milepost/milepostlaw27.DownChain", spec := "downChain", inPlace := ["internal/abi.NoEscape", "internal/bytealg.MakeNoZero"], unfollowed := true, recurses := true, apart := false, narrowed := true }
def DownChainUptoSaid : Prop := downChainUptoRow.holds Try.pinned (OpenSpec.upto downChainSpec)

end Rows
end Go.Proofs.Ytncajhkogppojaa

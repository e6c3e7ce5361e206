/-
  No cell of these rows narrows 'for every input' (looked for: loops, veiled, ifaces, maps, wideKeys, modest, calm, conditions, laid).
  DERIVED. THE GIVEN ROWS OF THIS SEAT. 6 by the template 'for every input the law returns true; each argument reads behind the call as it read before'; 0 by the template 'total and deterministic' (their statements: YtgfplmaehbhapaaTotals.lean).
  GIVEN WITH THE SEED: the statements are not yours to turn. If you find one false, say at which input.
  Laid BY PROGRAM, IN A SANDBOX (cutbox-rows.mjs): the forced cells as the released guide's own fill.sh prints them over the translation 78d09703e7ad22a2… (all of the seat's roots in one cut). By AI agents, Wed Nov 11 2026. No macro, syntax, notation, axiom, sorry.
-/
import Derived.Test.YtgfplmaehbhapaaChecked
import GoSem.Claim
import GoSem.ClaimJoined
import GoSem.ClaimMapViews
import Derived.JoinedTies
import Derived.KernelRfl
namespace Go.Proofs.Ytgfplmaehbhapaa
/- THE CELL 'sum', in the pinned program and in every row, IS THE sha256 OF THE DUMP (.gsa) THAT YtgfplmaehbhapaaProg.lean LOADS. Nothing in Lean hashes anything: it is a label: what it is worth is what the hold of that sum in a sandbox is worth. -/
noncomputable def Try.pinned : Pinned := { name := "ytgfplmaehbhapaa", sum := "78d09703e7ad22a2dd426b5f23171e71b883e97cab4579bd2f40971e4e07fca2", checked := Try.checked }
namespace Rows
def none {H : Type} : Left H := { results := [], args := [] }

/-- 'milepostlaw20.InterNext': WHATEVER THE INPUT: true; the input reads as it did. -/
def interNextSpec : ChangeSpec := { name := "interNext", fn := fun _ => fun
  | [d1, d2, d3] => { results := [.lit (.bool true)], args := [d1, d2, d3] }
  | _ => none }
def interNextRow : OpenClaim := { program := "ytgfplmaehbhapaa", sum := "78d09703e7ad22a2dd426b5f23171e71b883e97cab4579bd2f40971e4e07fca2", func := "milepost/milepostlaw20.InterNext", spec := "interNext", apart := false }
def InterNextSaid : Prop := interNextRow.holds Try.pinned (OpenSpec.ofChange interNextSpec)

/-- ITS FALSE NEIGHBOUR: 'it returns false'. Refute it at one input. -/
def interNextWrong : ChangeSpec := { name := "interNext", fn := fun _ => fun
  | [d1, d2, d3] => { results := [.lit (.bool false)], args := [d1, d2, d3] }
  | _ => none }
def InterNextWrongFalsely : Prop := interNextRow.holds Try.pinned (OpenSpec.ofChange interNextWrong)

/-- 'milepostlaw33.AnchorChecks': WHATEVER THE INPUT: true; the input reads as it did. -/
def anchorChecksSpec : ChangeSpec := { name := "anchorChecks", fn := fun _ => fun
  | [d1, d2] => { results := [.lit (.bool true)], args := [d1, d2] }
  | _ => none }
def anchorChecksRow : OpenClaim := { program := "ytgfplmaehbhapaa", sum := "78d09703e7ad22a2dd426b5f23171e71b883e97cab4579bd2f40971e4e07fca2", func := "milepost/milepostlaw33.AnchorChecks", spec := "anchorChecks", apart := false }
def AnchorChecksSaid : Prop := anchorChecksRow.holds Try.pinned (OpenSpec.ofChange anchorChecksSpec)

/-- ITS FALSE NEIGHBOUR: 'it returns false'. Refute it at one input. -/
def anchorChecksWrong : ChangeSpec := { name := "anchorChecks", fn := fun _ => fun
  | [d1, d2] => { results := [.lit (.bool false)], args := [d1, d2] }
  | _ => none }
def AnchorChecksWrongFalsely : Prop := anchorChecksRow.holds Try.pinned (OpenSpec.ofChange anchorChecksWrong)

/-- 'milepostlaw33.AnchorFirst': WHATEVER THE INPUT: true; the input reads as it did. -/
def anchorFirstSpec : ChangeSpec := { name := "anchorFirst", fn := fun _ => fun
  | [d1, d2] => { results := [.lit (.bool true)], args := [d1, d2] }
  | _ => none }
def anchorFirstRow : OpenClaim := { program := "ytgfplmaehbhapaa", sum := "78d09703e7ad22a2dd426b5f23171e71b883e97cab4579bd2f40971e4e07fca2", func := "milepost/milepostlaw33.AnchorFirst", spec := "anchorFirst", apart := false }
def AnchorFirstSaid : Prop := anchorFirstRow.holds Try.pinned (OpenSpec.ofChange anchorFirstSpec)

/-- ITS FALSE NEIGHBOUR: 'it returns false'. Refute it at one input. -/
def anchorFirstWrong : ChangeSpec := { name := "anchorFirst", fn := fun _ => fun
  | [d1, d2] => { results := [.lit (.bool false)], args := [d1, d2] }
  | _ => none }
def AnchorFirstWrongFalsely : Prop := anchorFirstRow.holds Try.pinned (OpenSpec.ofChange anchorFirstWrong)

/-- 'milepostlaw20.InterEntries': WHATEVER THE INPUT: true; the input reads as it did. -/
def interEntriesSpec : ChangeSpec := { name := "interEntries", fn := fun _ => fun
  | [d1, d2] => { results := [.lit (.bool true)], args := [d1, d2] }
  | _ => none }
def interEntriesRow : OpenClaim := { program := "ytgfplmaehbhapaa", sum := "78d09703e7ad22a2dd426b5f23171e71b883e97cab4579bd2f40971e4e07fca2", func := "milepost/milepostlaw20.InterEntries", spec := "interEntries", apart := false }
def InterEntriesSaid : Prop := interEntriesRow.holds Try.pinned (OpenSpec.ofChange interEntriesSpec)

/-- ITS FALSE NEIGHBOUR: 'it returns false'. Refute it at one input. -/
def interEntriesWrong : ChangeSpec := { name := "interEntries", fn := fun _ => fun
  | [d1, d2] => { results := [.lit (.bool false)], args := [d1, d2] }
  | _ => none }
def InterEntriesWrongFalsely : Prop := interEntriesRow.holds Try.pinned (OpenSpec.ofChange interEntriesWrong)

/-- 'milepostlaw20.InterKeeps': WHATEVER THE INPUT: true; the input reads as it did. -/
def interKeepsSpec : ChangeSpec := { name := "interKeeps", fn := fun _ => fun
  | [d1, d2, d3] => { results := [.lit (.bool true)], args := [d1, d2, d3] }
  | _ => none }
def interKeepsRow : OpenClaim := { program := "ytgfplmaehbhapaa", sum := "78d09703e7ad22a2dd426b5f23171e71b883e97cab4579bd2f40971e4e07fca2", func := "milepost/milepostlaw20.InterKeeps", spec := "interKeeps", apart := false }
def InterKeepsSaid : Prop := interKeepsRow.holds Try.pinned (OpenSpec.ofChange interKeepsSpec)

/-- ITS FALSE NEIGHBOUR: 'it returns false'. Refute it at one input. -/
def interKeepsWrong : ChangeSpec := { name := "interKeeps", fn := fun _ => fun
  | [d1, d2, d3] => { results := [.lit (.bool false)], args := [d1, d2, d3] }
  | _ => none }
def InterKeepsWrongFalsely : Prop := interKeepsRow.holds Try.pinned (OpenSpec.ofChange interKeepsWrong)

/-- 'milepostlaw26.NearAll': WHATEVER THE INPUT: true; the input reads as it did. -/
def nearAllSpec : ChangeSpec := { name := "nearAll", fn := fun _ => fun
  | [d1, d2] => { results := [.lit (.bool true)], args := [d1, d2] }
  | _ => none }
def nearAllRow : OpenClaim := { program := "ytgfplmaehbhapaa", sum := "78d09703e7ad22a2dd426b5f23171e71b883e97cab4579bd2f40971e4e07fca2", func := "milepost/milepostlaw26.NearAll", spec := "nearAll", apart := false }
def NearAllSaid : Prop := nearAllRow.holds Try.pinned (OpenSpec.ofChange nearAllSpec)

/-- ITS FALSE NEIGHBOUR: 'it returns false'. Refute it at one input. -/
def nearAllWrong : ChangeSpec := { name := "nearAll", fn := fun _ => fun
  | [d1, d2] => { results := [.lit (.bool false)], args := [d1, d2] }
  | _ => none }
def NearAllWrongFalsely : Prop := nearAllRow.holds Try.pinned (OpenSpec.ofChange nearAllWrong)

/- THE SECOND FORM. 'bulk': how many values and letters a reading holds, each counted each time it is reached (what is shared counts as often as it is met; a slice's spare places count too). A statement '..UptoSaid' is the law's where the arguments, and the package variables that the reading takes, are together of bulk at most 1048576: NARROWER than '..Said'. Prove '..Said' where nothing that the law and all that it calls make is longer than what came in: it says more and counts as full. Else prove '..UptoSaid'. A law counts once. -/
mutual
def uptoBulk {H : Type} : DataW H → Nat
  | .lit (.string bytes) => bytes.length + 1
  | .lit _ => 1
  | .nil => 1
  | .ptr d => uptoBulk d + 1
  | .slice elems spare => uptoBulkAll elems + uptoBulkAll spare + 1
  | .agg parts => uptoBulkAll parts + 1
  | .iface _ d => uptoBulk d + 1
  | .map entries => uptoBulkEntries entries + 1
  | .held _ => 1
def uptoBulkAll {H : Type} : List (DataW H) → Nat
  | [] => 0
  | d :: r => uptoBulk d + uptoBulkAll r
def uptoBulkEntries {H : Type} : List (Lit × DataW H) → Nat
  | [] => 0
  | x :: r => uptoBulkEntry x + uptoBulkEntries r
def uptoBulkEntry {H : Type} : Lit × DataW H → Nat
  | (.string bytes, d) => bytes.length + uptoBulk d + 1
  | (_, d) => uptoBulk d + 1
 end
def uptoSmall : (H : Type) → List (DataW H) → Bool := fun _ ds => decide (uptoBulkAll ds ≤ 1048576)
def OpenSpec.upto (s : _root_.Go.ChangeSpec) : _root_.Go.OpenSpec := { _root_.Go.OpenSpec.ofChange s with cond := some uptoSmall }

/-- 'milepostlaw20.InterNext', WHERE WHAT IT READS IS OF BULK AT MOST 1048576: true; the input reads as it did. -/
def interNextUptoRow : OpenClaim := { program := "ytgfplmaehbhapaa", sum := "78d09703e7ad22a2dd426b5f23171e71b883e97cab4579bd2f40971e4e07fca2", func := "milepost/milepostlaw20.InterNext", spec := "interNext", apart := false, narrowed := true }
def InterNextUptoSaid : Prop := interNextUptoRow.holds Try.pinned (OpenSpec.upto interNextSpec)

/-- 'milepostlaw33.AnchorChecks', WHERE WHAT IT READS IS OF BULK AT MOST 1048576: true; the input reads as it did. -/
def anchorChecksUptoRow : OpenClaim := { program := "ytgfplmaehbhapaa", sum := "78d09703e7ad22a2dd426b5f23171e71b883e97cab4579bd2f40971e4e07fca2", func := "milepost/milepostlaw33.AnchorChecks", spec := "anchorChecks", apart := false, narrowed := true }
def AnchorChecksUptoSaid : Prop := anchorChecksUptoRow.holds Try.pinned (OpenSpec.upto anchorChecksSpec)

/-- 'milepostlaw33.AnchorFirst', WHERE WHAT IT READS IS OF BULK AT MOST 1048576: true; the input reads as it did. -/
def anchorFirstUptoRow : OpenClaim := { program := "ytgfplmaehbhapaa", sum := "78d09703e7ad22a2dd426b5f23171e71b883e97cab4579bd2f40971e4e07fca2", func := "milepost/milepostlaw33.AnchorFirst", spec := "anchorFirst", apart := false, narrowed := true }
def AnchorFirstUptoSaid : Prop := anchorFirstUptoRow.holds Try.pinned (OpenSpec.upto anchorFirstSpec)

/-- 'milepostlaw20.InterEntries', WHERE WHAT IT READS IS OF BULK AT MOST 1048576: true; the input reads as it did. -/
def interEntriesUptoRow : OpenClaim := { program := "ytgfplmaehbhapaa", sum := "78d09703e7ad22a2dd426b5f23171e71b883e97cab4579bd2f40971e4e07fca2", func := "milepost/milepostlaw20.InterEntries", spec := "interEntries", apart := false, narrowed := true }
def InterEntriesUptoSaid : Prop := interEntriesUptoRow.holds Try.pinned (OpenSpec.upto interEntriesSpec)

/-- 'milepostlaw20.InterKeeps', WHERE WHAT IT READS IS OF BULK AT MOST 1048576: true; the input reads as it did. -/
def interKeepsUptoRow : OpenClaim := { program := "ytgfplmaehbhapaa", sum := "78d09703e7ad22a2dd426b5f23171e71b883e97cab4579bd2f40971e4e07fca2", func := "milepost/milepostlaw20.InterKeeps", spec := "interKeeps", apart := false, narrowed := true }
def InterKeepsUptoSaid : Prop := interKeepsUptoRow.holds Try.pinned (OpenSpec.upto interKeepsSpec)

/-- 'milepostlaw26.NearAll', WHERE WHAT IT READS IS OF BULK AT MOST 1048576: true; the input reads as it did. -/
def nearAllUptoRow : OpenClaim := { program := "ytgfplmaehbhapaa", sum := "78d09703e7ad22a2dd426b5f23171e71b883e97cab4579bd2f40971e4e07fca2", func := "milepost/milepostlaw26.NearAll", spec := "nearAll", apart := false, narrowed := true }
def NearAllUptoSaid : Prop := nearAllUptoRow.holds Try.pinned (OpenSpec.upto nearAllSpec)

end Rows
end Go.Proofs.Ytgfplmaehbhapaa

/- The functions, and what the evaluator is told of them: printed by gen.py. -/
import Derived.Test.YtogehijjhibdkaaGreatEvT3
import Derived.Test.YtogehijjhibdkaaGreatProg
import Derived.KernelRfl
namespace Go.Proofs.YtogehijjhibdkaaGreat.Ev
open Go Go.RowKit
set_option maxRecDepth 100000


noncomputable def bodyOf (f : Func) : Code := f.body.getD .skip

def sub : List Nat → Code → Code
  | [], c => c
  | i :: r, .seq x y => sub r (bif Nat.beq i 0 then x else y)
  | i :: r, .cond _ x y => sub r (bif Nat.beq i 0 then x else y)
  | _ :: r, .block _ c => sub r c
  | _ :: r, .loop c => sub r c
  | _, c => c

theorem runE_succ {G : Env} {ext : Run} {n : Nat} {f : FuncId} {i : FnInfo} {xs : List AV} (h : assoc G.fns f = some i) (hx : i.ext = false) : runE G ext (n + 1) f xs = evalK G (runE G ext n) n i.keep 0 i.body (retE G i) (i.start xs) := by
  simp only [runE, h, hx, cond_false]

/- strings.Join: by its contract -/
noncomputable def f195_body : Code := bodyOf Tryz.f195
noncomputable def f195_info : FnInfo := ⟨[.val (.slice .str), .val .str], [.val .str], 75, [.tmp 4], f195_body, [], false, true⟩

/- strings.Repeat: by its contract -/
noncomputable def f211_body : Code := bodyOf Tryz.f211
noncomputable def f211_info : FnInfo := ⟨[.val .str, .val (.int .i64)], [.val .str], 125, [.tmp 4], f211_body, [], false, true⟩

/- milepost/shape.Sides: by its contract -/
noncomputable def f190_body : Code := bodyOf Tryz.f190
noncomputable def f190_info : FnInfo := ⟨[.val (.int .i64), .val (.int .i64)], [.val (.slice .bool)], 22, [.tmp 4], f190_body, [], true, true⟩

/- milepost/up.Places: by its contract -/
noncomputable def f46_body : Code := bodyOf Tryz.f46
noncomputable def f46_info : FnInfo := ⟨[.val (.slice (.int .i64)), .val (.int .i64), .val (.int .i64)], [.val (.slice (.int .i64))], 19, [.tmp 6], f46_body, [], true, true⟩

/- milepost/way.Between: by its contract -/
noncomputable def f27_body : Code := bodyOf Tryz.f27
noncomputable def f27_info : FnInfo := ⟨[.val (.slice (.int .i64)), .val (.int .i64), .val (.int .i64), .val (.int .i64)], [.val (.slice (.int .i64))], 51, [.tmp 8], f27_body, [], false, true⟩

/- milepost/milepostlaw22.Much -/
noncomputable def f37_body : Code := bodyOf Tryz.f37
def f37_fresh : Bool := false
def f37_t0 : List Nat := [0, 3, 4]
def f37_o0 : List Nat := []
def f37_keep : List (Nat × (List Nat × List Nat)) := [(0, (f37_t0, f37_o0))]
noncomputable def f37_info : FnInfo := ⟨[.val (.slice .str)], [.val .bool], 41, [.tmp 2], f37_body, f37_keep, f37_fresh, false⟩

/- milepost/milepostlaw24.Much -/
noncomputable def f9_body : Code := bodyOf Tryz.f9
def f9_fresh : Bool := false
def f9_t0 : List Nat := [0, 3, 4]
def f9_o0 : List Nat := []
def f9_keep : List (Nat × (List Nat × List Nat)) := [(0, (f9_t0, f9_o0))]
noncomputable def f9_info : FnInfo := ⟨[.val (.slice (.struct [(.struct [(.int .u32), (.blob 32), (.blob 32), (.int .u64)]), (.slice .str)]))], [.val .bool], 36, [.tmp 2], f9_body, f9_keep, f9_fresh, false⟩

/- milepost/within.place -/
noncomputable def f69_body : Code := bodyOf Tryz.f69
def f69_fresh : Bool := false
def f69_keep : List (Nat × (List Nat × List Nat)) := []
noncomputable def f69_info : FnInfo := ⟨[.val (.int .i64), .val (.struct [(.int .i64), (.slice (.struct [(.struct [(.int .u32), (.blob 32), (.blob 32), (.int .u64)]), (.struct [(.int .i64), (.int .i64), (.slice (.blob 32))])])), (.struct [(.int .i64), (.int .i64), (.slice (.blob 32))]), (.int .i64), .str, (.struct [(.int .i64), (.int .i64), (.slice (.blob 32))])])], [.val (.int .i64)], 44, [.tmp 4], f69_body, f69_keep, f69_fresh, false⟩

/- milepost/within.Block -/
noncomputable def f35_body : Code := bodyOf Tryz.f35
def f35_fresh : Bool := false
def f35_keep : List (Nat × (List Nat × List Nat)) := []
noncomputable def f35_info : FnInfo := ⟨[.val (.slice (.struct [(.struct [(.int .u32), (.blob 32), (.blob 32), (.int .u64)]), (.struct [(.int .i64), (.int .i64), (.slice (.blob 32))])])), .val (.struct [(.int .i64), (.slice (.struct [(.struct [(.int .u32), (.blob 32), (.blob 32), (.int .u64)]), (.struct [(.int .i64), (.int .i64), (.slice (.blob 32))])])), (.struct [(.int .i64), (.int .i64), (.slice (.blob 32))]), (.int .i64), .str, (.struct [(.int .i64), (.int .i64), (.slice (.blob 32))])])], [.val (.struct [(.int .u32), (.blob 32), (.blob 32), (.int .u64)]), .val .bool], 31, [.cell 4 27, .tmp 5], f35_body, f35_keep, f35_fresh, false⟩

/- milepost/open.Same -/
noncomputable def f135_body : Code := bodyOf Tryz.f135
def f135_fresh : Bool := false
def f135_t0 : List Nat := [2, 3, 29, 30]
def f135_o0 : List Nat := [2, 3]
def f135_keep : List (Nat × (List Nat × List Nat)) := [(0, (f135_t0, f135_o0))]
noncomputable def f135_info : FnInfo := ⟨[.val (.struct [(.int .i64), (.int .i64), (.slice (.blob 32))]), .val (.struct [(.int .i64), (.int .i64), (.slice (.blob 32))])], [.val .bool], 45, [.tmp 4], f135_body, f135_keep, f135_fresh, false⟩

/- milepost/open.None -/
noncomputable def f103_body : Code := bodyOf Tryz.f103
def f103_fresh : Bool := false
def f103_keep : List (Nat × (List Nat × List Nat)) := []
noncomputable def f103_info : FnInfo := ⟨[.val (.struct [(.int .i64), (.int .i64), (.slice (.blob 32))])], [.val .bool], 6, [.tmp 2], f103_body, f103_keep, f103_fresh, false⟩

/- milepost/rise.Above -/
noncomputable def f33_body : Code := bodyOf Tryz.f33
def f33_fresh : Bool := false
def f33_keep : List (Nat × (List Nat × List Nat)) := []
noncomputable def f33_info : FnInfo := ⟨[.val (.struct [(.int .u32), (.blob 32), (.blob 32), (.int .u64)]), .val (.struct [(.int .u32), (.blob 32), (.blob 32), (.int .u64)])], [.val .bool], 10, [.tmp 4], f33_body, f33_keep, f33_fresh, false⟩

/- milepost/word.put -/
noncomputable def f174_body : Code := bodyOf Tryz.f174
def f174_fresh : Bool := false
def f174_t0 : List Nat := [0, 1, 5, 9, 10]
def f174_o0 : List Nat := [8]
def f174_keep : List (Nat × (List Nat × List Nat)) := [(0, (f174_t0, f174_o0))]
noncomputable def f174_info : FnInfo := ⟨[.val (.int .u64), .val (.int .i64)], [.val .str], 26, [.tmp 4], f174_body, f174_keep, f174_fresh, false⟩

/- milepost/word.Put32 -/
noncomputable def f144_body : Code := bodyOf Tryz.f144
def f144_fresh : Bool := false
def f144_keep : List (Nat × (List Nat × List Nat)) := []
noncomputable def f144_info : FnInfo := ⟨[.val (.int .u32)], [.val .str], 6, [.tmp 2], f144_body, f144_keep, f144_fresh, false⟩

/- milepost/word.Put64 -/
noncomputable def f145_body : Code := bodyOf Tryz.f145
def f145_fresh : Bool := false
def f145_keep : List (Nat × (List Nat × List Nat)) := []
noncomputable def f145_info : FnInfo := ⟨[.val (.int .u64)], [.val .str], 5, [.tmp 2], f145_body, f145_keep, f145_fresh, false⟩

/- milepost/head.Bytes -/
noncomputable def f115_body : Code := bodyOf Tryz.f115
def f115_fresh : Bool := false
def f115_keep : List (Nat × (List Nat × List Nat)) := []
noncomputable def f115_info : FnInfo := ⟨[.val (.struct [(.int .u32), (.blob 32), (.blob 32), (.int .u64)])], [.val .str], 18, [.tmp 2], f115_body, f115_keep, f115_fresh, false⟩

/- milepost/tag.Text -/
noncomputable def f173_body : Code := bodyOf Tryz.f173
def f173_fresh : Bool := false
def f173_keep : List (Nat × (List Nat × List Nat)) := []
noncomputable def f173_info : FnInfo := ⟨[.val (.int .u8), .val (.slice .str)], [.val .str], 11, [.tmp 4], f173_body, f173_keep, f173_fresh, false⟩

/- milepost/tag.HeaderText -/
noncomputable def f143_body : Code := bodyOf Tryz.f143
def f143_fresh : Bool := false
def f143_keep : List (Nat × (List Nat × List Nat)) := []
noncomputable def f143_info : FnInfo := ⟨[.val .str], [.val .str], 6, [.tmp 2], f143_body, f143_keep, f143_fresh, false⟩

/- milepost/sha.New -/
noncomputable def f170_body : Code := bodyOf Tryz.f170
def f170_fresh : Bool := false
def f170_keep : List (Nat × (List Nat × List Nat)) := []
noncomputable def f170_info : FnInfo := ⟨[], [.ptr (.struct [(.arr 8 (.int .u32)), .str, (.int .u64), .bool])], 3, [.tmp 0], f170_body, f170_keep, f170_fresh, false⟩

/- milepost/sha.First -/
noncomputable def f192_body : Code := bodyOf Tryz.f192
def f192_fresh : Bool := false
def f192_keep : List (Nat × (List Nat × List Nat)) := []
noncomputable def f192_info : FnInfo := ⟨[], [.val (.arr 8 (.int .u32))], 2, [.cell 0 184], f192_body, f192_keep, f192_fresh, false⟩

/- milepost/word.take -/
noncomputable def f141_body : Code := bodyOf Tryz.f141
def f141_fresh : Bool := false
def f141_t0 : List Nat := [0, 1, 7, 9, 10]
def f141_o0 : List Nat := []
def f141_keep : List (Nat × (List Nat × List Nat)) := [(0, (f141_t0, f141_o0))]
noncomputable def f141_info : FnInfo := ⟨[.val .str, .val (.int .i64), .val (.int .i64)], [.val (.int .u64)], 41, [.tmp 6], f141_body, f141_keep, f141_fresh, false⟩

/- milepost/word.Take32 -/
noncomputable def f218_body : Code := bodyOf Tryz.f218
def f218_fresh : Bool := false
def f218_keep : List (Nat × (List Nat × List Nat)) := []
noncomputable def f218_info : FnInfo := ⟨[.val .str, .val (.int .i64)], [.val (.int .u32)], 9, [.tmp 4], f218_body, f218_keep, f218_fresh, false⟩

/- milepost/word.Rot -/
noncomputable def f210_body : Code := bodyOf Tryz.f210
def f210_fresh : Bool := false
def f210_keep : List (Nat × (List Nat × List Nat)) := []
noncomputable def f210_info : FnInfo := ⟨[.val (.int .u32), .val (.int .i64)], [.val (.int .u32)], 17, [.tmp 4], f210_body, f210_keep, f210_fresh, false⟩

/- milepost/sha.Spread -/
noncomputable def f208_body : Code := bodyOf Tryz.f208
def f208_fresh : Bool := false
def f208_t0 : List Nat := [0, 2, 3, 9]
def f208_o0 : List Nat := [2, 3]
def f208_keep : List (Nat × (List Nat × List Nat)) := [(0, (f208_t0, f208_o0))]
noncomputable def f208_info : FnInfo := ⟨[.val .str], [.val (.arr 64 (.int .u32))], 61, [.cell 2 175], f208_body, f208_keep, f208_fresh, false⟩

/- milepost/sha.rounds -/
noncomputable def f209_body : Code := bodyOf Tryz.f209
def f209_fresh : Bool := false
def f209_keep : List (Nat × (List Nat × List Nat)) := []
noncomputable def f209_info : FnInfo := ⟨[], [.val (.arr 64 (.int .u32))], 2, [.cell 0 175], f209_body, f209_keep, f209_fresh, false⟩

/- milepost/sha.Mix -/
noncomputable def f193_body : Code := bodyOf Tryz.f193
def f193_fresh : Bool := false
def f193_t0 : List Nat := [2, 4, 5, 6, 7, 18]
def f193_o0 : List Nat := [2, 4, 5, 6, 7]
def f193_t2 : List Nat := [2, 4, 7, 109]
def f193_o2 : List Nat := [2, 4, 7]
def f193_keep : List (Nat × (List Nat × List Nat)) := [(0, (f193_t0, f193_o0)), (2, (f193_t2, f193_o2))]
noncomputable def f193_info : FnInfo := ⟨[.val (.arr 8 (.int .u32)), .val .str], [.val (.arr 8 (.int .u32))], 122, [.cell 4 184], f193_body, f193_keep, f193_fresh, false⟩

/- (*milepost/sha.State).Write -/
noncomputable def f171_body : Code := bodyOf Tryz.f171
def f171_fresh : Bool := false
def f171_t0 : List Nat := [0, 4]
def f171_o0 : List Nat := [0]
def f171_keep : List (Nat × (List Nat × List Nat)) := [(0, (f171_t0, f171_o0))]
noncomputable def f171_info : FnInfo := ⟨[.ptr (.struct [(.arr 8 (.int .u32)), .str, (.int .u64), .bool]), .val .str], [], 72, [], f171_body, f171_keep, f171_fresh, false⟩

/- milepost/sha.Pad -/
noncomputable def f194_body : Code := bodyOf Tryz.f194
def f194_fresh : Bool := false
def f194_keep : List (Nat × (List Nat × List Nat)) := []
noncomputable def f194_info : FnInfo := ⟨[.val (.int .u64)], [.val .str], 16, [.tmp 2], f194_body, f194_keep, f194_fresh, false⟩

/- (*milepost/sha.State).Sum -/
noncomputable def f172_body : Code := bodyOf Tryz.f172
def f172_fresh : Bool := false
def f172_t0 : List Nat := [0, 2, 4, 18, 19]
def f172_o0 : List Nat := [0, 2, 4]
def f172_keep : List (Nat × (List Nat × List Nat)) := [(0, (f172_t0, f172_o0))]
noncomputable def f172_info : FnInfo := ⟨[.ptr (.struct [(.arr 8 (.int .u32)), .str, (.int .u64), .bool])], [.val (.blob 32)], 37, [.cell 2 24], f172_body, f172_keep, f172_fresh, false⟩

/- milepost/sha.Sum -/
noncomputable def f142_body : Code := bodyOf Tryz.f142
def f142_fresh : Bool := false
def f142_keep : List (Nat × (List Nat × List Nat)) := []
noncomputable def f142_info : FnInfo := ⟨[.val .str], [.val (.blob 32)], 10, [.cell 2 24], f142_body, f142_keep, f142_fresh, false⟩

/- milepost/tag.HeaderSum -/
noncomputable def f114_body : Code := bodyOf Tryz.f114
def f114_fresh : Bool := false
def f114_keep : List (Nat × (List Nat × List Nat)) := []
noncomputable def f114_info : FnInfo := ⟨[.val .str], [.val (.blob 32)], 6, [.cell 2 24], f114_body, f114_keep, f114_fresh, false⟩

/- milepost/ident.Id -/
noncomputable def f79_body : Code := bodyOf Tryz.f79
def f79_fresh : Bool := false
def f79_keep : List (Nat × (List Nat × List Nat)) := []
noncomputable def f79_info : FnInfo := ⟨[.val (.struct [(.int .u32), (.blob 32), (.blob 32), (.int .u64)])], [.val (.blob 32)], 6, [.cell 2 24], f79_body, f79_keep, f79_fresh, false⟩

/- milepost/word.Take64 -/
noncomputable def f113_body : Code := bodyOf Tryz.f113
def f113_fresh : Bool := false
def f113_keep : List (Nat × (List Nat × List Nat)) := []
noncomputable def f113_info : FnInfo := ⟨[.val .str, .val (.int .i64)], [.val (.int .u64)], 8, [.tmp 4], f113_body, f113_keep, f113_fresh, false⟩

/- milepost/wide.Of -/
noncomputable def f76_body : Code := bodyOf Tryz.f76
def f76_fresh : Bool := false
def f76_t0 : List Nat := [1, 2, 3, 5]
def f76_o0 : List Nat := [1, 2, 3]
def f76_keep : List (Nat × (List Nat × List Nat)) := [(0, (f76_t0, f76_o0))]
noncomputable def f76_info : FnInfo := ⟨[.val (.blob 32)], [.val (.arr 4 (.int .u64))], 18, [.cell 2 111], f76_body, f76_keep, f76_fresh, false⟩

/- milepost/wide.Cmp -/
noncomputable def f77_body : Code := bodyOf Tryz.f77
def f77_fresh : Bool := false
def f77_t0 : List Nat := [2, 3, 8]
def f77_o0 : List Nat := [2, 3]
def f77_keep : List (Nat × (List Nat × List Nat)) := [(0, (f77_t0, f77_o0))]
noncomputable def f77_info : FnInfo := ⟨[.val (.arr 4 (.int .u64)), .val (.arr 4 (.int .u64))], [.val (.int .i64)], 28, [.tmp 4], f77_body, f77_keep, f77_fresh, false⟩

/- milepost/work.Ok -/
noncomputable def f73_body : Code := bodyOf Tryz.f73
def f73_fresh : Bool := false
def f73_keep : List (Nat × (List Nat × List Nat)) := []
noncomputable def f73_info : FnInfo := ⟨[.val (.blob 32), .val (.blob 32)], [.val .bool], 11, [.tmp 4], f73_body, f73_keep, f73_fresh, false⟩

/- milepost/link.Text -/
noncomputable def f149_body : Code := bodyOf Tryz.f149
def f149_fresh : Bool := false
def f149_keep : List (Nat × (List Nat × List Nat)) := []
noncomputable def f149_info : FnInfo := ⟨[.val (.blob 32)], [.val .str], 6, [.tmp 2], f149_body, f149_keep, f149_fresh, false⟩

/- milepost/shape.Depth -/
noncomputable def f189_body : Code := bodyOf Tryz.f189
def f189_fresh : Bool := false
def f189_keep : List (Nat × (List Nat × List Nat)) := []
noncomputable def f189_info : FnInfo := ⟨[.val (.int .i64), .val (.int .i64)], [.val (.int .i64)], 16, [.tmp 4], f189_body, f189_keep, f189_fresh, false⟩

/- milepost/hold.May -/
noncomputable def f166_body : Code := bodyOf Tryz.f166
def f166_fresh : Bool := false
def f166_keep : List (Nat × (List Nat × List Nat)) := []
noncomputable def f166_info : FnInfo := ⟨[.val (.struct [(.int .i64), (.int .i64), (.slice (.blob 32))])], [.val (.int .i64)], 34, [.tmp 2], f166_body, f166_keep, f166_fresh, false⟩

/- milepost/tag.LeafText -/
noncomputable def f188_body : Code := bodyOf Tryz.f188
def f188_fresh : Bool := false
def f188_keep : List (Nat × (List Nat × List Nat)) := []
noncomputable def f188_info : FnInfo := ⟨[.val .str], [.val .str], 6, [.tmp 2], f188_body, f188_keep, f188_fresh, false⟩

/- milepost/tag.LeafSum -/
noncomputable def f165_body : Code := bodyOf Tryz.f165
def f165_fresh : Bool := false
def f165_keep : List (Nat × (List Nat × List Nat)) := []
noncomputable def f165_info : FnInfo := ⟨[.val .str], [.val (.blob 32)], 6, [.cell 2 24], f165_body, f165_keep, f165_fresh, false⟩

/- milepost/tag.NodeText -/
noncomputable def f205_body : Code := bodyOf Tryz.f205
def f205_fresh : Bool := false
def f205_keep : List (Nat × (List Nat × List Nat)) := []
noncomputable def f205_info : FnInfo := ⟨[.val (.blob 32), .val (.blob 32)], [.val .str], 11, [.tmp 4], f205_body, f205_keep, f205_fresh, false⟩

/- milepost/tag.NodeSum -/
noncomputable def f187_body : Code := bodyOf Tryz.f187
def f187_fresh : Bool := false
def f187_keep : List (Nat × (List Nat × List Nat)) := []
noncomputable def f187_info : FnInfo := ⟨[.val (.blob 32), .val (.blob 32)], [.val (.blob 32)], 9, [.cell 4 24], f187_body, f187_keep, f187_fresh, false⟩

/- milepost/hold.Up -/
noncomputable def f167_body : Code := bodyOf Tryz.f167
def f167_fresh : Bool := true
def f167_t0 : List Nat := [3, 5, 6, 20, 21, 22]
def f167_o0 : List Nat := [3, 5]
def f167_keep : List (Nat × (List Nat × List Nat)) := [(0, (f167_t0, f167_o0))]
noncomputable def f167_info : FnInfo := ⟨[.val .str, .val (.struct [(.int .i64), (.int .i64), (.slice (.blob 32))])], [.val (.slice (.blob 32))], 48, [.tmp 4], f167_body, f167_keep, f167_fresh, false⟩

/- milepost/tag.RootText -/
noncomputable def f191_body : Code := bodyOf Tryz.f191
def f191_fresh : Bool := false
def f191_keep : List (Nat × (List Nat × List Nat)) := []
noncomputable def f191_info : FnInfo := ⟨[.val (.int .u64), .val (.blob 32)], [.val .str], 11, [.tmp 4], f191_body, f191_keep, f191_fresh, false⟩

/- milepost/tag.RootSum -/
noncomputable def f168_body : Code := bodyOf Tryz.f168
def f168_fresh : Bool := false
def f168_keep : List (Nat × (List Nat × List Nat)) := []
noncomputable def f168_info : FnInfo := ⟨[.val (.int .u64), .val (.blob 32)], [.val (.blob 32)], 9, [.cell 4 24], f168_body, f168_keep, f168_fresh, false⟩

/- milepost/hold.Root -/
noncomputable def f138_body : Code := bodyOf Tryz.f138
def f138_fresh : Bool := false
def f138_keep : List (Nat × (List Nat × List Nat)) := []
noncomputable def f138_info : FnInfo := ⟨[.val .str, .val (.struct [(.int .i64), (.int .i64), (.slice (.blob 32))])], [.val (.blob 32), .val (.int .i64)], 27, [.cell 4 24, .tmp 5], f138_body, f138_keep, f138_fresh, false⟩

/- milepost/hold.Check -/
noncomputable def f110_body : Code := bodyOf Tryz.f110
def f110_fresh : Bool := false
def f110_keep : List (Nat × (List Nat × List Nat)) := []
noncomputable def f110_info : FnInfo := ⟨[.val (.blob 32), .val .str, .val (.struct [(.int .i64), (.int .i64), (.slice (.blob 32))])], [.val .bool], 22, [.tmp 6], f110_body, f110_keep, f110_fresh, false⟩

/- milepost/link.Check -/
noncomputable def f136_body : Code := bodyOf Tryz.f136
def f136_fresh : Bool := false
def f136_keep : List (Nat × (List Nat × List Nat)) := []
noncomputable def f136_info : FnInfo := ⟨[.val (.blob 32), .val (.blob 32), .val (.struct [(.int .i64), (.int .i64), (.slice (.blob 32))])], [.val .bool], 17, [.tmp 6], f136_body, f136_keep, f136_fresh, false⟩

/- milepost/join.Holds -/
noncomputable def f107_body : Code := bodyOf Tryz.f107
def f107_fresh : Bool := false
def f107_keep : List (Nat × (List Nat × List Nat)) := []
noncomputable def f107_info : FnInfo := ⟨[.val (.struct [(.struct [(.int .u32), (.blob 32), (.blob 32), (.int .u64)]), (.struct [(.int .i64), (.int .i64), (.slice (.blob 32))])]), .val (.struct [(.int .u32), (.blob 32), (.blob 32), (.int .u64)])], [.val .bool], 13, [.tmp 4], f107_body, f107_keep, f107_fresh, false⟩

/- milepost/within.one -/
noncomputable def f109_body : Code := bodyOf Tryz.f109
def f109_fresh : Bool := false
def f109_keep : List (Nat × (List Nat × List Nat)) := []
noncomputable def f109_info : FnInfo := ⟨[.val (.blob 32), .val (.struct [(.struct [(.int .u32), (.blob 32), (.blob 32), (.int .u64)]), (.struct [(.int .i64), (.int .i64), (.slice (.blob 32))])]), .val (.struct [(.int .u32), (.blob 32), (.blob 32), (.int .u64)]), .val (.int .u32)], [.val (.int .i64)], 34, [.tmp 8], f109_body, f109_keep, f109_fresh, false⟩

/- milepost/within.inner -/
noncomputable def f70_body : Code := bodyOf Tryz.f70
def f70_fresh : Bool := false
def f70_t0 : List Nat := [3, 5, 7, 8, 34, 35, 36]
def f70_o0 : List Nat := [3, 5, 7, 8]
def f70_keep : List (Nat × (List Nat × List Nat)) := [(0, (f70_t0, f70_o0))]
noncomputable def f70_info : FnInfo := ⟨[.val (.blob 32), .val (.slice (.struct [(.struct [(.int .u32), (.blob 32), (.blob 32), (.int .u64)]), (.struct [(.int .i64), (.int .i64), (.slice (.blob 32))])])), .val (.struct [(.int .i64), (.slice (.struct [(.struct [(.int .u32), (.blob 32), (.blob 32), (.int .u64)]), (.struct [(.int .i64), (.int .i64), (.slice (.blob 32))])])), (.struct [(.int .i64), (.int .i64), (.slice (.blob 32))]), (.int .i64), .str, (.struct [(.int .i64), (.int .i64), (.slice (.blob 32))])])], [.val (.int .i64)], 59, [.tmp 6], f70_body, f70_keep, f70_fresh, false⟩

/- milepost/txs.Text -/
noncomputable def f111_body : Code := bodyOf Tryz.f111
def f111_fresh : Bool := false
def f111_keep : List (Nat × (List Nat × List Nat)) := []
noncomputable def f111_info : FnInfo := ⟨[.val .str], [.val .str], 5, [.tmp 2], f111_body, f111_keep, f111_fresh, false⟩

/- milepost/txs.Check -/
noncomputable def f71_body : Code := bodyOf Tryz.f71
def f71_fresh : Bool := false
def f71_keep : List (Nat × (List Nat × List Nat)) := []
noncomputable def f71_info : FnInfo := ⟨[.val (.blob 32), .val .str, .val (.struct [(.int .i64), (.int .i64), (.slice (.blob 32))])], [.val .bool], 22, [.tmp 6], f71_body, f71_keep, f71_fresh, false⟩

/- milepost/within.Check -/
noncomputable def f36_body : Code := bodyOf Tryz.f36
def f36_fresh : Bool := false
def f36_keep : List (Nat × (List Nat × List Nat)) := []
noncomputable def f36_info : FnInfo := ⟨[.val (.blob 32), .val (.slice (.struct [(.struct [(.int .u32), (.blob 32), (.blob 32), (.int .u64)]), (.struct [(.int .i64), (.int .i64), (.slice (.blob 32))])])), .val (.struct [(.int .i64), (.slice (.struct [(.struct [(.int .u32), (.blob 32), (.blob 32), (.int .u64)]), (.struct [(.int .i64), (.int .i64), (.slice (.blob 32))])])), (.struct [(.int .i64), (.int .i64), (.slice (.blob 32))]), (.int .i64), .str, (.struct [(.int .i64), (.int .i64), (.slice (.blob 32))])])], [.val (.int .i64)], 39, [.tmp 6], f36_body, f36_keep, f36_fresh, false⟩

/- milepost/milepostlaw50.awake -/
noncomputable def f34_body : Code := bodyOf Tryz.f34
def f34_fresh : Bool := false
def f34_keep : List (Nat × (List Nat × List Nat)) := []
noncomputable def f34_info : FnInfo := ⟨[], [.val .bool], 23, [.tmp 0], f34_body, f34_keep, f34_fresh, false⟩

/- milepost/ratio.May -/
noncomputable def f38_body : Code := bodyOf Tryz.f38
def f38_fresh : Bool := false
def f38_keep : List (Nat × (List Nat × List Nat)) := []
noncomputable def f38_info : FnInfo := ⟨[.val (.int .i64), .val (.int .i64)], [.val .bool], 16, [.tmp 4], f38_body, f38_keep, f38_fresh, false⟩

/- milepost/pick.May -/
noncomputable def f10_body : Code := bodyOf Tryz.f10
def f10_fresh : Bool := false
def f10_keep : List (Nat × (List Nat × List Nat)) := []
noncomputable def f10_info : FnInfo := ⟨[.val (.int .i64), .val (.int .i64), .val (.int .i64), .val (.int .i64)], [.val .bool], 28, [.tmp 8], f10_body, f10_keep, f10_fresh, false⟩

/- milepost/chain.id -/
noncomputable def f44_body : Code := bodyOf Tryz.f44
def f44_fresh : Bool := false
def f44_keep : List (Nat × (List Nat × List Nat)) := []
noncomputable def f44_info : FnInfo := ⟨[.val (.struct [(.struct [(.int .u32), (.blob 32), (.blob 32), (.int .u64)]), (.slice .str)])], [.val (.blob 32)], 6, [.cell 2 24], f44_body, f44_keep, f44_fresh, false⟩

/- (milepost/chain.look).work -/
noncomputable def f41_body : Code := bodyOf Tryz.f41
def f41_fresh : Bool := false
def f41_keep : List (Nat × (List Nat × List Nat)) := []
noncomputable def f41_info : FnInfo := ⟨[.val (.struct [(.struct [(.struct [(.int .u32), (.blob 32), (.blob 32), (.int .u64)]), (.blob 32), (.int .i64), (.int .i64), (.int .i64), (.int .i64), (.int .i64), (.int .i64)]), (.int .i64), (.struct [(.struct [(.int .u32), (.blob 32), (.blob 32), (.int .u64)]), (.slice .str)]), (.slice (.blob 32))])], [.val (.int .i64)], 11, [.tmp 2], f41_body, f41_keep, f41_fresh, false⟩

/- milepost/txs.May -/
noncomputable def f97_body : Code := bodyOf Tryz.f97
def f97_fresh : Bool := false
def f97_t0 : List Nat := [8, 9, 10]
def f97_o0 : List Nat := []
def f97_keep : List (Nat × (List Nat × List Nat)) := [(0, (f97_t0, f97_o0))]
noncomputable def f97_info : FnInfo := ⟨[.val (.slice .str)], [.val (.int .i64)], 18, [.tmp 2], f97_body, f97_keep, f97_fresh, false⟩

/- milepost/link.texts -/
noncomputable def f119_body : Code := bodyOf Tryz.f119
def f119_fresh : Bool := true
def f119_t0 : List Nat := [3, 6, 7, 8]
def f119_o0 : List Nat := []
def f119_keep : List (Nat × (List Nat × List Nat)) := [(0, (f119_t0, f119_o0))]
noncomputable def f119_info : FnInfo := ⟨[.val (.slice (.blob 32))], [.val (.slice .str)], 19, [.tmp 2], f119_body, f119_keep, f119_fresh, false⟩

/- milepost/tree.each[string,milepost/api.Hash] -/
noncomputable def f164_body : Code := bodyOf Tryz.f164
def f164_fresh : Bool := true
def f164_t0 : List Nat := [1, 5, 8, 9, 10]
def f164_o0 : List Nat := []
def f164_keep : List (Nat × (List Nat × List Nat)) := [(0, (f164_t0, f164_o0))]
noncomputable def f164_info : FnInfo := ⟨[.val (.slice .str), .val .fn], [.val (.slice (.blob 32))], 22, [.tmp 4], f164_body, f164_keep, f164_fresh, false⟩

/- milepost/tree.Leaves -/
noncomputable def f134_body : Code := bodyOf Tryz.f134
def f134_fresh : Bool := true
def f134_keep : List (Nat × (List Nat × List Nat)) := []
noncomputable def f134_info : FnInfo := ⟨[.val (.slice .str)], [.val (.slice (.blob 32))], 5, [.tmp 2], f134_body, f134_keep, f134_fresh, false⟩

/- milepost/shape.Left -/
noncomputable def f162_body : Code := bodyOf Tryz.f162
def f162_fresh : Bool := false
def f162_t0 : List Nat := [0, 3]
def f162_o0 : List Nat := []
def f162_keep : List (Nat × (List Nat × List Nat)) := [(0, (f162_t0, f162_o0))]
noncomputable def f162_info : FnInfo := ⟨[.val (.int .i64)], [.val (.int .i64)], 14, [.tmp 2], f162_body, f162_keep, f162_fresh, false⟩

/- milepost/tree.parted[milepost/api.Hash] -/
noncomputable def f186_body : Code := bodyOf Tryz.f186
def f186_fresh : Bool := false
def f186_keep : List (Nat × (List Nat × List Nat)) := []
noncomputable def f186_info : FnInfo := ⟨[.val (.slice (.blob 32))], [.val (.slice (.blob 32)), .val (.slice (.blob 32))], 14, [.tmp 2, .tmp 3], f186_body, f186_keep, f186_fresh, false⟩

/- milepost/tree.Top -/
noncomputable def f163_body : Code := bodyOf Tryz.f163
def f163_fresh : Bool := false
def f163_keep : List (Nat × (List Nat × List Nat)) := []
noncomputable def f163_info : FnInfo := ⟨[.val (.slice (.blob 32))], [.val (.blob 32)], 25, [.cell 2 24], f163_body, f163_keep, f163_fresh, false⟩

/- milepost/tree.Root -/
noncomputable def f169_body : Code := bodyOf Tryz.f169
def f169_fresh : Bool := false
def f169_keep : List (Nat × (List Nat × List Nat)) := []
noncomputable def f169_info : FnInfo := ⟨[.val (.slice .str)], [.val (.blob 32)], 10, [.cell 2 24], f169_body, f169_keep, f169_fresh, false⟩

/- milepost/link.Root -/
noncomputable def f139_body : Code := bodyOf Tryz.f139
def f139_fresh : Bool := false
def f139_keep : List (Nat × (List Nat × List Nat)) := []
noncomputable def f139_info : FnInfo := ⟨[.val (.slice (.blob 32))], [.val (.blob 32)], 6, [.cell 2 24], f139_body, f139_keep, f139_fresh, false⟩

/- milepost/txs.texts -/
noncomputable def f99_body : Code := bodyOf Tryz.f99
def f99_fresh : Bool := true
def f99_t0 : List Nat := [3, 6, 7, 8]
def f99_o0 : List Nat := []
def f99_keep : List (Nat × (List Nat × List Nat)) := [(0, (f99_t0, f99_o0))]
noncomputable def f99_info : FnInfo := ⟨[.val (.slice .str)], [.val (.slice .str)], 19, [.tmp 2], f99_body, f99_keep, f99_fresh, false⟩

/- milepost/txs.Root -/
noncomputable def f140_body : Code := bodyOf Tryz.f140
def f140_fresh : Bool := false
def f140_keep : List (Nat × (List Nat × List Nat)) := []
noncomputable def f140_info : FnInfo := ⟨[.val (.slice .str)], [.val (.blob 32)], 6, [.cell 2 24], f140_body, f140_keep, f140_fresh, false⟩

/- milepost/block.Make -/
noncomputable def f112_body : Code := bodyOf Tryz.f112
def f112_fresh : Bool := false
def f112_keep : List (Nat × (List Nat × List Nat)) := []
noncomputable def f112_info : FnInfo := ⟨[.val (.int .u32), .val (.slice (.blob 32)), .val (.slice .str), .val (.int .u64)], [.val (.struct [(.struct [(.int .u32), (.blob 32), (.blob 32), (.int .u64)]), (.slice .str)])], 21, [.cell 8 69], f112_body, f112_keep, f112_fresh, false⟩

/- milepost/block.Check -/
noncomputable def f72_body : Code := bodyOf Tryz.f72
def f72_fresh : Bool := false
def f72_keep : List (Nat × (List Nat × List Nat)) := []
noncomputable def f72_info : FnInfo := ⟨[.val (.struct [(.struct [(.int .u32), (.blob 32), (.blob 32), (.int .u64)]), (.slice .str)]), .val (.int .u32), .val (.slice (.blob 32))], [.val (.int .i64)], 31, [.tmp 6], f72_body, f72_keep, f72_fresh, false⟩

/- (milepost/chain.look).form -/
noncomputable def f40_body : Code := bodyOf Tryz.f40
def f40_fresh : Bool := false
def f40_keep : List (Nat × (List Nat × List Nat)) := []
noncomputable def f40_info : FnInfo := ⟨[.val (.struct [(.struct [(.struct [(.int .u32), (.blob 32), (.blob 32), (.int .u64)]), (.blob 32), (.int .i64), (.int .i64), (.int .i64), (.int .i64), (.int .i64), (.int .i64)]), (.int .i64), (.struct [(.struct [(.int .u32), (.blob 32), (.blob 32), (.int .u64)]), (.slice .str)]), (.slice (.blob 32))])], [.val (.int .i64)], 11, [.tmp 2], f40_body, f40_keep, f40_fresh, false⟩

/- (milepost/chain.look).anchor -/
noncomputable def f39_body : Code := bodyOf Tryz.f39
def f39_fresh : Bool := false
def f39_keep : List (Nat × (List Nat × List Nat)) := []
noncomputable def f39_info : FnInfo := ⟨[.val (.struct [(.struct [(.struct [(.int .u32), (.blob 32), (.blob 32), (.int .u64)]), (.blob 32), (.int .i64), (.int .i64), (.int .i64), (.int .i64), (.int .i64), (.int .i64)]), (.int .i64), (.struct [(.struct [(.int .u32), (.blob 32), (.blob 32), (.int .u64)]), (.slice .str)]), (.slice (.blob 32))])], [.val (.int .i64)], 15, [.tmp 2], f39_body, f39_keep, f39_fresh, false⟩

/- milepost/inter.First -/
noncomputable def f74_body : Code := bodyOf Tryz.f74
def f74_fresh : Bool := true
def f74_keep : List (Nat × (List Nat × List Nat)) := []
noncomputable def f74_info : FnInfo := ⟨[.val (.blob 32)], [.val (.slice (.blob 32))], 5, [.tmp 2], f74_body, f74_keep, f74_fresh, false⟩

/- milepost/wide.Shr -/
noncomputable def f78_body : Code := bodyOf Tryz.f78
def f78_fresh : Bool := false
def f78_t0 : List Nat := [2, 4, 5, 6, 7, 21, 22]
def f78_o0 : List Nat := [2, 4, 5]
def f78_keep : List (Nat × (List Nat × List Nat)) := [(0, (f78_t0, f78_o0))]
noncomputable def f78_info : FnInfo := ⟨[.val (.arr 4 (.int .u64)), .val (.int .i64)], [.val (.arr 4 (.int .u64))], 59, [.cell 4 111], f78_body, f78_keep, f78_fresh, false⟩

/- milepost/work.Level -/
noncomputable def f43_body : Code := bodyOf Tryz.f43
def f43_fresh : Bool := false
def f43_t0 : List Nat := [5, 6, 7, 13]
def f43_o0 : List Nat := [5, 6]
def f43_keep : List (Nat × (List Nat × List Nat)) := [(0, (f43_t0, f43_o0))]
noncomputable def f43_info : FnInfo := ⟨[.val (.blob 32), .val (.blob 32)], [.val (.int .i64)], 25, [.tmp 4], f43_body, f43_keep, f43_fresh, false⟩

/- milepost/inter.Next -/
noncomputable def f75_body : Code := bodyOf Tryz.f75
def f75_fresh : Bool := false
def f75_t0 : List Nat := [0, 2, 4, 7, 8, 30, 31]
def f75_o0 : List Nat := [4, 8, 22]
def f75_t2 : List Nat := [4, 7, 8, 48, 49]
def f75_o2 : List Nat := [4, 8, 22]
def f75_keep : List (Nat × (List Nat × List Nat)) := [(0, (f75_t0, f75_o0)), (2, (f75_t2, f75_o2))]
noncomputable def f75_info : FnInfo := ⟨[.val (.slice (.blob 32)), .val (.blob 32), .val (.int .i64)], [.val (.slice (.blob 32))], 64, [.tmp 6], f75_body, f75_keep, f75_fresh, false⟩

/- milepost/chain.behind -/
noncomputable def f42_body : Code := bodyOf Tryz.f42
def f42_fresh : Bool := false
def f42_keep : List (Nat × (List Nat × List Nat)) := []
noncomputable def f42_info : FnInfo := ⟨[.val (.blob 32), .val (.slice (.blob 32)), .val (.struct [(.struct [(.int .u32), (.blob 32), (.blob 32), (.int .u64)]), (.slice .str)]), .val (.int .i64)], [.val (.slice (.blob 32))], 22, [.tmp 8], f42_body, f42_keep, f42_fresh, false⟩

/- milepost/chain.Check -/
noncomputable def f11_body : Code := bodyOf Tryz.f11
def f11_fresh : Bool := false
def f11_t1 : List Nat := [2, 4, 1000005, 22, 23, 24]
def f11_o1 : List Nat := [4]
def f11_t3 : List Nat := [2, 4, 5, 6, 7, 22, 23, 24, 40, 41, 42]
def f11_o3 : List Nat := [4, 7]
def f11_keep : List (Nat × (List Nat × List Nat)) := [(1, (f11_t1, f11_o1)), (3, (f11_t3, f11_o3))]
noncomputable def f11_info : FnInfo := ⟨[.val (.struct [(.struct [(.int .u32), (.blob 32), (.blob 32), (.int .u64)]), (.blob 32), (.int .i64), (.int .i64), (.int .i64), (.int .i64), (.int .i64), (.int .i64)]), .val (.slice (.struct [(.struct [(.int .u32), (.blob 32), (.blob 32), (.int .u64)]), (.slice .str)]))], [.val (.struct [(.int .i64), (.int .i64)])], 62, [.cell 4 35], f11_body, f11_keep, f11_fresh, false⟩

/- milepost/prove.May -/
noncomputable def f24_body : Code := bodyOf Tryz.f24
def f24_fresh : Bool := false
def f24_keep : List (Nat × (List Nat × List Nat)) := []
noncomputable def f24_info : FnInfo := ⟨[.val (.struct [(.struct [(.int .u32), (.blob 32), (.blob 32), (.int .u64)]), (.blob 32), (.int .i64), (.int .i64), (.int .i64), (.int .i64), (.int .i64), (.int .i64)]), .val (.slice (.struct [(.struct [(.int .u32), (.blob 32), (.blob 32), (.int .u64)]), (.slice .str)]))], [.val (.int .i64)], 31, [.tmp 4], f24_body, f24_keep, f24_fresh, false⟩

/- milepost/chain.Levels -/
noncomputable def f13_body : Code := bodyOf Tryz.f13
def f13_fresh : Bool := true
def f13_t0 : List Nat := [2, 5, 9, 10, 11]
def f13_o0 : List Nat := [2]
def f13_keep : List (Nat × (List Nat × List Nat)) := [(0, (f13_t0, f13_o0))]
noncomputable def f13_info : FnInfo := ⟨[.val (.blob 32), .val (.slice (.struct [(.struct [(.int .u32), (.blob 32), (.blob 32), (.int .u64)]), (.slice .str)]))], [.val (.slice (.int .i64))], 28, [.tmp 4], f13_body, f13_keep, f13_fresh, false⟩

/- milepost/pick.top -/
noncomputable def f45_body : Code := bodyOf Tryz.f45
def f45_fresh : Bool := false
def f45_t0 : List Nat := [3, 6, 7, 8]
def f45_o0 : List Nat := []
def f45_keep : List (Nat × (List Nat × List Nat)) := [(0, (f45_t0, f45_o0))]
noncomputable def f45_info : FnInfo := ⟨[.val (.slice (.int .i64))], [.val (.int .i64)], 21, [.tmp 2], f45_body, f45_keep, f45_fresh, false⟩

/- milepost/large.Of -/
noncomputable def f225_body : Code := bodyOf Tryz.f225
def f225_fresh : Bool := false
def f225_keep : List (Nat × (List Nat × List Nat)) := []
noncomputable def f225_info : FnInfo := ⟨[.val (.int .u64)], [.val (.arr 5 (.int .u64))], 5, [.cell 2 191], f225_body, f225_keep, f225_fresh, false⟩

/- milepost/large.half -/
noncomputable def f232_body : Code := bodyOf Tryz.f232
def f232_fresh : Bool := false
def f232_t0 : List Nat := [1, 2, 4, 6, 7, 11]
def f232_o0 : List Nat := [2, 4, 6]
def f232_keep : List (Nat × (List Nat × List Nat)) := [(0, (f232_t0, f232_o0))]
noncomputable def f232_info : FnInfo := ⟨[.val (.arr 5 (.int .u64)), .val (.int .u64)], [.val (.arr 5 (.int .u64)), .val .bool], 44, [.cell 4 191, .tmp 5], f232_body, f232_keep, f232_fresh, false⟩

/- milepost/word.Lead -/
noncomputable def f235_body : Code := bodyOf Tryz.f235
def f235_fresh : Bool := false
def f235_t0 : List Nat := [0, 3, 5]
def f235_o0 : List Nat := []
def f235_keep : List (Nat × (List Nat × List Nat)) := [(0, (f235_t0, f235_o0))]
noncomputable def f235_info : FnInfo := ⟨[.val (.int .u64)], [.val (.int .i64)], 18, [.tmp 2], f235_body, f235_keep, f235_fresh, false⟩

/- milepost/large.Len -/
noncomputable def f234_body : Code := bodyOf Tryz.f234
def f234_fresh : Bool := false
def f234_t0 : List Nat := [1, 5]
def f234_o0 : List Nat := [1]
def f234_keep : List (Nat × (List Nat × List Nat)) := [(0, (f234_t0, f234_o0))]
noncomputable def f234_info : FnInfo := ⟨[.val (.arr 5 (.int .u64))], [.val (.int .i64)], 21, [.tmp 2], f234_body, f234_keep, f234_fresh, false⟩

/- milepost/large.Shl -/
noncomputable def f226_body : Code := bodyOf Tryz.f226
def f226_fresh : Bool := false
def f226_t0 : List Nat := [2, 4, 6, 7, 8, 9]
def f226_o0 : List Nat := [2, 4, 6]
def f226_keep : List (Nat × (List Nat × List Nat)) := [(0, (f226_t0, f226_o0))]
noncomputable def f226_info : FnInfo := ⟨[.val (.arr 5 (.int .u64)), .val (.int .i64)], [.val (.arr 5 (.int .u64)), .val .bool], 70, [.cell 4 191, .tmp 5], f226_body, f226_keep, f226_fresh, false⟩

/- milepost/large.Add -/
noncomputable def f233_body : Code := bodyOf Tryz.f233
def f233_fresh : Bool := false
def f233_t0 : List Nat := [2, 3, 4, 6, 7, 11]
def f233_o0 : List Nat := [2, 3, 4, 6]
def f233_keep : List (Nat × (List Nat × List Nat)) := [(0, (f233_t0, f233_o0))]
noncomputable def f233_info : FnInfo := ⟨[.val (.arr 5 (.int .u64)), .val (.arr 5 (.int .u64))], [.val (.arr 5 (.int .u64)), .val .bool], 51, [.cell 4 191, .tmp 5], f233_body, f233_keep, f233_fresh, false⟩

/- milepost/large.Mul -/
noncomputable def f224_body : Code := bodyOf Tryz.f224
def f224_fresh : Bool := false
def f224_keep : List (Nat × (List Nat × List Nat)) := []
noncomputable def f224_info : FnInfo := ⟨[.val (.arr 5 (.int .u64)), .val (.int .u64)], [.val (.arr 5 (.int .u64)), .val .bool], 42, [.cell 4 191, .tmp 5], f224_body, f224_keep, f224_fresh, false⟩

/- milepost/ratio.Product -/
noncomputable def f215_body : Code := bodyOf Tryz.f215
def f215_fresh : Bool := false
def f215_keep : List (Nat × (List Nat × List Nat)) := []
noncomputable def f215_info : FnInfo := ⟨[.val (.int .u32), .val (.int .u32), .val (.int .i64)], [.val (.arr 5 (.int .u64)), .val .bool], 31, [.cell 6 191, .tmp 7], f215_body, f215_keep, f215_fresh, false⟩

/- milepost/ratio.sides -/
noncomputable def f196_body : Code := bodyOf Tryz.f196
def f196_fresh : Bool := false
def f196_keep : List (Nat × (List Nat × List Nat)) := []
noncomputable def f196_info : FnInfo := ⟨[.val (.int .u32), .val (.int .u32), .val (.int .i64), .val (.int .i64), .val (.int .i64)], [.val (.arr 5 (.int .u64)), .val (.arr 5 (.int .u64)), .val .bool], 43, [.cell 10 191, .cell 11 191, .tmp 12], f196_body, f196_keep, f196_fresh, false⟩

/- milepost/large.Cmp -/
noncomputable def f197_body : Code := bodyOf Tryz.f197
def f197_fresh : Bool := false
def f197_t0 : List Nat := [2, 3, 8]
def f197_o0 : List Nat := [2, 3]
def f197_keep : List (Nat × (List Nat × List Nat)) := [(0, (f197_t0, f197_o0))]
noncomputable def f197_info : FnInfo := ⟨[.val (.arr 5 (.int .u64)), .val (.arr 5 (.int .u64))], [.val (.int .i64)], 26, [.tmp 4], f197_body, f197_keep, f197_fresh, false⟩

/- milepost/ratio.Above -/
noncomputable def f175_body : Code := bodyOf Tryz.f175
def f175_fresh : Bool := false
def f175_keep : List (Nat × (List Nat × List Nat)) := []
noncomputable def f175_info : FnInfo := ⟨[.val (.int .u32), .val (.int .u32), .val (.int .i64), .val (.int .i64), .val (.int .i64)], [.val .bool], 31, [.tmp 10], f175_body, f175_keep, f175_fresh, false⟩

/- milepost/good.Local -/
noncomputable def f146_body : Code := bodyOf Tryz.f146
def f146_fresh : Bool := false
def f146_keep : List (Nat × (List Nat × List Nat)) := []
noncomputable def f146_info : FnInfo := ⟨[.val (.int .i64), .val (.int .i64), .val (.int .i64), .val (.int .i64), .val (.int .i64)], [.val .bool], 35, [.tmp 10], f146_body, f146_keep, f146_fresh, false⟩

/- milepost/good.Super -/
noncomputable def f117_body : Code := bodyOf Tryz.f117
def f117_fresh : Bool := false
def f117_t0 : List Nat := [0, 1, 3, 4, 11, 12]
def f117_o0 : List Nat := []
def f117_keep : List (Nat × (List Nat × List Nat)) := [(0, (f117_t0, f117_o0))]
noncomputable def f117_info : FnInfo := ⟨[.val (.slice (.int .i64)), .val (.int .i64), .val (.int .i64), .val (.int .i64), .val (.int .i64)], [.val .bool], 43, [.tmp 10], f117_body, f117_keep, f117_fresh, false⟩

/- milepost/good.counts -/
noncomputable def f147_body : Code := bodyOf Tryz.f147
def f147_fresh : Bool := false
def f147_t0 : List Nat := [1, 5, 12, 13, 14]
def f147_o0 : List Nat := [11]
def f147_keep : List (Nat × (List Nat × List Nat)) := [(0, (f147_t0, f147_o0))]
noncomputable def f147_info : FnInfo := ⟨[.val (.slice (.int .i64)), .val (.int .i64)], [.val (.slice (.int .i64))], 39, [.tmp 4], f147_body, f147_keep, f147_fresh, false⟩

/- milepost/ratio.Least -/
noncomputable def f176_body : Code := bodyOf Tryz.f176
def f176_fresh : Bool := false
def f176_keep : List (Nat × (List Nat × List Nat)) := []
noncomputable def f176_info : FnInfo := ⟨[.val (.int .u32), .val (.int .u32), .val (.int .i64), .val (.int .i64), .val (.int .i64)], [.val .bool], 31, [.tmp 10], f176_body, f176_keep, f176_fresh, false⟩

/- milepost/good.stretches -/
noncomputable def f148_body : Code := bodyOf Tryz.f148
def f148_fresh : Bool := false
def f148_t0 : List Nat := [0, 1, 2, 3, 4, 5, 18, 19]
def f148_o0 : List Nat := []
def f148_t2 : List Nat := [0, 1, 2, 3, 4, 5, 13, 14, 18, 19]
def f148_o2 : List Nat := []
def f148_keep : List (Nat × (List Nat × List Nat)) := [(0, (f148_t0, f148_o0)), (2, (f148_t2, f148_o2))]
noncomputable def f148_info : FnInfo := ⟨[.val (.slice (.int .i64)), .val (.slice (.int .i64)), .val (.int .i64), .val (.int .i64), .val (.int .i64), .val (.int .i64)], [.val .bool], 63, [.tmp 12], f148_body, f148_keep, f148_fresh, false⟩

/- milepost/good.Multi -/
noncomputable def f118_body : Code := bodyOf Tryz.f118
def f118_fresh : Bool := false
def f118_t0 : List Nat := [0, 1, 2, 3, 4, 11, 24, 25]
def f118_o0 : List Nat := []
def f118_keep : List (Nat × (List Nat × List Nat)) := [(0, (f118_t0, f118_o0))]
noncomputable def f118_info : FnInfo := ⟨[.val (.slice (.int .i64)), .val (.int .i64), .val (.int .i64), .val (.int .i64), .val (.int .i64)], [.val .bool], 42, [.tmp 10], f118_body, f118_keep, f118_fresh, false⟩

/- milepost/good.Good -/
noncomputable def f81_body : Code := bodyOf Tryz.f81
def f81_fresh : Bool := false
def f81_keep : List (Nat × (List Nat × List Nat)) := []
noncomputable def f81_info : FnInfo := ⟨[.val (.slice (.int .i64)), .val (.int .i64), .val (.int .i64), .val (.int .i64), .val (.int .i64)], [.val .bool], 25, [.tmp 10], f81_body, f81_keep, f81_fresh, false⟩

/- milepost/pick.Begin -/
noncomputable def f47_body : Code := bodyOf Tryz.f47
def f47_fresh : Bool := false
def f47_keep : List (Nat × (List Nat × List Nat)) := []
noncomputable def f47_info : FnInfo := ⟨[.val (.slice (.int .i64)), .val (.int .i64), .val (.int .i64), .val (.int .i64), .val (.int .i64), .val (.int .i64)], [.val (.int .i64)], 49, [.tmp 12], f47_body, f47_keep, f47_fresh, false⟩

/- milepost/pick.Pick -/
noncomputable def f14_body : Code := bodyOf Tryz.f14
def f14_fresh : Bool := true
def f14_t0 : List Nat := [1, 3, 4, 11, 12, 13, 14]
def f14_o0 : List Nat := [45]
def f14_t2 : List Nat := [1, 3, 4, 11, 12, 13, 14, 55, 56, 57]
def f14_o2 : List Nat := [45]
def f14_t4 : List Nat := [17, 72, 73, 74]
def f14_o4 : List Nat := [45]
def f14_keep : List (Nat × (List Nat × List Nat)) := [(0, (f14_t0, f14_o0)), (2, (f14_t2, f14_o2)), (4, (f14_t4, f14_o4))]
noncomputable def f14_info : FnInfo := ⟨[.val (.slice (.int .i64)), .val (.int .i64), .val (.int .i64), .val (.int .i64), .val (.int .i64)], [.val (.slice (.int .i64))], 86, [.tmp 10], f14_body, f14_keep, f14_fresh, false⟩

/- milepost/prove.Places -/
noncomputable def f21_body : Code := bodyOf Tryz.f21
def f21_fresh : Bool := true
def f21_t0 : List Nat := [1, 5, 6]
def f21_o0 : List Nat := []
def f21_keep : List (Nat × (List Nat × List Nat)) := [(0, (f21_t0, f21_o0))]
noncomputable def f21_info : FnInfo := ⟨[.val (.struct [(.struct [(.int .u32), (.blob 32), (.blob 32), (.int .u64)]), (.blob 32), (.int .i64), (.int .i64), (.int .i64), (.int .i64), (.int .i64), (.int .i64)]), .val (.slice (.struct [(.struct [(.int .u32), (.blob 32), (.blob 32), (.int .u64)]), (.slice .str)]))], [.val (.slice (.int .i64))], 43, [.tmp 4], f21_body, f21_keep, f21_fresh, false⟩

/- milepost/chain.Vectors -/
noncomputable def f83_body : Code := bodyOf Tryz.f83
def f83_fresh : Bool := true
def f83_t0 : List Nat := [2, 5, 9, 10, 11]
def f83_o0 : List Nat := [2]
def f83_keep : List (Nat × (List Nat × List Nat)) := [(0, (f83_t0, f83_o0))]
noncomputable def f83_info : FnInfo := ⟨[.val (.blob 32), .val (.slice (.struct [(.struct [(.int .u32), (.blob 32), (.blob 32), (.int .u64)]), (.slice .str)]))], [.val (.slice (.slice (.blob 32)))], 29, [.tmp 4], f83_body, f83_keep, f83_fresh, false⟩

/- milepost/near.Near -/
noncomputable def f49_body : Code := bodyOf Tryz.f49
def f49_fresh : Bool := false
def f49_t0 : List Nat := [0, 2, 7]
def f49_o0 : List Nat := []
def f49_keep : List (Nat × (List Nat × List Nat)) := [(0, (f49_t0, f49_o0))]
noncomputable def f49_info : FnInfo := ⟨[.val (.slice (.int .i64)), .val (.int .i64), .val (.int .i64)], [.val (.int .i64)], 24, [.tmp 6], f49_body, f49_keep, f49_fresh, false⟩

/- milepost/near.All -/
noncomputable def f16_body : Code := bodyOf Tryz.f16
def f16_fresh : Bool := true
def f16_t0 : List Nat := [0, 1, 5, 17]
def f16_o0 : List Nat := []
def f16_keep : List (Nat × (List Nat × List Nat)) := [(0, (f16_t0, f16_o0))]
noncomputable def f16_info : FnInfo := ⟨[.val (.slice (.int .i64)), .val (.int .i64)], [.val (.slice (.int .i64))], 34, [.tmp 4], f16_body, f16_keep, f16_fresh, false⟩

/- milepost/down.Index -/
noncomputable def f84_body : Code := bodyOf Tryz.f84
def f84_fresh : Bool := false
def f84_t0 : List Nat := [2, 11, 12, 13]
def f84_o0 : List Nat := []
def f84_keep : List (Nat × (List Nat × List Nat)) := [(0, (f84_t0, f84_o0))]
noncomputable def f84_info : FnInfo := ⟨[.val (.slice (.int .i64)), .val (.int .i64), .val (.int .i64)], [.val (.int .i64)], 23, [.tmp 6], f84_body, f84_keep, f84_fresh, false⟩

/- milepost/open.path -/
noncomputable def f133_body : Code := bodyOf Tryz.f133
def f133_fresh : Bool := true
def f133_keep : List (Nat × (List Nat × List Nat)) := []
noncomputable def f133_info : FnInfo := ⟨[.val (.slice (.blob 32)), .val (.int .i64)], [.val (.slice (.blob 32))], 39, [.tmp 4], f133_body, f133_keep, f133_fresh, false⟩

/- milepost/open.Open -/
noncomputable def f98_body : Code := bodyOf Tryz.f98
def f98_fresh : Bool := false
def f98_keep : List (Nat × (List Nat × List Nat)) := []
noncomputable def f98_info : FnInfo := ⟨[.val (.slice .str), .val (.int .i64)], [.val (.struct [(.int .i64), (.int .i64), (.slice (.blob 32))]), .val (.int .i64)], 29, [.cell 4 57, .tmp 5], f98_body, f98_keep, f98_fresh, false⟩

/- milepost/link.Open -/
noncomputable def f85_body : Code := bodyOf Tryz.f85
def f85_fresh : Bool := false
def f85_keep : List (Nat × (List Nat × List Nat)) := []
noncomputable def f85_info : FnInfo := ⟨[.val (.slice (.blob 32)), .val (.int .i64)], [.val (.struct [(.int .i64), (.int .i64), (.slice (.blob 32))]), .val (.int .i64)], 12, [.cell 4 57, .tmp 5], f85_body, f85_keep, f85_fresh, false⟩

/- milepost/prove.Steps -/
noncomputable def f50_body : Code := bodyOf Tryz.f50
def f50_fresh : Bool := false
def f50_t0 : List Nat := [1, 2, 8, 9, 10, 23, 24, 25]
def f50_o0 : List Nat := []
def f50_keep : List (Nat × (List Nat × List Nat)) := [(0, (f50_t0, f50_o0))]
noncomputable def f50_info : FnInfo := ⟨[.val (.blob 32), .val (.slice (.struct [(.struct [(.int .u32), (.blob 32), (.blob 32), (.int .u64)]), (.slice .str)])), .val (.slice (.int .i64))], [.val (.slice (.struct [(.struct [(.int .u32), (.blob 32), (.blob 32), (.int .u64)]), (.struct [(.int .i64), (.int .i64), (.slice (.blob 32))])])), .val (.int .i64)], 76, [.tmp 6, .tmp 7], f50_body, f50_keep, f50_fresh, false⟩

/- milepost/prove.Prove -/
noncomputable def f18_body : Code := bodyOf Tryz.f18
def f18_fresh : Bool := false
def f18_keep : List (Nat × (List Nat × List Nat)) := []
noncomputable def f18_info : FnInfo := ⟨[.val (.struct [(.struct [(.int .u32), (.blob 32), (.blob 32), (.int .u64)]), (.blob 32), (.int .i64), (.int .i64), (.int .i64), (.int .i64), (.int .i64), (.int .i64)]), .val (.slice (.struct [(.struct [(.int .u32), (.blob 32), (.blob 32), (.int .u64)]), (.slice .str)]))], [.val (.slice (.struct [(.struct [(.int .u32), (.blob 32), (.blob 32), (.int .u64)]), (.struct [(.int .i64), (.int .i64), (.slice (.blob 32))])])), .val (.int .i64)], 22, [.tmp 4, .tmp 5], f18_body, f18_keep, f18_fresh, false⟩

/- milepost/txs.Open -/
noncomputable def f61_body : Code := bodyOf Tryz.f61
def f61_fresh : Bool := false
def f61_keep : List (Nat × (List Nat × List Nat)) := []
noncomputable def f61_info : FnInfo := ⟨[.val (.slice .str), .val (.int .i64)], [.val (.struct [(.int .i64), (.int .i64), (.slice (.blob 32))]), .val (.int .i64)], 19, [.cell 4 57, .tmp 5], f61_body, f61_keep, f61_fresh, false⟩

/- milepost/way.around -/
noncomputable def f62_body : Code := bodyOf Tryz.f62
def f62_fresh : Bool := false
def f62_t0 : List Nat := [0, 1, 7, 8, 9]
def f62_o0 : List Nat := []
def f62_keep : List (Nat × (List Nat × List Nat)) := [(0, (f62_t0, f62_o0))]
noncomputable def f62_info : FnInfo := ⟨[.val (.slice (.int .i64)), .val (.int .i64)], [.val (.int .i64)], 21, [.tmp 4], f62_body, f62_keep, f62_fresh, false⟩

/- milepost/way.inner -/
noncomputable def f63_body : Code := bodyOf Tryz.f63
def f63_fresh : Bool := false
def f63_keep : List (Nat × (List Nat × List Nat)) := []
noncomputable def f63_info : FnInfo := ⟨[.val (.blob 32), .val (.slice (.struct [(.struct [(.int .u32), (.blob 32), (.blob 32), (.int .u64)]), (.slice .str)])), .val (.slice (.int .i64)), .val (.int .i64), .val (.struct [(.int .i64), (.slice (.struct [(.struct [(.int .u32), (.blob 32), (.blob 32), (.int .u64)]), (.struct [(.int .i64), (.int .i64), (.slice (.blob 32))])])), (.struct [(.int .i64), (.int .i64), (.slice (.blob 32))]), (.int .i64), .str, (.struct [(.int .i64), (.int .i64), (.slice (.blob 32))])])], [.val (.struct [(.int .i64), (.slice (.struct [(.struct [(.int .u32), (.blob 32), (.blob 32), (.int .u64)]), (.struct [(.int .i64), (.int .i64), (.slice (.blob 32))])])), (.struct [(.int .i64), (.int .i64), (.slice (.blob 32))]), (.int .i64), .str, (.struct [(.int .i64), (.int .i64), (.slice (.blob 32))])]), .val (.int .i64)], 73, [.cell 10 59, .tmp 11], f63_body, f63_keep, f63_fresh, false⟩

/- milepost/way.Infix -/
noncomputable def f29_body : Code := bodyOf Tryz.f29
def f29_fresh : Bool := false
def f29_keep : List (Nat × (List Nat × List Nat)) := []
noncomputable def f29_info : FnInfo := ⟨[.val (.struct [(.struct [(.int .u32), (.blob 32), (.blob 32), (.int .u64)]), (.blob 32), (.int .i64), (.int .i64), (.int .i64), (.int .i64), (.int .i64), (.int .i64)]), .val (.slice (.struct [(.struct [(.int .u32), (.blob 32), (.blob 32), (.int .u64)]), (.slice .str)])), .val (.int .i64), .val (.int .i64)], [.val (.struct [(.int .i64), (.slice (.struct [(.struct [(.int .u32), (.blob 32), (.blob 32), (.int .u64)]), (.struct [(.int .i64), (.int .i64), (.slice (.blob 32))])])), (.struct [(.int .i64), (.int .i64), (.slice (.blob 32))]), (.int .i64), .str, (.struct [(.int .i64), (.int .i64), (.slice (.blob 32))])]), .val (.int .i64)], 80, [.cell 8 59, .tmp 9], f29_body, f29_keep, f29_fresh, false⟩

/- milepost/milepostlaw50.WithinWays -/
noncomputable def f8_body : Code := bodyOf Tryz.f8
def f8_fresh : Bool := false
def f8_t0 : List Nat := [1, 2, 5, 7]
def f8_o0 : List Nat := []
def f8_t2 : List Nat := [1, 2, 5, 7, 8]
def f8_o2 : List Nat := []
def f8_keep : List (Nat × (List Nat × List Nat)) := [(0, (f8_t0, f8_o0)), (2, (f8_t2, f8_o2))]
noncomputable def f8_info : FnInfo := ⟨[.val (.struct [(.struct [(.int .u32), (.blob 32), (.blob 32), (.int .u64)]), (.blob 32), (.int .i64), (.int .i64), (.int .i64), (.int .i64), (.int .i64), (.int .i64)]), .val (.slice (.struct [(.struct [(.int .u32), (.blob 32), (.blob 32), (.int .u64)]), (.slice .str)]))], [.val .bool], 127, [.tmp 4], f8_body, f8_keep, f8_fresh, false⟩

/- milepost/down.far -/
noncomputable def f96_body : Code := bodyOf Tryz.f96
def f96_fresh : Bool := false
def f96_t0 : List Nat := [1, 6, 7, 10, 11, 12]
def f96_o0 : List Nat := []
def f96_keep : List (Nat × (List Nat × List Nat)) := [(0, (f96_t0, f96_o0))]
noncomputable def f96_info : FnInfo := ⟨[.val (.slice (.int .i64)), .val (.int .i64)], [.val (.int .i64), .val .bool], 32, [.tmp 4, .tmp 5], f96_body, f96_keep, f96_fresh, false⟩

/- milepost/down.Walk -/
noncomputable def f58_body : Code := bodyOf Tryz.f58
def f58_fresh : Bool := true
def f58_t0 : List Nat := [0, 1, 2, 7]
def f58_o0 : List Nat := []
def f58_keep : List (Nat × (List Nat × List Nat)) := [(0, (f58_t0, f58_o0))]
noncomputable def f58_info : FnInfo := ⟨[.val (.slice (.int .i64)), .val (.int .i64), .val (.int .i64)], [.val (.slice (.int .i64))], 44, [.tmp 6], f58_body, f58_keep, f58_fresh, false⟩

noncomputable def G : Env := {
  ty := [(3, (.int .i64)), (4, .bool), (5, (.int .u8)), (9, .str), (22, (.int .u32)), (24, (.blob 32)), (25, (.int .u64)), (27, (.struct [(.int .u32), (.blob 32), (.blob 32), (.int .u64)])), (29, (.struct [(.struct [(.int .u32), (.blob 32), (.blob 32), (.int .u64)]), (.blob 32), (.int .i64), (.int .i64), (.int .i64), (.int .i64), (.int .i64), (.int .i64)])), (30, (.slice (.struct [(.struct [(.int .u32), (.blob 32), (.blob 32), (.int .u64)]), (.slice .str)]))), (33, (.int .i64)), (35, (.struct [(.int .i64), (.int .i64)])), (38, (.slice (.int .i64))), (44, (.slice (.struct [(.struct [(.int .u32), (.blob 32), (.blob 32), (.int .u64)]), (.struct [(.int .i64), (.int .i64), (.slice (.blob 32))])]))), (55, (.slice (.blob 32))), (57, (.struct [(.int .i64), (.int .i64), (.slice (.blob 32))])), (59, (.struct [(.int .i64), (.slice (.struct [(.struct [(.int .u32), (.blob 32), (.blob 32), (.int .u64)]), (.struct [(.int .i64), (.int .i64), (.slice (.blob 32))])])), (.struct [(.int .i64), (.int .i64), (.slice (.blob 32))]), (.int .i64), .str, (.struct [(.int .i64), (.int .i64), (.slice (.blob 32))])])), (66, (.struct [(.struct [(.int .u32), (.blob 32), (.blob 32), (.int .u64)]), (.struct [(.int .i64), (.int .i64), (.slice (.blob 32))])])), (67, (.slice .str)), (69, (.struct [(.struct [(.int .u32), (.blob 32), (.blob 32), (.int .u64)]), (.slice .str)])), (77, (.struct [(.struct [(.struct [(.int .u32), (.blob 32), (.blob 32), (.int .u64)]), (.blob 32), (.int .i64), (.int .i64), (.int .i64), (.int .i64), (.int .i64), (.int .i64)]), (.int .i64), (.struct [(.struct [(.int .u32), (.blob 32), (.blob 32), (.int .u64)]), (.slice .str)]), (.slice (.blob 32))])), (78, (.clos [(39, ([0], [])), (40, ([0], [])), (41, ([0], []))] [(.struct [(.struct [(.struct [(.int .u32), (.blob 32), (.blob 32), (.int .u64)]), (.blob 32), (.int .i64), (.int .i64), (.int .i64), (.int .i64), (.int .i64), (.int .i64)]), (.int .i64), (.struct [(.struct [(.int .u32), (.blob 32), (.blob 32), (.int .u64)]), (.slice .str)]), (.slice (.blob 32))])])), (79, (.slice (.clos [(39, ([0], [])), (40, ([0], [])), (41, ([0], []))] [(.struct [(.struct [(.struct [(.int .u32), (.blob 32), (.blob 32), (.int .u64)]), (.blob 32), (.int .i64), (.int .i64), (.int .i64), (.int .i64), (.int .i64), (.int .i64)]), (.int .i64), (.struct [(.struct [(.int .u32), (.blob 32), (.blob 32), (.int .u64)]), (.slice .str)]), (.slice (.blob 32))])]))), (83, (.slice .bool)), (111, (.arr 4 (.int .u64))), (119, (.slice (.slice (.blob 32)))), (136, (.slice (.int .u8))), (137, (.int .u64)), (175, (.arr 64 (.int .u32))), (184, (.arr 8 (.int .u32))), (186, (.struct [(.arr 8 (.int .u32)), .str, (.int .u64), .bool])), (191, (.arr 5 (.int .u64)))]
  bytes := [(38, 8), (44, 120), (55, 32), (67, 16), (83, 1), (119, 24), (136, 1)]
  fns := [(195, f195_info), (211, f211_info), (190, f190_info), (46, f46_info), (27, f27_info), (37, f37_info), (9, f9_info), (69, f69_info), (35, f35_info), (135, f135_info), (103, f103_info), (33, f33_info), (174, f174_info), (144, f144_info), (145, f145_info), (115, f115_info), (173, f173_info), (143, f143_info), (170, f170_info), (192, f192_info), (141, f141_info), (218, f218_info), (210, f210_info), (208, f208_info), (209, f209_info), (193, f193_info), (171, f171_info), (194, f194_info), (172, f172_info), (142, f142_info), (114, f114_info), (79, f79_info), (113, f113_info), (76, f76_info), (77, f77_info), (73, f73_info), (149, f149_info), (189, f189_info), (166, f166_info), (188, f188_info), (165, f165_info), (205, f205_info), (187, f187_info), (167, f167_info), (191, f191_info), (168, f168_info), (138, f138_info), (110, f110_info), (136, f136_info), (107, f107_info), (109, f109_info), (70, f70_info), (111, f111_info), (71, f71_info), (36, f36_info), (34, f34_info), (38, f38_info), (10, f10_info), (44, f44_info), (41, f41_info), (97, f97_info), (119, f119_info), (164, f164_info), (134, f134_info), (162, f162_info), (186, f186_info), (163, f163_info), (169, f169_info), (139, f139_info), (99, f99_info), (140, f140_info), (112, f112_info), (72, f72_info), (40, f40_info), (39, f39_info), (74, f74_info), (78, f78_info), (43, f43_info), (75, f75_info), (42, f42_info), (11, f11_info), (24, f24_info), (13, f13_info), (45, f45_info), (225, f225_info), (232, f232_info), (235, f235_info), (234, f234_info), (226, f226_info), (233, f233_info), (224, f224_info), (215, f215_info), (196, f196_info), (197, f197_info), (175, f175_info), (146, f146_info), (117, f117_info), (147, f147_info), (176, f176_info), (148, f148_info), (118, f118_info), (81, f81_info), (47, f47_info), (14, f14_info), (21, f21_info), (83, f83_info), (49, f49_info), (16, f16_info), (84, f84_info), (133, f133_info), (98, f98_info), (85, f85_info), (50, f50_info), (18, f18_info), (61, f61_info), (62, f62_info), (63, f63_info), (29, f29_info), (8, f8_info), (96, f96_info), (58, f58_info)]
  ptrs := [167]
  made := []
  froz := [29] }

theorem f195_at : assoc G.fns 195 = some f195_info := by kernel_rfl
theorem f195_out : f195_info.ext = true := rfl

theorem f211_at : assoc G.fns 211 = some f211_info := by kernel_rfl
theorem f211_out : f211_info.ext = true := rfl

theorem f190_at : assoc G.fns 190 = some f190_info := by kernel_rfl
theorem f190_out : f190_info.ext = true := rfl

theorem f46_at : assoc G.fns 46 = some f46_info := by kernel_rfl
theorem f46_out : f46_info.ext = true := rfl

theorem f27_at : assoc G.fns 27 = some f27_info := by kernel_rfl
theorem f27_out : f27_info.ext = true := rfl

theorem f37_at : assoc G.fns 37 = some f37_info := by kernel_rfl
theorem f37_in : f37_info.ext = false := rfl

theorem f9_at : assoc G.fns 9 = some f9_info := by kernel_rfl
theorem f9_in : f9_info.ext = false := rfl

theorem f69_at : assoc G.fns 69 = some f69_info := by kernel_rfl
theorem f69_in : f69_info.ext = false := rfl

theorem f35_at : assoc G.fns 35 = some f35_info := by kernel_rfl
theorem f35_in : f35_info.ext = false := rfl

theorem f135_at : assoc G.fns 135 = some f135_info := by kernel_rfl
theorem f135_in : f135_info.ext = false := rfl

theorem f103_at : assoc G.fns 103 = some f103_info := by kernel_rfl
theorem f103_in : f103_info.ext = false := rfl

theorem f33_at : assoc G.fns 33 = some f33_info := by kernel_rfl
theorem f33_in : f33_info.ext = false := rfl

theorem f174_at : assoc G.fns 174 = some f174_info := by kernel_rfl
theorem f174_in : f174_info.ext = false := rfl

theorem f144_at : assoc G.fns 144 = some f144_info := by kernel_rfl
theorem f144_in : f144_info.ext = false := rfl

theorem f145_at : assoc G.fns 145 = some f145_info := by kernel_rfl
theorem f145_in : f145_info.ext = false := rfl

theorem f115_at : assoc G.fns 115 = some f115_info := by kernel_rfl
theorem f115_in : f115_info.ext = false := rfl

theorem f173_at : assoc G.fns 173 = some f173_info := by kernel_rfl
theorem f173_in : f173_info.ext = false := rfl

theorem f143_at : assoc G.fns 143 = some f143_info := by kernel_rfl
theorem f143_in : f143_info.ext = false := rfl

theorem f170_at : assoc G.fns 170 = some f170_info := by kernel_rfl
theorem f170_in : f170_info.ext = false := rfl

theorem f192_at : assoc G.fns 192 = some f192_info := by kernel_rfl
theorem f192_in : f192_info.ext = false := rfl

theorem f141_at : assoc G.fns 141 = some f141_info := by kernel_rfl
theorem f141_in : f141_info.ext = false := rfl

theorem f218_at : assoc G.fns 218 = some f218_info := by kernel_rfl
theorem f218_in : f218_info.ext = false := rfl

theorem f210_at : assoc G.fns 210 = some f210_info := by kernel_rfl
theorem f210_in : f210_info.ext = false := rfl

theorem f208_at : assoc G.fns 208 = some f208_info := by kernel_rfl
theorem f208_in : f208_info.ext = false := rfl

theorem f209_at : assoc G.fns 209 = some f209_info := by kernel_rfl
theorem f209_in : f209_info.ext = false := rfl

theorem f193_at : assoc G.fns 193 = some f193_info := by kernel_rfl
theorem f193_in : f193_info.ext = false := rfl

theorem f171_at : assoc G.fns 171 = some f171_info := by kernel_rfl
theorem f171_in : f171_info.ext = false := rfl

theorem f194_at : assoc G.fns 194 = some f194_info := by kernel_rfl
theorem f194_in : f194_info.ext = false := rfl

theorem f172_at : assoc G.fns 172 = some f172_info := by kernel_rfl
theorem f172_in : f172_info.ext = false := rfl

theorem f142_at : assoc G.fns 142 = some f142_info := by kernel_rfl
theorem f142_in : f142_info.ext = false := rfl

theorem f114_at : assoc G.fns 114 = some f114_info := by kernel_rfl
theorem f114_in : f114_info.ext = false := rfl

theorem f79_at : assoc G.fns 79 = some f79_info := by kernel_rfl
theorem f79_in : f79_info.ext = false := rfl

theorem f113_at : assoc G.fns 113 = some f113_info := by kernel_rfl
theorem f113_in : f113_info.ext = false := rfl

theorem f76_at : assoc G.fns 76 = some f76_info := by kernel_rfl
theorem f76_in : f76_info.ext = false := rfl

theorem f77_at : assoc G.fns 77 = some f77_info := by kernel_rfl
theorem f77_in : f77_info.ext = false := rfl

theorem f73_at : assoc G.fns 73 = some f73_info := by kernel_rfl
theorem f73_in : f73_info.ext = false := rfl

theorem f149_at : assoc G.fns 149 = some f149_info := by kernel_rfl
theorem f149_in : f149_info.ext = false := rfl

theorem f189_at : assoc G.fns 189 = some f189_info := by kernel_rfl
theorem f189_in : f189_info.ext = false := rfl

theorem f166_at : assoc G.fns 166 = some f166_info := by kernel_rfl
theorem f166_in : f166_info.ext = false := rfl

theorem f188_at : assoc G.fns 188 = some f188_info := by kernel_rfl
theorem f188_in : f188_info.ext = false := rfl

theorem f165_at : assoc G.fns 165 = some f165_info := by kernel_rfl
theorem f165_in : f165_info.ext = false := rfl

theorem f205_at : assoc G.fns 205 = some f205_info := by kernel_rfl
theorem f205_in : f205_info.ext = false := rfl

theorem f187_at : assoc G.fns 187 = some f187_info := by kernel_rfl
theorem f187_in : f187_info.ext = false := rfl

theorem f167_at : assoc G.fns 167 = some f167_info := by kernel_rfl
theorem f167_in : f167_info.ext = false := rfl

theorem f191_at : assoc G.fns 191 = some f191_info := by kernel_rfl
theorem f191_in : f191_info.ext = false := rfl

theorem f168_at : assoc G.fns 168 = some f168_info := by kernel_rfl
theorem f168_in : f168_info.ext = false := rfl

theorem f138_at : assoc G.fns 138 = some f138_info := by kernel_rfl
theorem f138_in : f138_info.ext = false := rfl

theorem f110_at : assoc G.fns 110 = some f110_info := by kernel_rfl
theorem f110_in : f110_info.ext = false := rfl

theorem f136_at : assoc G.fns 136 = some f136_info := by kernel_rfl
theorem f136_in : f136_info.ext = false := rfl

theorem f107_at : assoc G.fns 107 = some f107_info := by kernel_rfl
theorem f107_in : f107_info.ext = false := rfl

theorem f109_at : assoc G.fns 109 = some f109_info := by kernel_rfl
theorem f109_in : f109_info.ext = false := rfl

theorem f70_at : assoc G.fns 70 = some f70_info := by kernel_rfl
theorem f70_in : f70_info.ext = false := rfl

theorem f111_at : assoc G.fns 111 = some f111_info := by kernel_rfl
theorem f111_in : f111_info.ext = false := rfl

theorem f71_at : assoc G.fns 71 = some f71_info := by kernel_rfl
theorem f71_in : f71_info.ext = false := rfl

theorem f36_at : assoc G.fns 36 = some f36_info := by kernel_rfl
theorem f36_in : f36_info.ext = false := rfl

theorem f34_at : assoc G.fns 34 = some f34_info := by kernel_rfl
theorem f34_in : f34_info.ext = false := rfl

theorem f38_at : assoc G.fns 38 = some f38_info := by kernel_rfl
theorem f38_in : f38_info.ext = false := rfl

theorem f10_at : assoc G.fns 10 = some f10_info := by kernel_rfl
theorem f10_in : f10_info.ext = false := rfl

theorem f44_at : assoc G.fns 44 = some f44_info := by kernel_rfl
theorem f44_in : f44_info.ext = false := rfl

theorem f41_at : assoc G.fns 41 = some f41_info := by kernel_rfl
theorem f41_in : f41_info.ext = false := rfl

theorem f97_at : assoc G.fns 97 = some f97_info := by kernel_rfl
theorem f97_in : f97_info.ext = false := rfl

theorem f119_at : assoc G.fns 119 = some f119_info := by kernel_rfl
theorem f119_in : f119_info.ext = false := rfl

theorem f164_at : assoc G.fns 164 = some f164_info := by kernel_rfl
theorem f164_in : f164_info.ext = false := rfl

theorem f134_at : assoc G.fns 134 = some f134_info := by kernel_rfl
theorem f134_in : f134_info.ext = false := rfl

theorem f162_at : assoc G.fns 162 = some f162_info := by kernel_rfl
theorem f162_in : f162_info.ext = false := rfl

theorem f186_at : assoc G.fns 186 = some f186_info := by kernel_rfl
theorem f186_in : f186_info.ext = false := rfl

theorem f163_at : assoc G.fns 163 = some f163_info := by kernel_rfl
theorem f163_in : f163_info.ext = false := rfl

theorem f169_at : assoc G.fns 169 = some f169_info := by kernel_rfl
theorem f169_in : f169_info.ext = false := rfl

theorem f139_at : assoc G.fns 139 = some f139_info := by kernel_rfl
theorem f139_in : f139_info.ext = false := rfl

theorem f99_at : assoc G.fns 99 = some f99_info := by kernel_rfl
theorem f99_in : f99_info.ext = false := rfl

theorem f140_at : assoc G.fns 140 = some f140_info := by kernel_rfl
theorem f140_in : f140_info.ext = false := rfl

theorem f112_at : assoc G.fns 112 = some f112_info := by kernel_rfl
theorem f112_in : f112_info.ext = false := rfl

theorem f72_at : assoc G.fns 72 = some f72_info := by kernel_rfl
theorem f72_in : f72_info.ext = false := rfl

theorem f40_at : assoc G.fns 40 = some f40_info := by kernel_rfl
theorem f40_in : f40_info.ext = false := rfl

theorem f39_at : assoc G.fns 39 = some f39_info := by kernel_rfl
theorem f39_in : f39_info.ext = false := rfl

theorem f74_at : assoc G.fns 74 = some f74_info := by kernel_rfl
theorem f74_in : f74_info.ext = false := rfl

theorem f78_at : assoc G.fns 78 = some f78_info := by kernel_rfl
theorem f78_in : f78_info.ext = false := rfl

theorem f43_at : assoc G.fns 43 = some f43_info := by kernel_rfl
theorem f43_in : f43_info.ext = false := rfl

theorem f75_at : assoc G.fns 75 = some f75_info := by kernel_rfl
theorem f75_in : f75_info.ext = false := rfl

theorem f42_at : assoc G.fns 42 = some f42_info := by kernel_rfl
theorem f42_in : f42_info.ext = false := rfl

theorem f11_at : assoc G.fns 11 = some f11_info := by kernel_rfl
theorem f11_in : f11_info.ext = false := rfl

theorem f24_at : assoc G.fns 24 = some f24_info := by kernel_rfl
theorem f24_in : f24_info.ext = false := rfl

theorem f13_at : assoc G.fns 13 = some f13_info := by kernel_rfl
theorem f13_in : f13_info.ext = false := rfl

theorem f45_at : assoc G.fns 45 = some f45_info := by kernel_rfl
theorem f45_in : f45_info.ext = false := rfl

theorem f225_at : assoc G.fns 225 = some f225_info := by kernel_rfl
theorem f225_in : f225_info.ext = false := rfl

theorem f232_at : assoc G.fns 232 = some f232_info := by kernel_rfl
theorem f232_in : f232_info.ext = false := rfl

theorem f235_at : assoc G.fns 235 = some f235_info := by kernel_rfl
theorem f235_in : f235_info.ext = false := rfl

theorem f234_at : assoc G.fns 234 = some f234_info := by kernel_rfl
theorem f234_in : f234_info.ext = false := rfl

theorem f226_at : assoc G.fns 226 = some f226_info := by kernel_rfl
theorem f226_in : f226_info.ext = false := rfl

theorem f233_at : assoc G.fns 233 = some f233_info := by kernel_rfl
theorem f233_in : f233_info.ext = false := rfl

theorem f224_at : assoc G.fns 224 = some f224_info := by kernel_rfl
theorem f224_in : f224_info.ext = false := rfl

theorem f215_at : assoc G.fns 215 = some f215_info := by kernel_rfl
theorem f215_in : f215_info.ext = false := rfl

theorem f196_at : assoc G.fns 196 = some f196_info := by kernel_rfl
theorem f196_in : f196_info.ext = false := rfl

theorem f197_at : assoc G.fns 197 = some f197_info := by kernel_rfl
theorem f197_in : f197_info.ext = false := rfl

theorem f175_at : assoc G.fns 175 = some f175_info := by kernel_rfl
theorem f175_in : f175_info.ext = false := rfl

theorem f146_at : assoc G.fns 146 = some f146_info := by kernel_rfl
theorem f146_in : f146_info.ext = false := rfl

theorem f117_at : assoc G.fns 117 = some f117_info := by kernel_rfl
theorem f117_in : f117_info.ext = false := rfl

theorem f147_at : assoc G.fns 147 = some f147_info := by kernel_rfl
theorem f147_in : f147_info.ext = false := rfl

theorem f176_at : assoc G.fns 176 = some f176_info := by kernel_rfl
theorem f176_in : f176_info.ext = false := rfl

theorem f148_at : assoc G.fns 148 = some f148_info := by kernel_rfl
theorem f148_in : f148_info.ext = false := rfl

theorem f118_at : assoc G.fns 118 = some f118_info := by kernel_rfl
theorem f118_in : f118_info.ext = false := rfl

theorem f81_at : assoc G.fns 81 = some f81_info := by kernel_rfl
theorem f81_in : f81_info.ext = false := rfl

theorem f47_at : assoc G.fns 47 = some f47_info := by kernel_rfl
theorem f47_in : f47_info.ext = false := rfl

theorem f14_at : assoc G.fns 14 = some f14_info := by kernel_rfl
theorem f14_in : f14_info.ext = false := rfl

theorem f21_at : assoc G.fns 21 = some f21_info := by kernel_rfl
theorem f21_in : f21_info.ext = false := rfl

theorem f83_at : assoc G.fns 83 = some f83_info := by kernel_rfl
theorem f83_in : f83_info.ext = false := rfl

theorem f49_at : assoc G.fns 49 = some f49_info := by kernel_rfl
theorem f49_in : f49_info.ext = false := rfl

theorem f16_at : assoc G.fns 16 = some f16_info := by kernel_rfl
theorem f16_in : f16_info.ext = false := rfl

theorem f84_at : assoc G.fns 84 = some f84_info := by kernel_rfl
theorem f84_in : f84_info.ext = false := rfl

theorem f133_at : assoc G.fns 133 = some f133_info := by kernel_rfl
theorem f133_in : f133_info.ext = false := rfl

theorem f98_at : assoc G.fns 98 = some f98_info := by kernel_rfl
theorem f98_in : f98_info.ext = false := rfl

theorem f85_at : assoc G.fns 85 = some f85_info := by kernel_rfl
theorem f85_in : f85_info.ext = false := rfl

theorem f50_at : assoc G.fns 50 = some f50_info := by kernel_rfl
theorem f50_in : f50_info.ext = false := rfl

theorem f18_at : assoc G.fns 18 = some f18_info := by kernel_rfl
theorem f18_in : f18_info.ext = false := rfl

theorem f61_at : assoc G.fns 61 = some f61_info := by kernel_rfl
theorem f61_in : f61_info.ext = false := rfl

theorem f62_at : assoc G.fns 62 = some f62_info := by kernel_rfl
theorem f62_in : f62_info.ext = false := rfl

theorem f63_at : assoc G.fns 63 = some f63_info := by kernel_rfl
theorem f63_in : f63_info.ext = false := rfl

theorem f29_at : assoc G.fns 29 = some f29_info := by kernel_rfl
theorem f29_in : f29_info.ext = false := rfl

theorem f8_at : assoc G.fns 8 = some f8_info := by kernel_rfl
theorem f8_in : f8_info.ext = false := rfl

theorem f96_at : assoc G.fns 96 = some f96_info := by kernel_rfl
theorem f96_in : f96_info.ext = false := rfl

theorem f58_at : assoc G.fns 58 = some f58_info := by kernel_rfl
theorem f58_in : f58_info.ext = false := rfl

end Go.Proofs.YtogehijjhibdkaaGreat.Ev

/- The functions, and what the evaluator is told of them: printed by gen.py. -/
import Derived.Test.YtddcooedbibehaaEvT3
import Derived.Test.YtddcooedbibehaaProg
import Derived.KernelRfl
namespace Go.Proofs.Ytddcooedbibehaa.Ev
open Go Go.RowKit
set_option maxRecDepth 100000


noncomputable def bodyOf (f : Func) : Code := f.body.getD .skip

def sub : List Nat → Code → Code
  | [], c => c
  | i :: r, .seq x y => sub r (bif Nat.beq i 0 then x else y)
  | i :: r, .cond _ x y => sub r (bif Nat.beq i 0 then x else y)
  | _ :: r, .block _ c => sub r c
  | _ :: r, .loop c => sub r c
  | _, c => c

theorem runE_succ {G : Env} {ext : Run} {n : Nat} {f : FuncId} {i : FnInfo} {xs : List AV} (h : assoc G.fns f = some i) (hx : i.ext = false) : runE G ext (n + 1) f xs = evalK G (runE G ext n) n i.keep 0 i.body (retE G i) (i.start xs) := by
  simp only [runE, h, hx, cond_false]

/- strings.Join: by its contract -/
noncomputable def f118_body : Code := bodyOf Try.f118
noncomputable def f118_info : FnInfo := ⟨[.val (.slice .str), .val .str], [.val .str], 75, [.tmp 4], f118_body, [], false, true⟩

/- strings.Repeat: by its contract -/
noncomputable def f127_body : Code := bodyOf Try.f127
noncomputable def f127_info : FnInfo := ⟨[.val .str, .val (.int .i64)], [.val .str], 125, [.tmp 4], f127_body, [], false, true⟩

/- milepost/shape.Sides: by its contract -/
noncomputable def f70_body : Code := bodyOf Try.f70
noncomputable def f70_info : FnInfo := ⟨[.val (.int .i64), .val (.int .i64)], [.val (.slice .bool)], 22, [.tmp 4], f70_body, [], true, true⟩

/- milepost/milepostlaw12.Much -/
noncomputable def f10_body : Code := bodyOf Try.f10
def f10_fresh : Bool := false
def f10_t0 : List Nat := [0, 3, 4]
def f10_o0 : List Nat := []
def f10_keep : List (Nat × (List Nat × List Nat)) := [(0, (f10_t0, f10_o0))]
noncomputable def f10_info : FnInfo := ⟨[.val (.slice .str)], [.val .bool], 30, [.tmp 2], f10_body, f10_keep, f10_fresh, false⟩

/- milepost/multi.rising -/
noncomputable def f63_body : Code := bodyOf Try.f63
def f63_fresh : Bool := false
def f63_t0 : List Nat := [0, 1, 7, 8, 9]
def f63_o0 : List Nat := []
def f63_keep : List (Nat × (List Nat × List Nat)) := [(0, (f63_t0, f63_o0))]
noncomputable def f63_info : FnInfo := ⟨[.val (.int .i64), .val (.slice (.int .i64))], [.val .bool], 38, [.tmp 4], f63_body, f63_keep, f63_fresh, false⟩

/- milepost/shape.Left -/
noncomputable def f36_body : Code := bodyOf Try.f36
def f36_fresh : Bool := false
def f36_t0 : List Nat := [0, 3]
def f36_o0 : List Nat := []
def f36_keep : List (Nat × (List Nat × List Nat)) := [(0, (f36_t0, f36_o0))]
noncomputable def f36_info : FnInfo := ⟨[.val (.int .i64)], [.val (.int .i64)], 14, [.tmp 2], f36_body, f36_keep, f36_fresh, false⟩

/- milepost/multi.parted -/
noncomputable def f37_body : Code := bodyOf Try.f37
def f37_fresh : Bool := false
def f37_t0 : List Nat := [0, 1, 6]
def f37_o0 : List Nat := []
def f37_t2 : List Nat := [0, 1, 6, 7, 26, 27, 28]
def f37_o2 : List Nat := []
def f37_keep : List (Nat × (List Nat × List Nat)) := [(0, (f37_t0, f37_o0)), (2, (f37_t2, f37_o2))]
noncomputable def f37_info : FnInfo := ⟨[.val (.slice (.int .i64)), .val (.int .i64)], [.val (.slice (.int .i64)), .val (.slice (.int .i64))], 43, [.tmp 4, .tmp 5], f37_body, f37_keep, f37_fresh, false⟩

/- milepost/multi.need -/
noncomputable def f64_body : Code := bodyOf Try.f64
def f64_fresh : Bool := false
def f64_keep : List (Nat × (List Nat × List Nat)) := []
noncomputable def f64_info : FnInfo := ⟨[.val (.int .i64), .val (.slice (.int .i64))], [.val (.int .i64)], 32, [.tmp 4], f64_body, f64_keep, f64_fresh, false⟩

/- milepost/multi.Need -/
noncomputable def f32_body : Code := bodyOf Try.f32
def f32_fresh : Bool := false
def f32_keep : List (Nat × (List Nat × List Nat)) := []
noncomputable def f32_info : FnInfo := ⟨[.val (.int .i64), .val (.slice (.int .i64))], [.val (.int .i64)], 12, [.tmp 4], f32_body, f32_keep, f32_fresh, false⟩

/- milepost/milepostlaw16.awake -/
noncomputable def f11_body : Code := bodyOf Try.f11
def f11_fresh : Bool := false
def f11_keep : List (Nat × (List Nat × List Nat)) := []
noncomputable def f11_info : FnInfo := ⟨[], [.val .bool], 13, [.tmp 0], f11_body, f11_keep, f11_fresh, false⟩

/- milepost/multi.May -/
noncomputable def f33_body : Code := bodyOf Try.f33
def f33_fresh : Bool := false
def f33_keep : List (Nat × (List Nat × List Nat)) := []
noncomputable def f33_info : FnInfo := ⟨[.val (.int .i64), .val (.struct [(.int .i64), (.slice (.int .i64)), (.slice (.blob 32))])], [.val (.int .i64)], 39, [.tmp 4], f33_body, f33_keep, f33_fresh, false⟩

/- milepost/tag.Text -/
noncomputable def f98_body : Code := bodyOf Try.f98
def f98_fresh : Bool := false
def f98_keep : List (Nat × (List Nat × List Nat)) := []
noncomputable def f98_info : FnInfo := ⟨[.val (.int .u8), .val (.slice .str)], [.val .str], 11, [.tmp 4], f98_body, f98_keep, f98_fresh, false⟩

/- milepost/tag.LeafText -/
noncomputable def f99_body : Code := bodyOf Try.f99
def f99_fresh : Bool := false
def f99_keep : List (Nat × (List Nat × List Nat)) := []
noncomputable def f99_info : FnInfo := ⟨[.val .str], [.val .str], 6, [.tmp 2], f99_body, f99_keep, f99_fresh, false⟩

/- milepost/sha.New -/
noncomputable def f95_body : Code := bodyOf Try.f95
def f95_fresh : Bool := false
def f95_keep : List (Nat × (List Nat × List Nat)) := []
noncomputable def f95_info : FnInfo := ⟨[], [.ptr (.struct [(.arr 8 (.int .u32)), .str, (.int .u64), .bool])], 3, [.tmp 0], f95_body, f95_keep, f95_fresh, false⟩

/- milepost/sha.First -/
noncomputable def f115_body : Code := bodyOf Try.f115
def f115_fresh : Bool := false
def f115_keep : List (Nat × (List Nat × List Nat)) := []
noncomputable def f115_info : FnInfo := ⟨[], [.val (.arr 8 (.int .u32))], 2, [.cell 0 158], f115_body, f115_keep, f115_fresh, false⟩

/- milepost/word.take -/
noncomputable def f104_body : Code := bodyOf Try.f104
def f104_fresh : Bool := false
def f104_t0 : List Nat := [0, 1, 7, 9, 10]
def f104_o0 : List Nat := []
def f104_keep : List (Nat × (List Nat × List Nat)) := [(0, (f104_t0, f104_o0))]
noncomputable def f104_info : FnInfo := ⟨[.val .str, .val (.int .i64), .val (.int .i64)], [.val (.int .u64)], 41, [.tmp 6], f104_body, f104_keep, f104_fresh, false⟩

/- milepost/word.Take32 -/
noncomputable def f135_body : Code := bodyOf Try.f135
def f135_fresh : Bool := false
def f135_keep : List (Nat × (List Nat × List Nat)) := []
noncomputable def f135_info : FnInfo := ⟨[.val .str, .val (.int .i64)], [.val (.int .u32)], 9, [.tmp 4], f135_body, f135_keep, f135_fresh, false⟩

/- milepost/word.Rot -/
noncomputable def f126_body : Code := bodyOf Try.f126
def f126_fresh : Bool := false
def f126_keep : List (Nat × (List Nat × List Nat)) := []
noncomputable def f126_info : FnInfo := ⟨[.val (.int .u32), .val (.int .i64)], [.val (.int .u32)], 17, [.tmp 4], f126_body, f126_keep, f126_fresh, false⟩

/- milepost/sha.Spread -/
noncomputable def f124_body : Code := bodyOf Try.f124
def f124_fresh : Bool := false
def f124_t0 : List Nat := [0, 2, 3, 9]
def f124_o0 : List Nat := [2, 3]
def f124_keep : List (Nat × (List Nat × List Nat)) := [(0, (f124_t0, f124_o0))]
noncomputable def f124_info : FnInfo := ⟨[.val .str], [.val (.arr 64 (.int .u32))], 61, [.cell 2 167], f124_body, f124_keep, f124_fresh, false⟩

/- milepost/sha.rounds -/
noncomputable def f125_body : Code := bodyOf Try.f125
def f125_fresh : Bool := false
def f125_keep : List (Nat × (List Nat × List Nat)) := []
noncomputable def f125_info : FnInfo := ⟨[], [.val (.arr 64 (.int .u32))], 2, [.cell 0 167], f125_body, f125_keep, f125_fresh, false⟩

/- milepost/sha.Mix -/
noncomputable def f116_body : Code := bodyOf Try.f116
def f116_fresh : Bool := false
def f116_t0 : List Nat := [2, 4, 5, 6, 7, 18]
def f116_o0 : List Nat := [2, 4, 5, 6, 7]
def f116_t2 : List Nat := [2, 4, 7, 109]
def f116_o2 : List Nat := [2, 4, 7]
def f116_keep : List (Nat × (List Nat × List Nat)) := [(0, (f116_t0, f116_o0)), (2, (f116_t2, f116_o2))]
noncomputable def f116_info : FnInfo := ⟨[.val (.arr 8 (.int .u32)), .val .str], [.val (.arr 8 (.int .u32))], 122, [.cell 4 158], f116_body, f116_keep, f116_fresh, false⟩

/- (*milepost/sha.State).Write -/
noncomputable def f96_body : Code := bodyOf Try.f96
def f96_fresh : Bool := false
def f96_t0 : List Nat := [0, 4]
def f96_o0 : List Nat := [0]
def f96_keep : List (Nat × (List Nat × List Nat)) := [(0, (f96_t0, f96_o0))]
noncomputable def f96_info : FnInfo := ⟨[.ptr (.struct [(.arr 8 (.int .u32)), .str, (.int .u64), .bool]), .val .str], [], 72, [], f96_body, f96_keep, f96_fresh, false⟩

/- milepost/word.put -/
noncomputable def f105_body : Code := bodyOf Try.f105
def f105_fresh : Bool := false
def f105_t0 : List Nat := [0, 1, 5, 9, 10]
def f105_o0 : List Nat := [8]
def f105_keep : List (Nat × (List Nat × List Nat)) := [(0, (f105_t0, f105_o0))]
noncomputable def f105_info : FnInfo := ⟨[.val (.int .u64), .val (.int .i64)], [.val .str], 26, [.tmp 4], f105_body, f105_keep, f105_fresh, false⟩

/- milepost/word.Put64 -/
noncomputable def f79_body : Code := bodyOf Try.f79
def f79_fresh : Bool := false
def f79_keep : List (Nat × (List Nat × List Nat)) := []
noncomputable def f79_info : FnInfo := ⟨[.val (.int .u64)], [.val .str], 5, [.tmp 2], f79_body, f79_keep, f79_fresh, false⟩

/- milepost/sha.Pad -/
noncomputable def f117_body : Code := bodyOf Try.f117
def f117_fresh : Bool := false
def f117_keep : List (Nat × (List Nat × List Nat)) := []
noncomputable def f117_info : FnInfo := ⟨[.val (.int .u64)], [.val .str], 16, [.tmp 2], f117_body, f117_keep, f117_fresh, false⟩

/- milepost/word.Put32 -/
noncomputable def f78_body : Code := bodyOf Try.f78
def f78_fresh : Bool := false
def f78_keep : List (Nat × (List Nat × List Nat)) := []
noncomputable def f78_info : FnInfo := ⟨[.val (.int .u32)], [.val .str], 6, [.tmp 2], f78_body, f78_keep, f78_fresh, false⟩

/- (*milepost/sha.State).Sum -/
noncomputable def f97_body : Code := bodyOf Try.f97
def f97_fresh : Bool := false
def f97_t0 : List Nat := [0, 2, 4, 18, 19]
def f97_o0 : List Nat := [0, 2, 4]
def f97_keep : List (Nat × (List Nat × List Nat)) := [(0, (f97_t0, f97_o0))]
noncomputable def f97_info : FnInfo := ⟨[.ptr (.struct [(.arr 8 (.int .u32)), .str, (.int .u64), .bool])], [.val (.blob 32)], 37, [.cell 2 30], f97_body, f97_keep, f97_fresh, false⟩

/- milepost/sha.Sum -/
noncomputable def f65_body : Code := bodyOf Try.f65
def f65_fresh : Bool := false
def f65_keep : List (Nat × (List Nat × List Nat)) := []
noncomputable def f65_info : FnInfo := ⟨[.val .str], [.val (.blob 32)], 10, [.cell 2 30], f65_body, f65_keep, f65_fresh, false⟩

/- milepost/tag.LeafSum -/
noncomputable def f67_body : Code := bodyOf Try.f67
def f67_fresh : Bool := false
def f67_keep : List (Nat × (List Nat × List Nat)) := []
noncomputable def f67_info : FnInfo := ⟨[.val .str], [.val (.blob 32)], 6, [.cell 2 30], f67_body, f67_keep, f67_fresh, false⟩

/- milepost/tag.NodeText -/
noncomputable def f100_body : Code := bodyOf Try.f100
def f100_fresh : Bool := false
def f100_keep : List (Nat × (List Nat × List Nat)) := []
noncomputable def f100_info : FnInfo := ⟨[.val (.blob 32), .val (.blob 32)], [.val .str], 11, [.tmp 4], f100_body, f100_keep, f100_fresh, false⟩

/- milepost/tag.NodeSum -/
noncomputable def f68_body : Code := bodyOf Try.f68
def f68_fresh : Bool := false
def f68_keep : List (Nat × (List Nat × List Nat)) := []
noncomputable def f68_info : FnInfo := ⟨[.val (.blob 32), .val (.blob 32)], [.val (.blob 32)], 9, [.cell 4 30], f68_body, f68_keep, f68_fresh, false⟩

/- (*milepost/multi.walker).top -/
noncomputable def f35_body : Code := bodyOf Try.f35
def f35_fresh : Bool := false
def f35_keep : List (Nat × (List Nat × List Nat)) := []
noncomputable def f35_info : FnInfo := ⟨[.ptr (.struct [(.slice .str), (.slice (.blob 32))]), .val (.int .i64), .val (.slice (.int .i64))], [.val (.blob 32)], 69, [.cell 6 30], f35_body, f35_keep, f35_fresh, false⟩

/- milepost/tag.RootText -/
noncomputable def f66_body : Code := bodyOf Try.f66
def f66_fresh : Bool := false
def f66_keep : List (Nat × (List Nat × List Nat)) := []
noncomputable def f66_info : FnInfo := ⟨[.val (.int .u64), .val (.blob 32)], [.val .str], 11, [.tmp 4], f66_body, f66_keep, f66_fresh, false⟩

/- milepost/tag.RootSum -/
noncomputable def f34_body : Code := bodyOf Try.f34
def f34_fresh : Bool := false
def f34_keep : List (Nat × (List Nat × List Nat)) := []
noncomputable def f34_info : FnInfo := ⟨[.val (.int .u64), .val (.blob 32)], [.val (.blob 32)], 9, [.cell 4 30], f34_body, f34_keep, f34_fresh, false⟩

/- milepost/multi.Root -/
noncomputable def f12_body : Code := bodyOf Try.f12
def f12_fresh : Bool := false
def f12_keep : List (Nat × (List Nat × List Nat)) := []
noncomputable def f12_info : FnInfo := ⟨[.val (.slice .str), .val (.struct [(.int .i64), (.slice (.int .i64)), (.slice (.blob 32))])], [.val (.blob 32), .val (.int .i64)], 31, [.cell 4 30, .tmp 5], f12_body, f12_keep, f12_fresh, false⟩

/- (*milepost/multi.walker).skip -/
noncomputable def f38_body : Code := bodyOf Try.f38
def f38_fresh : Bool := false
def f38_keep : List (Nat × (List Nat × List Nat)) := []
noncomputable def f38_info : FnInfo := ⟨[.ptr (.struct [(.slice .str), (.slice (.blob 32))]), .val (.int .i64), .val (.slice (.int .i64))], [], 27, [], f38_body, f38_keep, f38_fresh, false⟩

/- milepost/multi.One -/
noncomputable def f13_body : Code := bodyOf Try.f13
def f13_fresh : Bool := false
def f13_t0 : List Nat := [6, 8, 9, 10, 11, 12]
def f13_o0 : List Nat := [6, 11, 51]
def f13_keep : List (Nat × (List Nat × List Nat)) := [(0, (f13_t0, f13_o0))]
noncomputable def f13_info : FnInfo := ⟨[.val (.slice .str), .val (.struct [(.int .i64), (.slice (.int .i64)), (.slice (.blob 32))]), .val (.int .i64)], [.val (.struct [(.int .i64), (.int .i64), (.slice (.blob 32))]), .val .bool], 96, [.cell 6 35, .tmp 7], f13_body, f13_keep, f13_fresh, false⟩

/- milepost/shape.Depth -/
noncomputable def f69_body : Code := bodyOf Try.f69
def f69_fresh : Bool := false
def f69_keep : List (Nat × (List Nat × List Nat)) := []
noncomputable def f69_info : FnInfo := ⟨[.val (.int .i64), .val (.int .i64)], [.val (.int .i64)], 16, [.tmp 4], f69_body, f69_keep, f69_fresh, false⟩

/- milepost/hold.May -/
noncomputable def f39_body : Code := bodyOf Try.f39
def f39_fresh : Bool := false
def f39_keep : List (Nat × (List Nat × List Nat)) := []
noncomputable def f39_info : FnInfo := ⟨[.val (.struct [(.int .i64), (.int .i64), (.slice (.blob 32))])], [.val (.int .i64)], 34, [.tmp 2], f39_body, f39_keep, f39_fresh, false⟩

/- milepost/hold.Up -/
noncomputable def f40_body : Code := bodyOf Try.f40
def f40_fresh : Bool := true
def f40_t0 : List Nat := [3, 5, 6, 20, 21, 22]
def f40_o0 : List Nat := [3, 5]
def f40_keep : List (Nat × (List Nat × List Nat)) := [(0, (f40_t0, f40_o0))]
noncomputable def f40_info : FnInfo := ⟨[.val .str, .val (.struct [(.int .i64), (.int .i64), (.slice (.blob 32))])], [.val (.slice (.blob 32))], 48, [.tmp 4], f40_body, f40_keep, f40_fresh, false⟩

/- milepost/hold.Root -/
noncomputable def f14_body : Code := bodyOf Try.f14
def f14_fresh : Bool := false
def f14_keep : List (Nat × (List Nat × List Nat)) := []
noncomputable def f14_info : FnInfo := ⟨[.val .str, .val (.struct [(.int .i64), (.int .i64), (.slice (.blob 32))])], [.val (.blob 32), .val (.int .i64)], 27, [.cell 4 30, .tmp 5], f14_body, f14_keep, f14_fresh, false⟩

/- milepost/milepostlaw16.MultiAlone -/
noncomputable def f3_body : Code := bodyOf Try.f3
def f3_fresh : Bool := false
def f3_keep : List (Nat × (List Nat × List Nat)) := []
noncomputable def f3_info : FnInfo := ⟨[.val (.slice .str), .val (.struct [(.int .i64), (.slice (.int .i64)), (.slice (.blob 32))]), .val (.int .i64)], [.val .bool], 114, [.tmp 6], f3_body, f3_keep, f3_fresh, false⟩

/- milepost/milepostlaw30.Much -/
noncomputable def f15_body : Code := bodyOf Try.f15
def f15_fresh : Bool := false
def f15_t0 : List Nat := [0, 3, 4]
def f15_o0 : List Nat := []
def f15_keep : List (Nat × (List Nat × List Nat)) := [(0, (f15_t0, f15_o0))]
noncomputable def f15_info : FnInfo := ⟨[.val (.slice (.struct [(.struct [(.int .u32), (.blob 32), (.blob 32), (.int .u64)]), (.struct [(.int .i64), (.int .i64), (.slice (.blob 32))])]))], [.val .bool], 42, [.tmp 2], f15_body, f15_keep, f15_fresh, false⟩

/- milepost/open.Same -/
noncomputable def f103_body : Code := bodyOf Try.f103
def f103_fresh : Bool := false
def f103_t0 : List Nat := [2, 3, 29, 30]
def f103_o0 : List Nat := [2, 3]
def f103_keep : List (Nat × (List Nat × List Nat)) := [(0, (f103_t0, f103_o0))]
noncomputable def f103_info : FnInfo := ⟨[.val (.struct [(.int .i64), (.int .i64), (.slice (.blob 32))]), .val (.struct [(.int .i64), (.int .i64), (.slice (.blob 32))])], [.val .bool], 45, [.tmp 4], f103_body, f103_keep, f103_fresh, false⟩

/- milepost/open.None -/
noncomputable def f71_body : Code := bodyOf Try.f71
def f71_fresh : Bool := false
def f71_keep : List (Nat × (List Nat × List Nat)) := []
noncomputable def f71_info : FnInfo := ⟨[.val (.struct [(.int .i64), (.int .i64), (.slice (.blob 32))])], [.val .bool], 6, [.tmp 2], f71_body, f71_keep, f71_fresh, false⟩

/- milepost/anchor.Check -/
noncomputable def f41_body : Code := bodyOf Try.f41
def f41_fresh : Bool := false
def f41_keep : List (Nat × (List Nat × List Nat)) := []
noncomputable def f41_info : FnInfo := ⟨[.val (.struct [(.int .u32), (.blob 32), (.blob 32), (.int .u64)]), .val (.slice (.struct [(.struct [(.int .u32), (.blob 32), (.blob 32), (.int .u64)]), (.struct [(.int .i64), (.int .i64), (.slice (.blob 32))])]))], [.val (.int .i64)], 23, [.tmp 4], f41_body, f41_keep, f41_fresh, false⟩

/- milepost/valid.rules -/
noncomputable def f42_body : Code := bodyOf Try.f42
def f42_fresh : Bool := true
def f42_keep : List (Nat × (List Nat × List Nat)) := []
noncomputable def f42_info : FnInfo := ⟨[.val (.struct [(.struct [(.int .u32), (.blob 32), (.blob 32), (.int .u64)]), (.blob 32), (.int .i64), (.int .i64), (.int .i64), (.int .i64), (.int .i64), (.int .i64)]), .val (.slice (.struct [(.struct [(.int .u32), (.blob 32), (.blob 32), (.int .u64)]), (.struct [(.int .i64), (.int .i64), (.slice (.blob 32))])]))], [.val (.slice (.struct [(.clos [(72, ([], [0])), (73, ([], [0, 1])), (74, ([], [0]))] [(.pat (.slice (.struct [(.struct [(.int .u32), (.blob 32), (.blob 32), (.int .u64)]), (.struct [(.int .i64), (.int .i64), (.slice (.blob 32))])]))), (.pat (.struct [(.struct [(.int .u32), (.blob 32), (.blob 32), (.int .u64)]), (.blob 32), (.int .i64), (.int .i64), (.int .i64), (.int .i64), (.int .i64), (.int .i64)]))]), (.int .i64)]))], 12, [.tmp 4], f42_body, f42_keep, f42_fresh, false⟩

/- milepost/head.Bytes -/
noncomputable def f47_body : Code := bodyOf Try.f47
def f47_fresh : Bool := false
def f47_keep : List (Nat × (List Nat × List Nat)) := []
noncomputable def f47_info : FnInfo := ⟨[.val (.struct [(.int .u32), (.blob 32), (.blob 32), (.int .u64)])], [.val .str], 18, [.tmp 2], f47_body, f47_keep, f47_fresh, false⟩

/- milepost/tag.HeaderText -/
noncomputable def f77_body : Code := bodyOf Try.f77
def f77_fresh : Bool := false
def f77_keep : List (Nat × (List Nat × List Nat)) := []
noncomputable def f77_info : FnInfo := ⟨[.val .str], [.val .str], 6, [.tmp 2], f77_body, f77_keep, f77_fresh, false⟩

/- milepost/tag.HeaderSum -/
noncomputable def f46_body : Code := bodyOf Try.f46
def f46_fresh : Bool := false
def f46_keep : List (Nat × (List Nat × List Nat)) := []
noncomputable def f46_info : FnInfo := ⟨[.val .str], [.val (.blob 32)], 6, [.cell 2 30], f46_body, f46_keep, f46_fresh, false⟩

/- milepost/ident.Id -/
noncomputable def f19_body : Code := bodyOf Try.f19
def f19_fresh : Bool := false
def f19_keep : List (Nat × (List Nat × List Nat)) := []
noncomputable def f19_info : FnInfo := ⟨[.val (.struct [(.int .u32), (.blob 32), (.blob 32), (.int .u64)])], [.val (.blob 32)], 6, [.cell 2 30], f19_body, f19_keep, f19_fresh, false⟩

/- milepost/link.Text -/
noncomputable def f81_body : Code := bodyOf Try.f81
def f81_fresh : Bool := false
def f81_keep : List (Nat × (List Nat × List Nat)) := []
noncomputable def f81_info : FnInfo := ⟨[.val (.blob 32)], [.val .str], 6, [.tmp 2], f81_body, f81_keep, f81_fresh, false⟩

/- milepost/hold.Check -/
noncomputable def f80_body : Code := bodyOf Try.f80
def f80_fresh : Bool := false
def f80_keep : List (Nat × (List Nat × List Nat)) := []
noncomputable def f80_info : FnInfo := ⟨[.val (.blob 32), .val .str, .val (.struct [(.int .i64), (.int .i64), (.slice (.blob 32))])], [.val .bool], 22, [.tmp 6], f80_body, f80_keep, f80_fresh, false⟩

/- milepost/link.Check -/
noncomputable def f48_body : Code := bodyOf Try.f48
def f48_fresh : Bool := false
def f48_keep : List (Nat × (List Nat × List Nat)) := []
noncomputable def f48_info : FnInfo := ⟨[.val (.blob 32), .val (.blob 32), .val (.struct [(.int .i64), (.int .i64), (.slice (.blob 32))])], [.val .bool], 17, [.tmp 6], f48_body, f48_keep, f48_fresh, false⟩

/- milepost/join.Holds -/
noncomputable def f21_body : Code := bodyOf Try.f21
def f21_fresh : Bool := false
def f21_keep : List (Nat × (List Nat × List Nat)) := []
noncomputable def f21_info : FnInfo := ⟨[.val (.struct [(.struct [(.int .u32), (.blob 32), (.blob 32), (.int .u64)]), (.struct [(.int .i64), (.int .i64), (.slice (.blob 32))])]), .val (.struct [(.int .u32), (.blob 32), (.blob 32), (.int .u64)])], [.val .bool], 13, [.tmp 4], f21_body, f21_keep, f21_fresh, false⟩

/- milepost/valid.rules$3 -/
noncomputable def f74_body : Code := bodyOf Try.f74
def f74_fresh : Bool := false
def f74_keep : List (Nat × (List Nat × List Nat)) := []
noncomputable def f74_info : FnInfo := ⟨[.val (.int .i64), .val (.pat (.slice (.struct [(.struct [(.int .u32), (.blob 32), (.blob 32), (.int .u64)]), (.struct [(.int .i64), (.int .i64), (.slice (.blob 32))])])))], [.val .bool], 19, [.tmp 3], f74_body, f74_keep, f74_fresh, false⟩

/- milepost/word.Take64 -/
noncomputable def f76_body : Code := bodyOf Try.f76
def f76_fresh : Bool := false
def f76_keep : List (Nat × (List Nat × List Nat)) := []
noncomputable def f76_info : FnInfo := ⟨[.val .str, .val (.int .i64)], [.val (.int .u64)], 8, [.tmp 4], f76_body, f76_keep, f76_fresh, false⟩

/- milepost/wide.Of -/
noncomputable def f45_body : Code := bodyOf Try.f45
def f45_fresh : Bool := false
def f45_t0 : List Nat := [1, 2, 3, 5]
def f45_o0 : List Nat := [1, 2, 3]
def f45_keep : List (Nat × (List Nat × List Nat)) := [(0, (f45_t0, f45_o0))]
noncomputable def f45_info : FnInfo := ⟨[.val (.blob 32)], [.val (.arr 4 (.int .u64))], 18, [.cell 2 95], f45_body, f45_keep, f45_fresh, false⟩

/- milepost/wide.Cmp -/
noncomputable def f44_body : Code := bodyOf Try.f44
def f44_fresh : Bool := false
def f44_t0 : List Nat := [2, 3, 8]
def f44_o0 : List Nat := [2, 3]
def f44_keep : List (Nat × (List Nat × List Nat)) := [(0, (f44_t0, f44_o0))]
noncomputable def f44_info : FnInfo := ⟨[.val (.arr 4 (.int .u64)), .val (.arr 4 (.int .u64))], [.val (.int .i64)], 28, [.tmp 4], f44_body, f44_keep, f44_fresh, false⟩

/- milepost/work.Ok -/
noncomputable def f18_body : Code := bodyOf Try.f18
def f18_fresh : Bool := false
def f18_keep : List (Nat × (List Nat × List Nat)) := []
noncomputable def f18_info : FnInfo := ⟨[.val (.blob 32), .val (.blob 32)], [.val .bool], 11, [.tmp 4], f18_body, f18_keep, f18_fresh, false⟩

/- milepost/valid.rules$2 -/
noncomputable def f73_body : Code := bodyOf Try.f73
def f73_fresh : Bool := false
def f73_keep : List (Nat × (List Nat × List Nat)) := []
noncomputable def f73_info : FnInfo := ⟨[.val (.int .i64), .val (.pat (.slice (.struct [(.struct [(.int .u32), (.blob 32), (.blob 32), (.int .u64)]), (.struct [(.int .i64), (.int .i64), (.slice (.blob 32))])]))), .val (.pat (.struct [(.struct [(.int .u32), (.blob 32), (.blob 32), (.int .u64)]), (.blob 32), (.int .i64), (.int .i64), (.int .i64), (.int .i64), (.int .i64), (.int .i64)]))], [.val .bool], 14, [.tmp 4], f73_body, f73_keep, f73_fresh, false⟩

/- milepost/rise.Above -/
noncomputable def f20_body : Code := bodyOf Try.f20
def f20_fresh : Bool := false
def f20_keep : List (Nat × (List Nat × List Nat)) := []
noncomputable def f20_info : FnInfo := ⟨[.val (.struct [(.int .u32), (.blob 32), (.blob 32), (.int .u64)]), .val (.struct [(.int .u32), (.blob 32), (.blob 32), (.int .u64)])], [.val .bool], 10, [.tmp 4], f20_body, f20_keep, f20_fresh, false⟩

/- milepost/valid.rules$1 -/
noncomputable def f72_body : Code := bodyOf Try.f72
def f72_fresh : Bool := false
def f72_keep : List (Nat × (List Nat × List Nat)) := []
noncomputable def f72_info : FnInfo := ⟨[.val (.int .i64), .val (.pat (.slice (.struct [(.struct [(.int .u32), (.blob 32), (.blob 32), (.int .u64)]), (.struct [(.int .i64), (.int .i64), (.slice (.blob 32))])])))], [.val .bool], 20, [.tmp 3], f72_body, f72_keep, f72_fresh, false⟩

/- milepost/rise.Next -/
noncomputable def f22_body : Code := bodyOf Try.f22
def f22_fresh : Bool := false
def f22_keep : List (Nat × (List Nat × List Nat)) := []
noncomputable def f22_info : FnInfo := ⟨[.val (.struct [(.int .u32), (.blob 32), (.blob 32), (.int .u64)]), .val (.struct [(.int .u32), (.blob 32), (.blob 32), (.int .u64)])], [.val .bool], 16, [.tmp 4], f22_body, f22_keep, f22_fresh, false⟩

/- milepost/tail.Len -/
noncomputable def f75_body : Code := bodyOf Try.f75
def f75_fresh : Bool := false
def f75_t0 : List Nat := [0, 3, 4]
def f75_o0 : List Nat := []
def f75_keep : List (Nat × (List Nat × List Nat)) := [(0, (f75_t0, f75_o0))]
noncomputable def f75_info : FnInfo := ⟨[.val (.slice (.struct [(.struct [(.int .u32), (.blob 32), (.blob 32), (.int .u64)]), (.struct [(.int .i64), (.int .i64), (.slice (.blob 32))])]))], [.val (.int .i64)], 38, [.tmp 2], f75_body, f75_keep, f75_fresh, false⟩

/- milepost/tail.Check -/
noncomputable def f43_body : Code := bodyOf Try.f43
def f43_fresh : Bool := false
def f43_keep : List (Nat × (List Nat × List Nat)) := []
noncomputable def f43_info : FnInfo := ⟨[.val (.slice (.struct [(.struct [(.int .u32), (.blob 32), (.blob 32), (.int .u64)]), (.struct [(.int .i64), (.int .i64), (.slice (.blob 32))])])), .val (.int .i64)], [.val (.int .i64)], 9, [.tmp 4], f43_body, f43_keep, f43_fresh, false⟩

/- milepost/valid.Check -/
noncomputable def f16_body : Code := bodyOf Try.f16
def f16_fresh : Bool := false
def f16_t0 : List Nat := [1, 2, 4, 6, 23, 24]
def f16_o0 : List Nat := [4]
def f16_t2 : List Nat := [1, 2, 4, 6, 7, 23, 24, 27, 28, 29]
def f16_o2 : List Nat := [4]
def f16_keep : List (Nat × (List Nat × List Nat)) := [(0, (f16_t0, f16_o0)), (2, (f16_t2, f16_o2))]
noncomputable def f16_info : FnInfo := ⟨[.val (.struct [(.struct [(.int .u32), (.blob 32), (.blob 32), (.int .u64)]), (.blob 32), (.int .i64), (.int .i64), (.int .i64), (.int .i64), (.int .i64), (.int .i64)]), .val (.slice (.struct [(.struct [(.int .u32), (.blob 32), (.blob 32), (.int .u64)]), (.struct [(.int .i64), (.int .i64), (.slice (.blob 32))])]))], [.val (.struct [(.int .i64), (.int .i64)])], 55, [.cell 4 49], f16_body, f16_keep, f16_fresh, false⟩

/- milepost/milepostlaw37.awake -/
noncomputable def f17_body : Code := bodyOf Try.f17
def f17_fresh : Bool := false
def f17_t0 : List Nat := [1, 2]
def f17_o0 : List Nat := [1]
def f17_keep : List (Nat × (List Nat × List Nat)) := [(0, (f17_t0, f17_o0))]
noncomputable def f17_info : FnInfo := ⟨[], [.val .bool], 29, [.tmp 0], f17_body, f17_keep, f17_fresh, false⟩

/- milepost/milepostlaw37.ValidReached -/
noncomputable def f4_body : Code := bodyOf Try.f4
def f4_fresh : Bool := false
def f4_t0 : List Nat := [1, 2, 5, 6]
def f4_o0 : List Nat := []
def f4_keep : List (Nat × (List Nat × List Nat)) := [(0, (f4_t0, f4_o0))]
noncomputable def f4_info : FnInfo := ⟨[.val (.struct [(.struct [(.int .u32), (.blob 32), (.blob 32), (.int .u64)]), (.blob 32), (.int .i64), (.int .i64), (.int .i64), (.int .i64), (.int .i64), (.int .i64)]), .val (.slice (.struct [(.struct [(.int .u32), (.blob 32), (.blob 32), (.int .u64)]), (.struct [(.int .i64), (.int .i64), (.slice (.blob 32))])]))], [.val .bool], 124, [.tmp 4], f4_body, f4_keep, f4_fresh, false⟩

/- milepost/milepostlaw37.ValidBegins -/
noncomputable def f5_body : Code := bodyOf Try.f5
def f5_fresh : Bool := false
def f5_keep : List (Nat × (List Nat × List Nat)) := []
noncomputable def f5_info : FnInfo := ⟨[.val (.struct [(.struct [(.int .u32), (.blob 32), (.blob 32), (.int .u64)]), (.blob 32), (.int .i64), (.int .i64), (.int .i64), (.int .i64), (.int .i64), (.int .i64)]), .val (.slice (.struct [(.struct [(.int .u32), (.blob 32), (.blob 32), (.int .u64)]), (.struct [(.int .i64), (.int .i64), (.slice (.blob 32))])])), .val (.int .i64)], [.val .bool], 49, [.tmp 6], f5_body, f5_keep, f5_fresh, false⟩

/- milepost/txs.May -/
noncomputable def f106_body : Code := bodyOf Try.f106
def f106_fresh : Bool := false
def f106_t0 : List Nat := [8, 9, 10]
def f106_o0 : List Nat := []
def f106_keep : List (Nat × (List Nat × List Nat)) := [(0, (f106_t0, f106_o0))]
noncomputable def f106_info : FnInfo := ⟨[.val (.slice .str)], [.val (.int .i64)], 18, [.tmp 2], f106_body, f106_keep, f106_fresh, false⟩

/- milepost/link.texts -/
noncomputable def f132_body : Code := bodyOf Try.f132
def f132_fresh : Bool := true
def f132_t0 : List Nat := [3, 6, 7, 8]
def f132_o0 : List Nat := []
def f132_keep : List (Nat × (List Nat × List Nat)) := [(0, (f132_t0, f132_o0))]
noncomputable def f132_info : FnInfo := ⟨[.val (.slice (.blob 32))], [.val (.slice .str)], 19, [.tmp 2], f132_body, f132_keep, f132_fresh, false⟩

/- milepost/tree.each[string,milepost/api.Hash] -/
noncomputable def f149_body : Code := bodyOf Try.f149
def f149_fresh : Bool := true
def f149_t0 : List Nat := [1, 5, 8, 9, 10]
def f149_o0 : List Nat := []
def f149_keep : List (Nat × (List Nat × List Nat)) := [(0, (f149_t0, f149_o0))]
noncomputable def f149_info : FnInfo := ⟨[.val (.slice .str), .val .fn], [.val (.slice (.blob 32))], 22, [.tmp 4], f149_body, f149_keep, f149_fresh, false⟩

/- milepost/tree.Leaves -/
noncomputable def f142_body : Code := bodyOf Try.f142
def f142_fresh : Bool := true
def f142_keep : List (Nat × (List Nat × List Nat)) := []
noncomputable def f142_info : FnInfo := ⟨[.val (.slice .str)], [.val (.slice (.blob 32))], 5, [.tmp 2], f142_body, f142_keep, f142_fresh, false⟩

/- milepost/tree.parted[milepost/api.Hash] -/
noncomputable def f148_body : Code := bodyOf Try.f148
def f148_fresh : Bool := false
def f148_keep : List (Nat × (List Nat × List Nat)) := []
noncomputable def f148_info : FnInfo := ⟨[.val (.slice (.blob 32))], [.val (.slice (.blob 32)), .val (.slice (.blob 32))], 14, [.tmp 2, .tmp 3], f148_body, f148_keep, f148_fresh, false⟩

/- milepost/tree.Top -/
noncomputable def f141_body : Code := bodyOf Try.f141
def f141_fresh : Bool := false
def f141_keep : List (Nat × (List Nat × List Nat)) := []
noncomputable def f141_info : FnInfo := ⟨[.val (.slice (.blob 32))], [.val (.blob 32)], 25, [.cell 2 30], f141_body, f141_keep, f141_fresh, false⟩

/- milepost/tree.Root -/
noncomputable def f131_body : Code := bodyOf Try.f131
def f131_fresh : Bool := false
def f131_keep : List (Nat × (List Nat × List Nat)) := []
noncomputable def f131_info : FnInfo := ⟨[.val (.slice .str)], [.val (.blob 32)], 10, [.cell 2 30], f131_body, f131_keep, f131_fresh, false⟩

/- milepost/link.Root -/
noncomputable def f119_body : Code := bodyOf Try.f119
def f119_fresh : Bool := false
def f119_keep : List (Nat × (List Nat × List Nat)) := []
noncomputable def f119_info : FnInfo := ⟨[.val (.slice (.blob 32))], [.val (.blob 32)], 6, [.cell 2 30], f119_body, f119_keep, f119_fresh, false⟩

/- milepost/txs.Text -/
noncomputable def f89_body : Code := bodyOf Try.f89
def f89_fresh : Bool := false
def f89_keep : List (Nat × (List Nat × List Nat)) := []
noncomputable def f89_info : FnInfo := ⟨[.val .str], [.val .str], 5, [.tmp 2], f89_body, f89_keep, f89_fresh, false⟩

/- milepost/txs.texts -/
noncomputable def f133_body : Code := bodyOf Try.f133
def f133_fresh : Bool := true
def f133_t0 : List Nat := [3, 6, 7, 8]
def f133_o0 : List Nat := []
def f133_keep : List (Nat × (List Nat × List Nat)) := [(0, (f133_t0, f133_o0))]
noncomputable def f133_info : FnInfo := ⟨[.val (.slice .str)], [.val (.slice .str)], 19, [.tmp 2], f133_body, f133_keep, f133_fresh, false⟩

/- milepost/txs.Root -/
noncomputable def f120_body : Code := bodyOf Try.f120
def f120_fresh : Bool := false
def f120_keep : List (Nat × (List Nat × List Nat)) := []
noncomputable def f120_info : FnInfo := ⟨[.val (.slice .str)], [.val (.blob 32)], 6, [.cell 2 30], f120_body, f120_keep, f120_fresh, false⟩

/- milepost/block.Make -/
noncomputable def f107_body : Code := bodyOf Try.f107
def f107_fresh : Bool := false
def f107_keep : List (Nat × (List Nat × List Nat)) := []
noncomputable def f107_info : FnInfo := ⟨[.val (.int .u32), .val (.slice (.blob 32)), .val (.slice .str), .val (.int .u64)], [.val (.struct [(.struct [(.int .u32), (.blob 32), (.blob 32), (.int .u64)]), (.slice .str)])], 21, [.cell 8 101], f107_body, f107_keep, f107_fresh, false⟩

/- milepost/mine.Seek -/
noncomputable def f24_body : Code := bodyOf Try.f24
def f24_fresh : Bool := false
def f24_t0 : List Nat := [2, 3, 4, 6]
def f24_o0 : List Nat := [3, 4, 6]
def f24_keep : List (Nat × (List Nat × List Nat)) := [(0, (f24_t0, f24_o0))]
noncomputable def f24_info : FnInfo := ⟨[.val (.blob 32), .val (.struct [(.int .u32), (.blob 32), (.blob 32), (.int .u64)]), .val (.int .i64)], [.val (.struct [(.int .u32), (.blob 32), (.blob 32), (.int .u64)]), .val .bool], 22, [.cell 6 43, .tmp 7], f24_body, f24_keep, f24_fresh, false⟩

/- milepost/mine.mined -/
noncomputable def f82_body : Code := bodyOf Try.f82
def f82_fresh : Bool := false
def f82_keep : List (Nat × (List Nat × List Nat)) := []
noncomputable def f82_info : FnInfo := ⟨[.val (.blob 32), .val (.int .i64), .val (.slice (.blob 32)), .val (.slice .str), .val (.int .u64), .val (.int .i64)], [.val (.struct [(.struct [(.int .u32), (.blob 32), (.blob 32), (.int .u64)]), (.slice .str)]), .val (.int .i64)], 44, [.cell 12 101, .tmp 13], f82_body, f82_keep, f82_fresh, false⟩

/- milepost/mine.Start -/
noncomputable def f49_body : Code := bodyOf Try.f49
def f49_fresh : Bool := false
def f49_keep : List (Nat × (List Nat × List Nat)) := []
noncomputable def f49_info : FnInfo := ⟨[.val (.blob 32), .val (.slice .str), .val (.int .u64), .val (.int .i64)], [.val (.struct [(.struct [(.int .u32), (.blob 32), (.blob 32), (.int .u64)]), (.slice .str)]), .val (.int .i64)], 17, [.cell 8 101, .tmp 9], f49_body, f49_keep, f49_fresh, false⟩

/- milepost/chain.id -/
noncomputable def f91_body : Code := bodyOf Try.f91
def f91_fresh : Bool := false
def f91_keep : List (Nat × (List Nat × List Nat)) := []
noncomputable def f91_info : FnInfo := ⟨[.val (.struct [(.struct [(.int .u32), (.blob 32), (.blob 32), (.int .u64)]), (.slice .str)])], [.val (.blob 32)], 6, [.cell 2 30], f91_body, f91_keep, f91_fresh, false⟩

/- milepost/inter.First -/
noncomputable def f92_body : Code := bodyOf Try.f92
def f92_fresh : Bool := true
def f92_keep : List (Nat × (List Nat × List Nat)) := []
noncomputable def f92_info : FnInfo := ⟨[.val (.blob 32)], [.val (.slice (.blob 32))], 5, [.tmp 2], f92_body, f92_keep, f92_fresh, false⟩

/- milepost/wide.Shr -/
noncomputable def f114_body : Code := bodyOf Try.f114
def f114_fresh : Bool := false
def f114_t0 : List Nat := [2, 4, 5, 6, 7, 21, 22]
def f114_o0 : List Nat := [2, 4, 5]
def f114_keep : List (Nat × (List Nat × List Nat)) := [(0, (f114_t0, f114_o0))]
noncomputable def f114_info : FnInfo := ⟨[.val (.arr 4 (.int .u64)), .val (.int .i64)], [.val (.arr 4 (.int .u64))], 59, [.cell 4 95], f114_body, f114_keep, f114_fresh, false⟩

/- milepost/work.Level -/
noncomputable def f94_body : Code := bodyOf Try.f94
def f94_fresh : Bool := false
def f94_t0 : List Nat := [5, 6, 7, 13]
def f94_o0 : List Nat := [5, 6]
def f94_keep : List (Nat × (List Nat × List Nat)) := [(0, (f94_t0, f94_o0))]
noncomputable def f94_info : FnInfo := ⟨[.val (.blob 32), .val (.blob 32)], [.val (.int .i64)], 25, [.tmp 4], f94_body, f94_keep, f94_fresh, false⟩

/- milepost/inter.Next -/
noncomputable def f93_body : Code := bodyOf Try.f93
def f93_fresh : Bool := false
def f93_t0 : List Nat := [0, 2, 4, 7, 8, 30, 31]
def f93_o0 : List Nat := [4, 8, 22]
def f93_t2 : List Nat := [4, 7, 8, 48, 49]
def f93_o2 : List Nat := [4, 8, 22]
def f93_keep : List (Nat × (List Nat × List Nat)) := [(0, (f93_t0, f93_o0)), (2, (f93_t2, f93_o2))]
noncomputable def f93_info : FnInfo := ⟨[.val (.slice (.blob 32)), .val (.blob 32), .val (.int .i64)], [.val (.slice (.blob 32))], 64, [.tmp 6], f93_body, f93_keep, f93_fresh, false⟩

/- milepost/chain.behind -/
noncomputable def f60_body : Code := bodyOf Try.f60
def f60_fresh : Bool := false
def f60_keep : List (Nat × (List Nat × List Nat)) := []
noncomputable def f60_info : FnInfo := ⟨[.val (.blob 32), .val (.slice (.blob 32)), .val (.struct [(.struct [(.int .u32), (.blob 32), (.blob 32), (.int .u64)]), (.slice .str)]), .val (.int .i64)], [.val (.slice (.blob 32))], 22, [.tmp 8], f60_body, f60_keep, f60_fresh, false⟩

/- milepost/chain.Vectors -/
noncomputable def f61_body : Code := bodyOf Try.f61
def f61_fresh : Bool := true
def f61_t0 : List Nat := [2, 5, 9, 10, 11]
def f61_o0 : List Nat := [2]
def f61_keep : List (Nat × (List Nat × List Nat)) := [(0, (f61_t0, f61_o0))]
noncomputable def f61_info : FnInfo := ⟨[.val (.blob 32), .val (.slice (.struct [(.struct [(.int .u32), (.blob 32), (.blob 32), (.int .u64)]), (.slice .str)]))], [.val (.slice (.slice (.blob 32)))], 29, [.tmp 4], f61_body, f61_keep, f61_fresh, false⟩

/- milepost/mine.Grow -/
noncomputable def f50_body : Code := bodyOf Try.f50
def f50_fresh : Bool := false
def f50_keep : List (Nat × (List Nat × List Nat)) := []
noncomputable def f50_info : FnInfo := ⟨[.val (.blob 32), .val (.slice (.struct [(.struct [(.int .u32), (.blob 32), (.blob 32), (.int .u64)]), (.slice .str)])), .val (.slice .str), .val (.int .u64), .val (.int .i64)], [.val (.struct [(.struct [(.int .u32), (.blob 32), (.blob 32), (.int .u64)]), (.slice .str)]), .val (.int .i64)], 40, [.cell 10 101, .tmp 11], f50_body, f50_keep, f50_fresh, false⟩

/- milepost/milepostlaw25.awake -/
noncomputable def f23_body : Code := bodyOf Try.f23
def f23_fresh : Bool := false
def f23_t0 : List Nat := [1, 2]
def f23_o0 : List Nat := [1]
def f23_keep : List (Nat × (List Nat × List Nat)) := [(0, (f23_t0, f23_o0))]
noncomputable def f23_info : FnInfo := ⟨[], [.val .bool], 50, [.tmp 0], f23_body, f23_keep, f23_fresh, false⟩

/- milepost/milepostref01.Byte -/
noncomputable def f112_body : Code := bodyOf Try.f112
def f112_fresh : Bool := false
def f112_keep : List (Nat × (List Nat × List Nat)) := []
noncomputable def f112_info : FnInfo := ⟨[.val (.int .i64)], [.val .str], 7, [.tmp 2], f112_body, f112_keep, f112_fresh, false⟩

/- milepost/milepostref01.Put -/
noncomputable def f111_body : Code := bodyOf Try.f111
def f111_fresh : Bool := false
def f111_t0 : List Nat := [0, 1, 5, 6]
def f111_o0 : List Nat := []
def f111_keep : List (Nat × (List Nat × List Nat)) := [(0, (f111_t0, f111_o0))]
noncomputable def f111_info : FnInfo := ⟨[.val (.int .u64), .val (.int .i64)], [.val .str], 21, [.tmp 4], f111_body, f111_keep, f111_fresh, false⟩

/- milepost/milepostref03.Raw -/
noncomputable def f113_body : Code := bodyOf Try.f113
def f113_fresh : Bool := false
def f113_t0 : List Nat := [1, 3, 4]
def f113_o0 : List Nat := [1, 5]
def f113_keep : List (Nat × (List Nat × List Nat)) := [(0, (f113_t0, f113_o0))]
noncomputable def f113_info : FnInfo := ⟨[.val (.blob 32)], [.val .str], 18, [.tmp 2], f113_body, f113_keep, f113_fresh, false⟩

/- milepost/milepostref17.Bytes -/
noncomputable def f87_body : Code := bodyOf Try.f87
def f87_fresh : Bool := false
def f87_keep : List (Nat × (List Nat × List Nat)) := []
noncomputable def f87_info : FnInfo := ⟨[.val (.struct [(.int .u32), (.blob 32), (.blob 32), (.int .u64)])], [.val .str], 19, [.tmp 2], f87_body, f87_keep, f87_fresh, false⟩

/- milepost/milepostref03.HeaderText -/
noncomputable def f86_body : Code := bodyOf Try.f86
def f86_fresh : Bool := false
def f86_keep : List (Nat × (List Nat × List Nat)) := []
noncomputable def f86_info : FnInfo := ⟨[.val .str], [.val .str], 6, [.tmp 2], f86_body, f86_keep, f86_fresh, false⟩

/- milepost/milepostref02.First -/
noncomputable def f108_body : Code := bodyOf Try.f108
def f108_fresh : Bool := false
def f108_keep : List (Nat × (List Nat × List Nat)) := []
noncomputable def f108_info : FnInfo := ⟨[], [.val (.arr 8 (.int .u32))], 2, [.cell 0 153], f108_body, f108_keep, f108_fresh, false⟩

/- milepost/milepostref02.Pad -/
noncomputable def f109_body : Code := bodyOf Try.f109
def f109_fresh : Bool := false
def f109_t0 : List Nat := [0, 3]
def f109_o0 : List Nat := []
def f109_keep : List (Nat × (List Nat × List Nat)) := [(0, (f109_t0, f109_o0))]
noncomputable def f109_info : FnInfo := ⟨[.val (.int .u64)], [.val .str], 22, [.tmp 2], f109_body, f109_keep, f109_fresh, false⟩

/- milepost/milepostref01.Take -/
noncomputable def f134_body : Code := bodyOf Try.f134
def f134_fresh : Bool := false
def f134_t0 : List Nat := [0, 1, 2, 7, 8]
def f134_o0 : List Nat := []
def f134_keep : List (Nat × (List Nat × List Nat)) := [(0, (f134_t0, f134_o0))]
noncomputable def f134_info : FnInfo := ⟨[.val .str, .val (.int .i64), .val (.int .i64)], [.val (.int .u64)], 41, [.tmp 6], f134_body, f134_keep, f134_fresh, false⟩

/- milepost/milepostref02.turn -/
noncomputable def f122_body : Code := bodyOf Try.f122
def f122_fresh : Bool := false
def f122_keep : List (Nat × (List Nat × List Nat)) := []
noncomputable def f122_info : FnInfo := ⟨[.val (.int .u32), .val (.int .u64)], [.val (.int .u32)], 13, [.tmp 4], f122_body, f122_keep, f122_fresh, false⟩

/- milepost/milepostref02.Spread -/
noncomputable def f121_body : Code := bodyOf Try.f121
def f121_fresh : Bool := false
def f121_t0 : List Nat := [0, 2, 3, 4]
def f121_o0 : List Nat := [2, 3]
def f121_t2 : List Nat := [2, 3, 5]
def f121_o2 : List Nat := [2, 3]
def f121_keep : List (Nat × (List Nat × List Nat)) := [(0, (f121_t0, f121_o0)), (2, (f121_t2, f121_o2))]
noncomputable def f121_info : FnInfo := ⟨[.val .str], [.val (.arr 64 (.int .u32))], 61, [.cell 2 167], f121_body, f121_keep, f121_fresh, false⟩

/- milepost/milepostref02.number -/
noncomputable def f123_body : Code := bodyOf Try.f123
def f123_fresh : Bool := false
def f123_keep : List (Nat × (List Nat × List Nat)) := []
noncomputable def f123_info : FnInfo := ⟨[.val (.int .i64)], [.val (.int .u32)], 9, [.tmp 2], f123_body, f123_keep, f123_fresh, false⟩

/- milepost/milepostref02.Mix -/
noncomputable def f110_body : Code := bodyOf Try.f110
def f110_fresh : Bool := false
def f110_t0 : List Nat := [2, 4, 5, 6, 7]
def f110_o0 : List Nat := [2, 4, 5, 6]
def f110_t2 : List Nat := [2, 4, 5, 6, 7, 10, 11, 12]
def f110_o2 : List Nat := [2, 4, 5, 6]
def f110_t4 : List Nat := [2, 4, 6, 13]
def f110_o4 : List Nat := [2, 4, 6]
def f110_keep : List (Nat × (List Nat × List Nat)) := [(0, (f110_t0, f110_o0)), (2, (f110_t2, f110_o2)), (4, (f110_t4, f110_o4))]
noncomputable def f110_info : FnInfo := ⟨[.val (.arr 8 (.int .u32)), .val .str], [.val (.arr 8 (.int .u32))], 110, [.cell 4 153], f110_body, f110_keep, f110_fresh, false⟩

/- milepost/milepostref02.Sum -/
noncomputable def f85_body : Code := bodyOf Try.f85
def f85_fresh : Bool := false
def f85_t0 : List Nat := [0, 2, 3, 4]
def f85_o0 : List Nat := [2, 3]
def f85_t2 : List Nat := [2, 3, 5, 6]
def f85_o2 : List Nat := [2, 3, 5]
def f85_t4 : List Nat := [2, 3, 5, 6, 7, 8]
def f85_o4 : List Nat := [2, 3, 5]
def f85_keep : List (Nat × (List Nat × List Nat)) := [(0, (f85_t0, f85_o0)), (2, (f85_t2, f85_o2)), (4, (f85_t4, f85_o4))]
noncomputable def f85_info : FnInfo := ⟨[.val .str], [.val (.blob 32)], 51, [.cell 2 30], f85_body, f85_keep, f85_fresh, false⟩

/- milepost/milepostref17.Id -/
noncomputable def f52_body : Code := bodyOf Try.f52
def f52_fresh : Bool := false
def f52_keep : List (Nat × (List Nat × List Nat)) := []
noncomputable def f52_info : FnInfo := ⟨[.val (.struct [(.int .u32), (.blob 32), (.blob 32), (.int .u64)])], [.val (.blob 32)], 7, [.cell 2 30], f52_body, f52_keep, f52_fresh, false⟩

/- milepost/milepostref04.Of -/
noncomputable def f84_body : Code := bodyOf Try.f84
def f84_fresh : Bool := true
def f84_t0 : List Nat := [1, 3, 4]
def f84_o0 : List Nat := [1]
def f84_t2 : List Nat := [1, 3, 4, 5, 6]
def f84_o2 : List Nat := [1]
def f84_keep : List (Nat × (List Nat × List Nat)) := [(0, (f84_t0, f84_o0)), (2, (f84_t2, f84_o2))]
noncomputable def f84_info : FnInfo := ⟨[.val (.blob 32)], [.val (.slice .bool)], 28, [.tmp 2], f84_body, f84_keep, f84_fresh, false⟩

/- milepost/milepostref04.Cmp -/
noncomputable def f83_body : Code := bodyOf Try.f83
def f83_fresh : Bool := false
def f83_t0 : List Nat := [0, 1, 5]
def f83_o0 : List Nat := []
def f83_keep : List (Nat × (List Nat × List Nat)) := [(0, (f83_t0, f83_o0))]
noncomputable def f83_info : FnInfo := ⟨[.val (.slice .bool), .val (.slice .bool)], [.val (.int .i64)], 26, [.tmp 4], f83_body, f83_keep, f83_fresh, false⟩

/- milepost/milepostref17.Ok -/
noncomputable def f51_body : Code := bodyOf Try.f51
def f51_fresh : Bool := false
def f51_keep : List (Nat × (List Nat × List Nat)) := []
noncomputable def f51_info : FnInfo := ⟨[.val (.blob 32), .val (.blob 32)], [.val .bool], 11, [.tmp 4], f51_body, f51_keep, f51_fresh, false⟩

/- milepost/milepostref22.Seek -/
noncomputable def f25_body : Code := bodyOf Try.f25
def f25_fresh : Bool := false
def f25_t0 : List Nat := [2, 3, 4, 6, 8]
def f25_o0 : List Nat := [3, 4, 6]
def f25_keep : List (Nat × (List Nat × List Nat)) := [(0, (f25_t0, f25_o0))]
noncomputable def f25_info : FnInfo := ⟨[.val (.blob 32), .val (.struct [(.int .u32), (.blob 32), (.blob 32), (.int .u64)]), .val (.int .i64)], [.val (.struct [(.int .u32), (.blob 32), (.blob 32), (.int .u64)]), .val .bool], 24, [.cell 6 43, .tmp 7], f25_body, f25_keep, f25_fresh, false⟩

/- milepost/milepostlaw25.MineSeeks -/
noncomputable def f6_body : Code := bodyOf Try.f6
def f6_fresh : Bool := false
def f6_keep : List (Nat × (List Nat × List Nat)) := []
noncomputable def f6_info : FnInfo := ⟨[.val (.blob 32), .val (.struct [(.int .u32), (.blob 32), (.blob 32), (.int .u64)]), .val (.int .i64)], [.val .bool], 49, [.tmp 6], f6_body, f6_keep, f6_fresh, false⟩

/- milepost/milepostlaw50.Much -/
noncomputable def f26_body : Code := bodyOf Try.f26
def f26_fresh : Bool := false
def f26_keep : List (Nat × (List Nat × List Nat)) := []
noncomputable def f26_info : FnInfo := ⟨[.val (.slice (.struct [(.struct [(.int .u32), (.blob 32), (.blob 32), (.int .u64)]), (.struct [(.int .i64), (.int .i64), (.slice (.blob 32))])])), .val (.struct [(.int .i64), (.slice (.struct [(.struct [(.int .u32), (.blob 32), (.blob 32), (.int .u64)]), (.struct [(.int .i64), (.int .i64), (.slice (.blob 32))])])), (.struct [(.int .i64), (.int .i64), (.slice (.blob 32))]), (.int .i64), .str, (.struct [(.int .i64), (.int .i64), (.slice (.blob 32))])])], [.val .bool], 32, [.tmp 4], f26_body, f26_keep, f26_fresh, false⟩

/- milepost/within.place -/
noncomputable def f53_body : Code := bodyOf Try.f53
def f53_fresh : Bool := false
def f53_keep : List (Nat × (List Nat × List Nat)) := []
noncomputable def f53_info : FnInfo := ⟨[.val (.int .i64), .val (.struct [(.int .i64), (.slice (.struct [(.struct [(.int .u32), (.blob 32), (.blob 32), (.int .u64)]), (.struct [(.int .i64), (.int .i64), (.slice (.blob 32))])])), (.struct [(.int .i64), (.int .i64), (.slice (.blob 32))]), (.int .i64), .str, (.struct [(.int .i64), (.int .i64), (.slice (.blob 32))])])], [.val (.int .i64)], 44, [.tmp 4], f53_body, f53_keep, f53_fresh, false⟩

/- milepost/within.Block -/
noncomputable def f55_body : Code := bodyOf Try.f55
def f55_fresh : Bool := false
def f55_keep : List (Nat × (List Nat × List Nat)) := []
noncomputable def f55_info : FnInfo := ⟨[.val (.slice (.struct [(.struct [(.int .u32), (.blob 32), (.blob 32), (.int .u64)]), (.struct [(.int .i64), (.int .i64), (.slice (.blob 32))])])), .val (.struct [(.int .i64), (.slice (.struct [(.struct [(.int .u32), (.blob 32), (.blob 32), (.int .u64)]), (.struct [(.int .i64), (.int .i64), (.slice (.blob 32))])])), (.struct [(.int .i64), (.int .i64), (.slice (.blob 32))]), (.int .i64), .str, (.struct [(.int .i64), (.int .i64), (.slice (.blob 32))])])], [.val (.struct [(.int .u32), (.blob 32), (.blob 32), (.int .u64)]), .val .bool], 31, [.cell 4 43, .tmp 5], f55_body, f55_keep, f55_fresh, false⟩

/- milepost/within.one -/
noncomputable def f88_body : Code := bodyOf Try.f88
def f88_fresh : Bool := false
def f88_keep : List (Nat × (List Nat × List Nat)) := []
noncomputable def f88_info : FnInfo := ⟨[.val (.blob 32), .val (.struct [(.struct [(.int .u32), (.blob 32), (.blob 32), (.int .u64)]), (.struct [(.int .i64), (.int .i64), (.slice (.blob 32))])]), .val (.struct [(.int .u32), (.blob 32), (.blob 32), (.int .u64)]), .val (.int .u32)], [.val (.int .i64)], 34, [.tmp 8], f88_body, f88_keep, f88_fresh, false⟩

/- milepost/within.inner -/
noncomputable def f54_body : Code := bodyOf Try.f54
def f54_fresh : Bool := false
def f54_t0 : List Nat := [3, 5, 7, 8, 34, 35, 36]
def f54_o0 : List Nat := [3, 5, 7, 8]
def f54_keep : List (Nat × (List Nat × List Nat)) := [(0, (f54_t0, f54_o0))]
noncomputable def f54_info : FnInfo := ⟨[.val (.blob 32), .val (.slice (.struct [(.struct [(.int .u32), (.blob 32), (.blob 32), (.int .u64)]), (.struct [(.int .i64), (.int .i64), (.slice (.blob 32))])])), .val (.struct [(.int .i64), (.slice (.struct [(.struct [(.int .u32), (.blob 32), (.blob 32), (.int .u64)]), (.struct [(.int .i64), (.int .i64), (.slice (.blob 32))])])), (.struct [(.int .i64), (.int .i64), (.slice (.blob 32))]), (.int .i64), .str, (.struct [(.int .i64), (.int .i64), (.slice (.blob 32))])])], [.val (.int .i64)], 59, [.tmp 6], f54_body, f54_keep, f54_fresh, false⟩

/- milepost/txs.Check -/
noncomputable def f56_body : Code := bodyOf Try.f56
def f56_fresh : Bool := false
def f56_keep : List (Nat × (List Nat × List Nat)) := []
noncomputable def f56_info : FnInfo := ⟨[.val (.blob 32), .val .str, .val (.struct [(.int .i64), (.int .i64), (.slice (.blob 32))])], [.val .bool], 22, [.tmp 6], f56_body, f56_keep, f56_fresh, false⟩

/- milepost/within.Check -/
noncomputable def f27_body : Code := bodyOf Try.f27
def f27_fresh : Bool := false
def f27_keep : List (Nat × (List Nat × List Nat)) := []
noncomputable def f27_info : FnInfo := ⟨[.val (.blob 32), .val (.slice (.struct [(.struct [(.int .u32), (.blob 32), (.blob 32), (.int .u64)]), (.struct [(.int .i64), (.int .i64), (.slice (.blob 32))])])), .val (.struct [(.int .i64), (.slice (.struct [(.struct [(.int .u32), (.blob 32), (.blob 32), (.int .u64)]), (.struct [(.int .i64), (.int .i64), (.slice (.blob 32))])])), (.struct [(.int .i64), (.int .i64), (.slice (.blob 32))]), (.int .i64), .str, (.struct [(.int .i64), (.int .i64), (.slice (.blob 32))])])], [.val (.int .i64)], 39, [.tmp 6], f27_body, f27_keep, f27_fresh, false⟩

/- milepost/milepostlaw50.awake -/
noncomputable def f28_body : Code := bodyOf Try.f28
def f28_fresh : Bool := false
def f28_keep : List (Nat × (List Nat × List Nat)) := []
noncomputable def f28_info : FnInfo := ⟨[], [.val .bool], 23, [.tmp 0], f28_body, f28_keep, f28_fresh, false⟩

/- milepost/milepostlaw50.WithinBehind -/
noncomputable def f7_body : Code := bodyOf Try.f7
def f7_fresh : Bool := false
def f7_keep : List (Nat × (List Nat × List Nat)) := []
noncomputable def f7_info : FnInfo := ⟨[.val (.blob 32), .val (.arr 2 (.slice (.struct [(.struct [(.int .u32), (.blob 32), (.blob 32), (.int .u64)]), (.struct [(.int .i64), (.int .i64), (.slice (.blob 32))])]))), .val (.struct [(.int .i64), (.slice (.struct [(.struct [(.int .u32), (.blob 32), (.blob 32), (.int .u64)]), (.struct [(.int .i64), (.int .i64), (.slice (.blob 32))])])), (.struct [(.int .i64), (.int .i64), (.slice (.blob 32))]), (.int .i64), .str, (.struct [(.int .i64), (.int .i64), (.slice (.blob 32))])])], [.val .bool], 40, [.tmp 6], f7_body, f7_keep, f7_fresh, false⟩

/- (milepost/chain.look).work -/
noncomputable def f59_body : Code := bodyOf Try.f59
def f59_fresh : Bool := false
def f59_keep : List (Nat × (List Nat × List Nat)) := []
noncomputable def f59_info : FnInfo := ⟨[.val (.struct [(.struct [(.struct [(.int .u32), (.blob 32), (.blob 32), (.int .u64)]), (.blob 32), (.int .i64), (.int .i64), (.int .i64), (.int .i64), (.int .i64), (.int .i64)]), (.int .i64), (.struct [(.struct [(.int .u32), (.blob 32), (.blob 32), (.int .u64)]), (.slice .str)]), (.slice (.blob 32))])], [.val (.int .i64)], 11, [.tmp 2], f59_body, f59_keep, f59_fresh, false⟩

/- milepost/block.Check -/
noncomputable def f90_body : Code := bodyOf Try.f90
def f90_fresh : Bool := false
def f90_keep : List (Nat × (List Nat × List Nat)) := []
noncomputable def f90_info : FnInfo := ⟨[.val (.struct [(.struct [(.int .u32), (.blob 32), (.blob 32), (.int .u64)]), (.slice .str)]), .val (.int .u32), .val (.slice (.blob 32))], [.val (.int .i64)], 31, [.tmp 6], f90_body, f90_keep, f90_fresh, false⟩

/- (milepost/chain.look).form -/
noncomputable def f58_body : Code := bodyOf Try.f58
def f58_fresh : Bool := false
def f58_keep : List (Nat × (List Nat × List Nat)) := []
noncomputable def f58_info : FnInfo := ⟨[.val (.struct [(.struct [(.struct [(.int .u32), (.blob 32), (.blob 32), (.int .u64)]), (.blob 32), (.int .i64), (.int .i64), (.int .i64), (.int .i64), (.int .i64), (.int .i64)]), (.int .i64), (.struct [(.struct [(.int .u32), (.blob 32), (.blob 32), (.int .u64)]), (.slice .str)]), (.slice (.blob 32))])], [.val (.int .i64)], 11, [.tmp 2], f58_body, f58_keep, f58_fresh, false⟩

/- (milepost/chain.look).anchor -/
noncomputable def f57_body : Code := bodyOf Try.f57
def f57_fresh : Bool := false
def f57_keep : List (Nat × (List Nat × List Nat)) := []
noncomputable def f57_info : FnInfo := ⟨[.val (.struct [(.struct [(.struct [(.int .u32), (.blob 32), (.blob 32), (.int .u64)]), (.blob 32), (.int .i64), (.int .i64), (.int .i64), (.int .i64), (.int .i64), (.int .i64)]), (.int .i64), (.struct [(.struct [(.int .u32), (.blob 32), (.blob 32), (.int .u64)]), (.slice .str)]), (.slice (.blob 32))])], [.val (.int .i64)], 15, [.tmp 2], f57_body, f57_keep, f57_fresh, false⟩

/- milepost/chain.Check -/
noncomputable def f29_body : Code := bodyOf Try.f29
def f29_fresh : Bool := false
def f29_t1 : List Nat := [2, 4, 1000005, 22, 23, 24]
def f29_o1 : List Nat := [4]
def f29_t3 : List Nat := [2, 4, 5, 6, 7, 22, 23, 24, 40, 41, 42]
def f29_o3 : List Nat := [4, 7]
def f29_keep : List (Nat × (List Nat × List Nat)) := [(1, (f29_t1, f29_o1)), (3, (f29_t3, f29_o3))]
noncomputable def f29_info : FnInfo := ⟨[.val (.struct [(.struct [(.int .u32), (.blob 32), (.blob 32), (.int .u64)]), (.blob 32), (.int .i64), (.int .i64), (.int .i64), (.int .i64), (.int .i64), (.int .i64)]), .val (.slice (.struct [(.struct [(.int .u32), (.blob 32), (.blob 32), (.int .u64)]), (.slice .str)]))], [.val (.struct [(.int .i64), (.int .i64)])], 62, [.cell 4 49], f29_body, f29_keep, f29_fresh, false⟩

/- milepost/milepostlaw24.awake -/
noncomputable def f30_body : Code := bodyOf Try.f30
def f30_fresh : Bool := false
def f30_keep : List (Nat × (List Nat × List Nat)) := []
noncomputable def f30_info : FnInfo := ⟨[], [.val .bool], 20, [.tmp 0], f30_body, f30_keep, f30_fresh, false⟩

/- milepost/milepostlaw24.ChainLong -/
noncomputable def f8_body : Code := bodyOf Try.f8
def f8_fresh : Bool := false
def f8_keep : List (Nat × (List Nat × List Nat)) := []
noncomputable def f8_info : FnInfo := ⟨[.val (.struct [(.struct [(.int .u32), (.blob 32), (.blob 32), (.int .u64)]), (.blob 32), (.int .i64), (.int .i64), (.int .i64), (.int .i64), (.int .i64), (.int .i64)]), .val (.int .i64)], [.val .bool], 34, [.tmp 4], f8_body, f8_keep, f8_fresh, false⟩

/- milepost/milepostlaw22.Much -/
noncomputable def f62_body : Code := bodyOf Try.f62
def f62_fresh : Bool := false
def f62_t0 : List Nat := [0, 3, 4]
def f62_o0 : List Nat := []
def f62_keep : List (Nat × (List Nat × List Nat)) := [(0, (f62_t0, f62_o0))]
noncomputable def f62_info : FnInfo := ⟨[.val (.slice .str)], [.val .bool], 41, [.tmp 2], f62_body, f62_keep, f62_fresh, false⟩

/- milepost/milepostlaw24.Much -/
noncomputable def f31_body : Code := bodyOf Try.f31
def f31_fresh : Bool := false
def f31_t0 : List Nat := [0, 3, 4]
def f31_o0 : List Nat := []
def f31_keep : List (Nat × (List Nat × List Nat)) := [(0, (f31_t0, f31_o0))]
noncomputable def f31_info : FnInfo := ⟨[.val (.slice (.struct [(.struct [(.int .u32), (.blob 32), (.blob 32), (.int .u64)]), (.slice .str)]))], [.val .bool], 36, [.tmp 2], f31_body, f31_keep, f31_fresh, false⟩

/- milepost/milepostlaw24.ChainBegins -/
noncomputable def f9_body : Code := bodyOf Try.f9
def f9_fresh : Bool := false
def f9_keep : List (Nat × (List Nat × List Nat)) := []
noncomputable def f9_info : FnInfo := ⟨[.val (.struct [(.struct [(.int .u32), (.blob 32), (.blob 32), (.int .u64)]), (.blob 32), (.int .i64), (.int .i64), (.int .i64), (.int .i64), (.int .i64), (.int .i64)]), .val (.slice (.struct [(.struct [(.int .u32), (.blob 32), (.blob 32), (.int .u64)]), (.slice .str)])), .val (.int .i64)], [.val .bool], 60, [.tmp 6], f9_body, f9_keep, f9_fresh, false⟩

noncomputable def G : Env := {
  ty := [(3, (.int .i64)), (4, .bool), (5, (.int .u8)), (9, .str), (22, (.slice .str)), (23, (.slice (.int .i64))), (24, (.slice (.blob 32))), (26, (.struct [(.int .i64), (.slice (.int .i64)), (.slice (.blob 32))])), (30, (.blob 32)), (31, (.int .i64)), (35, (.struct [(.int .i64), (.int .i64), (.slice (.blob 32))])), (40, (.int .u32)), (41, (.int .u64)), (43, (.struct [(.int .u32), (.blob 32), (.blob 32), (.int .u64)])), (45, (.struct [(.struct [(.int .u32), (.blob 32), (.blob 32), (.int .u64)]), (.blob 32), (.int .i64), (.int .i64), (.int .i64), (.int .i64), (.int .i64), (.int .i64)])), (46, (.slice (.struct [(.struct [(.int .u32), (.blob 32), (.blob 32), (.int .u64)]), (.struct [(.int .i64), (.int .i64), (.slice (.blob 32))])]))), (49, (.struct [(.int .i64), (.int .i64)])), (54, (.struct [(.struct [(.int .u32), (.blob 32), (.blob 32), (.int .u64)]), (.struct [(.int .i64), (.int .i64), (.slice (.blob 32))])])), (62, (.arr 2 (.slice (.struct [(.struct [(.int .u32), (.blob 32), (.blob 32), (.int .u64)]), (.struct [(.int .i64), (.int .i64), (.slice (.blob 32))])])))), (64, (.struct [(.int .i64), (.slice (.struct [(.struct [(.int .u32), (.blob 32), (.blob 32), (.int .u64)]), (.struct [(.int .i64), (.int .i64), (.slice (.blob 32))])])), (.struct [(.int .i64), (.int .i64), (.slice (.blob 32))]), (.int .i64), .str, (.struct [(.int .i64), (.int .i64), (.slice (.blob 32))])])), (68, (.slice (.struct [(.struct [(.int .u32), (.blob 32), (.blob 32), (.int .u64)]), (.slice .str)]))), (77, (.struct [(.slice .str), (.slice (.blob 32))])), (87, (.slice (.struct [(.clos [(72, ([], [0])), (73, ([], [0, 1])), (74, ([], [0]))] [(.pat (.slice (.struct [(.struct [(.int .u32), (.blob 32), (.blob 32), (.int .u64)]), (.struct [(.int .i64), (.int .i64), (.slice (.blob 32))])]))), (.pat (.struct [(.struct [(.int .u32), (.blob 32), (.blob 32), (.int .u64)]), (.blob 32), (.int .i64), (.int .i64), (.int .i64), (.int .i64), (.int .i64), (.int .i64)]))]), (.int .i64)]))), (89, (.clos [(72, ([], [0])), (73, ([], [0, 1])), (74, ([], [0]))] [(.pat (.slice (.struct [(.struct [(.int .u32), (.blob 32), (.blob 32), (.int .u64)]), (.struct [(.int .i64), (.int .i64), (.slice (.blob 32))])]))), (.pat (.struct [(.struct [(.int .u32), (.blob 32), (.blob 32), (.int .u64)]), (.blob 32), (.int .i64), (.int .i64), (.int .i64), (.int .i64), (.int .i64), (.int .i64)]))])), (91, (.struct [(.clos [(72, ([], [0])), (73, ([], [0, 1])), (74, ([], [0]))] [(.pat (.slice (.struct [(.struct [(.int .u32), (.blob 32), (.blob 32), (.int .u64)]), (.struct [(.int .i64), (.int .i64), (.slice (.blob 32))])]))), (.pat (.struct [(.struct [(.int .u32), (.blob 32), (.blob 32), (.int .u64)]), (.blob 32), (.int .i64), (.int .i64), (.int .i64), (.int .i64), (.int .i64), (.int .i64)]))]), (.int .i64)])), (95, (.arr 4 (.int .u64))), (101, (.struct [(.struct [(.int .u32), (.blob 32), (.blob 32), (.int .u64)]), (.slice .str)])), (109, (.struct [(.struct [(.struct [(.int .u32), (.blob 32), (.blob 32), (.int .u64)]), (.blob 32), (.int .i64), (.int .i64), (.int .i64), (.int .i64), (.int .i64), (.int .i64)]), (.int .i64), (.struct [(.struct [(.int .u32), (.blob 32), (.blob 32), (.int .u64)]), (.slice .str)]), (.slice (.blob 32))])), (110, (.clos [(57, ([0], [])), (58, ([0], [])), (59, ([0], []))] [(.struct [(.struct [(.struct [(.int .u32), (.blob 32), (.blob 32), (.int .u64)]), (.blob 32), (.int .i64), (.int .i64), (.int .i64), (.int .i64), (.int .i64), (.int .i64)]), (.int .i64), (.struct [(.struct [(.int .u32), (.blob 32), (.blob 32), (.int .u64)]), (.slice .str)]), (.slice (.blob 32))])])), (111, (.slice (.clos [(57, ([0], [])), (58, ([0], [])), (59, ([0], []))] [(.struct [(.struct [(.struct [(.int .u32), (.blob 32), (.blob 32), (.int .u64)]), (.blob 32), (.int .i64), (.int .i64), (.int .i64), (.int .i64), (.int .i64), (.int .i64)]), (.int .i64), (.struct [(.struct [(.int .u32), (.blob 32), (.blob 32), (.int .u64)]), (.slice .str)]), (.slice (.blob 32))])]))), (113, (.slice (.slice (.blob 32)))), (119, (.slice .bool)), (124, (.slice (.int .u8))), (131, (.slice .bool)), (153, (.arr 8 (.int .u32))), (158, (.arr 8 (.int .u32))), (160, (.struct [(.arr 8 (.int .u32)), .str, (.int .u64), .bool])), (164, (.int .u64)), (167, (.arr 64 (.int .u32))), (185, (.slice (.int .u32)))]
  bytes := [(22, 16), (23, 8), (24, 32), (46, 120), (68, 104), (113, 24), (124, 1), (131, 1)]
  fns := [(118, f118_info), (127, f127_info), (70, f70_info), (10, f10_info), (63, f63_info), (36, f36_info), (37, f37_info), (64, f64_info), (32, f32_info), (11, f11_info), (33, f33_info), (98, f98_info), (99, f99_info), (95, f95_info), (115, f115_info), (104, f104_info), (135, f135_info), (126, f126_info), (124, f124_info), (125, f125_info), (116, f116_info), (96, f96_info), (105, f105_info), (79, f79_info), (117, f117_info), (78, f78_info), (97, f97_info), (65, f65_info), (67, f67_info), (100, f100_info), (68, f68_info), (35, f35_info), (66, f66_info), (34, f34_info), (12, f12_info), (38, f38_info), (13, f13_info), (69, f69_info), (39, f39_info), (40, f40_info), (14, f14_info), (3, f3_info), (15, f15_info), (103, f103_info), (71, f71_info), (41, f41_info), (42, f42_info), (47, f47_info), (77, f77_info), (46, f46_info), (19, f19_info), (81, f81_info), (80, f80_info), (48, f48_info), (21, f21_info), (74, f74_info), (76, f76_info), (45, f45_info), (44, f44_info), (18, f18_info), (73, f73_info), (20, f20_info), (72, f72_info), (22, f22_info), (75, f75_info), (43, f43_info), (16, f16_info), (17, f17_info), (4, f4_info), (5, f5_info), (106, f106_info), (132, f132_info), (149, f149_info), (142, f142_info), (148, f148_info), (141, f141_info), (131, f131_info), (119, f119_info), (89, f89_info), (133, f133_info), (120, f120_info), (107, f107_info), (24, f24_info), (82, f82_info), (49, f49_info), (91, f91_info), (92, f92_info), (114, f114_info), (94, f94_info), (93, f93_info), (60, f60_info), (61, f61_info), (50, f50_info), (23, f23_info), (112, f112_info), (111, f111_info), (113, f113_info), (87, f87_info), (86, f86_info), (108, f108_info), (109, f109_info), (134, f134_info), (122, f122_info), (121, f121_info), (123, f123_info), (110, f110_info), (85, f85_info), (52, f52_info), (84, f84_info), (83, f83_info), (51, f51_info), (25, f25_info), (6, f6_info), (26, f26_info), (53, f53_info), (55, f55_info), (88, f88_info), (54, f54_info), (56, f56_info), (27, f27_info), (28, f28_info), (7, f7_info), (59, f59_info), (90, f90_info), (58, f58_info), (57, f57_info), (29, f29_info), (30, f30_info), (8, f8_info), (62, f62_info), (31, f31_info), (9, f9_info)]
  ptrs := [139]
  made := [46, 68]
  froz := [45, 46] }

theorem f118_at : assoc G.fns 118 = some f118_info := by kernel_rfl
theorem f118_out : f118_info.ext = true := rfl

theorem f127_at : assoc G.fns 127 = some f127_info := by kernel_rfl
theorem f127_out : f127_info.ext = true := rfl

theorem f70_at : assoc G.fns 70 = some f70_info := by kernel_rfl
theorem f70_out : f70_info.ext = true := rfl

theorem f10_at : assoc G.fns 10 = some f10_info := by kernel_rfl
theorem f10_in : f10_info.ext = false := rfl

theorem f63_at : assoc G.fns 63 = some f63_info := by kernel_rfl
theorem f63_in : f63_info.ext = false := rfl

theorem f36_at : assoc G.fns 36 = some f36_info := by kernel_rfl
theorem f36_in : f36_info.ext = false := rfl

theorem f37_at : assoc G.fns 37 = some f37_info := by kernel_rfl
theorem f37_in : f37_info.ext = false := rfl

theorem f64_at : assoc G.fns 64 = some f64_info := by kernel_rfl
theorem f64_in : f64_info.ext = false := rfl

theorem f32_at : assoc G.fns 32 = some f32_info := by kernel_rfl
theorem f32_in : f32_info.ext = false := rfl

theorem f11_at : assoc G.fns 11 = some f11_info := by kernel_rfl
theorem f11_in : f11_info.ext = false := rfl

theorem f33_at : assoc G.fns 33 = some f33_info := by kernel_rfl
theorem f33_in : f33_info.ext = false := rfl

theorem f98_at : assoc G.fns 98 = some f98_info := by kernel_rfl
theorem f98_in : f98_info.ext = false := rfl

theorem f99_at : assoc G.fns 99 = some f99_info := by kernel_rfl
theorem f99_in : f99_info.ext = false := rfl

theorem f95_at : assoc G.fns 95 = some f95_info := by kernel_rfl
theorem f95_in : f95_info.ext = false := rfl

theorem f115_at : assoc G.fns 115 = some f115_info := by kernel_rfl
theorem f115_in : f115_info.ext = false := rfl

theorem f104_at : assoc G.fns 104 = some f104_info := by kernel_rfl
theorem f104_in : f104_info.ext = false := rfl

theorem f135_at : assoc G.fns 135 = some f135_info := by kernel_rfl
theorem f135_in : f135_info.ext = false := rfl

theorem f126_at : assoc G.fns 126 = some f126_info := by kernel_rfl
theorem f126_in : f126_info.ext = false := rfl

theorem f124_at : assoc G.fns 124 = some f124_info := by kernel_rfl
theorem f124_in : f124_info.ext = false := rfl

theorem f125_at : assoc G.fns 125 = some f125_info := by kernel_rfl
theorem f125_in : f125_info.ext = false := rfl

theorem f116_at : assoc G.fns 116 = some f116_info := by kernel_rfl
theorem f116_in : f116_info.ext = false := rfl

theorem f96_at : assoc G.fns 96 = some f96_info := by kernel_rfl
theorem f96_in : f96_info.ext = false := rfl

theorem f105_at : assoc G.fns 105 = some f105_info := by kernel_rfl
theorem f105_in : f105_info.ext = false := rfl

theorem f79_at : assoc G.fns 79 = some f79_info := by kernel_rfl
theorem f79_in : f79_info.ext = false := rfl

theorem f117_at : assoc G.fns 117 = some f117_info := by kernel_rfl
theorem f117_in : f117_info.ext = false := rfl

theorem f78_at : assoc G.fns 78 = some f78_info := by kernel_rfl
theorem f78_in : f78_info.ext = false := rfl

theorem f97_at : assoc G.fns 97 = some f97_info := by kernel_rfl
theorem f97_in : f97_info.ext = false := rfl

theorem f65_at : assoc G.fns 65 = some f65_info := by kernel_rfl
theorem f65_in : f65_info.ext = false := rfl

theorem f67_at : assoc G.fns 67 = some f67_info := by kernel_rfl
theorem f67_in : f67_info.ext = false := rfl

theorem f100_at : assoc G.fns 100 = some f100_info := by kernel_rfl
theorem f100_in : f100_info.ext = false := rfl

theorem f68_at : assoc G.fns 68 = some f68_info := by kernel_rfl
theorem f68_in : f68_info.ext = false := rfl

theorem f35_at : assoc G.fns 35 = some f35_info := by kernel_rfl
theorem f35_in : f35_info.ext = false := rfl

theorem f66_at : assoc G.fns 66 = some f66_info := by kernel_rfl
theorem f66_in : f66_info.ext = false := rfl

theorem f34_at : assoc G.fns 34 = some f34_info := by kernel_rfl
theorem f34_in : f34_info.ext = false := rfl

theorem f12_at : assoc G.fns 12 = some f12_info := by kernel_rfl
theorem f12_in : f12_info.ext = false := rfl

theorem f38_at : assoc G.fns 38 = some f38_info := by kernel_rfl
theorem f38_in : f38_info.ext = false := rfl

theorem f13_at : assoc G.fns 13 = some f13_info := by kernel_rfl
theorem f13_in : f13_info.ext = false := rfl

theorem f69_at : assoc G.fns 69 = some f69_info := by kernel_rfl
theorem f69_in : f69_info.ext = false := rfl

theorem f39_at : assoc G.fns 39 = some f39_info := by kernel_rfl
theorem f39_in : f39_info.ext = false := rfl

theorem f40_at : assoc G.fns 40 = some f40_info := by kernel_rfl
theorem f40_in : f40_info.ext = false := rfl

theorem f14_at : assoc G.fns 14 = some f14_info := by kernel_rfl
theorem f14_in : f14_info.ext = false := rfl

theorem f3_at : assoc G.fns 3 = some f3_info := by kernel_rfl
theorem f3_in : f3_info.ext = false := rfl

theorem f15_at : assoc G.fns 15 = some f15_info := by kernel_rfl
theorem f15_in : f15_info.ext = false := rfl

theorem f103_at : assoc G.fns 103 = some f103_info := by kernel_rfl
theorem f103_in : f103_info.ext = false := rfl

theorem f71_at : assoc G.fns 71 = some f71_info := by kernel_rfl
theorem f71_in : f71_info.ext = false := rfl

theorem f41_at : assoc G.fns 41 = some f41_info := by kernel_rfl
theorem f41_in : f41_info.ext = false := rfl

theorem f42_at : assoc G.fns 42 = some f42_info := by kernel_rfl
theorem f42_in : f42_info.ext = false := rfl

theorem f47_at : assoc G.fns 47 = some f47_info := by kernel_rfl
theorem f47_in : f47_info.ext = false := rfl

theorem f77_at : assoc G.fns 77 = some f77_info := by kernel_rfl
theorem f77_in : f77_info.ext = false := rfl

theorem f46_at : assoc G.fns 46 = some f46_info := by kernel_rfl
theorem f46_in : f46_info.ext = false := rfl

theorem f19_at : assoc G.fns 19 = some f19_info := by kernel_rfl
theorem f19_in : f19_info.ext = false := rfl

theorem f81_at : assoc G.fns 81 = some f81_info := by kernel_rfl
theorem f81_in : f81_info.ext = false := rfl

theorem f80_at : assoc G.fns 80 = some f80_info := by kernel_rfl
theorem f80_in : f80_info.ext = false := rfl

theorem f48_at : assoc G.fns 48 = some f48_info := by kernel_rfl
theorem f48_in : f48_info.ext = false := rfl

theorem f21_at : assoc G.fns 21 = some f21_info := by kernel_rfl
theorem f21_in : f21_info.ext = false := rfl

theorem f74_at : assoc G.fns 74 = some f74_info := by kernel_rfl
theorem f74_in : f74_info.ext = false := rfl

theorem f76_at : assoc G.fns 76 = some f76_info := by kernel_rfl
theorem f76_in : f76_info.ext = false := rfl

theorem f45_at : assoc G.fns 45 = some f45_info := by kernel_rfl
theorem f45_in : f45_info.ext = false := rfl

theorem f44_at : assoc G.fns 44 = some f44_info := by kernel_rfl
theorem f44_in : f44_info.ext = false := rfl

theorem f18_at : assoc G.fns 18 = some f18_info := by kernel_rfl
theorem f18_in : f18_info.ext = false := rfl

theorem f73_at : assoc G.fns 73 = some f73_info := by kernel_rfl
theorem f73_in : f73_info.ext = false := rfl

theorem f20_at : assoc G.fns 20 = some f20_info := by kernel_rfl
theorem f20_in : f20_info.ext = false := rfl

theorem f72_at : assoc G.fns 72 = some f72_info := by kernel_rfl
theorem f72_in : f72_info.ext = false := rfl

theorem f22_at : assoc G.fns 22 = some f22_info := by kernel_rfl
theorem f22_in : f22_info.ext = false := rfl

theorem f75_at : assoc G.fns 75 = some f75_info := by kernel_rfl
theorem f75_in : f75_info.ext = false := rfl

theorem f43_at : assoc G.fns 43 = some f43_info := by kernel_rfl
theorem f43_in : f43_info.ext = false := rfl

theorem f16_at : assoc G.fns 16 = some f16_info := by kernel_rfl
theorem f16_in : f16_info.ext = false := rfl

theorem f17_at : assoc G.fns 17 = some f17_info := by kernel_rfl
theorem f17_in : f17_info.ext = false := rfl

theorem f4_at : assoc G.fns 4 = some f4_info := by kernel_rfl
theorem f4_in : f4_info.ext = false := rfl

theorem f5_at : assoc G.fns 5 = some f5_info := by kernel_rfl
theorem f5_in : f5_info.ext = false := rfl

theorem f106_at : assoc G.fns 106 = some f106_info := by kernel_rfl
theorem f106_in : f106_info.ext = false := rfl

theorem f132_at : assoc G.fns 132 = some f132_info := by kernel_rfl
theorem f132_in : f132_info.ext = false := rfl

theorem f149_at : assoc G.fns 149 = some f149_info := by kernel_rfl
theorem f149_in : f149_info.ext = false := rfl

theorem f142_at : assoc G.fns 142 = some f142_info := by kernel_rfl
theorem f142_in : f142_info.ext = false := rfl

theorem f148_at : assoc G.fns 148 = some f148_info := by kernel_rfl
theorem f148_in : f148_info.ext = false := rfl

theorem f141_at : assoc G.fns 141 = some f141_info := by kernel_rfl
theorem f141_in : f141_info.ext = false := rfl

theorem f131_at : assoc G.fns 131 = some f131_info := by kernel_rfl
theorem f131_in : f131_info.ext = false := rfl

theorem f119_at : assoc G.fns 119 = some f119_info := by kernel_rfl
theorem f119_in : f119_info.ext = false := rfl

theorem f89_at : assoc G.fns 89 = some f89_info := by kernel_rfl
theorem f89_in : f89_info.ext = false := rfl

theorem f133_at : assoc G.fns 133 = some f133_info := by kernel_rfl
theorem f133_in : f133_info.ext = false := rfl

theorem f120_at : assoc G.fns 120 = some f120_info := by kernel_rfl
theorem f120_in : f120_info.ext = false := rfl

theorem f107_at : assoc G.fns 107 = some f107_info := by kernel_rfl
theorem f107_in : f107_info.ext = false := rfl

theorem f24_at : assoc G.fns 24 = some f24_info := by kernel_rfl
theorem f24_in : f24_info.ext = false := rfl

theorem f82_at : assoc G.fns 82 = some f82_info := by kernel_rfl
theorem f82_in : f82_info.ext = false := rfl

theorem f49_at : assoc G.fns 49 = some f49_info := by kernel_rfl
theorem f49_in : f49_info.ext = false := rfl

theorem f91_at : assoc G.fns 91 = some f91_info := by kernel_rfl
theorem f91_in : f91_info.ext = false := rfl

theorem f92_at : assoc G.fns 92 = some f92_info := by kernel_rfl
theorem f92_in : f92_info.ext = false := rfl

theorem f114_at : assoc G.fns 114 = some f114_info := by kernel_rfl
theorem f114_in : f114_info.ext = false := rfl

theorem f94_at : assoc G.fns 94 = some f94_info := by kernel_rfl
theorem f94_in : f94_info.ext = false := rfl

theorem f93_at : assoc G.fns 93 = some f93_info := by kernel_rfl
theorem f93_in : f93_info.ext = false := rfl

theorem f60_at : assoc G.fns 60 = some f60_info := by kernel_rfl
theorem f60_in : f60_info.ext = false := rfl

theorem f61_at : assoc G.fns 61 = some f61_info := by kernel_rfl
theorem f61_in : f61_info.ext = false := rfl

theorem f50_at : assoc G.fns 50 = some f50_info := by kernel_rfl
theorem f50_in : f50_info.ext = false := rfl

theorem f23_at : assoc G.fns 23 = some f23_info := by kernel_rfl
theorem f23_in : f23_info.ext = false := rfl

theorem f112_at : assoc G.fns 112 = some f112_info := by kernel_rfl
theorem f112_in : f112_info.ext = false := rfl

theorem f111_at : assoc G.fns 111 = some f111_info := by kernel_rfl
theorem f111_in : f111_info.ext = false := rfl

theorem f113_at : assoc G.fns 113 = some f113_info := by kernel_rfl
theorem f113_in : f113_info.ext = false := rfl

theorem f87_at : assoc G.fns 87 = some f87_info := by kernel_rfl
theorem f87_in : f87_info.ext = false := rfl

theorem f86_at : assoc G.fns 86 = some f86_info := by kernel_rfl
theorem f86_in : f86_info.ext = false := rfl

theorem f108_at : assoc G.fns 108 = some f108_info := by kernel_rfl
theorem f108_in : f108_info.ext = false := rfl

theorem f109_at : assoc G.fns 109 = some f109_info := by kernel_rfl
theorem f109_in : f109_info.ext = false := rfl

theorem f134_at : assoc G.fns 134 = some f134_info := by kernel_rfl
theorem f134_in : f134_info.ext = false := rfl

theorem f122_at : assoc G.fns 122 = some f122_info := by kernel_rfl
theorem f122_in : f122_info.ext = false := rfl

theorem f121_at : assoc G.fns 121 = some f121_info := by kernel_rfl
theorem f121_in : f121_info.ext = false := rfl

theorem f123_at : assoc G.fns 123 = some f123_info := by kernel_rfl
theorem f123_in : f123_info.ext = false := rfl

theorem f110_at : assoc G.fns 110 = some f110_info := by kernel_rfl
theorem f110_in : f110_info.ext = false := rfl

theorem f85_at : assoc G.fns 85 = some f85_info := by kernel_rfl
theorem f85_in : f85_info.ext = false := rfl

theorem f52_at : assoc G.fns 52 = some f52_info := by kernel_rfl
theorem f52_in : f52_info.ext = false := rfl

theorem f84_at : assoc G.fns 84 = some f84_info := by kernel_rfl
theorem f84_in : f84_info.ext = false := rfl

theorem f83_at : assoc G.fns 83 = some f83_info := by kernel_rfl
theorem f83_in : f83_info.ext = false := rfl

theorem f51_at : assoc G.fns 51 = some f51_info := by kernel_rfl
theorem f51_in : f51_info.ext = false := rfl

theorem f25_at : assoc G.fns 25 = some f25_info := by kernel_rfl
theorem f25_in : f25_info.ext = false := rfl

theorem f6_at : assoc G.fns 6 = some f6_info := by kernel_rfl
theorem f6_in : f6_info.ext = false := rfl

theorem f26_at : assoc G.fns 26 = some f26_info := by kernel_rfl
theorem f26_in : f26_info.ext = false := rfl

theorem f53_at : assoc G.fns 53 = some f53_info := by kernel_rfl
theorem f53_in : f53_info.ext = false := rfl

theorem f55_at : assoc G.fns 55 = some f55_info := by kernel_rfl
theorem f55_in : f55_info.ext = false := rfl

theorem f88_at : assoc G.fns 88 = some f88_info := by kernel_rfl
theorem f88_in : f88_info.ext = false := rfl

theorem f54_at : assoc G.fns 54 = some f54_info := by kernel_rfl
theorem f54_in : f54_info.ext = false := rfl

theorem f56_at : assoc G.fns 56 = some f56_info := by kernel_rfl
theorem f56_in : f56_info.ext = false := rfl

theorem f27_at : assoc G.fns 27 = some f27_info := by kernel_rfl
theorem f27_in : f27_info.ext = false := rfl

theorem f28_at : assoc G.fns 28 = some f28_info := by kernel_rfl
theorem f28_in : f28_info.ext = false := rfl

theorem f7_at : assoc G.fns 7 = some f7_info := by kernel_rfl
theorem f7_in : f7_info.ext = false := rfl

theorem f59_at : assoc G.fns 59 = some f59_info := by kernel_rfl
theorem f59_in : f59_info.ext = false := rfl

theorem f90_at : assoc G.fns 90 = some f90_info := by kernel_rfl
theorem f90_in : f90_info.ext = false := rfl

theorem f58_at : assoc G.fns 58 = some f58_info := by kernel_rfl
theorem f58_in : f58_info.ext = false := rfl

theorem f57_at : assoc G.fns 57 = some f57_info := by kernel_rfl
theorem f57_in : f57_info.ext = false := rfl

theorem f29_at : assoc G.fns 29 = some f29_info := by kernel_rfl
theorem f29_in : f29_info.ext = false := rfl

theorem f30_at : assoc G.fns 30 = some f30_info := by kernel_rfl
theorem f30_in : f30_info.ext = false := rfl

theorem f8_at : assoc G.fns 8 = some f8_info := by kernel_rfl
theorem f8_in : f8_info.ext = false := rfl

theorem f62_at : assoc G.fns 62 = some f62_info := by kernel_rfl
theorem f62_in : f62_info.ext = false := rfl

theorem f31_at : assoc G.fns 31 = some f31_info := by kernel_rfl
theorem f31_in : f31_info.ext = false := rfl

theorem f9_at : assoc G.fns 9 = some f9_info := by kernel_rfl
theorem f9_in : f9_info.ext = false := rfl

end Go.Proofs.Ytddcooedbibehaa.Ev

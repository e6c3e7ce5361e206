/- The functions, and what the evaluator is told of them: printed by gen.py. -/
import Derived.Test.YtogehijjhibdkaaEvT3
import Derived.Test.YtogehijjhibdkaaProg
import Derived.KernelRfl
namespace Go.Proofs.Ytogehijjhibdkaa.Ev
open Go Go.RowKit
set_option maxRecDepth 100000


noncomputable def bodyOf (f : Func) : Code := f.body.getD .skip

def sub : List Nat → Code → Code
  | [], c => c
  | i :: r, .seq x y => sub r (bif Nat.beq i 0 then x else y)
  | i :: r, .cond _ x y => sub r (bif Nat.beq i 0 then x else y)
  | _ :: r, .block _ c => sub r c
  | _ :: r, .loop c => sub r c
  | _, c => c

theorem runE_succ {G : Env} {ext : Run} {n : Nat} {f : FuncId} {i : FnInfo} {xs : List AV} (h : assoc G.fns f = some i) (hx : i.ext = false) : runE G ext (n + 1) f xs = evalK G (runE G ext n) n i.keep 0 i.body (retE G i) (i.start xs) := by
  simp only [runE, h, hx, cond_false]

/- milepost/up.Places: by its contract -/
noncomputable def f15_body : Code := bodyOf Try.f15
noncomputable def f15_info : FnInfo := ⟨[.val (.slice (.int .i64)), .val (.int .i64), .val (.int .i64)], [.val (.slice (.int .i64))], 19, [.tmp 6], f15_body, [], true, true⟩

/- milepost/milepostref05.Mul: by its contract -/
noncomputable def f35_body : Code := bodyOf Try.f35
noncomputable def f35_info : FnInfo := ⟨[.val (.slice (.int .i64)), .val (.slice (.int .i64))], [.val (.slice (.int .i64))], 67, [.tmp 4], f35_body, [], false, true⟩

/- milepost/milepostlaw47.low -/
noncomputable def f5_body : Code := bodyOf Try.f5
def f5_fresh : Bool := false
def f5_t0 : List Nat := [0, 3]
def f5_o0 : List Nat := []
def f5_keep : List (Nat × (List Nat × List Nat)) := [(0, (f5_t0, f5_o0))]
noncomputable def f5_info : FnInfo := ⟨[.val (.slice (.int .i64))], [.val .bool], 22, [.tmp 2], f5_body, f5_keep, f5_fresh, false⟩

/- milepost/ratio.May -/
noncomputable def f17_body : Code := bodyOf Try.f17
def f17_fresh : Bool := false
def f17_keep : List (Nat × (List Nat × List Nat)) := []
noncomputable def f17_info : FnInfo := ⟨[.val (.int .i64), .val (.int .i64)], [.val .bool], 16, [.tmp 4], f17_body, f17_keep, f17_fresh, false⟩

/- milepost/pick.May -/
noncomputable def f10_body : Code := bodyOf Try.f10
def f10_fresh : Bool := false
def f10_keep : List (Nat × (List Nat × List Nat)) := []
noncomputable def f10_info : FnInfo := ⟨[.val (.int .i64), .val (.int .i64), .val (.int .i64), .val (.int .i64)], [.val .bool], 28, [.tmp 8], f10_body, f10_keep, f10_fresh, false⟩

/- milepost/pick.top -/
noncomputable def f14_body : Code := bodyOf Try.f14
def f14_fresh : Bool := false
def f14_t0 : List Nat := [3, 6, 7, 8]
def f14_o0 : List Nat := []
def f14_keep : List (Nat × (List Nat × List Nat)) := [(0, (f14_t0, f14_o0))]
noncomputable def f14_info : FnInfo := ⟨[.val (.slice (.int .i64))], [.val (.int .i64)], 21, [.tmp 2], f14_body, f14_keep, f14_fresh, false⟩

/- milepost/large.Of -/
noncomputable def f45_body : Code := bodyOf Try.f45
def f45_fresh : Bool := false
def f45_keep : List (Nat × (List Nat × List Nat)) := []
noncomputable def f45_info : FnInfo := ⟨[.val (.int .u64)], [.val (.arr 5 (.int .u64))], 5, [.cell 2 55], f45_body, f45_keep, f45_fresh, false⟩

/- milepost/large.half -/
noncomputable def f47_body : Code := bodyOf Try.f47
def f47_fresh : Bool := false
def f47_t0 : List Nat := [1, 2, 4, 6, 7, 11]
def f47_o0 : List Nat := [2, 4, 6]
def f47_keep : List (Nat × (List Nat × List Nat)) := [(0, (f47_t0, f47_o0))]
noncomputable def f47_info : FnInfo := ⟨[.val (.arr 5 (.int .u64)), .val (.int .u64)], [.val (.arr 5 (.int .u64)), .val .bool], 44, [.cell 4 55, .tmp 5], f47_body, f47_keep, f47_fresh, false⟩

/- milepost/word.Lead -/
noncomputable def f50_body : Code := bodyOf Try.f50
def f50_fresh : Bool := false
def f50_t0 : List Nat := [0, 3, 5]
def f50_o0 : List Nat := []
def f50_keep : List (Nat × (List Nat × List Nat)) := [(0, (f50_t0, f50_o0))]
noncomputable def f50_info : FnInfo := ⟨[.val (.int .u64)], [.val (.int .i64)], 18, [.tmp 2], f50_body, f50_keep, f50_fresh, false⟩

/- milepost/large.Len -/
noncomputable def f49_body : Code := bodyOf Try.f49
def f49_fresh : Bool := false
def f49_t0 : List Nat := [1, 5]
def f49_o0 : List Nat := [1]
def f49_keep : List (Nat × (List Nat × List Nat)) := [(0, (f49_t0, f49_o0))]
noncomputable def f49_info : FnInfo := ⟨[.val (.arr 5 (.int .u64))], [.val (.int .i64)], 21, [.tmp 2], f49_body, f49_keep, f49_fresh, false⟩

/- milepost/large.Shl -/
noncomputable def f46_body : Code := bodyOf Try.f46
def f46_fresh : Bool := false
def f46_t0 : List Nat := [2, 4, 6, 7, 8, 9]
def f46_o0 : List Nat := [2, 4, 6]
def f46_keep : List (Nat × (List Nat × List Nat)) := [(0, (f46_t0, f46_o0))]
noncomputable def f46_info : FnInfo := ⟨[.val (.arr 5 (.int .u64)), .val (.int .i64)], [.val (.arr 5 (.int .u64)), .val .bool], 70, [.cell 4 55, .tmp 5], f46_body, f46_keep, f46_fresh, false⟩

/- milepost/large.Add -/
noncomputable def f48_body : Code := bodyOf Try.f48
def f48_fresh : Bool := false
def f48_t0 : List Nat := [2, 3, 4, 6, 7, 11]
def f48_o0 : List Nat := [2, 3, 4, 6]
def f48_keep : List (Nat × (List Nat × List Nat)) := [(0, (f48_t0, f48_o0))]
noncomputable def f48_info : FnInfo := ⟨[.val (.arr 5 (.int .u64)), .val (.arr 5 (.int .u64))], [.val (.arr 5 (.int .u64)), .val .bool], 51, [.cell 4 55, .tmp 5], f48_body, f48_keep, f48_fresh, false⟩

/- milepost/large.Mul -/
noncomputable def f44_body : Code := bodyOf Try.f44
def f44_fresh : Bool := false
def f44_keep : List (Nat × (List Nat × List Nat)) := []
noncomputable def f44_info : FnInfo := ⟨[.val (.arr 5 (.int .u64)), .val (.int .u64)], [.val (.arr 5 (.int .u64)), .val .bool], 42, [.cell 4 55, .tmp 5], f44_body, f44_keep, f44_fresh, false⟩

/- milepost/ratio.Product -/
noncomputable def f43_body : Code := bodyOf Try.f43
def f43_fresh : Bool := false
def f43_keep : List (Nat × (List Nat × List Nat)) := []
noncomputable def f43_info : FnInfo := ⟨[.val (.int .u32), .val (.int .u32), .val (.int .i64)], [.val (.arr 5 (.int .u64)), .val .bool], 31, [.cell 6 55, .tmp 7], f43_body, f43_keep, f43_fresh, false⟩

/- milepost/ratio.sides -/
noncomputable def f39_body : Code := bodyOf Try.f39
def f39_fresh : Bool := false
def f39_keep : List (Nat × (List Nat × List Nat)) := []
noncomputable def f39_info : FnInfo := ⟨[.val (.int .u32), .val (.int .u32), .val (.int .i64), .val (.int .i64), .val (.int .i64)], [.val (.arr 5 (.int .u64)), .val (.arr 5 (.int .u64)), .val .bool], 43, [.cell 10 55, .cell 11 55, .tmp 12], f39_body, f39_keep, f39_fresh, false⟩

/- milepost/large.Cmp -/
noncomputable def f40_body : Code := bodyOf Try.f40
def f40_fresh : Bool := false
def f40_t0 : List Nat := [2, 3, 8]
def f40_o0 : List Nat := [2, 3]
def f40_keep : List (Nat × (List Nat × List Nat)) := [(0, (f40_t0, f40_o0))]
noncomputable def f40_info : FnInfo := ⟨[.val (.arr 5 (.int .u64)), .val (.arr 5 (.int .u64))], [.val (.int .i64)], 26, [.tmp 4], f40_body, f40_keep, f40_fresh, false⟩

/- milepost/ratio.Above -/
noncomputable def f33_body : Code := bodyOf Try.f33
def f33_fresh : Bool := false
def f33_keep : List (Nat × (List Nat × List Nat)) := []
noncomputable def f33_info : FnInfo := ⟨[.val (.int .u32), .val (.int .u32), .val (.int .i64), .val (.int .i64), .val (.int .i64)], [.val .bool], 31, [.tmp 10], f33_body, f33_keep, f33_fresh, false⟩

/- milepost/good.Local -/
noncomputable def f27_body : Code := bodyOf Try.f27
def f27_fresh : Bool := false
def f27_keep : List (Nat × (List Nat × List Nat)) := []
noncomputable def f27_info : FnInfo := ⟨[.val (.int .i64), .val (.int .i64), .val (.int .i64), .val (.int .i64), .val (.int .i64)], [.val .bool], 35, [.tmp 10], f27_body, f27_keep, f27_fresh, false⟩

/- milepost/good.Super -/
noncomputable def f22_body : Code := bodyOf Try.f22
def f22_fresh : Bool := false
def f22_t0 : List Nat := [0, 1, 3, 4, 11, 12]
def f22_o0 : List Nat := []
def f22_keep : List (Nat × (List Nat × List Nat)) := [(0, (f22_t0, f22_o0))]
noncomputable def f22_info : FnInfo := ⟨[.val (.slice (.int .i64)), .val (.int .i64), .val (.int .i64), .val (.int .i64), .val (.int .i64)], [.val .bool], 43, [.tmp 10], f22_body, f22_keep, f22_fresh, false⟩

/- milepost/good.counts -/
noncomputable def f28_body : Code := bodyOf Try.f28
def f28_fresh : Bool := false
def f28_t0 : List Nat := [1, 5, 12, 13, 14]
def f28_o0 : List Nat := [11]
def f28_keep : List (Nat × (List Nat × List Nat)) := [(0, (f28_t0, f28_o0))]
noncomputable def f28_info : FnInfo := ⟨[.val (.slice (.int .i64)), .val (.int .i64)], [.val (.slice (.int .i64))], 39, [.tmp 4], f28_body, f28_keep, f28_fresh, false⟩

/- milepost/ratio.Least -/
noncomputable def f34_body : Code := bodyOf Try.f34
def f34_fresh : Bool := false
def f34_keep : List (Nat × (List Nat × List Nat)) := []
noncomputable def f34_info : FnInfo := ⟨[.val (.int .u32), .val (.int .u32), .val (.int .i64), .val (.int .i64), .val (.int .i64)], [.val .bool], 31, [.tmp 10], f34_body, f34_keep, f34_fresh, false⟩

/- milepost/good.stretches -/
noncomputable def f29_body : Code := bodyOf Try.f29
def f29_fresh : Bool := false
def f29_t0 : List Nat := [0, 1, 2, 3, 4, 5, 18, 19]
def f29_o0 : List Nat := []
def f29_t2 : List Nat := [0, 1, 2, 3, 4, 5, 13, 14, 18, 19]
def f29_o2 : List Nat := []
def f29_keep : List (Nat × (List Nat × List Nat)) := [(0, (f29_t0, f29_o0)), (2, (f29_t2, f29_o2))]
noncomputable def f29_info : FnInfo := ⟨[.val (.slice (.int .i64)), .val (.slice (.int .i64)), .val (.int .i64), .val (.int .i64), .val (.int .i64), .val (.int .i64)], [.val .bool], 63, [.tmp 12], f29_body, f29_keep, f29_fresh, false⟩

/- milepost/good.Multi -/
noncomputable def f23_body : Code := bodyOf Try.f23
def f23_fresh : Bool := false
def f23_t0 : List Nat := [0, 1, 2, 3, 4, 11, 24, 25]
def f23_o0 : List Nat := []
def f23_keep : List (Nat × (List Nat × List Nat)) := [(0, (f23_t0, f23_o0))]
noncomputable def f23_info : FnInfo := ⟨[.val (.slice (.int .i64)), .val (.int .i64), .val (.int .i64), .val (.int .i64), .val (.int .i64)], [.val .bool], 42, [.tmp 10], f23_body, f23_keep, f23_fresh, false⟩

/- milepost/good.Good -/
noncomputable def f19_body : Code := bodyOf Try.f19
def f19_fresh : Bool := false
def f19_keep : List (Nat × (List Nat × List Nat)) := []
noncomputable def f19_info : FnInfo := ⟨[.val (.slice (.int .i64)), .val (.int .i64), .val (.int .i64), .val (.int .i64), .val (.int .i64)], [.val .bool], 25, [.tmp 10], f19_body, f19_keep, f19_fresh, false⟩

/- milepost/pick.Begin -/
noncomputable def f12_body : Code := bodyOf Try.f12
def f12_fresh : Bool := false
def f12_keep : List (Nat × (List Nat × List Nat)) := []
noncomputable def f12_info : FnInfo := ⟨[.val (.slice (.int .i64)), .val (.int .i64), .val (.int .i64), .val (.int .i64), .val (.int .i64), .val (.int .i64)], [.val (.int .i64)], 49, [.tmp 12], f12_body, f12_keep, f12_fresh, false⟩

/- milepost/pick.Pick -/
noncomputable def f8_body : Code := bodyOf Try.f8
def f8_fresh : Bool := true
def f8_t0 : List Nat := [1, 3, 4, 11, 12, 13, 14]
def f8_o0 : List Nat := [45]
def f8_t2 : List Nat := [1, 3, 4, 11, 12, 13, 14, 55, 56, 57]
def f8_o2 : List Nat := [45]
def f8_t4 : List Nat := [17, 72, 73, 74]
def f8_o4 : List Nat := [45]
def f8_keep : List (Nat × (List Nat × List Nat)) := [(0, (f8_t0, f8_o0)), (2, (f8_t2, f8_o2)), (4, (f8_t4, f8_o4))]
noncomputable def f8_info : FnInfo := ⟨[.val (.slice (.int .i64)), .val (.int .i64), .val (.int .i64), .val (.int .i64), .val (.int .i64)], [.val (.slice (.int .i64))], 86, [.tmp 10], f8_body, f8_keep, f8_fresh, false⟩

/- milepost/milepostref22.Same -/
noncomputable def f7_body : Code := bodyOf Try.f7
def f7_fresh : Bool := false
def f7_t0 : List Nat := [0, 1, 5]
def f7_o0 : List Nat := []
def f7_keep : List (Nat × (List Nat × List Nat)) := [(0, (f7_t0, f7_o0))]
noncomputable def f7_info : FnInfo := ⟨[.val (.slice (.int .i64)), .val (.slice (.int .i64))], [.val .bool], 26, [.tmp 4], f7_body, f7_keep, f7_fresh, false⟩

/- milepost/milepostlaw47.awake -/
noncomputable def f6_body : Code := bodyOf Try.f6
def f6_fresh : Bool := false
def f6_keep : List (Nat × (List Nat × List Nat)) := []
noncomputable def f6_info : FnInfo := ⟨[], [.val .bool], 12, [.tmp 0], f6_body, f6_keep, f6_fresh, false⟩

/- milepost/milepostref06.May -/
noncomputable def f18_body : Code := bodyOf Try.f18
def f18_fresh : Bool := false
def f18_keep : List (Nat × (List Nat × List Nat)) := []
noncomputable def f18_info : FnInfo := ⟨[.val (.int .i64), .val (.int .i64)], [.val .bool], 16, [.tmp 4], f18_body, f18_keep, f18_fresh, false⟩

/- milepost/milepostref47.May -/
noncomputable def f11_body : Code := bodyOf Try.f11
def f11_fresh : Bool := false
def f11_keep : List (Nat × (List Nat × List Nat)) := []
noncomputable def f11_info : FnInfo := ⟨[.val (.int .i64), .val (.int .i64), .val (.int .i64), .val (.int .i64)], [.val .bool], 28, [.tmp 8], f11_body, f11_keep, f11_fresh, false⟩

/- milepost/milepostref38.Places -/
noncomputable def f16_body : Code := bodyOf Try.f16
def f16_fresh : Bool := true
def f16_t0 : List Nat := [0, 1, 2, 7, 8]
def f16_o0 : List Nat := []
def f16_keep : List (Nat × (List Nat × List Nat)) := [(0, (f16_t0, f16_o0))]
noncomputable def f16_info : FnInfo := ⟨[.val (.slice (.int .i64)), .val (.int .i64), .val (.int .i64)], [.val (.slice (.int .i64))], 31, [.tmp 6], f16_body, f16_keep, f16_fresh, false⟩

/- milepost/milepostref38.Count -/
noncomputable def f30_body : Code := bodyOf Try.f30
def f30_fresh : Bool := false
def f30_t0 : List Nat := [0, 1, 5, 6]
def f30_o0 : List Nat := []
def f30_keep : List (Nat × (List Nat × List Nat)) := [(0, (f30_t0, f30_o0))]
noncomputable def f30_info : FnInfo := ⟨[.val (.slice (.int .i64)), .val (.int .i64)], [.val (.int .i64)], 22, [.tmp 4], f30_body, f30_keep, f30_fresh, false⟩

/- milepost/milepostref05.trim -/
noncomputable def f41_body : Code := bodyOf Try.f41
def f41_fresh : Bool := false
def f41_t0 : List Nat := [0]
def f41_o0 : List Nat := []
def f41_keep : List (Nat × (List Nat × List Nat)) := [(0, (f41_t0, f41_o0))]
noncomputable def f41_info : FnInfo := ⟨[.val (.slice (.int .i64))], [.val (.slice (.int .i64))], 21, [.tmp 2], f41_body, f41_keep, f41_fresh, false⟩

/- milepost/milepostref05.Limbs -/
noncomputable def f42_body : Code := bodyOf Try.f42
def f42_fresh : Bool := false
def f42_t0 : List Nat := [0, 3, 4]
def f42_o0 : List Nat := []
def f42_t2 : List Nat := [0, 3, 4, 5, 6]
def f42_o2 : List Nat := []
def f42_keep : List (Nat × (List Nat × List Nat)) := [(0, (f42_t0, f42_o0)), (2, (f42_t2, f42_o2))]
noncomputable def f42_info : FnInfo := ⟨[.val (.slice (.int .u64))], [.val (.slice (.int .i64))], 31, [.tmp 2], f42_body, f42_keep, f42_fresh, false⟩

/- milepost/milepostref05.Of -/
noncomputable def f36_body : Code := bodyOf Try.f36
def f36_fresh : Bool := false
def f36_keep : List (Nat × (List Nat × List Nat)) := []
noncomputable def f36_info : FnInfo := ⟨[.val (.int .u64)], [.val (.slice (.int .i64))], 6, [.tmp 2], f36_body, f36_keep, f36_fresh, false⟩

/- milepost/milepostref05.Power -/
noncomputable def f37_body : Code := bodyOf Try.f37
def f37_fresh : Bool := false
def f37_keep : List (Nat × (List Nat × List Nat)) := []
noncomputable def f37_info : FnInfo := ⟨[.val (.int .i64)], [.val (.slice (.int .i64))], 16, [.tmp 2], f37_body, f37_keep, f37_fresh, false⟩

/- milepost/milepostref05.Cmp -/
noncomputable def f38_body : Code := bodyOf Try.f38
def f38_fresh : Bool := false
def f38_t0 : List Nat := [0, 1, 5]
def f38_o0 : List Nat := []
def f38_keep : List (Nat × (List Nat × List Nat)) := [(0, (f38_t0, f38_o0))]
noncomputable def f38_info : FnInfo := ⟨[.val (.slice (.int .i64)), .val (.slice (.int .i64))], [.val (.int .i64)], 41, [.tmp 4], f38_body, f38_keep, f38_fresh, false⟩

/- milepost/milepostref06.Cmp -/
noncomputable def f32_body : Code := bodyOf Try.f32
def f32_fresh : Bool := false
def f32_keep : List (Nat × (List Nat × List Nat)) := []
noncomputable def f32_info : FnInfo := ⟨[.val (.int .u32), .val (.int .u32), .val (.int .i64), .val (.int .i64), .val (.int .i64)], [.val (.int .i64)], 75, [.tmp 10], f32_body, f32_keep, f32_fresh, false⟩

/- milepost/milepostref38.Local -/
noncomputable def f31_body : Code := bodyOf Try.f31
def f31_fresh : Bool := false
def f31_keep : List (Nat × (List Nat × List Nat)) := []
noncomputable def f31_info : FnInfo := ⟨[.val (.int .i64), .val (.int .i64), .val (.int .i64), .val (.int .i64), .val (.int .i64)], [.val .bool], 36, [.tmp 10], f31_body, f31_keep, f31_fresh, false⟩

/- milepost/milepostref38.Super -/
noncomputable def f24_body : Code := bodyOf Try.f24
def f24_fresh : Bool := false
def f24_t0 : List Nat := [0, 1, 2, 3, 4, 11]
def f24_o0 : List Nat := []
def f24_keep : List (Nat × (List Nat × List Nat)) := [(0, (f24_t0, f24_o0))]
noncomputable def f24_info : FnInfo := ⟨[.val (.slice (.int .i64)), .val (.int .i64), .val (.int .i64), .val (.int .i64), .val (.int .i64)], [.val .bool], 52, [.tmp 10], f24_body, f24_keep, f24_fresh, false⟩

/- milepost/milepostref38.Multi -/
noncomputable def f25_body : Code := bodyOf Try.f25
def f25_fresh : Bool := false
def f25_t0 : List Nat := [0, 1, 2, 3, 4, 11]
def f25_o0 : List Nat := []
def f25_t2 : List Nat := [0, 1, 2, 3, 4, 11, 12]
def f25_o2 : List Nat := []
def f25_t4 : List Nat := [0, 1, 2, 3, 4, 11, 12, 13]
def f25_o4 : List Nat := []
def f25_keep : List (Nat × (List Nat × List Nat)) := [(0, (f25_t0, f25_o0)), (2, (f25_t2, f25_o2)), (4, (f25_t4, f25_o4))]
noncomputable def f25_info : FnInfo := ⟨[.val (.slice (.int .i64)), .val (.int .i64), .val (.int .i64), .val (.int .i64), .val (.int .i64)], [.val .bool], 74, [.tmp 10], f25_body, f25_keep, f25_fresh, false⟩

/- milepost/milepostref38.Good -/
noncomputable def f20_body : Code := bodyOf Try.f20
def f20_fresh : Bool := false
def f20_keep : List (Nat × (List Nat × List Nat)) := []
noncomputable def f20_info : FnInfo := ⟨[.val (.slice (.int .i64)), .val (.int .i64), .val (.int .i64), .val (.int .i64), .val (.int .i64)], [.val .bool], 25, [.tmp 10], f20_body, f20_keep, f20_fresh, false⟩

/- milepost/milepostref47.Begin -/
noncomputable def f13_body : Code := bodyOf Try.f13
def f13_fresh : Bool := false
def f13_keep : List (Nat × (List Nat × List Nat)) := []
noncomputable def f13_info : FnInfo := ⟨[.val (.slice (.int .i64)), .val (.int .i64), .val (.int .i64), .val (.int .i64), .val (.int .i64), .val (.int .i64)], [.val (.int .i64)], 49, [.tmp 12], f13_body, f13_keep, f13_fresh, false⟩

/- milepost/milepostref47.Pick -/
noncomputable def f9_body : Code := bodyOf Try.f9
def f9_fresh : Bool := true
def f9_t0 : List Nat := [1, 3, 4, 11, 12, 13]
def f9_o0 : List Nat := []
def f9_t2 : List Nat := [1, 3, 4, 11, 12, 14, 15]
def f9_o2 : List Nat := [63]
def f9_t4 : List Nat := [1, 3, 4, 11, 12, 14, 15, 16, 17]
def f9_o4 : List Nat := [63]
def f9_t6 : List Nat := [14, 18, 19]
def f9_o6 : List Nat := [63]
def f9_keep : List (Nat × (List Nat × List Nat)) := [(0, (f9_t0, f9_o0)), (2, (f9_t2, f9_o2)), (4, (f9_t4, f9_o4)), (6, (f9_t6, f9_o6))]
noncomputable def f9_info : FnInfo := ⟨[.val (.slice (.int .i64)), .val (.int .i64), .val (.int .i64), .val (.int .i64), .val (.int .i64)], [.val (.slice (.int .i64))], 106, [.tmp 10], f9_body, f9_keep, f9_fresh, false⟩

/- milepost/milepostlaw47.PickPicks -/
noncomputable def f3_body : Code := bodyOf Try.f3
def f3_fresh : Bool := false
def f3_keep : List (Nat × (List Nat × List Nat)) := []
noncomputable def f3_info : FnInfo := ⟨[.val (.slice (.int .i64)), .val (.arr 2 (.int .i64)), .val (.arr 2 (.int .i64))], [.val .bool], 54, [.tmp 6], f3_body, f3_keep, f3_fresh, false⟩

/- milepost/milepostlaw47.PickBegins -/
noncomputable def f4_body : Code := bodyOf Try.f4
def f4_fresh : Bool := false
def f4_keep : List (Nat × (List Nat × List Nat)) := []
noncomputable def f4_info : FnInfo := ⟨[.val (.slice (.int .i64)), .val (.arr 3 (.int .i64)), .val (.arr 2 (.int .i64))], [.val .bool], 50, [.tmp 6], f4_body, f4_keep, f4_fresh, false⟩

noncomputable def G : Env := {
  ty := [(3, (.int .i64)), (4, .bool), (22, (.slice (.int .i64))), (23, (.arr 2 (.int .i64))), (30, (.arr 3 (.int .i64))), (33, (.slice .bool)), (46, (.int .u32)), (48, (.slice (.int .i64))), (51, (.int .u64)), (55, (.arr 5 (.int .u64))), (61, (.slice (.int .u64))), (67, (.int .u64))]
  bytes := [(22, 8), (33, 1), (48, 8)]
  fns := [(15, f15_info), (35, f35_info), (5, f5_info), (17, f17_info), (10, f10_info), (14, f14_info), (45, f45_info), (47, f47_info), (50, f50_info), (49, f49_info), (46, f46_info), (48, f48_info), (44, f44_info), (43, f43_info), (39, f39_info), (40, f40_info), (33, f33_info), (27, f27_info), (22, f22_info), (28, f28_info), (34, f34_info), (29, f29_info), (23, f23_info), (19, f19_info), (12, f12_info), (8, f8_info), (7, f7_info), (6, f6_info), (18, f18_info), (11, f11_info), (16, f16_info), (30, f30_info), (41, f41_info), (42, f42_info), (36, f36_info), (37, f37_info), (38, f38_info), (32, f32_info), (31, f31_info), (24, f24_info), (25, f25_info), (20, f20_info), (13, f13_info), (9, f9_info), (3, f3_info), (4, f4_info)]
  ptrs := []
  made := []
  froz := [] }

theorem f15_at : assoc G.fns 15 = some f15_info := by kernel_rfl
theorem f15_out : f15_info.ext = true := rfl

theorem f35_at : assoc G.fns 35 = some f35_info := by kernel_rfl
theorem f35_out : f35_info.ext = true := rfl

theorem f5_at : assoc G.fns 5 = some f5_info := by kernel_rfl
theorem f5_in : f5_info.ext = false := rfl

theorem f17_at : assoc G.fns 17 = some f17_info := by kernel_rfl
theorem f17_in : f17_info.ext = false := rfl

theorem f10_at : assoc G.fns 10 = some f10_info := by kernel_rfl
theorem f10_in : f10_info.ext = false := rfl

theorem f14_at : assoc G.fns 14 = some f14_info := by kernel_rfl
theorem f14_in : f14_info.ext = false := rfl

theorem f45_at : assoc G.fns 45 = some f45_info := by kernel_rfl
theorem f45_in : f45_info.ext = false := rfl

theorem f47_at : assoc G.fns 47 = some f47_info := by kernel_rfl
theorem f47_in : f47_info.ext = false := rfl

theorem f50_at : assoc G.fns 50 = some f50_info := by kernel_rfl
theorem f50_in : f50_info.ext = false := rfl

theorem f49_at : assoc G.fns 49 = some f49_info := by kernel_rfl
theorem f49_in : f49_info.ext = false := rfl

theorem f46_at : assoc G.fns 46 = some f46_info := by kernel_rfl
theorem f46_in : f46_info.ext = false := rfl

theorem f48_at : assoc G.fns 48 = some f48_info := by kernel_rfl
theorem f48_in : f48_info.ext = false := rfl

theorem f44_at : assoc G.fns 44 = some f44_info := by kernel_rfl
theorem f44_in : f44_info.ext = false := rfl

theorem f43_at : assoc G.fns 43 = some f43_info := by kernel_rfl
theorem f43_in : f43_info.ext = false := rfl

theorem f39_at : assoc G.fns 39 = some f39_info := by kernel_rfl
theorem f39_in : f39_info.ext = false := rfl

theorem f40_at : assoc G.fns 40 = some f40_info := by kernel_rfl
theorem f40_in : f40_info.ext = false := rfl

theorem f33_at : assoc G.fns 33 = some f33_info := by kernel_rfl
theorem f33_in : f33_info.ext = false := rfl

theorem f27_at : assoc G.fns 27 = some f27_info := by kernel_rfl
theorem f27_in : f27_info.ext = false := rfl

theorem f22_at : assoc G.fns 22 = some f22_info := by kernel_rfl
theorem f22_in : f22_info.ext = false := rfl

theorem f28_at : assoc G.fns 28 = some f28_info := by kernel_rfl
theorem f28_in : f28_info.ext = false := rfl

theorem f34_at : assoc G.fns 34 = some f34_info := by kernel_rfl
theorem f34_in : f34_info.ext = false := rfl

theorem f29_at : assoc G.fns 29 = some f29_info := by kernel_rfl
theorem f29_in : f29_info.ext = false := rfl

theorem f23_at : assoc G.fns 23 = some f23_info := by kernel_rfl
theorem f23_in : f23_info.ext = false := rfl

theorem f19_at : assoc G.fns 19 = some f19_info := by kernel_rfl
theorem f19_in : f19_info.ext = false := rfl

theorem f12_at : assoc G.fns 12 = some f12_info := by kernel_rfl
theorem f12_in : f12_info.ext = false := rfl

theorem f8_at : assoc G.fns 8 = some f8_info := by kernel_rfl
theorem f8_in : f8_info.ext = false := rfl

theorem f7_at : assoc G.fns 7 = some f7_info := by kernel_rfl
theorem f7_in : f7_info.ext = false := rfl

theorem f6_at : assoc G.fns 6 = some f6_info := by kernel_rfl
theorem f6_in : f6_info.ext = false := rfl

theorem f18_at : assoc G.fns 18 = some f18_info := by kernel_rfl
theorem f18_in : f18_info.ext = false := rfl

theorem f11_at : assoc G.fns 11 = some f11_info := by kernel_rfl
theorem f11_in : f11_info.ext = false := rfl

theorem f16_at : assoc G.fns 16 = some f16_info := by kernel_rfl
theorem f16_in : f16_info.ext = false := rfl

theorem f30_at : assoc G.fns 30 = some f30_info := by kernel_rfl
theorem f30_in : f30_info.ext = false := rfl

theorem f41_at : assoc G.fns 41 = some f41_info := by kernel_rfl
theorem f41_in : f41_info.ext = false := rfl

theorem f42_at : assoc G.fns 42 = some f42_info := by kernel_rfl
theorem f42_in : f42_info.ext = false := rfl

theorem f36_at : assoc G.fns 36 = some f36_info := by kernel_rfl
theorem f36_in : f36_info.ext = false := rfl

theorem f37_at : assoc G.fns 37 = some f37_info := by kernel_rfl
theorem f37_in : f37_info.ext = false := rfl

theorem f38_at : assoc G.fns 38 = some f38_info := by kernel_rfl
theorem f38_in : f38_info.ext = false := rfl

theorem f32_at : assoc G.fns 32 = some f32_info := by kernel_rfl
theorem f32_in : f32_info.ext = false := rfl

theorem f31_at : assoc G.fns 31 = some f31_info := by kernel_rfl
theorem f31_in : f31_info.ext = false := rfl

theorem f24_at : assoc G.fns 24 = some f24_info := by kernel_rfl
theorem f24_in : f24_info.ext = false := rfl

theorem f25_at : assoc G.fns 25 = some f25_info := by kernel_rfl
theorem f25_in : f25_info.ext = false := rfl

theorem f20_at : assoc G.fns 20 = some f20_info := by kernel_rfl
theorem f20_in : f20_info.ext = false := rfl

theorem f13_at : assoc G.fns 13 = some f13_info := by kernel_rfl
theorem f13_in : f13_info.ext = false := rfl

theorem f9_at : assoc G.fns 9 = some f9_info := by kernel_rfl
theorem f9_in : f9_info.ext = false := rfl

theorem f3_at : assoc G.fns 3 = some f3_info := by kernel_rfl
theorem f3_in : f3_info.ext = false := rfl

theorem f4_at : assoc G.fns 4 = some f4_info := by kernel_rfl
theorem f4_in : f4_info.ext = false := rfl

end Go.Proofs.Ytogehijjhibdkaa.Ev

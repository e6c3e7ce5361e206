/- What the evaluator does with the functions, as programs over plain values: printed by gen.py, checked by the kernel. -/
import Derived.Test.YtgfplmaehbhapabEvZA
import Derived.Test.YtgfplmaehbhapabProg
import Derived.KernelRfl
namespace Go.Proofs.Ytgfplmaehbhapab.Ev
open Go Go.RowKit
set_option maxRecDepth 100000


noncomputable def bodyOf (f : Func) : Code := f.body.getD .skip

def sub : List Nat → Code → Code
  | [], c => c
  | i :: r, .seq x y => sub r (bif Nat.beq i 0 then x else y)
  | i :: r, .cond _ x y => sub r (bif Nat.beq i 0 then x else y)
  | _ :: r, .block _ c => sub r c
  | _ :: r, .loop c => sub r c
  | _, c => c

theorem runE_succ {G : Env} {ext : Run} {n : Nat} {f : FuncId} {i : FnInfo} {xs : List AV} (h : assoc G.fns f = some i) (hx : i.ext = false) : runE G ext (n + 1) f xs = evalK G (runE G ext n) n i.keep 0 i.body (retE G i) (i.start xs) := by
  simp only [runE, h, hx, cond_false]

/- milepost/milepostlaw30.Much -/
noncomputable def f9_body : Code := bodyOf Try.f9
def f9_fresh : Bool := false
def f9_t0 : List Nat := [0, 3, 4]
def f9_o0 : List Nat := []
def f9_keep : List (Nat × (List Nat × List Nat)) := [(0, (f9_t0, f9_o0))]
noncomputable def f9_info : FnInfo := ⟨[.val (.slice (.struct [(.struct [(.int .u32), (.blob 32), (.blob 32), (.int .u64)]), (.struct [(.int .i64), (.int .i64), (.slice (.blob 32))])]))], [.val .bool], 42, [.tmp 2], f9_body, f9_keep, f9_fresh, false⟩

/- milepost/rise.Above -/
noncomputable def f13_body : Code := bodyOf Try.f13
def f13_fresh : Bool := false
def f13_keep : List (Nat × (List Nat × List Nat)) := []
noncomputable def f13_info : FnInfo := ⟨[.val (.struct [(.int .u32), (.blob 32), (.blob 32), (.int .u64)]), .val (.struct [(.int .u32), (.blob 32), (.blob 32), (.int .u64)])], [.val .bool], 10, [.tmp 4], f13_body, f13_keep, f13_fresh, false⟩

/- milepost/rise.First -/
noncomputable def f11_body : Code := bodyOf Try.f11
def f11_fresh : Bool := false
def f11_t0 : List Nat := [0, 3]
def f11_o0 : List Nat := []
def f11_keep : List (Nat × (List Nat × List Nat)) := [(0, (f11_t0, f11_o0))]
noncomputable def f11_info : FnInfo := ⟨[.val (.slice (.struct [(.struct [(.int .u32), (.blob 32), (.blob 32), (.int .u64)]), (.struct [(.int .i64), (.int .i64), (.slice (.blob 32))])]))], [.val (.int .i64)], 24, [.tmp 2], f11_body, f11_keep, f11_fresh, false⟩

/- milepost/rise.Next -/
noncomputable def f14_body : Code := bodyOf Try.f14
def f14_fresh : Bool := false
def f14_keep : List (Nat × (List Nat × List Nat)) := []
noncomputable def f14_info : FnInfo := ⟨[.val (.struct [(.int .u32), (.blob 32), (.blob 32), (.int .u64)]), .val (.struct [(.int .u32), (.blob 32), (.blob 32), (.int .u64)])], [.val .bool], 16, [.tmp 4], f14_body, f14_keep, f14_fresh, false⟩

/- milepost/rise.Find -/
noncomputable def f15_body : Code := bodyOf Try.f15
def f15_fresh : Bool := false
def f15_t0 : List Nat := [0, 1, 5, 6]
def f15_o0 : List Nat := []
def f15_keep : List (Nat × (List Nat × List Nat)) := [(0, (f15_t0, f15_o0))]
noncomputable def f15_info : FnInfo := ⟨[.val (.slice (.struct [(.struct [(.int .u32), (.blob 32), (.blob 32), (.int .u64)]), (.struct [(.int .i64), (.int .i64), (.slice (.blob 32))])])), .val (.int .u32)], [.val (.int .i64)], 45, [.tmp 4], f15_body, f15_keep, f15_fresh, false⟩

/- milepost/milepostlaw34.awake -/
noncomputable def f10_body : Code := bodyOf Try.f10
def f10_fresh : Bool := false
def f10_keep : List (Nat × (List Nat × List Nat)) := []
noncomputable def f10_info : FnInfo := ⟨[], [.val .bool], 22, [.tmp 0], f10_body, f10_keep, f10_fresh, false⟩

/- milepost/milepostref33.Falls -/
noncomputable def f12_body : Code := bodyOf Try.f12
def f12_fresh : Bool := false
def f12_t0 : List Nat := [0, 3]
def f12_o0 : List Nat := []
def f12_keep : List (Nat × (List Nat × List Nat)) := [(0, (f12_t0, f12_o0))]
noncomputable def f12_info : FnInfo := ⟨[.val (.slice (.struct [(.struct [(.int .u32), (.blob 32), (.blob 32), (.int .u64)]), (.struct [(.int .i64), (.int .i64), (.slice (.blob 32))])]))], [.val (.int .i64)], 25, [.tmp 2], f12_body, f12_keep, f12_fresh, false⟩

/- milepost/milepostlaw34.RiseFirst -/
noncomputable def f3_body : Code := bodyOf Try.f3
def f3_fresh : Bool := false
def f3_keep : List (Nat × (List Nat × List Nat)) := []
noncomputable def f3_info : FnInfo := ⟨[.val (.slice (.struct [(.struct [(.int .u32), (.blob 32), (.blob 32), (.int .u64)]), (.struct [(.int .i64), (.int .i64), (.slice (.blob 32))])])), .val (.arr 2 (.struct [(.int .u32), (.blob 32), (.blob 32), (.int .u64)]))], [.val .bool], 49, [.tmp 4], f3_body, f3_keep, f3_fresh, false⟩

/- milepost/milepostlaw34.RiseFinds -/
noncomputable def f4_body : Code := bodyOf Try.f4
def f4_fresh : Bool := false
def f4_t0 : List Nat := [0, 1, 5, 6, 7]
def f4_o0 : List Nat := []
def f4_keep : List (Nat × (List Nat × List Nat)) := [(0, (f4_t0, f4_o0))]
noncomputable def f4_info : FnInfo := ⟨[.val (.slice (.struct [(.struct [(.int .u32), (.blob 32), (.blob 32), (.int .u64)]), (.struct [(.int .i64), (.int .i64), (.slice (.blob 32))])])), .val (.int .u32)], [.val .bool], 45, [.tmp 4], f4_body, f4_keep, f4_fresh, false⟩

/- milepost/multi.rising -/
noncomputable def f34_body : Code := bodyOf Try.f34
def f34_fresh : Bool := false
def f34_t0 : List Nat := [0, 1, 7, 8, 9]
def f34_o0 : List Nat := []
def f34_keep : List (Nat × (List Nat × List Nat)) := [(0, (f34_t0, f34_o0))]
noncomputable def f34_info : FnInfo := ⟨[.val (.int .i64), .val (.slice (.int .i64))], [.val .bool], 38, [.tmp 4], f34_body, f34_keep, f34_fresh, false⟩

/- milepost/shape.Left -/
noncomputable def f46_body : Code := bodyOf Try.f46
def f46_fresh : Bool := false
def f46_t0 : List Nat := [0, 3]
def f46_o0 : List Nat := []
def f46_keep : List (Nat × (List Nat × List Nat)) := [(0, (f46_t0, f46_o0))]
noncomputable def f46_info : FnInfo := ⟨[.val (.int .i64)], [.val (.int .i64)], 14, [.tmp 2], f46_body, f46_keep, f46_fresh, false⟩

/- milepost/multi.parted -/
noncomputable def f47_body : Code := bodyOf Try.f47
def f47_fresh : Bool := false
def f47_t0 : List Nat := [0, 1, 6]
def f47_o0 : List Nat := []
def f47_t2 : List Nat := [0, 1, 6, 7, 26, 27, 28]
def f47_o2 : List Nat := []
def f47_keep : List (Nat × (List Nat × List Nat)) := [(0, (f47_t0, f47_o0)), (2, (f47_t2, f47_o2))]
noncomputable def f47_info : FnInfo := ⟨[.val (.slice (.int .i64)), .val (.int .i64)], [.val (.slice (.int .i64)), .val (.slice (.int .i64))], 43, [.tmp 4, .tmp 5], f47_body, f47_keep, f47_fresh, false⟩

/- milepost/multi.need -/
noncomputable def f35_body : Code := bodyOf Try.f35
def f35_fresh : Bool := false
def f35_keep : List (Nat × (List Nat × List Nat)) := []
noncomputable def f35_info : FnInfo := ⟨[.val (.int .i64), .val (.slice (.int .i64))], [.val (.int .i64)], 32, [.tmp 4], f35_body, f35_keep, f35_fresh, false⟩

/- milepost/multi.Need -/
noncomputable def f19_body : Code := bodyOf Try.f19
def f19_fresh : Bool := false
def f19_keep : List (Nat × (List Nat × List Nat)) := []
noncomputable def f19_info : FnInfo := ⟨[.val (.int .i64), .val (.slice (.int .i64))], [.val (.int .i64)], 12, [.tmp 4], f19_body, f19_keep, f19_fresh, false⟩

/- milepost/milepostlaw16.awake -/
noncomputable def f16_body : Code := bodyOf Try.f16
def f16_fresh : Bool := false
def f16_keep : List (Nat × (List Nat × List Nat)) := []
noncomputable def f16_info : FnInfo := ⟨[], [.val .bool], 13, [.tmp 0], f16_body, f16_keep, f16_fresh, false⟩

/- milepost/milepostref16.Rising -/
noncomputable def f17_body : Code := bodyOf Try.f17
def f17_fresh : Bool := false
def f17_t0 : List Nat := [0, 1, 5]
def f17_o0 : List Nat := []
def f17_keep : List (Nat × (List Nat × List Nat)) := [(0, (f17_t0, f17_o0))]
noncomputable def f17_info : FnInfo := ⟨[.val (.int .i64), .val (.slice (.int .i64))], [.val .bool], 44, [.tmp 4], f17_body, f17_keep, f17_fresh, false⟩

/- milepost/milepostref16.among -/
noncomputable def f32_body : Code := bodyOf Try.f32
def f32_fresh : Bool := false
def f32_t0 : List Nat := [0, 1, 2, 7]
def f32_o0 : List Nat := []
def f32_keep : List (Nat × (List Nat × List Nat)) := [(0, (f32_t0, f32_o0))]
noncomputable def f32_info : FnInfo := ⟨[.val (.slice (.int .i64)), .val (.int .i64), .val (.int .i64)], [.val .bool], 28, [.tmp 6], f32_body, f32_keep, f32_fresh, false⟩

/- milepost/milepostref11.Left -/
noncomputable def f33_body : Code := bodyOf Try.f33
def f33_fresh : Bool := false
def f33_t0 : List Nat := [0, 3, 4]
def f33_o0 : List Nat := []
def f33_keep : List (Nat × (List Nat × List Nat)) := [(0, (f33_t0, f33_o0))]
noncomputable def f33_info : FnInfo := ⟨[.val (.int .i64)], [.val (.int .i64)], 16, [.tmp 2], f33_body, f33_keep, f33_fresh, false⟩

/- milepost/milepostref16.Need -/
noncomputable def f18_body : Code := bodyOf Try.f18
def f18_fresh : Bool := false
def f18_keep : List (Nat × (List Nat × List Nat)) := []
noncomputable def f18_info : FnInfo := ⟨[.val (.slice (.int .i64)), .val (.int .i64), .val (.int .i64)], [.val (.int .i64)], 32, [.tmp 6], f18_body, f18_keep, f18_fresh, false⟩

/- milepost/milepostlaw16.MultiNeeds -/
noncomputable def f5_body : Code := bodyOf Try.f5
def f5_fresh : Bool := false
def f5_keep : List (Nat × (List Nat × List Nat)) := []
noncomputable def f5_info : FnInfo := ⟨[.val (.int .i64), .val (.slice (.int .i64))], [.val .bool], 28, [.tmp 4], f5_body, f5_keep, f5_fresh, false⟩

/- milepost/near.Near -/
noncomputable def f48_body : Code := bodyOf Try.f48
def f48_fresh : Bool := false
def f48_t0 : List Nat := [0, 2, 7]
def f48_o0 : List Nat := []
def f48_keep : List (Nat × (List Nat × List Nat)) := [(0, (f48_t0, f48_o0))]
noncomputable def f48_info : FnInfo := ⟨[.val (.slice (.int .i64)), .val (.int .i64), .val (.int .i64)], [.val (.int .i64)], 24, [.tmp 6], f48_body, f48_keep, f48_fresh, false⟩

/- milepost/near.All -/
noncomputable def f36_body : Code := bodyOf Try.f36
def f36_fresh : Bool := true
def f36_t0 : List Nat := [0, 1, 5, 17]
def f36_o0 : List Nat := []
def f36_keep : List (Nat × (List Nat × List Nat)) := [(0, (f36_t0, f36_o0))]
noncomputable def f36_info : FnInfo := ⟨[.val (.slice (.int .i64)), .val (.int .i64)], [.val (.slice (.int .i64))], 34, [.tmp 4], f36_body, f36_keep, f36_fresh, false⟩

/- milepost/down.far -/
noncomputable def f50_body : Code := bodyOf Try.f50
def f50_fresh : Bool := false
def f50_t0 : List Nat := [1, 6, 7, 10, 11, 12]
def f50_o0 : List Nat := []
def f50_keep : List (Nat × (List Nat × List Nat)) := [(0, (f50_t0, f50_o0))]
noncomputable def f50_info : FnInfo := ⟨[.val (.slice (.int .i64)), .val (.int .i64)], [.val (.int .i64), .val .bool], 32, [.tmp 4, .tmp 5], f50_body, f50_keep, f50_fresh, false⟩

/- milepost/down.Walk -/
noncomputable def f38_body : Code := bodyOf Try.f38
def f38_fresh : Bool := true
def f38_t0 : List Nat := [0, 1, 2, 7]
def f38_o0 : List Nat := []
def f38_keep : List (Nat × (List Nat × List Nat)) := [(0, (f38_t0, f38_o0))]
noncomputable def f38_info : FnInfo := ⟨[.val (.slice (.int .i64)), .val (.int .i64), .val (.int .i64)], [.val (.slice (.int .i64))], 44, [.tmp 6], f38_body, f38_keep, f38_fresh, false⟩

/- milepost/milepostref22.Same -/
noncomputable def f25_body : Code := bodyOf Try.f25
def f25_fresh : Bool := false
def f25_t0 : List Nat := [0, 1, 5]
def f25_o0 : List Nat := []
def f25_keep : List (Nat × (List Nat × List Nat)) := [(0, (f25_t0, f25_o0))]
noncomputable def f25_info : FnInfo := ⟨[.val (.slice (.int .i64)), .val (.slice (.int .i64))], [.val .bool], 26, [.tmp 4], f25_body, f25_keep, f25_fresh, false⟩

/- milepost/down.Index -/
noncomputable def f20_body : Code := bodyOf Try.f20
def f20_fresh : Bool := false
def f20_t0 : List Nat := [2, 11, 12, 13]
def f20_o0 : List Nat := []
def f20_keep : List (Nat × (List Nat × List Nat)) := [(0, (f20_t0, f20_o0))]
noncomputable def f20_info : FnInfo := ⟨[.val (.slice (.int .i64)), .val (.int .i64), .val (.int .i64)], [.val (.int .i64)], 23, [.tmp 6], f20_body, f20_keep, f20_fresh, false⟩

/- milepost/milepostlaw27.awake -/
noncomputable def f22_body : Code := bodyOf Try.f22
def f22_fresh : Bool := false
def f22_keep : List (Nat × (List Nat × List Nat)) := []
noncomputable def f22_info : FnInfo := ⟨[], [.val .bool], 10, [.tmp 0], f22_body, f22_keep, f22_fresh, false⟩

/- milepost/milepostref22.Near -/
noncomputable def f49_body : Code := bodyOf Try.f49
def f49_fresh : Bool := false
def f49_t0 : List Nat := [0, 1, 2, 7, 8]
def f49_o0 : List Nat := []
def f49_keep : List (Nat × (List Nat × List Nat)) := [(0, (f49_t0, f49_o0))]
noncomputable def f49_info : FnInfo := ⟨[.val (.slice (.int .i64)), .val (.int .i64), .val (.int .i64)], [.val (.int .i64)], 28, [.tmp 6], f49_body, f49_keep, f49_fresh, false⟩

/- milepost/milepostref22.All -/
noncomputable def f37_body : Code := bodyOf Try.f37
def f37_fresh : Bool := true
def f37_t0 : List Nat := [0, 1, 5, 6]
def f37_o0 : List Nat := []
def f37_keep : List (Nat × (List Nat × List Nat)) := [(0, (f37_t0, f37_o0))]
noncomputable def f37_info : FnInfo := ⟨[.val (.slice (.int .i64)), .val (.int .i64)], [.val (.slice (.int .i64))], 35, [.tmp 4], f37_body, f37_keep, f37_fresh, false⟩

/- milepost/milepostref22.Index -/
noncomputable def f21_body : Code := bodyOf Try.f21
def f21_fresh : Bool := false
def f21_t0 : List Nat := [2, 7, 8]
def f21_o0 : List Nat := []
def f21_keep : List (Nat × (List Nat × List Nat)) := [(0, (f21_t0, f21_o0))]
noncomputable def f21_info : FnInfo := ⟨[.val (.slice (.int .i64)), .val (.int .i64), .val (.int .i64)], [.val (.int .i64)], 25, [.tmp 6], f21_body, f21_keep, f21_fresh, false⟩

/- milepost/milepostlaw27.DownIndex -/
noncomputable def f6_body : Code := bodyOf Try.f6
def f6_fresh : Bool := false
def f6_keep : List (Nat × (List Nat × List Nat)) := []
noncomputable def f6_info : FnInfo := ⟨[.val (.slice (.int .i64)), .val (.int .i64), .val (.int .i64)], [.val .bool], 24, [.tmp 6], f6_body, f6_keep, f6_fresh, false⟩

noncomputable def G : Env := {
  ty := [(3, (.int .i64)), (4, .bool), (22, (.slice (.struct [(.struct [(.int .u32), (.blob 32), (.blob 32), (.int .u64)]), (.struct [(.int .i64), (.int .i64), (.slice (.blob 32))])]))), (23, (.int .u32)), (26, (.int .u64)), (28, (.struct [(.int .u32), (.blob 32), (.blob 32), (.int .u64)])), (29, (.arr 2 (.struct [(.int .u32), (.blob 32), (.blob 32), (.int .u64)]))), (35, (.slice (.blob 32))), (37, (.struct [(.int .i64), (.int .i64), (.slice (.blob 32))])), (39, (.struct [(.struct [(.int .u32), (.blob 32), (.blob 32), (.int .u64)]), (.struct [(.int .i64), (.int .i64), (.slice (.blob 32))])])), (42, (.slice (.int .i64)))]
  bytes := [(42, 8)]
  fns := [(9, f9_info), (13, f13_info), (11, f11_info), (14, f14_info), (15, f15_info), (10, f10_info), (12, f12_info), (3, f3_info), (4, f4_info), (34, f34_info), (46, f46_info), (47, f47_info), (35, f35_info), (19, f19_info), (16, f16_info), (17, f17_info), (32, f32_info), (33, f33_info), (18, f18_info), (5, f5_info), (48, f48_info), (36, f36_info), (50, f50_info), (38, f38_info), (25, f25_info), (20, f20_info), (22, f22_info), (49, f49_info), (37, f37_info), (21, f21_info), (6, f6_info)] }

theorem f9_at : assoc G.fns 9 = some f9_info := by kernel_rfl
theorem f9_in : f9_info.ext = false := rfl

theorem f13_at : assoc G.fns 13 = some f13_info := by kernel_rfl
theorem f13_in : f13_info.ext = false := rfl

theorem f11_at : assoc G.fns 11 = some f11_info := by kernel_rfl
theorem f11_in : f11_info.ext = false := rfl

theorem f14_at : assoc G.fns 14 = some f14_info := by kernel_rfl
theorem f14_in : f14_info.ext = false := rfl

theorem f15_at : assoc G.fns 15 = some f15_info := by kernel_rfl
theorem f15_in : f15_info.ext = false := rfl

theorem f10_at : assoc G.fns 10 = some f10_info := by kernel_rfl
theorem f10_in : f10_info.ext = false := rfl

theorem f12_at : assoc G.fns 12 = some f12_info := by kernel_rfl
theorem f12_in : f12_info.ext = false := rfl

theorem f3_at : assoc G.fns 3 = some f3_info := by kernel_rfl
theorem f3_in : f3_info.ext = false := rfl

theorem f4_at : assoc G.fns 4 = some f4_info := by kernel_rfl
theorem f4_in : f4_info.ext = false := rfl

theorem f34_at : assoc G.fns 34 = some f34_info := by kernel_rfl
theorem f34_in : f34_info.ext = false := rfl

theorem f46_at : assoc G.fns 46 = some f46_info := by kernel_rfl
theorem f46_in : f46_info.ext = false := rfl

theorem f47_at : assoc G.fns 47 = some f47_info := by kernel_rfl
theorem f47_in : f47_info.ext = false := rfl

theorem f35_at : assoc G.fns 35 = some f35_info := by kernel_rfl
theorem f35_in : f35_info.ext = false := rfl

theorem f19_at : assoc G.fns 19 = some f19_info := by kernel_rfl
theorem f19_in : f19_info.ext = false := rfl

theorem f16_at : assoc G.fns 16 = some f16_info := by kernel_rfl
theorem f16_in : f16_info.ext = false := rfl

theorem f17_at : assoc G.fns 17 = some f17_info := by kernel_rfl
theorem f17_in : f17_info.ext = false := rfl

theorem f32_at : assoc G.fns 32 = some f32_info := by kernel_rfl
theorem f32_in : f32_info.ext = false := rfl

theorem f33_at : assoc G.fns 33 = some f33_info := by kernel_rfl
theorem f33_in : f33_info.ext = false := rfl

theorem f18_at : assoc G.fns 18 = some f18_info := by kernel_rfl
theorem f18_in : f18_info.ext = false := rfl

theorem f5_at : assoc G.fns 5 = some f5_info := by kernel_rfl
theorem f5_in : f5_info.ext = false := rfl

theorem f48_at : assoc G.fns 48 = some f48_info := by kernel_rfl
theorem f48_in : f48_info.ext = false := rfl

theorem f36_at : assoc G.fns 36 = some f36_info := by kernel_rfl
theorem f36_in : f36_info.ext = false := rfl

theorem f50_at : assoc G.fns 50 = some f50_info := by kernel_rfl
theorem f50_in : f50_info.ext = false := rfl

theorem f38_at : assoc G.fns 38 = some f38_info := by kernel_rfl
theorem f38_in : f38_info.ext = false := rfl

theorem f25_at : assoc G.fns 25 = some f25_info := by kernel_rfl
theorem f25_in : f25_info.ext = false := rfl

theorem f20_at : assoc G.fns 20 = some f20_info := by kernel_rfl
theorem f20_in : f20_info.ext = false := rfl

theorem f22_at : assoc G.fns 22 = some f22_info := by kernel_rfl
theorem f22_in : f22_info.ext = false := rfl

theorem f49_at : assoc G.fns 49 = some f49_info := by kernel_rfl
theorem f49_in : f49_info.ext = false := rfl

theorem f37_at : assoc G.fns 37 = some f37_info := by kernel_rfl
theorem f37_in : f37_info.ext = false := rfl

theorem f21_at : assoc G.fns 21 = some f21_info := by kernel_rfl
theorem f21_in : f21_info.ext = false := rfl

theorem f6_at : assoc G.fns 6 = some f6_info := by kernel_rfl
theorem f6_in : f6_info.ext = false := rfl

noncomputable def f9_l0 (run : Run) (n : Nat) (k0 : Nat) (x0_1 : List AV) (x3_1 : Int) (x4_1 : Int) : Option Res :=
  iterK (evalK G run n f9_keep 0 (sub [1, 1, 0, 1, 0, 0] f9_body)) f9_t0 f9_o0 (blockK 0 (seqK (evalK G run n f9_keep 0 (sub [1, 1, 1] f9_body) (retE G f9_info)) (retE G f9_info))) k0
    ⟨[.val (.slice (.struct [(.struct [(.int .u32), (.blob 32), (.blob 32), (.int .u64)]), (.struct [(.int .i64), (.int .i64), (.slice (.blob 32))])])) none (.slice x0_1), .any, .any, .val (.int .i64) none (.int x3_1), .val (.int .i64) none (.int x4_1), .any, .any, .any, .any, .any, .any, .any, .any, .any, .any, .any, .any, .any, .any, .any, .any, .any, .any, .any, .any, .any, .any, .any, .any, .any, .any, .any, .any, .any, .any, .any, .any, .any, .any, .any, .any, .any], [⟨0, none⟩, ⟨0, none⟩, ⟨0, none⟩, ⟨0, none⟩, ⟨0, none⟩, ⟨0, none⟩, ⟨0, none⟩, ⟨0, none⟩, ⟨0, none⟩, ⟨0, none⟩, ⟨0, none⟩, ⟨0, none⟩, ⟨0, none⟩, ⟨0, none⟩, ⟨0, none⟩, ⟨0, none⟩, ⟨0, none⟩, ⟨0, none⟩, ⟨0, none⟩, ⟨0, none⟩, ⟨0, none⟩, ⟨0, none⟩, ⟨0, none⟩, ⟨0, none⟩, ⟨0, none⟩, ⟨0, none⟩, ⟨0, none⟩, ⟨0, none⟩, ⟨0, none⟩, ⟨0, none⟩, ⟨0, none⟩, ⟨0, none⟩, ⟨0, none⟩, ⟨0, none⟩, ⟨0, none⟩, ⟨0, none⟩, ⟨0, none⟩, ⟨0, none⟩, ⟨0, none⟩, ⟨0, none⟩, ⟨0, none⟩, ⟨0, none⟩], List.replicate 42 0⟩
theorem f9_l0_eq (run : Run) (n : Nat) (k0 : Nat) (x0_1 : List AV) (x3_1 : Int) (x4_1 : Int) : f9_l0 run n (k0 + 1) x0_1 x3_1 x4_1 =
  bif ltI x4_1 (x0_1.length : Int) then
    bif ltI x4_1 100 then
    bif inR x4_1 x0_1.length then
    f9_l0 run n k0 x0_1 (mn2 (IntKind.wrap .i64 (x3_1 + (((((nth x0_1 (Int.toNat x4_1)).fld 1).fld 2).toSlice).length : Int))) 1048576) (IntKind.wrap .i64 (x4_1 + 1))
  else none
  else
    bif ltI 40 (x0_1.length : Int) then
    bif leI (x0_1.length : Int) 1024 then
    some ⟨[.bool true], [], f9_fresh⟩
  else
    bif ltI 1050 (x0_1.length : Int) then
    some ⟨[.bool true], [], f9_fresh⟩
  else
    some ⟨[.bool (ltI 300 x3_1)], [], f9_fresh⟩
  else
    bif ltI 1050 (x0_1.length : Int) then
    some ⟨[.bool true], [], f9_fresh⟩
  else
    some ⟨[.bool (ltI 300 x3_1)], [], f9_fresh⟩
  else
    bif ltI 40 (x0_1.length : Int) then
    bif leI (x0_1.length : Int) 1024 then
    some ⟨[.bool true], [], f9_fresh⟩
  else
    bif ltI 1050 (x0_1.length : Int) then
    some ⟨[.bool true], [], f9_fresh⟩
  else
    some ⟨[.bool (ltI 300 x3_1)], [], f9_fresh⟩
  else
    bif ltI 1050 (x0_1.length : Int) then
    some ⟨[.bool true], [], f9_fresh⟩
  else
    some ⟨[.bool (ltI 300 x3_1)], [], f9_fresh⟩ := by kernel_rfl
noncomputable def f9 (run : Run) (n : Nat) (a0_1 : List AV) : Option Res := evalK G run n f9_info.keep 0 f9_info.body (retE G f9_info) (f9_info.start [.slice a0_1])
theorem f9_eq (run : Run) (n : Nat) (a0_1 : List AV) : f9 run n a0_1 =
  f9_l0 run n n a0_1 0 0 := by kernel_rfl
theorem f9_run (ext : Run) (n : Nat) (a0_1 : List AV) : runE G ext (n + 1) 9 [.slice a0_1] = f9 (runE G ext n) n a0_1 := runE_succ f9_at f9_in

noncomputable def f13 (run : Run) (n : Nat) (a0_1 : Int) (a0_2 : List UInt8) (a0_3 : List UInt8) (a0_4 : Int) (a1_1 : Int) (a1_2 : List UInt8) (a1_3 : List UInt8) (a1_4 : Int) : Option Res := evalK G run n f13_info.keep 0 f13_info.body (retE G f13_info) (f13_info.start [.agg [.int a0_1, .blob a0_2, .blob a0_3, .int a0_4], .agg [.int a1_1, .blob a1_2, .blob a1_3, .int a1_4]])
theorem f13_eq (run : Run) (n : Nat) (a0_1 : Int) (a0_2 : List UInt8) (a0_3 : List UInt8) (a0_4 : Int) (a1_1 : Int) (a1_2 : List UInt8) (a1_3 : List UInt8) (a1_4 : Int) : f13 run n a0_1 a0_2 a0_3 a0_4 a1_1 a1_2 a1_3 a1_4 =
  some ⟨[.bool (ltI a1_1 a0_1)], [], f13_fresh⟩ := by kernel_rfl
theorem f13_run (ext : Run) (n : Nat) (a0_1 : Int) (a0_2 : List UInt8) (a0_3 : List UInt8) (a0_4 : Int) (a1_1 : Int) (a1_2 : List UInt8) (a1_3 : List UInt8) (a1_4 : Int) : runE G ext (n + 1) 13 [.agg [.int a0_1, .blob a0_2, .blob a0_3, .int a0_4], .agg [.int a1_1, .blob a1_2, .blob a1_3, .int a1_4]] = f13 (runE G ext n) n a0_1 a0_2 a0_3 a0_4 a1_1 a1_2 a1_3 a1_4 := runE_succ f13_at f13_in

noncomputable def f11_l0 (run : Run) (n : Nat) (k0 : Nat) (x0_1 : List AV) (x3_1 : Int) : Option Res :=
  iterK (evalK G run n f11_keep 0 (sub [1, 0, 1, 0, 0] f11_body)) f11_t0 f11_o0 (blockK 0 (seqK (evalK G run n f11_keep 0 (sub [1, 1] f11_body) (retE G f11_info)) (retE G f11_info))) k0
    ⟨[.val (.slice (.struct [(.struct [(.int .u32), (.blob 32), (.blob 32), (.int .u64)]), (.struct [(.int .i64), (.int .i64), (.slice (.blob 32))])])) none (.slice x0_1), .any, .any, .val (.int .i64) none (.int x3_1), .any, .any, .any, .any, .any, .any, .any, .any, .any, .any, .any, .any, .any, .any, .any, .any, .any, .any, .any, .any], [⟨0, none⟩, ⟨0, none⟩, ⟨0, none⟩, ⟨0, none⟩, ⟨0, none⟩, ⟨0, none⟩, ⟨0, none⟩, ⟨0, none⟩, ⟨0, none⟩, ⟨0, none⟩, ⟨0, none⟩, ⟨0, none⟩, ⟨0, none⟩, ⟨0, none⟩, ⟨0, none⟩, ⟨0, none⟩, ⟨0, none⟩, ⟨0, none⟩, ⟨0, none⟩, ⟨0, none⟩, ⟨0, none⟩, ⟨0, none⟩, ⟨0, none⟩, ⟨0, none⟩], List.replicate 24 0⟩
theorem f11_l0_eq (run : Run) (n : Nat) (k0 : Nat) (x0_1 : List AV) (x3_1 : Int) : f11_l0 run n (k0 + 1) x0_1 x3_1 =
  bif ltI x3_1 (x0_1.length : Int) then
    bif inR x3_1 x0_1.length then
    bif inR (IntKind.wrap .i64 (x3_1 - 1)) x0_1.length then
    (run 13 [.agg [.int ((((nth x0_1 (Int.toNat x3_1)).fld 0).fld 0).toInt), .blob ((((nth x0_1 (Int.toNat x3_1)).fld 0).fld 1).toBlob), .blob ((((nth x0_1 (Int.toNat x3_1)).fld 0).fld 2).toBlob), .int ((((nth x0_1 (Int.toNat x3_1)).fld 0).fld 3).toInt)], .agg [.int ((((nth x0_1 (Int.toNat (IntKind.wrap .i64 (x3_1 - 1)))).fld 0).fld 0).toInt), .blob ((((nth x0_1 (Int.toNat (IntKind.wrap .i64 (x3_1 - 1)))).fld 0).fld 1).toBlob), .blob ((((nth x0_1 (Int.toNat (IntKind.wrap .i64 (x3_1 - 1)))).fld 0).fld 2).toBlob), .int ((((nth x0_1 (Int.toNat (IntKind.wrap .i64 (x3_1 - 1)))).fld 0).fld 3).toInt)]]).bind fun r1 =>
    nilV r1.outs (consV r1.vals fun v1 vs1 =>
    nilV vs1 (bif !v1.toBool then
    some ⟨[.int x3_1], [], f11_fresh⟩
  else
    f11_l0 run n k0 x0_1 (IntKind.wrap .i64 (x3_1 + 1))))
  else none
  else none
  else
    some ⟨[.int (-1)], [], f11_fresh⟩ := by kernel_rfl
noncomputable def f11 (run : Run) (n : Nat) (a0_1 : List AV) : Option Res := evalK G run n f11_info.keep 0 f11_info.body (retE G f11_info) (f11_info.start [.slice a0_1])
theorem f11_eq (run : Run) (n : Nat) (a0_1 : List AV) : f11 run n a0_1 =
  f11_l0 run n n a0_1 1 := by kernel_rfl
theorem f11_run (ext : Run) (n : Nat) (a0_1 : List AV) : runE G ext (n + 1) 11 [.slice a0_1] = f11 (runE G ext n) n a0_1 := runE_succ f11_at f11_in

noncomputable def f14 (run : Run) (n : Nat) (a0_1 : Int) (a0_2 : List UInt8) (a0_3 : List UInt8) (a0_4 : Int) (a1_1 : Int) (a1_2 : List UInt8) (a1_3 : List UInt8) (a1_4 : Int) : Option Res := evalK G run n f14_info.keep 0 f14_info.body (retE G f14_info) (f14_info.start [.agg [.int a0_1, .blob a0_2, .blob a0_3, .int a0_4], .agg [.int a1_1, .blob a1_2, .blob a1_3, .int a1_4]])
theorem f14_eq (run : Run) (n : Nat) (a0_1 : Int) (a0_2 : List UInt8) (a0_3 : List UInt8) (a0_4 : Int) (a1_1 : Int) (a1_2 : List UInt8) (a1_3 : List UInt8) (a1_4 : Int) : f14 run n a0_1 a0_2 a0_3 a0_4 a1_1 a1_2 a1_3 a1_4 =
  (run 13 [.agg [.int a0_1, .blob a0_2, .blob a0_3, .int a0_4], .agg [.int a1_1, .blob a1_2, .blob a1_3, .int a1_4]]).bind fun r1 =>
    nilV r1.outs (consV r1.vals fun v1 vs1 =>
    nilV vs1 (bif v1.toBool then
    some ⟨[.bool (eqI (IntKind.wrap .u32 (a0_1 - a1_1)) 1)], [], f14_fresh⟩
  else
    some ⟨[.bool false], [], f14_fresh⟩)) := by kernel_rfl
theorem f14_run (ext : Run) (n : Nat) (a0_1 : Int) (a0_2 : List UInt8) (a0_3 : List UInt8) (a0_4 : Int) (a1_1 : Int) (a1_2 : List UInt8) (a1_3 : List UInt8) (a1_4 : Int) : runE G ext (n + 1) 14 [.agg [.int a0_1, .blob a0_2, .blob a0_3, .int a0_4], .agg [.int a1_1, .blob a1_2, .blob a1_3, .int a1_4]] = f14 (runE G ext n) n a0_1 a0_2 a0_3 a0_4 a1_1 a1_2 a1_3 a1_4 := runE_succ f14_at f14_in

noncomputable def f15_l0 (run : Run) (n : Nat) (k0 : Nat) (x0_1 : List AV) (x1_1 : Int) (x5_1 : Int) (x6_1 : Int) : Option Res :=
  iterK (evalK G run n f15_keep 0 (sub [1, 1, 0, 0, 0] f15_body)) f15_t0 f15_o0 (blockK 0 (seqK (evalK G run n f15_keep 0 (sub [1, 1, 1] f15_body) (retE G f15_info)) (retE G f15_info))) k0
    ⟨[.val (.slice (.struct [(.struct [(.int .u32), (.blob 32), (.blob 32), (.int .u64)]), (.struct [(.int .i64), (.int .i64), (.slice (.blob 32))])])) none (.slice x0_1), .val (.int .u32) none (.int x1_1), .any, .any, .any, .val (.int .i64) none (.int x5_1), .val (.int .i64) none (.int x6_1), .any, .any, .any, .any, .any, .any, .any, .any, .any, .any, .any, .any, .any, .any, .any, .any, .any, .any, .any, .any, .any, .any, .any, .any, .any, .any, .any, .any, .any, .any, .any, .any, .any, .any, .any, .any, .any, .any], [⟨0, none⟩, ⟨0, none⟩, ⟨0, none⟩, ⟨0, none⟩, ⟨0, none⟩, ⟨0, none⟩, ⟨0, none⟩, ⟨0, none⟩, ⟨0, none⟩, ⟨0, none⟩, ⟨0, none⟩, ⟨0, none⟩, ⟨0, none⟩, ⟨0, none⟩, ⟨0, none⟩, ⟨0, none⟩, ⟨0, none⟩, ⟨0, none⟩, ⟨0, none⟩, ⟨0, none⟩, ⟨0, none⟩, ⟨0, none⟩, ⟨0, none⟩, ⟨0, none⟩, ⟨0, none⟩, ⟨0, none⟩, ⟨0, none⟩, ⟨0, none⟩, ⟨0, none⟩, ⟨0, none⟩, ⟨0, none⟩, ⟨0, none⟩, ⟨0, none⟩, ⟨0, none⟩, ⟨0, none⟩, ⟨0, none⟩, ⟨0, none⟩, ⟨0, none⟩, ⟨0, none⟩, ⟨0, none⟩, ⟨0, none⟩, ⟨0, none⟩, ⟨0, none⟩, ⟨0, none⟩, ⟨0, none⟩], List.replicate 45 0⟩
theorem f15_l0_eq (run : Run) (n : Nat) (k0 : Nat) (x0_1 : List AV) (x1_1 : Int) (x5_1 : Int) (x6_1 : Int) : f15_l0 run n (k0 + 1) x0_1 x1_1 x5_1 x6_1 =
  bif ltI x5_1 x6_1 then
    bif inR (IntKind.wrap .i64 (x5_1 + IntKind.wrap .i64 (Int.tdiv (IntKind.wrap .i64 (x6_1 - x5_1)) 2))) x0_1.length then
    bif ltI ((((nth x0_1 (Int.toNat (IntKind.wrap .i64 (x5_1 + IntKind.wrap .i64 (Int.tdiv (IntKind.wrap .i64 (x6_1 - x5_1)) 2))))).fld 0).fld 0).toInt) x1_1 then
    f15_l0 run n k0 x0_1 x1_1 (IntKind.wrap .i64 (IntKind.wrap .i64 (x5_1 + IntKind.wrap .i64 (Int.tdiv (IntKind.wrap .i64 (x6_1 - x5_1)) 2)) + 1)) x6_1
  else
    f15_l0 run n k0 x0_1 x1_1 x5_1 (IntKind.wrap .i64 (x5_1 + IntKind.wrap .i64 (Int.tdiv (IntKind.wrap .i64 (x6_1 - x5_1)) 2)))
  else none
  else
    bif ltI x5_1 (x0_1.length : Int) then
    bif inR x5_1 x0_1.length then
    bif eqI ((((nth x0_1 (Int.toNat x5_1)).fld 0).fld 0).toInt) x1_1 then
    some ⟨[.int x5_1], [], f15_fresh⟩
  else
    some ⟨[.int (-1)], [], f15_fresh⟩
  else none
  else
    some ⟨[.int (-1)], [], f15_fresh⟩ := by kernel_rfl
noncomputable def f15 (run : Run) (n : Nat) (a0_1 : List AV) (a1_1 : Int) : Option Res := evalK G run n f15_info.keep 0 f15_info.body (retE G f15_info) (f15_info.start [.slice a0_1, .int a1_1])
theorem f15_eq (run : Run) (n : Nat) (a0_1 : List AV) (a1_1 : Int) : f15 run n a0_1 a1_1 =
  f15_l0 run n n a0_1 a1_1 0 (a0_1.length : Int) := by kernel_rfl
theorem f15_run (ext : Run) (n : Nat) (a0_1 : List AV) (a1_1 : Int) : runE G ext (n + 1) 15 [.slice a0_1, .int a1_1] = f15 (runE G ext n) n a0_1 a1_1 := runE_succ f15_at f15_in

noncomputable def f10 (run : Run) (n : Nat) : Option Res := evalK G run n f10_info.keep 0 f10_info.body (retE G f10_info) (f10_info.start [])
theorem f10_eq (run : Run) (n : Nat) : f10 run n  =
  (run 11 [.slice [.agg [.agg [.int 0, .blob (List.replicate 32 0), .blob (List.replicate 32 0), .int 0], .agg [.int 0, .int 0, .slice []]], .agg [.agg [.int 5, .blob (List.replicate 32 0), .blob (List.replicate 32 0), .int 0], .agg [.int 0, .int 0, .slice []]], .agg [.agg [.int 5, .blob (List.replicate 32 0), .blob (List.replicate 32 0), .int 0], .agg [.int 0, .int 0, .slice []]]]]).bind fun r1 =>
    nilV r1.outs (consV r1.vals fun v1 vs1 =>
    nilV vs1 (bif eqI v1.toInt 2 then
    (run 14 [.agg [.int 1, .blob (List.replicate 32 0), .blob (List.replicate 32 0), .int 0], .agg [.int 0, .blob (List.replicate 32 0), .blob (List.replicate 32 0), .int 0]]).bind fun r2 =>
    nilV r2.outs (consV r2.vals fun v2 vs2 =>
    nilV vs2 (bif v2.toBool then
    (run 15 [.slice (List.drop 0 (List.take 2 [.agg [.agg [.int 0, .blob (List.replicate 32 0), .blob (List.replicate 32 0), .int 0], .agg [.int 0, .int 0, .slice []]], .agg [.agg [.int 5, .blob (List.replicate 32 0), .blob (List.replicate 32 0), .int 0], .agg [.int 0, .int 0, .slice []]], .agg [.agg [.int 5, .blob (List.replicate 32 0), .blob (List.replicate 32 0), .int 0], .agg [.int 0, .int 0, .slice []]]])), .int 5]).bind fun r3 =>
    nilV r3.outs (consV r3.vals fun v3 vs3 =>
    nilV vs3 (some ⟨[.bool (eqI v3.toInt 1)], [], f10_fresh⟩))
  else
    some ⟨[.bool false], [], f10_fresh⟩))
  else
    some ⟨[.bool false], [], f10_fresh⟩)) := by kernel_rfl
theorem f10_run (ext : Run) (n : Nat) : runE G ext (n + 1) 10 [] = f10 (runE G ext n) n  := runE_succ f10_at f10_in

noncomputable def f12_l0 (run : Run) (n : Nat) (k0 : Nat) (x0_1 : List AV) (x3_1 : Int) : Option Res :=
  iterK (evalK G run n f12_keep 0 (sub [1, 0, 1, 0, 0] f12_body)) f12_t0 f12_o0 (blockK 0 (seqK (evalK G run n f12_keep 0 (sub [1, 1] f12_body) (retE G f12_info)) (retE G f12_info))) k0
    ⟨[.val (.slice (.struct [(.struct [(.int .u32), (.blob 32), (.blob 32), (.int .u64)]), (.struct [(.int .i64), (.int .i64), (.slice (.blob 32))])])) none (.slice x0_1), .any, .any, .val (.int .i64) none (.int x3_1), .any, .any, .any, .any, .any, .any, .any, .any, .any, .any, .any, .any, .any, .any, .any, .any, .any, .any, .any, .any, .any], [⟨0, none⟩, ⟨0, none⟩, ⟨0, none⟩, ⟨0, none⟩, ⟨0, none⟩, ⟨0, none⟩, ⟨0, none⟩, ⟨0, none⟩, ⟨0, none⟩, ⟨0, none⟩, ⟨0, none⟩, ⟨0, none⟩, ⟨0, none⟩, ⟨0, none⟩, ⟨0, none⟩, ⟨0, none⟩, ⟨0, none⟩, ⟨0, none⟩, ⟨0, none⟩, ⟨0, none⟩, ⟨0, none⟩, ⟨0, none⟩, ⟨0, none⟩, ⟨0, none⟩, ⟨0, none⟩], List.replicate 25 0⟩
theorem f12_l0_eq (run : Run) (n : Nat) (k0 : Nat) (x0_1 : List AV) (x3_1 : Int) : f12_l0 run n (k0 + 1) x0_1 x3_1 =
  bif ltI x3_1 (x0_1.length : Int) then
    bif inR x3_1 x0_1.length then
    bif inR (IntKind.wrap .i64 (x3_1 - 1)) x0_1.length then
    bif leI ((((nth x0_1 (Int.toNat x3_1)).fld 0).fld 0).toInt) ((((nth x0_1 (Int.toNat (IntKind.wrap .i64 (x3_1 - 1)))).fld 0).fld 0).toInt) then
    some ⟨[.int x3_1], [], f12_fresh⟩
  else
    f12_l0 run n k0 x0_1 (IntKind.wrap .i64 (x3_1 + 1))
  else none
  else none
  else
    some ⟨[.int (-1)], [], f12_fresh⟩ := by kernel_rfl
noncomputable def f12 (run : Run) (n : Nat) (a0_1 : List AV) : Option Res := evalK G run n f12_info.keep 0 f12_info.body (retE G f12_info) (f12_info.start [.slice a0_1])
theorem f12_eq (run : Run) (n : Nat) (a0_1 : List AV) : f12 run n a0_1 =
  f12_l0 run n n a0_1 1 := by kernel_rfl
theorem f12_run (ext : Run) (n : Nat) (a0_1 : List AV) : runE G ext (n + 1) 12 [.slice a0_1] = f12 (runE G ext n) n a0_1 := runE_succ f12_at f12_in

noncomputable def f3 (run : Run) (n : Nat) (a0_1 : List AV) (a1_1 : List AV) : Option Res := evalK G run n f3_info.keep 0 f3_info.body (retE G f3_info) (f3_info.start [.slice a0_1, .agg a1_1])
theorem f3_eq (run : Run) (n : Nat) (a0_1 : List AV) (a1_1 : List AV) : f3 run n a0_1 a1_1 =
  (run 9 [.slice a0_1]).bind fun r1 =>
    nilV r1.outs (consV r1.vals fun v1 vs1 =>
    nilV vs1 (bif v1.toBool then
    (run 10 []).bind fun r2 =>
    nilV r2.outs (consV r2.vals fun v2 vs2 =>
    nilV vs2 (some ⟨[.bool v2.toBool], [], f3_fresh⟩))
  else
    (run 11 [.slice a0_1]).bind fun r3 =>
    nilV r3.outs (consV r3.vals fun v3 vs3 =>
    nilV vs3 ((run 12 [.slice a0_1]).bind fun r4 =>
    nilV r4.outs (consV r4.vals fun v4 vs4 =>
    nilV vs4 (bif eqI v3.toInt v4.toInt then
    (run 13 [.agg [.int (((AV.fld (.agg a1_1) 0).fld 0).toInt), .blob (((AV.fld (.agg a1_1) 0).fld 1).toBlob), .blob (((AV.fld (.agg a1_1) 0).fld 2).toBlob), .int (((AV.fld (.agg a1_1) 0).fld 3).toInt)], .agg [.int (((AV.fld (.agg a1_1) 1).fld 0).toInt), .blob (((AV.fld (.agg a1_1) 1).fld 1).toBlob), .blob (((AV.fld (.agg a1_1) 1).fld 2).toBlob), .int (((AV.fld (.agg a1_1) 1).fld 3).toInt)]]).bind fun r5 =>
    nilV r5.outs (consV r5.vals fun v5 vs5 =>
    nilV vs5 (bif eqO v5.toBool (ltI (IntKind.wrap .u64 (((AV.fld (.agg a1_1) 1).fld 0).toInt)) (IntKind.wrap .u64 (((AV.fld (.agg a1_1) 0).fld 0).toInt))) then
    (run 14 [.agg [.int (((AV.fld (.agg a1_1) 0).fld 0).toInt), .blob (((AV.fld (.agg a1_1) 0).fld 1).toBlob), .blob (((AV.fld (.agg a1_1) 0).fld 2).toBlob), .int (((AV.fld (.agg a1_1) 0).fld 3).toInt)], .agg [.int (((AV.fld (.agg a1_1) 1).fld 0).toInt), .blob (((AV.fld (.agg a1_1) 1).fld 1).toBlob), .blob (((AV.fld (.agg a1_1) 1).fld 2).toBlob), .int (((AV.fld (.agg a1_1) 1).fld 3).toInt)]]).bind fun r6 =>
    nilV r6.outs (consV r6.vals fun v6 vs6 =>
    nilV vs6 (bif eqO v6.toBool (eqI (IntKind.wrap .u64 (((AV.fld (.agg a1_1) 0).fld 0).toInt)) (IntKind.wrap .u64 (IntKind.wrap .u64 (((AV.fld (.agg a1_1) 1).fld 0).toInt) + 1))) then
    (run 10 []).bind fun r7 =>
    nilV r7.outs (consV r7.vals fun v7 vs7 =>
    nilV vs7 (some ⟨[.bool v7.toBool], [], f3_fresh⟩))
  else
    some ⟨[.bool false], [], f3_fresh⟩))
  else
    some ⟨[.bool false], [], f3_fresh⟩))
  else
    some ⟨[.bool false], [], f3_fresh⟩)))))) := by kernel_rfl
theorem f3_run (ext : Run) (n : Nat) (a0_1 : List AV) (a1_1 : List AV) : runE G ext (n + 1) 3 [.slice a0_1, .agg a1_1] = f3 (runE G ext n) n a0_1 a1_1 := runE_succ f3_at f3_in

noncomputable def f4_l0 (run : Run) (n : Nat) (k0 : Nat) (x0_1 : List AV) (x1_1 : Int) (x5_1 : Int) (x6_1 : Int) (x7_1 : Int) : Option Res :=
  iterK (evalK G run n f4_keep 0 (sub [1, 1, 1, 0, 1, 0, 0] f4_body)) f4_t0 f4_o0 (blockK 0 (seqK (evalK G run n f4_keep 0 (sub [1, 1, 1, 1] f4_body) (retE G f4_info)) (retE G f4_info))) k0
    ⟨[.val (.slice (.struct [(.struct [(.int .u32), (.blob 32), (.blob 32), (.int .u64)]), (.struct [(.int .i64), (.int .i64), (.slice (.blob 32))])])) none (.slice x0_1), .val (.int .u32) none (.int x1_1), .any, .any, .any, .val (.int .i64) none (.int x5_1), .val (.int .i64) none (.int x6_1), .val (.int .i64) none (.int x7_1), .any, .any, .any, .any, .any, .any, .any, .any, .any, .any, .any, .any, .any, .any, .any, .any, .any, .any, .any, .any, .any, .any, .any, .any, .any, .any, .any, .any, .any, .any, .any, .any, .any, .any, .any, .any, .any], [⟨0, none⟩, ⟨0, none⟩, ⟨0, none⟩, ⟨0, none⟩, ⟨0, none⟩, ⟨0, none⟩, ⟨0, none⟩, ⟨0, none⟩, ⟨0, none⟩, ⟨0, none⟩, ⟨0, none⟩, ⟨0, none⟩, ⟨0, none⟩, ⟨0, none⟩, ⟨0, none⟩, ⟨0, none⟩, ⟨0, none⟩, ⟨0, none⟩, ⟨0, none⟩, ⟨0, none⟩, ⟨0, none⟩, ⟨0, none⟩, ⟨0, none⟩, ⟨0, none⟩, ⟨0, none⟩, ⟨0, none⟩, ⟨0, none⟩, ⟨0, none⟩, ⟨0, none⟩, ⟨0, none⟩, ⟨0, none⟩, ⟨0, none⟩, ⟨0, none⟩, ⟨0, none⟩, ⟨0, none⟩, ⟨0, none⟩, ⟨0, none⟩, ⟨0, none⟩, ⟨0, none⟩, ⟨0, none⟩, ⟨0, none⟩, ⟨0, none⟩, ⟨0, none⟩, ⟨0, none⟩, ⟨0, none⟩], List.replicate 45 0⟩
theorem f4_l0_eq (run : Run) (n : Nat) (k0 : Nat) (x0_1 : List AV) (x1_1 : Int) (x5_1 : Int) (x6_1 : Int) (x7_1 : Int) : f4_l0 run n (k0 + 1) x0_1 x1_1 x5_1 x6_1 x7_1 =
  bif ltI x7_1 (x0_1.length : Int) then
    bif inR x7_1 x0_1.length then
    bif eqI ((((nth x0_1 (Int.toNat x7_1)).fld 0).fld 0).toInt) x1_1 then
    f4_l0 run n k0 x0_1 x1_1 x7_1 (IntKind.wrap .i64 (x6_1 + 1)) (IntKind.wrap .i64 (x7_1 + 1))
  else
    f4_l0 run n k0 x0_1 x1_1 x5_1 x6_1 (IntKind.wrap .i64 (x7_1 + 1))
  else none
  else
    (run 15 [.slice x0_1, .int x1_1]).bind fun r5 =>
    nilV r5.outs (consV r5.vals fun v5 vs5 =>
    nilV vs5 (bif eqI v5.toInt x5_1 then
    bif leI x6_1 1 then
    (run 10 []).bind fun r6 =>
    nilV r6.outs (consV r6.vals fun v6 vs6 =>
    nilV vs6 (some ⟨[.bool v6.toBool], [], f4_fresh⟩))
  else
    some ⟨[.bool false], [], f4_fresh⟩
  else
    some ⟨[.bool false], [], f4_fresh⟩)) := by kernel_rfl
noncomputable def f4 (run : Run) (n : Nat) (a0_1 : List AV) (a1_1 : Int) : Option Res := evalK G run n f4_info.keep 0 f4_info.body (retE G f4_info) (f4_info.start [.slice a0_1, .int a1_1])
theorem f4_eq (run : Run) (n : Nat) (a0_1 : List AV) (a1_1 : Int) : f4 run n a0_1 a1_1 =
  (run 9 [.slice a0_1]).bind fun r1 =>
    nilV r1.outs (consV r1.vals fun v1 vs1 =>
    nilV vs1 (bif v1.toBool then
    (run 10 []).bind fun r2 =>
    nilV r2.outs (consV r2.vals fun v2 vs2 =>
    nilV vs2 (some ⟨[.bool v2.toBool], [], f4_fresh⟩))
  else
    (run 12 [.slice a0_1]).bind fun r3 =>
    nilV r3.outs (consV r3.vals fun v3 vs3 =>
    nilV vs3 (bif leI 0 v3.toInt then
    (run 10 []).bind fun r4 =>
    nilV r4.outs (consV r4.vals fun v4 vs4 =>
    nilV vs4 (some ⟨[.bool v4.toBool], [], f4_fresh⟩))
  else
    f4_l0 run n n a0_1 a1_1 (-1) 0 0)))) := by kernel_rfl
theorem f4_run (ext : Run) (n : Nat) (a0_1 : List AV) (a1_1 : Int) : runE G ext (n + 1) 4 [.slice a0_1, .int a1_1] = f4 (runE G ext n) n a0_1 a1_1 := runE_succ f4_at f4_in

noncomputable def f34_l0 (run : Run) (n : Nat) (k0 : Nat) (x0_1 : Int) (x1_1 : List AV) (x7_1 : List AV) (x8_1 : Int) (x9_1 : Int) : Option Res :=
  iterK (evalK G run n f34_keep 0 (sub [1, 0, 1, 0, 0] f34_body)) f34_t0 f34_o0 (blockK 0 (seqK (evalK G run n f34_keep 0 (sub [1, 1] f34_body) (retE G f34_info)) (retE G f34_info))) k0
    ⟨[.val (.int .i64) none (.int x0_1), .val (.slice (.int .i64)) none (.slice x1_1), .any, .any, .any, .any, .any, .val (.slice (.int .i64)) none (.slice x7_1), .val (.int .i64) none (.int x8_1), .val (.int .i64) none (.int x9_1), .any, .any, .any, .any, .any, .any, .any, .any, .any, .any, .any, .any, .any, .any, .any, .any, .any, .any, .any, .any, .any, .any, .any, .any, .any, .any, .any, .any], [⟨0, none⟩, ⟨0, none⟩, ⟨0, none⟩, ⟨0, none⟩, ⟨0, none⟩, ⟨0, none⟩, ⟨0, none⟩, ⟨0, none⟩, ⟨0, none⟩, ⟨0, none⟩, ⟨0, none⟩, ⟨0, none⟩, ⟨0, none⟩, ⟨0, none⟩, ⟨0, none⟩, ⟨0, none⟩, ⟨0, none⟩, ⟨0, none⟩, ⟨0, none⟩, ⟨0, none⟩, ⟨0, none⟩, ⟨0, none⟩, ⟨0, none⟩, ⟨0, none⟩, ⟨0, none⟩, ⟨0, none⟩, ⟨0, none⟩, ⟨0, none⟩, ⟨0, none⟩, ⟨0, none⟩, ⟨0, none⟩, ⟨0, none⟩, ⟨0, none⟩, ⟨0, none⟩, ⟨0, none⟩, ⟨0, none⟩, ⟨0, none⟩, ⟨0, none⟩], List.replicate 38 0⟩
theorem f34_l0_eq (run : Run) (n : Nat) (k0 : Nat) (x0_1 : Int) (x1_1 : List AV) (x7_1 : List AV) (x8_1 : Int) (x9_1 : Int) : f34_l0 run n (k0 + 1) x0_1 x1_1 x7_1 x8_1 x9_1 =
  bif ltI x9_1 x8_1 then
    bif inR x9_1 x7_1.length then
    bif ltI ((nth x7_1 (Int.toNat x9_1)).toInt) 0 then
    some ⟨[.bool false], [], f34_fresh⟩
  else
    bif leI x0_1 ((nth x7_1 (Int.toNat x9_1)).toInt) then
    some ⟨[.bool false], [], f34_fresh⟩
  else
    bif ltI 0 x9_1 then
    bif inR (IntKind.wrap .i64 (x9_1 - 1)) x1_1.length then
    bif leI ((nth x7_1 (Int.toNat x9_1)).toInt) ((nth x1_1 (Int.toNat (IntKind.wrap .i64 (x9_1 - 1)))).toInt) then
    some ⟨[.bool false], [], f34_fresh⟩
  else
    f34_l0 run n k0 x0_1 x1_1 x7_1 x8_1 (IntKind.wrap .i64 (x9_1 + 1))
  else none
  else
    f34_l0 run n k0 x0_1 x1_1 x7_1 x8_1 (IntKind.wrap .i64 (x9_1 + 1))
  else none
  else
    some ⟨[.bool (ltI 0 (x1_1.length : Int))], [], f34_fresh⟩ := by kernel_rfl
noncomputable def f34 (run : Run) (n : Nat) (a0_1 : Int) (a1_1 : List AV) : Option Res := evalK G run n f34_info.keep 0 f34_info.body (retE G f34_info) (f34_info.start [.int a0_1, .slice a1_1])
theorem f34_eq (run : Run) (n : Nat) (a0_1 : Int) (a1_1 : List AV) : f34 run n a0_1 a1_1 =
  f34_l0 run n n a0_1 a1_1 a1_1 (a1_1.length : Int) 0 := by kernel_rfl
theorem f34_run (ext : Run) (n : Nat) (a0_1 : Int) (a1_1 : List AV) : runE G ext (n + 1) 34 [.int a0_1, .slice a1_1] = f34 (runE G ext n) n a0_1 a1_1 := runE_succ f34_at f34_in

noncomputable def f46_l0 (run : Run) (n : Nat) (k0 : Nat) (x0_1 : Int) (x3_1 : Int) : Option Res :=
  iterK (evalK G run n f46_keep 0 (sub [1, 1, 1, 0, 0, 0] f46_body)) f46_t0 f46_o0 (blockK 0 (seqK (evalK G run n f46_keep 0 (sub [1, 1, 1, 1] f46_body) (retE G f46_info)) (retE G f46_info))) k0
    ⟨[.val (.int .i64) none (.int x0_1), .any, .any, .val (.int .i64) none (.int x3_1), .any, .any, .any, .any, .any, .any, .any, .any, .any, .any], [⟨0, none⟩, ⟨0, none⟩, ⟨0, none⟩, ⟨0, none⟩, ⟨0, none⟩, ⟨0, none⟩, ⟨0, none⟩, ⟨0, none⟩, ⟨0, none⟩, ⟨0, none⟩, ⟨0, none⟩, ⟨0, none⟩, ⟨0, none⟩, ⟨0, none⟩], List.replicate 14 0⟩
theorem f46_l0_eq (run : Run) (n : Nat) (k0 : Nat) (x0_1 : Int) (x3_1 : Int) : f46_l0 run n (k0 + 1) x0_1 x3_1 =
  bif leI x3_1 (IntKind.wrap .i64 (Int.tdiv (IntKind.wrap .i64 (x0_1 - 1)) 2)) then
    f46_l0 run n k0 x0_1 (IntKind.wrap .i64 (x3_1 * 2))
  else
    some ⟨[.int x3_1], [], f46_fresh⟩ := by kernel_rfl
noncomputable def f46 (run : Run) (n : Nat) (a0_1 : Int) : Option Res := evalK G run n f46_info.keep 0 f46_info.body (retE G f46_info) (f46_info.start [.int a0_1])
theorem f46_eq (run : Run) (n : Nat) (a0_1 : Int) : f46 run n a0_1 =
  bif ltI a0_1 2 then
    some ⟨[.int 0], [], f46_fresh⟩
  else
    f46_l0 run n n a0_1 1 := by kernel_rfl
theorem f46_run (ext : Run) (n : Nat) (a0_1 : Int) : runE G ext (n + 1) 46 [.int a0_1] = f46 (runE G ext n) n a0_1 := runE_succ f46_at f46_in

noncomputable def f47_l2 (run : Run) (n : Nat) (_k0 : Nat) (k2 : Nat) (x0_3 : List AV) (x1_3 : Int) (x6_3 : Int) (x7_1 : List AV) (x26_1 : List AV) (x27_1 : Int) (x28_1 : Int) : Option Res :=
  iterK (evalK G run n f47_keep 2 (sub [1, 1, 1, 1, 0, 1, 0, 0] f47_body)) f47_t2 f47_o2 (blockK 2 (seqK (evalK G run n f47_keep 0 (sub [1, 1, 1, 1, 1] f47_body) (retE G f47_info)) (retE G f47_info))) k2
    ⟨[.val (.slice (.int .i64)) none (.slice x0_3), .val (.int .i64) none (.int x1_3), .any, .any, .any, .any, .val (.int .i64) none (.int x6_3), .val (.slice (.int .i64)) (some (7, 0)) (.slice x7_1), .any, .any, .any, .any, .any, .any, .any, .any, .any, .any, .any, .any, .any, .any, .any, .any, .any, .any, .val (.slice (.int .i64)) none (.slice x26_1), .val (.int .i64) none (.int x27_1), .val (.int .i64) none (.int x28_1), .any, .any, .any, .any, .any, .any, .any, .any, .any, .any, .any, .any, .any, .any], [⟨0, none⟩, ⟨0, none⟩, ⟨0, none⟩, ⟨0, none⟩, ⟨0, none⟩, ⟨0, none⟩, ⟨0, none⟩, ⟨0, none⟩, ⟨0, none⟩, ⟨0, none⟩, ⟨0, none⟩, ⟨0, none⟩, ⟨0, none⟩, ⟨0, none⟩, ⟨0, none⟩, ⟨0, none⟩, ⟨0, none⟩, ⟨0, none⟩, ⟨0, none⟩, ⟨0, none⟩, ⟨0, none⟩, ⟨0, none⟩, ⟨0, none⟩, ⟨0, none⟩, ⟨0, none⟩, ⟨0, none⟩, ⟨0, none⟩, ⟨0, none⟩, ⟨0, none⟩, ⟨0, none⟩, ⟨0, none⟩, ⟨0, none⟩, ⟨0, none⟩, ⟨0, none⟩, ⟨0, none⟩, ⟨0, none⟩, ⟨0, none⟩, ⟨0, none⟩, ⟨0, none⟩, ⟨0, none⟩, ⟨0, none⟩, ⟨0, none⟩, ⟨0, none⟩], List.replicate 43 0⟩
noncomputable def f47_l0 (run : Run) (n : Nat) (k0 : Nat) (x0_1 : List AV) (x1_1 : Int) (x6_1 : Int) : Option Res :=
  iterK (evalK G run n f47_keep 0 (sub [1, 1, 0, 0, 0] f47_body)) f47_t0 f47_o0 (blockK 0 (seqK (evalK G run n f47_keep 0 (sub [1, 1, 1] f47_body) (retE G f47_info)) (retE G f47_info))) k0
    ⟨[.val (.slice (.int .i64)) none (.slice x0_1), .val (.int .i64) none (.int x1_1), .any, .any, .any, .any, .val (.int .i64) none (.int x6_1), .any, .any, .any, .any, .any, .any, .any, .any, .any, .any, .any, .any, .any, .any, .any, .any, .any, .any, .any, .any, .any, .any, .any, .any, .any, .any, .any, .any, .any, .any, .any, .any, .any, .any, .any, .any], [⟨0, none⟩, ⟨0, none⟩, ⟨0, none⟩, ⟨0, none⟩, ⟨0, none⟩, ⟨0, none⟩, ⟨0, none⟩, ⟨0, none⟩, ⟨0, none⟩, ⟨0, none⟩, ⟨0, none⟩, ⟨0, none⟩, ⟨0, none⟩, ⟨0, none⟩, ⟨0, none⟩, ⟨0, none⟩, ⟨0, none⟩, ⟨0, none⟩, ⟨0, none⟩, ⟨0, none⟩, ⟨0, none⟩, ⟨0, none⟩, ⟨0, none⟩, ⟨0, none⟩, ⟨0, none⟩, ⟨0, none⟩, ⟨0, none⟩, ⟨0, none⟩, ⟨0, none⟩, ⟨0, none⟩, ⟨0, none⟩, ⟨0, none⟩, ⟨0, none⟩, ⟨0, none⟩, ⟨0, none⟩, ⟨0, none⟩, ⟨0, none⟩, ⟨0, none⟩, ⟨0, none⟩, ⟨0, none⟩, ⟨0, none⟩, ⟨0, none⟩, ⟨0, none⟩], List.replicate 43 0⟩
theorem f47_l2_eq (run : Run) (n : Nat) (k0 : Nat) (k2 : Nat) (x0_3 : List AV) (x1_3 : Int) (x6_3 : Int) (x7_1 : List AV) (x26_1 : List AV) (x27_1 : Int) (x28_1 : Int) : f47_l2 run n k0 (k2 + 1) x0_3 x1_3 x6_3 x7_1 x26_1 x27_1 x28_1 =
  bif ltI x28_1 x27_1 then
    bif inR x28_1 x26_1.length then
    bif Nat.ble ((x7_1.length + 1) * 8) 140737488355328 then
    f47_l2 run n k0 k2 x0_3 x1_3 x6_3 (x7_1 ++ [.int (IntKind.wrap .i64 ((nth x26_1 (Int.toNat x28_1)).toInt - x1_3))]) x26_1 x27_1 (IntKind.wrap .i64 (x28_1 + 1))
  else none
  else none
  else
    bif boundsOk 0 x6_3 (x0_3.length : Int) (x0_3.length : Int) && true then
    some ⟨[.slice (List.drop 0 (List.take (Int.toNat x6_3) x0_3)), .slice x7_1], [], f47_fresh⟩
  else none := by kernel_rfl
theorem f47_l0_eq (run : Run) (n : Nat) (k0 : Nat) (x0_1 : List AV) (x1_1 : Int) (x6_1 : Int) : f47_l0 run n (k0 + 1) x0_1 x1_1 x6_1 =
  bif ltI x6_1 (x0_1.length : Int) then
    bif inR x6_1 x0_1.length then
    bif ltI ((nth x0_1 (Int.toNat x6_1)).toInt) x1_1 then
    f47_l0 run n k0 x0_1 x1_1 (IntKind.wrap .i64 (x6_1 + 1))
  else
    bif boundsOk x6_1 (x0_1.length : Int) (x0_1.length : Int) (x0_1.length : Int) && true then
    f47_l2 run n k0 n x0_1 x1_1 x6_1 [] (List.drop (Int.toNat x6_1) (List.take (Int.toNat (x0_1.length : Int)) x0_1)) ((List.drop (Int.toNat x6_1) (List.take (Int.toNat (x0_1.length : Int)) x0_1)).length : Int) 0
  else none
  else none
  else
    bif boundsOk x6_1 (x0_1.length : Int) (x0_1.length : Int) (x0_1.length : Int) && true then
    f47_l2 run n k0 n x0_1 x1_1 x6_1 [] (List.drop (Int.toNat x6_1) (List.take (Int.toNat (x0_1.length : Int)) x0_1)) ((List.drop (Int.toNat x6_1) (List.take (Int.toNat (x0_1.length : Int)) x0_1)).length : Int) 0
  else none := by kernel_rfl
noncomputable def f47 (run : Run) (n : Nat) (a0_1 : List AV) (a1_1 : Int) : Option Res := evalK G run n f47_info.keep 0 f47_info.body (retE G f47_info) (f47_info.start [.slice a0_1, .int a1_1])
theorem f47_eq (run : Run) (n : Nat) (a0_1 : List AV) (a1_1 : Int) : f47 run n a0_1 a1_1 =
  f47_l0 run n n a0_1 a1_1 0 := by kernel_rfl
theorem f47_run (ext : Run) (n : Nat) (a0_1 : List AV) (a1_1 : Int) : runE G ext (n + 1) 47 [.slice a0_1, .int a1_1] = f47 (runE G ext n) n a0_1 a1_1 := runE_succ f47_at f47_in

noncomputable def f35 (run : Run) (n : Nat) (a0_1 : Int) (a1_1 : List AV) : Option Res := evalK G run n f35_info.keep 0 f35_info.body (retE G f35_info) (f35_info.start [.int a0_1, .slice a1_1])
theorem f35_eq (run : Run) (n : Nat) (a0_1 : Int) (a1_1 : List AV) : f35 run n a0_1 a1_1 =
  bif eqI (a1_1.length : Int) 0 then
    some ⟨[.int 1], [], f35_fresh⟩
  else
    bif eqI a0_1 1 then
    some ⟨[.int 0], [], f35_fresh⟩
  else
    (run 46 [.int a0_1]).bind fun r1 =>
    nilV r1.outs (consV r1.vals fun v1 vs1 =>
    nilV vs1 ((run 47 [.slice a1_1, .int v1.toInt]).bind fun r2 =>
    nilV r2.outs (consV r2.vals fun v2 vs2 =>
    consV vs2 fun v3 vs3 =>
    nilV vs3 ((run 35 [.int v1.toInt, .slice v2.toSlice]).bind fun r3 =>
    nilV r3.outs (consV r3.vals fun v4 vs4 =>
    nilV vs4 ((run 35 [.int (IntKind.wrap .i64 (a0_1 - v1.toInt)), .slice v3.toSlice]).bind fun r4 =>
    nilV r4.outs (consV r4.vals fun v5 vs5 =>
    nilV vs5 (some ⟨[.int (IntKind.wrap .i64 (v4.toInt + v5.toInt))], [], f35_fresh⟩)))))))) := by kernel_rfl
theorem f35_run (ext : Run) (n : Nat) (a0_1 : Int) (a1_1 : List AV) : runE G ext (n + 1) 35 [.int a0_1, .slice a1_1] = f35 (runE G ext n) n a0_1 a1_1 := runE_succ f35_at f35_in

noncomputable def f19 (run : Run) (n : Nat) (a0_1 : Int) (a1_1 : List AV) : Option Res := evalK G run n f19_info.keep 0 f19_info.body (retE G f19_info) (f19_info.start [.int a0_1, .slice a1_1])
theorem f19_eq (run : Run) (n : Nat) (a0_1 : Int) (a1_1 : List AV) : f19 run n a0_1 a1_1 =
  (run 34 [.int a0_1, .slice a1_1]).bind fun r1 =>
    nilV r1.outs (consV r1.vals fun v1 vs1 =>
    nilV vs1 (bif !v1.toBool then
    some ⟨[.int (-1)], [], f19_fresh⟩
  else
    (run 35 [.int a0_1, .slice a1_1]).bind fun r2 =>
    nilV r2.outs (consV r2.vals fun v2 vs2 =>
    nilV vs2 (some ⟨[.int v2.toInt], [], f19_fresh⟩)))) := by kernel_rfl
theorem f19_run (ext : Run) (n : Nat) (a0_1 : Int) (a1_1 : List AV) : runE G ext (n + 1) 19 [.int a0_1, .slice a1_1] = f19 (runE G ext n) n a0_1 a1_1 := runE_succ f19_at f19_in

noncomputable def f16 (run : Run) (n : Nat) : Option Res := evalK G run n f16_info.keep 0 f16_info.body (retE G f16_info) (f16_info.start [])
theorem f16_eq (run : Run) (n : Nat) : f16 run n  =
  (run 19 [.int 4, .slice [.int 0, .int 1]]).bind fun r1 =>
    nilV r1.outs (consV r1.vals fun v1 vs1 =>
    nilV vs1 (bif eqI v1.toInt 1 then
    (run 19 [.int 4, .slice [.int 0, .int 1, .int 2, .int 3]]).bind fun r2 =>
    nilV r2.outs (consV r2.vals fun v2 vs2 =>
    nilV vs2 (bif eqI v2.toInt 0 then
    (run 19 [.int 4, .slice []]).bind fun r3 =>
    nilV r3.outs (consV r3.vals fun v3 vs3 =>
    nilV vs3 (some ⟨[.bool (eqI v3.toInt (-1))], [], f16_fresh⟩))
  else
    some ⟨[.bool false], [], f16_fresh⟩))
  else
    some ⟨[.bool false], [], f16_fresh⟩)) := by kernel_rfl
theorem f16_run (ext : Run) (n : Nat) : runE G ext (n + 1) 16 [] = f16 (runE G ext n) n  := runE_succ f16_at f16_in

noncomputable def f17_l0 (run : Run) (n : Nat) (k0 : Nat) (x0_1 : Int) (x1_1 : List AV) (x5_1 : Int) : Option Res :=
  iterK (evalK G run n f17_keep 0 (sub [1, 0, 1, 0, 0] f17_body)) f17_t0 f17_o0 (blockK 0 (seqK (evalK G run n f17_keep 0 (sub [1, 1] f17_body) (retE G f17_info)) (retE G f17_info))) k0
    ⟨[.val (.int .i64) none (.int x0_1), .val (.slice (.int .i64)) none (.slice x1_1), .any, .any, .any, .val (.int .i64) none (.int x5_1), .any, .any, .any, .any, .any, .any, .any, .any, .any, .any, .any, .any, .any, .any, .any, .any, .any, .any, .any, .any, .any, .any, .any, .any, .any, .any, .any, .any, .any, .any, .any, .any, .any, .any, .any, .any, .any, .any], [⟨0, none⟩, ⟨0, none⟩, ⟨0, none⟩, ⟨0, none⟩, ⟨0, none⟩, ⟨0, none⟩, ⟨0, none⟩, ⟨0, none⟩, ⟨0, none⟩, ⟨0, none⟩, ⟨0, none⟩, ⟨0, none⟩, ⟨0, none⟩, ⟨0, none⟩, ⟨0, none⟩, ⟨0, none⟩, ⟨0, none⟩, ⟨0, none⟩, ⟨0, none⟩, ⟨0, none⟩, ⟨0, none⟩, ⟨0, none⟩, ⟨0, none⟩, ⟨0, none⟩, ⟨0, none⟩, ⟨0, none⟩, ⟨0, none⟩, ⟨0, none⟩, ⟨0, none⟩, ⟨0, none⟩, ⟨0, none⟩, ⟨0, none⟩, ⟨0, none⟩, ⟨0, none⟩, ⟨0, none⟩, ⟨0, none⟩, ⟨0, none⟩, ⟨0, none⟩, ⟨0, none⟩, ⟨0, none⟩, ⟨0, none⟩, ⟨0, none⟩, ⟨0, none⟩, ⟨0, none⟩], List.replicate 44 0⟩
theorem f17_l0_eq (run : Run) (n : Nat) (k0 : Nat) (x0_1 : Int) (x1_1 : List AV) (x5_1 : Int) : f17_l0 run n (k0 + 1) x0_1 x1_1 x5_1 =
  bif ltI x5_1 (x1_1.length : Int) then
    bif inR x5_1 x1_1.length then
    bif ltI ((nth x1_1 (Int.toNat x5_1)).toInt) 0 then
    some ⟨[.bool false], [], f17_fresh⟩
  else
    bif inR x5_1 x1_1.length then
    bif leI x0_1 ((nth x1_1 (Int.toNat x5_1)).toInt) then
    some ⟨[.bool false], [], f17_fresh⟩
  else
    bif ltI 0 x5_1 then
    bif inR x5_1 x1_1.length then
    bif inR (IntKind.wrap .i64 (x5_1 - 1)) x1_1.length then
    bif leI ((nth x1_1 (Int.toNat x5_1)).toInt) ((nth x1_1 (Int.toNat (IntKind.wrap .i64 (x5_1 - 1)))).toInt) then
    some ⟨[.bool false], [], f17_fresh⟩
  else
    f17_l0 run n k0 x0_1 x1_1 (IntKind.wrap .i64 (x5_1 + 1))
  else none
  else none
  else
    f17_l0 run n k0 x0_1 x1_1 (IntKind.wrap .i64 (x5_1 + 1))
  else none
  else none
  else
    some ⟨[.bool (ltI 0 (x1_1.length : Int))], [], f17_fresh⟩ := by kernel_rfl
noncomputable def f17 (run : Run) (n : Nat) (a0_1 : Int) (a1_1 : List AV) : Option Res := evalK G run n f17_info.keep 0 f17_info.body (retE G f17_info) (f17_info.start [.int a0_1, .slice a1_1])
theorem f17_eq (run : Run) (n : Nat) (a0_1 : Int) (a1_1 : List AV) : f17 run n a0_1 a1_1 =
  f17_l0 run n n a0_1 a1_1 0 := by kernel_rfl
theorem f17_run (ext : Run) (n : Nat) (a0_1 : Int) (a1_1 : List AV) : runE G ext (n + 1) 17 [.int a0_1, .slice a1_1] = f17 (runE G ext n) n a0_1 a1_1 := runE_succ f17_at f17_in

noncomputable def f32_l0 (run : Run) (n : Nat) (k0 : Nat) (x0_1 : List AV) (x1_1 : Int) (x2_1 : Int) (x7_1 : Int) : Option Res :=
  iterK (evalK G run n f32_keep 0 (sub [1, 0, 1, 0, 0] f32_body)) f32_t0 f32_o0 (blockK 0 (seqK (evalK G run n f32_keep 0 (sub [1, 1] f32_body) (retE G f32_info)) (retE G f32_info))) k0
    ⟨[.val (.slice (.int .i64)) none (.slice x0_1), .val (.int .i64) none (.int x1_1), .val (.int .i64) none (.int x2_1), .any, .any, .any, .any, .val (.int .i64) none (.int x7_1), .any, .any, .any, .any, .any, .any, .any, .any, .any, .any, .any, .any, .any, .any, .any, .any, .any, .any, .any, .any], [⟨0, none⟩, ⟨0, none⟩, ⟨0, none⟩, ⟨0, none⟩, ⟨0, none⟩, ⟨0, none⟩, ⟨0, none⟩, ⟨0, none⟩, ⟨0, none⟩, ⟨0, none⟩, ⟨0, none⟩, ⟨0, none⟩, ⟨0, none⟩, ⟨0, none⟩, ⟨0, none⟩, ⟨0, none⟩, ⟨0, none⟩, ⟨0, none⟩, ⟨0, none⟩, ⟨0, none⟩, ⟨0, none⟩, ⟨0, none⟩, ⟨0, none⟩, ⟨0, none⟩, ⟨0, none⟩, ⟨0, none⟩, ⟨0, none⟩, ⟨0, none⟩], List.replicate 28 0⟩
theorem f32_l0_eq (run : Run) (n : Nat) (k0 : Nat) (x0_1 : List AV) (x1_1 : Int) (x2_1 : Int) (x7_1 : Int) : f32_l0 run n (k0 + 1) x0_1 x1_1 x2_1 x7_1 =
  bif ltI x7_1 (x0_1.length : Int) then
    bif inR x7_1 x0_1.length then
    bif leI x1_1 ((nth x0_1 (Int.toNat x7_1)).toInt) then
    bif inR x7_1 x0_1.length then
    bif ltI ((nth x0_1 (Int.toNat x7_1)).toInt) x2_1 then
    some ⟨[.bool true], [], f32_fresh⟩
  else
    f32_l0 run n k0 x0_1 x1_1 x2_1 (IntKind.wrap .i64 (x7_1 + 1))
  else none
  else
    f32_l0 run n k0 x0_1 x1_1 x2_1 (IntKind.wrap .i64 (x7_1 + 1))
  else none
  else
    some ⟨[.bool false], [], f32_fresh⟩ := by kernel_rfl
noncomputable def f32 (run : Run) (n : Nat) (a0_1 : List AV) (a1_1 : Int) (a2_1 : Int) : Option Res := evalK G run n f32_info.keep 0 f32_info.body (retE G f32_info) (f32_info.start [.slice a0_1, .int a1_1, .int a2_1])
theorem f32_eq (run : Run) (n : Nat) (a0_1 : List AV) (a1_1 : Int) (a2_1 : Int) : f32 run n a0_1 a1_1 a2_1 =
  f32_l0 run n n a0_1 a1_1 a2_1 0 := by kernel_rfl
theorem f32_run (ext : Run) (n : Nat) (a0_1 : List AV) (a1_1 : Int) (a2_1 : Int) : runE G ext (n + 1) 32 [.slice a0_1, .int a1_1, .int a2_1] = f32 (runE G ext n) n a0_1 a1_1 a2_1 := runE_succ f32_at f32_in

noncomputable def f33_l0 (run : Run) (n : Nat) (k0 : Nat) (x0_1 : Int) (x3_1 : Int) (x4_1 : Int) : Option Res :=
  iterK (evalK G run n f33_keep 0 (sub [1, 1, 0, 1, 0, 0] f33_body)) f33_t0 f33_o0 (blockK 0 (seqK (evalK G run n f33_keep 0 (sub [1, 1, 1] f33_body) (retE G f33_info)) (retE G f33_info))) k0
    ⟨[.val (.int .i64) none (.int x0_1), .any, .any, .val (.int .i64) none (.int x3_1), .val (.int .i64) none (.int x4_1), .any, .any, .any, .any, .any, .any, .any, .any, .any, .any, .any], [⟨0, none⟩, ⟨0, none⟩, ⟨0, none⟩, ⟨0, none⟩, ⟨0, none⟩, ⟨0, none⟩, ⟨0, none⟩, ⟨0, none⟩, ⟨0, none⟩, ⟨0, none⟩, ⟨0, none⟩, ⟨0, none⟩, ⟨0, none⟩, ⟨0, none⟩, ⟨0, none⟩, ⟨0, none⟩], List.replicate 16 0⟩
theorem f33_l0_eq (run : Run) (n : Nat) (k0 : Nat) (x0_1 : Int) (x3_1 : Int) (x4_1 : Int) : f33_l0 run n (k0 + 1) x0_1 x3_1 x4_1 =
  bif ltI x4_1 x0_1 then
    bif ltI 0 x4_1 then
    f33_l0 run n k0 x0_1 x4_1 (IntKind.wrap .i64 (x4_1 * 2))
  else
    some ⟨[.int x3_1], [], f33_fresh⟩
  else
    some ⟨[.int x3_1], [], f33_fresh⟩ := by kernel_rfl
noncomputable def f33 (run : Run) (n : Nat) (a0_1 : Int) : Option Res := evalK G run n f33_info.keep 0 f33_info.body (retE G f33_info) (f33_info.start [.int a0_1])
theorem f33_eq (run : Run) (n : Nat) (a0_1 : Int) : f33 run n a0_1 =
  f33_l0 run n n a0_1 0 1 := by kernel_rfl
theorem f33_run (ext : Run) (n : Nat) (a0_1 : Int) : runE G ext (n + 1) 33 [.int a0_1] = f33 (runE G ext n) n a0_1 := runE_succ f33_at f33_in

noncomputable def f18 (run : Run) (n : Nat) (a0_1 : List AV) (a1_1 : Int) (a2_1 : Int) : Option Res := evalK G run n f18_info.keep 0 f18_info.body (retE G f18_info) (f18_info.start [.slice a0_1, .int a1_1, .int a2_1])
theorem f18_eq (run : Run) (n : Nat) (a0_1 : List AV) (a1_1 : Int) (a2_1 : Int) : f18 run n a0_1 a1_1 a2_1 =
  (run 32 [.slice a0_1, .int a1_1, .int a2_1]).bind fun r1 =>
    nilV r1.outs (consV r1.vals fun v1 vs1 =>
    nilV vs1 (bif !v1.toBool then
    some ⟨[.int 1], [], f18_fresh⟩
  else
    bif eqI (IntKind.wrap .i64 (a2_1 - a1_1)) 1 then
    some ⟨[.int 0], [], f18_fresh⟩
  else
    (run 33 [.int (IntKind.wrap .i64 (a2_1 - a1_1))]).bind fun r2 =>
    nilV r2.outs (consV r2.vals fun v2 vs2 =>
    nilV vs2 ((run 18 [.slice a0_1, .int a1_1, .int (IntKind.wrap .i64 (a1_1 + v2.toInt))]).bind fun r3 =>
    nilV r3.outs (consV r3.vals fun v3 vs3 =>
    nilV vs3 ((run 18 [.slice a0_1, .int (IntKind.wrap .i64 (a1_1 + v2.toInt)), .int a2_1]).bind fun r4 =>
    nilV r4.outs (consV r4.vals fun v4 vs4 =>
    nilV vs4 (some ⟨[.int (IntKind.wrap .i64 (v3.toInt + v4.toInt))], [], f18_fresh⟩)))))))) := by kernel_rfl
theorem f18_run (ext : Run) (n : Nat) (a0_1 : List AV) (a1_1 : Int) (a2_1 : Int) : runE G ext (n + 1) 18 [.slice a0_1, .int a1_1, .int a2_1] = f18 (runE G ext n) n a0_1 a1_1 a2_1 := runE_succ f18_at f18_in

noncomputable def f5 (run : Run) (n : Nat) (a0_1 : Int) (a1_1 : List AV) : Option Res := evalK G run n f5_info.keep 0 f5_info.body (retE G f5_info) (f5_info.start [.int a0_1, .slice a1_1])
theorem f5_eq (run : Run) (n : Nat) (a0_1 : Int) (a1_1 : List AV) : f5 run n a0_1 a1_1 =
  bif ltI 100 a0_1 then
    (run 16 []).bind fun r1 =>
    nilV r1.outs (consV r1.vals fun v1 vs1 =>
    nilV vs1 (some ⟨[.bool v1.toBool], [], f5_fresh⟩))
  else
    bif ltI 200 (a1_1.length : Int) then
    (run 16 []).bind fun r2 =>
    nilV r2.outs (consV r2.vals fun v2 vs2 =>
    nilV vs2 (some ⟨[.bool v2.toBool], [], f5_fresh⟩))
  else
    (run 17 [.int a0_1, .slice a1_1]).bind fun r3 =>
    nilV r3.outs (consV r3.vals fun v3 vs3 =>
    nilV vs3 (bif v3.toBool then
    (run 18 [.slice a1_1, .int 0, .int a0_1]).bind fun r4 =>
    nilV r4.outs (consV r4.vals fun v4 vs4 =>
    nilV vs4 ((run 19 [.int a0_1, .slice a1_1]).bind fun r5 =>
    nilV r5.outs (consV r5.vals fun v5 vs5 =>
    nilV vs5 (bif eqI v5.toInt v4.toInt then
    (run 16 []).bind fun r6 =>
    nilV r6.outs (consV r6.vals fun v6 vs6 =>
    nilV vs6 (some ⟨[.bool v6.toBool], [], f5_fresh⟩))
  else
    some ⟨[.bool false], [], f5_fresh⟩))))
  else
    (run 19 [.int a0_1, .slice a1_1]).bind fun r7 =>
    nilV r7.outs (consV r7.vals fun v7 vs7 =>
    nilV vs7 (bif eqI v7.toInt (-1) then
    (run 16 []).bind fun r8 =>
    nilV r8.outs (consV r8.vals fun v8 vs8 =>
    nilV vs8 (some ⟨[.bool v8.toBool], [], f5_fresh⟩))
  else
    some ⟨[.bool false], [], f5_fresh⟩)))) := by kernel_rfl
theorem f5_run (ext : Run) (n : Nat) (a0_1 : Int) (a1_1 : List AV) : runE G ext (n + 1) 5 [.int a0_1, .slice a1_1] = f5 (runE G ext n) n a0_1 a1_1 := runE_succ f5_at f5_in

noncomputable def f48_l0 (run : Run) (n : Nat) (k0 : Nat) (x0_1 : List AV) (x2_1 : Int) (x7_1 : Int) : Option Res :=
  iterK (evalK G run n f48_keep 0 (sub [1, 0, 1, 0, 0] f48_body)) f48_t0 f48_o0 (blockK 0 (seqK (evalK G run n f48_keep 0 (sub [1, 1] f48_body) (retE G f48_info)) (retE G f48_info))) k0
    ⟨[.val (.slice (.int .i64)) none (.slice x0_1), .any, .val (.int .i64) none (.int x2_1), .any, .any, .any, .any, .val (.int .i64) none (.int x7_1), .any, .any, .any, .any, .any, .any, .any, .any, .any, .any, .any, .any, .any, .any, .any, .any], [⟨0, none⟩, ⟨0, none⟩, ⟨0, none⟩, ⟨0, none⟩, ⟨0, none⟩, ⟨0, none⟩, ⟨0, none⟩, ⟨0, none⟩, ⟨0, none⟩, ⟨0, none⟩, ⟨0, none⟩, ⟨0, none⟩, ⟨0, none⟩, ⟨0, none⟩, ⟨0, none⟩, ⟨0, none⟩, ⟨0, none⟩, ⟨0, none⟩, ⟨0, none⟩, ⟨0, none⟩, ⟨0, none⟩, ⟨0, none⟩, ⟨0, none⟩, ⟨0, none⟩], List.replicate 24 0⟩
theorem f48_l0_eq (run : Run) (n : Nat) (k0 : Nat) (x0_1 : List AV) (x2_1 : Int) (x7_1 : Int) : f48_l0 run n (k0 + 1) x0_1 x2_1 x7_1 =
  bif leI 0 x7_1 then
    bif inR x7_1 x0_1.length then
    bif leI x2_1 ((nth x0_1 (Int.toNat x7_1)).toInt) then
    some ⟨[.int x7_1], [], f48_fresh⟩
  else
    f48_l0 run n k0 x0_1 x2_1 (IntKind.wrap .i64 (x7_1 - 1))
  else none
  else
    some ⟨[.int (-1)], [], f48_fresh⟩ := by kernel_rfl
noncomputable def f48 (run : Run) (n : Nat) (a0_1 : List AV) (a1_1 : Int) (a2_1 : Int) : Option Res := evalK G run n f48_info.keep 0 f48_info.body (retE G f48_info) (f48_info.start [.slice a0_1, .int a1_1, .int a2_1])
theorem f48_eq (run : Run) (n : Nat) (a0_1 : List AV) (a1_1 : Int) (a2_1 : Int) : f48 run n a0_1 a1_1 a2_1 =
  f48_l0 run n n a0_1 a2_1 (IntKind.wrap .i64 (mn2 a1_1 (a0_1.length : Int) - 1)) := by kernel_rfl
theorem f48_run (ext : Run) (n : Nat) (a0_1 : List AV) (a1_1 : Int) (a2_1 : Int) : runE G ext (n + 1) 48 [.slice a0_1, .int a1_1, .int a2_1] = f48 (runE G ext n) n a0_1 a1_1 a2_1 := runE_succ f48_at f48_in

noncomputable def f36_l0 (run : Run) (n : Nat) (k0 : Nat) (x0_1 : List AV) (x1_1 : Int) (x5_1 : List AV) (x17_1 : Int) : Option Res :=
  iterK (evalK G run n f36_keep 0 (sub [1, 1, 1, 0, 1, 0, 0] f36_body)) f36_t0 f36_o0 (blockK 0 (seqK (evalK G run n f36_keep 0 (sub [1, 1, 1, 1] f36_body) (retE G f36_info)) (retE G f36_info))) k0
    ⟨[.val (.slice (.int .i64)) none (.slice x0_1), .val (.int .i64) none (.int x1_1), .any, .any, .any, .val (.slice (.int .i64)) (some (5, 0)) (.slice x5_1), .any, .any, .any, .any, .any, .any, .any, .any, .any, .any, .any, .val (.int .i64) none (.int x17_1), .any, .any, .any, .any, .any, .any, .any, .any, .any, .any, .any, .any, .any, .any, .any, .any], [⟨0, none⟩, ⟨0, none⟩, ⟨0, none⟩, ⟨0, none⟩, ⟨0, none⟩, ⟨0, none⟩, ⟨0, none⟩, ⟨0, none⟩, ⟨0, none⟩, ⟨0, none⟩, ⟨0, none⟩, ⟨0, none⟩, ⟨0, none⟩, ⟨0, none⟩, ⟨0, none⟩, ⟨0, none⟩, ⟨0, none⟩, ⟨0, none⟩, ⟨0, none⟩, ⟨0, none⟩, ⟨0, none⟩, ⟨0, none⟩, ⟨0, none⟩, ⟨0, none⟩, ⟨0, none⟩, ⟨0, none⟩, ⟨0, none⟩, ⟨0, none⟩, ⟨0, none⟩, ⟨0, none⟩, ⟨0, none⟩, ⟨0, none⟩, ⟨0, none⟩, ⟨0, none⟩], List.replicate 34 0⟩
theorem f36_l0_eq (run : Run) (n : Nat) (k0 : Nat) (x0_1 : List AV) (x1_1 : Int) (x5_1 : List AV) (x17_1 : Int) : f36_l0 run n (k0 + 1) x0_1 x1_1 x5_1 x17_1 =
  bif ltI x17_1 257 then
    (run 48 [.slice x0_1, .int x1_1, .int x17_1]).bind fun r1 =>
    nilV r1.outs (consV r1.vals fun v1 vs1 =>
    nilV vs1 (bif ltI v1.toInt 0 then
    some ⟨[.slice x5_1], [], f36_fresh⟩
  else
    bif Nat.ble ((x5_1.length + 1) * 8) 140737488355328 then
    bif eqI v1.toInt 0 then
    some ⟨[.slice (x5_1 ++ [.int v1.toInt])], [], f36_fresh⟩
  else
    f36_l0 run n k0 x0_1 x1_1 (x5_1 ++ [.int v1.toInt]) (IntKind.wrap .i64 (x17_1 + 1))
  else none))
  else
    some ⟨[.slice x5_1], [], f36_fresh⟩ := by kernel_rfl
noncomputable def f36 (run : Run) (n : Nat) (a0_1 : List AV) (a1_1 : Int) : Option Res := evalK G run n f36_info.keep 0 f36_info.body (retE G f36_info) (f36_info.start [.slice a0_1, .int a1_1])
theorem f36_eq (run : Run) (n : Nat) (a0_1 : List AV) (a1_1 : Int) : f36 run n a0_1 a1_1 =
  bif ltI a1_1 1 then
    some ⟨[.slice []], [], f36_fresh⟩
  else
    bif ltI (a0_1.length : Int) a1_1 then
    some ⟨[.slice []], [], f36_fresh⟩
  else
    f36_l0 run n n a0_1 a1_1 [] 0 := by kernel_rfl
theorem f36_run (ext : Run) (n : Nat) (a0_1 : List AV) (a1_1 : Int) : runE G ext (n + 1) 36 [.slice a0_1, .int a1_1] = f36 (runE G ext n) n a0_1 a1_1 := runE_succ f36_at f36_in

noncomputable def f50_l0 (run : Run) (n : Nat) (k0 : Nat) (x1_1 : Int) (x6_1 : Int) (x7_1 : Bool) (x10_1 : List AV) (x11_1 : Int) (x12_1 : Int) : Option Res :=
  iterK (evalK G run n f50_keep 0 (sub [1, 1, 0, 1, 0, 0] f50_body)) f50_t0 f50_o0 (blockK 0 (seqK (evalK G run n f50_keep 0 (sub [1, 1, 1] f50_body) (retE G f50_info)) (retE G f50_info))) k0
    ⟨[.any, .val (.int .i64) none (.int x1_1), .any, .any, .any, .any, .val (.int .i64) none (.int x6_1), .val .bool none (.bool x7_1), .any, .any, .val (.slice (.int .i64)) none (.slice x10_1), .val (.int .i64) none (.int x11_1), .val (.int .i64) none (.int x12_1), .any, .any, .any, .any, .any, .any, .any, .any, .any, .any, .any, .any, .any, .any, .any, .any, .any, .any, .any], [⟨0, none⟩, ⟨0, none⟩, ⟨0, none⟩, ⟨0, none⟩, ⟨0, none⟩, ⟨0, none⟩, ⟨0, none⟩, ⟨0, none⟩, ⟨0, none⟩, ⟨0, none⟩, ⟨0, none⟩, ⟨0, none⟩, ⟨0, none⟩, ⟨0, none⟩, ⟨0, none⟩, ⟨0, none⟩, ⟨0, none⟩, ⟨0, none⟩, ⟨0, none⟩, ⟨0, none⟩, ⟨0, none⟩, ⟨0, none⟩, ⟨0, none⟩, ⟨0, none⟩, ⟨0, none⟩, ⟨0, none⟩, ⟨0, none⟩, ⟨0, none⟩, ⟨0, none⟩, ⟨0, none⟩, ⟨0, none⟩, ⟨0, none⟩], List.replicate 32 0⟩
theorem f50_l0_eq (run : Run) (n : Nat) (k0 : Nat) (x1_1 : Int) (x6_1 : Int) (x7_1 : Bool) (x10_1 : List AV) (x11_1 : Int) (x12_1 : Int) : f50_l0 run n (k0 + 1) x1_1 x6_1 x7_1 x10_1 x11_1 x12_1 =
  bif ltI x12_1 x11_1 then
    bif inR x12_1 x10_1.length then
    bif leI x1_1 ((nth x10_1 (Int.toNat x12_1)).toInt) then
    bif !x7_1 then
    f50_l0 run n k0 x1_1 ((nth x10_1 (Int.toNat x12_1)).toInt) true x10_1 x11_1 (IntKind.wrap .i64 (x12_1 + 1))
  else
    bif ltI ((nth x10_1 (Int.toNat x12_1)).toInt) x6_1 then
    f50_l0 run n k0 x1_1 ((nth x10_1 (Int.toNat x12_1)).toInt) true x10_1 x11_1 (IntKind.wrap .i64 (x12_1 + 1))
  else
    f50_l0 run n k0 x1_1 x6_1 x7_1 x10_1 x11_1 (IntKind.wrap .i64 (x12_1 + 1))
  else
    f50_l0 run n k0 x1_1 x6_1 x7_1 x10_1 x11_1 (IntKind.wrap .i64 (x12_1 + 1))
  else none
  else
    some ⟨[.int x6_1, .bool x7_1], [], f50_fresh⟩ := by kernel_rfl
noncomputable def f50 (run : Run) (n : Nat) (a0_1 : List AV) (a1_1 : Int) : Option Res := evalK G run n f50_info.keep 0 f50_info.body (retE G f50_info) (f50_info.start [.slice a0_1, .int a1_1])
theorem f50_eq (run : Run) (n : Nat) (a0_1 : List AV) (a1_1 : Int) : f50 run n a0_1 a1_1 =
  f50_l0 run n n a1_1 0 false a0_1 (a0_1.length : Int) 0 := by kernel_rfl
theorem f50_run (ext : Run) (n : Nat) (a0_1 : List AV) (a1_1 : Int) : runE G ext (n + 1) 50 [.slice a0_1, .int a1_1] = f50 (runE G ext n) n a0_1 a1_1 := runE_succ f50_at f50_in

noncomputable def f38_l0 (run : Run) (n : Nat) (k0 : Nat) (x0_1 : List AV) (x1_1 : Int) (x2_1 : Int) (x7_1 : List AV) : Option Res :=
  iterK (evalK G run n f38_keep 0 (sub [1, 1, 1, 0, 0, 0] f38_body)) f38_t0 f38_o0 (blockK 0 (seqK (evalK G run n f38_keep 0 (sub [1, 1, 1, 1] f38_body) (retE G f38_info)) (retE G f38_info))) k0
    ⟨[.val (.slice (.int .i64)) none (.slice x0_1), .val (.int .i64) none (.int x1_1), .val (.int .i64) none (.int x2_1), .any, .any, .any, .any, .val (.slice (.int .i64)) (some (7, 0)) (.slice x7_1), .any, .any, .any, .any, .any, .any, .any, .any, .any, .any, .any, .any, .any, .any, .any, .any, .any, .any, .any, .any, .any, .any, .any, .any, .any, .any, .any, .any, .any, .any, .any, .any, .any, .any, .any, .any], [⟨0, none⟩, ⟨0, none⟩, ⟨0, none⟩, ⟨0, none⟩, ⟨0, none⟩, ⟨0, none⟩, ⟨0, none⟩, ⟨0, none⟩, ⟨0, none⟩, ⟨0, none⟩, ⟨0, none⟩, ⟨0, none⟩, ⟨0, none⟩, ⟨0, none⟩, ⟨0, none⟩, ⟨0, none⟩, ⟨0, none⟩, ⟨0, none⟩, ⟨0, none⟩, ⟨0, none⟩, ⟨0, none⟩, ⟨0, none⟩, ⟨0, none⟩, ⟨0, none⟩, ⟨0, none⟩, ⟨0, none⟩, ⟨0, none⟩, ⟨0, none⟩, ⟨0, none⟩, ⟨0, none⟩, ⟨0, none⟩, ⟨0, none⟩, ⟨0, none⟩, ⟨0, none⟩, ⟨0, none⟩, ⟨0, none⟩, ⟨0, none⟩, ⟨0, none⟩, ⟨0, none⟩, ⟨0, none⟩, ⟨0, none⟩, ⟨0, none⟩, ⟨0, none⟩, ⟨0, none⟩], List.replicate 44 0⟩
theorem f38_l0_eq (run : Run) (n : Nat) (k0 : Nat) (x0_1 : List AV) (x1_1 : Int) (x2_1 : Int) (x7_1 : List AV) : f38_l0 run n (k0 + 1) x0_1 x1_1 x2_1 x7_1 =
  bif ltI x2_1 x1_1 then
    (run 36 [.slice x0_1, .int x1_1]).bind fun r1 =>
    bif r1.fresh then
    nilV r1.outs (consV r1.vals fun v1 vs1 =>
    nilV vs1 ((run 50 [.slice v1.toSlice, .int x2_1]).bind fun r2 =>
    nilV r2.outs (consV r2.vals fun v2 vs2 =>
    consV vs2 fun v3 vs3 =>
    nilV vs3 (bif !v3.toBool then
    some ⟨[.slice []], [], f38_fresh⟩
  else
    bif Nat.ble ((x7_1.length + 1) * 8) 140737488355328 then
    f38_l0 run n k0 x0_1 v2.toInt x2_1 (x7_1 ++ [.int v2.toInt])
  else none))))
  else none
  else
    some ⟨[.slice x7_1], [], f38_fresh⟩ := by kernel_rfl
noncomputable def f38 (run : Run) (n : Nat) (a0_1 : List AV) (a1_1 : Int) (a2_1 : Int) : Option Res := evalK G run n f38_info.keep 0 f38_info.body (retE G f38_info) (f38_info.start [.slice a0_1, .int a1_1, .int a2_1])
theorem f38_eq (run : Run) (n : Nat) (a0_1 : List AV) (a1_1 : Int) (a2_1 : Int) : f38 run n a0_1 a1_1 a2_1 =
  bif ltI a2_1 0 then
    some ⟨[.slice []], [], f38_fresh⟩
  else
    bif ltI a1_1 a2_1 then
    some ⟨[.slice []], [], f38_fresh⟩
  else
    bif leI (a0_1.length : Int) a1_1 then
    some ⟨[.slice []], [], f38_fresh⟩
  else
    f38_l0 run n n a0_1 a1_1 a2_1 [.int a1_1] := by kernel_rfl
theorem f38_run (ext : Run) (n : Nat) (a0_1 : List AV) (a1_1 : Int) (a2_1 : Int) : runE G ext (n + 1) 38 [.slice a0_1, .int a1_1, .int a2_1] = f38 (runE G ext n) n a0_1 a1_1 a2_1 := runE_succ f38_at f38_in

noncomputable def f25_l0 (run : Run) (n : Nat) (k0 : Nat) (x0_1 : List AV) (x1_1 : List AV) (x5_1 : Int) : Option Res :=
  iterK (evalK G run n f25_keep 0 (sub [1, 1, 0, 1, 0, 0] f25_body)) f25_t0 f25_o0 (blockK 0 (seqK (evalK G run n f25_keep 0 (sub [1, 1, 1] f25_body) (retE G f25_info)) (retE G f25_info))) k0
    ⟨[.val (.slice (.int .i64)) none (.slice x0_1), .val (.slice (.int .i64)) none (.slice x1_1), .any, .any, .any, .val (.int .i64) none (.int x5_1), .any, .any, .any, .any, .any, .any, .any, .any, .any, .any, .any, .any, .any, .any, .any, .any, .any, .any, .any, .any], [⟨0, none⟩, ⟨0, none⟩, ⟨0, none⟩, ⟨0, none⟩, ⟨0, none⟩, ⟨0, none⟩, ⟨0, none⟩, ⟨0, none⟩, ⟨0, none⟩, ⟨0, none⟩, ⟨0, none⟩, ⟨0, none⟩, ⟨0, none⟩, ⟨0, none⟩, ⟨0, none⟩, ⟨0, none⟩, ⟨0, none⟩, ⟨0, none⟩, ⟨0, none⟩, ⟨0, none⟩, ⟨0, none⟩, ⟨0, none⟩, ⟨0, none⟩, ⟨0, none⟩, ⟨0, none⟩, ⟨0, none⟩], List.replicate 26 0⟩
theorem f25_l0_eq (run : Run) (n : Nat) (k0 : Nat) (x0_1 : List AV) (x1_1 : List AV) (x5_1 : Int) : f25_l0 run n (k0 + 1) x0_1 x1_1 x5_1 =
  bif ltI x5_1 (x0_1.length : Int) then
    bif inR x5_1 x0_1.length then
    bif inR x5_1 x1_1.length then
    bif !(eqI ((nth x0_1 (Int.toNat x5_1)).toInt) ((nth x1_1 (Int.toNat x5_1)).toInt)) then
    some ⟨[.bool false], [], f25_fresh⟩
  else
    f25_l0 run n k0 x0_1 x1_1 (IntKind.wrap .i64 (x5_1 + 1))
  else none
  else none
  else
    some ⟨[.bool true], [], f25_fresh⟩ := by kernel_rfl
noncomputable def f25 (run : Run) (n : Nat) (a0_1 : List AV) (a1_1 : List AV) : Option Res := evalK G run n f25_info.keep 0 f25_info.body (retE G f25_info) (f25_info.start [.slice a0_1, .slice a1_1])
theorem f25_eq (run : Run) (n : Nat) (a0_1 : List AV) (a1_1 : List AV) : f25 run n a0_1 a1_1 =
  bif !(eqI (a0_1.length : Int) (a1_1.length : Int)) then
    some ⟨[.bool false], [], f25_fresh⟩
  else
    f25_l0 run n n a0_1 a1_1 0 := by kernel_rfl
theorem f25_run (ext : Run) (n : Nat) (a0_1 : List AV) (a1_1 : List AV) : runE G ext (n + 1) 25 [.slice a0_1, .slice a1_1] = f25 (runE G ext n) n a0_1 a1_1 := runE_succ f25_at f25_in

noncomputable def f20_l0 (run : Run) (n : Nat) (k0 : Nat) (x2_1 : Int) (x11_1 : List AV) (x12_1 : Int) (x13_1 : Int) : Option Res :=
  iterK (evalK G run n f20_keep 0 (sub [1, 0, 1, 0, 0] f20_body)) f20_t0 f20_o0 (blockK 0 (seqK (evalK G run n f20_keep 0 (sub [1, 1] f20_body) (retE G f20_info)) (retE G f20_info))) k0
    ⟨[.any, .any, .val (.int .i64) none (.int x2_1), .any, .any, .any, .any, .any, .any, .any, .any, .val (.slice (.int .i64)) (some (11, 0)) (.slice x11_1), .val (.int .i64) none (.int x12_1), .val (.int .i64) none (.int x13_1), .any, .any, .any, .any, .any, .any, .any, .any, .any], [⟨0, none⟩, ⟨0, none⟩, ⟨0, none⟩, ⟨0, none⟩, ⟨0, none⟩, ⟨0, none⟩, ⟨0, none⟩, ⟨0, none⟩, ⟨0, none⟩, ⟨0, none⟩, ⟨0, none⟩, ⟨0, none⟩, ⟨0, none⟩, ⟨0, none⟩, ⟨0, none⟩, ⟨0, none⟩, ⟨0, none⟩, ⟨0, none⟩, ⟨0, none⟩, ⟨0, none⟩, ⟨0, none⟩, ⟨0, none⟩, ⟨0, none⟩], List.replicate 23 0⟩
theorem f20_l0_eq (run : Run) (n : Nat) (k0 : Nat) (x2_1 : Int) (x11_1 : List AV) (x12_1 : Int) (x13_1 : Int) : f20_l0 run n (k0 + 1) x2_1 x11_1 x12_1 x13_1 =
  bif ltI x13_1 x12_1 then
    bif inR x13_1 x11_1.length then
    bif eqI ((nth x11_1 (Int.toNat x13_1)).toInt) x2_1 then
    some ⟨[.int x13_1], [], f20_fresh⟩
  else
    f20_l0 run n k0 x2_1 x11_1 x12_1 (IntKind.wrap .i64 (x13_1 + 1))
  else none
  else
    some ⟨[.int (-1)], [], f20_fresh⟩ := by kernel_rfl
noncomputable def f20 (run : Run) (n : Nat) (a0_1 : List AV) (a1_1 : Int) (a2_1 : Int) : Option Res := evalK G run n f20_info.keep 0 f20_info.body (retE G f20_info) (f20_info.start [.slice a0_1, .int a1_1, .int a2_1])
theorem f20_eq (run : Run) (n : Nat) (a0_1 : List AV) (a1_1 : Int) (a2_1 : Int) : f20 run n a0_1 a1_1 a2_1 =
  (run 36 [.slice a0_1, .int a1_1]).bind fun r1 =>
    bif r1.fresh then
    nilV r1.outs (consV r1.vals fun v1 vs1 =>
    nilV vs1 (f20_l0 run n n a2_1 v1.toSlice (v1.toSlice.length : Int) 0))
  else none := by kernel_rfl
theorem f20_run (ext : Run) (n : Nat) (a0_1 : List AV) (a1_1 : Int) (a2_1 : Int) : runE G ext (n + 1) 20 [.slice a0_1, .int a1_1, .int a2_1] = f20 (runE G ext n) n a0_1 a1_1 a2_1 := runE_succ f20_at f20_in

noncomputable def f22 (run : Run) (n : Nat) : Option Res := evalK G run n f22_info.keep 0 f22_info.body (retE G f22_info) (f22_info.start [])
theorem f22_eq (run : Run) (n : Nat) : f22 run n  =
  (run 38 [.slice [.int 256, .int 0, .int 2, .int 0], .int 3, .int 1]).bind fun r1 =>
    bif r1.fresh then
    nilV r1.outs (consV r1.vals fun v1 vs1 =>
    nilV vs1 ((run 25 [.slice v1.toSlice, .slice [.int 3, .int 2, .int 1]]).bind fun r2 =>
    nilV r2.outs (consV r2.vals fun v2 vs2 =>
    nilV vs2 (bif v2.toBool then
    (run 20 [.slice [.int 256, .int 0, .int 2, .int 0], .int 3, .int 2]).bind fun r3 =>
    nilV r3.outs (consV r3.vals fun v3 vs3 =>
    nilV vs3 (some ⟨[.bool (eqI v3.toInt 0)], [], f22_fresh⟩))
  else
    some ⟨[.bool false], [], f22_fresh⟩))))
  else none := by kernel_rfl
theorem f22_run (ext : Run) (n : Nat) : runE G ext (n + 1) 22 [] = f22 (runE G ext n) n  := runE_succ f22_at f22_in

noncomputable def f49_l0 (run : Run) (n : Nat) (k0 : Nat) (x0_1 : List AV) (x1_1 : Int) (x2_1 : Int) (x7_1 : Int) (x8_1 : Int) : Option Res :=
  iterK (evalK G run n f49_keep 0 (sub [1, 1, 0, 1, 0, 0] f49_body)) f49_t0 f49_o0 (blockK 0 (seqK (evalK G run n f49_keep 0 (sub [1, 1, 1] f49_body) (retE G f49_info)) (retE G f49_info))) k0
    ⟨[.val (.slice (.int .i64)) none (.slice x0_1), .val (.int .i64) none (.int x1_1), .val (.int .i64) none (.int x2_1), .any, .any, .any, .any, .val (.int .i64) none (.int x7_1), .val (.int .i64) none (.int x8_1), .any, .any, .any, .any, .any, .any, .any, .any, .any, .any, .any, .any, .any, .any, .any, .any, .any, .any, .any], [⟨0, none⟩, ⟨0, none⟩, ⟨0, none⟩, ⟨0, none⟩, ⟨0, none⟩, ⟨0, none⟩, ⟨0, none⟩, ⟨0, none⟩, ⟨0, none⟩, ⟨0, none⟩, ⟨0, none⟩, ⟨0, none⟩, ⟨0, none⟩, ⟨0, none⟩, ⟨0, none⟩, ⟨0, none⟩, ⟨0, none⟩, ⟨0, none⟩, ⟨0, none⟩, ⟨0, none⟩, ⟨0, none⟩, ⟨0, none⟩, ⟨0, none⟩, ⟨0, none⟩, ⟨0, none⟩, ⟨0, none⟩, ⟨0, none⟩, ⟨0, none⟩], List.replicate 28 0⟩
theorem f49_l0_eq (run : Run) (n : Nat) (k0 : Nat) (x0_1 : List AV) (x1_1 : Int) (x2_1 : Int) (x7_1 : Int) (x8_1 : Int) : f49_l0 run n (k0 + 1) x0_1 x1_1 x2_1 x7_1 x8_1 =
  bif ltI x8_1 (x0_1.length : Int) then
    bif ltI x8_1 x1_1 then
    bif inR x8_1 x0_1.length then
    bif leI x2_1 ((nth x0_1 (Int.toNat x8_1)).toInt) then
    f49_l0 run n k0 x0_1 x1_1 x2_1 x8_1 (IntKind.wrap .i64 (x8_1 + 1))
  else
    f49_l0 run n k0 x0_1 x1_1 x2_1 x7_1 (IntKind.wrap .i64 (x8_1 + 1))
  else none
  else
    some ⟨[.int x7_1], [], f49_fresh⟩
  else
    some ⟨[.int x7_1], [], f49_fresh⟩ := by kernel_rfl
noncomputable def f49 (run : Run) (n : Nat) (a0_1 : List AV) (a1_1 : Int) (a2_1 : Int) : Option Res := evalK G run n f49_info.keep 0 f49_info.body (retE G f49_info) (f49_info.start [.slice a0_1, .int a1_1, .int a2_1])
theorem f49_eq (run : Run) (n : Nat) (a0_1 : List AV) (a1_1 : Int) (a2_1 : Int) : f49 run n a0_1 a1_1 a2_1 =
  f49_l0 run n n a0_1 a1_1 a2_1 (-1) 0 := by kernel_rfl
theorem f49_run (ext : Run) (n : Nat) (a0_1 : List AV) (a1_1 : Int) (a2_1 : Int) : runE G ext (n + 1) 49 [.slice a0_1, .int a1_1, .int a2_1] = f49 (runE G ext n) n a0_1 a1_1 a2_1 := runE_succ f49_at f49_in

noncomputable def f37_l0 (run : Run) (n : Nat) (k0 : Nat) (x0_1 : List AV) (x1_1 : Int) (x5_1 : List AV) (x6_1 : Int) : Option Res :=
  iterK (evalK G run n f37_keep 0 (sub [1, 1, 1, 0, 1, 0, 0] f37_body)) f37_t0 f37_o0 (blockK 0 (seqK (evalK G run n f37_keep 0 (sub [1, 1, 1, 1] f37_body) (retE G f37_info)) (retE G f37_info))) k0
    ⟨[.val (.slice (.int .i64)) none (.slice x0_1), .val (.int .i64) none (.int x1_1), .any, .any, .any, .val (.slice (.int .i64)) (some (5, 0)) (.slice x5_1), .val (.int .i64) none (.int x6_1), .any, .any, .any, .any, .any, .any, .any, .any, .any, .any, .any, .any, .any, .any, .any, .any, .any, .any, .any, .any, .any, .any, .any, .any, .any, .any, .any, .any], [⟨0, none⟩, ⟨0, none⟩, ⟨0, none⟩, ⟨0, none⟩, ⟨0, none⟩, ⟨0, none⟩, ⟨0, none⟩, ⟨0, none⟩, ⟨0, none⟩, ⟨0, none⟩, ⟨0, none⟩, ⟨0, none⟩, ⟨0, none⟩, ⟨0, none⟩, ⟨0, none⟩, ⟨0, none⟩, ⟨0, none⟩, ⟨0, none⟩, ⟨0, none⟩, ⟨0, none⟩, ⟨0, none⟩, ⟨0, none⟩, ⟨0, none⟩, ⟨0, none⟩, ⟨0, none⟩, ⟨0, none⟩, ⟨0, none⟩, ⟨0, none⟩, ⟨0, none⟩, ⟨0, none⟩, ⟨0, none⟩, ⟨0, none⟩, ⟨0, none⟩, ⟨0, none⟩, ⟨0, none⟩], List.replicate 35 0⟩
theorem f37_l0_eq (run : Run) (n : Nat) (k0 : Nat) (x0_1 : List AV) (x1_1 : Int) (x5_1 : List AV) (x6_1 : Int) : f37_l0 run n (k0 + 1) x0_1 x1_1 x5_1 x6_1 =
  bif ltI x6_1 257 then
    (run 49 [.slice x0_1, .int x1_1, .int x6_1]).bind fun r1 =>
    nilV r1.outs (consV r1.vals fun v1 vs1 =>
    nilV vs1 (bif ltI v1.toInt 0 then
    some ⟨[.slice x5_1], [], f37_fresh⟩
  else
    bif Nat.ble ((x5_1.length + 1) * 8) 140737488355328 then
    bif eqI v1.toInt 0 then
    some ⟨[.slice (x5_1 ++ [.int v1.toInt])], [], f37_fresh⟩
  else
    f37_l0 run n k0 x0_1 x1_1 (x5_1 ++ [.int v1.toInt]) (IntKind.wrap .i64 (x6_1 + 1))
  else none))
  else
    some ⟨[.slice x5_1], [], f37_fresh⟩ := by kernel_rfl
noncomputable def f37 (run : Run) (n : Nat) (a0_1 : List AV) (a1_1 : Int) : Option Res := evalK G run n f37_info.keep 0 f37_info.body (retE G f37_info) (f37_info.start [.slice a0_1, .int a1_1])
theorem f37_eq (run : Run) (n : Nat) (a0_1 : List AV) (a1_1 : Int) : f37 run n a0_1 a1_1 =
  bif ltI a1_1 1 then
    some ⟨[.slice []], [], f37_fresh⟩
  else
    bif ltI (a0_1.length : Int) a1_1 then
    some ⟨[.slice []], [], f37_fresh⟩
  else
    f37_l0 run n n a0_1 a1_1 [] 0 := by kernel_rfl
theorem f37_run (ext : Run) (n : Nat) (a0_1 : List AV) (a1_1 : Int) : runE G ext (n + 1) 37 [.slice a0_1, .int a1_1] = f37 (runE G ext n) n a0_1 a1_1 := runE_succ f37_at f37_in

noncomputable def f21_l0 (run : Run) (n : Nat) (k0 : Nat) (x2_1 : Int) (x7_1 : List AV) (x8_1 : Int) : Option Res :=
  iterK (evalK G run n f21_keep 0 (sub [1, 1, 0, 1, 0, 0] f21_body)) f21_t0 f21_o0 (blockK 0 (seqK (evalK G run n f21_keep 0 (sub [1, 1, 1] f21_body) (retE G f21_info)) (retE G f21_info))) k0
    ⟨[.any, .any, .val (.int .i64) none (.int x2_1), .any, .any, .any, .any, .val (.slice (.int .i64)) (some (7, 0)) (.slice x7_1), .val (.int .i64) none (.int x8_1), .any, .any, .any, .any, .any, .any, .any, .any, .any, .any, .any, .any, .any, .any, .any, .any], [⟨0, none⟩, ⟨0, none⟩, ⟨0, none⟩, ⟨0, none⟩, ⟨0, none⟩, ⟨0, none⟩, ⟨0, none⟩, ⟨0, none⟩, ⟨0, none⟩, ⟨0, none⟩, ⟨0, none⟩, ⟨0, none⟩, ⟨0, none⟩, ⟨0, none⟩, ⟨0, none⟩, ⟨0, none⟩, ⟨0, none⟩, ⟨0, none⟩, ⟨0, none⟩, ⟨0, none⟩, ⟨0, none⟩, ⟨0, none⟩, ⟨0, none⟩, ⟨0, none⟩, ⟨0, none⟩], List.replicate 25 0⟩
theorem f21_l0_eq (run : Run) (n : Nat) (k0 : Nat) (x2_1 : Int) (x7_1 : List AV) (x8_1 : Int) : f21_l0 run n (k0 + 1) x2_1 x7_1 x8_1 =
  bif ltI x8_1 (x7_1.length : Int) then
    bif inR x8_1 x7_1.length then
    bif eqI ((nth x7_1 (Int.toNat x8_1)).toInt) x2_1 then
    some ⟨[.int x8_1], [], f21_fresh⟩
  else
    f21_l0 run n k0 x2_1 x7_1 (IntKind.wrap .i64 (x8_1 + 1))
  else none
  else
    some ⟨[.int (-1)], [], f21_fresh⟩ := by kernel_rfl
noncomputable def f21 (run : Run) (n : Nat) (a0_1 : List AV) (a1_1 : Int) (a2_1 : Int) : Option Res := evalK G run n f21_info.keep 0 f21_info.body (retE G f21_info) (f21_info.start [.slice a0_1, .int a1_1, .int a2_1])
theorem f21_eq (run : Run) (n : Nat) (a0_1 : List AV) (a1_1 : Int) (a2_1 : Int) : f21 run n a0_1 a1_1 a2_1 =
  (run 37 [.slice a0_1, .int a1_1]).bind fun r1 =>
    bif r1.fresh then
    nilV r1.outs (consV r1.vals fun v1 vs1 =>
    nilV vs1 (f21_l0 run n n a2_1 v1.toSlice 0))
  else none := by kernel_rfl
theorem f21_run (ext : Run) (n : Nat) (a0_1 : List AV) (a1_1 : Int) (a2_1 : Int) : runE G ext (n + 1) 21 [.slice a0_1, .int a1_1, .int a2_1] = f21 (runE G ext n) n a0_1 a1_1 a2_1 := runE_succ f21_at f21_in

noncomputable def f6 (run : Run) (n : Nat) (a0_1 : List AV) (a1_1 : Int) (a2_1 : Int) : Option Res := evalK G run n f6_info.keep 0 f6_info.body (retE G f6_info) (f6_info.start [.slice a0_1, .int a1_1, .int a2_1])
theorem f6_eq (run : Run) (n : Nat) (a0_1 : List AV) (a1_1 : Int) (a2_1 : Int) : f6 run n a0_1 a1_1 a2_1 =
  bif ltI 200 (a0_1.length : Int) then
    (run 22 []).bind fun r1 =>
    nilV r1.outs (consV r1.vals fun v1 vs1 =>
    nilV vs1 (some ⟨[.bool v1.toBool], [], f6_fresh⟩))
  else
    (run 20 [.slice a0_1, .int a1_1, .int a2_1]).bind fun r2 =>
    nilV r2.outs (consV r2.vals fun v2 vs2 =>
    nilV vs2 ((run 21 [.slice a0_1, .int a1_1, .int a2_1]).bind fun r3 =>
    nilV r3.outs (consV r3.vals fun v3 vs3 =>
    nilV vs3 (bif eqI v2.toInt v3.toInt then
    (run 22 []).bind fun r4 =>
    nilV r4.outs (consV r4.vals fun v4 vs4 =>
    nilV vs4 (some ⟨[.bool v4.toBool], [], f6_fresh⟩))
  else
    some ⟨[.bool false], [], f6_fresh⟩)))) := by kernel_rfl
theorem f6_run (ext : Run) (n : Nat) (a0_1 : List AV) (a1_1 : Int) (a2_1 : Int) : runE G ext (n + 1) 6 [.slice a0_1, .int a1_1, .int a2_1] = f6 (runE G ext n) n a0_1 a1_1 a2_1 := runE_succ f6_at f6_in

theorem f9_ok : FnOk Try.prog 9 f9_info Try.f9 where
  at_ := Try.func9
  body := by kernel_rfl
  results := by kernel_rfl
  ntmps := by kernel_rfl
  params := Nat.le_of_ble_eq_true (by kernel_rfl)
  name := by kernel_rfl

theorem f13_ok : FnOk Try.prog 13 f13_info Try.f13 where
  at_ := Try.func13
  body := by kernel_rfl
  results := by kernel_rfl
  ntmps := by kernel_rfl
  params := Nat.le_of_ble_eq_true (by kernel_rfl)
  name := by kernel_rfl

theorem f11_ok : FnOk Try.prog 11 f11_info Try.f11 where
  at_ := Try.func11
  body := by kernel_rfl
  results := by kernel_rfl
  ntmps := by kernel_rfl
  params := Nat.le_of_ble_eq_true (by kernel_rfl)
  name := by kernel_rfl

theorem f14_ok : FnOk Try.prog 14 f14_info Try.f14 where
  at_ := Try.func14
  body := by kernel_rfl
  results := by kernel_rfl
  ntmps := by kernel_rfl
  params := Nat.le_of_ble_eq_true (by kernel_rfl)
  name := by kernel_rfl

theorem f15_ok : FnOk Try.prog 15 f15_info Try.f15 where
  at_ := Try.func15
  body := by kernel_rfl
  results := by kernel_rfl
  ntmps := by kernel_rfl
  params := Nat.le_of_ble_eq_true (by kernel_rfl)
  name := by kernel_rfl

theorem f10_ok : FnOk Try.prog 10 f10_info Try.f10 where
  at_ := Try.func10
  body := by kernel_rfl
  results := by kernel_rfl
  ntmps := by kernel_rfl
  params := Nat.le_of_ble_eq_true (by kernel_rfl)
  name := by kernel_rfl

theorem f12_ok : FnOk Try.prog 12 f12_info Try.f12 where
  at_ := Try.func12
  body := by kernel_rfl
  results := by kernel_rfl
  ntmps := by kernel_rfl
  params := Nat.le_of_ble_eq_true (by kernel_rfl)
  name := by kernel_rfl

theorem f3_ok : FnOk Try.prog 3 f3_info Try.f3 where
  at_ := Try.func3
  body := by kernel_rfl
  results := by kernel_rfl
  ntmps := by kernel_rfl
  params := Nat.le_of_ble_eq_true (by kernel_rfl)
  name := by kernel_rfl

theorem f4_ok : FnOk Try.prog 4 f4_info Try.f4 where
  at_ := Try.func4
  body := by kernel_rfl
  results := by kernel_rfl
  ntmps := by kernel_rfl
  params := Nat.le_of_ble_eq_true (by kernel_rfl)
  name := by kernel_rfl

theorem f34_ok : FnOk Try.prog 34 f34_info Try.f34 where
  at_ := Try.func34
  body := by kernel_rfl
  results := by kernel_rfl
  ntmps := by kernel_rfl
  params := Nat.le_of_ble_eq_true (by kernel_rfl)
  name := by kernel_rfl

theorem f46_ok : FnOk Try.prog 46 f46_info Try.f46 where
  at_ := Try.func46
  body := by kernel_rfl
  results := by kernel_rfl
  ntmps := by kernel_rfl
  params := Nat.le_of_ble_eq_true (by kernel_rfl)
  name := by kernel_rfl

theorem f47_ok : FnOk Try.prog 47 f47_info Try.f47 where
  at_ := Try.func47
  body := by kernel_rfl
  results := by kernel_rfl
  ntmps := by kernel_rfl
  params := Nat.le_of_ble_eq_true (by kernel_rfl)
  name := by kernel_rfl

theorem f35_ok : FnOk Try.prog 35 f35_info Try.f35 where
  at_ := Try.func35
  body := by kernel_rfl
  results := by kernel_rfl
  ntmps := by kernel_rfl
  params := Nat.le_of_ble_eq_true (by kernel_rfl)
  name := by kernel_rfl

theorem f19_ok : FnOk Try.prog 19 f19_info Try.f19 where
  at_ := Try.func19
  body := by kernel_rfl
  results := by kernel_rfl
  ntmps := by kernel_rfl
  params := Nat.le_of_ble_eq_true (by kernel_rfl)
  name := by kernel_rfl

theorem f16_ok : FnOk Try.prog 16 f16_info Try.f16 where
  at_ := Try.func16
  body := by kernel_rfl
  results := by kernel_rfl
  ntmps := by kernel_rfl
  params := Nat.le_of_ble_eq_true (by kernel_rfl)
  name := by kernel_rfl

theorem f17_ok : FnOk Try.prog 17 f17_info Try.f17 where
  at_ := Try.func17
  body := by kernel_rfl
  results := by kernel_rfl
  ntmps := by kernel_rfl
  params := Nat.le_of_ble_eq_true (by kernel_rfl)
  name := by kernel_rfl

theorem f32_ok : FnOk Try.prog 32 f32_info Try.f32 where
  at_ := Try.func32
  body := by kernel_rfl
  results := by kernel_rfl
  ntmps := by kernel_rfl
  params := Nat.le_of_ble_eq_true (by kernel_rfl)
  name := by kernel_rfl

theorem f33_ok : FnOk Try.prog 33 f33_info Try.f33 where
  at_ := Try.func33
  body := by kernel_rfl
  results := by kernel_rfl
  ntmps := by kernel_rfl
  params := Nat.le_of_ble_eq_true (by kernel_rfl)
  name := by kernel_rfl

theorem f18_ok : FnOk Try.prog 18 f18_info Try.f18 where
  at_ := Try.func18
  body := by kernel_rfl
  results := by kernel_rfl
  ntmps := by kernel_rfl
  params := Nat.le_of_ble_eq_true (by kernel_rfl)
  name := by kernel_rfl

theorem f5_ok : FnOk Try.prog 5 f5_info Try.f5 where
  at_ := Try.func5
  body := by kernel_rfl
  results := by kernel_rfl
  ntmps := by kernel_rfl
  params := Nat.le_of_ble_eq_true (by kernel_rfl)
  name := by kernel_rfl

theorem f48_ok : FnOk Try.prog 48 f48_info Try.f48 where
  at_ := Try.func48
  body := by kernel_rfl
  results := by kernel_rfl
  ntmps := by kernel_rfl
  params := Nat.le_of_ble_eq_true (by kernel_rfl)
  name := by kernel_rfl

theorem f36_ok : FnOk Try.prog 36 f36_info Try.f36 where
  at_ := Try.func36
  body := by kernel_rfl
  results := by kernel_rfl
  ntmps := by kernel_rfl
  params := Nat.le_of_ble_eq_true (by kernel_rfl)
  name := by kernel_rfl

theorem f50_ok : FnOk Try.prog 50 f50_info Try.f50 where
  at_ := Try.func50
  body := by kernel_rfl
  results := by kernel_rfl
  ntmps := by kernel_rfl
  params := Nat.le_of_ble_eq_true (by kernel_rfl)
  name := by kernel_rfl

theorem f38_ok : FnOk Try.prog 38 f38_info Try.f38 where
  at_ := Try.func38
  body := by kernel_rfl
  results := by kernel_rfl
  ntmps := by kernel_rfl
  params := Nat.le_of_ble_eq_true (by kernel_rfl)
  name := by kernel_rfl

theorem f25_ok : FnOk Try.prog 25 f25_info Try.f25 where
  at_ := Try.func25
  body := by kernel_rfl
  results := by kernel_rfl
  ntmps := by kernel_rfl
  params := Nat.le_of_ble_eq_true (by kernel_rfl)
  name := by kernel_rfl

theorem f20_ok : FnOk Try.prog 20 f20_info Try.f20 where
  at_ := Try.func20
  body := by kernel_rfl
  results := by kernel_rfl
  ntmps := by kernel_rfl
  params := Nat.le_of_ble_eq_true (by kernel_rfl)
  name := by kernel_rfl

theorem f22_ok : FnOk Try.prog 22 f22_info Try.f22 where
  at_ := Try.func22
  body := by kernel_rfl
  results := by kernel_rfl
  ntmps := by kernel_rfl
  params := Nat.le_of_ble_eq_true (by kernel_rfl)
  name := by kernel_rfl

theorem f49_ok : FnOk Try.prog 49 f49_info Try.f49 where
  at_ := Try.func49
  body := by kernel_rfl
  results := by kernel_rfl
  ntmps := by kernel_rfl
  params := Nat.le_of_ble_eq_true (by kernel_rfl)
  name := by kernel_rfl

theorem f37_ok : FnOk Try.prog 37 f37_info Try.f37 where
  at_ := Try.func37
  body := by kernel_rfl
  results := by kernel_rfl
  ntmps := by kernel_rfl
  params := Nat.le_of_ble_eq_true (by kernel_rfl)
  name := by kernel_rfl

theorem f21_ok : FnOk Try.prog 21 f21_info Try.f21 where
  at_ := Try.func21
  body := by kernel_rfl
  results := by kernel_rfl
  ntmps := by kernel_rfl
  params := Nat.le_of_ble_eq_true (by kernel_rfl)
  name := by kernel_rfl

theorem f6_ok : FnOk Try.prog 6 f6_info Try.f6 where
  at_ := Try.func6
  body := by kernel_rfl
  results := by kernel_rfl
  ntmps := by kernel_rfl
  params := Nat.le_of_ble_eq_true (by kernel_rfl)
  name := by kernel_rfl

theorem types_ok : TyAll Try.prog G := tyAll_of (by kernel_rfl) (by kernel_rfl) (by kernel_rfl)

theorem fns_ok : FnsAll Try.prog G.fns := ⟨⟨_, f9_ok⟩, ⟨⟨_, f13_ok⟩, ⟨⟨_, f11_ok⟩, ⟨⟨_, f14_ok⟩, ⟨⟨_, f15_ok⟩, ⟨⟨_, f10_ok⟩, ⟨⟨_, f12_ok⟩, ⟨⟨_, f3_ok⟩, ⟨⟨_, f4_ok⟩, ⟨⟨_, f34_ok⟩, ⟨⟨_, f46_ok⟩, ⟨⟨_, f47_ok⟩, ⟨⟨_, f35_ok⟩, ⟨⟨_, f19_ok⟩, ⟨⟨_, f16_ok⟩, ⟨⟨_, f17_ok⟩, ⟨⟨_, f32_ok⟩, ⟨⟨_, f33_ok⟩, ⟨⟨_, f18_ok⟩, ⟨⟨_, f5_ok⟩, ⟨⟨_, f48_ok⟩, ⟨⟨_, f36_ok⟩, ⟨⟨_, f50_ok⟩, ⟨⟨_, f38_ok⟩, ⟨⟨_, f25_ok⟩, ⟨⟨_, f20_ok⟩, ⟨⟨_, f22_ok⟩, ⟨⟨_, f49_ok⟩, ⟨⟨_, f37_ok⟩, ⟨⟨_, f21_ok⟩, ⟨⟨_, f6_ok⟩, trivial⟩⟩⟩⟩⟩⟩⟩⟩⟩⟩⟩⟩⟩⟩⟩⟩⟩⟩⟩⟩⟩⟩⟩⟩⟩⟩⟩⟩⟩⟩⟩

end Go.Proofs.Ytgfplmaehbhapab.Ev


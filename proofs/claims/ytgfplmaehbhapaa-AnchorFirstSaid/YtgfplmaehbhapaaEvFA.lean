/- What the evaluator does with the functions, as programs over plain values: printed by gen.py, checked by the kernel. -/
import Derived.Test.YtgfplmaehbhapaaEvZA
import Derived.Test.YtgfplmaehbhapaaProg
import Derived.KernelRfl
namespace Go.Proofs.Ytgfplmaehbhapaa.Ev
open Go Go.RowKit
set_option maxRecDepth 100000


noncomputable def bodyOf (f : Func) : Code := f.body.getD .skip

def sub : List Nat → Code → Code
  | [], c => c
  | i :: r, .seq x y => sub r (bif Nat.beq i 0 then x else y)
  | i :: r, .cond _ x y => sub r (bif Nat.beq i 0 then x else y)
  | _ :: r, .block _ c => sub r c
  | _ :: r, .loop c => sub r c
  | _, c => c

theorem runE_succ {G : Env} {ext : Run} {n : Nat} {f : FuncId} {i : FnInfo} {xs : List AV} (h : assoc G.fns f = some i) (hx : i.ext = false) : runE G ext (n + 1) f xs = evalK G (runE G ext n) n i.keep 0 i.body (retE G i) (i.start xs) := by
  simp only [runE, h, hx, cond_false]

/- milepost/inter.First -/
noncomputable def f10_body : Code := bodyOf Try.f10
def f10_fresh : Bool := true
def f10_keep : List (Nat × (List Nat × List Nat)) := []
noncomputable def f10_info : FnInfo := ⟨[.val (.blob 32)], [.val (.slice (.blob 32))], 5, [.tmp 2], f10_body, f10_keep, f10_fresh, false⟩

/- milepost/inter.Next -/
noncomputable def f12_body : Code := bodyOf Try.f12
def f12_fresh : Bool := false
def f12_t0 : List Nat := [0, 2, 4, 7, 8, 30, 31]
def f12_o0 : List Nat := [4, 8, 22]
def f12_t2 : List Nat := [4, 7, 8, 48, 49]
def f12_o2 : List Nat := [4, 8, 22]
def f12_keep : List (Nat × (List Nat × List Nat)) := [(0, (f12_t0, f12_o0)), (2, (f12_t2, f12_o2))]
noncomputable def f12_info : FnInfo := ⟨[.val (.slice (.blob 32)), .val (.blob 32), .val (.int .i64)], [.val (.slice (.blob 32))], 64, [.tmp 6], f12_body, f12_keep, f12_fresh, false⟩

/- milepost/milepostlaw20.awake -/
noncomputable def f9_body : Code := bodyOf Try.f9
def f9_fresh : Bool := false
def f9_keep : List (Nat × (List Nat × List Nat)) := []
noncomputable def f9_info : FnInfo := ⟨[], [.val .bool], 51, [.tmp 0], f9_body, f9_keep, f9_fresh, false⟩

/- milepost/milepostref17.Next -/
noncomputable def f13_body : Code := bodyOf Try.f13
def f13_fresh : Bool := true
def f13_t0 : List Nat := [0, 2, 4, 7, 8, 9]
def f13_o0 : List Nat := [4]
def f13_keep : List (Nat × (List Nat × List Nat)) := [(0, (f13_t0, f13_o0))]
noncomputable def f13_info : FnInfo := ⟨[.val (.slice (.blob 32)), .val (.blob 32), .val (.int .i64)], [.val (.slice (.blob 32))], 64, [.tmp 6], f13_body, f13_keep, f13_fresh, false⟩

/- milepost/milepostref11.Hashes -/
noncomputable def f11_body : Code := bodyOf Try.f11
def f11_fresh : Bool := false
def f11_t0 : List Nat := [0, 1, 5]
def f11_o0 : List Nat := []
def f11_keep : List (Nat × (List Nat × List Nat)) := [(0, (f11_t0, f11_o0))]
noncomputable def f11_info : FnInfo := ⟨[.val (.slice (.blob 32)), .val (.slice (.blob 32))], [.val .bool], 26, [.tmp 4], f11_body, f11_keep, f11_fresh, false⟩

/- milepost/milepostlaw20.InterNext -/
noncomputable def f3_body : Code := bodyOf Try.f3
def f3_fresh : Bool := false
def f3_keep : List (Nat × (List Nat × List Nat)) := []
noncomputable def f3_info : FnInfo := ⟨[.val (.slice (.blob 32)), .val (.blob 32), .val (.int .i64)], [.val .bool], 38, [.tmp 6], f3_body, f3_keep, f3_fresh, false⟩

/- milepost/milepostlaw30.Much -/
noncomputable def f14_body : Code := bodyOf Try.f14
def f14_fresh : Bool := false
def f14_t0 : List Nat := [0, 3, 4]
def f14_o0 : List Nat := []
def f14_keep : List (Nat × (List Nat × List Nat)) := [(0, (f14_t0, f14_o0))]
noncomputable def f14_info : FnInfo := ⟨[.val (.slice (.struct [(.struct [(.int .u32), (.blob 32), (.blob 32), (.int .u64)]), (.struct [(.int .i64), (.int .i64), (.slice (.blob 32))])]))], [.val .bool], 42, [.tmp 2], f14_body, f14_keep, f14_fresh, false⟩

/- milepost/open.Same -/
noncomputable def f26_body : Code := bodyOf Try.f26
def f26_fresh : Bool := false
def f26_t0 : List Nat := [2, 3, 29, 30]
def f26_o0 : List Nat := [2, 3]
def f26_keep : List (Nat × (List Nat × List Nat)) := [(0, (f26_t0, f26_o0))]
noncomputable def f26_info : FnInfo := ⟨[.val (.struct [(.int .i64), (.int .i64), (.slice (.blob 32))]), .val (.struct [(.int .i64), (.int .i64), (.slice (.blob 32))])], [.val .bool], 45, [.tmp 4], f26_body, f26_keep, f26_fresh, false⟩

/- milepost/open.None -/
noncomputable def f23_body : Code := bodyOf Try.f23
def f23_fresh : Bool := false
def f23_keep : List (Nat × (List Nat × List Nat)) := []
noncomputable def f23_info : FnInfo := ⟨[.val (.struct [(.int .i64), (.int .i64), (.slice (.blob 32))])], [.val .bool], 6, [.tmp 2], f23_body, f23_keep, f23_fresh, false⟩

/- milepost/anchor.Check -/
noncomputable def f15_body : Code := bodyOf Try.f15
def f15_fresh : Bool := false
def f15_keep : List (Nat × (List Nat × List Nat)) := []
noncomputable def f15_info : FnInfo := ⟨[.val (.struct [(.int .u32), (.blob 32), (.blob 32), (.int .u64)]), .val (.slice (.struct [(.struct [(.int .u32), (.blob 32), (.blob 32), (.int .u64)]), (.struct [(.int .i64), (.int .i64), (.slice (.blob 32))])]))], [.val (.int .i64)], 23, [.tmp 4], f15_body, f15_keep, f15_fresh, false⟩

/- milepost/milepostlaw33.awake -/
noncomputable def f17_body : Code := bodyOf Try.f17
def f17_fresh : Bool := false
def f17_keep : List (Nat × (List Nat × List Nat)) := []
noncomputable def f17_info : FnInfo := ⟨[], [.val .bool], 11, [.tmp 0], f17_body, f17_keep, f17_fresh, false⟩

/- milepost/milepostref33.Anchor -/
noncomputable def f16_body : Code := bodyOf Try.f16
def f16_fresh : Bool := false
def f16_keep : List (Nat × (List Nat × List Nat)) := []
noncomputable def f16_info : FnInfo := ⟨[.val (.struct [(.int .u32), (.blob 32), (.blob 32), (.int .u64)]), .val (.slice (.struct [(.struct [(.int .u32), (.blob 32), (.blob 32), (.int .u64)]), (.struct [(.int .i64), (.int .i64), (.slice (.blob 32))])]))], [.val (.int .i64)], 33, [.tmp 4], f16_body, f16_keep, f16_fresh, false⟩

/- milepost/milepostlaw33.AnchorChecks -/
noncomputable def f4_body : Code := bodyOf Try.f4
def f4_fresh : Bool := false
def f4_keep : List (Nat × (List Nat × List Nat)) := []
noncomputable def f4_info : FnInfo := ⟨[.val (.struct [(.int .u32), (.blob 32), (.blob 32), (.int .u64)]), .val (.slice (.struct [(.struct [(.int .u32), (.blob 32), (.blob 32), (.int .u64)]), (.struct [(.int .i64), (.int .i64), (.slice (.blob 32))])]))], [.val .bool], 19, [.tmp 4], f4_body, f4_keep, f4_fresh, false⟩

/- milepost/milepostlaw33.AnchorFirst -/
noncomputable def f5_body : Code := bodyOf Try.f5
def f5_fresh : Bool := false
def f5_keep : List (Nat × (List Nat × List Nat)) := []
noncomputable def f5_info : FnInfo := ⟨[.val (.struct [(.int .u32), (.blob 32), (.blob 32), (.int .u64)]), .val (.slice (.struct [(.struct [(.int .u32), (.blob 32), (.blob 32), (.int .u64)]), (.struct [(.int .i64), (.int .i64), (.slice (.blob 32))])]))], [.val .bool], 24, [.tmp 4], f5_body, f5_keep, f5_fresh, false⟩

/- milepost/inter.Entry -/
noncomputable def f18_body : Code := bodyOf Try.f18
def f18_fresh : Bool := false
def f18_keep : List (Nat × (List Nat × List Nat)) := []
noncomputable def f18_info : FnInfo := ⟨[.val (.slice (.blob 32)), .val (.int .i64)], [.val (.blob 32), .val .bool], 22, [.cell 4 24, .tmp 5], f18_body, f18_keep, f18_fresh, false⟩

/- milepost/milepostlaw20.InterEntries -/
noncomputable def f6_body : Code := bodyOf Try.f6
def f6_fresh : Bool := false
def f6_keep : List (Nat × (List Nat × List Nat)) := []
noncomputable def f6_info : FnInfo := ⟨[.val (.slice (.blob 32)), .val (.int .i64)], [.val .bool], 58, [.tmp 4], f6_body, f6_keep, f6_fresh, false⟩

/- milepost/milepostlaw20.InterKeeps -/
noncomputable def f7_body : Code := bodyOf Try.f7
def f7_fresh : Bool := false
def f7_t0 : List Nat := [1, 2, 3, 1000007, 8]
def f7_o0 : List Nat := [3]
def f7_t2 : List Nat := [1, 2, 3, 7, 8, 9, 10]
def f7_o2 : List Nat := [3]
def f7_keep : List (Nat × (List Nat × List Nat)) := [(0, (f7_t0, f7_o0)), (2, (f7_t2, f7_o2))]
noncomputable def f7_info : FnInfo := ⟨[.val (.blob 32), .val (.slice (.blob 32)), .val (.slice (.int .i64))], [.val .bool], 120, [.tmp 6], f7_body, f7_keep, f7_fresh, false⟩

/- milepost/near.Near -/
noncomputable def f24_body : Code := bodyOf Try.f24
def f24_fresh : Bool := false
def f24_t0 : List Nat := [0, 2, 7]
def f24_o0 : List Nat := []
def f24_keep : List (Nat × (List Nat × List Nat)) := [(0, (f24_t0, f24_o0))]
noncomputable def f24_info : FnInfo := ⟨[.val (.slice (.int .i64)), .val (.int .i64), .val (.int .i64)], [.val (.int .i64)], 24, [.tmp 6], f24_body, f24_keep, f24_fresh, false⟩

/- milepost/near.All -/
noncomputable def f20_body : Code := bodyOf Try.f20
def f20_fresh : Bool := true
def f20_t0 : List Nat := [0, 1, 5, 17]
def f20_o0 : List Nat := []
def f20_keep : List (Nat × (List Nat × List Nat)) := [(0, (f20_t0, f20_o0))]
noncomputable def f20_info : FnInfo := ⟨[.val (.slice (.int .i64)), .val (.int .i64)], [.val (.slice (.int .i64))], 34, [.tmp 4], f20_body, f20_keep, f20_fresh, false⟩

/- milepost/milepostref22.Same -/
noncomputable def f19_body : Code := bodyOf Try.f19
def f19_fresh : Bool := false
def f19_t0 : List Nat := [0, 1, 5]
def f19_o0 : List Nat := []
def f19_keep : List (Nat × (List Nat × List Nat)) := [(0, (f19_t0, f19_o0))]
noncomputable def f19_info : FnInfo := ⟨[.val (.slice (.int .i64)), .val (.slice (.int .i64))], [.val .bool], 26, [.tmp 4], f19_body, f19_keep, f19_fresh, false⟩

/- milepost/milepostlaw26.awake -/
noncomputable def f22_body : Code := bodyOf Try.f22
def f22_fresh : Bool := false
def f22_keep : List (Nat × (List Nat × List Nat)) := []
noncomputable def f22_info : FnInfo := ⟨[], [.val .bool], 5, [.tmp 0], f22_body, f22_keep, f22_fresh, false⟩

/- milepost/milepostref22.Near -/
noncomputable def f25_body : Code := bodyOf Try.f25
def f25_fresh : Bool := false
def f25_t0 : List Nat := [0, 1, 2, 7, 8]
def f25_o0 : List Nat := []
def f25_keep : List (Nat × (List Nat × List Nat)) := [(0, (f25_t0, f25_o0))]
noncomputable def f25_info : FnInfo := ⟨[.val (.slice (.int .i64)), .val (.int .i64), .val (.int .i64)], [.val (.int .i64)], 28, [.tmp 6], f25_body, f25_keep, f25_fresh, false⟩

/- milepost/milepostref22.All -/
noncomputable def f21_body : Code := bodyOf Try.f21
def f21_fresh : Bool := true
def f21_t0 : List Nat := [0, 1, 5, 6]
def f21_o0 : List Nat := []
def f21_keep : List (Nat × (List Nat × List Nat)) := [(0, (f21_t0, f21_o0))]
noncomputable def f21_info : FnInfo := ⟨[.val (.slice (.int .i64)), .val (.int .i64)], [.val (.slice (.int .i64))], 35, [.tmp 4], f21_body, f21_keep, f21_fresh, false⟩

/- milepost/milepostlaw26.NearAll -/
noncomputable def f8_body : Code := bodyOf Try.f8
def f8_fresh : Bool := false
def f8_keep : List (Nat × (List Nat × List Nat)) := []
noncomputable def f8_info : FnInfo := ⟨[.val (.slice (.int .i64)), .val (.int .i64)], [.val .bool], 20, [.tmp 4], f8_body, f8_keep, f8_fresh, false⟩

noncomputable def G : Env := {
  ty := [(3, (.int .i64)), (4, .bool), (22, (.slice (.blob 32))), (24, (.blob 32)), (33, (.struct [(.int .u32), (.blob 32), (.blob 32), (.int .u64)])), (34, (.slice (.struct [(.struct [(.int .u32), (.blob 32), (.blob 32), (.int .u64)]), (.struct [(.int .i64), (.int .i64), (.slice (.blob 32))])]))), (36, (.int .i64)), (42, (.slice (.int .i64))), (48, (.struct [(.int .i64), (.int .i64), (.slice (.blob 32))])), (50, (.struct [(.struct [(.int .u32), (.blob 32), (.blob 32), (.int .u64)]), (.struct [(.int .i64), (.int .i64), (.slice (.blob 32))])]))]
  bytes := [(22, 32), (42, 8)]
  fns := [(10, f10_info), (12, f12_info), (9, f9_info), (13, f13_info), (11, f11_info), (3, f3_info), (14, f14_info), (26, f26_info), (23, f23_info), (15, f15_info), (17, f17_info), (16, f16_info), (4, f4_info), (5, f5_info), (18, f18_info), (6, f6_info), (7, f7_info), (24, f24_info), (20, f20_info), (19, f19_info), (22, f22_info), (25, f25_info), (21, f21_info), (8, f8_info)] }

theorem f10_at : assoc G.fns 10 = some f10_info := by kernel_rfl
theorem f10_in : f10_info.ext = false := rfl

theorem f12_at : assoc G.fns 12 = some f12_info := by kernel_rfl
theorem f12_in : f12_info.ext = false := rfl

theorem f9_at : assoc G.fns 9 = some f9_info := by kernel_rfl
theorem f9_in : f9_info.ext = false := rfl

theorem f13_at : assoc G.fns 13 = some f13_info := by kernel_rfl
theorem f13_in : f13_info.ext = false := rfl

theorem f11_at : assoc G.fns 11 = some f11_info := by kernel_rfl
theorem f11_in : f11_info.ext = false := rfl

theorem f3_at : assoc G.fns 3 = some f3_info := by kernel_rfl
theorem f3_in : f3_info.ext = false := rfl

theorem f14_at : assoc G.fns 14 = some f14_info := by kernel_rfl
theorem f14_in : f14_info.ext = false := rfl

theorem f26_at : assoc G.fns 26 = some f26_info := by kernel_rfl
theorem f26_in : f26_info.ext = false := rfl

theorem f23_at : assoc G.fns 23 = some f23_info := by kernel_rfl
theorem f23_in : f23_info.ext = false := rfl

theorem f15_at : assoc G.fns 15 = some f15_info := by kernel_rfl
theorem f15_in : f15_info.ext = false := rfl

theorem f17_at : assoc G.fns 17 = some f17_info := by kernel_rfl
theorem f17_in : f17_info.ext = false := rfl

theorem f16_at : assoc G.fns 16 = some f16_info := by kernel_rfl
theorem f16_in : f16_info.ext = false := rfl

theorem f4_at : assoc G.fns 4 = some f4_info := by kernel_rfl
theorem f4_in : f4_info.ext = false := rfl

theorem f5_at : assoc G.fns 5 = some f5_info := by kernel_rfl
theorem f5_in : f5_info.ext = false := rfl

theorem f18_at : assoc G.fns 18 = some f18_info := by kernel_rfl
theorem f18_in : f18_info.ext = false := rfl

theorem f6_at : assoc G.fns 6 = some f6_info := by kernel_rfl
theorem f6_in : f6_info.ext = false := rfl

theorem f7_at : assoc G.fns 7 = some f7_info := by kernel_rfl
theorem f7_in : f7_info.ext = false := rfl

theorem f24_at : assoc G.fns 24 = some f24_info := by kernel_rfl
theorem f24_in : f24_info.ext = false := rfl

theorem f20_at : assoc G.fns 20 = some f20_info := by kernel_rfl
theorem f20_in : f20_info.ext = false := rfl

theorem f19_at : assoc G.fns 19 = some f19_info := by kernel_rfl
theorem f19_in : f19_info.ext = false := rfl

theorem f22_at : assoc G.fns 22 = some f22_info := by kernel_rfl
theorem f22_in : f22_info.ext = false := rfl

theorem f25_at : assoc G.fns 25 = some f25_info := by kernel_rfl
theorem f25_in : f25_info.ext = false := rfl

theorem f21_at : assoc G.fns 21 = some f21_info := by kernel_rfl
theorem f21_in : f21_info.ext = false := rfl

theorem f8_at : assoc G.fns 8 = some f8_info := by kernel_rfl
theorem f8_in : f8_info.ext = false := rfl

noncomputable def f10 (run : Run) (n : Nat) (a0_1 : List UInt8) : Option Res := evalK G run n f10_info.keep 0 f10_info.body (retE G f10_info) (f10_info.start [.blob a0_1])
theorem f10_eq (run : Run) (n : Nat) (a0_1 : List UInt8) : f10 run n a0_1 =
  some ⟨[.slice [.blob a0_1]], [], f10_fresh⟩ := by kernel_rfl
theorem f10_run (ext : Run) (n : Nat) (a0_1 : List UInt8) : runE G ext (n + 1) 10 [.blob a0_1] = f10 (runE G ext n) n a0_1 := runE_succ f10_at f10_in

noncomputable def f12_l2 (run : Run) (n : Nat) (_k0 : Nat) (k2 : Nat) (m3 : Nat) (x48_1 : Int) (x49_1 : Int) (o4_3 : List UInt8) (o8_3 : List UInt8) (o22_3 : List AV) : Option Res :=
  iterK (evalK G run n f12_keep 2 (sub [1, 1, 1, 1, 1, 1, 1, 0, 1, 0, 0] f12_body)) f12_t2 f12_o2 (blockK 2 (seqK (evalK G run n f12_keep 0 (sub [1, 1, 1, 1, 1, 1, 1, 1] f12_body) (retE G f12_info)) (retE G f12_info))) k2
    ⟨[.any, .any, .any, .any, .ptr ⟨(.blob 32), 4, 1, []⟩, .any, .any, .ref ⟨(.arr m3 (.blob 32)), 22, 1, []⟩ 0 m3, .ptr ⟨(.blob 32), 8, 1, []⟩, .any, .any, .any, .any, .any, .any, .any, .any, .any, .any, .any, .any, .any, .any, .any, .any, .any, .any, .any, .any, .any, .any, .any, .any, .any, .any, .any, .any, .any, .any, .any, .any, .any, .any, .any, .any, .any, .any, .any, .val (.int .i64) none (.int x48_1), .val (.int .i64) none (.int x49_1), .any, .any, .any, .any, .any, .any, .any, .any, .any, .any, .any, .any, .any, .any], [⟨0, none⟩, ⟨0, none⟩, ⟨0, none⟩, ⟨0, none⟩, ⟨1, some ⟨(.blob 32), .blob o4_3⟩⟩, ⟨0, none⟩, ⟨0, none⟩, ⟨0, none⟩, ⟨1, some ⟨(.blob 32), .blob o8_3⟩⟩, ⟨0, none⟩, ⟨0, none⟩, ⟨0, none⟩, ⟨0, none⟩, ⟨0, none⟩, ⟨0, none⟩, ⟨0, none⟩, ⟨0, none⟩, ⟨0, none⟩, ⟨0, none⟩, ⟨0, none⟩, ⟨0, none⟩, ⟨0, none⟩, ⟨1, some ⟨(.arr m3 (.blob 32)), .agg o22_3⟩⟩, ⟨0, none⟩, ⟨0, none⟩, ⟨0, none⟩, ⟨0, none⟩, ⟨0, none⟩, ⟨0, none⟩, ⟨0, none⟩, ⟨0, none⟩, ⟨0, none⟩, ⟨0, none⟩, ⟨0, none⟩, ⟨0, none⟩, ⟨0, none⟩, ⟨0, none⟩, ⟨0, none⟩, ⟨0, none⟩, ⟨0, none⟩, ⟨0, none⟩, ⟨0, none⟩, ⟨0, none⟩, ⟨0, none⟩, ⟨0, none⟩, ⟨0, none⟩, ⟨0, none⟩, ⟨0, none⟩, ⟨0, none⟩, ⟨0, none⟩, ⟨0, none⟩, ⟨0, none⟩, ⟨0, none⟩, ⟨0, none⟩, ⟨0, none⟩, ⟨0, none⟩, ⟨0, none⟩, ⟨0, none⟩, ⟨0, none⟩, ⟨0, none⟩, ⟨0, none⟩, ⟨0, none⟩, ⟨0, none⟩, ⟨0, none⟩], List.replicate 64 0⟩
noncomputable def f12_l0 (run : Run) (n : Nat) (k0 : Nat) (x0_1 : List AV) (x2_1 : Int) (m1 : Nat) (x30_1 : Int) (x31_1 : Int) (o4_1 : List UInt8) (o8_1 : List UInt8) (o22_1 : List AV) : Option Res :=
  iterK (evalK G run n f12_keep 0 (sub [1, 1, 1, 1, 1, 0, 1, 0, 0] f12_body)) f12_t0 f12_o0 (blockK 0 (seqK (evalK G run n f12_keep 0 (sub [1, 1, 1, 1, 1, 1] f12_body) (retE G f12_info)) (retE G f12_info))) k0
    ⟨[.val (.slice (.blob 32)) none (.slice x0_1), .any, .val (.int .i64) none (.int x2_1), .any, .ptr ⟨(.blob 32), 4, 1, []⟩, .any, .any, .ref ⟨(.arr m1 (.blob 32)), 22, 1, []⟩ 0 m1, .ptr ⟨(.blob 32), 8, 1, []⟩, .any, .any, .any, .any, .any, .any, .any, .any, .any, .any, .any, .any, .any, .any, .any, .any, .any, .any, .any, .any, .any, .val (.int .i64) none (.int x30_1), .val (.int .i64) none (.int x31_1), .any, .any, .any, .any, .any, .any, .any, .any, .any, .any, .any, .any, .any, .any, .any, .any, .any, .any, .any, .any, .any, .any, .any, .any, .any, .any, .any, .any, .any, .any, .any, .any], [⟨0, none⟩, ⟨0, none⟩, ⟨0, none⟩, ⟨0, none⟩, ⟨1, some ⟨(.blob 32), .blob o4_1⟩⟩, ⟨0, none⟩, ⟨0, none⟩, ⟨0, none⟩, ⟨1, some ⟨(.blob 32), .blob o8_1⟩⟩, ⟨0, none⟩, ⟨0, none⟩, ⟨0, none⟩, ⟨0, none⟩, ⟨0, none⟩, ⟨0, none⟩, ⟨0, none⟩, ⟨0, none⟩, ⟨0, none⟩, ⟨0, none⟩, ⟨0, none⟩, ⟨0, none⟩, ⟨0, none⟩, ⟨1, some ⟨(.arr m1 (.blob 32)), .agg o22_1⟩⟩, ⟨0, none⟩, ⟨0, none⟩, ⟨0, none⟩, ⟨0, none⟩, ⟨0, none⟩, ⟨0, none⟩, ⟨0, none⟩, ⟨0, none⟩, ⟨0, none⟩, ⟨0, none⟩, ⟨0, none⟩, ⟨0, none⟩, ⟨0, none⟩, ⟨0, none⟩, ⟨0, none⟩, ⟨0, none⟩, ⟨0, none⟩, ⟨0, none⟩, ⟨0, none⟩, ⟨0, none⟩, ⟨0, none⟩, ⟨0, none⟩, ⟨0, none⟩, ⟨0, none⟩, ⟨0, none⟩, ⟨0, none⟩, ⟨0, none⟩, ⟨0, none⟩, ⟨0, none⟩, ⟨0, none⟩, ⟨0, none⟩, ⟨0, none⟩, ⟨0, none⟩, ⟨0, none⟩, ⟨0, none⟩, ⟨0, none⟩, ⟨0, none⟩, ⟨0, none⟩, ⟨0, none⟩, ⟨0, none⟩, ⟨0, none⟩], List.replicate 64 0⟩
theorem f12_l2_eq (run : Run) (n : Nat) (k0 : Nat) (k2 : Nat) (m3 : Nat) (x48_1 : Int) (x49_1 : Int) (o4_3 : List UInt8) (o8_3 : List UInt8) (o22_3 : List AV) : f12_l2 run n k0 (k2 + 1) m3 x48_1 x49_1 o4_3 o8_3 o22_3 =
  bif ltI x49_1 x48_1 then
    bif inR x49_1 m3 then
    f12_l2 run n k0 k2 m3 x48_1 (IntKind.wrap .i64 (x49_1 + 1)) o4_3 o8_3 (o22_3.set (0 + (Int.toNat x49_1)) (.blob o4_3))
  else none
  else
    bif inR (IntKind.wrap .i64 ((m3 : Int) - 1)) m3 then
    some ⟨[.slice (List.drop 0 (List.take m3 (o22_3.set (0 + (Int.toNat (IntKind.wrap .i64 ((m3 : Int) - 1)))) (.blob o8_3))))], [], f12_fresh⟩
  else none := by kernel_rfl
theorem f12_l0_eq (run : Run) (n : Nat) (k0 : Nat) (x0_1 : List AV) (x2_1 : Int) (m1 : Nat) (x30_1 : Int) (x31_1 : Int) (o4_1 : List UInt8) (o8_1 : List UInt8) (o22_1 : List AV) : f12_l0 run n (k0 + 1) x0_1 x2_1 m1 x30_1 x31_1 o4_1 o8_1 o22_1 =
  bif ltI x31_1 x30_1 then
    bif inR x31_1 m1 then
    f12_l0 run n k0 x0_1 x2_1 m1 x30_1 (IntKind.wrap .i64 (x31_1 + 1)) o4_1 o8_1 (o22_1.set (0 + (Int.toNat x31_1)) (.blob o8_1))
  else none
  else
    bif boundsOk 0 (x0_1.length : Int) (x0_1.length : Int) (x0_1.length : Int) && true then
    f12_l2 run n k0 n m1 (IntKind.wrap .i64 (x2_1 + 1)) 0 o4_1 o8_1 (splice o22_1 0 (List.take m1 (List.drop 0 (List.take (Int.toNat (x0_1.length : Int)) x0_1))))
  else none := by kernel_rfl
noncomputable def f12 (run : Run) (n : Nat) (a0_1 : List AV) (a1_1 : List UInt8) (a2_1 : Int) : Option Res := evalK G run n f12_info.keep 0 f12_info.body (retE G f12_info) (f12_info.start [.slice a0_1, .blob a1_1, .int a2_1])
theorem f12_eq (run : Run) (n : Nat) (a0_1 : List AV) (a1_1 : List UInt8) (a2_1 : Int) : f12 run n a0_1 a1_1 a2_1 =
  bif eqI (a0_1.length : Int) 0 then
    some ⟨[.slice []], [], f12_fresh⟩
  else
    bif eqI (mx2 (a0_1.length : Int) (IntKind.wrap .i64 (mn2 (mx2 a2_1 0) 255 + 2))) (mx2 (a0_1.length : Int) (IntKind.wrap .i64 (mn2 (mx2 a2_1 0) 255 + 2))) && leI 0 (mx2 (a0_1.length : Int) (IntKind.wrap .i64 (mn2 (mx2 a2_1 0) 255 + 2))) && Nat.ble (Int.toNat (mx2 (a0_1.length : Int) (IntKind.wrap .i64 (mn2 (mx2 a2_1 0) 255 + 2))) * 32) 140737488355328 then
    bif inR (IntKind.wrap .i64 ((a0_1.length : Int) - 1)) a0_1.length then
    f12_l0 run n n a0_1 (mn2 (mx2 a2_1 0) 255) (Int.toNat (mx2 (a0_1.length : Int) (IntKind.wrap .i64 (mn2 (mx2 a2_1 0) 255 + 2)))) (Int.toNat (mx2 (a0_1.length : Int) (IntKind.wrap .i64 (mn2 (mx2 a2_1 0) 255 + 2))) : Int) 0 a1_1 ((nth a0_1 (Int.toNat (IntKind.wrap .i64 ((a0_1.length : Int) - 1)))).toBlob) (List.replicate (Int.toNat (mx2 (a0_1.length : Int) (IntKind.wrap .i64 (mn2 (mx2 a2_1 0) 255 + 2)))) (.blob (List.replicate 32 0)))
  else none
  else none := by kernel_rfl
theorem f12_run (ext : Run) (n : Nat) (a0_1 : List AV) (a1_1 : List UInt8) (a2_1 : Int) : runE G ext (n + 1) 12 [.slice a0_1, .blob a1_1, .int a2_1] = f12 (runE G ext n) n a0_1 a1_1 a2_1 := runE_succ f12_at f12_in

noncomputable def f9 (run : Run) (n : Nat) : Option Res := evalK G run n f9_info.keep 0 f9_info.body (retE G f9_info) (f9_info.start [])
theorem f9_eq (run : Run) (n : Nat) : f9 run n  =
  (run 10 [.blob [1, 0, 0, 0, 0, 0, 0, 0, 0, 0, 0, 0, 0, 0, 0, 0, 0, 0, 0, 0, 0, 0, 0, 0, 0, 0, 0, 0, 0, 0, 0, 0]]).bind fun r1 =>
    bif r1.fresh then
    nilV r1.outs (consV r1.vals fun v1 vs1 =>
    nilV vs1 ((run 12 [.slice v1.toSlice, .blob [2, 0, 0, 0, 0, 0, 0, 0, 0, 0, 0, 0, 0, 0, 0, 0, 0, 0, 0, 0, 0, 0, 0, 0, 0, 0, 0, 0, 0, 0, 0, 0], .int 0]).bind fun r2 =>
    nilV r2.outs (consV r2.vals fun v2 vs2 =>
    nilV vs2 ((run 10 [.blob [1, 0, 0, 0, 0, 0, 0, 0, 0, 0, 0, 0, 0, 0, 0, 0, 0, 0, 0, 0, 0, 0, 0, 0, 0, 0, 0, 0, 0, 0, 0, 0]]).bind fun r3 =>
    bif r3.fresh then
    nilV r3.outs (consV r3.vals fun v3 vs3 =>
    nilV vs3 ((run 12 [.slice v3.toSlice, .blob [2, 0, 0, 0, 0, 0, 0, 0, 0, 0, 0, 0, 0, 0, 0, 0, 0, 0, 0, 0, 0, 0, 0, 0, 0, 0, 0, 0, 0, 0, 0, 0], .int 2]).bind fun r4 =>
    nilV r4.outs (consV r4.vals fun v4 vs4 =>
    nilV vs4 (bif eqI (v2.toSlice.length : Int) 2 then
    bif inR 0 v2.toSlice.length then
    bif eqS ((nth v2.toSlice 0).toBlob) [2, 0, 0, 0, 0, 0, 0, 0, 0, 0, 0, 0, 0, 0, 0, 0, 0, 0, 0, 0, 0, 0, 0, 0, 0, 0, 0, 0, 0, 0, 0, 0] then
    bif inR 1 v2.toSlice.length then
    bif eqS ((nth v2.toSlice 1).toBlob) [1, 0, 0, 0, 0, 0, 0, 0, 0, 0, 0, 0, 0, 0, 0, 0, 0, 0, 0, 0, 0, 0, 0, 0, 0, 0, 0, 0, 0, 0, 0, 0] then
    bif eqI (v4.toSlice.length : Int) 4 then
    bif inR 2 v4.toSlice.length then
    bif eqS ((nth v4.toSlice 2).toBlob) [2, 0, 0, 0, 0, 0, 0, 0, 0, 0, 0, 0, 0, 0, 0, 0, 0, 0, 0, 0, 0, 0, 0, 0, 0, 0, 0, 0, 0, 0, 0, 0] then
    bif inR 3 v4.toSlice.length then
    some ⟨[.bool (eqS ((nth v4.toSlice 3).toBlob) [1, 0, 0, 0, 0, 0, 0, 0, 0, 0, 0, 0, 0, 0, 0, 0, 0, 0, 0, 0, 0, 0, 0, 0, 0, 0, 0, 0, 0, 0, 0, 0])], [], f9_fresh⟩
  else none
  else
    some ⟨[.bool false], [], f9_fresh⟩
  else none
  else
    some ⟨[.bool false], [], f9_fresh⟩
  else
    some ⟨[.bool false], [], f9_fresh⟩
  else none
  else
    some ⟨[.bool false], [], f9_fresh⟩
  else none
  else
    some ⟨[.bool false], [], f9_fresh⟩))))
  else none))))
  else none := by kernel_rfl
theorem f9_run (ext : Run) (n : Nat) : runE G ext (n + 1) 9 [] = f9 (runE G ext n) n  := runE_succ f9_at f9_in

noncomputable def f13_l0 (run : Run) (n : Nat) (k0 : Nat) (x0_1 : List AV) (x2_1 : Int) (x7_1 : Int) (x8_1 : List AV) (x9_1 : Int) (o4_1 : List UInt8) : Option Res :=
  iterK (evalK G run n f13_keep 0 (sub [1, 1, 1, 1, 1, 1, 1, 0, 1, 0, 0] f13_body)) f13_t0 f13_o0 (blockK 0 (seqK (evalK G run n f13_keep 0 (sub [1, 1, 1, 1, 1, 1, 1, 1] f13_body) (retE G f13_info)) (retE G f13_info))) k0
    ⟨[.val (.slice (.blob 32)) none (.slice x0_1), .any, .val (.int .i64) none (.int x2_1), .any, .ptr ⟨(.blob 32), 4, 1, []⟩, .any, .any, .val (.int .i64) none (.int x7_1), .val (.slice (.blob 32)) (some (8, 0)) (.slice x8_1), .val (.int .i64) none (.int x9_1), .any, .any, .any, .any, .any, .any, .any, .any, .any, .any, .any, .any, .any, .any, .any, .any, .any, .any, .any, .any, .any, .any, .any, .any, .any, .any, .any, .any, .any, .any, .any, .any, .any, .any, .any, .any, .any, .any, .any, .any, .any, .any, .any, .any, .any, .any, .any, .any, .any, .any, .any, .any, .any, .any], [⟨0, none⟩, ⟨0, none⟩, ⟨0, none⟩, ⟨0, none⟩, ⟨1, some ⟨(.blob 32), .blob o4_1⟩⟩, ⟨0, none⟩, ⟨0, none⟩, ⟨0, none⟩, ⟨0, none⟩, ⟨0, none⟩, ⟨0, none⟩, ⟨0, none⟩, ⟨0, none⟩, ⟨0, none⟩, ⟨0, none⟩, ⟨0, none⟩, ⟨0, none⟩, ⟨0, none⟩, ⟨0, none⟩, ⟨0, none⟩, ⟨0, none⟩, ⟨0, none⟩, ⟨0, none⟩, ⟨0, none⟩, ⟨0, none⟩, ⟨0, none⟩, ⟨0, none⟩, ⟨0, none⟩, ⟨0, none⟩, ⟨0, none⟩, ⟨0, none⟩, ⟨0, none⟩, ⟨0, none⟩, ⟨0, none⟩, ⟨0, none⟩, ⟨0, none⟩, ⟨0, none⟩, ⟨0, none⟩, ⟨0, none⟩, ⟨0, none⟩, ⟨0, none⟩, ⟨0, none⟩, ⟨0, none⟩, ⟨0, none⟩, ⟨0, none⟩, ⟨0, none⟩, ⟨0, none⟩, ⟨0, none⟩, ⟨0, none⟩, ⟨0, none⟩, ⟨0, none⟩, ⟨0, none⟩, ⟨0, none⟩, ⟨0, none⟩, ⟨0, none⟩, ⟨0, none⟩, ⟨0, none⟩, ⟨0, none⟩, ⟨0, none⟩, ⟨0, none⟩, ⟨0, none⟩, ⟨0, none⟩, ⟨0, none⟩, ⟨0, none⟩], List.replicate 64 0⟩
theorem f13_l0_eq (run : Run) (n : Nat) (k0 : Nat) (x0_1 : List AV) (x2_1 : Int) (x7_1 : Int) (x8_1 : List AV) (x9_1 : Int) (o4_1 : List UInt8) : f13_l0 run n (k0 + 1) x0_1 x2_1 x7_1 x8_1 x9_1 o4_1 =
  bif ltI x9_1 x7_1 then
    bif leI x9_1 x2_1 then
    bif ltI x9_1 (IntKind.wrap .i64 (x7_1 - 1)) then
    bif Nat.ble ((x8_1.length + 1) * 32) 140737488355328 then
    f13_l0 run n k0 x0_1 x2_1 x7_1 (x8_1 ++ [.blob o4_1]) (IntKind.wrap .i64 (x9_1 + 1)) o4_1
  else none
  else
    bif ltI x9_1 (x0_1.length : Int) then
    bif inR x9_1 x0_1.length then
    bif Nat.ble ((x8_1.length + 1) * 32) 140737488355328 then
    f13_l0 run n k0 x0_1 x2_1 x7_1 (x8_1 ++ [.blob ((nth x0_1 (Int.toNat x9_1)).toBlob)]) (IntKind.wrap .i64 (x9_1 + 1)) o4_1
  else none
  else none
  else
    bif inR (IntKind.wrap .i64 ((x0_1.length : Int) - 1)) x0_1.length then
    bif Nat.ble ((x8_1.length + 1) * 32) 140737488355328 then
    f13_l0 run n k0 x0_1 x2_1 x7_1 (x8_1 ++ [.blob ((nth x0_1 (Int.toNat (IntKind.wrap .i64 ((x0_1.length : Int) - 1)))).toBlob)]) (IntKind.wrap .i64 (x9_1 + 1)) o4_1
  else none
  else none
  else
    bif ltI x9_1 (x0_1.length : Int) then
    bif inR x9_1 x0_1.length then
    bif Nat.ble ((x8_1.length + 1) * 32) 140737488355328 then
    f13_l0 run n k0 x0_1 x2_1 x7_1 (x8_1 ++ [.blob ((nth x0_1 (Int.toNat x9_1)).toBlob)]) (IntKind.wrap .i64 (x9_1 + 1)) o4_1
  else none
  else none
  else
    bif inR (IntKind.wrap .i64 ((x0_1.length : Int) - 1)) x0_1.length then
    bif Nat.ble ((x8_1.length + 1) * 32) 140737488355328 then
    f13_l0 run n k0 x0_1 x2_1 x7_1 (x8_1 ++ [.blob ((nth x0_1 (Int.toNat (IntKind.wrap .i64 ((x0_1.length : Int) - 1)))).toBlob)]) (IntKind.wrap .i64 (x9_1 + 1)) o4_1
  else none
  else none
  else
    some ⟨[.slice x8_1], [], f13_fresh⟩ := by kernel_rfl
noncomputable def f13 (run : Run) (n : Nat) (a0_1 : List AV) (a1_1 : List UInt8) (a2_1 : Int) : Option Res := evalK G run n f13_info.keep 0 f13_info.body (retE G f13_info) (f13_info.start [.slice a0_1, .blob a1_1, .int a2_1])
theorem f13_eq (run : Run) (n : Nat) (a0_1 : List AV) (a1_1 : List UInt8) (a2_1 : Int) : f13 run n a0_1 a1_1 a2_1 =
  bif eqI (a0_1.length : Int) 0 then
    some ⟨[.slice []], [], f13_fresh⟩
  else
    bif ltI a2_1 0 then
    bif ltI 2 (a0_1.length : Int) then
    f13_l0 run n n a0_1 0 (a0_1.length : Int) [] 0 a1_1
  else
    f13_l0 run n n a0_1 0 2 [] 0 a1_1
  else
    bif ltI 255 a2_1 then
    bif ltI 257 (a0_1.length : Int) then
    f13_l0 run n n a0_1 255 (a0_1.length : Int) [] 0 a1_1
  else
    f13_l0 run n n a0_1 255 257 [] 0 a1_1
  else
    bif ltI (IntKind.wrap .i64 (a2_1 + 2)) (a0_1.length : Int) then
    f13_l0 run n n a0_1 a2_1 (a0_1.length : Int) [] 0 a1_1
  else
    f13_l0 run n n a0_1 a2_1 (IntKind.wrap .i64 (a2_1 + 2)) [] 0 a1_1 := by kernel_rfl
theorem f13_run (ext : Run) (n : Nat) (a0_1 : List AV) (a1_1 : List UInt8) (a2_1 : Int) : runE G ext (n + 1) 13 [.slice a0_1, .blob a1_1, .int a2_1] = f13 (runE G ext n) n a0_1 a1_1 a2_1 := runE_succ f13_at f13_in

noncomputable def f11_l0 (run : Run) (n : Nat) (k0 : Nat) (x0_1 : List AV) (x1_1 : List AV) (x5_1 : Int) : Option Res :=
  iterK (evalK G run n f11_keep 0 (sub [1, 1, 0, 1, 0, 0] f11_body)) f11_t0 f11_o0 (blockK 0 (seqK (evalK G run n f11_keep 0 (sub [1, 1, 1] f11_body) (retE G f11_info)) (retE G f11_info))) k0
    ⟨[.val (.slice (.blob 32)) none (.slice x0_1), .val (.slice (.blob 32)) none (.slice x1_1), .any, .any, .any, .val (.int .i64) none (.int x5_1), .any, .any, .any, .any, .any, .any, .any, .any, .any, .any, .any, .any, .any, .any, .any, .any, .any, .any, .any, .any], [⟨0, none⟩, ⟨0, none⟩, ⟨0, none⟩, ⟨0, none⟩, ⟨0, none⟩, ⟨0, none⟩, ⟨0, none⟩, ⟨0, none⟩, ⟨0, none⟩, ⟨0, none⟩, ⟨0, none⟩, ⟨0, none⟩, ⟨0, none⟩, ⟨0, none⟩, ⟨0, none⟩, ⟨0, none⟩, ⟨0, none⟩, ⟨0, none⟩, ⟨0, none⟩, ⟨0, none⟩, ⟨0, none⟩, ⟨0, none⟩, ⟨0, none⟩, ⟨0, none⟩, ⟨0, none⟩, ⟨0, none⟩], List.replicate 26 0⟩
theorem f11_l0_eq (run : Run) (n : Nat) (k0 : Nat) (x0_1 : List AV) (x1_1 : List AV) (x5_1 : Int) : f11_l0 run n (k0 + 1) x0_1 x1_1 x5_1 =
  bif ltI x5_1 (x0_1.length : Int) then
    bif inR x5_1 x0_1.length then
    bif inR x5_1 x1_1.length then
    bif !(eqS ((nth x0_1 (Int.toNat x5_1)).toBlob) ((nth x1_1 (Int.toNat x5_1)).toBlob)) then
    some ⟨[.bool false], [], f11_fresh⟩
  else
    f11_l0 run n k0 x0_1 x1_1 (IntKind.wrap .i64 (x5_1 + 1))
  else none
  else none
  else
    some ⟨[.bool true], [], f11_fresh⟩ := by kernel_rfl
noncomputable def f11 (run : Run) (n : Nat) (a0_1 : List AV) (a1_1 : List AV) : Option Res := evalK G run n f11_info.keep 0 f11_info.body (retE G f11_info) (f11_info.start [.slice a0_1, .slice a1_1])
theorem f11_eq (run : Run) (n : Nat) (a0_1 : List AV) (a1_1 : List AV) : f11 run n a0_1 a1_1 =
  bif !(eqI (a0_1.length : Int) (a1_1.length : Int)) then
    some ⟨[.bool false], [], f11_fresh⟩
  else
    f11_l0 run n n a0_1 a1_1 0 := by kernel_rfl
theorem f11_run (ext : Run) (n : Nat) (a0_1 : List AV) (a1_1 : List AV) : runE G ext (n + 1) 11 [.slice a0_1, .slice a1_1] = f11 (runE G ext n) n a0_1 a1_1 := runE_succ f11_at f11_in

noncomputable def f3 (run : Run) (n : Nat) (a0_1 : List AV) (a1_1 : List UInt8) (a2_1 : Int) : Option Res := evalK G run n f3_info.keep 0 f3_info.body (retE G f3_info) (f3_info.start [.slice a0_1, .blob a1_1, .int a2_1])
theorem f3_eq (run : Run) (n : Nat) (a0_1 : List AV) (a1_1 : List UInt8) (a2_1 : Int) : f3 run n a0_1 a1_1 a2_1 =
  bif ltI 300 (a0_1.length : Int) then
    (run 9 []).bind fun r1 =>
    nilV r1.outs (consV r1.vals fun v1 vs1 =>
    nilV vs1 (some ⟨[.bool v1.toBool], [], f3_fresh⟩))
  else
    (run 10 [.blob a1_1]).bind fun r2 =>
    bif r2.fresh then
    nilV r2.outs (consV r2.vals fun v2 vs2 =>
    nilV vs2 ((run 12 [.slice a0_1, .blob a1_1, .int a2_1]).bind fun r3 =>
    nilV r3.outs (consV r3.vals fun v3 vs3 =>
    nilV vs3 ((run 13 [.slice a0_1, .blob a1_1, .int a2_1]).bind fun r4 =>
    bif r4.fresh then
    nilV r4.outs (consV r4.vals fun v4 vs4 =>
    nilV vs4 ((run 11 [.slice v3.toSlice, .slice v4.toSlice]).bind fun r5 =>
    nilV r5.outs (consV r5.vals fun v5 vs5 =>
    nilV vs5 (bif v5.toBool then
    bif eqI (v2.toSlice.length : Int) 1 then
    bif inR 0 v2.toSlice.length then
    bif eqS ((nth v2.toSlice 0).toBlob) a1_1 then
    (run 9 []).bind fun r6 =>
    nilV r6.outs (consV r6.vals fun v6 vs6 =>
    nilV vs6 (some ⟨[.bool v6.toBool], [], f3_fresh⟩))
  else
    some ⟨[.bool false], [], f3_fresh⟩
  else none
  else
    some ⟨[.bool false], [], f3_fresh⟩
  else
    some ⟨[.bool false], [], f3_fresh⟩))))
  else none))))
  else none := by kernel_rfl
theorem f3_run (ext : Run) (n : Nat) (a0_1 : List AV) (a1_1 : List UInt8) (a2_1 : Int) : runE G ext (n + 1) 3 [.slice a0_1, .blob a1_1, .int a2_1] = f3 (runE G ext n) n a0_1 a1_1 a2_1 := runE_succ f3_at f3_in

noncomputable def f14_l0 (run : Run) (n : Nat) (k0 : Nat) (x0_1 : List AV) (x3_1 : Int) (x4_1 : Int) : Option Res :=
  iterK (evalK G run n f14_keep 0 (sub [1, 1, 0, 1, 0, 0] f14_body)) f14_t0 f14_o0 (blockK 0 (seqK (evalK G run n f14_keep 0 (sub [1, 1, 1] f14_body) (retE G f14_info)) (retE G f14_info))) k0
    ⟨[.val (.slice (.struct [(.struct [(.int .u32), (.blob 32), (.blob 32), (.int .u64)]), (.struct [(.int .i64), (.int .i64), (.slice (.blob 32))])])) none (.slice x0_1), .any, .any, .val (.int .i64) none (.int x3_1), .val (.int .i64) none (.int x4_1), .any, .any, .any, .any, .any, .any, .any, .any, .any, .any, .any, .any, .any, .any, .any, .any, .any, .any, .any, .any, .any, .any, .any, .any, .any, .any, .any, .any, .any, .any, .any, .any, .any, .any, .any, .any, .any], [⟨0, none⟩, ⟨0, none⟩, ⟨0, none⟩, ⟨0, none⟩, ⟨0, none⟩, ⟨0, none⟩, ⟨0, none⟩, ⟨0, none⟩, ⟨0, none⟩, ⟨0, none⟩, ⟨0, none⟩, ⟨0, none⟩, ⟨0, none⟩, ⟨0, none⟩, ⟨0, none⟩, ⟨0, none⟩, ⟨0, none⟩, ⟨0, none⟩, ⟨0, none⟩, ⟨0, none⟩, ⟨0, none⟩, ⟨0, none⟩, ⟨0, none⟩, ⟨0, none⟩, ⟨0, none⟩, ⟨0, none⟩, ⟨0, none⟩, ⟨0, none⟩, ⟨0, none⟩, ⟨0, none⟩, ⟨0, none⟩, ⟨0, none⟩, ⟨0, none⟩, ⟨0, none⟩, ⟨0, none⟩, ⟨0, none⟩, ⟨0, none⟩, ⟨0, none⟩, ⟨0, none⟩, ⟨0, none⟩, ⟨0, none⟩, ⟨0, none⟩], List.replicate 42 0⟩
theorem f14_l0_eq (run : Run) (n : Nat) (k0 : Nat) (x0_1 : List AV) (x3_1 : Int) (x4_1 : Int) : f14_l0 run n (k0 + 1) x0_1 x3_1 x4_1 =
  bif ltI x4_1 (x0_1.length : Int) then
    bif ltI x4_1 100 then
    bif inR x4_1 x0_1.length then
    f14_l0 run n k0 x0_1 (mn2 (IntKind.wrap .i64 (x3_1 + (((((nth x0_1 (Int.toNat x4_1)).fld 1).fld 2).toSlice).length : Int))) 1048576) (IntKind.wrap .i64 (x4_1 + 1))
  else none
  else
    bif ltI 40 (x0_1.length : Int) then
    bif leI (x0_1.length : Int) 1024 then
    some ⟨[.bool true], [], f14_fresh⟩
  else
    bif ltI 1050 (x0_1.length : Int) then
    some ⟨[.bool true], [], f14_fresh⟩
  else
    some ⟨[.bool (ltI 300 x3_1)], [], f14_fresh⟩
  else
    bif ltI 1050 (x0_1.length : Int) then
    some ⟨[.bool true], [], f14_fresh⟩
  else
    some ⟨[.bool (ltI 300 x3_1)], [], f14_fresh⟩
  else
    bif ltI 40 (x0_1.length : Int) then
    bif leI (x0_1.length : Int) 1024 then
    some ⟨[.bool true], [], f14_fresh⟩
  else
    bif ltI 1050 (x0_1.length : Int) then
    some ⟨[.bool true], [], f14_fresh⟩
  else
    some ⟨[.bool (ltI 300 x3_1)], [], f14_fresh⟩
  else
    bif ltI 1050 (x0_1.length : Int) then
    some ⟨[.bool true], [], f14_fresh⟩
  else
    some ⟨[.bool (ltI 300 x3_1)], [], f14_fresh⟩ := by kernel_rfl
noncomputable def f14 (run : Run) (n : Nat) (a0_1 : List AV) : Option Res := evalK G run n f14_info.keep 0 f14_info.body (retE G f14_info) (f14_info.start [.slice a0_1])
theorem f14_eq (run : Run) (n : Nat) (a0_1 : List AV) : f14 run n a0_1 =
  f14_l0 run n n a0_1 0 0 := by kernel_rfl
theorem f14_run (ext : Run) (n : Nat) (a0_1 : List AV) : runE G ext (n + 1) 14 [.slice a0_1] = f14 (runE G ext n) n a0_1 := runE_succ f14_at f14_in

noncomputable def f26_l0 (run : Run) (n : Nat) (k0 : Nat) (x29_1 : Int) (x30_1 : Int) (o2_1 : Int) (o2_2 : Int) (o2_3 : List AV) (o3_1 : Int) (o3_2 : Int) (o3_3 : List AV) : Option Res :=
  iterK (evalK G run n f26_keep 0 (sub [1, 1, 0, 1, 0, 0] f26_body)) f26_t0 f26_o0 (blockK 0 (seqK (evalK G run n f26_keep 0 (sub [1, 1, 1] f26_body) (retE G f26_info)) (retE G f26_info))) k0
    ⟨[.any, .any, .ptr ⟨(.struct [(.int .i64), (.int .i64), (.slice (.blob 32))]), 2, 1, []⟩, .ptr ⟨(.struct [(.int .i64), (.int .i64), (.slice (.blob 32))]), 3, 1, []⟩, .any, .any, .any, .any, .any, .any, .any, .any, .any, .any, .any, .any, .any, .any, .any, .any, .any, .any, .any, .any, .any, .any, .any, .any, .any, .val (.int .i64) none (.int x29_1), .val (.int .i64) none (.int x30_1), .any, .any, .any, .any, .any, .any, .any, .any, .any, .any, .any, .any, .any, .any], [⟨0, none⟩, ⟨0, none⟩, ⟨1, some ⟨(.struct [(.int .i64), (.int .i64), (.slice (.blob 32))]), .agg [.int o2_1, .int o2_2, .slice o2_3]⟩⟩, ⟨1, some ⟨(.struct [(.int .i64), (.int .i64), (.slice (.blob 32))]), .agg [.int o3_1, .int o3_2, .slice o3_3]⟩⟩, ⟨0, none⟩, ⟨0, none⟩, ⟨0, none⟩, ⟨0, none⟩, ⟨0, none⟩, ⟨0, none⟩, ⟨0, none⟩, ⟨0, none⟩, ⟨0, none⟩, ⟨0, none⟩, ⟨0, none⟩, ⟨0, none⟩, ⟨0, none⟩, ⟨0, none⟩, ⟨0, none⟩, ⟨0, none⟩, ⟨0, none⟩, ⟨0, none⟩, ⟨0, none⟩, ⟨0, none⟩, ⟨0, none⟩, ⟨0, none⟩, ⟨0, none⟩, ⟨0, none⟩, ⟨0, none⟩, ⟨0, none⟩, ⟨0, none⟩, ⟨0, none⟩, ⟨0, none⟩, ⟨0, none⟩, ⟨0, none⟩, ⟨0, none⟩, ⟨0, none⟩, ⟨0, none⟩, ⟨0, none⟩, ⟨0, none⟩, ⟨0, none⟩, ⟨0, none⟩, ⟨0, none⟩, ⟨0, none⟩, ⟨0, none⟩], List.replicate 45 0⟩
theorem f26_l0_eq (run : Run) (n : Nat) (k0 : Nat) (x29_1 : Int) (x30_1 : Int) (o2_1 : Int) (o2_2 : Int) (o2_3 : List AV) (o3_1 : Int) (o3_2 : Int) (o3_3 : List AV) : f26_l0 run n (k0 + 1) x29_1 x30_1 o2_1 o2_2 o2_3 o3_1 o3_2 o3_3 =
  bif ltI x30_1 x29_1 then
    bif inR x30_1 o2_3.length then
    bif inR x30_1 o3_3.length then
    bif !(eqS ((nth o2_3 (Int.toNat x30_1)).toBlob) ((nth o3_3 (Int.toNat x30_1)).toBlob)) then
    some ⟨[.bool false], [], f26_fresh⟩
  else
    f26_l0 run n k0 x29_1 (IntKind.wrap .i64 (x30_1 + 1)) o2_1 o2_2 o2_3 o3_1 o3_2 o3_3
  else none
  else none
  else
    some ⟨[.bool true], [], f26_fresh⟩ := by kernel_rfl
noncomputable def f26 (run : Run) (n : Nat) (a0_1 : Int) (a0_2 : Int) (a0_3 : List AV) (a1_1 : Int) (a1_2 : Int) (a1_3 : List AV) : Option Res := evalK G run n f26_info.keep 0 f26_info.body (retE G f26_info) (f26_info.start [.agg [.int a0_1, .int a0_2, .slice a0_3], .agg [.int a1_1, .int a1_2, .slice a1_3]])
theorem f26_eq (run : Run) (n : Nat) (a0_1 : Int) (a0_2 : Int) (a0_3 : List AV) (a1_1 : Int) (a1_2 : Int) (a1_3 : List AV) : f26 run n a0_1 a0_2 a0_3 a1_1 a1_2 a1_3 =
  bif !(eqI a0_1 a1_1) then
    some ⟨[.bool false], [], f26_fresh⟩
  else
    bif !(eqI a0_2 a1_2) then
    some ⟨[.bool false], [], f26_fresh⟩
  else
    bif !(eqI (a0_3.length : Int) (a1_3.length : Int)) then
    some ⟨[.bool false], [], f26_fresh⟩
  else
    f26_l0 run n n (a0_3.length : Int) 0 a0_1 a0_2 a0_3 a1_1 a1_2 a1_3 := by kernel_rfl
theorem f26_run (ext : Run) (n : Nat) (a0_1 : Int) (a0_2 : Int) (a0_3 : List AV) (a1_1 : Int) (a1_2 : Int) (a1_3 : List AV) : runE G ext (n + 1) 26 [.agg [.int a0_1, .int a0_2, .slice a0_3], .agg [.int a1_1, .int a1_2, .slice a1_3]] = f26 (runE G ext n) n a0_1 a0_2 a0_3 a1_1 a1_2 a1_3 := runE_succ f26_at f26_in

noncomputable def f23 (run : Run) (n : Nat) (a0_1 : Int) (a0_2 : Int) (a0_3 : List AV) : Option Res := evalK G run n f23_info.keep 0 f23_info.body (retE G f23_info) (f23_info.start [.agg [.int a0_1, .int a0_2, .slice a0_3]])
theorem f23_eq (run : Run) (n : Nat) (a0_1 : Int) (a0_2 : Int) (a0_3 : List AV) : f23 run n a0_1 a0_2 a0_3 =
  (run 26 [.agg [.int a0_1, .int a0_2, .slice a0_3], .agg [.int 0, .int 0, .slice []]]).bind fun r1 =>
    nilV r1.outs (consV r1.vals fun v1 vs1 =>
    nilV vs1 (some ⟨[.bool v1.toBool], [], f23_fresh⟩)) := by kernel_rfl
theorem f23_run (ext : Run) (n : Nat) (a0_1 : Int) (a0_2 : Int) (a0_3 : List AV) : runE G ext (n + 1) 23 [.agg [.int a0_1, .int a0_2, .slice a0_3]] = f23 (runE G ext n) n a0_1 a0_2 a0_3 := runE_succ f23_at f23_in

noncomputable def f15 (run : Run) (n : Nat) (a0_1 : Int) (a0_2 : List UInt8) (a0_3 : List UInt8) (a0_4 : Int) (a1_1 : List AV) : Option Res := evalK G run n f15_info.keep 0 f15_info.body (retE G f15_info) (f15_info.start [.agg [.int a0_1, .blob a0_2, .blob a0_3, .int a0_4], .slice a1_1])
theorem f15_eq (run : Run) (n : Nat) (a0_1 : Int) (a0_2 : List UInt8) (a0_3 : List UInt8) (a0_4 : Int) (a1_1 : List AV) : f15 run n a0_1 a0_2 a0_3 a0_4 a1_1 =
  bif eqI (a1_1.length : Int) 0 then
    some ⟨[.int 6], [], f15_fresh⟩
  else
    bif inR 0 a1_1.length then
    bif !(eqI ((((nth a1_1 0).fld 0).fld 0).toInt) a0_1 && (eqS ((((nth a1_1 0).fld 0).fld 1).toBlob) a0_2 && (eqS ((((nth a1_1 0).fld 0).fld 2).toBlob) a0_3 && (eqI ((((nth a1_1 0).fld 0).fld 3).toInt) a0_4 && true)))) then
    some ⟨[.int 7], [], f15_fresh⟩
  else
    bif inR 0 a1_1.length then
    (run 23 [.agg [.int ((((nth a1_1 0).fld 1).fld 0).toInt), .int ((((nth a1_1 0).fld 1).fld 1).toInt), .slice ((((nth a1_1 0).fld 1).fld 2).toSlice)]]).bind fun r1 =>
    nilV r1.outs (consV r1.vals fun v1 vs1 =>
    nilV vs1 (bif !v1.toBool then
    some ⟨[.int 2], [], f15_fresh⟩
  else
    some ⟨[.int 0], [], f15_fresh⟩))
  else none
  else none := by kernel_rfl
theorem f15_run (ext : Run) (n : Nat) (a0_1 : Int) (a0_2 : List UInt8) (a0_3 : List UInt8) (a0_4 : Int) (a1_1 : List AV) : runE G ext (n + 1) 15 [.agg [.int a0_1, .blob a0_2, .blob a0_3, .int a0_4], .slice a1_1] = f15 (runE G ext n) n a0_1 a0_2 a0_3 a0_4 a1_1 := runE_succ f15_at f15_in

noncomputable def f17 (run : Run) (n : Nat) : Option Res := evalK G run n f17_info.keep 0 f17_info.body (retE G f17_info) (f17_info.start [])
theorem f17_eq (run : Run) (n : Nat) : f17 run n  =
  (run 15 [.agg [.int 0, .blob (List.replicate 32 0), .blob (List.replicate 32 0), .int 0], .slice []]).bind fun r1 =>
    nilV r1.outs (consV r1.vals fun v1 vs1 =>
    nilV vs1 (bif eqI v1.toInt 6 then
    (run 15 [.agg [.int 0, .blob (List.replicate 32 0), .blob (List.replicate 32 0), .int 0], .slice [.agg [.agg [.int 0, .blob (List.replicate 32 0), .blob (List.replicate 32 0), .int 0], .agg [.int 0, .int 0, .slice []]]]]).bind fun r2 =>
    nilV r2.outs (consV r2.vals fun v2 vs2 =>
    nilV vs2 (some ⟨[.bool (eqI v2.toInt 0)], [], f17_fresh⟩))
  else
    some ⟨[.bool false], [], f17_fresh⟩)) := by kernel_rfl
theorem f17_run (ext : Run) (n : Nat) : runE G ext (n + 1) 17 [] = f17 (runE G ext n) n  := runE_succ f17_at f17_in

noncomputable def f16 (run : Run) (n : Nat) (a0_1 : Int) (a0_2 : List UInt8) (a0_3 : List UInt8) (a0_4 : Int) (a1_1 : List AV) : Option Res := evalK G run n f16_info.keep 0 f16_info.body (retE G f16_info) (f16_info.start [.agg [.int a0_1, .blob a0_2, .blob a0_3, .int a0_4], .slice a1_1])
theorem f16_eq (run : Run) (n : Nat) (a0_1 : Int) (a0_2 : List UInt8) (a0_3 : List UInt8) (a0_4 : Int) (a1_1 : List AV) : f16 run n a0_1 a0_2 a0_3 a0_4 a1_1 =
  bif eqI (a1_1.length : Int) 0 then
    some ⟨[.int 6], [], f16_fresh⟩
  else
    bif inR 0 a1_1.length then
    bif !(eqI ((((nth a1_1 0).fld 0).fld 0).toInt) a0_1 && (eqS ((((nth a1_1 0).fld 0).fld 1).toBlob) a0_2 && (eqS ((((nth a1_1 0).fld 0).fld 2).toBlob) a0_3 && (eqI ((((nth a1_1 0).fld 0).fld 3).toInt) a0_4 && true)))) then
    some ⟨[.int 7], [], f16_fresh⟩
  else
    bif inR 0 a1_1.length then
    bif !(eqI ((((nth a1_1 0).fld 1).fld 1).toInt) 0) then
    some ⟨[.int 2], [], f16_fresh⟩
  else
    bif !(eqI ((((nth a1_1 0).fld 1).fld 0).toInt) 0) then
    some ⟨[.int 2], [], f16_fresh⟩
  else
    bif ltI 0 (((((nth a1_1 0).fld 1).fld 2).toSlice).length : Int) then
    some ⟨[.int 2], [], f16_fresh⟩
  else
    some ⟨[.int 0], [], f16_fresh⟩
  else none
  else none := by kernel_rfl
theorem f16_run (ext : Run) (n : Nat) (a0_1 : Int) (a0_2 : List UInt8) (a0_3 : List UInt8) (a0_4 : Int) (a1_1 : List AV) : runE G ext (n + 1) 16 [.agg [.int a0_1, .blob a0_2, .blob a0_3, .int a0_4], .slice a1_1] = f16 (runE G ext n) n a0_1 a0_2 a0_3 a0_4 a1_1 := runE_succ f16_at f16_in

noncomputable def f4 (run : Run) (n : Nat) (a0_1 : Int) (a0_2 : List UInt8) (a0_3 : List UInt8) (a0_4 : Int) (a1_1 : List AV) : Option Res := evalK G run n f4_info.keep 0 f4_info.body (retE G f4_info) (f4_info.start [.agg [.int a0_1, .blob a0_2, .blob a0_3, .int a0_4], .slice a1_1])
theorem f4_eq (run : Run) (n : Nat) (a0_1 : Int) (a0_2 : List UInt8) (a0_3 : List UInt8) (a0_4 : Int) (a1_1 : List AV) : f4 run n a0_1 a0_2 a0_3 a0_4 a1_1 =
  (run 14 [.slice a1_1]).bind fun r1 =>
    nilV r1.outs (consV r1.vals fun v1 vs1 =>
    nilV vs1 (bif v1.toBool then
    (run 17 []).bind fun r2 =>
    nilV r2.outs (consV r2.vals fun v2 vs2 =>
    nilV vs2 (some ⟨[.bool v2.toBool], [], f4_fresh⟩))
  else
    (run 15 [.agg [.int a0_1, .blob a0_2, .blob a0_3, .int a0_4], .slice a1_1]).bind fun r3 =>
    nilV r3.outs (consV r3.vals fun v3 vs3 =>
    nilV vs3 ((run 16 [.agg [.int a0_1, .blob a0_2, .blob a0_3, .int a0_4], .slice a1_1]).bind fun r4 =>
    nilV r4.outs (consV r4.vals fun v4 vs4 =>
    nilV vs4 (bif eqI v3.toInt v4.toInt then
    (run 17 []).bind fun r5 =>
    nilV r5.outs (consV r5.vals fun v5 vs5 =>
    nilV vs5 (some ⟨[.bool v5.toBool], [], f4_fresh⟩))
  else
    some ⟨[.bool false], [], f4_fresh⟩)))))) := by kernel_rfl
theorem f4_run (ext : Run) (n : Nat) (a0_1 : Int) (a0_2 : List UInt8) (a0_3 : List UInt8) (a0_4 : Int) (a1_1 : List AV) : runE G ext (n + 1) 4 [.agg [.int a0_1, .blob a0_2, .blob a0_3, .int a0_4], .slice a1_1] = f4 (runE G ext n) n a0_1 a0_2 a0_3 a0_4 a1_1 := runE_succ f4_at f4_in

noncomputable def f5 (run : Run) (n : Nat) (a0_1 : Int) (a0_2 : List UInt8) (a0_3 : List UInt8) (a0_4 : Int) (a1_1 : List AV) : Option Res := evalK G run n f5_info.keep 0 f5_info.body (retE G f5_info) (f5_info.start [.agg [.int a0_1, .blob a0_2, .blob a0_3, .int a0_4], .slice a1_1])
theorem f5_eq (run : Run) (n : Nat) (a0_1 : Int) (a0_2 : List UInt8) (a0_3 : List UInt8) (a0_4 : Int) (a1_1 : List AV) : f5 run n a0_1 a0_2 a0_3 a0_4 a1_1 =
  (run 14 [.slice a1_1]).bind fun r1 =>
    nilV r1.outs (consV r1.vals fun v1 vs1 =>
    nilV vs1 (bif v1.toBool then
    (run 17 []).bind fun r2 =>
    nilV r2.outs (consV r2.vals fun v2 vs2 =>
    nilV vs2 (some ⟨[.bool v2.toBool], [], f5_fresh⟩))
  else
    bif eqI (a1_1.length : Int) 0 then
    (run 17 []).bind fun r3 =>
    nilV r3.outs (consV r3.vals fun v3 vs3 =>
    nilV vs3 (some ⟨[.bool v3.toBool], [], f5_fresh⟩))
  else
    (run 15 [.agg [.int a0_1, .blob a0_2, .blob a0_3, .int a0_4], .slice a1_1]).bind fun r4 =>
    nilV r4.outs (consV r4.vals fun v4 vs4 =>
    nilV vs4 (bif boundsOk 0 1 (a1_1.length : Int) (a1_1.length : Int) && true then
    (run 15 [.agg [.int a0_1, .blob a0_2, .blob a0_3, .int a0_4], .slice (List.drop 0 (List.take 1 a1_1))]).bind fun r5 =>
    nilV r5.outs (consV r5.vals fun v5 vs5 =>
    nilV vs5 (bif eqI v4.toInt v5.toInt then
    (run 17 []).bind fun r6 =>
    nilV r6.outs (consV r6.vals fun v6 vs6 =>
    nilV vs6 (some ⟨[.bool v6.toBool], [], f5_fresh⟩))
  else
    some ⟨[.bool false], [], f5_fresh⟩))
  else none)))) := by kernel_rfl
theorem f5_run (ext : Run) (n : Nat) (a0_1 : Int) (a0_2 : List UInt8) (a0_3 : List UInt8) (a0_4 : Int) (a1_1 : List AV) : runE G ext (n + 1) 5 [.agg [.int a0_1, .blob a0_2, .blob a0_3, .int a0_4], .slice a1_1] = f5 (runE G ext n) n a0_1 a0_2 a0_3 a0_4 a1_1 := runE_succ f5_at f5_in

noncomputable def f18 (run : Run) (n : Nat) (a0_1 : List AV) (a1_1 : Int) : Option Res := evalK G run n f18_info.keep 0 f18_info.body (retE G f18_info) (f18_info.start [.slice a0_1, .int a1_1])
theorem f18_eq (run : Run) (n : Nat) (a0_1 : List AV) (a1_1 : Int) : f18 run n a0_1 a1_1 =
  bif eqI (a0_1.length : Int) 0 then
    some ⟨[.blob [0, 0, 0, 0, 0, 0, 0, 0, 0, 0, 0, 0, 0, 0, 0, 0, 0, 0, 0, 0, 0, 0, 0, 0, 0, 0, 0, 0, 0, 0, 0, 0], .bool false], [], f18_fresh⟩
  else
    bif ltI a1_1 0 then
    some ⟨[.blob [0, 0, 0, 0, 0, 0, 0, 0, 0, 0, 0, 0, 0, 0, 0, 0, 0, 0, 0, 0, 0, 0, 0, 0, 0, 0, 0, 0, 0, 0, 0, 0], .bool false], [], f18_fresh⟩
  else
    bif inR (mn2 a1_1 (IntKind.wrap .i64 ((a0_1.length : Int) - 1))) a0_1.length then
    some ⟨[.blob ((nth a0_1 (Int.toNat (mn2 a1_1 (IntKind.wrap .i64 ((a0_1.length : Int) - 1))))).toBlob), .bool true], [], f18_fresh⟩
  else none := by kernel_rfl
theorem f18_run (ext : Run) (n : Nat) (a0_1 : List AV) (a1_1 : Int) : runE G ext (n + 1) 18 [.slice a0_1, .int a1_1] = f18 (runE G ext n) n a0_1 a1_1 := runE_succ f18_at f18_in

noncomputable def f6 (run : Run) (n : Nat) (a0_1 : List AV) (a1_1 : Int) : Option Res := evalK G run n f6_info.keep 0 f6_info.body (retE G f6_info) (f6_info.start [.slice a0_1, .int a1_1])
theorem f6_eq (run : Run) (n : Nat) (a0_1 : List AV) (a1_1 : Int) : f6 run n a0_1 a1_1 =
  bif ltI 300 (a0_1.length : Int) then
    (run 9 []).bind fun r1 =>
    nilV r1.outs (consV r1.vals fun v1 vs1 =>
    nilV vs1 (some ⟨[.bool v1.toBool], [], f6_fresh⟩))
  else
    (run 18 [.slice a0_1, .int a1_1]).bind fun r2 =>
    nilV r2.outs (consV r2.vals fun v2 vs2 =>
    consV vs2 fun v3 vs3 =>
    nilV vs3 (bif ltI a1_1 0 then
    bif !v3.toBool then
    bif eqS v2.toBlob [0, 0, 0, 0, 0, 0, 0, 0, 0, 0, 0, 0, 0, 0, 0, 0, 0, 0, 0, 0, 0, 0, 0, 0, 0, 0, 0, 0, 0, 0, 0, 0] then
    (run 9 []).bind fun r3 =>
    nilV r3.outs (consV r3.vals fun v4 vs4 =>
    nilV vs4 (some ⟨[.bool v4.toBool], [], f6_fresh⟩))
  else
    some ⟨[.bool false], [], f6_fresh⟩
  else
    some ⟨[.bool false], [], f6_fresh⟩
  else
    bif eqI (a0_1.length : Int) 0 then
    bif !v3.toBool then
    bif eqS v2.toBlob [0, 0, 0, 0, 0, 0, 0, 0, 0, 0, 0, 0, 0, 0, 0, 0, 0, 0, 0, 0, 0, 0, 0, 0, 0, 0, 0, 0, 0, 0, 0, 0] then
    (run 9 []).bind fun r4 =>
    nilV r4.outs (consV r4.vals fun v5 vs5 =>
    nilV vs5 (some ⟨[.bool v5.toBool], [], f6_fresh⟩))
  else
    some ⟨[.bool false], [], f6_fresh⟩
  else
    some ⟨[.bool false], [], f6_fresh⟩
  else
    bif inR (IntKind.wrap .i64 ((a0_1.length : Int) - 1)) a0_1.length then
    bif ltI a1_1 (a0_1.length : Int) then
    bif inR a1_1 a0_1.length then
    bif v3.toBool then
    bif eqS v2.toBlob ((nth a0_1 (Int.toNat a1_1)).toBlob) then
    (run 9 []).bind fun r5 =>
    nilV r5.outs (consV r5.vals fun v6 vs6 =>
    nilV vs6 (some ⟨[.bool v6.toBool], [], f6_fresh⟩))
  else
    some ⟨[.bool false], [], f6_fresh⟩
  else
    some ⟨[.bool false], [], f6_fresh⟩
  else none
  else
    bif v3.toBool then
    bif eqS v2.toBlob ((nth a0_1 (Int.toNat (IntKind.wrap .i64 ((a0_1.length : Int) - 1)))).toBlob) then
    (run 9 []).bind fun r6 =>
    nilV r6.outs (consV r6.vals fun v7 vs7 =>
    nilV vs7 (some ⟨[.bool v7.toBool], [], f6_fresh⟩))
  else
    some ⟨[.bool false], [], f6_fresh⟩
  else
    some ⟨[.bool false], [], f6_fresh⟩
  else none)) := by kernel_rfl
theorem f6_run (ext : Run) (n : Nat) (a0_1 : List AV) (a1_1 : Int) : runE G ext (n + 1) 6 [.slice a0_1, .int a1_1] = f6 (runE G ext n) n a0_1 a1_1 := runE_succ f6_at f6_in

noncomputable def f7_l2 (run : Run) (n : Nat) (k0 : Nat) (k2 : Nat) (x1_2 : List AV) (x2_2 : List AV) (x7_2 : List AV) (x8_2 : Int) (x9_1 : List AV) (x10_1 : Int) (o3_2 : List UInt8) : Option Res :=
  iterK (evalK G run n f7_keep 2 (sub [1, 1, 1, 0, 1, 0, 0, 1, 0, 0, 1, 1, 0, 1, 0, 0] f7_body)) f7_t2 f7_o2 (blockK 2 (seqK (evalK G run n f7_keep 1 (sub [1, 1, 1, 0, 1, 0, 0, 1, 0, 0, 1, 1, 1] f7_body) (blockK 1 (seqK (evalK G run n f7_keep 0 (sub [1, 1, 1, 0, 1, 0, 0, 1, 1] f7_body) (seqK (fun t => iterK (evalK G run n f7_keep 0 (sub [1, 1, 1, 0, 1, 0, 0] f7_body)) f7_t0 f7_o0 (blockK 0 (seqK (evalK G run n f7_keep 0 (sub [1, 1, 1, 1] f7_body) (retE G f7_info)) (retE G f7_info))) k0 (t.clear f7_t0 f7_o0)) (blockK 0 (seqK (evalK G run n f7_keep 0 (sub [1, 1, 1, 1] f7_body) (retE G f7_info)) (retE G f7_info))))) (seqK (fun t => iterK (evalK G run n f7_keep 0 (sub [1, 1, 1, 0, 1, 0, 0] f7_body)) f7_t0 f7_o0 (blockK 0 (seqK (evalK G run n f7_keep 0 (sub [1, 1, 1, 1] f7_body) (retE G f7_info)) (retE G f7_info))) k0 (t.clear f7_t0 f7_o0)) (blockK 0 (seqK (evalK G run n f7_keep 0 (sub [1, 1, 1, 1] f7_body) (retE G f7_info)) (retE G f7_info))))))) (blockK 1 (seqK (evalK G run n f7_keep 0 (sub [1, 1, 1, 0, 1, 0, 0, 1, 1] f7_body) (seqK (fun t => iterK (evalK G run n f7_keep 0 (sub [1, 1, 1, 0, 1, 0, 0] f7_body)) f7_t0 f7_o0 (blockK 0 (seqK (evalK G run n f7_keep 0 (sub [1, 1, 1, 1] f7_body) (retE G f7_info)) (retE G f7_info))) k0 (t.clear f7_t0 f7_o0)) (blockK 0 (seqK (evalK G run n f7_keep 0 (sub [1, 1, 1, 1] f7_body) (retE G f7_info)) (retE G f7_info))))) (seqK (fun t => iterK (evalK G run n f7_keep 0 (sub [1, 1, 1, 0, 1, 0, 0] f7_body)) f7_t0 f7_o0 (blockK 0 (seqK (evalK G run n f7_keep 0 (sub [1, 1, 1, 1] f7_body) (retE G f7_info)) (retE G f7_info))) k0 (t.clear f7_t0 f7_o0)) (blockK 0 (seqK (evalK G run n f7_keep 0 (sub [1, 1, 1, 1] f7_body) (retE G f7_info)) (retE G f7_info)))))))) k2
    ⟨[.any, .val (.slice (.blob 32)) none (.slice x1_2), .val (.slice (.int .i64)) none (.slice x2_2), .ptr ⟨(.blob 32), 3, 1, []⟩, .any, .any, .any, .val (.slice (.blob 32)) none (.slice x7_2), .val (.int .i64) none (.int x8_2), .val (.slice (.blob 32)) none (.slice x9_1), .val (.int .i64) none (.int x10_1), .any, .any, .any, .any, .any, .any, .any, .any, .any, .any, .any, .any, .any, .any, .any, .any, .any, .any, .any, .any, .any, .any, .any, .any, .any, .any, .any, .any, .any, .any, .any, .any, .any, .any, .any, .any, .any, .any, .any, .any, .any, .any, .any, .any, .any, .any, .any, .any, .any, .any, .any, .any, .any, .any, .any, .any, .any, .any, .any, .any, .any, .any, .any, .any, .any, .any, .any, .any, .any, .any, .any, .any, .any, .any, .any, .any, .any, .any, .any, .any, .any, .any, .any, .any, .any, .any, .any, .any, .any, .any, .any, .any, .any, .any, .any, .any, .any, .any, .any, .any, .any, .any, .any, .any, .any, .any, .any, .any, .any], [⟨0, none⟩, ⟨0, none⟩, ⟨0, none⟩, ⟨1, some ⟨(.blob 32), .blob o3_2⟩⟩, ⟨0, none⟩, ⟨0, none⟩, ⟨0, none⟩, ⟨0, none⟩, ⟨0, none⟩, ⟨0, none⟩, ⟨0, none⟩, ⟨0, none⟩, ⟨0, none⟩, ⟨0, none⟩, ⟨0, none⟩, ⟨0, none⟩, ⟨0, none⟩, ⟨0, none⟩, ⟨0, none⟩, ⟨0, none⟩, ⟨0, none⟩, ⟨0, none⟩, ⟨0, none⟩, ⟨0, none⟩, ⟨0, none⟩, ⟨0, none⟩, ⟨0, none⟩, ⟨0, none⟩, ⟨0, none⟩, ⟨0, none⟩, ⟨0, none⟩, ⟨0, none⟩, ⟨0, none⟩, ⟨0, none⟩, ⟨0, none⟩, ⟨0, none⟩, ⟨0, none⟩, ⟨0, none⟩, ⟨0, none⟩, ⟨0, none⟩, ⟨0, none⟩, ⟨0, none⟩, ⟨0, none⟩, ⟨0, none⟩, ⟨0, none⟩, ⟨0, none⟩, ⟨0, none⟩, ⟨0, none⟩, ⟨0, none⟩, ⟨0, none⟩, ⟨0, none⟩, ⟨0, none⟩, ⟨0, none⟩, ⟨0, none⟩, ⟨0, none⟩, ⟨0, none⟩, ⟨0, none⟩, ⟨0, none⟩, ⟨0, none⟩, ⟨0, none⟩, ⟨0, none⟩, ⟨0, none⟩, ⟨0, none⟩, ⟨0, none⟩, ⟨0, none⟩, ⟨0, none⟩, ⟨0, none⟩, ⟨0, none⟩, ⟨0, none⟩, ⟨0, none⟩, ⟨0, none⟩, ⟨0, none⟩, ⟨0, none⟩, ⟨0, none⟩, ⟨0, none⟩, ⟨0, none⟩, ⟨0, none⟩, ⟨0, none⟩, ⟨0, none⟩, ⟨0, none⟩, ⟨0, none⟩, ⟨0, none⟩, ⟨0, none⟩, ⟨0, none⟩, ⟨0, none⟩, ⟨0, none⟩, ⟨0, none⟩, ⟨0, none⟩, ⟨0, none⟩, ⟨0, none⟩, ⟨0, none⟩, ⟨0, none⟩, ⟨0, none⟩, ⟨0, none⟩, ⟨0, none⟩, ⟨0, none⟩, ⟨0, none⟩, ⟨0, none⟩, ⟨0, none⟩, ⟨0, none⟩, ⟨0, none⟩, ⟨0, none⟩, ⟨0, none⟩, ⟨0, none⟩, ⟨0, none⟩, ⟨0, none⟩, ⟨0, none⟩, ⟨0, none⟩, ⟨0, none⟩, ⟨0, none⟩, ⟨0, none⟩, ⟨0, none⟩, ⟨0, none⟩, ⟨0, none⟩, ⟨0, none⟩, ⟨0, none⟩, ⟨0, none⟩, ⟨0, none⟩, ⟨0, none⟩, ⟨0, none⟩], List.replicate 120 0⟩
noncomputable def f7_l0 (run : Run) (n : Nat) (k0 : Nat) (x1_1 : List AV) (x2_1 : List AV) (x7_1 : List AV) (x8_1 : Int) (o3_1 : List UInt8) : Option Res :=
  iterK (evalK G run n f7_keep 0 (sub [1, 1, 1, 0, 1, 0, 0] f7_body)) f7_t0 f7_o0 (blockK 0 (seqK (evalK G run n f7_keep 0 (sub [1, 1, 1, 1] f7_body) (retE G f7_info)) (retE G f7_info))) k0
    ⟨[.any, .val (.slice (.blob 32)) none (.slice x1_1), .val (.slice (.int .i64)) none (.slice x2_1), .ptr ⟨(.blob 32), 3, 1, []⟩, .any, .any, .any, .val (.slice (.blob 32)) none (.slice x7_1), .val (.int .i64) none (.int x8_1), .any, .any, .any, .any, .any, .any, .any, .any, .any, .any, .any, .any, .any, .any, .any, .any, .any, .any, .any, .any, .any, .any, .any, .any, .any, .any, .any, .any, .any, .any, .any, .any, .any, .any, .any, .any, .any, .any, .any, .any, .any, .any, .any, .any, .any, .any, .any, .any, .any, .any, .any, .any, .any, .any, .any, .any, .any, .any, .any, .any, .any, .any, .any, .any, .any, .any, .any, .any, .any, .any, .any, .any, .any, .any, .any, .any, .any, .any, .any, .any, .any, .any, .any, .any, .any, .any, .any, .any, .any, .any, .any, .any, .any, .any, .any, .any, .any, .any, .any, .any, .any, .any, .any, .any, .any, .any, .any, .any, .any, .any, .any], [⟨0, none⟩, ⟨0, none⟩, ⟨0, none⟩, ⟨1, some ⟨(.blob 32), .blob o3_1⟩⟩, ⟨0, none⟩, ⟨0, none⟩, ⟨0, none⟩, ⟨0, none⟩, ⟨0, none⟩, ⟨0, none⟩, ⟨0, none⟩, ⟨0, none⟩, ⟨0, none⟩, ⟨0, none⟩, ⟨0, none⟩, ⟨0, none⟩, ⟨0, none⟩, ⟨0, none⟩, ⟨0, none⟩, ⟨0, none⟩, ⟨0, none⟩, ⟨0, none⟩, ⟨0, none⟩, ⟨0, none⟩, ⟨0, none⟩, ⟨0, none⟩, ⟨0, none⟩, ⟨0, none⟩, ⟨0, none⟩, ⟨0, none⟩, ⟨0, none⟩, ⟨0, none⟩, ⟨0, none⟩, ⟨0, none⟩, ⟨0, none⟩, ⟨0, none⟩, ⟨0, none⟩, ⟨0, none⟩, ⟨0, none⟩, ⟨0, none⟩, ⟨0, none⟩, ⟨0, none⟩, ⟨0, none⟩, ⟨0, none⟩, ⟨0, none⟩, ⟨0, none⟩, ⟨0, none⟩, ⟨0, none⟩, ⟨0, none⟩, ⟨0, none⟩, ⟨0, none⟩, ⟨0, none⟩, ⟨0, none⟩, ⟨0, none⟩, ⟨0, none⟩, ⟨0, none⟩, ⟨0, none⟩, ⟨0, none⟩, ⟨0, none⟩, ⟨0, none⟩, ⟨0, none⟩, ⟨0, none⟩, ⟨0, none⟩, ⟨0, none⟩, ⟨0, none⟩, ⟨0, none⟩, ⟨0, none⟩, ⟨0, none⟩, ⟨0, none⟩, ⟨0, none⟩, ⟨0, none⟩, ⟨0, none⟩, ⟨0, none⟩, ⟨0, none⟩, ⟨0, none⟩, ⟨0, none⟩, ⟨0, none⟩, ⟨0, none⟩, ⟨0, none⟩, ⟨0, none⟩, ⟨0, none⟩, ⟨0, none⟩, ⟨0, none⟩, ⟨0, none⟩, ⟨0, none⟩, ⟨0, none⟩, ⟨0, none⟩, ⟨0, none⟩, ⟨0, none⟩, ⟨0, none⟩, ⟨0, none⟩, ⟨0, none⟩, ⟨0, none⟩, ⟨0, none⟩, ⟨0, none⟩, ⟨0, none⟩, ⟨0, none⟩, ⟨0, none⟩, ⟨0, none⟩, ⟨0, none⟩, ⟨0, none⟩, ⟨0, none⟩, ⟨0, none⟩, ⟨0, none⟩, ⟨0, none⟩, ⟨0, none⟩, ⟨0, none⟩, ⟨0, none⟩, ⟨0, none⟩, ⟨0, none⟩, ⟨0, none⟩, ⟨0, none⟩, ⟨0, none⟩, ⟨0, none⟩, ⟨0, none⟩, ⟨0, none⟩, ⟨0, none⟩, ⟨0, none⟩, ⟨0, none⟩, ⟨0, none⟩], List.replicate 120 0⟩
theorem f7_l2_eq (run : Run) (n : Nat) (k0 : Nat) (k2 : Nat) (x1_2 : List AV) (x2_2 : List AV) (x7_2 : List AV) (x8_2 : Int) (x9_1 : List AV) (x10_1 : Int) (o3_2 : List UInt8) : f7_l2 run n k0 (k2 + 1) x1_2 x2_2 x7_2 x8_2 x9_1 x10_1 o3_2 =
  bif ltI x10_1 257 then
    (run 18 [.slice x7_2, .int x10_1]).bind fun r5 =>
    nilV r5.outs (consV r5.vals fun v5 vs5 =>
    consV vs5 fun _v6 vs6 =>
    nilV vs6 ((run 18 [.slice x9_1, .int x10_1]).bind fun r6 =>
    nilV r6.outs (consV r6.vals fun v7 vs7 =>
    consV vs7 fun _v8 vs8 =>
    nilV vs8 (bif inR x8_2 x2_2.length then
    bif leI x10_1 (mx2 ((nth x2_2 (Int.toNat x8_2)).toInt) 0) then
    bif leI x10_1 255 then
    bif inR x8_2 x1_2.length then
    bif !(eqS v7.toBlob ((nth x1_2 (Int.toNat x8_2)).toBlob)) then
    some ⟨[.bool false], [], f7_fresh⟩
  else
    bif inR x8_2 x2_2.length then
    bif ltI (mx2 ((nth x2_2 (Int.toNat x8_2)).toInt) 0) x10_1 then
    bif !(eqS v7.toBlob v5.toBlob) then
    some ⟨[.bool false], [], f7_fresh⟩
  else
    f7_l2 run n k0 k2 x1_2 x2_2 x7_2 x8_2 x9_1 (IntKind.wrap .i64 (x10_1 + 1)) o3_2
  else
    f7_l2 run n k0 k2 x1_2 x2_2 x7_2 x8_2 x9_1 (IntKind.wrap .i64 (x10_1 + 1)) o3_2
  else none
  else none
  else
    bif inR x8_2 x2_2.length then
    bif ltI (mx2 ((nth x2_2 (Int.toNat x8_2)).toInt) 0) x10_1 then
    bif !(eqS v7.toBlob v5.toBlob) then
    some ⟨[.bool false], [], f7_fresh⟩
  else
    f7_l2 run n k0 k2 x1_2 x2_2 x7_2 x8_2 x9_1 (IntKind.wrap .i64 (x10_1 + 1)) o3_2
  else
    f7_l2 run n k0 k2 x1_2 x2_2 x7_2 x8_2 x9_1 (IntKind.wrap .i64 (x10_1 + 1)) o3_2
  else none
  else
    bif inR x8_2 x2_2.length then
    bif ltI (mx2 ((nth x2_2 (Int.toNat x8_2)).toInt) 0) x10_1 then
    bif !(eqS v7.toBlob v5.toBlob) then
    some ⟨[.bool false], [], f7_fresh⟩
  else
    f7_l2 run n k0 k2 x1_2 x2_2 x7_2 x8_2 x9_1 (IntKind.wrap .i64 (x10_1 + 1)) o3_2
  else
    f7_l2 run n k0 k2 x1_2 x2_2 x7_2 x8_2 x9_1 (IntKind.wrap .i64 (x10_1 + 1)) o3_2
  else none
  else none))))
  else
    f7_l0 run n k0 x1_2 x2_2 x9_1 (IntKind.wrap .i64 (x8_2 + 1)) o3_2 := by kernel_rfl
theorem f7_l0_eq (run : Run) (n : Nat) (k0 : Nat) (x1_1 : List AV) (x2_1 : List AV) (x7_1 : List AV) (x8_1 : Int) (o3_1 : List UInt8) : f7_l0 run n (k0 + 1) x1_1 x2_1 x7_1 x8_1 o3_1 =
  bif ltI x8_1 (x1_1.length : Int) then
    bif inR x8_1 x1_1.length then
    bif inR x8_1 x2_1.length then
    (run 12 [.slice x7_1, .blob ((nth x1_1 (Int.toNat x8_1)).toBlob), .int ((nth x2_1 (Int.toNat x8_1)).toInt)]).bind fun r4 =>
    nilV r4.outs (consV r4.vals fun v4 vs4 =>
    nilV vs4 (bif eqI (v4.toSlice.length : Int) 0 then
    some ⟨[.bool false], [], f7_fresh⟩
  else
    bif ltI (v4.toSlice.length : Int) (x7_1.length : Int) then
    some ⟨[.bool false], [], f7_fresh⟩
  else
    bif ltI 257 (v4.toSlice.length : Int) then
    some ⟨[.bool false], [], f7_fresh⟩
  else
    bif inR (IntKind.wrap .i64 ((v4.toSlice.length : Int) - 1)) v4.toSlice.length then
    bif !(eqS ((nth v4.toSlice (Int.toNat (IntKind.wrap .i64 ((v4.toSlice.length : Int) - 1)))).toBlob) o3_1) then
    some ⟨[.bool false], [], f7_fresh⟩
  else
    f7_l2 run n k0 n x1_1 x2_1 x7_1 x8_1 v4.toSlice 0 o3_1
  else none))
  else none
  else none
  else
    (run 9 []).bind fun r7 =>
    nilV r7.outs (consV r7.vals fun v9 vs9 =>
    nilV vs9 (some ⟨[.bool v9.toBool], [], f7_fresh⟩)) := by kernel_rfl
noncomputable def f7 (run : Run) (n : Nat) (a0_1 : List UInt8) (a1_1 : List AV) (a2_1 : List AV) : Option Res := evalK G run n f7_info.keep 0 f7_info.body (retE G f7_info) (f7_info.start [.blob a0_1, .slice a1_1, .slice a2_1])
theorem f7_eq (run : Run) (n : Nat) (a0_1 : List UInt8) (a1_1 : List AV) (a2_1 : List AV) : f7 run n a0_1 a1_1 a2_1 =
  bif ltI 60 (a1_1.length : Int) then
    (run 9 []).bind fun r1 =>
    nilV r1.outs (consV r1.vals fun v1 vs1 =>
    nilV vs1 (some ⟨[.bool v1.toBool], [], f7_fresh⟩))
  else
    bif ltI (a2_1.length : Int) (a1_1.length : Int) then
    (run 9 []).bind fun r2 =>
    nilV r2.outs (consV r2.vals fun v2 vs2 =>
    nilV vs2 (some ⟨[.bool v2.toBool], [], f7_fresh⟩))
  else
    (run 10 [.blob a0_1]).bind fun r3 =>
    bif r3.fresh then
    nilV r3.outs (consV r3.vals fun v3 vs3 =>
    nilV vs3 (f7_l0 run n n a1_1 a2_1 v3.toSlice 0 a0_1))
  else none := by kernel_rfl
theorem f7_run (ext : Run) (n : Nat) (a0_1 : List UInt8) (a1_1 : List AV) (a2_1 : List AV) : runE G ext (n + 1) 7 [.blob a0_1, .slice a1_1, .slice a2_1] = f7 (runE G ext n) n a0_1 a1_1 a2_1 := runE_succ f7_at f7_in

noncomputable def f24_l0 (run : Run) (n : Nat) (k0 : Nat) (x0_1 : List AV) (x2_1 : Int) (x7_1 : Int) : Option Res :=
  iterK (evalK G run n f24_keep 0 (sub [1, 0, 1, 0, 0] f24_body)) f24_t0 f24_o0 (blockK 0 (seqK (evalK G run n f24_keep 0 (sub [1, 1] f24_body) (retE G f24_info)) (retE G f24_info))) k0
    ⟨[.val (.slice (.int .i64)) none (.slice x0_1), .any, .val (.int .i64) none (.int x2_1), .any, .any, .any, .any, .val (.int .i64) none (.int x7_1), .any, .any, .any, .any, .any, .any, .any, .any, .any, .any, .any, .any, .any, .any, .any, .any], [⟨0, none⟩, ⟨0, none⟩, ⟨0, none⟩, ⟨0, none⟩, ⟨0, none⟩, ⟨0, none⟩, ⟨0, none⟩, ⟨0, none⟩, ⟨0, none⟩, ⟨0, none⟩, ⟨0, none⟩, ⟨0, none⟩, ⟨0, none⟩, ⟨0, none⟩, ⟨0, none⟩, ⟨0, none⟩, ⟨0, none⟩, ⟨0, none⟩, ⟨0, none⟩, ⟨0, none⟩, ⟨0, none⟩, ⟨0, none⟩, ⟨0, none⟩, ⟨0, none⟩], List.replicate 24 0⟩
theorem f24_l0_eq (run : Run) (n : Nat) (k0 : Nat) (x0_1 : List AV) (x2_1 : Int) (x7_1 : Int) : f24_l0 run n (k0 + 1) x0_1 x2_1 x7_1 =
  bif leI 0 x7_1 then
    bif inR x7_1 x0_1.length then
    bif leI x2_1 ((nth x0_1 (Int.toNat x7_1)).toInt) then
    some ⟨[.int x7_1], [], f24_fresh⟩
  else
    f24_l0 run n k0 x0_1 x2_1 (IntKind.wrap .i64 (x7_1 - 1))
  else none
  else
    some ⟨[.int (-1)], [], f24_fresh⟩ := by kernel_rfl
noncomputable def f24 (run : Run) (n : Nat) (a0_1 : List AV) (a1_1 : Int) (a2_1 : Int) : Option Res := evalK G run n f24_info.keep 0 f24_info.body (retE G f24_info) (f24_info.start [.slice a0_1, .int a1_1, .int a2_1])
theorem f24_eq (run : Run) (n : Nat) (a0_1 : List AV) (a1_1 : Int) (a2_1 : Int) : f24 run n a0_1 a1_1 a2_1 =
  f24_l0 run n n a0_1 a2_1 (IntKind.wrap .i64 (mn2 a1_1 (a0_1.length : Int) - 1)) := by kernel_rfl
theorem f24_run (ext : Run) (n : Nat) (a0_1 : List AV) (a1_1 : Int) (a2_1 : Int) : runE G ext (n + 1) 24 [.slice a0_1, .int a1_1, .int a2_1] = f24 (runE G ext n) n a0_1 a1_1 a2_1 := runE_succ f24_at f24_in

noncomputable def f20_l0 (run : Run) (n : Nat) (k0 : Nat) (x0_1 : List AV) (x1_1 : Int) (x5_1 : List AV) (x17_1 : Int) : Option Res :=
  iterK (evalK G run n f20_keep 0 (sub [1, 1, 1, 0, 1, 0, 0] f20_body)) f20_t0 f20_o0 (blockK 0 (seqK (evalK G run n f20_keep 0 (sub [1, 1, 1, 1] f20_body) (retE G f20_info)) (retE G f20_info))) k0
    ⟨[.val (.slice (.int .i64)) none (.slice x0_1), .val (.int .i64) none (.int x1_1), .any, .any, .any, .val (.slice (.int .i64)) (some (5, 0)) (.slice x5_1), .any, .any, .any, .any, .any, .any, .any, .any, .any, .any, .any, .val (.int .i64) none (.int x17_1), .any, .any, .any, .any, .any, .any, .any, .any, .any, .any, .any, .any, .any, .any, .any, .any], [⟨0, none⟩, ⟨0, none⟩, ⟨0, none⟩, ⟨0, none⟩, ⟨0, none⟩, ⟨0, none⟩, ⟨0, none⟩, ⟨0, none⟩, ⟨0, none⟩, ⟨0, none⟩, ⟨0, none⟩, ⟨0, none⟩, ⟨0, none⟩, ⟨0, none⟩, ⟨0, none⟩, ⟨0, none⟩, ⟨0, none⟩, ⟨0, none⟩, ⟨0, none⟩, ⟨0, none⟩, ⟨0, none⟩, ⟨0, none⟩, ⟨0, none⟩, ⟨0, none⟩, ⟨0, none⟩, ⟨0, none⟩, ⟨0, none⟩, ⟨0, none⟩, ⟨0, none⟩, ⟨0, none⟩, ⟨0, none⟩, ⟨0, none⟩, ⟨0, none⟩, ⟨0, none⟩], List.replicate 34 0⟩
theorem f20_l0_eq (run : Run) (n : Nat) (k0 : Nat) (x0_1 : List AV) (x1_1 : Int) (x5_1 : List AV) (x17_1 : Int) : f20_l0 run n (k0 + 1) x0_1 x1_1 x5_1 x17_1 =
  bif ltI x17_1 257 then
    (run 24 [.slice x0_1, .int x1_1, .int x17_1]).bind fun r1 =>
    nilV r1.outs (consV r1.vals fun v1 vs1 =>
    nilV vs1 (bif ltI v1.toInt 0 then
    some ⟨[.slice x5_1], [], f20_fresh⟩
  else
    bif Nat.ble ((x5_1.length + 1) * 8) 140737488355328 then
    bif eqI v1.toInt 0 then
    some ⟨[.slice (x5_1 ++ [.int v1.toInt])], [], f20_fresh⟩
  else
    f20_l0 run n k0 x0_1 x1_1 (x5_1 ++ [.int v1.toInt]) (IntKind.wrap .i64 (x17_1 + 1))
  else none))
  else
    some ⟨[.slice x5_1], [], f20_fresh⟩ := by kernel_rfl
noncomputable def f20 (run : Run) (n : Nat) (a0_1 : List AV) (a1_1 : Int) : Option Res := evalK G run n f20_info.keep 0 f20_info.body (retE G f20_info) (f20_info.start [.slice a0_1, .int a1_1])
theorem f20_eq (run : Run) (n : Nat) (a0_1 : List AV) (a1_1 : Int) : f20 run n a0_1 a1_1 =
  bif ltI a1_1 1 then
    some ⟨[.slice []], [], f20_fresh⟩
  else
    bif ltI (a0_1.length : Int) a1_1 then
    some ⟨[.slice []], [], f20_fresh⟩
  else
    f20_l0 run n n a0_1 a1_1 [] 0 := by kernel_rfl
theorem f20_run (ext : Run) (n : Nat) (a0_1 : List AV) (a1_1 : Int) : runE G ext (n + 1) 20 [.slice a0_1, .int a1_1] = f20 (runE G ext n) n a0_1 a1_1 := runE_succ f20_at f20_in

noncomputable def f19_l0 (run : Run) (n : Nat) (k0 : Nat) (x0_1 : List AV) (x1_1 : List AV) (x5_1 : Int) : Option Res :=
  iterK (evalK G run n f19_keep 0 (sub [1, 1, 0, 1, 0, 0] f19_body)) f19_t0 f19_o0 (blockK 0 (seqK (evalK G run n f19_keep 0 (sub [1, 1, 1] f19_body) (retE G f19_info)) (retE G f19_info))) k0
    ⟨[.val (.slice (.int .i64)) none (.slice x0_1), .val (.slice (.int .i64)) none (.slice x1_1), .any, .any, .any, .val (.int .i64) none (.int x5_1), .any, .any, .any, .any, .any, .any, .any, .any, .any, .any, .any, .any, .any, .any, .any, .any, .any, .any, .any, .any], [⟨0, none⟩, ⟨0, none⟩, ⟨0, none⟩, ⟨0, none⟩, ⟨0, none⟩, ⟨0, none⟩, ⟨0, none⟩, ⟨0, none⟩, ⟨0, none⟩, ⟨0, none⟩, ⟨0, none⟩, ⟨0, none⟩, ⟨0, none⟩, ⟨0, none⟩, ⟨0, none⟩, ⟨0, none⟩, ⟨0, none⟩, ⟨0, none⟩, ⟨0, none⟩, ⟨0, none⟩, ⟨0, none⟩, ⟨0, none⟩, ⟨0, none⟩, ⟨0, none⟩, ⟨0, none⟩, ⟨0, none⟩], List.replicate 26 0⟩
theorem f19_l0_eq (run : Run) (n : Nat) (k0 : Nat) (x0_1 : List AV) (x1_1 : List AV) (x5_1 : Int) : f19_l0 run n (k0 + 1) x0_1 x1_1 x5_1 =
  bif ltI x5_1 (x0_1.length : Int) then
    bif inR x5_1 x0_1.length then
    bif inR x5_1 x1_1.length then
    bif !(eqI ((nth x0_1 (Int.toNat x5_1)).toInt) ((nth x1_1 (Int.toNat x5_1)).toInt)) then
    some ⟨[.bool false], [], f19_fresh⟩
  else
    f19_l0 run n k0 x0_1 x1_1 (IntKind.wrap .i64 (x5_1 + 1))
  else none
  else none
  else
    some ⟨[.bool true], [], f19_fresh⟩ := by kernel_rfl
noncomputable def f19 (run : Run) (n : Nat) (a0_1 : List AV) (a1_1 : List AV) : Option Res := evalK G run n f19_info.keep 0 f19_info.body (retE G f19_info) (f19_info.start [.slice a0_1, .slice a1_1])
theorem f19_eq (run : Run) (n : Nat) (a0_1 : List AV) (a1_1 : List AV) : f19 run n a0_1 a1_1 =
  bif !(eqI (a0_1.length : Int) (a1_1.length : Int)) then
    some ⟨[.bool false], [], f19_fresh⟩
  else
    f19_l0 run n n a0_1 a1_1 0 := by kernel_rfl
theorem f19_run (ext : Run) (n : Nat) (a0_1 : List AV) (a1_1 : List AV) : runE G ext (n + 1) 19 [.slice a0_1, .slice a1_1] = f19 (runE G ext n) n a0_1 a1_1 := runE_succ f19_at f19_in

noncomputable def f22 (run : Run) (n : Nat) : Option Res := evalK G run n f22_info.keep 0 f22_info.body (retE G f22_info) (f22_info.start [])
theorem f22_eq (run : Run) (n : Nat) : f22 run n  =
  (run 20 [.slice [.int 256, .int 0, .int 2, .int 0], .int 4]).bind fun r1 =>
    bif r1.fresh then
    nilV r1.outs (consV r1.vals fun v1 vs1 =>
    nilV vs1 ((run 19 [.slice v1.toSlice, .slice [.int 3, .int 2, .int 2, .int 0]]).bind fun r2 =>
    nilV r2.outs (consV r2.vals fun v2 vs2 =>
    nilV vs2 (some ⟨[.bool v2.toBool], [], f22_fresh⟩))))
  else none := by kernel_rfl
theorem f22_run (ext : Run) (n : Nat) : runE G ext (n + 1) 22 [] = f22 (runE G ext n) n  := runE_succ f22_at f22_in

noncomputable def f25_l0 (run : Run) (n : Nat) (k0 : Nat) (x0_1 : List AV) (x1_1 : Int) (x2_1 : Int) (x7_1 : Int) (x8_1 : Int) : Option Res :=
  iterK (evalK G run n f25_keep 0 (sub [1, 1, 0, 1, 0, 0] f25_body)) f25_t0 f25_o0 (blockK 0 (seqK (evalK G run n f25_keep 0 (sub [1, 1, 1] f25_body) (retE G f25_info)) (retE G f25_info))) k0
    ⟨[.val (.slice (.int .i64)) none (.slice x0_1), .val (.int .i64) none (.int x1_1), .val (.int .i64) none (.int x2_1), .any, .any, .any, .any, .val (.int .i64) none (.int x7_1), .val (.int .i64) none (.int x8_1), .any, .any, .any, .any, .any, .any, .any, .any, .any, .any, .any, .any, .any, .any, .any, .any, .any, .any, .any], [⟨0, none⟩, ⟨0, none⟩, ⟨0, none⟩, ⟨0, none⟩, ⟨0, none⟩, ⟨0, none⟩, ⟨0, none⟩, ⟨0, none⟩, ⟨0, none⟩, ⟨0, none⟩, ⟨0, none⟩, ⟨0, none⟩, ⟨0, none⟩, ⟨0, none⟩, ⟨0, none⟩, ⟨0, none⟩, ⟨0, none⟩, ⟨0, none⟩, ⟨0, none⟩, ⟨0, none⟩, ⟨0, none⟩, ⟨0, none⟩, ⟨0, none⟩, ⟨0, none⟩, ⟨0, none⟩, ⟨0, none⟩, ⟨0, none⟩, ⟨0, none⟩], List.replicate 28 0⟩
theorem f25_l0_eq (run : Run) (n : Nat) (k0 : Nat) (x0_1 : List AV) (x1_1 : Int) (x2_1 : Int) (x7_1 : Int) (x8_1 : Int) : f25_l0 run n (k0 + 1) x0_1 x1_1 x2_1 x7_1 x8_1 =
  bif ltI x8_1 (x0_1.length : Int) then
    bif ltI x8_1 x1_1 then
    bif inR x8_1 x0_1.length then
    bif leI x2_1 ((nth x0_1 (Int.toNat x8_1)).toInt) then
    f25_l0 run n k0 x0_1 x1_1 x2_1 x8_1 (IntKind.wrap .i64 (x8_1 + 1))
  else
    f25_l0 run n k0 x0_1 x1_1 x2_1 x7_1 (IntKind.wrap .i64 (x8_1 + 1))
  else none
  else
    some ⟨[.int x7_1], [], f25_fresh⟩
  else
    some ⟨[.int x7_1], [], f25_fresh⟩ := by kernel_rfl
noncomputable def f25 (run : Run) (n : Nat) (a0_1 : List AV) (a1_1 : Int) (a2_1 : Int) : Option Res := evalK G run n f25_info.keep 0 f25_info.body (retE G f25_info) (f25_info.start [.slice a0_1, .int a1_1, .int a2_1])
theorem f25_eq (run : Run) (n : Nat) (a0_1 : List AV) (a1_1 : Int) (a2_1 : Int) : f25 run n a0_1 a1_1 a2_1 =
  f25_l0 run n n a0_1 a1_1 a2_1 (-1) 0 := by kernel_rfl
theorem f25_run (ext : Run) (n : Nat) (a0_1 : List AV) (a1_1 : Int) (a2_1 : Int) : runE G ext (n + 1) 25 [.slice a0_1, .int a1_1, .int a2_1] = f25 (runE G ext n) n a0_1 a1_1 a2_1 := runE_succ f25_at f25_in

noncomputable def f21_l0 (run : Run) (n : Nat) (k0 : Nat) (x0_1 : List AV) (x1_1 : Int) (x5_1 : List AV) (x6_1 : Int) : Option Res :=
  iterK (evalK G run n f21_keep 0 (sub [1, 1, 1, 0, 1, 0, 0] f21_body)) f21_t0 f21_o0 (blockK 0 (seqK (evalK G run n f21_keep 0 (sub [1, 1, 1, 1] f21_body) (retE G f21_info)) (retE G f21_info))) k0
    ⟨[.val (.slice (.int .i64)) none (.slice x0_1), .val (.int .i64) none (.int x1_1), .any, .any, .any, .val (.slice (.int .i64)) (some (5, 0)) (.slice x5_1), .val (.int .i64) none (.int x6_1), .any, .any, .any, .any, .any, .any, .any, .any, .any, .any, .any, .any, .any, .any, .any, .any, .any, .any, .any, .any, .any, .any, .any, .any, .any, .any, .any, .any], [⟨0, none⟩, ⟨0, none⟩, ⟨0, none⟩, ⟨0, none⟩, ⟨0, none⟩, ⟨0, none⟩, ⟨0, none⟩, ⟨0, none⟩, ⟨0, none⟩, ⟨0, none⟩, ⟨0, none⟩, ⟨0, none⟩, ⟨0, none⟩, ⟨0, none⟩, ⟨0, none⟩, ⟨0, none⟩, ⟨0, none⟩, ⟨0, none⟩, ⟨0, none⟩, ⟨0, none⟩, ⟨0, none⟩, ⟨0, none⟩, ⟨0, none⟩, ⟨0, none⟩, ⟨0, none⟩, ⟨0, none⟩, ⟨0, none⟩, ⟨0, none⟩, ⟨0, none⟩, ⟨0, none⟩, ⟨0, none⟩, ⟨0, none⟩, ⟨0, none⟩, ⟨0, none⟩, ⟨0, none⟩], List.replicate 35 0⟩
theorem f21_l0_eq (run : Run) (n : Nat) (k0 : Nat) (x0_1 : List AV) (x1_1 : Int) (x5_1 : List AV) (x6_1 : Int) : f21_l0 run n (k0 + 1) x0_1 x1_1 x5_1 x6_1 =
  bif ltI x6_1 257 then
    (run 25 [.slice x0_1, .int x1_1, .int x6_1]).bind fun r1 =>
    nilV r1.outs (consV r1.vals fun v1 vs1 =>
    nilV vs1 (bif ltI v1.toInt 0 then
    some ⟨[.slice x5_1], [], f21_fresh⟩
  else
    bif Nat.ble ((x5_1.length + 1) * 8) 140737488355328 then
    bif eqI v1.toInt 0 then
    some ⟨[.slice (x5_1 ++ [.int v1.toInt])], [], f21_fresh⟩
  else
    f21_l0 run n k0 x0_1 x1_1 (x5_1 ++ [.int v1.toInt]) (IntKind.wrap .i64 (x6_1 + 1))
  else none))
  else
    some ⟨[.slice x5_1], [], f21_fresh⟩ := by kernel_rfl
noncomputable def f21 (run : Run) (n : Nat) (a0_1 : List AV) (a1_1 : Int) : Option Res := evalK G run n f21_info.keep 0 f21_info.body (retE G f21_info) (f21_info.start [.slice a0_1, .int a1_1])
theorem f21_eq (run : Run) (n : Nat) (a0_1 : List AV) (a1_1 : Int) : f21 run n a0_1 a1_1 =
  bif ltI a1_1 1 then
    some ⟨[.slice []], [], f21_fresh⟩
  else
    bif ltI (a0_1.length : Int) a1_1 then
    some ⟨[.slice []], [], f21_fresh⟩
  else
    f21_l0 run n n a0_1 a1_1 [] 0 := by kernel_rfl
theorem f21_run (ext : Run) (n : Nat) (a0_1 : List AV) (a1_1 : Int) : runE G ext (n + 1) 21 [.slice a0_1, .int a1_1] = f21 (runE G ext n) n a0_1 a1_1 := runE_succ f21_at f21_in

noncomputable def f8 (run : Run) (n : Nat) (a0_1 : List AV) (a1_1 : Int) : Option Res := evalK G run n f8_info.keep 0 f8_info.body (retE G f8_info) (f8_info.start [.slice a0_1, .int a1_1])
theorem f8_eq (run : Run) (n : Nat) (a0_1 : List AV) (a1_1 : Int) : f8 run n a0_1 a1_1 =
  bif ltI 200 (a0_1.length : Int) then
    (run 22 []).bind fun r1 =>
    nilV r1.outs (consV r1.vals fun v1 vs1 =>
    nilV vs1 (some ⟨[.bool v1.toBool], [], f8_fresh⟩))
  else
    (run 20 [.slice a0_1, .int a1_1]).bind fun r2 =>
    bif r2.fresh then
    nilV r2.outs (consV r2.vals fun v2 vs2 =>
    nilV vs2 ((run 21 [.slice a0_1, .int a1_1]).bind fun r3 =>
    bif r3.fresh then
    nilV r3.outs (consV r3.vals fun v3 vs3 =>
    nilV vs3 ((run 19 [.slice v2.toSlice, .slice v3.toSlice]).bind fun r4 =>
    nilV r4.outs (consV r4.vals fun v4 vs4 =>
    nilV vs4 (bif v4.toBool then
    (run 22 []).bind fun r5 =>
    nilV r5.outs (consV r5.vals fun v5 vs5 =>
    nilV vs5 (some ⟨[.bool v5.toBool], [], f8_fresh⟩))
  else
    some ⟨[.bool false], [], f8_fresh⟩))))
  else none))
  else none := by kernel_rfl
theorem f8_run (ext : Run) (n : Nat) (a0_1 : List AV) (a1_1 : Int) : runE G ext (n + 1) 8 [.slice a0_1, .int a1_1] = f8 (runE G ext n) n a0_1 a1_1 := runE_succ f8_at f8_in

theorem f10_ok : FnOk Try.prog 10 f10_info Try.f10 where
  at_ := Try.func10
  body := by kernel_rfl
  results := by kernel_rfl
  ntmps := by kernel_rfl
  params := Nat.le_of_ble_eq_true (by kernel_rfl)
  name := by kernel_rfl

theorem f12_ok : FnOk Try.prog 12 f12_info Try.f12 where
  at_ := Try.func12
  body := by kernel_rfl
  results := by kernel_rfl
  ntmps := by kernel_rfl
  params := Nat.le_of_ble_eq_true (by kernel_rfl)
  name := by kernel_rfl

theorem f9_ok : FnOk Try.prog 9 f9_info Try.f9 where
  at_ := Try.func9
  body := by kernel_rfl
  results := by kernel_rfl
  ntmps := by kernel_rfl
  params := Nat.le_of_ble_eq_true (by kernel_rfl)
  name := by kernel_rfl

theorem f13_ok : FnOk Try.prog 13 f13_info Try.f13 where
  at_ := Try.func13
  body := by kernel_rfl
  results := by kernel_rfl
  ntmps := by kernel_rfl
  params := Nat.le_of_ble_eq_true (by kernel_rfl)
  name := by kernel_rfl

theorem f11_ok : FnOk Try.prog 11 f11_info Try.f11 where
  at_ := Try.func11
  body := by kernel_rfl
  results := by kernel_rfl
  ntmps := by kernel_rfl
  params := Nat.le_of_ble_eq_true (by kernel_rfl)
  name := by kernel_rfl

theorem f3_ok : FnOk Try.prog 3 f3_info Try.f3 where
  at_ := Try.func3
  body := by kernel_rfl
  results := by kernel_rfl
  ntmps := by kernel_rfl
  params := Nat.le_of_ble_eq_true (by kernel_rfl)
  name := by kernel_rfl

theorem f14_ok : FnOk Try.prog 14 f14_info Try.f14 where
  at_ := Try.func14
  body := by kernel_rfl
  results := by kernel_rfl
  ntmps := by kernel_rfl
  params := Nat.le_of_ble_eq_true (by kernel_rfl)
  name := by kernel_rfl

theorem f26_ok : FnOk Try.prog 26 f26_info Try.f26 where
  at_ := Try.func26
  body := by kernel_rfl
  results := by kernel_rfl
  ntmps := by kernel_rfl
  params := Nat.le_of_ble_eq_true (by kernel_rfl)
  name := by kernel_rfl

theorem f23_ok : FnOk Try.prog 23 f23_info Try.f23 where
  at_ := Try.func23
  body := by kernel_rfl
  results := by kernel_rfl
  ntmps := by kernel_rfl
  params := Nat.le_of_ble_eq_true (by kernel_rfl)
  name := by kernel_rfl

theorem f15_ok : FnOk Try.prog 15 f15_info Try.f15 where
  at_ := Try.func15
  body := by kernel_rfl
  results := by kernel_rfl
  ntmps := by kernel_rfl
  params := Nat.le_of_ble_eq_true (by kernel_rfl)
  name := by kernel_rfl

theorem f17_ok : FnOk Try.prog 17 f17_info Try.f17 where
  at_ := Try.func17
  body := by kernel_rfl
  results := by kernel_rfl
  ntmps := by kernel_rfl
  params := Nat.le_of_ble_eq_true (by kernel_rfl)
  name := by kernel_rfl

theorem f16_ok : FnOk Try.prog 16 f16_info Try.f16 where
  at_ := Try.func16
  body := by kernel_rfl
  results := by kernel_rfl
  ntmps := by kernel_rfl
  params := Nat.le_of_ble_eq_true (by kernel_rfl)
  name := by kernel_rfl

theorem f4_ok : FnOk Try.prog 4 f4_info Try.f4 where
  at_ := Try.func4
  body := by kernel_rfl
  results := by kernel_rfl
  ntmps := by kernel_rfl
  params := Nat.le_of_ble_eq_true (by kernel_rfl)
  name := by kernel_rfl

theorem f5_ok : FnOk Try.prog 5 f5_info Try.f5 where
  at_ := Try.func5
  body := by kernel_rfl
  results := by kernel_rfl
  ntmps := by kernel_rfl
  params := Nat.le_of_ble_eq_true (by kernel_rfl)
  name := by kernel_rfl

theorem f18_ok : FnOk Try.prog 18 f18_info Try.f18 where
  at_ := Try.func18
  body := by kernel_rfl
  results := by kernel_rfl
  ntmps := by kernel_rfl
  params := Nat.le_of_ble_eq_true (by kernel_rfl)
  name := by kernel_rfl

theorem f6_ok : FnOk Try.prog 6 f6_info Try.f6 where
  at_ := Try.func6
  body := by kernel_rfl
  results := by kernel_rfl
  ntmps := by kernel_rfl
  params := Nat.le_of_ble_eq_true (by kernel_rfl)
  name := by kernel_rfl

theorem f7_ok : FnOk Try.prog 7 f7_info Try.f7 where
  at_ := Try.func7
  body := by kernel_rfl
  results := by kernel_rfl
  ntmps := by kernel_rfl
  params := Nat.le_of_ble_eq_true (by kernel_rfl)
  name := by kernel_rfl

theorem f24_ok : FnOk Try.prog 24 f24_info Try.f24 where
  at_ := Try.func24
  body := by kernel_rfl
  results := by kernel_rfl
  ntmps := by kernel_rfl
  params := Nat.le_of_ble_eq_true (by kernel_rfl)
  name := by kernel_rfl

theorem f20_ok : FnOk Try.prog 20 f20_info Try.f20 where
  at_ := Try.func20
  body := by kernel_rfl
  results := by kernel_rfl
  ntmps := by kernel_rfl
  params := Nat.le_of_ble_eq_true (by kernel_rfl)
  name := by kernel_rfl

theorem f19_ok : FnOk Try.prog 19 f19_info Try.f19 where
  at_ := Try.func19
  body := by kernel_rfl
  results := by kernel_rfl
  ntmps := by kernel_rfl
  params := Nat.le_of_ble_eq_true (by kernel_rfl)
  name := by kernel_rfl

theorem f22_ok : FnOk Try.prog 22 f22_info Try.f22 where
  at_ := Try.func22
  body := by kernel_rfl
  results := by kernel_rfl
  ntmps := by kernel_rfl
  params := Nat.le_of_ble_eq_true (by kernel_rfl)
  name := by kernel_rfl

theorem f25_ok : FnOk Try.prog 25 f25_info Try.f25 where
  at_ := Try.func25
  body := by kernel_rfl
  results := by kernel_rfl
  ntmps := by kernel_rfl
  params := Nat.le_of_ble_eq_true (by kernel_rfl)
  name := by kernel_rfl

theorem f21_ok : FnOk Try.prog 21 f21_info Try.f21 where
  at_ := Try.func21
  body := by kernel_rfl
  results := by kernel_rfl
  ntmps := by kernel_rfl
  params := Nat.le_of_ble_eq_true (by kernel_rfl)
  name := by kernel_rfl

theorem f8_ok : FnOk Try.prog 8 f8_info Try.f8 where
  at_ := Try.func8
  body := by kernel_rfl
  results := by kernel_rfl
  ntmps := by kernel_rfl
  params := Nat.le_of_ble_eq_true (by kernel_rfl)
  name := by kernel_rfl

theorem types_ok : TyAll Try.prog G := tyAll_of (by kernel_rfl) (by kernel_rfl) (by kernel_rfl)

theorem fns_ok : FnsAll Try.prog G.fns := ⟨⟨_, f10_ok⟩, ⟨⟨_, f12_ok⟩, ⟨⟨_, f9_ok⟩, ⟨⟨_, f13_ok⟩, ⟨⟨_, f11_ok⟩, ⟨⟨_, f3_ok⟩, ⟨⟨_, f14_ok⟩, ⟨⟨_, f26_ok⟩, ⟨⟨_, f23_ok⟩, ⟨⟨_, f15_ok⟩, ⟨⟨_, f17_ok⟩, ⟨⟨_, f16_ok⟩, ⟨⟨_, f4_ok⟩, ⟨⟨_, f5_ok⟩, ⟨⟨_, f18_ok⟩, ⟨⟨_, f6_ok⟩, ⟨⟨_, f7_ok⟩, ⟨⟨_, f24_ok⟩, ⟨⟨_, f20_ok⟩, ⟨⟨_, f19_ok⟩, ⟨⟨_, f22_ok⟩, ⟨⟨_, f25_ok⟩, ⟨⟨_, f21_ok⟩, ⟨⟨_, f8_ok⟩, trivial⟩⟩⟩⟩⟩⟩⟩⟩⟩⟩⟩⟩⟩⟩⟩⟩⟩⟩⟩⟩⟩⟩⟩⟩

end Go.Proofs.Ytgfplmaehbhapaa.Ev


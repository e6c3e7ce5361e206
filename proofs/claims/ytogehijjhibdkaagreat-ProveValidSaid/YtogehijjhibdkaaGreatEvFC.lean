/- What the evaluator does with the functions, as programs over plain values: printed by gen.py, checked by the kernel. -/
import Derived.Test.YtogehijjhibdkaaGreatEvFA
namespace Go.Proofs.YtogehijjhibdkaaGreat.Ev
open Go Go.RowKit
set_option maxRecDepth 100000


noncomputable def f208_l0 (run : Run) (n : Nat) (k0 : Nat) (x0_1 : List UInt8) (x9_1 : Int) (o2_1 : List AV) (o3_1 : List AV) : Option Res :=
  iterK (evalK G run n f208_keep 0 (sub [1, 1, 0, 1, 0, 0] f208_body)) f208_t0 f208_o0 (blockK 0 (seqK (evalK G run n f208_keep 0 (sub [1, 1, 1] f208_body) (retE G f208_info)) (retE G f208_info))) k0
    ⟨[.val .str none (.str x0_1), .any, .ptr ⟨(.arr 64 (.int .u32)), 2, 1, []⟩, .ptr ⟨(.arr 64 (.int .u32)), 3, 1, []⟩, .any, .any, .any, .any, .any, .val (.int .i64) none (.int x9_1), .any, .any, .any, .any, .any, .any, .any, .any, .any, .any, .any, .any, .any, .any, .any, .any, .any, .any, .any, .any, .any, .any, .any, .any, .any, .any, .any, .any, .any, .any, .any, .any, .any, .any, .any, .any, .any, .any, .any, .any, .any, .any, .any, .any, .any, .any, .any, .any, .any, .any, .any], [⟨0, none⟩, ⟨0, none⟩, ⟨1, some ⟨(.arr 64 (.int .u32)), .agg o2_1⟩⟩, ⟨1, some ⟨(.arr 64 (.int .u32)), .agg o3_1⟩⟩, ⟨0, none⟩, ⟨0, none⟩, ⟨0, none⟩, ⟨0, none⟩, ⟨0, none⟩, ⟨0, none⟩, ⟨0, none⟩, ⟨0, none⟩, ⟨0, none⟩, ⟨0, none⟩, ⟨0, none⟩, ⟨0, none⟩, ⟨0, none⟩, ⟨0, none⟩, ⟨0, none⟩, ⟨0, none⟩, ⟨0, none⟩, ⟨0, none⟩, ⟨0, none⟩, ⟨0, none⟩, ⟨0, none⟩, ⟨0, none⟩, ⟨0, none⟩, ⟨0, none⟩, ⟨0, none⟩, ⟨0, none⟩, ⟨0, none⟩, ⟨0, none⟩, ⟨0, none⟩, ⟨0, none⟩, ⟨0, none⟩, ⟨0, none⟩, ⟨0, none⟩, ⟨0, none⟩, ⟨0, none⟩, ⟨0, none⟩, ⟨0, none⟩, ⟨0, none⟩, ⟨0, none⟩, ⟨0, none⟩, ⟨0, none⟩, ⟨0, none⟩, ⟨0, none⟩, ⟨0, none⟩, ⟨0, none⟩, ⟨0, none⟩, ⟨0, none⟩, ⟨0, none⟩, ⟨0, none⟩, ⟨0, none⟩, ⟨0, none⟩, ⟨0, none⟩, ⟨0, none⟩, ⟨0, none⟩, ⟨0, none⟩, ⟨0, none⟩, ⟨0, none⟩], List.replicate 61 0⟩
theorem f208_l0_eq (run : Run) (n : Nat) (k0 : Nat) (x0_1 : List UInt8) (x9_1 : Int) (o2_1 : List AV) (o3_1 : List AV) : f208_l0 run n (k0 + 1) x0_1 x9_1 o2_1 o3_1 =
  bif ltI x9_1 64 then
    bif ltI x9_1 16 then
    (run 218 [.str x0_1, .int (IntKind.wrap .i64 (4 * x9_1))]).bind fun r1 =>
    nilV r1.outs (consV r1.vals fun v1 vs1 =>
    nilV vs1 (bif inR x9_1 64 then
    f208_l0 run n k0 x0_1 (IntKind.wrap .i64 (x9_1 + 1)) o2_1 (o3_1.set (Int.toNat x9_1) (.int v1.toInt))
  else none))
  else
    bif inR (IntKind.wrap .i64 (x9_1 - 15)) 64 then
    bif inR (IntKind.wrap .i64 (x9_1 - 2)) 64 then
    (run 210 [.int ((AV.fld (.agg o3_1) (Int.toNat (IntKind.wrap .i64 (x9_1 - 15)))).toInt), .int 7]).bind fun r2 =>
    nilV r2.outs (consV r2.vals fun v2 vs2 =>
    nilV vs2 ((run 210 [.int ((AV.fld (.agg o3_1) (Int.toNat (IntKind.wrap .i64 (x9_1 - 15)))).toInt), .int 18]).bind fun r3 =>
    nilV r3.outs (consV r3.vals fun v3 vs3 =>
    nilV vs3 ((run 210 [.int ((AV.fld (.agg o3_1) (Int.toNat (IntKind.wrap .i64 (x9_1 - 2)))).toInt), .int 17]).bind fun r4 =>
    nilV r4.outs (consV r4.vals fun v4 vs4 =>
    nilV vs4 ((run 210 [.int ((AV.fld (.agg o3_1) (Int.toNat (IntKind.wrap .i64 (x9_1 - 2)))).toInt), .int 19]).bind fun r5 =>
    nilV r5.outs (consV r5.vals fun v5 vs5 =>
    nilV vs5 (bif inR (IntKind.wrap .i64 (x9_1 - 16)) 64 then
    bif inR (IntKind.wrap .i64 (x9_1 - 7)) 64 then
    bif inR x9_1 64 then
    f208_l0 run n k0 x0_1 (IntKind.wrap .i64 (x9_1 + 1)) o2_1 (o3_1.set (Int.toNat x9_1) (.int (IntKind.wrap .u32 (IntKind.wrap .u32 (IntKind.wrap .u32 ((AV.fld (.agg o3_1) (Int.toNat (IntKind.wrap .i64 (x9_1 - 16)))).toInt + IntKind.wrap .u32 (BitVec.toNat (BitVec.ofInt 32 (IntKind.wrap .u32 (BitVec.toNat (BitVec.ofInt 32 v2.toInt ^^^ BitVec.ofInt 32 v3.toInt))) ^^^ BitVec.ofInt 32 (Int.fdiv ((AV.fld (.agg o3_1) (Int.toNat (IntKind.wrap .i64 (x9_1 - 15)))).toInt) (2 ^ 3))))) + (AV.fld (.agg o3_1) (Int.toNat (IntKind.wrap .i64 (x9_1 - 7)))).toInt) + IntKind.wrap .u32 (BitVec.toNat (BitVec.ofInt 32 (IntKind.wrap .u32 (BitVec.toNat (BitVec.ofInt 32 v4.toInt ^^^ BitVec.ofInt 32 v5.toInt))) ^^^ BitVec.ofInt 32 (Int.fdiv ((AV.fld (.agg o3_1) (Int.toNat (IntKind.wrap .i64 (x9_1 - 2)))).toInt) (2 ^ 10))))))))
  else none
  else none
  else none))))))))
  else none
  else none
  else
    some ⟨[.agg o3_1], [], f208_fresh⟩ := by kernel_rfl
noncomputable def f208 (run : Run) (n : Nat) (a0_1 : List UInt8) : Option Res := evalK G run n f208_info.keep 0 f208_info.body (retE G f208_info) (f208_info.start [.str a0_1])
theorem f208_eq (run : Run) (n : Nat) (a0_1 : List UInt8) : f208 run n a0_1 =
  f208_l0 run n n a0_1 0 (List.replicate 64 (.int 0)) (List.replicate 64 (.int 0)) := by kernel_rfl
theorem f208_run (ext : Run) (n : Nat) (a0_1 : List UInt8) : runE G ext (n + 1) 208 [.str a0_1] = f208 (runE G ext n) n a0_1 := runE_succ f208_at f208_in

noncomputable def f209 (run : Run) (n : Nat) : Option Res := evalK G run n f209_info.keep 0 f209_info.body (retE G f209_info) (f209_info.start [])
theorem f209_eq (run : Run) (n : Nat) : f209 run n  =
  some ⟨[.agg [.int 1116352408, .int 1899447441, .int 3049323471, .int 3921009573, .int 961987163, .int 1508970993, .int 2453635748, .int 2870763221, .int 3624381080, .int 310598401, .int 607225278, .int 1426881987, .int 1925078388, .int 2162078206, .int 2614888103, .int 3248222580, .int 3835390401, .int 4022224774, .int 264347078, .int 604807628, .int 770255983, .int 1249150122, .int 1555081692, .int 1996064986, .int 2554220882, .int 2821834349, .int 2952996808, .int 3210313671, .int 3336571891, .int 3584528711, .int 113926993, .int 338241895, .int 666307205, .int 773529912, .int 1294757372, .int 1396182291, .int 1695183700, .int 1986661051, .int 2177026350, .int 2456956037, .int 2730485921, .int 2820302411, .int 3259730800, .int 3345764771, .int 3516065817, .int 3600352804, .int 4094571909, .int 275423344, .int 430227734, .int 506948616, .int 659060556, .int 883997877, .int 958139571, .int 1322822218, .int 1537002063, .int 1747873779, .int 1955562222, .int 2024104815, .int 2227730452, .int 2361852424, .int 2428436474, .int 2756734187, .int 3204031479, .int 3329325298]], [], f209_fresh⟩ := by kernel_rfl
theorem f209_run (ext : Run) (n : Nat) : runE G ext (n + 1) 209 [] = f209 (runE G ext n) n  := runE_succ f209_at f209_in

noncomputable def f193_l2 (run : Run) (n : Nat) (_k0 : Nat) (k2 : Nat) (x109_1 : Int) (o2_3 : List AV) (o4_3 : List AV) (o7_3 : List AV) : Option Res :=
  iterK (evalK G run n f193_keep 2 (sub [1, 1, 1, 1, 0, 1, 0, 0] f193_body)) f193_t2 f193_o2 (blockK 2 (seqK (evalK G run n f193_keep 0 (sub [1, 1, 1, 1, 1] f193_body) (retE G f193_info)) (retE G f193_info))) k2
    ⟨[.any, .any, .ptr ⟨(.arr 8 (.int .u32)), 2, 1, []⟩, .any, .ptr ⟨(.arr 8 (.int .u32)), 4, 1, []⟩, .any, .any, .ptr ⟨(.arr 8 (.int .u32)), 7, 1, []⟩, .any, .any, .any, .any, .any, .any, .any, .any, .any, .any, .any, .any, .any, .any, .any, .any, .any, .any, .any, .any, .any, .any, .any, .any, .any, .any, .any, .any, .any, .any, .any, .any, .any, .any, .any, .any, .any, .any, .any, .any, .any, .any, .any, .any, .any, .any, .any, .any, .any, .any, .any, .any, .any, .any, .any, .any, .any, .any, .any, .any, .any, .any, .any, .any, .any, .any, .any, .any, .any, .any, .any, .any, .any, .any, .any, .any, .any, .any, .any, .any, .any, .any, .any, .any, .any, .any, .any, .any, .any, .any, .any, .any, .any, .any, .any, .any, .any, .any, .any, .any, .any, .val (.int .i64) none (.int x109_1), .any, .any, .any, .any, .any, .any, .any, .any, .any, .any, .any, .any], [⟨0, none⟩, ⟨0, none⟩, ⟨1, some ⟨(.arr 8 (.int .u32)), .agg o2_3⟩⟩, ⟨0, none⟩, ⟨1, some ⟨(.arr 8 (.int .u32)), .agg o4_3⟩⟩, ⟨0, none⟩, ⟨0, none⟩, ⟨1, some ⟨(.arr 8 (.int .u32)), .agg o7_3⟩⟩, ⟨0, none⟩, ⟨0, none⟩, ⟨0, none⟩, ⟨0, none⟩, ⟨0, none⟩, ⟨0, none⟩, ⟨0, none⟩, ⟨0, none⟩, ⟨0, none⟩, ⟨0, none⟩, ⟨0, none⟩, ⟨0, none⟩, ⟨0, none⟩, ⟨0, none⟩, ⟨0, none⟩, ⟨0, none⟩, ⟨0, none⟩, ⟨0, none⟩, ⟨0, none⟩, ⟨0, none⟩, ⟨0, none⟩, ⟨0, none⟩, ⟨0, none⟩, ⟨0, none⟩, ⟨0, none⟩, ⟨0, none⟩, ⟨0, none⟩, ⟨0, none⟩, ⟨0, none⟩, ⟨0, none⟩, ⟨0, none⟩, ⟨0, none⟩, ⟨0, none⟩, ⟨0, none⟩, ⟨0, none⟩, ⟨0, none⟩, ⟨0, none⟩, ⟨0, none⟩, ⟨0, none⟩, ⟨0, none⟩, ⟨0, none⟩, ⟨0, none⟩, ⟨0, none⟩, ⟨0, none⟩, ⟨0, none⟩, ⟨0, none⟩, ⟨0, none⟩, ⟨0, none⟩, ⟨0, none⟩, ⟨0, none⟩, ⟨0, none⟩, ⟨0, none⟩, ⟨0, none⟩, ⟨0, none⟩, ⟨0, none⟩, ⟨0, none⟩, ⟨0, none⟩, ⟨0, none⟩, ⟨0, none⟩, ⟨0, none⟩, ⟨0, none⟩, ⟨0, none⟩, ⟨0, none⟩, ⟨0, none⟩, ⟨0, none⟩, ⟨0, none⟩, ⟨0, none⟩, ⟨0, none⟩, ⟨0, none⟩, ⟨0, none⟩, ⟨0, none⟩, ⟨0, none⟩, ⟨0, none⟩, ⟨0, none⟩, ⟨0, none⟩, ⟨0, none⟩, ⟨0, none⟩, ⟨0, none⟩, ⟨0, none⟩, ⟨0, none⟩, ⟨0, none⟩, ⟨0, none⟩, ⟨0, none⟩, ⟨0, none⟩, ⟨0, none⟩, ⟨0, none⟩, ⟨0, none⟩, ⟨0, none⟩, ⟨0, none⟩, ⟨0, none⟩, ⟨0, none⟩, ⟨0, none⟩, ⟨0, none⟩, ⟨0, none⟩, ⟨0, none⟩, ⟨0, none⟩, ⟨0, none⟩, ⟨0, none⟩, ⟨0, none⟩, ⟨0, none⟩, ⟨0, none⟩, ⟨0, none⟩, ⟨0, none⟩, ⟨0, none⟩, ⟨0, none⟩, ⟨0, none⟩, ⟨0, none⟩, ⟨0, none⟩, ⟨0, none⟩, ⟨0, none⟩, ⟨0, none⟩, ⟨0, none⟩, ⟨0, none⟩, ⟨0, none⟩], List.replicate 122 0⟩
noncomputable def f193_l0 (run : Run) (n : Nat) (k0 : Nat) (x18_1 : Int) (o2_1 : List AV) (o4_1 : List AV) (o5_1 : List AV) (o6_1 : List AV) (o7_1 : List AV) : Option Res :=
  iterK (evalK G run n f193_keep 0 (sub [1, 1, 1, 0, 1, 0, 0] f193_body)) f193_t0 f193_o0 (blockK 0 (seqK (evalK G run n f193_keep 0 (sub [1, 1, 1, 1] f193_body) (retE G f193_info)) (retE G f193_info))) k0
    ⟨[.any, .any, .ptr ⟨(.arr 8 (.int .u32)), 2, 1, []⟩, .any, .ptr ⟨(.arr 8 (.int .u32)), 4, 1, []⟩, .ptr ⟨(.arr 64 (.int .u32)), 5, 1, []⟩, .ptr ⟨(.arr 64 (.int .u32)), 6, 1, []⟩, .ptr ⟨(.arr 8 (.int .u32)), 7, 1, []⟩, .any, .any, .any, .any, .any, .any, .any, .any, .any, .any, .val (.int .i64) none (.int x18_1), .any, .any, .any, .any, .any, .any, .any, .any, .any, .any, .any, .any, .any, .any, .any, .any, .any, .any, .any, .any, .any, .any, .any, .any, .any, .any, .any, .any, .any, .any, .any, .any, .any, .any, .any, .any, .any, .any, .any, .any, .any, .any, .any, .any, .any, .any, .any, .any, .any, .any, .any, .any, .any, .any, .any, .any, .any, .any, .any, .any, .any, .any, .any, .any, .any, .any, .any, .any, .any, .any, .any, .any, .any, .any, .any, .any, .any, .any, .any, .any, .any, .any, .any, .any, .any, .any, .any, .any, .any, .any, .any, .any, .any, .any, .any, .any, .any, .any, .any, .any, .any, .any, .any], [⟨0, none⟩, ⟨0, none⟩, ⟨1, some ⟨(.arr 8 (.int .u32)), .agg o2_1⟩⟩, ⟨0, none⟩, ⟨1, some ⟨(.arr 8 (.int .u32)), .agg o4_1⟩⟩, ⟨1, some ⟨(.arr 64 (.int .u32)), .agg o5_1⟩⟩, ⟨1, some ⟨(.arr 64 (.int .u32)), .agg o6_1⟩⟩, ⟨1, some ⟨(.arr 8 (.int .u32)), .agg o7_1⟩⟩, ⟨0, none⟩, ⟨0, none⟩, ⟨0, none⟩, ⟨0, none⟩, ⟨0, none⟩, ⟨0, none⟩, ⟨0, none⟩, ⟨0, none⟩, ⟨0, none⟩, ⟨0, none⟩, ⟨0, none⟩, ⟨0, none⟩, ⟨0, none⟩, ⟨0, none⟩, ⟨0, none⟩, ⟨0, none⟩, ⟨0, none⟩, ⟨0, none⟩, ⟨0, none⟩, ⟨0, none⟩, ⟨0, none⟩, ⟨0, none⟩, ⟨0, none⟩, ⟨0, none⟩, ⟨0, none⟩, ⟨0, none⟩, ⟨0, none⟩, ⟨0, none⟩, ⟨0, none⟩, ⟨0, none⟩, ⟨0, none⟩, ⟨0, none⟩, ⟨0, none⟩, ⟨0, none⟩, ⟨0, none⟩, ⟨0, none⟩, ⟨0, none⟩, ⟨0, none⟩, ⟨0, none⟩, ⟨0, none⟩, ⟨0, none⟩, ⟨0, none⟩, ⟨0, none⟩, ⟨0, none⟩, ⟨0, none⟩, ⟨0, none⟩, ⟨0, none⟩, ⟨0, none⟩, ⟨0, none⟩, ⟨0, none⟩, ⟨0, none⟩, ⟨0, none⟩, ⟨0, none⟩, ⟨0, none⟩, ⟨0, none⟩, ⟨0, none⟩, ⟨0, none⟩, ⟨0, none⟩, ⟨0, none⟩, ⟨0, none⟩, ⟨0, none⟩, ⟨0, none⟩, ⟨0, none⟩, ⟨0, none⟩, ⟨0, none⟩, ⟨0, none⟩, ⟨0, none⟩, ⟨0, none⟩, ⟨0, none⟩, ⟨0, none⟩, ⟨0, none⟩, ⟨0, none⟩, ⟨0, none⟩, ⟨0, none⟩, ⟨0, none⟩, ⟨0, none⟩, ⟨0, none⟩, ⟨0, none⟩, ⟨0, none⟩, ⟨0, none⟩, ⟨0, none⟩, ⟨0, none⟩, ⟨0, none⟩, ⟨0, none⟩, ⟨0, none⟩, ⟨0, none⟩, ⟨0, none⟩, ⟨0, none⟩, ⟨0, none⟩, ⟨0, none⟩, ⟨0, none⟩, ⟨0, none⟩, ⟨0, none⟩, ⟨0, none⟩, ⟨0, none⟩, ⟨0, none⟩, ⟨0, none⟩, ⟨0, none⟩, ⟨0, none⟩, ⟨0, none⟩, ⟨0, none⟩, ⟨0, none⟩, ⟨0, none⟩, ⟨0, none⟩, ⟨0, none⟩, ⟨0, none⟩, ⟨0, none⟩, ⟨0, none⟩, ⟨0, none⟩, ⟨0, none⟩, ⟨0, none⟩, ⟨0, none⟩, ⟨0, none⟩, ⟨0, none⟩], List.replicate 122 0⟩
theorem f193_l2_eq (run : Run) (n : Nat) (k0 : Nat) (k2 : Nat) (x109_1 : Int) (o2_3 : List AV) (o4_3 : List AV) (o7_3 : List AV) : f193_l2 run n k0 (k2 + 1) x109_1 o2_3 o4_3 o7_3 =
  bif ltI x109_1 8 then
    bif inR x109_1 8 then
    bif inR x109_1 8 then
    bif inR x109_1 8 then
    f193_l2 run n k0 k2 (IntKind.wrap .i64 (x109_1 + 1)) (o2_3.set (Int.toNat x109_1) (.int (IntKind.wrap .u32 ((AV.fld (.agg o2_3) (Int.toNat x109_1)).toInt + (AV.fld (.agg o7_3) (Int.toNat x109_1)).toInt)))) o4_3 o7_3
  else none
  else none
  else none
  else
    some ⟨[.agg o2_3], [], f193_fresh⟩ := by kernel_rfl
theorem f193_l0_eq (run : Run) (n : Nat) (k0 : Nat) (x18_1 : Int) (o2_1 : List AV) (o4_1 : List AV) (o5_1 : List AV) (o6_1 : List AV) (o7_1 : List AV) : f193_l0 run n (k0 + 1) x18_1 o2_1 o4_1 o5_1 o6_1 o7_1 =
  bif ltI x18_1 64 then
    (run 210 [.int ((AV.fld (.agg o7_1) 4).toInt), .int 6]).bind fun r3 =>
    nilV r3.outs (consV r3.vals fun v3 vs3 =>
    nilV vs3 ((run 210 [.int ((AV.fld (.agg o7_1) 4).toInt), .int 11]).bind fun r4 =>
    nilV r4.outs (consV r4.vals fun v4 vs4 =>
    nilV vs4 ((run 210 [.int ((AV.fld (.agg o7_1) 4).toInt), .int 25]).bind fun r5 =>
    nilV r5.outs (consV r5.vals fun v5 vs5 =>
    nilV vs5 (bif inR x18_1 64 then
    bif inR x18_1 64 then
    (run 210 [.int ((AV.fld (.agg o7_1) 0).toInt), .int 2]).bind fun r6 =>
    nilV r6.outs (consV r6.vals fun v6 vs6 =>
    nilV vs6 ((run 210 [.int ((AV.fld (.agg o7_1) 0).toInt), .int 13]).bind fun r7 =>
    nilV r7.outs (consV r7.vals fun v7 vs7 =>
    nilV vs7 ((run 210 [.int ((AV.fld (.agg o7_1) 0).toInt), .int 22]).bind fun r8 =>
    nilV r8.outs (consV r8.vals fun v8 vs8 =>
    nilV vs8 (f193_l0 run n k0 (IntKind.wrap .i64 (x18_1 + 1)) o2_1 o4_1 o5_1 o6_1 [.int (IntKind.wrap .u32 (IntKind.wrap .u32 (IntKind.wrap .u32 (IntKind.wrap .u32 (IntKind.wrap .u32 (IntKind.wrap .u32 ((AV.fld (.agg o7_1) 7).toInt + IntKind.wrap .u32 (BitVec.toNat (BitVec.ofInt 32 (IntKind.wrap .u32 (BitVec.toNat (BitVec.ofInt 32 v3.toInt ^^^ BitVec.ofInt 32 v4.toInt))) ^^^ BitVec.ofInt 32 v5.toInt))) + IntKind.wrap .u32 (BitVec.toNat (BitVec.ofInt 32 (IntKind.wrap .u32 (BitVec.toNat (BitVec.ofInt 32 ((AV.fld (.agg o7_1) 4).toInt) &&& BitVec.ofInt 32 ((AV.fld (.agg o7_1) 5).toInt)))) ^^^ BitVec.ofInt 32 (IntKind.wrap .u32 (BitVec.toNat (BitVec.ofInt 32 (IntKind.wrap .u32 (BitVec.toNat (BitVec.ofInt 32 4294967295 ^^^ BitVec.ofInt 32 ((AV.fld (.agg o7_1) 4).toInt)))) &&& BitVec.ofInt 32 ((AV.fld (.agg o7_1) 6).toInt))))))) + (AV.fld (.agg o6_1) (Int.toNat x18_1)).toInt) + (AV.fld (.agg o5_1) (Int.toNat x18_1)).toInt) + IntKind.wrap .u32 (BitVec.toNat (BitVec.ofInt 32 (IntKind.wrap .u32 (BitVec.toNat (BitVec.ofInt 32 v6.toInt ^^^ BitVec.ofInt 32 v7.toInt))) ^^^ BitVec.ofInt 32 v8.toInt))) + IntKind.wrap .u32 (BitVec.toNat (BitVec.ofInt 32 (IntKind.wrap .u32 (BitVec.toNat (BitVec.ofInt 32 (IntKind.wrap .u32 (BitVec.toNat (BitVec.ofInt 32 ((AV.fld (.agg o7_1) 0).toInt) &&& BitVec.ofInt 32 ((AV.fld (.agg o7_1) 1).toInt)))) ^^^ BitVec.ofInt 32 (IntKind.wrap .u32 (BitVec.toNat (BitVec.ofInt 32 ((AV.fld (.agg o7_1) 0).toInt) &&& BitVec.ofInt 32 ((AV.fld (.agg o7_1) 2).toInt))))))) ^^^ BitVec.ofInt 32 (IntKind.wrap .u32 (BitVec.toNat (BitVec.ofInt 32 ((AV.fld (.agg o7_1) 1).toInt) &&& BitVec.ofInt 32 ((AV.fld (.agg o7_1) 2).toInt)))))))), .int ((AV.fld (.agg o7_1) 0).toInt), .int ((AV.fld (.agg o7_1) 1).toInt), .int ((AV.fld (.agg o7_1) 2).toInt), .int (IntKind.wrap .u32 ((AV.fld (.agg o7_1) 3).toInt + IntKind.wrap .u32 (IntKind.wrap .u32 (IntKind.wrap .u32 (IntKind.wrap .u32 ((AV.fld (.agg o7_1) 7).toInt + IntKind.wrap .u32 (BitVec.toNat (BitVec.ofInt 32 (IntKind.wrap .u32 (BitVec.toNat (BitVec.ofInt 32 v3.toInt ^^^ BitVec.ofInt 32 v4.toInt))) ^^^ BitVec.ofInt 32 v5.toInt))) + IntKind.wrap .u32 (BitVec.toNat (BitVec.ofInt 32 (IntKind.wrap .u32 (BitVec.toNat (BitVec.ofInt 32 ((AV.fld (.agg o7_1) 4).toInt) &&& BitVec.ofInt 32 ((AV.fld (.agg o7_1) 5).toInt)))) ^^^ BitVec.ofInt 32 (IntKind.wrap .u32 (BitVec.toNat (BitVec.ofInt 32 (IntKind.wrap .u32 (BitVec.toNat (BitVec.ofInt 32 4294967295 ^^^ BitVec.ofInt 32 ((AV.fld (.agg o7_1) 4).toInt)))) &&& BitVec.ofInt 32 ((AV.fld (.agg o7_1) 6).toInt))))))) + (AV.fld (.agg o6_1) (Int.toNat x18_1)).toInt) + (AV.fld (.agg o5_1) (Int.toNat x18_1)).toInt))), .int ((AV.fld (.agg o7_1) 4).toInt), .int ((AV.fld (.agg o7_1) 5).toInt), .int ((AV.fld (.agg o7_1) 6).toInt)]))))))
  else none
  else none))))))
  else
    f193_l2 run n k0 n 0 o2_1 o4_1 o7_1 := by kernel_rfl
noncomputable def f193 (run : Run) (n : Nat) (a0_1 : List AV) (a1_1 : List UInt8) : Option Res := evalK G run n f193_info.keep 0 f193_info.body (retE G f193_info) (f193_info.start [.agg a0_1, .str a1_1])
theorem f193_eq (run : Run) (n : Nat) (a0_1 : List AV) (a1_1 : List UInt8) : f193 run n a0_1 a1_1 =
  (run 208 [.str a1_1]).bind fun r1 =>
    nilV r1.outs (consV r1.vals fun v1 vs1 =>
    nilV vs1 ((run 209 []).bind fun r2 =>
    nilV r2.outs (consV r2.vals fun v2 vs2 =>
    nilV vs2 (f193_l0 run n n 0 a0_1 (List.replicate 8 (.int 0)) v1.toAgg v2.toAgg a0_1)))) := by kernel_rfl
theorem f193_run (ext : Run) (n : Nat) (a0_1 : List AV) (a1_1 : List UInt8) : runE G ext (n + 1) 193 [.agg a0_1, .str a1_1] = f193 (runE G ext n) n a0_1 a1_1 := runE_succ f193_at f193_in

noncomputable def f171_l0 (run : Run) (n : Nat) (k0 : Nat) (x4_1 : Int) (o0_1 : List AV) (o0_2 : List UInt8) (o0_3 : Int) (o0_4 : Bool) : Option Res :=
  iterK (evalK G run n f171_keep 0 (sub [1, 1, 1, 1, 1, 0, 0, 0] f171_body)) f171_t0 f171_o0 (blockK 0 (seqK (evalK G run n f171_keep 0 (sub [1, 1, 1, 1, 1, 1] f171_body) (retE G f171_info)) (retE G f171_info))) k0
    ⟨[.ptr ⟨(.struct [(.arr 8 (.int .u32)), .str, (.int .u64), .bool]), 0, 0, []⟩, .any, .any, .any, .val (.int .i64) none (.int x4_1), .any, .any, .any, .any, .any, .any, .any, .any, .any, .any, .any, .any, .any, .any, .any, .any, .any, .any, .any, .any, .any, .any, .any, .any, .any, .any, .any, .any, .any, .any, .any, .any, .any, .any, .any, .any, .any, .any, .any, .any, .any, .any, .any, .any, .any, .any, .any, .any, .any, .any, .any, .any, .any, .any, .any, .any, .any, .any, .any, .any, .any, .any, .any, .any, .any, .any, .any], [⟨0, some ⟨(.struct [(.arr 8 (.int .u32)), .str, (.int .u64), .bool]), .agg [.agg o0_1, .str o0_2, .int o0_3, .bool o0_4]⟩⟩, ⟨0, none⟩, ⟨0, none⟩, ⟨0, none⟩, ⟨0, none⟩, ⟨0, none⟩, ⟨0, none⟩, ⟨0, none⟩, ⟨0, none⟩, ⟨0, none⟩, ⟨0, none⟩, ⟨0, none⟩, ⟨0, none⟩, ⟨0, none⟩, ⟨0, none⟩, ⟨0, none⟩, ⟨0, none⟩, ⟨0, none⟩, ⟨0, none⟩, ⟨0, none⟩, ⟨0, none⟩, ⟨0, none⟩, ⟨0, none⟩, ⟨0, none⟩, ⟨0, none⟩, ⟨0, none⟩, ⟨0, none⟩, ⟨0, none⟩, ⟨0, none⟩, ⟨0, none⟩, ⟨0, none⟩, ⟨0, none⟩, ⟨0, none⟩, ⟨0, none⟩, ⟨0, none⟩, ⟨0, none⟩, ⟨0, none⟩, ⟨0, none⟩, ⟨0, none⟩, ⟨0, none⟩, ⟨0, none⟩, ⟨0, none⟩, ⟨0, none⟩, ⟨0, none⟩, ⟨0, none⟩, ⟨0, none⟩, ⟨0, none⟩, ⟨0, none⟩, ⟨0, none⟩, ⟨0, none⟩, ⟨0, none⟩, ⟨0, none⟩, ⟨0, none⟩, ⟨0, none⟩, ⟨0, none⟩, ⟨0, none⟩, ⟨0, none⟩, ⟨0, none⟩, ⟨0, none⟩, ⟨0, none⟩, ⟨0, none⟩, ⟨0, none⟩, ⟨0, none⟩, ⟨0, none⟩, ⟨0, none⟩, ⟨0, none⟩, ⟨0, none⟩, ⟨0, none⟩, ⟨0, none⟩, ⟨0, none⟩, ⟨0, none⟩, ⟨0, none⟩], List.replicate 72 0⟩
theorem f171_l0_eq (run : Run) (n : Nat) (k0 : Nat) (x4_1 : Int) (o0_1 : List AV) (o0_2 : List UInt8) (o0_3 : Int) (o0_4 : Bool) : f171_l0 run n (k0 + 1) x4_1 o0_1 o0_2 o0_3 o0_4 =
  bif leI 64 (IntKind.wrap .i64 ((o0_2.length : Int) - x4_1)) then
    bif boundsOk x4_1 (IntKind.wrap .i64 (x4_1 + 64)) (o0_2.length : Int) (o0_2.length : Int) then
    (run 193 [.agg o0_1, .str (List.drop (Int.toNat x4_1) (List.take (Int.toNat (IntKind.wrap .i64 (x4_1 + 64))) o0_2))]).bind fun r2 =>
    nilV r2.outs (consV r2.vals fun v2 vs2 =>
    nilV vs2 (f171_l0 run n k0 (IntKind.wrap .i64 (x4_1 + 64)) v2.toAgg o0_2 o0_3 o0_4))
  else none
  else
    bif boundsOk x4_1 (o0_2.length : Int) (o0_2.length : Int) (o0_2.length : Int) then
    some ⟨[], [.agg [.agg o0_1, .str (List.drop (Int.toNat x4_1) (List.take (Int.toNat (o0_2.length : Int)) o0_2)), .int o0_3, .bool o0_4]], f171_fresh⟩
  else none := by kernel_rfl
noncomputable def f171 (run : Run) (n : Nat) (a0_1 : List AV) (a0_2 : List UInt8) (a0_3 : Int) (a0_4 : Bool) (a1_1 : List UInt8) : Option Res := evalK G run n f171_info.keep 0 f171_info.body (retE G f171_info) (f171_info.start [.agg [.agg a0_1, .str a0_2, .int a0_3, .bool a0_4], .str a1_1])
theorem f171_eq (run : Run) (n : Nat) (a0_1 : List AV) (a0_2 : List UInt8) (a0_3 : Int) (a0_4 : Bool) (a1_1 : List UInt8) : f171 run n a0_1 a0_2 a0_3 a0_4 a1_1 =
  bif !a0_4 then
    (run 192 []).bind fun r1 =>
    nilV r1.outs (consV r1.vals fun v1 vs1 =>
    nilV vs1 (bif Nat.ble (a0_2.length + a1_1.length) maxLen then
    f171_l0 run n n 0 v1.toAgg (a0_2 ++ a1_1) (IntKind.wrap .u64 (a0_3 + IntKind.wrap .u64 (a1_1.length : Int))) true
  else none))
  else
    bif Nat.ble (a0_2.length + a1_1.length) maxLen then
    f171_l0 run n n 0 a0_1 (a0_2 ++ a1_1) (IntKind.wrap .u64 (a0_3 + IntKind.wrap .u64 (a1_1.length : Int))) a0_4
  else none := by kernel_rfl
theorem f171_run (ext : Run) (n : Nat) (a0_1 : List AV) (a0_2 : List UInt8) (a0_3 : Int) (a0_4 : Bool) (a1_1 : List UInt8) : runE G ext (n + 1) 171 [.agg [.agg a0_1, .str a0_2, .int a0_3, .bool a0_4], .str a1_1] = f171 (runE G ext n) n a0_1 a0_2 a0_3 a0_4 a1_1 := runE_succ f171_at f171_in

noncomputable def f194 (run : Run) (n : Nat) (a0_1 : Int) : Option Res := evalK G run n f194_info.keep 0 f194_info.body (retE G f194_info) (f194_info.start [.int a0_1])
theorem f194_eq (run : Run) (n : Nat) (a0_1 : Int) : f194 run n a0_1 =
  (run 211 [.str [0], .int (IntKind.wrap .i64 (Int.tmod (IntKind.wrap .u64 (119 - Int.tmod a0_1 64)) 64))]).bind fun r1 =>
    nilV r1.outs (consV r1.vals fun v1 vs1 =>
    nilV vs1 (bif Nat.ble (1 + v1.toStr.length) maxLen then
    (run 145 [.int (IntKind.wrap .u64 (8 * a0_1))]).bind fun r2 =>
    nilV r2.outs (consV r2.vals fun v2 vs2 =>
    nilV vs2 (bif Nat.ble (([128] ++ v1.toStr).length + v2.toStr.length) maxLen then
    some ⟨[.str (([128] ++ v1.toStr) ++ v2.toStr)], [], f194_fresh⟩
  else none))
  else none)) := by kernel_rfl
theorem f194_run (ext : Run) (n : Nat) (a0_1 : Int) : runE G ext (n + 1) 194 [.int a0_1] = f194 (runE G ext n) n a0_1 := runE_succ f194_at f194_in

noncomputable def f172_l0 (run : Run) (n : Nat) (k0 : Nat) (x18_1 : List AV) (x19_1 : Int) (o0_1 : List AV) (o0_2 : List UInt8) (o0_3 : Int) (o0_4 : Bool) (o2_1 : List UInt8) (o4_1 : List UInt8) : Option Res :=
  iterK (evalK G run n f172_keep 0 (sub [1, 1, 1, 1, 1, 0, 1, 0, 0] f172_body)) f172_t0 f172_o0 (blockK 0 (seqK (evalK G run n f172_keep 0 (sub [1, 1, 1, 1, 1, 1] f172_body) (retE G f172_info)) (retE G f172_info))) k0
    ⟨[.ptr ⟨(.struct [(.arr 8 (.int .u32)), .str, (.int .u64), .bool]), 0, 0, []⟩, .any, .ptr ⟨(.blob 32), 2, 1, []⟩, .any, .ptr ⟨(.blob 32), 4, 1, []⟩, .any, .any, .any, .any, .any, .any, .any, .any, .any, .any, .any, .any, .any, .val (.arr 8 (.int .u32)) none (.agg x18_1), .val (.int .i64) none (.int x19_1), .any, .any, .any, .any, .any, .any, .any, .any, .any, .any, .any, .any, .any, .any, .any, .any, .any], [⟨0, some ⟨(.struct [(.arr 8 (.int .u32)), .str, (.int .u64), .bool]), .agg [.agg o0_1, .str o0_2, .int o0_3, .bool o0_4]⟩⟩, ⟨0, none⟩, ⟨1, some ⟨(.blob 32), .blob o2_1⟩⟩, ⟨0, none⟩, ⟨1, some ⟨(.blob 32), .blob o4_1⟩⟩, ⟨0, none⟩, ⟨0, none⟩, ⟨0, none⟩, ⟨0, none⟩, ⟨0, none⟩, ⟨0, none⟩, ⟨0, none⟩, ⟨0, none⟩, ⟨0, none⟩, ⟨0, none⟩, ⟨0, none⟩, ⟨0, none⟩, ⟨0, none⟩, ⟨0, none⟩, ⟨0, none⟩, ⟨0, none⟩, ⟨0, none⟩, ⟨0, none⟩, ⟨0, none⟩, ⟨0, none⟩, ⟨0, none⟩, ⟨0, none⟩, ⟨0, none⟩, ⟨0, none⟩, ⟨0, none⟩, ⟨0, none⟩, ⟨0, none⟩, ⟨0, none⟩, ⟨0, none⟩, ⟨0, none⟩, ⟨0, none⟩, ⟨0, none⟩], List.replicate 37 0⟩
theorem f172_l0_eq (run : Run) (n : Nat) (k0 : Nat) (x18_1 : List AV) (x19_1 : Int) (o0_1 : List AV) (o0_2 : List UInt8) (o0_3 : Int) (o0_4 : Bool) (o2_1 : List UInt8) (o4_1 : List UInt8) : f172_l0 run n (k0 + 1) x18_1 x19_1 o0_1 o0_2 o0_3 o0_4 o2_1 o4_1 =
  bif ltI x19_1 8 then
    bif inR x19_1 8 then
    bif boundsOk (IntKind.wrap .i64 (4 * x19_1)) (IntKind.wrap .i64 (IntKind.wrap .i64 (4 * x19_1) + 4)) (IntKind.wrap .i64 (IntKind.wrap .i64 (4 * x19_1) + 4)) 32 && true then
    (run 144 [.int ((AV.fld (.agg x18_1) (Int.toNat x19_1)).toInt)]).bind fun r3 =>
    nilV r3.outs (consV r3.vals fun v2 vs2 =>
    nilV vs2 (f172_l0 run n k0 x18_1 (IntKind.wrap .i64 (x19_1 + 1)) o0_1 o0_2 o0_3 o0_4 o2_1 (bytesOf (splice (ofBytes o4_1) (Int.toNat (IntKind.wrap .i64 (4 * x19_1))) (List.take ((Int.toNat (IntKind.wrap .i64 (IntKind.wrap .i64 (4 * x19_1) + 4))) - (Int.toNat (IntKind.wrap .i64 (4 * x19_1)))) (ofBytes v2.toStr))))))
  else none
  else none
  else
    some ⟨[.blob o4_1], [.agg [.agg o0_1, .str o0_2, .int o0_3, .bool o0_4]], f172_fresh⟩ := by kernel_rfl
noncomputable def f172 (run : Run) (n : Nat) (a0_1 : List AV) (a0_2 : List UInt8) (a0_3 : Int) (a0_4 : Bool) : Option Res := evalK G run n f172_info.keep 0 f172_info.body (retE G f172_info) (f172_info.start [.agg [.agg a0_1, .str a0_2, .int a0_3, .bool a0_4]])
theorem f172_eq (run : Run) (n : Nat) (a0_1 : List AV) (a0_2 : List UInt8) (a0_3 : Int) (a0_4 : Bool) : f172 run n a0_1 a0_2 a0_3 a0_4 =
  (run 194 [.int a0_3]).bind fun r1 =>
    nilV r1.outs (consV r1.vals fun v1 vs1 =>
    nilV vs1 ((run 171 [.agg [.agg a0_1, .str a0_2, .int a0_3, .bool a0_4], .str v1.toStr]).bind fun r2 =>
    consV r2.outs fun y1 ys1 =>
    nilV ys1 (nilV r2.vals (f172_l0 run n n ((y1.fld 0).toAgg) 0 a0_1 a0_2 a0_3 a0_4 (List.replicate 32 0) (List.replicate 32 0))))) := by kernel_rfl
theorem f172_run (ext : Run) (n : Nat) (a0_1 : List AV) (a0_2 : List UInt8) (a0_3 : Int) (a0_4 : Bool) : runE G ext (n + 1) 172 [.agg [.agg a0_1, .str a0_2, .int a0_3, .bool a0_4]] = f172 (runE G ext n) n a0_1 a0_2 a0_3 a0_4 := runE_succ f172_at f172_in

noncomputable def f142 (run : Run) (n : Nat) (a0_1 : List UInt8) : Option Res := evalK G run n f142_info.keep 0 f142_info.body (retE G f142_info) (f142_info.start [.str a0_1])
theorem f142_eq (run : Run) (n : Nat) (a0_1 : List UInt8) : f142 run n a0_1 =
  (run 170 []).bind fun r1 =>
    nilV r1.outs (consV r1.vals fun v1 vs1 =>
    nilV vs1 ((run 171 [.agg [.agg ((v1.fld 0).toAgg), .str ((v1.fld 1).toStr), .int ((v1.fld 2).toInt), .bool ((v1.fld 3).toBool)], .str a0_1]).bind fun r2 =>
    consV r2.outs fun y1 ys1 =>
    nilV ys1 (nilV r2.vals ((run 172 [.agg [.agg ((y1.fld 0).toAgg), .str ((y1.fld 1).toStr), .int ((y1.fld 2).toInt), .bool ((y1.fld 3).toBool)]]).bind fun r3 =>
    consV r3.outs fun _y2 ys2 =>
    nilV ys2 (consV r3.vals fun v2 vs2 =>
    nilV vs2 (some ⟨[.blob v2.toBlob], [], f142_fresh⟩)))))) := by kernel_rfl
theorem f142_run (ext : Run) (n : Nat) (a0_1 : List UInt8) : runE G ext (n + 1) 142 [.str a0_1] = f142 (runE G ext n) n a0_1 := runE_succ f142_at f142_in

noncomputable def f114 (run : Run) (n : Nat) (a0_1 : List UInt8) : Option Res := evalK G run n f114_info.keep 0 f114_info.body (retE G f114_info) (f114_info.start [.str a0_1])
theorem f114_eq (run : Run) (n : Nat) (a0_1 : List UInt8) : f114 run n a0_1 =
  (run 143 [.str a0_1]).bind fun r1 =>
    nilV r1.outs (consV r1.vals fun v1 vs1 =>
    nilV vs1 ((run 142 [.str v1.toStr]).bind fun r2 =>
    nilV r2.outs (consV r2.vals fun v2 vs2 =>
    nilV vs2 (some ⟨[.blob v2.toBlob], [], f114_fresh⟩)))) := by kernel_rfl
theorem f114_run (ext : Run) (n : Nat) (a0_1 : List UInt8) : runE G ext (n + 1) 114 [.str a0_1] = f114 (runE G ext n) n a0_1 := runE_succ f114_at f114_in

noncomputable def f79 (run : Run) (n : Nat) (a0_1 : Int) (a0_2 : List UInt8) (a0_3 : List UInt8) (a0_4 : Int) : Option Res := evalK G run n f79_info.keep 0 f79_info.body (retE G f79_info) (f79_info.start [.agg [.int a0_1, .blob a0_2, .blob a0_3, .int a0_4]])
theorem f79_eq (run : Run) (n : Nat) (a0_1 : Int) (a0_2 : List UInt8) (a0_3 : List UInt8) (a0_4 : Int) : f79 run n a0_1 a0_2 a0_3 a0_4 =
  (run 115 [.agg [.int a0_1, .blob a0_2, .blob a0_3, .int a0_4]]).bind fun r1 =>
    nilV r1.outs (consV r1.vals fun v1 vs1 =>
    nilV vs1 ((run 114 [.str v1.toStr]).bind fun r2 =>
    nilV r2.outs (consV r2.vals fun v2 vs2 =>
    nilV vs2 (some ⟨[.blob v2.toBlob], [], f79_fresh⟩)))) := by kernel_rfl
theorem f79_run (ext : Run) (n : Nat) (a0_1 : Int) (a0_2 : List UInt8) (a0_3 : List UInt8) (a0_4 : Int) : runE G ext (n + 1) 79 [.agg [.int a0_1, .blob a0_2, .blob a0_3, .int a0_4]] = f79 (runE G ext n) n a0_1 a0_2 a0_3 a0_4 := runE_succ f79_at f79_in

noncomputable def f44 (run : Run) (n : Nat) (a0_1 : Int) (a0_2 : List UInt8) (a0_3 : List UInt8) (a0_4 : Int) (a0_5 : List AV) : Option Res := evalK G run n f44_info.keep 0 f44_info.body (retE G f44_info) (f44_info.start [.agg [.agg [.int a0_1, .blob a0_2, .blob a0_3, .int a0_4], .slice a0_5]])
theorem f44_eq (run : Run) (n : Nat) (a0_1 : Int) (a0_2 : List UInt8) (a0_3 : List UInt8) (a0_4 : Int) (a0_5 : List AV) : f44 run n a0_1 a0_2 a0_3 a0_4 a0_5 =
  (run 79 [.agg [.int a0_1, .blob a0_2, .blob a0_3, .int a0_4]]).bind fun r1 =>
    nilV r1.outs (consV r1.vals fun v1 vs1 =>
    nilV vs1 (some ⟨[.blob v1.toBlob], [], f44_fresh⟩)) := by kernel_rfl
theorem f44_run (ext : Run) (n : Nat) (a0_1 : Int) (a0_2 : List UInt8) (a0_3 : List UInt8) (a0_4 : Int) (a0_5 : List AV) : runE G ext (n + 1) 44 [.agg [.agg [.int a0_1, .blob a0_2, .blob a0_3, .int a0_4], .slice a0_5]] = f44 (runE G ext n) n a0_1 a0_2 a0_3 a0_4 a0_5 := runE_succ f44_at f44_in

noncomputable def f113 (run : Run) (n : Nat) (a0_1 : List UInt8) (a1_1 : Int) : Option Res := evalK G run n f113_info.keep 0 f113_info.body (retE G f113_info) (f113_info.start [.str a0_1, .int a1_1])
theorem f113_eq (run : Run) (n : Nat) (a0_1 : List UInt8) (a1_1 : Int) : f113 run n a0_1 a1_1 =
  (run 141 [.str a0_1, .int a1_1, .int 8]).bind fun r1 =>
    nilV r1.outs (consV r1.vals fun v1 vs1 =>
    nilV vs1 (some ⟨[.int v1.toInt], [], f113_fresh⟩)) := by kernel_rfl
theorem f113_run (ext : Run) (n : Nat) (a0_1 : List UInt8) (a1_1 : Int) : runE G ext (n + 1) 113 [.str a0_1, .int a1_1] = f113 (runE G ext n) n a0_1 a1_1 := runE_succ f113_at f113_in

noncomputable def f76_l0 (run : Run) (n : Nat) (k0 : Nat) (x5_1 : Int) (o1_1 : List UInt8) (o2_1 : List AV) (o3_1 : List AV) : Option Res :=
  iterK (evalK G run n f76_keep 0 (sub [1, 1, 0, 1, 0, 0] f76_body)) f76_t0 f76_o0 (blockK 0 (seqK (evalK G run n f76_keep 0 (sub [1, 1, 1] f76_body) (retE G f76_info)) (retE G f76_info))) k0
    ⟨[.any, .ptr ⟨(.blob 32), 1, 1, []⟩, .ptr ⟨(.arr 4 (.int .u64)), 2, 1, []⟩, .ptr ⟨(.arr 4 (.int .u64)), 3, 1, []⟩, .any, .val (.int .i64) none (.int x5_1), .any, .any, .any, .any, .any, .any, .any, .any, .any, .any, .any, .any], [⟨0, none⟩, ⟨1, some ⟨(.blob 32), .blob o1_1⟩⟩, ⟨1, some ⟨(.arr 4 (.int .u64)), .agg o2_1⟩⟩, ⟨1, some ⟨(.arr 4 (.int .u64)), .agg o3_1⟩⟩, ⟨0, none⟩, ⟨0, none⟩, ⟨0, none⟩, ⟨0, none⟩, ⟨0, none⟩, ⟨0, none⟩, ⟨0, none⟩, ⟨0, none⟩, ⟨0, none⟩, ⟨0, none⟩, ⟨0, none⟩, ⟨0, none⟩, ⟨0, none⟩, ⟨0, none⟩], List.replicate 18 0⟩
theorem f76_l0_eq (run : Run) (n : Nat) (k0 : Nat) (x5_1 : Int) (o1_1 : List UInt8) (o2_1 : List AV) (o3_1 : List AV) : f76_l0 run n (k0 + 1) x5_1 o1_1 o2_1 o3_1 =
  bif ltI x5_1 4 then
    (run 113 [.str (bytesOf (List.drop 0 (List.take 32 (ofBytes o1_1)))), .int (IntKind.wrap .i64 (8 * x5_1))]).bind fun r1 =>
    nilV r1.outs (consV r1.vals fun v1 vs1 =>
    nilV vs1 (bif inR (IntKind.wrap .i64 (3 - x5_1)) 4 then
    f76_l0 run n k0 (IntKind.wrap .i64 (x5_1 + 1)) o1_1 o2_1 (o3_1.set (Int.toNat (IntKind.wrap .i64 (3 - x5_1))) (.int v1.toInt))
  else none))
  else
    some ⟨[.agg o3_1], [], f76_fresh⟩ := by kernel_rfl
noncomputable def f76 (run : Run) (n : Nat) (a0_1 : List UInt8) : Option Res := evalK G run n f76_info.keep 0 f76_info.body (retE G f76_info) (f76_info.start [.blob a0_1])
theorem f76_eq (run : Run) (n : Nat) (a0_1 : List UInt8) : f76 run n a0_1 =
  f76_l0 run n n 0 a0_1 (List.replicate 4 (.int 0)) (List.replicate 4 (.int 0)) := by kernel_rfl
theorem f76_run (ext : Run) (n : Nat) (a0_1 : List UInt8) : runE G ext (n + 1) 76 [.blob a0_1] = f76 (runE G ext n) n a0_1 := runE_succ f76_at f76_in

noncomputable def f77_l0 (run : Run) (n : Nat) (k0 : Nat) (x8_1 : Int) (o2_1 : List AV) (o3_1 : List AV) : Option Res :=
  iterK (evalK G run n f77_keep 0 (sub [1, 0, 1, 0, 0] f77_body)) f77_t0 f77_o0 (blockK 0 (seqK (evalK G run n f77_keep 0 (sub [1, 1] f77_body) (retE G f77_info)) (retE G f77_info))) k0
    ⟨[.any, .any, .ptr ⟨(.arr 4 (.int .u64)), 2, 1, []⟩, .ptr ⟨(.arr 4 (.int .u64)), 3, 1, []⟩, .any, .any, .any, .any, .val (.int .i64) none (.int x8_1), .any, .any, .any, .any, .any, .any, .any, .any, .any, .any, .any, .any, .any, .any, .any, .any, .any, .any, .any], [⟨0, none⟩, ⟨0, none⟩, ⟨1, some ⟨(.arr 4 (.int .u64)), .agg o2_1⟩⟩, ⟨1, some ⟨(.arr 4 (.int .u64)), .agg o3_1⟩⟩, ⟨0, none⟩, ⟨0, none⟩, ⟨0, none⟩, ⟨0, none⟩, ⟨0, none⟩, ⟨0, none⟩, ⟨0, none⟩, ⟨0, none⟩, ⟨0, none⟩, ⟨0, none⟩, ⟨0, none⟩, ⟨0, none⟩, ⟨0, none⟩, ⟨0, none⟩, ⟨0, none⟩, ⟨0, none⟩, ⟨0, none⟩, ⟨0, none⟩, ⟨0, none⟩, ⟨0, none⟩, ⟨0, none⟩, ⟨0, none⟩, ⟨0, none⟩, ⟨0, none⟩], List.replicate 28 0⟩
theorem f77_l0_eq (run : Run) (n : Nat) (k0 : Nat) (x8_1 : Int) (o2_1 : List AV) (o3_1 : List AV) : f77_l0 run n (k0 + 1) x8_1 o2_1 o3_1 =
  bif ltI x8_1 4 then
    bif inR (IntKind.wrap .i64 (3 - x8_1)) 4 then
    bif inR (IntKind.wrap .i64 (3 - x8_1)) 4 then
    bif ltI ((AV.fld (.agg o2_1) (Int.toNat (IntKind.wrap .i64 (3 - x8_1)))).toInt) ((AV.fld (.agg o3_1) (Int.toNat (IntKind.wrap .i64 (3 - x8_1)))).toInt) then
    some ⟨[.int (-1)], [], f77_fresh⟩
  else
    bif ltI ((AV.fld (.agg o3_1) (Int.toNat (IntKind.wrap .i64 (3 - x8_1)))).toInt) ((AV.fld (.agg o2_1) (Int.toNat (IntKind.wrap .i64 (3 - x8_1)))).toInt) then
    some ⟨[.int 1], [], f77_fresh⟩
  else
    f77_l0 run n k0 (IntKind.wrap .i64 (x8_1 + 1)) o2_1 o3_1
  else none
  else none
  else
    some ⟨[.int 0], [], f77_fresh⟩ := by kernel_rfl
noncomputable def f77 (run : Run) (n : Nat) (a0_1 : List AV) (a1_1 : List AV) : Option Res := evalK G run n f77_info.keep 0 f77_info.body (retE G f77_info) (f77_info.start [.agg a0_1, .agg a1_1])
theorem f77_eq (run : Run) (n : Nat) (a0_1 : List AV) (a1_1 : List AV) : f77 run n a0_1 a1_1 =
  f77_l0 run n n 0 a0_1 a1_1 := by kernel_rfl
theorem f77_run (ext : Run) (n : Nat) (a0_1 : List AV) (a1_1 : List AV) : runE G ext (n + 1) 77 [.agg a0_1, .agg a1_1] = f77 (runE G ext n) n a0_1 a1_1 := runE_succ f77_at f77_in

noncomputable def f73 (run : Run) (n : Nat) (a0_1 : List UInt8) (a1_1 : List UInt8) : Option Res := evalK G run n f73_info.keep 0 f73_info.body (retE G f73_info) (f73_info.start [.blob a0_1, .blob a1_1])
theorem f73_eq (run : Run) (n : Nat) (a0_1 : List UInt8) (a1_1 : List UInt8) : f73 run n a0_1 a1_1 =
  (run 76 [.blob a0_1]).bind fun r1 =>
    nilV r1.outs (consV r1.vals fun v1 vs1 =>
    nilV vs1 ((run 76 [.blob a1_1]).bind fun r2 =>
    nilV r2.outs (consV r2.vals fun v2 vs2 =>
    nilV vs2 ((run 77 [.agg v1.toAgg, .agg v2.toAgg]).bind fun r3 =>
    nilV r3.outs (consV r3.vals fun v3 vs3 =>
    nilV vs3 (some ⟨[.bool (leI v3.toInt 0)], [], f73_fresh⟩)))))) := by kernel_rfl
theorem f73_run (ext : Run) (n : Nat) (a0_1 : List UInt8) (a1_1 : List UInt8) : runE G ext (n + 1) 73 [.blob a0_1, .blob a1_1] = f73 (runE G ext n) n a0_1 a1_1 := runE_succ f73_at f73_in

noncomputable def f41 (run : Run) (n : Nat) (a0_1 : Int) (a0_2 : List UInt8) (a0_3 : List UInt8) (a0_4 : Int) (a0_5 : List UInt8) (a0_6 : Int) (a0_7 : Int) (a0_8 : Int) (a0_9 : Int) (a0_10 : Int) (a0_11 : Int) (a0_12 : Int) (a0_13 : Int) (a0_14 : List UInt8) (a0_15 : List UInt8) (a0_16 : Int) (a0_17 : List AV) (a0_18 : List AV) : Option Res := evalK G run n f41_info.keep 0 f41_info.body (retE G f41_info) (f41_info.start [.agg [.agg [.agg [.int a0_1, .blob a0_2, .blob a0_3, .int a0_4], .blob a0_5, .int a0_6, .int a0_7, .int a0_8, .int a0_9, .int a0_10, .int a0_11], .int a0_12, .agg [.agg [.int a0_13, .blob a0_14, .blob a0_15, .int a0_16], .slice a0_17], .slice a0_18]])
theorem f41_eq (run : Run) (n : Nat) (a0_1 : Int) (a0_2 : List UInt8) (a0_3 : List UInt8) (a0_4 : Int) (a0_5 : List UInt8) (a0_6 : Int) (a0_7 : Int) (a0_8 : Int) (a0_9 : Int) (a0_10 : Int) (a0_11 : Int) (a0_12 : Int) (a0_13 : Int) (a0_14 : List UInt8) (a0_15 : List UInt8) (a0_16 : Int) (a0_17 : List AV) (a0_18 : List AV) : f41 run n a0_1 a0_2 a0_3 a0_4 a0_5 a0_6 a0_7 a0_8 a0_9 a0_10 a0_11 a0_12 a0_13 a0_14 a0_15 a0_16 a0_17 a0_18 =
  (run 44 [.agg [.agg [.int a0_13, .blob a0_14, .blob a0_15, .int a0_16], .slice a0_17]]).bind fun r1 =>
    nilV r1.outs (consV r1.vals fun v1 vs1 =>
    nilV vs1 ((run 73 [.blob v1.toBlob, .blob a0_5]).bind fun r2 =>
    nilV r2.outs (consV r2.vals fun v2 vs2 =>
    nilV vs2 (bif !v2.toBool then
    some ⟨[.int 9], [], f41_fresh⟩
  else
    some ⟨[.int 0], [], f41_fresh⟩)))) := by kernel_rfl
theorem f41_run (ext : Run) (n : Nat) (a0_1 : Int) (a0_2 : List UInt8) (a0_3 : List UInt8) (a0_4 : Int) (a0_5 : List UInt8) (a0_6 : Int) (a0_7 : Int) (a0_8 : Int) (a0_9 : Int) (a0_10 : Int) (a0_11 : Int) (a0_12 : Int) (a0_13 : Int) (a0_14 : List UInt8) (a0_15 : List UInt8) (a0_16 : Int) (a0_17 : List AV) (a0_18 : List AV) : runE G ext (n + 1) 41 [.agg [.agg [.agg [.int a0_1, .blob a0_2, .blob a0_3, .int a0_4], .blob a0_5, .int a0_6, .int a0_7, .int a0_8, .int a0_9, .int a0_10, .int a0_11], .int a0_12, .agg [.agg [.int a0_13, .blob a0_14, .blob a0_15, .int a0_16], .slice a0_17], .slice a0_18]] = f41 (runE G ext n) n a0_1 a0_2 a0_3 a0_4 a0_5 a0_6 a0_7 a0_8 a0_9 a0_10 a0_11 a0_12 a0_13 a0_14 a0_15 a0_16 a0_17 a0_18 := runE_succ f41_at f41_in

noncomputable def f97_l0 (run : Run) (n : Nat) (k0 : Nat) (x8_1 : List AV) (x9_1 : Int) (x10_1 : Int) : Option Res :=
  iterK (evalK G run n f97_keep 0 (sub [1, 1, 0, 1, 0, 0] f97_body)) f97_t0 f97_o0 (blockK 0 (seqK (evalK G run n f97_keep 0 (sub [1, 1, 1] f97_body) (retE G f97_info)) (retE G f97_info))) k0
    ⟨[.any, .any, .any, .any, .any, .any, .any, .any, .val (.slice .str) none (.slice x8_1), .val (.int .i64) none (.int x9_1), .val (.int .i64) none (.int x10_1), .any, .any, .any, .any, .any, .any, .any], [⟨0, none⟩, ⟨0, none⟩, ⟨0, none⟩, ⟨0, none⟩, ⟨0, none⟩, ⟨0, none⟩, ⟨0, none⟩, ⟨0, none⟩, ⟨0, none⟩, ⟨0, none⟩, ⟨0, none⟩, ⟨0, none⟩, ⟨0, none⟩, ⟨0, none⟩, ⟨0, none⟩, ⟨0, none⟩, ⟨0, none⟩, ⟨0, none⟩], List.replicate 18 0⟩
theorem f97_l0_eq (run : Run) (n : Nat) (k0 : Nat) (x8_1 : List AV) (x9_1 : Int) (x10_1 : Int) : f97_l0 run n (k0 + 1) x8_1 x9_1 x10_1 =
  bif ltI x10_1 x9_1 then
    bif inR x10_1 x8_1.length then
    bif ltI 4096 (((nth x8_1 (Int.toNat x10_1)).toStr).length : Int) then
    some ⟨[.int 4], [], f97_fresh⟩
  else
    f97_l0 run n k0 x8_1 x9_1 (IntKind.wrap .i64 (x10_1 + 1))
  else none
  else
    some ⟨[.int 0], [], f97_fresh⟩ := by kernel_rfl
noncomputable def f97 (run : Run) (n : Nat) (a0_1 : List AV) : Option Res := evalK G run n f97_info.keep 0 f97_info.body (retE G f97_info) (f97_info.start [.slice a0_1])
theorem f97_eq (run : Run) (n : Nat) (a0_1 : List AV) : f97 run n a0_1 =
  bif ltI 1024 (a0_1.length : Int) then
    some ⟨[.int 4], [], f97_fresh⟩
  else
    f97_l0 run n n a0_1 (a0_1.length : Int) 0 := by kernel_rfl
theorem f97_run (ext : Run) (n : Nat) (a0_1 : List AV) : runE G ext (n + 1) 97 [.slice a0_1] = f97 (runE G ext n) n a0_1 := runE_succ f97_at f97_in

noncomputable def f149 (run : Run) (n : Nat) (a0_1 : List UInt8) : Option Res := evalK G run n f149_info.keep 0 f149_info.body (retE G f149_info) (f149_info.start [.blob a0_1])
theorem f149_eq (run : Run) (n : Nat) (a0_1 : List UInt8) : f149 run n a0_1 =
  bif Nat.ble (1 + (bytesOf (List.drop 0 (List.take 32 (ofBytes a0_1)))).length) maxLen then
    some ⟨[.str ([76] ++ (bytesOf (List.drop 0 (List.take 32 (ofBytes a0_1)))))], [], f149_fresh⟩
  else none := by kernel_rfl
theorem f149_run (ext : Run) (n : Nat) (a0_1 : List UInt8) : runE G ext (n + 1) 149 [.blob a0_1] = f149 (runE G ext n) n a0_1 := runE_succ f149_at f149_in

noncomputable def f119_l0 (run : Run) (n : Nat) (k0 : Nat) (x3_1 : List AV) (x6_1 : List AV) (x7_1 : Int) (x8_1 : Int) : Option Res :=
  iterK (evalK G run n f119_keep 0 (sub [1, 1, 0, 1, 0, 0] f119_body)) f119_t0 f119_o0 (blockK 0 (seqK (evalK G run n f119_keep 0 (sub [1, 1, 1] f119_body) (retE G f119_info)) (retE G f119_info))) k0
    ⟨[.any, .any, .any, .val (.slice .str) (some (3, 0)) (.slice x3_1), .any, .any, .val (.slice (.blob 32)) none (.slice x6_1), .val (.int .i64) none (.int x7_1), .val (.int .i64) none (.int x8_1), .any, .any, .any, .any, .any, .any, .any, .any, .any, .any], [⟨0, none⟩, ⟨0, none⟩, ⟨0, none⟩, ⟨0, none⟩, ⟨0, none⟩, ⟨0, none⟩, ⟨0, none⟩, ⟨0, none⟩, ⟨0, none⟩, ⟨0, none⟩, ⟨0, none⟩, ⟨0, none⟩, ⟨0, none⟩, ⟨0, none⟩, ⟨0, none⟩, ⟨0, none⟩, ⟨0, none⟩, ⟨0, none⟩, ⟨0, none⟩], List.replicate 19 0⟩
theorem f119_l0_eq (run : Run) (n : Nat) (k0 : Nat) (x3_1 : List AV) (x6_1 : List AV) (x7_1 : Int) (x8_1 : Int) : f119_l0 run n (k0 + 1) x3_1 x6_1 x7_1 x8_1 =
  bif ltI x8_1 x7_1 then
    bif inR x8_1 x6_1.length then
    (run 149 [.blob ((nth x6_1 (Int.toNat x8_1)).toBlob)]).bind fun r1 =>
    nilV r1.outs (consV r1.vals fun v1 vs1 =>
    nilV vs1 (bif Nat.ble ((x3_1.length + 1) * 16) 140737488355328 then
    f119_l0 run n k0 (x3_1 ++ [.str v1.toStr]) x6_1 x7_1 (IntKind.wrap .i64 (x8_1 + 1))
  else none))
  else none
  else
    some ⟨[.slice x3_1], [], f119_fresh⟩ := by kernel_rfl
noncomputable def f119 (run : Run) (n : Nat) (a0_1 : List AV) : Option Res := evalK G run n f119_info.keep 0 f119_info.body (retE G f119_info) (f119_info.start [.slice a0_1])
theorem f119_eq (run : Run) (n : Nat) (a0_1 : List AV) : f119 run n a0_1 =
  f119_l0 run n n [] a0_1 (a0_1.length : Int) 0 := by kernel_rfl
theorem f119_run (ext : Run) (n : Nat) (a0_1 : List AV) : runE G ext (n + 1) 119 [.slice a0_1] = f119 (runE G ext n) n a0_1 := runE_succ f119_at f119_in

noncomputable def f188 (run : Run) (n : Nat) (a0_1 : List UInt8) : Option Res := evalK G run n f188_info.keep 0 f188_info.body (retE G f188_info) (f188_info.start [.str a0_1])
theorem f188_eq (run : Run) (n : Nat) (a0_1 : List UInt8) : f188 run n a0_1 =
  (run 173 [.int 0, .slice [.str a0_1]]).bind fun r1 =>
    nilV r1.outs (consV r1.vals fun v1 vs1 =>
    nilV vs1 (some ⟨[.str v1.toStr], [], f188_fresh⟩)) := by kernel_rfl
theorem f188_run (ext : Run) (n : Nat) (a0_1 : List UInt8) : runE G ext (n + 1) 188 [.str a0_1] = f188 (runE G ext n) n a0_1 := runE_succ f188_at f188_in

noncomputable def f165 (run : Run) (n : Nat) (a0_1 : List UInt8) : Option Res := evalK G run n f165_info.keep 0 f165_info.body (retE G f165_info) (f165_info.start [.str a0_1])
theorem f165_eq (run : Run) (n : Nat) (a0_1 : List UInt8) : f165 run n a0_1 =
  (run 188 [.str a0_1]).bind fun r1 =>
    nilV r1.outs (consV r1.vals fun v1 vs1 =>
    nilV vs1 ((run 142 [.str v1.toStr]).bind fun r2 =>
    nilV r2.outs (consV r2.vals fun v2 vs2 =>
    nilV vs2 (some ⟨[.blob v2.toBlob], [], f165_fresh⟩)))) := by kernel_rfl
theorem f165_run (ext : Run) (n : Nat) (a0_1 : List UInt8) : runE G ext (n + 1) 165 [.str a0_1] = f165 (runE G ext n) n a0_1 := runE_succ f165_at f165_in

noncomputable def f164_s165_l0 (run : Run) (n : Nat) (k0 : Nat) (x5_1 : List AV) (x8_1 : List AV) (x9_1 : Int) (x10_1 : Int) : Option Res :=
  iterK (evalK G run n f164_keep 0 (sub [1, 1, 0, 1, 0, 0] f164_body)) f164_t0 f164_o0 (blockK 0 (seqK (evalK G run n f164_keep 0 (sub [1, 1, 1] f164_body) (retE G f164_info)) (retE G f164_info))) k0
    ⟨[.any, .val .fn none (.fn 165), .any, .any, .any, .val (.slice (.blob 32)) (some (5, 0)) (.slice x5_1), .any, .any, .val (.slice .str) none (.slice x8_1), .val (.int .i64) none (.int x9_1), .val (.int .i64) none (.int x10_1), .any, .any, .any, .any, .any, .any, .any, .any, .any, .any, .any], [⟨0, none⟩, ⟨0, none⟩, ⟨0, none⟩, ⟨0, none⟩, ⟨0, none⟩, ⟨0, none⟩, ⟨0, none⟩, ⟨0, none⟩, ⟨0, none⟩, ⟨0, none⟩, ⟨0, none⟩, ⟨0, none⟩, ⟨0, none⟩, ⟨0, none⟩, ⟨0, none⟩, ⟨0, none⟩, ⟨0, none⟩, ⟨0, none⟩, ⟨0, none⟩, ⟨0, none⟩, ⟨0, none⟩, ⟨0, none⟩], List.replicate 22 0⟩
theorem f164_s165_l0_eq (run : Run) (n : Nat) (k0 : Nat) (x5_1 : List AV) (x8_1 : List AV) (x9_1 : Int) (x10_1 : Int) : f164_s165_l0 run n (k0 + 1) x5_1 x8_1 x9_1 x10_1 =
  bif ltI x10_1 x9_1 then
    bif inR x10_1 x8_1.length then
    (run 165 [.str ((nth x8_1 (Int.toNat x10_1)).toStr)]).bind fun r1 =>
    nilV r1.outs (consV r1.vals fun v1 vs1 =>
    nilV vs1 (bif Nat.ble ((x5_1.length + 1) * 32) 140737488355328 then
    f164_s165_l0 run n k0 (x5_1 ++ [.blob v1.toBlob]) x8_1 x9_1 (IntKind.wrap .i64 (x10_1 + 1))
  else none))
  else none
  else
    some ⟨[.slice x5_1], [], f164_fresh⟩ := by kernel_rfl
noncomputable def f164_s165 (run : Run) (n : Nat) (a0_1 : List AV) : Option Res := evalK G run n f164_info.keep 0 f164_info.body (retE G f164_info) (f164_info.start [.slice a0_1, .fn 165])
theorem f164_s165_eq (run : Run) (n : Nat) (a0_1 : List AV) : f164_s165 run n a0_1 =
  f164_s165_l0 run n n [] a0_1 (a0_1.length : Int) 0 := by kernel_rfl
theorem f164_s165_run (ext : Run) (n : Nat) (a0_1 : List AV) : runE G ext (n + 1) 164 [.slice a0_1, .fn 165] = f164_s165 (runE G ext n) n a0_1 := runE_succ f164_at f164_in

noncomputable def f134 (run : Run) (n : Nat) (a0_1 : List AV) : Option Res := evalK G run n f134_info.keep 0 f134_info.body (retE G f134_info) (f134_info.start [.slice a0_1])
theorem f134_eq (run : Run) (n : Nat) (a0_1 : List AV) : f134 run n a0_1 =
  (run 164 [.slice a0_1, .fn 165]).bind fun r1 =>
    bif r1.fresh then
    nilV r1.outs (consV r1.vals fun v1 vs1 =>
    nilV vs1 (some ⟨[.slice v1.toSlice], [], f134_fresh⟩))
  else none := by kernel_rfl
theorem f134_run (ext : Run) (n : Nat) (a0_1 : List AV) : runE G ext (n + 1) 134 [.slice a0_1] = f134 (runE G ext n) n a0_1 := runE_succ f134_at f134_in

noncomputable def f162_l0 (run : Run) (n : Nat) (k0 : Nat) (x0_1 : Int) (x3_1 : Int) : Option Res :=
  iterK (evalK G run n f162_keep 0 (sub [1, 1, 1, 0, 0, 0] f162_body)) f162_t0 f162_o0 (blockK 0 (seqK (evalK G run n f162_keep 0 (sub [1, 1, 1, 1] f162_body) (retE G f162_info)) (retE G f162_info))) k0
    ⟨[.val (.int .i64) none (.int x0_1), .any, .any, .val (.int .i64) none (.int x3_1), .any, .any, .any, .any, .any, .any, .any, .any, .any, .any], [⟨0, none⟩, ⟨0, none⟩, ⟨0, none⟩, ⟨0, none⟩, ⟨0, none⟩, ⟨0, none⟩, ⟨0, none⟩, ⟨0, none⟩, ⟨0, none⟩, ⟨0, none⟩, ⟨0, none⟩, ⟨0, none⟩, ⟨0, none⟩, ⟨0, none⟩], List.replicate 14 0⟩
theorem f162_l0_eq (run : Run) (n : Nat) (k0 : Nat) (x0_1 : Int) (x3_1 : Int) : f162_l0 run n (k0 + 1) x0_1 x3_1 =
  bif leI x3_1 (IntKind.wrap .i64 (Int.tdiv (IntKind.wrap .i64 (x0_1 - 1)) 2)) then
    f162_l0 run n k0 x0_1 (IntKind.wrap .i64 (x3_1 * 2))
  else
    some ⟨[.int x3_1], [], f162_fresh⟩ := by kernel_rfl
noncomputable def f162 (run : Run) (n : Nat) (a0_1 : Int) : Option Res := evalK G run n f162_info.keep 0 f162_info.body (retE G f162_info) (f162_info.start [.int a0_1])
theorem f162_eq (run : Run) (n : Nat) (a0_1 : Int) : f162 run n a0_1 =
  bif ltI a0_1 2 then
    some ⟨[.int 0], [], f162_fresh⟩
  else
    f162_l0 run n n a0_1 1 := by kernel_rfl
theorem f162_run (ext : Run) (n : Nat) (a0_1 : Int) : runE G ext (n + 1) 162 [.int a0_1] = f162 (runE G ext n) n a0_1 := runE_succ f162_at f162_in

noncomputable def f186 (run : Run) (n : Nat) (a0_1 : List AV) : Option Res := evalK G run n f186_info.keep 0 f186_info.body (retE G f186_info) (f186_info.start [.slice a0_1])
theorem f186_eq (run : Run) (n : Nat) (a0_1 : List AV) : f186 run n a0_1 =
  (run 162 [.int (a0_1.length : Int)]).bind fun r1 =>
    nilV r1.outs (consV r1.vals fun v1 vs1 =>
    nilV vs1 (bif boundsOk 0 v1.toInt (a0_1.length : Int) (a0_1.length : Int) && true then
    bif boundsOk v1.toInt (a0_1.length : Int) (a0_1.length : Int) (a0_1.length : Int) && true then
    some ⟨[.slice (List.drop 0 (List.take (Int.toNat v1.toInt) a0_1)), .slice (List.drop (Int.toNat v1.toInt) (List.take (Int.toNat (a0_1.length : Int)) a0_1))], [], f186_fresh⟩
  else none
  else none)) := by kernel_rfl
theorem f186_run (ext : Run) (n : Nat) (a0_1 : List AV) : runE G ext (n + 1) 186 [.slice a0_1] = f186 (runE G ext n) n a0_1 := runE_succ f186_at f186_in

noncomputable def f205 (run : Run) (n : Nat) (a0_1 : List UInt8) (a1_1 : List UInt8) : Option Res := evalK G run n f205_info.keep 0 f205_info.body (retE G f205_info) (f205_info.start [.blob a0_1, .blob a1_1])
theorem f205_eq (run : Run) (n : Nat) (a0_1 : List UInt8) (a1_1 : List UInt8) : f205 run n a0_1 a1_1 =
  (run 173 [.int 1, .slice [.str (bytesOf (List.drop 0 (List.take 32 (ofBytes a0_1)))), .str (bytesOf (List.drop 0 (List.take 32 (ofBytes a1_1))))]]).bind fun r1 =>
    nilV r1.outs (consV r1.vals fun v1 vs1 =>
    nilV vs1 (some ⟨[.str v1.toStr], [], f205_fresh⟩)) := by kernel_rfl
theorem f205_run (ext : Run) (n : Nat) (a0_1 : List UInt8) (a1_1 : List UInt8) : runE G ext (n + 1) 205 [.blob a0_1, .blob a1_1] = f205 (runE G ext n) n a0_1 a1_1 := runE_succ f205_at f205_in

noncomputable def f187 (run : Run) (n : Nat) (a0_1 : List UInt8) (a1_1 : List UInt8) : Option Res := evalK G run n f187_info.keep 0 f187_info.body (retE G f187_info) (f187_info.start [.blob a0_1, .blob a1_1])
theorem f187_eq (run : Run) (n : Nat) (a0_1 : List UInt8) (a1_1 : List UInt8) : f187 run n a0_1 a1_1 =
  (run 205 [.blob a0_1, .blob a1_1]).bind fun r1 =>
    nilV r1.outs (consV r1.vals fun v1 vs1 =>
    nilV vs1 ((run 142 [.str v1.toStr]).bind fun r2 =>
    nilV r2.outs (consV r2.vals fun v2 vs2 =>
    nilV vs2 (some ⟨[.blob v2.toBlob], [], f187_fresh⟩)))) := by kernel_rfl
theorem f187_run (ext : Run) (n : Nat) (a0_1 : List UInt8) (a1_1 : List UInt8) : runE G ext (n + 1) 187 [.blob a0_1, .blob a1_1] = f187 (runE G ext n) n a0_1 a1_1 := runE_succ f187_at f187_in

noncomputable def f163 (run : Run) (n : Nat) (a0_1 : List AV) : Option Res := evalK G run n f163_info.keep 0 f163_info.body (retE G f163_info) (f163_info.start [.slice a0_1])
theorem f163_eq (run : Run) (n : Nat) (a0_1 : List AV) : f163 run n a0_1 =
  bif eqI (a0_1.length : Int) 0 then
    some ⟨[.blob [0, 0, 0, 0, 0, 0, 0, 0, 0, 0, 0, 0, 0, 0, 0, 0, 0, 0, 0, 0, 0, 0, 0, 0, 0, 0, 0, 0, 0, 0, 0, 0]], [], f163_fresh⟩
  else
    bif eqI (a0_1.length : Int) 1 then
    bif inR 0 a0_1.length then
    some ⟨[.blob ((nth a0_1 0).toBlob)], [], f163_fresh⟩
  else none
  else
    (run 186 [.slice a0_1]).bind fun r1 =>
    nilV r1.outs (consV r1.vals fun v1 vs1 =>
    consV vs1 fun v2 vs2 =>
    nilV vs2 ((run 163 [.slice v1.toSlice]).bind fun r2 =>
    nilV r2.outs (consV r2.vals fun v3 vs3 =>
    nilV vs3 ((run 163 [.slice v2.toSlice]).bind fun r3 =>
    nilV r3.outs (consV r3.vals fun v4 vs4 =>
    nilV vs4 ((run 187 [.blob v3.toBlob, .blob v4.toBlob]).bind fun r4 =>
    nilV r4.outs (consV r4.vals fun v5 vs5 =>
    nilV vs5 (some ⟨[.blob v5.toBlob], [], f163_fresh⟩)))))))) := by kernel_rfl
theorem f163_run (ext : Run) (n : Nat) (a0_1 : List AV) : runE G ext (n + 1) 163 [.slice a0_1] = f163 (runE G ext n) n a0_1 := runE_succ f163_at f163_in

noncomputable def f191 (run : Run) (n : Nat) (a0_1 : Int) (a1_1 : List UInt8) : Option Res := evalK G run n f191_info.keep 0 f191_info.body (retE G f191_info) (f191_info.start [.int a0_1, .blob a1_1])
theorem f191_eq (run : Run) (n : Nat) (a0_1 : Int) (a1_1 : List UInt8) : f191 run n a0_1 a1_1 =
  (run 145 [.int a0_1]).bind fun r1 =>
    nilV r1.outs (consV r1.vals fun v1 vs1 =>
    nilV vs1 ((run 173 [.int 2, .slice [.str v1.toStr, .str (bytesOf (List.drop 0 (List.take 32 (ofBytes a1_1))))]]).bind fun r2 =>
    nilV r2.outs (consV r2.vals fun v2 vs2 =>
    nilV vs2 (some ⟨[.str v2.toStr], [], f191_fresh⟩)))) := by kernel_rfl
theorem f191_run (ext : Run) (n : Nat) (a0_1 : Int) (a1_1 : List UInt8) : runE G ext (n + 1) 191 [.int a0_1, .blob a1_1] = f191 (runE G ext n) n a0_1 a1_1 := runE_succ f191_at f191_in

noncomputable def f168 (run : Run) (n : Nat) (a0_1 : Int) (a1_1 : List UInt8) : Option Res := evalK G run n f168_info.keep 0 f168_info.body (retE G f168_info) (f168_info.start [.int a0_1, .blob a1_1])
theorem f168_eq (run : Run) (n : Nat) (a0_1 : Int) (a1_1 : List UInt8) : f168 run n a0_1 a1_1 =
  (run 191 [.int a0_1, .blob a1_1]).bind fun r1 =>
    nilV r1.outs (consV r1.vals fun v1 vs1 =>
    nilV vs1 ((run 142 [.str v1.toStr]).bind fun r2 =>
    nilV r2.outs (consV r2.vals fun v2 vs2 =>
    nilV vs2 (some ⟨[.blob v2.toBlob], [], f168_fresh⟩)))) := by kernel_rfl
theorem f168_run (ext : Run) (n : Nat) (a0_1 : Int) (a1_1 : List UInt8) : runE G ext (n + 1) 168 [.int a0_1, .blob a1_1] = f168 (runE G ext n) n a0_1 a1_1 := runE_succ f168_at f168_in

noncomputable def f169 (run : Run) (n : Nat) (a0_1 : List AV) : Option Res := evalK G run n f169_info.keep 0 f169_info.body (retE G f169_info) (f169_info.start [.slice a0_1])
theorem f169_eq (run : Run) (n : Nat) (a0_1 : List AV) : f169 run n a0_1 =
  (run 134 [.slice a0_1]).bind fun r1 =>
    bif r1.fresh then
    nilV r1.outs (consV r1.vals fun v1 vs1 =>
    nilV vs1 ((run 163 [.slice v1.toSlice]).bind fun r2 =>
    nilV r2.outs (consV r2.vals fun v2 vs2 =>
    nilV vs2 ((run 168 [.int (IntKind.wrap .u64 (a0_1.length : Int)), .blob v2.toBlob]).bind fun r3 =>
    nilV r3.outs (consV r3.vals fun v3 vs3 =>
    nilV vs3 (some ⟨[.blob v3.toBlob], [], f169_fresh⟩))))))
  else none := by kernel_rfl
theorem f169_run (ext : Run) (n : Nat) (a0_1 : List AV) : runE G ext (n + 1) 169 [.slice a0_1] = f169 (runE G ext n) n a0_1 := runE_succ f169_at f169_in

noncomputable def f139 (run : Run) (n : Nat) (a0_1 : List AV) : Option Res := evalK G run n f139_info.keep 0 f139_info.body (retE G f139_info) (f139_info.start [.slice a0_1])
theorem f139_eq (run : Run) (n : Nat) (a0_1 : List AV) : f139 run n a0_1 =
  (run 119 [.slice a0_1]).bind fun r1 =>
    bif r1.fresh then
    nilV r1.outs (consV r1.vals fun v1 vs1 =>
    nilV vs1 ((run 169 [.slice v1.toSlice]).bind fun r2 =>
    nilV r2.outs (consV r2.vals fun v2 vs2 =>
    nilV vs2 (some ⟨[.blob v2.toBlob], [], f139_fresh⟩))))
  else none := by kernel_rfl
theorem f139_run (ext : Run) (n : Nat) (a0_1 : List AV) : runE G ext (n + 1) 139 [.slice a0_1] = f139 (runE G ext n) n a0_1 := runE_succ f139_at f139_in

noncomputable def f111 (run : Run) (n : Nat) (a0_1 : List UInt8) : Option Res := evalK G run n f111_info.keep 0 f111_info.body (retE G f111_info) (f111_info.start [.str a0_1])
theorem f111_eq (run : Run) (n : Nat) (a0_1 : List UInt8) : f111 run n a0_1 =
  bif Nat.ble (1 + a0_1.length) maxLen then
    some ⟨[.str ([84] ++ a0_1)], [], f111_fresh⟩
  else none := by kernel_rfl
theorem f111_run (ext : Run) (n : Nat) (a0_1 : List UInt8) : runE G ext (n + 1) 111 [.str a0_1] = f111 (runE G ext n) n a0_1 := runE_succ f111_at f111_in

noncomputable def f99_l0 (run : Run) (n : Nat) (k0 : Nat) (x3_1 : List AV) (x6_1 : List AV) (x7_1 : Int) (x8_1 : Int) : Option Res :=
  iterK (evalK G run n f99_keep 0 (sub [1, 1, 0, 1, 0, 0] f99_body)) f99_t0 f99_o0 (blockK 0 (seqK (evalK G run n f99_keep 0 (sub [1, 1, 1] f99_body) (retE G f99_info)) (retE G f99_info))) k0
    ⟨[.any, .any, .any, .val (.slice .str) (some (3, 0)) (.slice x3_1), .any, .any, .val (.slice .str) none (.slice x6_1), .val (.int .i64) none (.int x7_1), .val (.int .i64) none (.int x8_1), .any, .any, .any, .any, .any, .any, .any, .any, .any, .any], [⟨0, none⟩, ⟨0, none⟩, ⟨0, none⟩, ⟨0, none⟩, ⟨0, none⟩, ⟨0, none⟩, ⟨0, none⟩, ⟨0, none⟩, ⟨0, none⟩, ⟨0, none⟩, ⟨0, none⟩, ⟨0, none⟩, ⟨0, none⟩, ⟨0, none⟩, ⟨0, none⟩, ⟨0, none⟩, ⟨0, none⟩, ⟨0, none⟩, ⟨0, none⟩], List.replicate 19 0⟩
theorem f99_l0_eq (run : Run) (n : Nat) (k0 : Nat) (x3_1 : List AV) (x6_1 : List AV) (x7_1 : Int) (x8_1 : Int) : f99_l0 run n (k0 + 1) x3_1 x6_1 x7_1 x8_1 =
  bif ltI x8_1 x7_1 then
    bif inR x8_1 x6_1.length then
    (run 111 [.str ((nth x6_1 (Int.toNat x8_1)).toStr)]).bind fun r1 =>
    nilV r1.outs (consV r1.vals fun v1 vs1 =>
    nilV vs1 (bif Nat.ble ((x3_1.length + 1) * 16) 140737488355328 then
    f99_l0 run n k0 (x3_1 ++ [.str v1.toStr]) x6_1 x7_1 (IntKind.wrap .i64 (x8_1 + 1))
  else none))
  else none
  else
    some ⟨[.slice x3_1], [], f99_fresh⟩ := by kernel_rfl
noncomputable def f99 (run : Run) (n : Nat) (a0_1 : List AV) : Option Res := evalK G run n f99_info.keep 0 f99_info.body (retE G f99_info) (f99_info.start [.slice a0_1])
theorem f99_eq (run : Run) (n : Nat) (a0_1 : List AV) : f99 run n a0_1 =
  f99_l0 run n n [] a0_1 (a0_1.length : Int) 0 := by kernel_rfl
theorem f99_run (ext : Run) (n : Nat) (a0_1 : List AV) : runE G ext (n + 1) 99 [.slice a0_1] = f99 (runE G ext n) n a0_1 := runE_succ f99_at f99_in

noncomputable def f140 (run : Run) (n : Nat) (a0_1 : List AV) : Option Res := evalK G run n f140_info.keep 0 f140_info.body (retE G f140_info) (f140_info.start [.slice a0_1])
theorem f140_eq (run : Run) (n : Nat) (a0_1 : List AV) : f140 run n a0_1 =
  (run 99 [.slice a0_1]).bind fun r1 =>
    bif r1.fresh then
    nilV r1.outs (consV r1.vals fun v1 vs1 =>
    nilV vs1 ((run 169 [.slice v1.toSlice]).bind fun r2 =>
    nilV r2.outs (consV r2.vals fun v2 vs2 =>
    nilV vs2 (some ⟨[.blob v2.toBlob], [], f140_fresh⟩))))
  else none := by kernel_rfl
theorem f140_run (ext : Run) (n : Nat) (a0_1 : List AV) : runE G ext (n + 1) 140 [.slice a0_1] = f140 (runE G ext n) n a0_1 := runE_succ f140_at f140_in

noncomputable def f112 (run : Run) (n : Nat) (a0_1 : Int) (a1_1 : List AV) (a2_1 : List AV) (a3_1 : Int) : Option Res := evalK G run n f112_info.keep 0 f112_info.body (retE G f112_info) (f112_info.start [.int a0_1, .slice a1_1, .slice a2_1, .int a3_1])
theorem f112_eq (run : Run) (n : Nat) (a0_1 : Int) (a1_1 : List AV) (a2_1 : List AV) (a3_1 : Int) : f112 run n a0_1 a1_1 a2_1 a3_1 =
  (run 139 [.slice a1_1]).bind fun r1 =>
    nilV r1.outs (consV r1.vals fun v1 vs1 =>
    nilV vs1 ((run 140 [.slice a2_1]).bind fun r2 =>
    nilV r2.outs (consV r2.vals fun v2 vs2 =>
    nilV vs2 (bif Nat.ble ((a2_1.length) * 16) 140737488355328 then
    some ⟨[.agg [.agg [.int a0_1, .blob v1.toBlob, .blob v2.toBlob, .int a3_1], .slice a2_1]], [], f112_fresh⟩
  else none)))) := by kernel_rfl
theorem f112_run (ext : Run) (n : Nat) (a0_1 : Int) (a1_1 : List AV) (a2_1 : List AV) (a3_1 : Int) : runE G ext (n + 1) 112 [.int a0_1, .slice a1_1, .slice a2_1, .int a3_1] = f112 (runE G ext n) n a0_1 a1_1 a2_1 a3_1 := runE_succ f112_at f112_in

noncomputable def f72 (run : Run) (n : Nat) (a0_1 : Int) (a0_2 : List UInt8) (a0_3 : List UInt8) (a0_4 : Int) (a0_5 : List AV) (a1_1 : Int) (a2_1 : List AV) : Option Res := evalK G run n f72_info.keep 0 f72_info.body (retE G f72_info) (f72_info.start [.agg [.agg [.int a0_1, .blob a0_2, .blob a0_3, .int a0_4], .slice a0_5], .int a1_1, .slice a2_1])
theorem f72_eq (run : Run) (n : Nat) (a0_1 : Int) (a0_2 : List UInt8) (a0_3 : List UInt8) (a0_4 : Int) (a0_5 : List AV) (a1_1 : Int) (a2_1 : List AV) : f72 run n a0_1 a0_2 a0_3 a0_4 a0_5 a1_1 a2_1 =
  bif !(eqI a0_1 a1_1) then
    some ⟨[.int 8], [], f72_fresh⟩
  else
    (run 97 [.slice a0_5]).bind fun r1 =>
    nilV r1.outs (consV r1.vals fun v1 vs1 =>
    nilV vs1 (bif !(eqI v1.toInt 0) then
    some ⟨[.int v1.toInt], [], f72_fresh⟩
  else
    (run 112 [.int a1_1, .slice a2_1, .slice a0_5, .int a0_4]).bind fun r2 =>
    nilV r2.outs (consV r2.vals fun v2 vs2 =>
    nilV vs2 (bif !(eqI (((v2.fld 0).fld 0).toInt) a0_1 && (eqS (((v2.fld 0).fld 1).toBlob) a0_2 && (eqS (((v2.fld 0).fld 2).toBlob) a0_3 && (eqI (((v2.fld 0).fld 3).toInt) a0_4 && true)))) then
    some ⟨[.int 12], [], f72_fresh⟩
  else
    some ⟨[.int 0], [], f72_fresh⟩)))) := by kernel_rfl
theorem f72_run (ext : Run) (n : Nat) (a0_1 : Int) (a0_2 : List UInt8) (a0_3 : List UInt8) (a0_4 : Int) (a0_5 : List AV) (a1_1 : Int) (a2_1 : List AV) : runE G ext (n + 1) 72 [.agg [.agg [.int a0_1, .blob a0_2, .blob a0_3, .int a0_4], .slice a0_5], .int a1_1, .slice a2_1] = f72 (runE G ext n) n a0_1 a0_2 a0_3 a0_4 a0_5 a1_1 a2_1 := runE_succ f72_at f72_in

noncomputable def f40 (run : Run) (n : Nat) (a0_1 : Int) (a0_2 : List UInt8) (a0_3 : List UInt8) (a0_4 : Int) (a0_5 : List UInt8) (a0_6 : Int) (a0_7 : Int) (a0_8 : Int) (a0_9 : Int) (a0_10 : Int) (a0_11 : Int) (a0_12 : Int) (a0_13 : Int) (a0_14 : List UInt8) (a0_15 : List UInt8) (a0_16 : Int) (a0_17 : List AV) (a0_18 : List AV) : Option Res := evalK G run n f40_info.keep 0 f40_info.body (retE G f40_info) (f40_info.start [.agg [.agg [.agg [.int a0_1, .blob a0_2, .blob a0_3, .int a0_4], .blob a0_5, .int a0_6, .int a0_7, .int a0_8, .int a0_9, .int a0_10, .int a0_11], .int a0_12, .agg [.agg [.int a0_13, .blob a0_14, .blob a0_15, .int a0_16], .slice a0_17], .slice a0_18]])
theorem f40_eq (run : Run) (n : Nat) (a0_1 : Int) (a0_2 : List UInt8) (a0_3 : List UInt8) (a0_4 : Int) (a0_5 : List UInt8) (a0_6 : Int) (a0_7 : Int) (a0_8 : Int) (a0_9 : Int) (a0_10 : Int) (a0_11 : Int) (a0_12 : Int) (a0_13 : Int) (a0_14 : List UInt8) (a0_15 : List UInt8) (a0_16 : Int) (a0_17 : List AV) (a0_18 : List AV) : f40 run n a0_1 a0_2 a0_3 a0_4 a0_5 a0_6 a0_7 a0_8 a0_9 a0_10 a0_11 a0_12 a0_13 a0_14 a0_15 a0_16 a0_17 a0_18 =
  (run 72 [.agg [.agg [.int a0_13, .blob a0_14, .blob a0_15, .int a0_16], .slice a0_17], .int (IntKind.wrap .u32 a0_12), .slice a0_18]).bind fun r1 =>
    nilV r1.outs (consV r1.vals fun v1 vs1 =>
    nilV vs1 (some ⟨[.int v1.toInt], [], f40_fresh⟩)) := by kernel_rfl
theorem f40_run (ext : Run) (n : Nat) (a0_1 : Int) (a0_2 : List UInt8) (a0_3 : List UInt8) (a0_4 : Int) (a0_5 : List UInt8) (a0_6 : Int) (a0_7 : Int) (a0_8 : Int) (a0_9 : Int) (a0_10 : Int) (a0_11 : Int) (a0_12 : Int) (a0_13 : Int) (a0_14 : List UInt8) (a0_15 : List UInt8) (a0_16 : Int) (a0_17 : List AV) (a0_18 : List AV) : runE G ext (n + 1) 40 [.agg [.agg [.agg [.int a0_1, .blob a0_2, .blob a0_3, .int a0_4], .blob a0_5, .int a0_6, .int a0_7, .int a0_8, .int a0_9, .int a0_10, .int a0_11], .int a0_12, .agg [.agg [.int a0_13, .blob a0_14, .blob a0_15, .int a0_16], .slice a0_17], .slice a0_18]] = f40 (runE G ext n) n a0_1 a0_2 a0_3 a0_4 a0_5 a0_6 a0_7 a0_8 a0_9 a0_10 a0_11 a0_12 a0_13 a0_14 a0_15 a0_16 a0_17 a0_18 := runE_succ f40_at f40_in

noncomputable def f39 (run : Run) (n : Nat) (a0_1 : Int) (a0_2 : List UInt8) (a0_3 : List UInt8) (a0_4 : Int) (a0_5 : List UInt8) (a0_6 : Int) (a0_7 : Int) (a0_8 : Int) (a0_9 : Int) (a0_10 : Int) (a0_11 : Int) (a0_12 : Int) (a0_13 : Int) (a0_14 : List UInt8) (a0_15 : List UInt8) (a0_16 : Int) (a0_17 : List AV) (a0_18 : List AV) : Option Res := evalK G run n f39_info.keep 0 f39_info.body (retE G f39_info) (f39_info.start [.agg [.agg [.agg [.int a0_1, .blob a0_2, .blob a0_3, .int a0_4], .blob a0_5, .int a0_6, .int a0_7, .int a0_8, .int a0_9, .int a0_10, .int a0_11], .int a0_12, .agg [.agg [.int a0_13, .blob a0_14, .blob a0_15, .int a0_16], .slice a0_17], .slice a0_18]])
theorem f39_eq (run : Run) (n : Nat) (a0_1 : Int) (a0_2 : List UInt8) (a0_3 : List UInt8) (a0_4 : Int) (a0_5 : List UInt8) (a0_6 : Int) (a0_7 : Int) (a0_8 : Int) (a0_9 : Int) (a0_10 : Int) (a0_11 : Int) (a0_12 : Int) (a0_13 : Int) (a0_14 : List UInt8) (a0_15 : List UInt8) (a0_16 : Int) (a0_17 : List AV) (a0_18 : List AV) : f39 run n a0_1 a0_2 a0_3 a0_4 a0_5 a0_6 a0_7 a0_8 a0_9 a0_10 a0_11 a0_12 a0_13 a0_14 a0_15 a0_16 a0_17 a0_18 =
  bif eqI a0_12 0 then
    bif !(eqI a0_13 a0_1 && (eqS a0_14 a0_2 && (eqS a0_15 a0_3 && (eqI a0_16 a0_4 && true)))) then
    some ⟨[.int 7], [], f39_fresh⟩
  else
    some ⟨[.int 0], [], f39_fresh⟩
  else
    some ⟨[.int 0], [], f39_fresh⟩ := by kernel_rfl
theorem f39_run (ext : Run) (n : Nat) (a0_1 : Int) (a0_2 : List UInt8) (a0_3 : List UInt8) (a0_4 : Int) (a0_5 : List UInt8) (a0_6 : Int) (a0_7 : Int) (a0_8 : Int) (a0_9 : Int) (a0_10 : Int) (a0_11 : Int) (a0_12 : Int) (a0_13 : Int) (a0_14 : List UInt8) (a0_15 : List UInt8) (a0_16 : Int) (a0_17 : List AV) (a0_18 : List AV) : runE G ext (n + 1) 39 [.agg [.agg [.agg [.int a0_1, .blob a0_2, .blob a0_3, .int a0_4], .blob a0_5, .int a0_6, .int a0_7, .int a0_8, .int a0_9, .int a0_10, .int a0_11], .int a0_12, .agg [.agg [.int a0_13, .blob a0_14, .blob a0_15, .int a0_16], .slice a0_17], .slice a0_18]] = f39 (runE G ext n) n a0_1 a0_2 a0_3 a0_4 a0_5 a0_6 a0_7 a0_8 a0_9 a0_10 a0_11 a0_12 a0_13 a0_14 a0_15 a0_16 a0_17 a0_18 := runE_succ f39_at f39_in

noncomputable def f74 (run : Run) (n : Nat) (a0_1 : List UInt8) : Option Res := evalK G run n f74_info.keep 0 f74_info.body (retE G f74_info) (f74_info.start [.blob a0_1])
theorem f74_eq (run : Run) (n : Nat) (a0_1 : List UInt8) : f74 run n a0_1 =
  some ⟨[.slice [.blob a0_1]], [], f74_fresh⟩ := by kernel_rfl
theorem f74_run (ext : Run) (n : Nat) (a0_1 : List UInt8) : runE G ext (n + 1) 74 [.blob a0_1] = f74 (runE G ext n) n a0_1 := runE_succ f74_at f74_in

noncomputable def f78_l0 (run : Run) (n : Nat) (k0 : Nat) (x6_1 : Int) (x7_1 : Int) (x21_1 : Int) (x22_1 : Int) (o2_1 : List AV) (o4_1 : List AV) (o5_1 : List AV) : Option Res :=
  iterK (evalK G run n f78_keep 0 (sub [1, 1, 1, 1, 1, 0, 1, 0, 0] f78_body)) f78_t0 f78_o0 (blockK 0 (seqK (evalK G run n f78_keep 0 (sub [1, 1, 1, 1, 1, 1] f78_body) (retE G f78_info)) (retE G f78_info))) k0
    ⟨[.any, .any, .ptr ⟨(.arr 4 (.int .u64)), 2, 1, []⟩, .any, .ptr ⟨(.arr 4 (.int .u64)), 4, 1, []⟩, .ptr ⟨(.arr 4 (.int .u64)), 5, 1, []⟩, .val (.int .i64) none (.int x6_1), .val (.int .u64) none (.int x7_1), .any, .any, .any, .any, .any, .any, .any, .any, .any, .any, .any, .any, .any, .val (.int .i64) none (.int x21_1), .val (.int .i64) none (.int x22_1), .any, .any, .any, .any, .any, .any, .any, .any, .any, .any, .any, .any, .any, .any, .any, .any, .any, .any, .any, .any, .any, .any, .any, .any, .any, .any, .any, .any, .any, .any, .any, .any, .any, .any, .any, .any], [⟨0, none⟩, ⟨0, none⟩, ⟨1, some ⟨(.arr 4 (.int .u64)), .agg o2_1⟩⟩, ⟨0, none⟩, ⟨1, some ⟨(.arr 4 (.int .u64)), .agg o4_1⟩⟩, ⟨1, some ⟨(.arr 4 (.int .u64)), .agg o5_1⟩⟩, ⟨0, none⟩, ⟨0, none⟩, ⟨0, none⟩, ⟨0, none⟩, ⟨0, none⟩, ⟨0, none⟩, ⟨0, none⟩, ⟨0, none⟩, ⟨0, none⟩, ⟨0, none⟩, ⟨0, none⟩, ⟨0, none⟩, ⟨0, none⟩, ⟨0, none⟩, ⟨0, none⟩, ⟨0, none⟩, ⟨0, none⟩, ⟨0, none⟩, ⟨0, none⟩, ⟨0, none⟩, ⟨0, none⟩, ⟨0, none⟩, ⟨0, none⟩, ⟨0, none⟩, ⟨0, none⟩, ⟨0, none⟩, ⟨0, none⟩, ⟨0, none⟩, ⟨0, none⟩, ⟨0, none⟩, ⟨0, none⟩, ⟨0, none⟩, ⟨0, none⟩, ⟨0, none⟩, ⟨0, none⟩, ⟨0, none⟩, ⟨0, none⟩, ⟨0, none⟩, ⟨0, none⟩, ⟨0, none⟩, ⟨0, none⟩, ⟨0, none⟩, ⟨0, none⟩, ⟨0, none⟩, ⟨0, none⟩, ⟨0, none⟩, ⟨0, none⟩, ⟨0, none⟩, ⟨0, none⟩, ⟨0, none⟩, ⟨0, none⟩, ⟨0, none⟩, ⟨0, none⟩], List.replicate 59 0⟩
theorem f78_l0_eq (run : Run) (n : Nat) (k0 : Nat) (x6_1 : Int) (x7_1 : Int) (x21_1 : Int) (x22_1 : Int) (o2_1 : List AV) (o4_1 : List AV) (o5_1 : List AV) : f78_l0 run n (k0 + 1) x6_1 x7_1 x21_1 x22_1 o2_1 o4_1 o5_1 =
  bif ltI x22_1 x21_1 then
    bif inR (IntKind.wrap .i64 (x22_1 + x6_1)) 4 then
    bif leI 0 x7_1 then
    bif inR x22_1 4 then
    bif ltI 0 x7_1 then
    bif ltI (IntKind.wrap .i64 (IntKind.wrap .i64 (x22_1 + x6_1) + 1)) 4 then
    bif inR x22_1 4 then
    bif inR (IntKind.wrap .i64 (IntKind.wrap .i64 (x22_1 + x6_1) + 1)) 4 then
    bif leI 0 (IntKind.wrap .u64 (64 - x7_1)) then
    bif inR x22_1 4 then
    f78_l0 run n k0 x6_1 x7_1 x21_1 (IntKind.wrap .i64 (x22_1 + 1)) o2_1 o4_1 ((o5_1.set (Int.toNat x22_1) (.int (Int.fdiv ((AV.fld (.agg o2_1) (Int.toNat (IntKind.wrap .i64 (x22_1 + x6_1)))).toInt) (2 ^ (min (Int.toNat x7_1) 64))))).set (Int.toNat x22_1) (.int (IntKind.wrap .u64 (BitVec.toNat (BitVec.ofInt 64 ((AV.fld (.agg (o5_1.set (Int.toNat x22_1) (.int (Int.fdiv ((AV.fld (.agg o2_1) (Int.toNat (IntKind.wrap .i64 (x22_1 + x6_1)))).toInt) (2 ^ (min (Int.toNat x7_1) 64)))))) (Int.toNat x22_1)).toInt) ||| BitVec.ofInt 64 (IntKind.wrap .u64 ((AV.fld (.agg o2_1) (Int.toNat (IntKind.wrap .i64 (IntKind.wrap .i64 (x22_1 + x6_1) + 1)))).toInt * 2 ^ (min (Int.toNat (IntKind.wrap .u64 (64 - x7_1))) 64))))))))
  else none
  else none
  else none
  else none
  else
    f78_l0 run n k0 x6_1 x7_1 x21_1 (IntKind.wrap .i64 (x22_1 + 1)) o2_1 o4_1 (o5_1.set (Int.toNat x22_1) (.int (Int.fdiv ((AV.fld (.agg o2_1) (Int.toNat (IntKind.wrap .i64 (x22_1 + x6_1)))).toInt) (2 ^ (min (Int.toNat x7_1) 64)))))
  else
    f78_l0 run n k0 x6_1 x7_1 x21_1 (IntKind.wrap .i64 (x22_1 + 1)) o2_1 o4_1 (o5_1.set (Int.toNat x22_1) (.int (Int.fdiv ((AV.fld (.agg o2_1) (Int.toNat (IntKind.wrap .i64 (x22_1 + x6_1)))).toInt) (2 ^ (min (Int.toNat x7_1) 64)))))
  else none
  else none
  else none
  else
    some ⟨[.agg o5_1], [], f78_fresh⟩ := by kernel_rfl
noncomputable def f78 (run : Run) (n : Nat) (a0_1 : List AV) (a1_1 : Int) : Option Res := evalK G run n f78_info.keep 0 f78_info.body (retE G f78_info) (f78_info.start [.agg a0_1, .int a1_1])
theorem f78_eq (run : Run) (n : Nat) (a0_1 : List AV) (a1_1 : Int) : f78 run n a0_1 a1_1 =
  bif leI a1_1 0 then
    some ⟨[.agg a0_1], [], f78_fresh⟩
  else
    bif leI 256 a1_1 then
    some ⟨[.agg [.int 0, .int 0, .int 0, .int 0]], [], f78_fresh⟩
  else
    f78_l0 run n n (IntKind.wrap .i64 (Int.tdiv a1_1 64)) (IntKind.wrap .u64 (Int.tmod a1_1 64)) (IntKind.wrap .i64 (4 - IntKind.wrap .i64 (Int.tdiv a1_1 64))) 0 a0_1 (List.replicate 4 (.int 0)) (List.replicate 4 (.int 0)) := by kernel_rfl
theorem f78_run (ext : Run) (n : Nat) (a0_1 : List AV) (a1_1 : Int) : runE G ext (n + 1) 78 [.agg a0_1, .int a1_1] = f78 (runE G ext n) n a0_1 a1_1 := runE_succ f78_at f78_in

noncomputable def f43_l0 (run : Run) (n : Nat) (k0 : Nat) (x7_1 : Int) (x13_1 : Int) (o5_1 : List AV) (o6_1 : List AV) : Option Res :=
  iterK (evalK G run n f43_keep 0 (sub [1, 1, 1, 0, 1, 0, 0] f43_body)) f43_t0 f43_o0 (blockK 0 (seqK (evalK G run n f43_keep 0 (sub [1, 1, 1, 1] f43_body) (retE G f43_info)) (retE G f43_info))) k0
    ⟨[.any, .any, .any, .any, .any, .ptr ⟨(.arr 4 (.int .u64)), 5, 1, []⟩, .ptr ⟨(.arr 4 (.int .u64)), 6, 1, []⟩, .val (.int .i64) none (.int x7_1), .any, .any, .any, .any, .any, .val (.int .i64) none (.int x13_1), .any, .any, .any, .any, .any, .any, .any, .any, .any, .any, .any], [⟨0, none⟩, ⟨0, none⟩, ⟨0, none⟩, ⟨0, none⟩, ⟨0, none⟩, ⟨1, some ⟨(.arr 4 (.int .u64)), .agg o5_1⟩⟩, ⟨1, some ⟨(.arr 4 (.int .u64)), .agg o6_1⟩⟩, ⟨0, none⟩, ⟨0, none⟩, ⟨0, none⟩, ⟨0, none⟩, ⟨0, none⟩, ⟨0, none⟩, ⟨0, none⟩, ⟨0, none⟩, ⟨0, none⟩, ⟨0, none⟩, ⟨0, none⟩, ⟨0, none⟩, ⟨0, none⟩, ⟨0, none⟩, ⟨0, none⟩, ⟨0, none⟩, ⟨0, none⟩, ⟨0, none⟩], List.replicate 25 0⟩
theorem f43_l0_eq (run : Run) (n : Nat) (k0 : Nat) (x7_1 : Int) (x13_1 : Int) (o5_1 : List AV) (o6_1 : List AV) : f43_l0 run n (k0 + 1) x7_1 x13_1 o5_1 o6_1 =
  bif ltI x13_1 256 then
    (run 78 [.agg o6_1, .int x13_1]).bind fun r3 =>
    nilV r3.outs (consV r3.vals fun v3 vs3 =>
    nilV vs3 ((run 77 [.agg o5_1, .agg v3.toAgg]).bind fun r4 =>
    nilV r4.outs (consV r4.vals fun v4 vs4 =>
    nilV vs4 (bif ltI 0 v4.toInt then
    some ⟨[.int x7_1], [], f43_fresh⟩
  else
    f43_l0 run n k0 x13_1 (IntKind.wrap .i64 (x13_1 + 1)) o5_1 o6_1))))
  else
    some ⟨[.int x7_1], [], f43_fresh⟩ := by kernel_rfl
noncomputable def f43 (run : Run) (n : Nat) (a0_1 : List UInt8) (a1_1 : List UInt8) : Option Res := evalK G run n f43_info.keep 0 f43_info.body (retE G f43_info) (f43_info.start [.blob a0_1, .blob a1_1])
theorem f43_eq (run : Run) (n : Nat) (a0_1 : List UInt8) (a1_1 : List UInt8) : f43 run n a0_1 a1_1 =
  (run 76 [.blob a0_1]).bind fun r1 =>
    nilV r1.outs (consV r1.vals fun v1 vs1 =>
    nilV vs1 ((run 76 [.blob a1_1]).bind fun r2 =>
    nilV r2.outs (consV r2.vals fun v2 vs2 =>
    nilV vs2 (f43_l0 run n n (-1) 0 v1.toAgg v2.toAgg)))) := by kernel_rfl
theorem f43_run (ext : Run) (n : Nat) (a0_1 : List UInt8) (a1_1 : List UInt8) : runE G ext (n + 1) 43 [.blob a0_1, .blob a1_1] = f43 (runE G ext n) n a0_1 a1_1 := runE_succ f43_at f43_in

noncomputable def f75_l2 (run : Run) (n : Nat) (_k0 : Nat) (k2 : Nat) (m3 : Nat) (x48_1 : Int) (x49_1 : Int) (o4_3 : List UInt8) (o8_3 : List UInt8) (o22_3 : List AV) : Option Res :=
  iterK (evalK G run n f75_keep 2 (sub [1, 1, 1, 1, 1, 1, 1, 0, 1, 0, 0] f75_body)) f75_t2 f75_o2 (blockK 2 (seqK (evalK G run n f75_keep 0 (sub [1, 1, 1, 1, 1, 1, 1, 1] f75_body) (retE G f75_info)) (retE G f75_info))) k2
    ⟨[.any, .any, .any, .any, .ptr ⟨(.blob 32), 4, 1, []⟩, .any, .any, .ref ⟨(.arr m3 (.blob 32)), 22, 1, []⟩ 0 m3, .ptr ⟨(.blob 32), 8, 1, []⟩, .any, .any, .any, .any, .any, .any, .any, .any, .any, .any, .any, .any, .any, .any, .any, .any, .any, .any, .any, .any, .any, .any, .any, .any, .any, .any, .any, .any, .any, .any, .any, .any, .any, .any, .any, .any, .any, .any, .any, .val (.int .i64) none (.int x48_1), .val (.int .i64) none (.int x49_1), .any, .any, .any, .any, .any, .any, .any, .any, .any, .any, .any, .any, .any, .any], [⟨0, none⟩, ⟨0, none⟩, ⟨0, none⟩, ⟨0, none⟩, ⟨1, some ⟨(.blob 32), .blob o4_3⟩⟩, ⟨0, none⟩, ⟨0, none⟩, ⟨0, none⟩, ⟨1, some ⟨(.blob 32), .blob o8_3⟩⟩, ⟨0, none⟩, ⟨0, none⟩, ⟨0, none⟩, ⟨0, none⟩, ⟨0, none⟩, ⟨0, none⟩, ⟨0, none⟩, ⟨0, none⟩, ⟨0, none⟩, ⟨0, none⟩, ⟨0, none⟩, ⟨0, none⟩, ⟨0, none⟩, ⟨1, some ⟨(.arr m3 (.blob 32)), .agg o22_3⟩⟩, ⟨0, none⟩, ⟨0, none⟩, ⟨0, none⟩, ⟨0, none⟩, ⟨0, none⟩, ⟨0, none⟩, ⟨0, none⟩, ⟨0, none⟩, ⟨0, none⟩, ⟨0, none⟩, ⟨0, none⟩, ⟨0, none⟩, ⟨0, none⟩, ⟨0, none⟩, ⟨0, none⟩, ⟨0, none⟩, ⟨0, none⟩, ⟨0, none⟩, ⟨0, none⟩, ⟨0, none⟩, ⟨0, none⟩, ⟨0, none⟩, ⟨0, none⟩, ⟨0, none⟩, ⟨0, none⟩, ⟨0, none⟩, ⟨0, none⟩, ⟨0, none⟩, ⟨0, none⟩, ⟨0, none⟩, ⟨0, none⟩, ⟨0, none⟩, ⟨0, none⟩, ⟨0, none⟩, ⟨0, none⟩, ⟨0, none⟩, ⟨0, none⟩, ⟨0, none⟩, ⟨0, none⟩, ⟨0, none⟩, ⟨0, none⟩], List.replicate 64 0⟩
noncomputable def f75_l0 (run : Run) (n : Nat) (k0 : Nat) (x0_1 : List AV) (x2_1 : Int) (m1 : Nat) (x30_1 : Int) (x31_1 : Int) (o4_1 : List UInt8) (o8_1 : List UInt8) (o22_1 : List AV) : Option Res :=
  iterK (evalK G run n f75_keep 0 (sub [1, 1, 1, 1, 1, 0, 1, 0, 0] f75_body)) f75_t0 f75_o0 (blockK 0 (seqK (evalK G run n f75_keep 0 (sub [1, 1, 1, 1, 1, 1] f75_body) (retE G f75_info)) (retE G f75_info))) k0
    ⟨[.val (.slice (.blob 32)) none (.slice x0_1), .any, .val (.int .i64) none (.int x2_1), .any, .ptr ⟨(.blob 32), 4, 1, []⟩, .any, .any, .ref ⟨(.arr m1 (.blob 32)), 22, 1, []⟩ 0 m1, .ptr ⟨(.blob 32), 8, 1, []⟩, .any, .any, .any, .any, .any, .any, .any, .any, .any, .any, .any, .any, .any, .any, .any, .any, .any, .any, .any, .any, .any, .val (.int .i64) none (.int x30_1), .val (.int .i64) none (.int x31_1), .any, .any, .any, .any, .any, .any, .any, .any, .any, .any, .any, .any, .any, .any, .any, .any, .any, .any, .any, .any, .any, .any, .any, .any, .any, .any, .any, .any, .any, .any, .any, .any], [⟨0, none⟩, ⟨0, none⟩, ⟨0, none⟩, ⟨0, none⟩, ⟨1, some ⟨(.blob 32), .blob o4_1⟩⟩, ⟨0, none⟩, ⟨0, none⟩, ⟨0, none⟩, ⟨1, some ⟨(.blob 32), .blob o8_1⟩⟩, ⟨0, none⟩, ⟨0, none⟩, ⟨0, none⟩, ⟨0, none⟩, ⟨0, none⟩, ⟨0, none⟩, ⟨0, none⟩, ⟨0, none⟩, ⟨0, none⟩, ⟨0, none⟩, ⟨0, none⟩, ⟨0, none⟩, ⟨0, none⟩, ⟨1, some ⟨(.arr m1 (.blob 32)), .agg o22_1⟩⟩, ⟨0, none⟩, ⟨0, none⟩, ⟨0, none⟩, ⟨0, none⟩, ⟨0, none⟩, ⟨0, none⟩, ⟨0, none⟩, ⟨0, none⟩, ⟨0, none⟩, ⟨0, none⟩, ⟨0, none⟩, ⟨0, none⟩, ⟨0, none⟩, ⟨0, none⟩, ⟨0, none⟩, ⟨0, none⟩, ⟨0, none⟩, ⟨0, none⟩, ⟨0, none⟩, ⟨0, none⟩, ⟨0, none⟩, ⟨0, none⟩, ⟨0, none⟩, ⟨0, none⟩, ⟨0, none⟩, ⟨0, none⟩, ⟨0, none⟩, ⟨0, none⟩, ⟨0, none⟩, ⟨0, none⟩, ⟨0, none⟩, ⟨0, none⟩, ⟨0, none⟩, ⟨0, none⟩, ⟨0, none⟩, ⟨0, none⟩, ⟨0, none⟩, ⟨0, none⟩, ⟨0, none⟩, ⟨0, none⟩, ⟨0, none⟩], List.replicate 64 0⟩
theorem f75_l2_eq (run : Run) (n : Nat) (k0 : Nat) (k2 : Nat) (m3 : Nat) (x48_1 : Int) (x49_1 : Int) (o4_3 : List UInt8) (o8_3 : List UInt8) (o22_3 : List AV) : f75_l2 run n k0 (k2 + 1) m3 x48_1 x49_1 o4_3 o8_3 o22_3 =
  bif ltI x49_1 x48_1 then
    bif inR x49_1 m3 then
    f75_l2 run n k0 k2 m3 x48_1 (IntKind.wrap .i64 (x49_1 + 1)) o4_3 o8_3 (o22_3.set (0 + (Int.toNat x49_1)) (.blob o4_3))
  else none
  else
    bif inR (IntKind.wrap .i64 ((m3 : Int) - 1)) m3 then
    some ⟨[.slice (List.drop 0 (List.take m3 (o22_3.set (0 + (Int.toNat (IntKind.wrap .i64 ((m3 : Int) - 1)))) (.blob o8_3))))], [], f75_fresh⟩
  else none := by kernel_rfl
theorem f75_l0_eq (run : Run) (n : Nat) (k0 : Nat) (x0_1 : List AV) (x2_1 : Int) (m1 : Nat) (x30_1 : Int) (x31_1 : Int) (o4_1 : List UInt8) (o8_1 : List UInt8) (o22_1 : List AV) : f75_l0 run n (k0 + 1) x0_1 x2_1 m1 x30_1 x31_1 o4_1 o8_1 o22_1 =
  bif ltI x31_1 x30_1 then
    bif inR x31_1 m1 then
    f75_l0 run n k0 x0_1 x2_1 m1 x30_1 (IntKind.wrap .i64 (x31_1 + 1)) o4_1 o8_1 (o22_1.set (0 + (Int.toNat x31_1)) (.blob o8_1))
  else none
  else
    bif boundsOk 0 (x0_1.length : Int) (x0_1.length : Int) (x0_1.length : Int) && true then
    f75_l2 run n k0 n m1 (IntKind.wrap .i64 (x2_1 + 1)) 0 o4_1 o8_1 (splice o22_1 0 (List.take m1 (List.drop 0 (List.take (Int.toNat (x0_1.length : Int)) x0_1))))
  else none := by kernel_rfl
noncomputable def f75 (run : Run) (n : Nat) (a0_1 : List AV) (a1_1 : List UInt8) (a2_1 : Int) : Option Res := evalK G run n f75_info.keep 0 f75_info.body (retE G f75_info) (f75_info.start [.slice a0_1, .blob a1_1, .int a2_1])
theorem f75_eq (run : Run) (n : Nat) (a0_1 : List AV) (a1_1 : List UInt8) (a2_1 : Int) : f75 run n a0_1 a1_1 a2_1 =
  bif eqI (a0_1.length : Int) 0 then
    some ⟨[.slice []], [], f75_fresh⟩
  else
    bif eqI (mx2 (a0_1.length : Int) (IntKind.wrap .i64 (mn2 (mx2 a2_1 0) 255 + 2))) (mx2 (a0_1.length : Int) (IntKind.wrap .i64 (mn2 (mx2 a2_1 0) 255 + 2))) && leI 0 (mx2 (a0_1.length : Int) (IntKind.wrap .i64 (mn2 (mx2 a2_1 0) 255 + 2))) && Nat.ble (Int.toNat (mx2 (a0_1.length : Int) (IntKind.wrap .i64 (mn2 (mx2 a2_1 0) 255 + 2))) * 32) 140737488355328 then
    bif inR (IntKind.wrap .i64 ((a0_1.length : Int) - 1)) a0_1.length then
    f75_l0 run n n a0_1 (mn2 (mx2 a2_1 0) 255) (Int.toNat (mx2 (a0_1.length : Int) (IntKind.wrap .i64 (mn2 (mx2 a2_1 0) 255 + 2)))) (Int.toNat (mx2 (a0_1.length : Int) (IntKind.wrap .i64 (mn2 (mx2 a2_1 0) 255 + 2))) : Int) 0 a1_1 ((nth a0_1 (Int.toNat (IntKind.wrap .i64 ((a0_1.length : Int) - 1)))).toBlob) (List.replicate (Int.toNat (mx2 (a0_1.length : Int) (IntKind.wrap .i64 (mn2 (mx2 a2_1 0) 255 + 2)))) (.blob (List.replicate 32 0)))
  else none
  else none := by kernel_rfl
theorem f75_run (ext : Run) (n : Nat) (a0_1 : List AV) (a1_1 : List UInt8) (a2_1 : Int) : runE G ext (n + 1) 75 [.slice a0_1, .blob a1_1, .int a2_1] = f75 (runE G ext n) n a0_1 a1_1 a2_1 := runE_succ f75_at f75_in

noncomputable def f42 (run : Run) (n : Nat) (a0_1 : List UInt8) (a1_1 : List AV) (a2_1 : Int) (a2_2 : List UInt8) (a2_3 : List UInt8) (a2_4 : Int) (a2_5 : List AV) (a3_1 : Int) : Option Res := evalK G run n f42_info.keep 0 f42_info.body (retE G f42_info) (f42_info.start [.blob a0_1, .slice a1_1, .agg [.agg [.int a2_1, .blob a2_2, .blob a2_3, .int a2_4], .slice a2_5], .int a3_1])
theorem f42_eq (run : Run) (n : Nat) (a0_1 : List UInt8) (a1_1 : List AV) (a2_1 : Int) (a2_2 : List UInt8) (a2_3 : List UInt8) (a2_4 : Int) (a2_5 : List AV) (a3_1 : Int) : f42 run n a0_1 a1_1 a2_1 a2_2 a2_3 a2_4 a2_5 a3_1 =
  (run 44 [.agg [.agg [.int a2_1, .blob a2_2, .blob a2_3, .int a2_4], .slice a2_5]]).bind fun r1 =>
    nilV r1.outs (consV r1.vals fun v1 vs1 =>
    nilV vs1 (bif eqI a3_1 0 then
    (run 74 [.blob v1.toBlob]).bind fun r2 =>
    bif r2.fresh then
    nilV r2.outs (consV r2.vals fun v2 vs2 =>
    nilV vs2 (some ⟨[.slice v2.toSlice], [], f42_fresh⟩))
  else none
  else
    (run 43 [.blob v1.toBlob, .blob a0_1]).bind fun r3 =>
    nilV r3.outs (consV r3.vals fun v3 vs3 =>
    nilV vs3 ((run 75 [.slice a1_1, .blob v1.toBlob, .int v3.toInt]).bind fun r4 =>
    nilV r4.outs (consV r4.vals fun v4 vs4 =>
    nilV vs4 (some ⟨[.slice v4.toSlice], [], f42_fresh⟩)))))) := by kernel_rfl
theorem f42_run (ext : Run) (n : Nat) (a0_1 : List UInt8) (a1_1 : List AV) (a2_1 : Int) (a2_2 : List UInt8) (a2_3 : List UInt8) (a2_4 : Int) (a2_5 : List AV) (a3_1 : Int) : runE G ext (n + 1) 42 [.blob a0_1, .slice a1_1, .agg [.agg [.int a2_1, .blob a2_2, .blob a2_3, .int a2_4], .slice a2_5], .int a3_1] = f42 (runE G ext n) n a0_1 a1_1 a2_1 a2_2 a2_3 a2_4 a2_5 a3_1 := runE_succ f42_at f42_in

end Go.Proofs.YtogehijjhibdkaaGreat.Ev

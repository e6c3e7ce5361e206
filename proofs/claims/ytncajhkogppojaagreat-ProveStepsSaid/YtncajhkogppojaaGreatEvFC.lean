/- What the evaluator does with the functions, as programs over plain values: printed by gen.py, checked by the kernel. -/
import Derived.Test.YtncajhkogppojaaGreatEvFA
namespace Go.Proofs.YtncajhkogppojaaGreat.Ev
open Go Go.RowKit
set_option maxRecDepth 100000


noncomputable def f160 (run : Run) (n : Nat) (a0_1 : List AV) : Option Res := evalK G run n f160_info.keep 0 f160_info.body (retE G f160_info) (f160_info.start [.slice a0_1])
theorem f160_eq (run : Run) (n : Nat) (a0_1 : List AV) : f160 run n a0_1 =
  bif eqI (a0_1.length : Int) 0 then
    some ⟨[.blob [0, 0, 0, 0, 0, 0, 0, 0, 0, 0, 0, 0, 0, 0, 0, 0, 0, 0, 0, 0, 0, 0, 0, 0, 0, 0, 0, 0, 0, 0, 0, 0]], [], f160_fresh⟩
  else
    bif eqI (a0_1.length : Int) 1 then
    bif inR 0 a0_1.length then
    some ⟨[.blob ((nth a0_1 0).toBlob)], [], f160_fresh⟩
  else none
  else
    (run 179 [.slice a0_1]).bind fun r1 =>
    nilV r1.outs (consV r1.vals fun v1 vs1 =>
    consV vs1 fun v2 vs2 =>
    nilV vs2 ((run 160 [.slice v1.toSlice]).bind fun r2 =>
    nilV r2.outs (consV r2.vals fun v3 vs3 =>
    nilV vs3 ((run 160 [.slice v2.toSlice]).bind fun r3 =>
    nilV r3.outs (consV r3.vals fun v4 vs4 =>
    nilV vs4 ((run 180 [.blob v3.toBlob, .blob v4.toBlob]).bind fun r4 =>
    nilV r4.outs (consV r4.vals fun v5 vs5 =>
    nilV vs5 (some ⟨[.blob v5.toBlob], [], f160_fresh⟩)))))))) := by kernel_rfl
theorem f160_run (ext : Run) (n : Nat) (a0_1 : List AV) : runE G ext (n + 1) 160 [.slice a0_1] = f160 (runE G ext n) n a0_1 := runE_succ f160_at f160_in

noncomputable def f206 (run : Run) (n : Nat) (a0_1 : Int) (a1_1 : List UInt8) : Option Res := evalK G run n f206_info.keep 0 f206_info.body (retE G f206_info) (f206_info.start [.int a0_1, .blob a1_1])
theorem f206_eq (run : Run) (n : Nat) (a0_1 : Int) (a1_1 : List UInt8) : f206 run n a0_1 a1_1 =
  (run 150 [.int a0_1]).bind fun r1 =>
    nilV r1.outs (consV r1.vals fun v1 vs1 =>
    nilV vs1 ((run 170 [.int 2, .slice [.str v1.toStr, .str (bytesOf (List.drop 0 (List.take 32 (ofBytes a1_1))))]]).bind fun r2 =>
    nilV r2.outs (consV r2.vals fun v2 vs2 =>
    nilV vs2 (some ⟨[.str v2.toStr], [], f206_fresh⟩)))) := by kernel_rfl
theorem f206_run (ext : Run) (n : Nat) (a0_1 : Int) (a1_1 : List UInt8) : runE G ext (n + 1) 206 [.int a0_1, .blob a1_1] = f206 (runE G ext n) n a0_1 a1_1 := runE_succ f206_at f206_in

noncomputable def f188 (run : Run) (n : Nat) (a0_1 : Int) (a1_1 : List UInt8) : Option Res := evalK G run n f188_info.keep 0 f188_info.body (retE G f188_info) (f188_info.start [.int a0_1, .blob a1_1])
theorem f188_eq (run : Run) (n : Nat) (a0_1 : Int) (a1_1 : List UInt8) : f188 run n a0_1 a1_1 =
  (run 206 [.int a0_1, .blob a1_1]).bind fun r1 =>
    nilV r1.outs (consV r1.vals fun v1 vs1 =>
    nilV vs1 ((run 147 [.str v1.toStr]).bind fun r2 =>
    nilV r2.outs (consV r2.vals fun v2 vs2 =>
    nilV vs2 (some ⟨[.blob v2.toBlob], [], f188_fresh⟩)))) := by kernel_rfl
theorem f188_run (ext : Run) (n : Nat) (a0_1 : Int) (a1_1 : List UInt8) : runE G ext (n + 1) 188 [.int a0_1, .blob a1_1] = f188 (runE G ext n) n a0_1 a1_1 := runE_succ f188_at f188_in

noncomputable def f172 (run : Run) (n : Nat) (a0_1 : List AV) : Option Res := evalK G run n f172_info.keep 0 f172_info.body (retE G f172_info) (f172_info.start [.slice a0_1])
theorem f172_eq (run : Run) (n : Nat) (a0_1 : List AV) : f172 run n a0_1 =
  (run 134 [.slice a0_1]).bind fun r1 =>
    bif r1.fresh then
    nilV r1.outs (consV r1.vals fun v1 vs1 =>
    nilV vs1 ((run 160 [.slice v1.toSlice]).bind fun r2 =>
    nilV r2.outs (consV r2.vals fun v2 vs2 =>
    nilV vs2 ((run 188 [.int (IntKind.wrap .u64 (a0_1.length : Int)), .blob v2.toBlob]).bind fun r3 =>
    nilV r3.outs (consV r3.vals fun v3 vs3 =>
    nilV vs3 (some ⟨[.blob v3.toBlob], [], f172_fresh⟩))))))
  else none := by kernel_rfl
theorem f172_run (ext : Run) (n : Nat) (a0_1 : List AV) : runE G ext (n + 1) 172 [.slice a0_1] = f172 (runE G ext n) n a0_1 := runE_succ f172_at f172_in

noncomputable def f151 (run : Run) (n : Nat) (a0_1 : List AV) : Option Res := evalK G run n f151_info.keep 0 f151_info.body (retE G f151_info) (f151_info.start [.slice a0_1])
theorem f151_eq (run : Run) (n : Nat) (a0_1 : List AV) : f151 run n a0_1 =
  (run 102 [.slice a0_1]).bind fun r1 =>
    bif r1.fresh then
    nilV r1.outs (consV r1.vals fun v1 vs1 =>
    nilV vs1 ((run 172 [.slice v1.toSlice]).bind fun r2 =>
    nilV r2.outs (consV r2.vals fun v2 vs2 =>
    nilV vs2 (some ⟨[.blob v2.toBlob], [], f151_fresh⟩))))
  else none := by kernel_rfl
theorem f151_run (ext : Run) (n : Nat) (a0_1 : List AV) : runE G ext (n + 1) 151 [.slice a0_1] = f151 (runE G ext n) n a0_1 := runE_succ f151_at f151_in

noncomputable def f139 (run : Run) (n : Nat) (a0_1 : List UInt8) : Option Res := evalK G run n f139_info.keep 0 f139_info.body (retE G f139_info) (f139_info.start [.str a0_1])
theorem f139_eq (run : Run) (n : Nat) (a0_1 : List UInt8) : f139 run n a0_1 =
  bif Nat.ble (1 + a0_1.length) maxLen then
    some ⟨[.str ([84] ++ a0_1)], [], f139_fresh⟩
  else none := by kernel_rfl
theorem f139_run (ext : Run) (n : Nat) (a0_1 : List UInt8) : runE G ext (n + 1) 139 [.str a0_1] = f139 (runE G ext n) n a0_1 := runE_succ f139_at f139_in

noncomputable def f108_l0 (run : Run) (n : Nat) (k0 : Nat) (x3_1 : List AV) (x6_1 : List AV) (x7_1 : Int) (x8_1 : Int) : Option Res :=
  iterK (evalK G run n f108_keep 0 (sub [1, 1, 0, 1, 0, 0] f108_body)) f108_t0 f108_o0 (blockK 0 (seqK (evalK G run n f108_keep 0 (sub [1, 1, 1] f108_body) (retE G f108_info)) (retE G f108_info))) k0
    ⟨[.any, .any, .any, .val (.slice .str) (some (3, 0)) (.slice x3_1), .any, .any, .val (.slice .str) none (.slice x6_1), .val (.int .i64) none (.int x7_1), .val (.int .i64) none (.int x8_1), .any, .any, .any, .any, .any, .any, .any, .any, .any, .any], [⟨0, none⟩, ⟨0, none⟩, ⟨0, none⟩, ⟨0, none⟩, ⟨0, none⟩, ⟨0, none⟩, ⟨0, none⟩, ⟨0, none⟩, ⟨0, none⟩, ⟨0, none⟩, ⟨0, none⟩, ⟨0, none⟩, ⟨0, none⟩, ⟨0, none⟩, ⟨0, none⟩, ⟨0, none⟩, ⟨0, none⟩, ⟨0, none⟩, ⟨0, none⟩], List.replicate 19 0⟩
theorem f108_l0_eq (run : Run) (n : Nat) (k0 : Nat) (x3_1 : List AV) (x6_1 : List AV) (x7_1 : Int) (x8_1 : Int) : f108_l0 run n (k0 + 1) x3_1 x6_1 x7_1 x8_1 =
  bif ltI x8_1 x7_1 then
    bif inR x8_1 x6_1.length then
    (run 139 [.str ((nth x6_1 (Int.toNat x8_1)).toStr)]).bind fun r1 =>
    nilV r1.outs (consV r1.vals fun v1 vs1 =>
    nilV vs1 (bif Nat.ble ((x3_1.length + 1) * 16) 140737488355328 then
    f108_l0 run n k0 (x3_1 ++ [.str v1.toStr]) x6_1 x7_1 (IntKind.wrap .i64 (x8_1 + 1))
  else none))
  else none
  else
    some ⟨[.slice x3_1], [], f108_fresh⟩ := by kernel_rfl
noncomputable def f108 (run : Run) (n : Nat) (a0_1 : List AV) : Option Res := evalK G run n f108_info.keep 0 f108_info.body (retE G f108_info) (f108_info.start [.slice a0_1])
theorem f108_eq (run : Run) (n : Nat) (a0_1 : List AV) : f108 run n a0_1 =
  f108_l0 run n n [] a0_1 (a0_1.length : Int) 0 := by kernel_rfl
theorem f108_run (ext : Run) (n : Nat) (a0_1 : List AV) : runE G ext (n + 1) 108 [.slice a0_1] = f108 (runE G ext n) n a0_1 := runE_succ f108_at f108_in

noncomputable def f152 (run : Run) (n : Nat) (a0_1 : List AV) : Option Res := evalK G run n f152_info.keep 0 f152_info.body (retE G f152_info) (f152_info.start [.slice a0_1])
theorem f152_eq (run : Run) (n : Nat) (a0_1 : List AV) : f152 run n a0_1 =
  (run 108 [.slice a0_1]).bind fun r1 =>
    bif r1.fresh then
    nilV r1.outs (consV r1.vals fun v1 vs1 =>
    nilV vs1 ((run 172 [.slice v1.toSlice]).bind fun r2 =>
    nilV r2.outs (consV r2.vals fun v2 vs2 =>
    nilV vs2 (some ⟨[.blob v2.toBlob], [], f152_fresh⟩))))
  else none := by kernel_rfl
theorem f152_run (ext : Run) (n : Nat) (a0_1 : List AV) : runE G ext (n + 1) 152 [.slice a0_1] = f152 (runE G ext n) n a0_1 := runE_succ f152_at f152_in

noncomputable def f126 (run : Run) (n : Nat) (a0_1 : Int) (a1_1 : List AV) (a2_1 : List AV) (a3_1 : Int) : Option Res := evalK G run n f126_info.keep 0 f126_info.body (retE G f126_info) (f126_info.start [.int a0_1, .slice a1_1, .slice a2_1, .int a3_1])
theorem f126_eq (run : Run) (n : Nat) (a0_1 : Int) (a1_1 : List AV) (a2_1 : List AV) (a3_1 : Int) : f126 run n a0_1 a1_1 a2_1 a3_1 =
  (run 151 [.slice a1_1]).bind fun r1 =>
    nilV r1.outs (consV r1.vals fun v1 vs1 =>
    nilV vs1 ((run 152 [.slice a2_1]).bind fun r2 =>
    nilV r2.outs (consV r2.vals fun v2 vs2 =>
    nilV vs2 (bif Nat.ble ((a2_1.length) * 16) 140737488355328 then
    some ⟨[.agg [.agg [.int a0_1, .blob v1.toBlob, .blob v2.toBlob, .int a3_1], .slice a2_1]], [], f126_fresh⟩
  else none)))) := by kernel_rfl
theorem f126_run (ext : Run) (n : Nat) (a0_1 : Int) (a1_1 : List AV) (a2_1 : List AV) (a3_1 : Int) : runE G ext (n + 1) 126 [.int a0_1, .slice a1_1, .slice a2_1, .int a3_1] = f126 (runE G ext n) n a0_1 a1_1 a2_1 a3_1 := runE_succ f126_at f126_in

noncomputable def f91 (run : Run) (n : Nat) (a0_1 : Int) (a0_2 : List UInt8) (a0_3 : List UInt8) (a0_4 : Int) (a0_5 : List AV) (a1_1 : Int) (a2_1 : List AV) : Option Res := evalK G run n f91_info.keep 0 f91_info.body (retE G f91_info) (f91_info.start [.agg [.agg [.int a0_1, .blob a0_2, .blob a0_3, .int a0_4], .slice a0_5], .int a1_1, .slice a2_1])
theorem f91_eq (run : Run) (n : Nat) (a0_1 : Int) (a0_2 : List UInt8) (a0_3 : List UInt8) (a0_4 : Int) (a0_5 : List AV) (a1_1 : Int) (a2_1 : List AV) : f91 run n a0_1 a0_2 a0_3 a0_4 a0_5 a1_1 a2_1 =
  bif !(eqI a0_1 a1_1) then
    some ⟨[.int 8], [], f91_fresh⟩
  else
    (run 107 [.slice a0_5]).bind fun r1 =>
    nilV r1.outs (consV r1.vals fun v1 vs1 =>
    nilV vs1 (bif !(eqI v1.toInt 0) then
    some ⟨[.int v1.toInt], [], f91_fresh⟩
  else
    (run 126 [.int a1_1, .slice a2_1, .slice a0_5, .int a0_4]).bind fun r2 =>
    nilV r2.outs (consV r2.vals fun v2 vs2 =>
    nilV vs2 (bif !(eqI (((v2.fld 0).fld 0).toInt) a0_1 && (eqS (((v2.fld 0).fld 1).toBlob) a0_2 && (eqS (((v2.fld 0).fld 2).toBlob) a0_3 && (eqI (((v2.fld 0).fld 3).toInt) a0_4 && true)))) then
    some ⟨[.int 12], [], f91_fresh⟩
  else
    some ⟨[.int 0], [], f91_fresh⟩)))) := by kernel_rfl
theorem f91_run (ext : Run) (n : Nat) (a0_1 : Int) (a0_2 : List UInt8) (a0_3 : List UInt8) (a0_4 : Int) (a0_5 : List AV) (a1_1 : Int) (a2_1 : List AV) : runE G ext (n + 1) 91 [.agg [.agg [.int a0_1, .blob a0_2, .blob a0_3, .int a0_4], .slice a0_5], .int a1_1, .slice a2_1] = f91 (runE G ext n) n a0_1 a0_2 a0_3 a0_4 a0_5 a1_1 a2_1 := runE_succ f91_at f91_in

noncomputable def f53 (run : Run) (n : Nat) (a0_1 : Int) (a0_2 : List UInt8) (a0_3 : List UInt8) (a0_4 : Int) (a0_5 : List UInt8) (a0_6 : Int) (a0_7 : Int) (a0_8 : Int) (a0_9 : Int) (a0_10 : Int) (a0_11 : Int) (a0_12 : Int) (a0_13 : Int) (a0_14 : List UInt8) (a0_15 : List UInt8) (a0_16 : Int) (a0_17 : List AV) (a0_18 : List AV) : Option Res := evalK G run n f53_info.keep 0 f53_info.body (retE G f53_info) (f53_info.start [.agg [.agg [.agg [.int a0_1, .blob a0_2, .blob a0_3, .int a0_4], .blob a0_5, .int a0_6, .int a0_7, .int a0_8, .int a0_9, .int a0_10, .int a0_11], .int a0_12, .agg [.agg [.int a0_13, .blob a0_14, .blob a0_15, .int a0_16], .slice a0_17], .slice a0_18]])
theorem f53_eq (run : Run) (n : Nat) (a0_1 : Int) (a0_2 : List UInt8) (a0_3 : List UInt8) (a0_4 : Int) (a0_5 : List UInt8) (a0_6 : Int) (a0_7 : Int) (a0_8 : Int) (a0_9 : Int) (a0_10 : Int) (a0_11 : Int) (a0_12 : Int) (a0_13 : Int) (a0_14 : List UInt8) (a0_15 : List UInt8) (a0_16 : Int) (a0_17 : List AV) (a0_18 : List AV) : f53 run n a0_1 a0_2 a0_3 a0_4 a0_5 a0_6 a0_7 a0_8 a0_9 a0_10 a0_11 a0_12 a0_13 a0_14 a0_15 a0_16 a0_17 a0_18 =
  (run 91 [.agg [.agg [.int a0_13, .blob a0_14, .blob a0_15, .int a0_16], .slice a0_17], .int (IntKind.wrap .u32 a0_12), .slice a0_18]).bind fun r1 =>
    nilV r1.outs (consV r1.vals fun v1 vs1 =>
    nilV vs1 (some ⟨[.int v1.toInt], [], f53_fresh⟩)) := by kernel_rfl
theorem f53_run (ext : Run) (n : Nat) (a0_1 : Int) (a0_2 : List UInt8) (a0_3 : List UInt8) (a0_4 : Int) (a0_5 : List UInt8) (a0_6 : Int) (a0_7 : Int) (a0_8 : Int) (a0_9 : Int) (a0_10 : Int) (a0_11 : Int) (a0_12 : Int) (a0_13 : Int) (a0_14 : List UInt8) (a0_15 : List UInt8) (a0_16 : Int) (a0_17 : List AV) (a0_18 : List AV) : runE G ext (n + 1) 53 [.agg [.agg [.agg [.int a0_1, .blob a0_2, .blob a0_3, .int a0_4], .blob a0_5, .int a0_6, .int a0_7, .int a0_8, .int a0_9, .int a0_10, .int a0_11], .int a0_12, .agg [.agg [.int a0_13, .blob a0_14, .blob a0_15, .int a0_16], .slice a0_17], .slice a0_18]] = f53 (runE G ext n) n a0_1 a0_2 a0_3 a0_4 a0_5 a0_6 a0_7 a0_8 a0_9 a0_10 a0_11 a0_12 a0_13 a0_14 a0_15 a0_16 a0_17 a0_18 := runE_succ f53_at f53_in

noncomputable def f52 (run : Run) (n : Nat) (a0_1 : Int) (a0_2 : List UInt8) (a0_3 : List UInt8) (a0_4 : Int) (a0_5 : List UInt8) (a0_6 : Int) (a0_7 : Int) (a0_8 : Int) (a0_9 : Int) (a0_10 : Int) (a0_11 : Int) (a0_12 : Int) (a0_13 : Int) (a0_14 : List UInt8) (a0_15 : List UInt8) (a0_16 : Int) (a0_17 : List AV) (a0_18 : List AV) : Option Res := evalK G run n f52_info.keep 0 f52_info.body (retE G f52_info) (f52_info.start [.agg [.agg [.agg [.int a0_1, .blob a0_2, .blob a0_3, .int a0_4], .blob a0_5, .int a0_6, .int a0_7, .int a0_8, .int a0_9, .int a0_10, .int a0_11], .int a0_12, .agg [.agg [.int a0_13, .blob a0_14, .blob a0_15, .int a0_16], .slice a0_17], .slice a0_18]])
theorem f52_eq (run : Run) (n : Nat) (a0_1 : Int) (a0_2 : List UInt8) (a0_3 : List UInt8) (a0_4 : Int) (a0_5 : List UInt8) (a0_6 : Int) (a0_7 : Int) (a0_8 : Int) (a0_9 : Int) (a0_10 : Int) (a0_11 : Int) (a0_12 : Int) (a0_13 : Int) (a0_14 : List UInt8) (a0_15 : List UInt8) (a0_16 : Int) (a0_17 : List AV) (a0_18 : List AV) : f52 run n a0_1 a0_2 a0_3 a0_4 a0_5 a0_6 a0_7 a0_8 a0_9 a0_10 a0_11 a0_12 a0_13 a0_14 a0_15 a0_16 a0_17 a0_18 =
  bif eqI a0_12 0 then
    bif !(eqI a0_13 a0_1 && (eqS a0_14 a0_2 && (eqS a0_15 a0_3 && (eqI a0_16 a0_4 && true)))) then
    some ⟨[.int 7], [], f52_fresh⟩
  else
    some ⟨[.int 0], [], f52_fresh⟩
  else
    some ⟨[.int 0], [], f52_fresh⟩ := by kernel_rfl
theorem f52_run (ext : Run) (n : Nat) (a0_1 : Int) (a0_2 : List UInt8) (a0_3 : List UInt8) (a0_4 : Int) (a0_5 : List UInt8) (a0_6 : Int) (a0_7 : Int) (a0_8 : Int) (a0_9 : Int) (a0_10 : Int) (a0_11 : Int) (a0_12 : Int) (a0_13 : Int) (a0_14 : List UInt8) (a0_15 : List UInt8) (a0_16 : Int) (a0_17 : List AV) (a0_18 : List AV) : runE G ext (n + 1) 52 [.agg [.agg [.agg [.int a0_1, .blob a0_2, .blob a0_3, .int a0_4], .blob a0_5, .int a0_6, .int a0_7, .int a0_8, .int a0_9, .int a0_10, .int a0_11], .int a0_12, .agg [.agg [.int a0_13, .blob a0_14, .blob a0_15, .int a0_16], .slice a0_17], .slice a0_18]] = f52 (runE G ext n) n a0_1 a0_2 a0_3 a0_4 a0_5 a0_6 a0_7 a0_8 a0_9 a0_10 a0_11 a0_12 a0_13 a0_14 a0_15 a0_16 a0_17 a0_18 := runE_succ f52_at f52_in

noncomputable def f20_l3 (run : Run) (n : Nat) (k1 : Nat) (k3 : Nat) (x2_12 : Int) (x2_13 : List UInt8) (x2_14 : List UInt8) (x2_15 : Int) (x2_16 : List UInt8) (x2_17 : Int) (x2_18 : Int) (x2_19 : Int) (x2_20 : Int) (x2_21 : Int) (x2_22 : Int) (x5_2 : List AV) (x6_1 : Int) (x22_2 : List AV) (x23_2 : Int) (x24_2 : Int) (x40_1 : List AV) (x41_1 : Int) (x42_1 : Int) (o4_3 : Int) (o4_4 : Int) (o7_1 : Int) (o7_2 : List UInt8) (o7_3 : List UInt8) (o7_4 : Int) (o7_5 : List AV) : Option Res :=
  iterK (evalK G run n f20_keep 3 (sub [1, 1, 1, 0, 1, 0, 0, 1, 1, 0, 0, 1, 1, 0, 1, 0, 0] f20_body)) f20_t3 f20_o3 (blockK 3 (seqK (evalK G run n f20_keep 2 (sub [1, 1, 1, 0, 1, 0, 0, 1, 1, 0, 0, 1, 1, 1] f20_body) (blockK 2 (seqK (evalK G run n f20_keep 1 (sub [1, 1, 1, 0, 1, 0, 0, 1, 1, 1] f20_body) (seqK (fun t => iterK (evalK G run n f20_keep 1 (sub [1, 1, 1, 0, 1, 0, 0] f20_body)) f20_t1 f20_o1 (blockK 1 (seqK (evalK G run n f20_keep 0 (sub [1, 1, 1, 1] f20_body) (retE G f20_info)) (retE G f20_info))) k1 (t.clear f20_t1 f20_o1)) (blockK 1 (seqK (evalK G run n f20_keep 0 (sub [1, 1, 1, 1] f20_body) (retE G f20_info)) (retE G f20_info))))) (seqK (fun t => iterK (evalK G run n f20_keep 1 (sub [1, 1, 1, 0, 1, 0, 0] f20_body)) f20_t1 f20_o1 (blockK 1 (seqK (evalK G run n f20_keep 0 (sub [1, 1, 1, 1] f20_body) (retE G f20_info)) (retE G f20_info))) k1 (t.clear f20_t1 f20_o1)) (blockK 1 (seqK (evalK G run n f20_keep 0 (sub [1, 1, 1, 1] f20_body) (retE G f20_info)) (retE G f20_info))))))) (blockK 2 (seqK (evalK G run n f20_keep 1 (sub [1, 1, 1, 0, 1, 0, 0, 1, 1, 1] f20_body) (seqK (fun t => iterK (evalK G run n f20_keep 1 (sub [1, 1, 1, 0, 1, 0, 0] f20_body)) f20_t1 f20_o1 (blockK 1 (seqK (evalK G run n f20_keep 0 (sub [1, 1, 1, 1] f20_body) (retE G f20_info)) (retE G f20_info))) k1 (t.clear f20_t1 f20_o1)) (blockK 1 (seqK (evalK G run n f20_keep 0 (sub [1, 1, 1, 1] f20_body) (retE G f20_info)) (retE G f20_info))))) (seqK (fun t => iterK (evalK G run n f20_keep 1 (sub [1, 1, 1, 0, 1, 0, 0] f20_body)) f20_t1 f20_o1 (blockK 1 (seqK (evalK G run n f20_keep 0 (sub [1, 1, 1, 1] f20_body) (retE G f20_info)) (retE G f20_info))) k1 (t.clear f20_t1 f20_o1)) (blockK 1 (seqK (evalK G run n f20_keep 0 (sub [1, 1, 1, 1] f20_body) (retE G f20_info)) (retE G f20_info)))))))) k3
    ⟨[.any, .any, .val (.pat (.struct [(.struct [(.int .u32), (.blob 32), (.blob 32), (.int .u64)]), (.blob 32), (.int .i64), (.int .i64), (.int .i64), (.int .i64), (.int .i64), (.int .i64)])) none (.agg [.agg [.int x2_12, .blob x2_13, .blob x2_14, .int x2_15], .blob x2_16, .int x2_17, .int x2_18, .int x2_19, .int x2_20, .int x2_21, .int x2_22]), .any, .ptr ⟨(.struct [(.int .i64), (.int .i64)]), 4, 1, []⟩, .val (.slice (.blob 32)) none (.slice x5_2), .val (.int .i64) none (.int x6_1), .ptr ⟨(.struct [(.struct [(.int .u32), (.blob 32), (.blob 32), (.int .u64)]), (.slice .str)]), 7, 1, []⟩, .any, .any, .any, .any, .any, .any, .any, .any, .any, .any, .any, .any, .any, .any, .val (.slice (.struct [(.struct [(.int .u32), (.blob 32), (.blob 32), (.int .u64)]), (.slice .str)])) none (.slice x22_2), .val (.int .i64) none (.int x23_2), .val (.int .i64) none (.int x24_2), .any, .any, .any, .any, .any, .any, .any, .any, .any, .any, .any, .any, .any, .any, .any, .val (.slice (.clos [(52, ([0], [])), (53, ([0], [])), (54, ([0], []))] [(.struct [(.struct [(.struct [(.int .u32), (.blob 32), (.blob 32), (.int .u64)]), (.blob 32), (.int .i64), (.int .i64), (.int .i64), (.int .i64), (.int .i64), (.int .i64)]), (.int .i64), (.struct [(.struct [(.int .u32), (.blob 32), (.blob 32), (.int .u64)]), (.slice .str)]), (.slice (.blob 32))])])) (some (40, 0)) (.slice x40_1), .val (.int .i64) none (.int x41_1), .val (.int .i64) none (.int x42_1), .any, .any, .any, .any, .any, .any, .any, .any, .any, .any, .any, .any, .any, .any, .any, .any, .any, .any, .any], [⟨0, none⟩, ⟨0, none⟩, ⟨0, none⟩, ⟨0, none⟩, ⟨1, some ⟨(.struct [(.int .i64), (.int .i64)]), .agg [.int o4_3, .int o4_4]⟩⟩, ⟨0, none⟩, ⟨0, none⟩, ⟨1, some ⟨(.struct [(.struct [(.int .u32), (.blob 32), (.blob 32), (.int .u64)]), (.slice .str)]), .agg [.agg [.int o7_1, .blob o7_2, .blob o7_3, .int o7_4], .slice o7_5]⟩⟩, ⟨0, none⟩, ⟨0, none⟩, ⟨0, none⟩, ⟨0, none⟩, ⟨0, none⟩, ⟨0, none⟩, ⟨0, none⟩, ⟨0, none⟩, ⟨0, none⟩, ⟨0, none⟩, ⟨0, none⟩, ⟨0, none⟩, ⟨0, none⟩, ⟨0, none⟩, ⟨0, none⟩, ⟨0, none⟩, ⟨0, none⟩, ⟨0, none⟩, ⟨0, none⟩, ⟨0, none⟩, ⟨0, none⟩, ⟨0, none⟩, ⟨0, none⟩, ⟨0, none⟩, ⟨0, none⟩, ⟨0, none⟩, ⟨0, none⟩, ⟨0, none⟩, ⟨0, none⟩, ⟨0, none⟩, ⟨0, none⟩, ⟨0, none⟩, ⟨0, none⟩, ⟨0, none⟩, ⟨0, none⟩, ⟨0, none⟩, ⟨0, none⟩, ⟨0, none⟩, ⟨0, none⟩, ⟨0, none⟩, ⟨0, none⟩, ⟨0, none⟩, ⟨0, none⟩, ⟨0, none⟩, ⟨0, none⟩, ⟨0, none⟩, ⟨0, none⟩, ⟨0, none⟩, ⟨0, none⟩, ⟨0, none⟩, ⟨0, none⟩, ⟨0, none⟩, ⟨0, none⟩, ⟨0, none⟩], List.replicate 62 0⟩
noncomputable def f20_l1 (run : Run) (n : Nat) (k1 : Nat) (x2_1 : Int) (x2_2 : List UInt8) (x2_3 : List UInt8) (x2_4 : Int) (x2_5 : List UInt8) (x2_6 : Int) (x2_7 : Int) (x2_8 : Int) (x2_9 : Int) (x2_10 : Int) (x2_11 : Int) (x5_1 : List AV) (x22_1 : List AV) (x23_1 : Int) (x24_1 : Int) (o4_1 : Int) (o4_2 : Int) : Option Res :=
  iterK (evalK G run n f20_keep 1 (sub [1, 1, 1, 0, 1, 0, 0] f20_body)) f20_t1 f20_o1 (blockK 1 (seqK (evalK G run n f20_keep 0 (sub [1, 1, 1, 1] f20_body) (retE G f20_info)) (retE G f20_info))) k1
    ⟨[.any, .any, .val (.pat (.struct [(.struct [(.int .u32), (.blob 32), (.blob 32), (.int .u64)]), (.blob 32), (.int .i64), (.int .i64), (.int .i64), (.int .i64), (.int .i64), (.int .i64)])) none (.agg [.agg [.int x2_1, .blob x2_2, .blob x2_3, .int x2_4], .blob x2_5, .int x2_6, .int x2_7, .int x2_8, .int x2_9, .int x2_10, .int x2_11]), .any, .ptr ⟨(.struct [(.int .i64), (.int .i64)]), 4, 1, []⟩, .val (.slice (.blob 32)) none (.slice x5_1), .any, .any, .any, .any, .any, .any, .any, .any, .any, .any, .any, .any, .any, .any, .any, .any, .val (.slice (.struct [(.struct [(.int .u32), (.blob 32), (.blob 32), (.int .u64)]), (.slice .str)])) none (.slice x22_1), .val (.int .i64) none (.int x23_1), .val (.int .i64) none (.int x24_1), .any, .any, .any, .any, .any, .any, .any, .any, .any, .any, .any, .any, .any, .any, .any, .any, .any, .any, .any, .any, .any, .any, .any, .any, .any, .any, .any, .any, .any, .any, .any, .any, .any, .any, .any, .any, .any], [⟨0, none⟩, ⟨0, none⟩, ⟨0, none⟩, ⟨0, none⟩, ⟨1, some ⟨(.struct [(.int .i64), (.int .i64)]), .agg [.int o4_1, .int o4_2]⟩⟩, ⟨0, none⟩, ⟨0, none⟩, ⟨0, none⟩, ⟨0, none⟩, ⟨0, none⟩, ⟨0, none⟩, ⟨0, none⟩, ⟨0, none⟩, ⟨0, none⟩, ⟨0, none⟩, ⟨0, none⟩, ⟨0, none⟩, ⟨0, none⟩, ⟨0, none⟩, ⟨0, none⟩, ⟨0, none⟩, ⟨0, none⟩, ⟨0, none⟩, ⟨0, none⟩, ⟨0, none⟩, ⟨0, none⟩, ⟨0, none⟩, ⟨0, none⟩, ⟨0, none⟩, ⟨0, none⟩, ⟨0, none⟩, ⟨0, none⟩, ⟨0, none⟩, ⟨0, none⟩, ⟨0, none⟩, ⟨0, none⟩, ⟨0, none⟩, ⟨0, none⟩, ⟨0, none⟩, ⟨0, none⟩, ⟨0, none⟩, ⟨0, none⟩, ⟨0, none⟩, ⟨0, none⟩, ⟨0, none⟩, ⟨0, none⟩, ⟨0, none⟩, ⟨0, none⟩, ⟨0, none⟩, ⟨0, none⟩, ⟨0, none⟩, ⟨0, none⟩, ⟨0, none⟩, ⟨0, none⟩, ⟨0, none⟩, ⟨0, none⟩, ⟨0, none⟩, ⟨0, none⟩, ⟨0, none⟩, ⟨0, none⟩, ⟨0, none⟩, ⟨0, none⟩], List.replicate 62 0⟩
theorem f20_l3_eq (run : Run) (n : Nat) (k1 : Nat) (k3 : Nat) (x2_12 : Int) (x2_13 : List UInt8) (x2_14 : List UInt8) (x2_15 : Int) (x2_16 : List UInt8) (x2_17 : Int) (x2_18 : Int) (x2_19 : Int) (x2_20 : Int) (x2_21 : Int) (x2_22 : Int) (x5_2 : List AV) (x6_1 : Int) (x22_2 : List AV) (x23_2 : Int) (x24_2 : Int) (x40_1 : List AV) (x41_1 : Int) (x42_1 : Int) (o4_3 : Int) (o4_4 : Int) (o7_1 : Int) (o7_2 : List UInt8) (o7_3 : List UInt8) (o7_4 : Int) (o7_5 : List AV) : f20_l3 run n k1 (k3 + 1) x2_12 x2_13 x2_14 x2_15 x2_16 x2_17 x2_18 x2_19 x2_20 x2_21 x2_22 x5_2 x6_1 x22_2 x23_2 x24_2 x40_1 x41_1 x42_1 o4_3 o4_4 o7_1 o7_2 o7_3 o7_4 o7_5 =
  bif ltI x42_1 x41_1 then
    bif inR x42_1 x40_1.length then
    bif Nat.beq ((nth x40_1 (Int.toNat x42_1)).cloF) 52 then
    (run 52 [nth ((nth x40_1 (Int.toNat x42_1)).cloXs) 0]).bind fun r3 =>
    nilV r3.outs (consV r3.vals fun v3 vs3 =>
    nilV vs3 (bif !(eqI v3.toInt 0) then
    some ⟨[.agg [.int v3.toInt, .int x6_1]], [], f20_fresh⟩
  else
    f20_l3 run n k1 k3 x2_12 x2_13 x2_14 x2_15 x2_16 x2_17 x2_18 x2_19 x2_20 x2_21 x2_22 x5_2 x6_1 x22_2 x23_2 x24_2 x40_1 x41_1 (IntKind.wrap .i64 (x42_1 + 1)) o4_3 o4_4 o7_1 o7_2 o7_3 o7_4 o7_5))
  else
    bif Nat.beq ((nth x40_1 (Int.toNat x42_1)).cloF) 53 then
    (run 53 [nth ((nth x40_1 (Int.toNat x42_1)).cloXs) 0]).bind fun r2 =>
    nilV r2.outs (consV r2.vals fun v2 vs2 =>
    nilV vs2 (bif !(eqI v2.toInt 0) then
    some ⟨[.agg [.int v2.toInt, .int x6_1]], [], f20_fresh⟩
  else
    f20_l3 run n k1 k3 x2_12 x2_13 x2_14 x2_15 x2_16 x2_17 x2_18 x2_19 x2_20 x2_21 x2_22 x5_2 x6_1 x22_2 x23_2 x24_2 x40_1 x41_1 (IntKind.wrap .i64 (x42_1 + 1)) o4_3 o4_4 o7_1 o7_2 o7_3 o7_4 o7_5))
  else
    bif Nat.beq ((nth x40_1 (Int.toNat x42_1)).cloF) 54 then
    (run 54 [nth ((nth x40_1 (Int.toNat x42_1)).cloXs) 0]).bind fun r1 =>
    nilV r1.outs (consV r1.vals fun v1 vs1 =>
    nilV vs1 (bif !(eqI v1.toInt 0) then
    some ⟨[.agg [.int v1.toInt, .int x6_1]], [], f20_fresh⟩
  else
    f20_l3 run n k1 k3 x2_12 x2_13 x2_14 x2_15 x2_16 x2_17 x2_18 x2_19 x2_20 x2_21 x2_22 x5_2 x6_1 x22_2 x23_2 x24_2 x40_1 x41_1 (IntKind.wrap .i64 (x42_1 + 1)) o4_3 o4_4 o7_1 o7_2 o7_3 o7_4 o7_5))
  else
    none
  else none
  else
    (run 49 [.blob x2_16, .slice x5_2, .agg [.agg [.int o7_1, .blob o7_2, .blob o7_3, .int o7_4], .slice o7_5], .int x6_1]).bind fun r4 =>
    nilV r4.outs (consV r4.vals fun v4 vs4 =>
    nilV vs4 (f20_l1 run n k1 x2_12 x2_13 x2_14 x2_15 x2_16 x2_17 x2_18 x2_19 x2_20 x2_21 x2_22 v4.toSlice x22_2 x23_2 (IntKind.wrap .i64 (x24_2 + 1)) o4_3 o4_4)) := by kernel_rfl
theorem f20_l1_eq (run : Run) (n : Nat) (k1 : Nat) (x2_1 : Int) (x2_2 : List UInt8) (x2_3 : List UInt8) (x2_4 : Int) (x2_5 : List UInt8) (x2_6 : Int) (x2_7 : Int) (x2_8 : Int) (x2_9 : Int) (x2_10 : Int) (x2_11 : Int) (x5_1 : List AV) (x22_1 : List AV) (x23_1 : Int) (x24_1 : Int) (o4_1 : Int) (o4_2 : Int) : f20_l1 run n (k1 + 1) x2_1 x2_2 x2_3 x2_4 x2_5 x2_6 x2_7 x2_8 x2_9 x2_10 x2_11 x5_1 x22_1 x23_1 x24_1 o4_1 o4_2 =
  bif ltI x24_1 x23_1 then
    bif inR x24_1 x22_1.length then
    f20_l3 run n k1 n x2_1 x2_2 x2_3 x2_4 x2_5 x2_6 x2_7 x2_8 x2_9 x2_10 x2_11 x5_1 x24_1 x22_1 x23_1 x24_1 [.clo 52 [.agg [.agg [.agg [.int x2_1, .blob x2_2, .blob x2_3, .int x2_4], .blob x2_5, .int x2_6, .int x2_7, .int x2_8, .int x2_9, .int x2_10, .int x2_11], .int x24_1, .agg [.agg [.int ((((nth x22_1 (Int.toNat x24_1)).fld 0).fld 0).toInt), .blob ((((nth x22_1 (Int.toNat x24_1)).fld 0).fld 1).toBlob), .blob ((((nth x22_1 (Int.toNat x24_1)).fld 0).fld 2).toBlob), .int ((((nth x22_1 (Int.toNat x24_1)).fld 0).fld 3).toInt)], .slice (((nth x22_1 (Int.toNat x24_1)).fld 1).toSlice)], .slice x5_1]], .clo 53 [.agg [.agg [.agg [.int x2_1, .blob x2_2, .blob x2_3, .int x2_4], .blob x2_5, .int x2_6, .int x2_7, .int x2_8, .int x2_9, .int x2_10, .int x2_11], .int x24_1, .agg [.agg [.int ((((nth x22_1 (Int.toNat x24_1)).fld 0).fld 0).toInt), .blob ((((nth x22_1 (Int.toNat x24_1)).fld 0).fld 1).toBlob), .blob ((((nth x22_1 (Int.toNat x24_1)).fld 0).fld 2).toBlob), .int ((((nth x22_1 (Int.toNat x24_1)).fld 0).fld 3).toInt)], .slice (((nth x22_1 (Int.toNat x24_1)).fld 1).toSlice)], .slice x5_1]], .clo 54 [.agg [.agg [.agg [.int x2_1, .blob x2_2, .blob x2_3, .int x2_4], .blob x2_5, .int x2_6, .int x2_7, .int x2_8, .int x2_9, .int x2_10, .int x2_11], .int x24_1, .agg [.agg [.int ((((nth x22_1 (Int.toNat x24_1)).fld 0).fld 0).toInt), .blob ((((nth x22_1 (Int.toNat x24_1)).fld 0).fld 1).toBlob), .blob ((((nth x22_1 (Int.toNat x24_1)).fld 0).fld 2).toBlob), .int ((((nth x22_1 (Int.toNat x24_1)).fld 0).fld 3).toInt)], .slice (((nth x22_1 (Int.toNat x24_1)).fld 1).toSlice)], .slice x5_1]]] 3 0 o4_1 o4_2 ((((nth x22_1 (Int.toNat x24_1)).fld 0).fld 0).toInt) ((((nth x22_1 (Int.toNat x24_1)).fld 0).fld 1).toBlob) ((((nth x22_1 (Int.toNat x24_1)).fld 0).fld 2).toBlob) ((((nth x22_1 (Int.toNat x24_1)).fld 0).fld 3).toInt) (((nth x22_1 (Int.toNat x24_1)).fld 1).toSlice)
  else none
  else
    some ⟨[.agg [.int 0, .int 0]], [], f20_fresh⟩ := by kernel_rfl
noncomputable def f20 (run : Run) (n : Nat) (a0_1 : Int) (a0_2 : List UInt8) (a0_3 : List UInt8) (a0_4 : Int) (a0_5 : List UInt8) (a0_6 : Int) (a0_7 : Int) (a0_8 : Int) (a0_9 : Int) (a0_10 : Int) (a0_11 : Int) (a1_1 : List AV) : Option Res := evalK G run n f20_info.keep 0 f20_info.body (retE G f20_info) (f20_info.start [.agg [.agg [.int a0_1, .blob a0_2, .blob a0_3, .int a0_4], .blob a0_5, .int a0_6, .int a0_7, .int a0_8, .int a0_9, .int a0_10, .int a0_11], .slice a1_1])
theorem f20_eq (run : Run) (n : Nat) (a0_1 : Int) (a0_2 : List UInt8) (a0_3 : List UInt8) (a0_4 : Int) (a0_5 : List UInt8) (a0_6 : Int) (a0_7 : Int) (a0_8 : Int) (a0_9 : Int) (a0_10 : Int) (a0_11 : Int) (a1_1 : List AV) : f20 run n a0_1 a0_2 a0_3 a0_4 a0_5 a0_6 a0_7 a0_8 a0_9 a0_10 a0_11 a1_1 =
  bif eqI (a1_1.length : Int) 0 then
    some ⟨[.agg [.int 6, .int 0]], [], f20_fresh⟩
  else
    bif ltI 1024 (a1_1.length : Int) then
    some ⟨[.agg [.int 4, .int 1024]], [], f20_fresh⟩
  else
    f20_l1 run n n a0_1 a0_2 a0_3 a0_4 a0_5 a0_6 a0_7 a0_8 a0_9 a0_10 a0_11 [] a1_1 (a1_1.length : Int) 0 0 0 := by kernel_rfl
theorem f20_run (ext : Run) (n : Nat) (a0_1 : Int) (a0_2 : List UInt8) (a0_3 : List UInt8) (a0_4 : Int) (a0_5 : List UInt8) (a0_6 : Int) (a0_7 : Int) (a0_8 : Int) (a0_9 : Int) (a0_10 : Int) (a0_11 : Int) (a1_1 : List AV) : runE G ext (n + 1) 20 [.agg [.agg [.int a0_1, .blob a0_2, .blob a0_3, .int a0_4], .blob a0_5, .int a0_6, .int a0_7, .int a0_8, .int a0_9, .int a0_10, .int a0_11], .slice a1_1] = f20 (runE G ext n) n a0_1 a0_2 a0_3 a0_4 a0_5 a0_6 a0_7 a0_8 a0_9 a0_10 a0_11 a1_1 := runE_succ f20_at f20_in

noncomputable def f11 (run : Run) (n : Nat) : Option Res := evalK G run n f11_info.keep 0 f11_info.body (retE G f11_info) (f11_info.start [])
theorem f11_eq (run : Run) (n : Nat) : f11 run n  =
  (run 15 [.blob [0, 0, 0, 0, 0, 0, 0, 0, 0, 0, 0, 0, 0, 0, 0, 0, 0, 0, 0, 0, 0, 0, 0, 0, 0, 0, 0, 0, 0, 0, 0, 0], .slice []]).bind fun r1 =>
    bif r1.fresh then
    nilV r1.outs (consV r1.vals fun v1 vs1 =>
    nilV vs1 (bif eqI (v1.toSlice.length : Int) 1 then
    bif inR 0 v1.toSlice.length then
    bif eqI (((nth v1.toSlice 0).toSlice).length : Int) 0 then
    (run 20 [.agg [.agg [.int 0, .blob (List.replicate 32 0), .blob (List.replicate 32 0), .int 0], .blob (List.replicate 32 0), .int 0, .int 0, .int 0, .int 0, .int 0, .int 0], .slice []]).bind fun r2 =>
    nilV r2.outs (consV r2.vals fun v2 vs2 =>
    nilV vs2 (some ⟨[.bool (eqI ((v2.fld 0).toInt) 6 && (eqI ((v2.fld 1).toInt) 0 && true))], [], f11_fresh⟩))
  else
    some ⟨[.bool false], [], f11_fresh⟩
  else none
  else
    some ⟨[.bool false], [], f11_fresh⟩))
  else none := by kernel_rfl
theorem f11_run (ext : Run) (n : Nat) : runE G ext (n + 1) 11 [] = f11 (runE G ext n) n  := runE_succ f11_at f11_in

noncomputable def f121 (run : Run) (n : Nat) (a0_1 : Int) : Option Res := evalK G run n f121_info.keep 0 f121_info.body (retE G f121_info) (f121_info.start [.int a0_1])
theorem f121_eq (run : Run) (n : Nat) (a0_1 : Int) : f121 run n a0_1 =
  some ⟨[.str (bytesOf [.int (IntKind.wrap .u8 a0_1)])], [], f121_fresh⟩ := by kernel_rfl
theorem f121_run (ext : Run) (n : Nat) (a0_1 : Int) : runE G ext (n + 1) 121 [.int a0_1] = f121 (runE G ext n) n a0_1 := runE_succ f121_at f121_in

noncomputable def f120_l0 (run : Run) (n : Nat) (k0 : Nat) (x0_1 : Int) (x1_1 : Int) (x5_1 : List UInt8) (x6_1 : Int) : Option Res :=
  iterK (evalK G run n f120_keep 0 (sub [1, 1, 0, 1, 0, 0] f120_body)) f120_t0 f120_o0 (blockK 0 (seqK (evalK G run n f120_keep 0 (sub [1, 1, 1] f120_body) (retE G f120_info)) (retE G f120_info))) k0
    ⟨[.val (.int .u64) none (.int x0_1), .val (.int .i64) none (.int x1_1), .any, .any, .any, .val .str none (.str x5_1), .val (.int .i64) none (.int x6_1), .any, .any, .any, .any, .any, .any, .any, .any, .any, .any, .any, .any, .any, .any], [⟨0, none⟩, ⟨0, none⟩, ⟨0, none⟩, ⟨0, none⟩, ⟨0, none⟩, ⟨0, none⟩, ⟨0, none⟩, ⟨0, none⟩, ⟨0, none⟩, ⟨0, none⟩, ⟨0, none⟩, ⟨0, none⟩, ⟨0, none⟩, ⟨0, none⟩, ⟨0, none⟩, ⟨0, none⟩, ⟨0, none⟩, ⟨0, none⟩, ⟨0, none⟩, ⟨0, none⟩, ⟨0, none⟩], List.replicate 21 0⟩
theorem f120_l0_eq (run : Run) (n : Nat) (k0 : Nat) (x0_1 : Int) (x1_1 : Int) (x5_1 : List UInt8) (x6_1 : Int) : f120_l0 run n (k0 + 1) x0_1 x1_1 x5_1 x6_1 =
  bif ltI x6_1 x1_1 then
    (run 121 [.int (IntKind.wrap .i64 (Int.tmod x0_1 256))]).bind fun r1 =>
    nilV r1.outs (consV r1.vals fun v1 vs1 =>
    nilV vs1 (bif Nat.ble (v1.toStr.length + x5_1.length) maxLen then
    f120_l0 run n k0 (IntKind.wrap .u64 (Int.tdiv x0_1 256)) x1_1 (v1.toStr ++ x5_1) (IntKind.wrap .i64 (x6_1 + 1))
  else none))
  else
    some ⟨[.str x5_1], [], f120_fresh⟩ := by kernel_rfl
noncomputable def f120 (run : Run) (n : Nat) (a0_1 : Int) (a1_1 : Int) : Option Res := evalK G run n f120_info.keep 0 f120_info.body (retE G f120_info) (f120_info.start [.int a0_1, .int a1_1])
theorem f120_eq (run : Run) (n : Nat) (a0_1 : Int) (a1_1 : Int) : f120 run n a0_1 a1_1 =
  f120_l0 run n n a0_1 a1_1 [] 0 := by kernel_rfl
theorem f120_run (ext : Run) (n : Nat) (a0_1 : Int) (a1_1 : Int) : runE G ext (n + 1) 120 [.int a0_1, .int a1_1] = f120 (runE G ext n) n a0_1 a1_1 := runE_succ f120_at f120_in

noncomputable def f122_l0 (run : Run) (n : Nat) (k0 : Nat) (x4_1 : Int) (o1_1 : List UInt8) (o5_1 : List AV) : Option Res :=
  iterK (evalK G run n f122_keep 0 (sub [1, 1, 0, 1, 0, 0] f122_body)) f122_t0 f122_o0 (blockK 0 (seqK (evalK G run n f122_keep 0 (sub [1, 1, 1] f122_body) (retE G f122_info)) (retE G f122_info))) k0
    ⟨[.any, .ptr ⟨(.blob 32), 1, 1, []⟩, .any, .ref ⟨(.arr 32 (.int .u8)), 5, 1, []⟩ 0 32, .val (.int .i64) none (.int x4_1), .any, .any, .any, .any, .any, .any, .any, .any, .any, .any, .any, .any, .any], [⟨0, none⟩, ⟨1, some ⟨(.blob 32), .blob o1_1⟩⟩, ⟨0, none⟩, ⟨0, none⟩, ⟨0, none⟩, ⟨1, some ⟨(.arr 32 (.int .u8)), .agg o5_1⟩⟩, ⟨0, none⟩, ⟨0, none⟩, ⟨0, none⟩, ⟨0, none⟩, ⟨0, none⟩, ⟨0, none⟩, ⟨0, none⟩, ⟨0, none⟩, ⟨0, none⟩, ⟨0, none⟩, ⟨0, none⟩, ⟨0, none⟩], List.replicate 18 0⟩
theorem f122_l0_eq (run : Run) (n : Nat) (k0 : Nat) (x4_1 : Int) (o1_1 : List UInt8) (o5_1 : List AV) : f122_l0 run n (k0 + 1) x4_1 o1_1 o5_1 =
  bif ltI x4_1 32 then
    bif inR x4_1 32 then
    bif inR x4_1 32 then
    f122_l0 run n k0 (IntKind.wrap .i64 (x4_1 + 1)) o1_1 (o5_1.set (0 + (Int.toNat x4_1)) (.int (((o1_1).getD (Int.toNat x4_1) 0).toNat : Int)))
  else none
  else none
  else
    some ⟨[.str (bytesOf (List.drop 0 (List.take 32 o5_1)))], [], f122_fresh⟩ := by kernel_rfl
noncomputable def f122 (run : Run) (n : Nat) (a0_1 : List UInt8) : Option Res := evalK G run n f122_info.keep 0 f122_info.body (retE G f122_info) (f122_info.start [.blob a0_1])
theorem f122_eq (run : Run) (n : Nat) (a0_1 : List UInt8) : f122 run n a0_1 =
  f122_l0 run n n 0 a0_1 (List.replicate 32 (.int 0)) := by kernel_rfl
theorem f122_run (ext : Run) (n : Nat) (a0_1 : List UInt8) : runE G ext (n + 1) 122 [.blob a0_1] = f122 (runE G ext n) n a0_1 := runE_succ f122_at f122_in

noncomputable def f81 (run : Run) (n : Nat) (a0_1 : Int) (a0_2 : List UInt8) (a0_3 : List UInt8) (a0_4 : Int) : Option Res := evalK G run n f81_info.keep 0 f81_info.body (retE G f81_info) (f81_info.start [.agg [.int a0_1, .blob a0_2, .blob a0_3, .int a0_4]])
theorem f81_eq (run : Run) (n : Nat) (a0_1 : Int) (a0_2 : List UInt8) (a0_3 : List UInt8) (a0_4 : Int) : f81 run n a0_1 a0_2 a0_3 a0_4 =
  (run 120 [.int (IntKind.wrap .u64 a0_1), .int 4]).bind fun r1 =>
    nilV r1.outs (consV r1.vals fun v1 vs1 =>
    nilV vs1 ((run 122 [.blob a0_2]).bind fun r2 =>
    nilV r2.outs (consV r2.vals fun v2 vs2 =>
    nilV vs2 (bif Nat.ble (v1.toStr.length + v2.toStr.length) maxLen then
    (run 122 [.blob a0_3]).bind fun r3 =>
    nilV r3.outs (consV r3.vals fun v3 vs3 =>
    nilV vs3 (bif Nat.ble ((v1.toStr ++ v2.toStr).length + v3.toStr.length) maxLen then
    (run 120 [.int a0_4, .int 8]).bind fun r4 =>
    nilV r4.outs (consV r4.vals fun v4 vs4 =>
    nilV vs4 (bif Nat.ble (((v1.toStr ++ v2.toStr) ++ v3.toStr).length + v4.toStr.length) maxLen then
    some ⟨[.str (((v1.toStr ++ v2.toStr) ++ v3.toStr) ++ v4.toStr)], [], f81_fresh⟩
  else none))
  else none))
  else none)))) := by kernel_rfl
theorem f81_run (ext : Run) (n : Nat) (a0_1 : Int) (a0_2 : List UInt8) (a0_3 : List UInt8) (a0_4 : Int) : runE G ext (n + 1) 81 [.agg [.int a0_1, .blob a0_2, .blob a0_3, .int a0_4]] = f81 (runE G ext n) n a0_1 a0_2 a0_3 a0_4 := runE_succ f81_at f81_in

noncomputable def f80 (run : Run) (n : Nat) (a0_1 : List UInt8) : Option Res := evalK G run n f80_info.keep 0 f80_info.body (retE G f80_info) (f80_info.start [.str a0_1])
theorem f80_eq (run : Run) (n : Nat) (a0_1 : List UInt8) : f80 run n a0_1 =
  (run 121 [.int 3]).bind fun r1 =>
    nilV r1.outs (consV r1.vals fun v1 vs1 =>
    nilV vs1 (bif Nat.ble (v1.toStr.length + a0_1.length) maxLen then
    some ⟨[.str (v1.toStr ++ a0_1)], [], f80_fresh⟩
  else none)) := by kernel_rfl
theorem f80_run (ext : Run) (n : Nat) (a0_1 : List UInt8) : runE G ext (n + 1) 80 [.str a0_1] = f80 (runE G ext n) n a0_1 := runE_succ f80_at f80_in

noncomputable def f117 (run : Run) (n : Nat) : Option Res := evalK G run n f117_info.keep 0 f117_info.body (retE G f117_info) (f117_info.start [])
theorem f117_eq (run : Run) (n : Nat) : f117 run n  =
  some ⟨[.agg [.int 1779033703, .int 3144134277, .int 1013904242, .int 2773480762, .int 1359893119, .int 2600822924, .int 528734635, .int 1541459225]], [], f117_fresh⟩ := by kernel_rfl
theorem f117_run (ext : Run) (n : Nat) : runE G ext (n + 1) 117 [] = f117 (runE G ext n) n  := runE_succ f117_at f117_in

noncomputable def f118_l0 (run : Run) (n : Nat) (k0 : Nat) (x0_1 : Int) (x3_1 : List UInt8) : Option Res :=
  iterK (evalK G run n f118_keep 0 (sub [1, 1, 0, 0, 0] f118_body)) f118_t0 f118_o0 (blockK 0 (seqK (evalK G run n f118_keep 0 (sub [1, 1, 1] f118_body) (retE G f118_info)) (retE G f118_info))) k0
    ⟨[.val (.int .u64) none (.int x0_1), .any, .any, .val .str none (.str x3_1), .any, .any, .any, .any, .any, .any, .any, .any, .any, .any, .any, .any, .any, .any, .any, .any, .any, .any], [⟨0, none⟩, ⟨0, none⟩, ⟨0, none⟩, ⟨0, none⟩, ⟨0, none⟩, ⟨0, none⟩, ⟨0, none⟩, ⟨0, none⟩, ⟨0, none⟩, ⟨0, none⟩, ⟨0, none⟩, ⟨0, none⟩, ⟨0, none⟩, ⟨0, none⟩, ⟨0, none⟩, ⟨0, none⟩, ⟨0, none⟩, ⟨0, none⟩, ⟨0, none⟩, ⟨0, none⟩, ⟨0, none⟩, ⟨0, none⟩], List.replicate 22 0⟩
theorem f118_l0_eq (run : Run) (n : Nat) (k0 : Nat) (x0_1 : Int) (x3_1 : List UInt8) : f118_l0 run n (k0 + 1) x0_1 x3_1 =
  bif !(eqI (Int.tmod (IntKind.wrap .u64 (IntKind.wrap .u64 (Int.tmod x0_1 64 + IntKind.wrap .u64 (x3_1.length : Int)) + 8)) 64) 0) then
    (run 121 [.int 0]).bind fun r2 =>
    nilV r2.outs (consV r2.vals fun v2 vs2 =>
    nilV vs2 (bif Nat.ble (x3_1.length + v2.toStr.length) maxLen then
    f118_l0 run n k0 x0_1 (x3_1 ++ v2.toStr)
  else none))
  else
    (run 120 [.int (IntKind.wrap .u64 (x0_1 * 8)), .int 8]).bind fun r3 =>
    nilV r3.outs (consV r3.vals fun v3 vs3 =>
    nilV vs3 (bif Nat.ble (x3_1.length + v3.toStr.length) maxLen then
    some ⟨[.str (x3_1 ++ v3.toStr)], [], f118_fresh⟩
  else none)) := by kernel_rfl
noncomputable def f118 (run : Run) (n : Nat) (a0_1 : Int) : Option Res := evalK G run n f118_info.keep 0 f118_info.body (retE G f118_info) (f118_info.start [.int a0_1])
theorem f118_eq (run : Run) (n : Nat) (a0_1 : Int) : f118 run n a0_1 =
  (run 121 [.int 128]).bind fun r1 =>
    nilV r1.outs (consV r1.vals fun v1 vs1 =>
    nilV vs1 (f118_l0 run n n a0_1 v1.toStr)) := by kernel_rfl
theorem f118_run (ext : Run) (n : Nat) (a0_1 : Int) : runE G ext (n + 1) 118 [.int a0_1] = f118 (runE G ext n) n a0_1 := runE_succ f118_at f118_in

noncomputable def f166_l0 (run : Run) (n : Nat) (k0 : Nat) (x0_1 : List UInt8) (x1_1 : Int) (x2_1 : Int) (x7_1 : Int) (x8_1 : Int) : Option Res :=
  iterK (evalK G run n f166_keep 0 (sub [1, 1, 0, 1, 0, 0] f166_body)) f166_t0 f166_o0 (blockK 0 (seqK (evalK G run n f166_keep 0 (sub [1, 1, 1] f166_body) (retE G f166_info)) (retE G f166_info))) k0
    ⟨[.val .str none (.str x0_1), .val (.int .i64) none (.int x1_1), .val (.int .i64) none (.int x2_1), .any, .any, .any, .any, .val (.int .u64) none (.int x7_1), .val (.int .i64) none (.int x8_1), .any, .any, .any, .any, .any, .any, .any, .any, .any, .any, .any, .any, .any, .any, .any, .any, .any, .any, .any, .any, .any, .any, .any, .any, .any, .any, .any, .any, .any, .any, .any, .any], [⟨0, none⟩, ⟨0, none⟩, ⟨0, none⟩, ⟨0, none⟩, ⟨0, none⟩, ⟨0, none⟩, ⟨0, none⟩, ⟨0, none⟩, ⟨0, none⟩, ⟨0, none⟩, ⟨0, none⟩, ⟨0, none⟩, ⟨0, none⟩, ⟨0, none⟩, ⟨0, none⟩, ⟨0, none⟩, ⟨0, none⟩, ⟨0, none⟩, ⟨0, none⟩, ⟨0, none⟩, ⟨0, none⟩, ⟨0, none⟩, ⟨0, none⟩, ⟨0, none⟩, ⟨0, none⟩, ⟨0, none⟩, ⟨0, none⟩, ⟨0, none⟩, ⟨0, none⟩, ⟨0, none⟩, ⟨0, none⟩, ⟨0, none⟩, ⟨0, none⟩, ⟨0, none⟩, ⟨0, none⟩, ⟨0, none⟩, ⟨0, none⟩, ⟨0, none⟩, ⟨0, none⟩, ⟨0, none⟩, ⟨0, none⟩], List.replicate 41 0⟩
theorem f166_l0_eq (run : Run) (n : Nat) (k0 : Nat) (x0_1 : List UInt8) (x1_1 : Int) (x2_1 : Int) (x7_1 : Int) (x8_1 : Int) : f166_l0 run n (k0 + 1) x0_1 x1_1 x2_1 x7_1 x8_1 =
  bif ltI x8_1 x2_1 then
    bif leI 0 x1_1 then
    bif ltI x1_1 (x0_1.length : Int) then
    bif ltI x8_1 (IntKind.wrap .i64 ((x0_1.length : Int) - x1_1)) then
    bif inR (IntKind.wrap .i64 (x1_1 + x8_1)) x0_1.length then
    f166_l0 run n k0 x0_1 x1_1 x2_1 (IntKind.wrap .u64 (IntKind.wrap .u64 (x7_1 * 256) + IntKind.wrap .u64 ((x0_1.getD (Int.toNat (IntKind.wrap .i64 (x1_1 + x8_1))) 0).toNat : Int))) (IntKind.wrap .i64 (x8_1 + 1))
  else none
  else
    f166_l0 run n k0 x0_1 x1_1 x2_1 (IntKind.wrap .u64 (x7_1 * 256)) (IntKind.wrap .i64 (x8_1 + 1))
  else
    f166_l0 run n k0 x0_1 x1_1 x2_1 (IntKind.wrap .u64 (x7_1 * 256)) (IntKind.wrap .i64 (x8_1 + 1))
  else
    f166_l0 run n k0 x0_1 x1_1 x2_1 (IntKind.wrap .u64 (x7_1 * 256)) (IntKind.wrap .i64 (x8_1 + 1))
  else
    some ⟨[.int x7_1], [], f166_fresh⟩ := by kernel_rfl
noncomputable def f166 (run : Run) (n : Nat) (a0_1 : List UInt8) (a1_1 : Int) (a2_1 : Int) : Option Res := evalK G run n f166_info.keep 0 f166_info.body (retE G f166_info) (f166_info.start [.str a0_1, .int a1_1, .int a2_1])
theorem f166_eq (run : Run) (n : Nat) (a0_1 : List UInt8) (a1_1 : Int) (a2_1 : Int) : f166 run n a0_1 a1_1 a2_1 =
  f166_l0 run n n a0_1 a1_1 a2_1 0 0 := by kernel_rfl
theorem f166_run (ext : Run) (n : Nat) (a0_1 : List UInt8) (a1_1 : Int) (a2_1 : Int) : runE G ext (n + 1) 166 [.str a0_1, .int a1_1, .int a2_1] = f166 (runE G ext n) n a0_1 a1_1 a2_1 := runE_succ f166_at f166_in

noncomputable def f144 (run : Run) (n : Nat) (a0_1 : Int) (a1_1 : Int) : Option Res := evalK G run n f144_info.keep 0 f144_info.body (retE G f144_info) (f144_info.start [.int a0_1, .int a1_1])
theorem f144_eq (run : Run) (n : Nat) (a0_1 : Int) (a1_1 : Int) : f144 run n a0_1 a1_1 =
  bif leI 0 a1_1 then
    bif leI 0 (IntKind.wrap .u64 (32 - a1_1)) then
    some ⟨[.int (IntKind.wrap .u32 (Int.fdiv a0_1 (2 ^ (min (Int.toNat a1_1) 32)) + IntKind.wrap .u32 (a0_1 * 2 ^ (min (Int.toNat (IntKind.wrap .u64 (32 - a1_1))) 32))))], [], f144_fresh⟩
  else none
  else none := by kernel_rfl
theorem f144_run (ext : Run) (n : Nat) (a0_1 : Int) (a1_1 : Int) : runE G ext (n + 1) 144 [.int a0_1, .int a1_1] = f144 (runE G ext n) n a0_1 a1_1 := runE_succ f144_at f144_in

noncomputable def f143_l2 (run : Run) (n : Nat) (_k0 : Nat) (k2 : Nat) (x5_1 : Int) (o2_3 : List AV) (o3_3 : List AV) : Option Res :=
  iterK (evalK G run n f143_keep 2 (sub [1, 1, 1, 0, 1, 0, 0] f143_body)) f143_t2 f143_o2 (blockK 2 (seqK (evalK G run n f143_keep 0 (sub [1, 1, 1, 1] f143_body) (retE G f143_info)) (retE G f143_info))) k2
    ⟨[.any, .any, .ptr ⟨(.arr 64 (.int .u32)), 2, 1, []⟩, .ptr ⟨(.arr 64 (.int .u32)), 3, 1, []⟩, .any, .val (.int .i64) none (.int x5_1), .any, .any, .any, .any, .any, .any, .any, .any, .any, .any, .any, .any, .any, .any, .any, .any, .any, .any, .any, .any, .any, .any, .any, .any, .any, .any, .any, .any, .any, .any, .any, .any, .any, .any, .any, .any, .any, .any, .any, .any, .any, .any, .any, .any, .any, .any, .any, .any, .any, .any, .any, .any, .any, .any, .any], [⟨0, none⟩, ⟨0, none⟩, ⟨1, some ⟨(.arr 64 (.int .u32)), .agg o2_3⟩⟩, ⟨1, some ⟨(.arr 64 (.int .u32)), .agg o3_3⟩⟩, ⟨0, none⟩, ⟨0, none⟩, ⟨0, none⟩, ⟨0, none⟩, ⟨0, none⟩, ⟨0, none⟩, ⟨0, none⟩, ⟨0, none⟩, ⟨0, none⟩, ⟨0, none⟩, ⟨0, none⟩, ⟨0, none⟩, ⟨0, none⟩, ⟨0, none⟩, ⟨0, none⟩, ⟨0, none⟩, ⟨0, none⟩, ⟨0, none⟩, ⟨0, none⟩, ⟨0, none⟩, ⟨0, none⟩, ⟨0, none⟩, ⟨0, none⟩, ⟨0, none⟩, ⟨0, none⟩, ⟨0, none⟩, ⟨0, none⟩, ⟨0, none⟩, ⟨0, none⟩, ⟨0, none⟩, ⟨0, none⟩, ⟨0, none⟩, ⟨0, none⟩, ⟨0, none⟩, ⟨0, none⟩, ⟨0, none⟩, ⟨0, none⟩, ⟨0, none⟩, ⟨0, none⟩, ⟨0, none⟩, ⟨0, none⟩, ⟨0, none⟩, ⟨0, none⟩, ⟨0, none⟩, ⟨0, none⟩, ⟨0, none⟩, ⟨0, none⟩, ⟨0, none⟩, ⟨0, none⟩, ⟨0, none⟩, ⟨0, none⟩, ⟨0, none⟩, ⟨0, none⟩, ⟨0, none⟩, ⟨0, none⟩, ⟨0, none⟩, ⟨0, none⟩], List.replicate 61 0⟩
noncomputable def f143_l0 (run : Run) (n : Nat) (k0 : Nat) (x0_1 : List UInt8) (x4_1 : Int) (o2_1 : List AV) (o3_1 : List AV) : Option Res :=
  iterK (evalK G run n f143_keep 0 (sub [1, 1, 0, 1, 0, 0] f143_body)) f143_t0 f143_o0 (blockK 0 (seqK (evalK G run n f143_keep 0 (sub [1, 1, 1] f143_body) (retE G f143_info)) (retE G f143_info))) k0
    ⟨[.val .str none (.str x0_1), .any, .ptr ⟨(.arr 64 (.int .u32)), 2, 1, []⟩, .ptr ⟨(.arr 64 (.int .u32)), 3, 1, []⟩, .val (.int .i64) none (.int x4_1), .any, .any, .any, .any, .any, .any, .any, .any, .any, .any, .any, .any, .any, .any, .any, .any, .any, .any, .any, .any, .any, .any, .any, .any, .any, .any, .any, .any, .any, .any, .any, .any, .any, .any, .any, .any, .any, .any, .any, .any, .any, .any, .any, .any, .any, .any, .any, .any, .any, .any, .any, .any, .any, .any, .any, .any], [⟨0, none⟩, ⟨0, none⟩, ⟨1, some ⟨(.arr 64 (.int .u32)), .agg o2_1⟩⟩, ⟨1, some ⟨(.arr 64 (.int .u32)), .agg o3_1⟩⟩, ⟨0, none⟩, ⟨0, none⟩, ⟨0, none⟩, ⟨0, none⟩, ⟨0, none⟩, ⟨0, none⟩, ⟨0, none⟩, ⟨0, none⟩, ⟨0, none⟩, ⟨0, none⟩, ⟨0, none⟩, ⟨0, none⟩, ⟨0, none⟩, ⟨0, none⟩, ⟨0, none⟩, ⟨0, none⟩, ⟨0, none⟩, ⟨0, none⟩, ⟨0, none⟩, ⟨0, none⟩, ⟨0, none⟩, ⟨0, none⟩, ⟨0, none⟩, ⟨0, none⟩, ⟨0, none⟩, ⟨0, none⟩, ⟨0, none⟩, ⟨0, none⟩, ⟨0, none⟩, ⟨0, none⟩, ⟨0, none⟩, ⟨0, none⟩, ⟨0, none⟩, ⟨0, none⟩, ⟨0, none⟩, ⟨0, none⟩, ⟨0, none⟩, ⟨0, none⟩, ⟨0, none⟩, ⟨0, none⟩, ⟨0, none⟩, ⟨0, none⟩, ⟨0, none⟩, ⟨0, none⟩, ⟨0, none⟩, ⟨0, none⟩, ⟨0, none⟩, ⟨0, none⟩, ⟨0, none⟩, ⟨0, none⟩, ⟨0, none⟩, ⟨0, none⟩, ⟨0, none⟩, ⟨0, none⟩, ⟨0, none⟩, ⟨0, none⟩, ⟨0, none⟩], List.replicate 61 0⟩
theorem f143_l2_eq (run : Run) (n : Nat) (k0 : Nat) (k2 : Nat) (x5_1 : Int) (o2_3 : List AV) (o3_3 : List AV) : f143_l2 run n k0 (k2 + 1) x5_1 o2_3 o3_3 =
  bif ltI x5_1 64 then
    bif inR (IntKind.wrap .i64 (x5_1 - 15)) 64 then
    bif inR (IntKind.wrap .i64 (x5_1 - 2)) 64 then
    bif inR (IntKind.wrap .i64 (x5_1 - 16)) 64 then
    (run 144 [.int ((AV.fld (.agg o3_3) (Int.toNat (IntKind.wrap .i64 (x5_1 - 15)))).toInt), .int 7]).bind fun r2 =>
    nilV r2.outs (consV r2.vals fun v2 vs2 =>
    nilV vs2 ((run 144 [.int ((AV.fld (.agg o3_3) (Int.toNat (IntKind.wrap .i64 (x5_1 - 15)))).toInt), .int 18]).bind fun r3 =>
    nilV r3.outs (consV r3.vals fun v3 vs3 =>
    nilV vs3 (bif inR (IntKind.wrap .i64 (x5_1 - 7)) 64 then
    (run 144 [.int ((AV.fld (.agg o3_3) (Int.toNat (IntKind.wrap .i64 (x5_1 - 2)))).toInt), .int 17]).bind fun r4 =>
    nilV r4.outs (consV r4.vals fun v4 vs4 =>
    nilV vs4 ((run 144 [.int ((AV.fld (.agg o3_3) (Int.toNat (IntKind.wrap .i64 (x5_1 - 2)))).toInt), .int 19]).bind fun r5 =>
    nilV r5.outs (consV r5.vals fun v5 vs5 =>
    nilV vs5 (bif inR x5_1 64 then
    f143_l2 run n k0 k2 (IntKind.wrap .i64 (x5_1 + 1)) o2_3 (o3_3.set (Int.toNat x5_1) (.int (IntKind.wrap .u32 (IntKind.wrap .u32 (IntKind.wrap .u32 ((AV.fld (.agg o3_3) (Int.toNat (IntKind.wrap .i64 (x5_1 - 16)))).toInt + IntKind.wrap .u32 (BitVec.toNat (BitVec.ofInt 32 (IntKind.wrap .u32 (BitVec.toNat (BitVec.ofInt 32 v2.toInt ^^^ BitVec.ofInt 32 v3.toInt))) ^^^ BitVec.ofInt 32 (Int.fdiv ((AV.fld (.agg o3_3) (Int.toNat (IntKind.wrap .i64 (x5_1 - 15)))).toInt) (2 ^ 3))))) + (AV.fld (.agg o3_3) (Int.toNat (IntKind.wrap .i64 (x5_1 - 7)))).toInt) + IntKind.wrap .u32 (BitVec.toNat (BitVec.ofInt 32 (IntKind.wrap .u32 (BitVec.toNat (BitVec.ofInt 32 v4.toInt ^^^ BitVec.ofInt 32 v5.toInt))) ^^^ BitVec.ofInt 32 (Int.fdiv ((AV.fld (.agg o3_3) (Int.toNat (IntKind.wrap .i64 (x5_1 - 2)))).toInt) (2 ^ 10))))))))
  else none))))
  else none))))
  else none
  else none
  else none
  else
    some ⟨[.agg o3_3], [], f143_fresh⟩ := by kernel_rfl
theorem f143_l0_eq (run : Run) (n : Nat) (k0 : Nat) (x0_1 : List UInt8) (x4_1 : Int) (o2_1 : List AV) (o3_1 : List AV) : f143_l0 run n (k0 + 1) x0_1 x4_1 o2_1 o3_1 =
  bif ltI x4_1 16 then
    (run 166 [.str x0_1, .int (IntKind.wrap .i64 (4 * x4_1)), .int 4]).bind fun r1 =>
    nilV r1.outs (consV r1.vals fun v1 vs1 =>
    nilV vs1 (bif inR x4_1 64 then
    f143_l0 run n k0 x0_1 (IntKind.wrap .i64 (x4_1 + 1)) o2_1 (o3_1.set (Int.toNat x4_1) (.int (IntKind.wrap .u32 v1.toInt)))
  else none))
  else
    f143_l2 run n k0 n 16 o2_1 o3_1 := by kernel_rfl
noncomputable def f143 (run : Run) (n : Nat) (a0_1 : List UInt8) : Option Res := evalK G run n f143_info.keep 0 f143_info.body (retE G f143_info) (f143_info.start [.str a0_1])
theorem f143_eq (run : Run) (n : Nat) (a0_1 : List UInt8) : f143 run n a0_1 =
  f143_l0 run n n a0_1 0 (List.replicate 64 (.int 0)) (List.replicate 64 (.int 0)) := by kernel_rfl
theorem f143_run (ext : Run) (n : Nat) (a0_1 : List UInt8) : runE G ext (n + 1) 143 [.str a0_1] = f143 (runE G ext n) n a0_1 := runE_succ f143_at f143_in

noncomputable def f145 (run : Run) (n : Nat) (a0_1 : Int) : Option Res := evalK G run n f145_info.keep 0 f145_info.body (retE G f145_info) (f145_info.start [.int a0_1])
theorem f145_eq (run : Run) (n : Nat) (a0_1 : Int) : f145 run n a0_1 =
  bif inR a0_1 64 then
    some ⟨[.int ((nth [.int 1116352408, .int 1899447441, .int 3049323471, .int 3921009573, .int 961987163, .int 1508970993, .int 2453635748, .int 2870763221, .int 3624381080, .int 310598401, .int 607225278, .int 1426881987, .int 1925078388, .int 2162078206, .int 2614888103, .int 3248222580, .int 3835390401, .int 4022224774, .int 264347078, .int 604807628, .int 770255983, .int 1249150122, .int 1555081692, .int 1996064986, .int 2554220882, .int 2821834349, .int 2952996808, .int 3210313671, .int 3336571891, .int 3584528711, .int 113926993, .int 338241895, .int 666307205, .int 773529912, .int 1294757372, .int 1396182291, .int 1695183700, .int 1986661051, .int 2177026350, .int 2456956037, .int 2730485921, .int 2820302411, .int 3259730800, .int 3345764771, .int 3516065817, .int 3600352804, .int 4094571909, .int 275423344, .int 430227734, .int 506948616, .int 659060556, .int 883997877, .int 958139571, .int 1322822218, .int 1537002063, .int 1747873779, .int 1955562222, .int 2024104815, .int 2227730452, .int 2361852424, .int 2428436474, .int 2756734187, .int 3204031479, .int 3329325298] (Int.toNat a0_1)).toInt)], [], f145_fresh⟩
  else none := by kernel_rfl
theorem f145_run (ext : Run) (n : Nat) (a0_1 : Int) : runE G ext (n + 1) 145 [.int a0_1] = f145 (runE G ext n) n a0_1 := runE_succ f145_at f145_in

noncomputable def f119_l2 (run : Run) (n : Nat) (k0 : Nat) (k2 : Nat) (x7_2 : Int) (x10_1 : Int) (x11_1 : Int) (x12_1 : Int) (o2_2 : List AV) (o4_2 : List AV) (o5_2 : List AV) (o6_2 : List AV) : Option Res :=
  iterK (evalK G run n f119_keep 2 (sub [1, 1, 1, 0, 1, 0, 0, 1, 0, 0, 1, 1, 1, 1, 0, 1, 0, 0] f119_body)) f119_t2 f119_o2 (blockK 2 (seqK (evalK G run n f119_keep 1 (sub [1, 1, 1, 0, 1, 0, 0, 1, 0, 0, 1, 1, 1, 1, 1] f119_body) (blockK 1 (seqK (evalK G run n f119_keep 0 (sub [1, 1, 1, 0, 1, 0, 0, 1, 1] f119_body) (seqK (fun t => iterK (evalK G run n f119_keep 0 (sub [1, 1, 1, 0, 1, 0, 0] f119_body)) f119_t0 f119_o0 (blockK 0 (seqK (evalK G run n f119_keep 0 (sub [1, 1, 1, 1] f119_body) (retE G f119_info)) (retE G f119_info))) k0 (t.clear f119_t0 f119_o0)) (blockK 0 (seqK (evalK G run n f119_keep 0 (sub [1, 1, 1, 1] f119_body) (retE G f119_info)) (retE G f119_info))))) (seqK (fun t => iterK (evalK G run n f119_keep 0 (sub [1, 1, 1, 0, 1, 0, 0] f119_body)) f119_t0 f119_o0 (blockK 0 (seqK (evalK G run n f119_keep 0 (sub [1, 1, 1, 1] f119_body) (retE G f119_info)) (retE G f119_info))) k0 (t.clear f119_t0 f119_o0)) (blockK 0 (seqK (evalK G run n f119_keep 0 (sub [1, 1, 1, 1] f119_body) (retE G f119_info)) (retE G f119_info))))))) (blockK 1 (seqK (evalK G run n f119_keep 0 (sub [1, 1, 1, 0, 1, 0, 0, 1, 1] f119_body) (seqK (fun t => iterK (evalK G run n f119_keep 0 (sub [1, 1, 1, 0, 1, 0, 0] f119_body)) f119_t0 f119_o0 (blockK 0 (seqK (evalK G run n f119_keep 0 (sub [1, 1, 1, 1] f119_body) (retE G f119_info)) (retE G f119_info))) k0 (t.clear f119_t0 f119_o0)) (blockK 0 (seqK (evalK G run n f119_keep 0 (sub [1, 1, 1, 1] f119_body) (retE G f119_info)) (retE G f119_info))))) (seqK (fun t => iterK (evalK G run n f119_keep 0 (sub [1, 1, 1, 0, 1, 0, 0] f119_body)) f119_t0 f119_o0 (blockK 0 (seqK (evalK G run n f119_keep 0 (sub [1, 1, 1, 1] f119_body) (retE G f119_info)) (retE G f119_info))) k0 (t.clear f119_t0 f119_o0)) (blockK 0 (seqK (evalK G run n f119_keep 0 (sub [1, 1, 1, 1] f119_body) (retE G f119_info)) (retE G f119_info)))))))) k2
    ⟨[.any, .any, .ptr ⟨(.arr 8 (.int .u32)), 2, 1, []⟩, .any, .ptr ⟨(.arr 8 (.int .u32)), 4, 1, []⟩, .ptr ⟨(.arr 64 (.int .u32)), 5, 1, []⟩, .ptr ⟨(.arr 8 (.int .u32)), 6, 1, []⟩, .val (.int .i64) none (.int x7_2), .any, .any, .val (.int .u32) none (.int x10_1), .val (.int .u32) none (.int x11_1), .val (.int .i64) none (.int x12_1), .any, .any, .any, .any, .any, .any, .any, .any, .any, .any, .any, .any, .any, .any, .any, .any, .any, .any, .any, .any, .any, .any, .any, .any, .any, .any, .any, .any, .any, .any, .any, .any, .any, .any, .any, .any, .any, .any, .any, .any, .any, .any, .any, .any, .any, .any, .any, .any, .any, .any, .any, .any, .any, .any, .any, .any, .any, .any, .any, .any, .any, .any, .any, .any, .any, .any, .any, .any, .any, .any, .any, .any, .any, .any, .any, .any, .any, .any, .any, .any, .any, .any, .any, .any, .any, .any, .any, .any, .any, .any, .any, .any, .any, .any, .any, .any, .any], [⟨0, none⟩, ⟨0, none⟩, ⟨1, some ⟨(.arr 8 (.int .u32)), .agg o2_2⟩⟩, ⟨0, none⟩, ⟨1, some ⟨(.arr 8 (.int .u32)), .agg o4_2⟩⟩, ⟨1, some ⟨(.arr 64 (.int .u32)), .agg o5_2⟩⟩, ⟨1, some ⟨(.arr 8 (.int .u32)), .agg o6_2⟩⟩, ⟨0, none⟩, ⟨0, none⟩, ⟨0, none⟩, ⟨0, none⟩, ⟨0, none⟩, ⟨0, none⟩, ⟨0, none⟩, ⟨0, none⟩, ⟨0, none⟩, ⟨0, none⟩, ⟨0, none⟩, ⟨0, none⟩, ⟨0, none⟩, ⟨0, none⟩, ⟨0, none⟩, ⟨0, none⟩, ⟨0, none⟩, ⟨0, none⟩, ⟨0, none⟩, ⟨0, none⟩, ⟨0, none⟩, ⟨0, none⟩, ⟨0, none⟩, ⟨0, none⟩, ⟨0, none⟩, ⟨0, none⟩, ⟨0, none⟩, ⟨0, none⟩, ⟨0, none⟩, ⟨0, none⟩, ⟨0, none⟩, ⟨0, none⟩, ⟨0, none⟩, ⟨0, none⟩, ⟨0, none⟩, ⟨0, none⟩, ⟨0, none⟩, ⟨0, none⟩, ⟨0, none⟩, ⟨0, none⟩, ⟨0, none⟩, ⟨0, none⟩, ⟨0, none⟩, ⟨0, none⟩, ⟨0, none⟩, ⟨0, none⟩, ⟨0, none⟩, ⟨0, none⟩, ⟨0, none⟩, ⟨0, none⟩, ⟨0, none⟩, ⟨0, none⟩, ⟨0, none⟩, ⟨0, none⟩, ⟨0, none⟩, ⟨0, none⟩, ⟨0, none⟩, ⟨0, none⟩, ⟨0, none⟩, ⟨0, none⟩, ⟨0, none⟩, ⟨0, none⟩, ⟨0, none⟩, ⟨0, none⟩, ⟨0, none⟩, ⟨0, none⟩, ⟨0, none⟩, ⟨0, none⟩, ⟨0, none⟩, ⟨0, none⟩, ⟨0, none⟩, ⟨0, none⟩, ⟨0, none⟩, ⟨0, none⟩, ⟨0, none⟩, ⟨0, none⟩, ⟨0, none⟩, ⟨0, none⟩, ⟨0, none⟩, ⟨0, none⟩, ⟨0, none⟩, ⟨0, none⟩, ⟨0, none⟩, ⟨0, none⟩, ⟨0, none⟩, ⟨0, none⟩, ⟨0, none⟩, ⟨0, none⟩, ⟨0, none⟩, ⟨0, none⟩, ⟨0, none⟩, ⟨0, none⟩, ⟨0, none⟩, ⟨0, none⟩, ⟨0, none⟩, ⟨0, none⟩, ⟨0, none⟩, ⟨0, none⟩, ⟨0, none⟩, ⟨0, none⟩, ⟨0, none⟩, ⟨0, none⟩, ⟨0, none⟩], List.replicate 110 0⟩
noncomputable def f119_l4 (run : Run) (n : Nat) (_k0 : Nat) (k4 : Nat) (x13_1 : Int) (o2_5 : List AV) (o4_5 : List AV) (o6_5 : List AV) : Option Res :=
  iterK (evalK G run n f119_keep 4 (sub [1, 1, 1, 1, 0, 1, 0, 0] f119_body)) f119_t4 f119_o4 (blockK 4 (seqK (evalK G run n f119_keep 0 (sub [1, 1, 1, 1, 1] f119_body) (retE G f119_info)) (retE G f119_info))) k4
    ⟨[.any, .any, .ptr ⟨(.arr 8 (.int .u32)), 2, 1, []⟩, .any, .ptr ⟨(.arr 8 (.int .u32)), 4, 1, []⟩, .any, .ptr ⟨(.arr 8 (.int .u32)), 6, 1, []⟩, .any, .any, .any, .any, .any, .any, .val (.int .i64) none (.int x13_1), .any, .any, .any, .any, .any, .any, .any, .any, .any, .any, .any, .any, .any, .any, .any, .any, .any, .any, .any, .any, .any, .any, .any, .any, .any, .any, .any, .any, .any, .any, .any, .any, .any, .any, .any, .any, .any, .any, .any, .any, .any, .any, .any, .any, .any, .any, .any, .any, .any, .any, .any, .any, .any, .any, .any, .any, .any, .any, .any, .any, .any, .any, .any, .any, .any, .any, .any, .any, .any, .any, .any, .any, .any, .any, .any, .any, .any, .any, .any, .any, .any, .any, .any, .any, .any, .any, .any, .any, .any, .any, .any, .any, .any, .any, .any, .any], [⟨0, none⟩, ⟨0, none⟩, ⟨1, some ⟨(.arr 8 (.int .u32)), .agg o2_5⟩⟩, ⟨0, none⟩, ⟨1, some ⟨(.arr 8 (.int .u32)), .agg o4_5⟩⟩, ⟨0, none⟩, ⟨1, some ⟨(.arr 8 (.int .u32)), .agg o6_5⟩⟩, ⟨0, none⟩, ⟨0, none⟩, ⟨0, none⟩, ⟨0, none⟩, ⟨0, none⟩, ⟨0, none⟩, ⟨0, none⟩, ⟨0, none⟩, ⟨0, none⟩, ⟨0, none⟩, ⟨0, none⟩, ⟨0, none⟩, ⟨0, none⟩, ⟨0, none⟩, ⟨0, none⟩, ⟨0, none⟩, ⟨0, none⟩, ⟨0, none⟩, ⟨0, none⟩, ⟨0, none⟩, ⟨0, none⟩, ⟨0, none⟩, ⟨0, none⟩, ⟨0, none⟩, ⟨0, none⟩, ⟨0, none⟩, ⟨0, none⟩, ⟨0, none⟩, ⟨0, none⟩, ⟨0, none⟩, ⟨0, none⟩, ⟨0, none⟩, ⟨0, none⟩, ⟨0, none⟩, ⟨0, none⟩, ⟨0, none⟩, ⟨0, none⟩, ⟨0, none⟩, ⟨0, none⟩, ⟨0, none⟩, ⟨0, none⟩, ⟨0, none⟩, ⟨0, none⟩, ⟨0, none⟩, ⟨0, none⟩, ⟨0, none⟩, ⟨0, none⟩, ⟨0, none⟩, ⟨0, none⟩, ⟨0, none⟩, ⟨0, none⟩, ⟨0, none⟩, ⟨0, none⟩, ⟨0, none⟩, ⟨0, none⟩, ⟨0, none⟩, ⟨0, none⟩, ⟨0, none⟩, ⟨0, none⟩, ⟨0, none⟩, ⟨0, none⟩, ⟨0, none⟩, ⟨0, none⟩, ⟨0, none⟩, ⟨0, none⟩, ⟨0, none⟩, ⟨0, none⟩, ⟨0, none⟩, ⟨0, none⟩, ⟨0, none⟩, ⟨0, none⟩, ⟨0, none⟩, ⟨0, none⟩, ⟨0, none⟩, ⟨0, none⟩, ⟨0, none⟩, ⟨0, none⟩, ⟨0, none⟩, ⟨0, none⟩, ⟨0, none⟩, ⟨0, none⟩, ⟨0, none⟩, ⟨0, none⟩, ⟨0, none⟩, ⟨0, none⟩, ⟨0, none⟩, ⟨0, none⟩, ⟨0, none⟩, ⟨0, none⟩, ⟨0, none⟩, ⟨0, none⟩, ⟨0, none⟩, ⟨0, none⟩, ⟨0, none⟩, ⟨0, none⟩, ⟨0, none⟩, ⟨0, none⟩, ⟨0, none⟩, ⟨0, none⟩, ⟨0, none⟩, ⟨0, none⟩, ⟨0, none⟩, ⟨0, none⟩], List.replicate 110 0⟩
noncomputable def f119_l0 (run : Run) (n : Nat) (k0 : Nat) (x7_1 : Int) (o2_1 : List AV) (o4_1 : List AV) (o5_1 : List AV) (o6_1 : List AV) : Option Res :=
  iterK (evalK G run n f119_keep 0 (sub [1, 1, 1, 0, 1, 0, 0] f119_body)) f119_t0 f119_o0 (blockK 0 (seqK (evalK G run n f119_keep 0 (sub [1, 1, 1, 1] f119_body) (retE G f119_info)) (retE G f119_info))) k0
    ⟨[.any, .any, .ptr ⟨(.arr 8 (.int .u32)), 2, 1, []⟩, .any, .ptr ⟨(.arr 8 (.int .u32)), 4, 1, []⟩, .ptr ⟨(.arr 64 (.int .u32)), 5, 1, []⟩, .ptr ⟨(.arr 8 (.int .u32)), 6, 1, []⟩, .val (.int .i64) none (.int x7_1), .any, .any, .any, .any, .any, .any, .any, .any, .any, .any, .any, .any, .any, .any, .any, .any, .any, .any, .any, .any, .any, .any, .any, .any, .any, .any, .any, .any, .any, .any, .any, .any, .any, .any, .any, .any, .any, .any, .any, .any, .any, .any, .any, .any, .any, .any, .any, .any, .any, .any, .any, .any, .any, .any, .any, .any, .any, .any, .any, .any, .any, .any, .any, .any, .any, .any, .any, .any, .any, .any, .any, .any, .any, .any, .any, .any, .any, .any, .any, .any, .any, .any, .any, .any, .any, .any, .any, .any, .any, .any, .any, .any, .any, .any, .any, .any, .any, .any, .any, .any, .any, .any], [⟨0, none⟩, ⟨0, none⟩, ⟨1, some ⟨(.arr 8 (.int .u32)), .agg o2_1⟩⟩, ⟨0, none⟩, ⟨1, some ⟨(.arr 8 (.int .u32)), .agg o4_1⟩⟩, ⟨1, some ⟨(.arr 64 (.int .u32)), .agg o5_1⟩⟩, ⟨1, some ⟨(.arr 8 (.int .u32)), .agg o6_1⟩⟩, ⟨0, none⟩, ⟨0, none⟩, ⟨0, none⟩, ⟨0, none⟩, ⟨0, none⟩, ⟨0, none⟩, ⟨0, none⟩, ⟨0, none⟩, ⟨0, none⟩, ⟨0, none⟩, ⟨0, none⟩, ⟨0, none⟩, ⟨0, none⟩, ⟨0, none⟩, ⟨0, none⟩, ⟨0, none⟩, ⟨0, none⟩, ⟨0, none⟩, ⟨0, none⟩, ⟨0, none⟩, ⟨0, none⟩, ⟨0, none⟩, ⟨0, none⟩, ⟨0, none⟩, ⟨0, none⟩, ⟨0, none⟩, ⟨0, none⟩, ⟨0, none⟩, ⟨0, none⟩, ⟨0, none⟩, ⟨0, none⟩, ⟨0, none⟩, ⟨0, none⟩, ⟨0, none⟩, ⟨0, none⟩, ⟨0, none⟩, ⟨0, none⟩, ⟨0, none⟩, ⟨0, none⟩, ⟨0, none⟩, ⟨0, none⟩, ⟨0, none⟩, ⟨0, none⟩, ⟨0, none⟩, ⟨0, none⟩, ⟨0, none⟩, ⟨0, none⟩, ⟨0, none⟩, ⟨0, none⟩, ⟨0, none⟩, ⟨0, none⟩, ⟨0, none⟩, ⟨0, none⟩, ⟨0, none⟩, ⟨0, none⟩, ⟨0, none⟩, ⟨0, none⟩, ⟨0, none⟩, ⟨0, none⟩, ⟨0, none⟩, ⟨0, none⟩, ⟨0, none⟩, ⟨0, none⟩, ⟨0, none⟩, ⟨0, none⟩, ⟨0, none⟩, ⟨0, none⟩, ⟨0, none⟩, ⟨0, none⟩, ⟨0, none⟩, ⟨0, none⟩, ⟨0, none⟩, ⟨0, none⟩, ⟨0, none⟩, ⟨0, none⟩, ⟨0, none⟩, ⟨0, none⟩, ⟨0, none⟩, ⟨0, none⟩, ⟨0, none⟩, ⟨0, none⟩, ⟨0, none⟩, ⟨0, none⟩, ⟨0, none⟩, ⟨0, none⟩, ⟨0, none⟩, ⟨0, none⟩, ⟨0, none⟩, ⟨0, none⟩, ⟨0, none⟩, ⟨0, none⟩, ⟨0, none⟩, ⟨0, none⟩, ⟨0, none⟩, ⟨0, none⟩, ⟨0, none⟩, ⟨0, none⟩, ⟨0, none⟩, ⟨0, none⟩, ⟨0, none⟩, ⟨0, none⟩, ⟨0, none⟩, ⟨0, none⟩], List.replicate 110 0⟩
theorem f119_l2_eq (run : Run) (n : Nat) (k0 : Nat) (k2 : Nat) (x7_2 : Int) (x10_1 : Int) (x11_1 : Int) (x12_1 : Int) (o2_2 : List AV) (o4_2 : List AV) (o5_2 : List AV) (o6_2 : List AV) : f119_l2 run n k0 (k2 + 1) x7_2 x10_1 x11_1 x12_1 o2_2 o4_2 o5_2 o6_2 =
  bif ltI 0 x12_1 then
    bif inR (IntKind.wrap .i64 (x12_1 - 1)) 8 then
    bif inR x12_1 8 then
    f119_l2 run n k0 k2 x7_2 x10_1 x11_1 (IntKind.wrap .i64 (x12_1 - 1)) (o2_2.set (Int.toNat x12_1) (.int ((AV.fld (.agg o2_2) (Int.toNat (IntKind.wrap .i64 (x12_1 - 1)))).toInt))) o4_2 o5_2 o6_2
  else none
  else none
  else
    f119_l0 run n k0 (IntKind.wrap .i64 (x7_2 + 1)) ((o2_2.set 4 (.int (IntKind.wrap .u32 ((AV.fld (.agg o2_2) 4).toInt + x10_1)))).set 0 (.int (IntKind.wrap .u32 (x10_1 + x11_1)))) o4_2 o5_2 o6_2 := by kernel_rfl
theorem f119_l4_eq (run : Run) (n : Nat) (k0 : Nat) (k4 : Nat) (x13_1 : Int) (o2_5 : List AV) (o4_5 : List AV) (o6_5 : List AV) : f119_l4 run n k0 (k4 + 1) x13_1 o2_5 o4_5 o6_5 =
  bif ltI x13_1 8 then
    bif inR x13_1 8 then
    bif inR x13_1 8 then
    bif inR x13_1 8 then
    f119_l4 run n k0 k4 (IntKind.wrap .i64 (x13_1 + 1)) (o2_5.set (Int.toNat x13_1) (.int (IntKind.wrap .u32 ((AV.fld (.agg o2_5) (Int.toNat x13_1)).toInt + (AV.fld (.agg o6_5) (Int.toNat x13_1)).toInt)))) o4_5 o6_5
  else none
  else none
  else none
  else
    some ⟨[.agg o2_5], [], f119_fresh⟩ := by kernel_rfl
theorem f119_l0_eq (run : Run) (n : Nat) (k0 : Nat) (x7_1 : Int) (o2_1 : List AV) (o4_1 : List AV) (o5_1 : List AV) (o6_1 : List AV) : f119_l0 run n (k0 + 1) x7_1 o2_1 o4_1 o5_1 o6_1 =
  bif ltI x7_1 64 then
    (run 144 [.int ((AV.fld (.agg o2_1) 4).toInt), .int 6]).bind fun r2 =>
    nilV r2.outs (consV r2.vals fun v2 vs2 =>
    nilV vs2 ((run 144 [.int ((AV.fld (.agg o2_1) 4).toInt), .int 11]).bind fun r3 =>
    nilV r3.outs (consV r3.vals fun v3 vs3 =>
    nilV vs3 ((run 144 [.int ((AV.fld (.agg o2_1) 4).toInt), .int 25]).bind fun r4 =>
    nilV r4.outs (consV r4.vals fun v4 vs4 =>
    nilV vs4 ((run 145 [.int x7_1]).bind fun r5 =>
    nilV r5.outs (consV r5.vals fun v5 vs5 =>
    nilV vs5 (bif inR x7_1 64 then
    (run 144 [.int ((AV.fld (.agg o2_1) 0).toInt), .int 2]).bind fun r6 =>
    nilV r6.outs (consV r6.vals fun v6 vs6 =>
    nilV vs6 ((run 144 [.int ((AV.fld (.agg o2_1) 0).toInt), .int 13]).bind fun r7 =>
    nilV r7.outs (consV r7.vals fun v7 vs7 =>
    nilV vs7 ((run 144 [.int ((AV.fld (.agg o2_1) 0).toInt), .int 22]).bind fun r8 =>
    nilV r8.outs (consV r8.vals fun v8 vs8 =>
    nilV vs8 (f119_l2 run n k0 n x7_1 (IntKind.wrap .u32 (IntKind.wrap .u32 (IntKind.wrap .u32 (IntKind.wrap .u32 ((AV.fld (.agg o2_1) 7).toInt + IntKind.wrap .u32 (BitVec.toNat (BitVec.ofInt 32 (IntKind.wrap .u32 (BitVec.toNat (BitVec.ofInt 32 v2.toInt ^^^ BitVec.ofInt 32 v3.toInt))) ^^^ BitVec.ofInt 32 v4.toInt))) + IntKind.wrap .u32 (BitVec.toNat (BitVec.ofInt 32 (IntKind.wrap .u32 (BitVec.toNat (BitVec.ofInt 32 ((AV.fld (.agg o2_1) 4).toInt) &&& BitVec.ofInt 32 ((AV.fld (.agg o2_1) 5).toInt)))) ^^^ BitVec.ofInt 32 (IntKind.wrap .u32 (BitVec.toNat (BitVec.ofInt 32 (IntKind.wrap .u32 (4294967295 - (AV.fld (.agg o2_1) 4).toInt)) &&& BitVec.ofInt 32 ((AV.fld (.agg o2_1) 6).toInt))))))) + v5.toInt) + (AV.fld (.agg o5_1) (Int.toNat x7_1)).toInt)) (IntKind.wrap .u32 (IntKind.wrap .u32 (BitVec.toNat (BitVec.ofInt 32 (IntKind.wrap .u32 (BitVec.toNat (BitVec.ofInt 32 v6.toInt ^^^ BitVec.ofInt 32 v7.toInt))) ^^^ BitVec.ofInt 32 v8.toInt)) + IntKind.wrap .u32 (BitVec.toNat (BitVec.ofInt 32 (IntKind.wrap .u32 (BitVec.toNat (BitVec.ofInt 32 (IntKind.wrap .u32 (BitVec.toNat (BitVec.ofInt 32 ((AV.fld (.agg o2_1) 0).toInt) &&& BitVec.ofInt 32 ((AV.fld (.agg o2_1) 1).toInt)))) ^^^ BitVec.ofInt 32 (IntKind.wrap .u32 (BitVec.toNat (BitVec.ofInt 32 ((AV.fld (.agg o2_1) 0).toInt) &&& BitVec.ofInt 32 ((AV.fld (.agg o2_1) 2).toInt))))))) ^^^ BitVec.ofInt 32 (IntKind.wrap .u32 (BitVec.toNat (BitVec.ofInt 32 ((AV.fld (.agg o2_1) 1).toInt) &&& BitVec.ofInt 32 ((AV.fld (.agg o2_1) 2).toInt)))))))) 7 o2_1 o4_1 o5_1 o6_1))))))
  else none))))))))
  else
    f119_l4 run n k0 n 0 o2_1 o4_1 o6_1 := by kernel_rfl
noncomputable def f119 (run : Run) (n : Nat) (a0_1 : List AV) (a1_1 : List UInt8) : Option Res := evalK G run n f119_info.keep 0 f119_info.body (retE G f119_info) (f119_info.start [.agg a0_1, .str a1_1])
theorem f119_eq (run : Run) (n : Nat) (a0_1 : List AV) (a1_1 : List UInt8) : f119 run n a0_1 a1_1 =
  (run 143 [.str a1_1]).bind fun r1 =>
    nilV r1.outs (consV r1.vals fun v1 vs1 =>
    nilV vs1 (f119_l0 run n n 0 a0_1 (List.replicate 8 (.int 0)) v1.toAgg a0_1)) := by kernel_rfl
theorem f119_run (ext : Run) (n : Nat) (a0_1 : List AV) (a1_1 : List UInt8) : runE G ext (n + 1) 119 [.agg a0_1, .str a1_1] = f119 (runE G ext n) n a0_1 a1_1 := runE_succ f119_at f119_in

noncomputable def f79_l4 (run : Run) (n : Nat) (_k0 : Nat) (k2 : Nat) (k4 : Nat) (x6_2 : Int) (x7_1 : List UInt8) (x8_1 : Int) (o2_4 : List UInt8) (o3_4 : List AV) (o5_2 : List UInt8) : Option Res :=
  iterK (evalK G run n f79_keep 4 (sub [1, 1, 1, 1, 1, 0, 1, 0, 0, 1, 0, 0, 1, 1, 0, 0] f79_body)) f79_t4 f79_o4 (blockK 4 (blockK 3 (seqK (evalK G run n f79_keep 2 (sub [1, 1, 1, 1, 1, 0, 1, 0, 0, 1, 1] f79_body) (seqK (fun t => iterK (evalK G run n f79_keep 2 (sub [1, 1, 1, 1, 1, 0, 1, 0, 0] f79_body)) f79_t2 f79_o2 (blockK 2 (seqK (evalK G run n f79_keep 0 (sub [1, 1, 1, 1, 1, 1] f79_body) (retE G f79_info)) (retE G f79_info))) k2 (t.clear f79_t2 f79_o2)) (blockK 2 (seqK (evalK G run n f79_keep 0 (sub [1, 1, 1, 1, 1, 1] f79_body) (retE G f79_info)) (retE G f79_info))))) (seqK (fun t => iterK (evalK G run n f79_keep 2 (sub [1, 1, 1, 1, 1, 0, 1, 0, 0] f79_body)) f79_t2 f79_o2 (blockK 2 (seqK (evalK G run n f79_keep 0 (sub [1, 1, 1, 1, 1, 1] f79_body) (retE G f79_info)) (retE G f79_info))) k2 (t.clear f79_t2 f79_o2)) (blockK 2 (seqK (evalK G run n f79_keep 0 (sub [1, 1, 1, 1, 1, 1] f79_body) (retE G f79_info)) (retE G f79_info))))))) k4
    ⟨[.any, .any, .ptr ⟨(.blob 32), 2, 1, []⟩, .ptr ⟨(.arr 8 (.int .u32)), 3, 1, []⟩, .any, .ptr ⟨(.blob 32), 5, 1, []⟩, .val (.int .i64) none (.int x6_2), .val .str none (.str x7_1), .val (.int .i64) none (.int x8_1), .any, .any, .any, .any, .any, .any, .any, .any, .any, .any, .any, .any, .any, .any, .any, .any, .any, .any, .any, .any, .any, .any, .any, .any, .any, .any, .any, .any, .any, .any, .any, .any, .any, .any, .any, .any, .any, .any, .any, .any, .any, .any], [⟨0, none⟩, ⟨0, none⟩, ⟨1, some ⟨(.blob 32), .blob o2_4⟩⟩, ⟨1, some ⟨(.arr 8 (.int .u32)), .agg o3_4⟩⟩, ⟨0, none⟩, ⟨1, some ⟨(.blob 32), .blob o5_2⟩⟩, ⟨0, none⟩, ⟨0, none⟩, ⟨0, none⟩, ⟨0, none⟩, ⟨0, none⟩, ⟨0, none⟩, ⟨0, none⟩, ⟨0, none⟩, ⟨0, none⟩, ⟨0, none⟩, ⟨0, none⟩, ⟨0, none⟩, ⟨0, none⟩, ⟨0, none⟩, ⟨0, none⟩, ⟨0, none⟩, ⟨0, none⟩, ⟨0, none⟩, ⟨0, none⟩, ⟨0, none⟩, ⟨0, none⟩, ⟨0, none⟩, ⟨0, none⟩, ⟨0, none⟩, ⟨0, none⟩, ⟨0, none⟩, ⟨0, none⟩, ⟨0, none⟩, ⟨0, none⟩, ⟨0, none⟩, ⟨0, none⟩, ⟨0, none⟩, ⟨0, none⟩, ⟨0, none⟩, ⟨0, none⟩, ⟨0, none⟩, ⟨0, none⟩, ⟨0, none⟩, ⟨0, none⟩, ⟨0, none⟩, ⟨0, none⟩, ⟨0, none⟩, ⟨0, none⟩, ⟨0, none⟩, ⟨0, none⟩], List.replicate 51 0⟩
noncomputable def f79_l2 (run : Run) (n : Nat) (_k0 : Nat) (k2 : Nat) (x6_1 : Int) (o2_3 : List UInt8) (o3_3 : List AV) (o5_1 : List UInt8) : Option Res :=
  iterK (evalK G run n f79_keep 2 (sub [1, 1, 1, 1, 1, 0, 1, 0, 0] f79_body)) f79_t2 f79_o2 (blockK 2 (seqK (evalK G run n f79_keep 0 (sub [1, 1, 1, 1, 1, 1] f79_body) (retE G f79_info)) (retE G f79_info))) k2
    ⟨[.any, .any, .ptr ⟨(.blob 32), 2, 1, []⟩, .ptr ⟨(.arr 8 (.int .u32)), 3, 1, []⟩, .any, .ptr ⟨(.blob 32), 5, 1, []⟩, .val (.int .i64) none (.int x6_1), .any, .any, .any, .any, .any, .any, .any, .any, .any, .any, .any, .any, .any, .any, .any, .any, .any, .any, .any, .any, .any, .any, .any, .any, .any, .any, .any, .any, .any, .any, .any, .any, .any, .any, .any, .any, .any, .any, .any, .any, .any, .any, .any, .any], [⟨0, none⟩, ⟨0, none⟩, ⟨1, some ⟨(.blob 32), .blob o2_3⟩⟩, ⟨1, some ⟨(.arr 8 (.int .u32)), .agg o3_3⟩⟩, ⟨0, none⟩, ⟨1, some ⟨(.blob 32), .blob o5_1⟩⟩, ⟨0, none⟩, ⟨0, none⟩, ⟨0, none⟩, ⟨0, none⟩, ⟨0, none⟩, ⟨0, none⟩, ⟨0, none⟩, ⟨0, none⟩, ⟨0, none⟩, ⟨0, none⟩, ⟨0, none⟩, ⟨0, none⟩, ⟨0, none⟩, ⟨0, none⟩, ⟨0, none⟩, ⟨0, none⟩, ⟨0, none⟩, ⟨0, none⟩, ⟨0, none⟩, ⟨0, none⟩, ⟨0, none⟩, ⟨0, none⟩, ⟨0, none⟩, ⟨0, none⟩, ⟨0, none⟩, ⟨0, none⟩, ⟨0, none⟩, ⟨0, none⟩, ⟨0, none⟩, ⟨0, none⟩, ⟨0, none⟩, ⟨0, none⟩, ⟨0, none⟩, ⟨0, none⟩, ⟨0, none⟩, ⟨0, none⟩, ⟨0, none⟩, ⟨0, none⟩, ⟨0, none⟩, ⟨0, none⟩, ⟨0, none⟩, ⟨0, none⟩, ⟨0, none⟩, ⟨0, none⟩, ⟨0, none⟩], List.replicate 51 0⟩
noncomputable def f79_l0 (run : Run) (n : Nat) (k0 : Nat) (x0_1 : List UInt8) (x4_1 : Int) (o2_1 : List UInt8) (o3_1 : List AV) : Option Res :=
  iterK (evalK G run n f79_keep 0 (sub [1, 1, 1, 0, 1, 0, 0] f79_body)) f79_t0 f79_o0 (blockK 0 (seqK (evalK G run n f79_keep 0 (sub [1, 1, 1, 1] f79_body) (retE G f79_info)) (retE G f79_info))) k0
    ⟨[.val .str none (.str x0_1), .any, .ptr ⟨(.blob 32), 2, 1, []⟩, .ptr ⟨(.arr 8 (.int .u32)), 3, 1, []⟩, .val (.int .i64) none (.int x4_1), .any, .any, .any, .any, .any, .any, .any, .any, .any, .any, .any, .any, .any, .any, .any, .any, .any, .any, .any, .any, .any, .any, .any, .any, .any, .any, .any, .any, .any, .any, .any, .any, .any, .any, .any, .any, .any, .any, .any, .any, .any, .any, .any, .any, .any, .any], [⟨0, none⟩, ⟨0, none⟩, ⟨1, some ⟨(.blob 32), .blob o2_1⟩⟩, ⟨1, some ⟨(.arr 8 (.int .u32)), .agg o3_1⟩⟩, ⟨0, none⟩, ⟨0, none⟩, ⟨0, none⟩, ⟨0, none⟩, ⟨0, none⟩, ⟨0, none⟩, ⟨0, none⟩, ⟨0, none⟩, ⟨0, none⟩, ⟨0, none⟩, ⟨0, none⟩, ⟨0, none⟩, ⟨0, none⟩, ⟨0, none⟩, ⟨0, none⟩, ⟨0, none⟩, ⟨0, none⟩, ⟨0, none⟩, ⟨0, none⟩, ⟨0, none⟩, ⟨0, none⟩, ⟨0, none⟩, ⟨0, none⟩, ⟨0, none⟩, ⟨0, none⟩, ⟨0, none⟩, ⟨0, none⟩, ⟨0, none⟩, ⟨0, none⟩, ⟨0, none⟩, ⟨0, none⟩, ⟨0, none⟩, ⟨0, none⟩, ⟨0, none⟩, ⟨0, none⟩, ⟨0, none⟩, ⟨0, none⟩, ⟨0, none⟩, ⟨0, none⟩, ⟨0, none⟩, ⟨0, none⟩, ⟨0, none⟩, ⟨0, none⟩, ⟨0, none⟩, ⟨0, none⟩, ⟨0, none⟩, ⟨0, none⟩], List.replicate 51 0⟩
theorem f79_l4_eq (run : Run) (n : Nat) (k0 : Nat) (k2 : Nat) (k4 : Nat) (x6_2 : Int) (x7_1 : List UInt8) (x8_1 : Int) (o2_4 : List UInt8) (o3_4 : List AV) (o5_2 : List UInt8) : f79_l4 run n k0 k2 (k4 + 1) x6_2 x7_1 x8_1 o2_4 o3_4 o5_2 =
  bif ltI x8_1 4 then
    bif inR x8_1 x7_1.length then
    bif inR (IntKind.wrap .i64 (IntKind.wrap .i64 (4 * x6_2) + x8_1)) 32 then
    f79_l4 run n k0 k2 k4 x6_2 x7_1 (IntKind.wrap .i64 (x8_1 + 1)) o2_4 o3_4 (o5_2.set (Int.toNat (IntKind.wrap .i64 (IntKind.wrap .i64 (4 * x6_2) + x8_1))) (UInt8.ofNat (Int.toNat ((x7_1.getD (Int.toNat x8_1) 0).toNat : Int))))
  else none
  else none
  else
    f79_l2 run n k0 k2 (IntKind.wrap .i64 (x6_2 + 1)) o2_4 o3_4 o5_2 := by kernel_rfl
theorem f79_l2_eq (run : Run) (n : Nat) (k0 : Nat) (k2 : Nat) (x6_1 : Int) (o2_3 : List UInt8) (o3_3 : List AV) (o5_1 : List UInt8) : f79_l2 run n k0 (k2 + 1) x6_1 o2_3 o3_3 o5_1 =
  bif ltI x6_1 8 then
    bif inR x6_1 8 then
    (run 120 [.int (IntKind.wrap .u64 ((AV.fld (.agg o3_3) (Int.toNat x6_1)).toInt)), .int 4]).bind fun r4 =>
    nilV r4.outs (consV r4.vals fun v4 vs4 =>
    nilV vs4 (f79_l4 run n k0 k2 n x6_1 v4.toStr 0 o2_3 o3_3 o5_1))
  else none
  else
    some ⟨[.blob o5_1], [], f79_fresh⟩ := by kernel_rfl
theorem f79_l0_eq (run : Run) (n : Nat) (k0 : Nat) (x0_1 : List UInt8) (x4_1 : Int) (o2_1 : List UInt8) (o3_1 : List AV) : f79_l0 run n (k0 + 1) x0_1 x4_1 o2_1 o3_1 =
  bif ltI x4_1 (x0_1.length : Int) then
    bif boundsOk x4_1 (IntKind.wrap .i64 (x4_1 + 64)) (x0_1.length : Int) (x0_1.length : Int) then
    (run 119 [.agg o3_1, .str (List.drop (Int.toNat x4_1) (List.take (Int.toNat (IntKind.wrap .i64 (x4_1 + 64))) x0_1))]).bind fun r3 =>
    nilV r3.outs (consV r3.vals fun v3 vs3 =>
    nilV vs3 (f79_l0 run n k0 x0_1 (IntKind.wrap .i64 (x4_1 + 64)) o2_1 v3.toAgg))
  else none
  else
    f79_l2 run n k0 n 0 o2_1 o3_1 (List.replicate 32 0) := by kernel_rfl
noncomputable def f79 (run : Run) (n : Nat) (a0_1 : List UInt8) : Option Res := evalK G run n f79_info.keep 0 f79_info.body (retE G f79_info) (f79_info.start [.str a0_1])
theorem f79_eq (run : Run) (n : Nat) (a0_1 : List UInt8) : f79 run n a0_1 =
  (run 117 []).bind fun r1 =>
    nilV r1.outs (consV r1.vals fun v1 vs1 =>
    nilV vs1 ((run 118 [.int (IntKind.wrap .u64 (a0_1.length : Int))]).bind fun r2 =>
    nilV r2.outs (consV r2.vals fun v2 vs2 =>
    nilV vs2 (bif Nat.ble (a0_1.length + v2.toStr.length) maxLen then
    f79_l0 run n n (a0_1 ++ v2.toStr) 0 (List.replicate 32 0) v1.toAgg
  else none)))) := by kernel_rfl
theorem f79_run (ext : Run) (n : Nat) (a0_1 : List UInt8) : runE G ext (n + 1) 79 [.str a0_1] = f79 (runE G ext n) n a0_1 := runE_succ f79_at f79_in

noncomputable def f45 (run : Run) (n : Nat) (a0_1 : Int) (a0_2 : List UInt8) (a0_3 : List UInt8) (a0_4 : Int) : Option Res := evalK G run n f45_info.keep 0 f45_info.body (retE G f45_info) (f45_info.start [.agg [.int a0_1, .blob a0_2, .blob a0_3, .int a0_4]])
theorem f45_eq (run : Run) (n : Nat) (a0_1 : Int) (a0_2 : List UInt8) (a0_3 : List UInt8) (a0_4 : Int) : f45 run n a0_1 a0_2 a0_3 a0_4 =
  (run 81 [.agg [.int a0_1, .blob a0_2, .blob a0_3, .int a0_4]]).bind fun r1 =>
    nilV r1.outs (consV r1.vals fun v1 vs1 =>
    nilV vs1 ((run 80 [.str v1.toStr]).bind fun r2 =>
    nilV r2.outs (consV r2.vals fun v2 vs2 =>
    nilV vs2 ((run 79 [.str v2.toStr]).bind fun r3 =>
    nilV r3.outs (consV r3.vals fun v3 vs3 =>
    nilV vs3 (some ⟨[.blob v3.toBlob], [], f45_fresh⟩)))))) := by kernel_rfl
theorem f45_run (ext : Run) (n : Nat) (a0_1 : Int) (a0_2 : List UInt8) (a0_3 : List UInt8) (a0_4 : Int) : runE G ext (n + 1) 45 [.agg [.int a0_1, .blob a0_2, .blob a0_3, .int a0_4]] = f45 (runE G ext n) n a0_1 a0_2 a0_3 a0_4 := runE_succ f45_at f45_in

noncomputable def f12_l0 (run : Run) (n : Nat) (k0 : Nat) (x0_1 : List AV) (x3_1 : List AV) (x4_1 : Int) : Option Res :=
  iterK (evalK G run n f12_keep 0 (sub [1, 1, 0, 1, 0, 0] f12_body)) f12_t0 f12_o0 (blockK 0 (seqK (evalK G run n f12_keep 0 (sub [1, 1, 1] f12_body) (retE G f12_info)) (retE G f12_info))) k0
    ⟨[.val (.slice (.struct [(.struct [(.int .u32), (.blob 32), (.blob 32), (.int .u64)]), (.slice .str)])) none (.slice x0_1), .any, .any, .val (.slice (.blob 32)) (some (3, 0)) (.slice x3_1), .val (.int .i64) none (.int x4_1), .any, .any, .any, .any, .any, .any, .any, .any, .any, .any, .any, .any, .any, .any, .any, .any], [⟨0, none⟩, ⟨0, none⟩, ⟨0, none⟩, ⟨0, none⟩, ⟨0, none⟩, ⟨0, none⟩, ⟨0, none⟩, ⟨0, none⟩, ⟨0, none⟩, ⟨0, none⟩, ⟨0, none⟩, ⟨0, none⟩, ⟨0, none⟩, ⟨0, none⟩, ⟨0, none⟩, ⟨0, none⟩, ⟨0, none⟩, ⟨0, none⟩, ⟨0, none⟩, ⟨0, none⟩, ⟨0, none⟩], List.replicate 21 0⟩
theorem f12_l0_eq (run : Run) (n : Nat) (k0 : Nat) (x0_1 : List AV) (x3_1 : List AV) (x4_1 : Int) : f12_l0 run n (k0 + 1) x0_1 x3_1 x4_1 =
  bif ltI x4_1 (x0_1.length : Int) then
    bif inR x4_1 x0_1.length then
    (run 45 [.agg [.int ((((nth x0_1 (Int.toNat x4_1)).fld 0).fld 0).toInt), .blob ((((nth x0_1 (Int.toNat x4_1)).fld 0).fld 1).toBlob), .blob ((((nth x0_1 (Int.toNat x4_1)).fld 0).fld 2).toBlob), .int ((((nth x0_1 (Int.toNat x4_1)).fld 0).fld 3).toInt)]]).bind fun r1 =>
    nilV r1.outs (consV r1.vals fun v1 vs1 =>
    nilV vs1 (bif Nat.ble ((x3_1.length + 1) * 32) 140737488355328 then
    f12_l0 run n k0 x0_1 (x3_1 ++ [.blob v1.toBlob]) (IntKind.wrap .i64 (x4_1 + 1))
  else none))
  else none
  else
    some ⟨[.slice x3_1], [], f12_fresh⟩ := by kernel_rfl
noncomputable def f12 (run : Run) (n : Nat) (a0_1 : List AV) : Option Res := evalK G run n f12_info.keep 0 f12_info.body (retE G f12_info) (f12_info.start [.slice a0_1])
theorem f12_eq (run : Run) (n : Nat) (a0_1 : List AV) : f12 run n a0_1 =
  f12_l0 run n n a0_1 [] 0 := by kernel_rfl
theorem f12_run (ext : Run) (n : Nat) (a0_1 : List AV) : runE G ext (n + 1) 12 [.slice a0_1] = f12 (runE G ext n) n a0_1 := runE_succ f12_at f12_in

noncomputable def f82_l2 (run : Run) (n : Nat) (k0 : Nat) (k2 : Nat) (x3_2 : List AV) (x4_2 : Int) (x5_1 : Int) (x6_1 : Int) (o1_2 : List UInt8) : Option Res :=
  iterK (evalK G run n f82_keep 2 (sub [1, 1, 0, 1, 0, 0, 1, 0, 0, 1, 1, 0, 0] f82_body)) f82_t2 f82_o2 (blockK 2 (blockK 1 (seqK (evalK G run n f82_keep 0 (sub [1, 1, 0, 1, 0, 0, 1, 1] f82_body) (seqK (fun t => iterK (evalK G run n f82_keep 0 (sub [1, 1, 0, 1, 0, 0] f82_body)) f82_t0 f82_o0 (blockK 0 (seqK (evalK G run n f82_keep 0 (sub [1, 1, 1] f82_body) (retE G f82_info)) (retE G f82_info))) k0 (t.clear f82_t0 f82_o0)) (blockK 0 (seqK (evalK G run n f82_keep 0 (sub [1, 1, 1] f82_body) (retE G f82_info)) (retE G f82_info))))) (seqK (fun t => iterK (evalK G run n f82_keep 0 (sub [1, 1, 0, 1, 0, 0] f82_body)) f82_t0 f82_o0 (blockK 0 (seqK (evalK G run n f82_keep 0 (sub [1, 1, 1] f82_body) (retE G f82_info)) (retE G f82_info))) k0 (t.clear f82_t0 f82_o0)) (blockK 0 (seqK (evalK G run n f82_keep 0 (sub [1, 1, 1] f82_body) (retE G f82_info)) (retE G f82_info))))))) k2
    ⟨[.any, .ptr ⟨(.blob 32), 1, 1, []⟩, .any, .val (.slice .bool) (some (3, 0)) (.slice x3_2), .val (.int .i64) none (.int x4_2), .val (.int .i64) none (.int x5_1), .val (.int .i64) none (.int x6_1), .any, .any, .any, .any, .any, .any, .any, .any, .any, .any, .any, .any, .any, .any, .any, .any, .any, .any, .any, .any, .any], [⟨0, none⟩, ⟨1, some ⟨(.blob 32), .blob o1_2⟩⟩, ⟨0, none⟩, ⟨0, none⟩, ⟨0, none⟩, ⟨0, none⟩, ⟨0, none⟩, ⟨0, none⟩, ⟨0, none⟩, ⟨0, none⟩, ⟨0, none⟩, ⟨0, none⟩, ⟨0, none⟩, ⟨0, none⟩, ⟨0, none⟩, ⟨0, none⟩, ⟨0, none⟩, ⟨0, none⟩, ⟨0, none⟩, ⟨0, none⟩, ⟨0, none⟩, ⟨0, none⟩, ⟨0, none⟩, ⟨0, none⟩, ⟨0, none⟩, ⟨0, none⟩, ⟨0, none⟩, ⟨0, none⟩], List.replicate 28 0⟩
noncomputable def f82_l0 (run : Run) (n : Nat) (k0 : Nat) (x3_1 : List AV) (x4_1 : Int) (o1_1 : List UInt8) : Option Res :=
  iterK (evalK G run n f82_keep 0 (sub [1, 1, 0, 1, 0, 0] f82_body)) f82_t0 f82_o0 (blockK 0 (seqK (evalK G run n f82_keep 0 (sub [1, 1, 1] f82_body) (retE G f82_info)) (retE G f82_info))) k0
    ⟨[.any, .ptr ⟨(.blob 32), 1, 1, []⟩, .any, .val (.slice .bool) (some (3, 0)) (.slice x3_1), .val (.int .i64) none (.int x4_1), .any, .any, .any, .any, .any, .any, .any, .any, .any, .any, .any, .any, .any, .any, .any, .any, .any, .any, .any, .any, .any, .any, .any], [⟨0, none⟩, ⟨1, some ⟨(.blob 32), .blob o1_1⟩⟩, ⟨0, none⟩, ⟨0, none⟩, ⟨0, none⟩, ⟨0, none⟩, ⟨0, none⟩, ⟨0, none⟩, ⟨0, none⟩, ⟨0, none⟩, ⟨0, none⟩, ⟨0, none⟩, ⟨0, none⟩, ⟨0, none⟩, ⟨0, none⟩, ⟨0, none⟩, ⟨0, none⟩, ⟨0, none⟩, ⟨0, none⟩, ⟨0, none⟩, ⟨0, none⟩, ⟨0, none⟩, ⟨0, none⟩, ⟨0, none⟩, ⟨0, none⟩, ⟨0, none⟩, ⟨0, none⟩, ⟨0, none⟩], List.replicate 28 0⟩
theorem f82_l2_eq (run : Run) (n : Nat) (k0 : Nat) (k2 : Nat) (x3_2 : List AV) (x4_2 : Int) (x5_1 : Int) (x6_1 : Int) (o1_2 : List UInt8) : f82_l2 run n k0 (k2 + 1) x3_2 x4_2 x5_1 x6_1 o1_2 =
  bif ltI x6_1 8 then
    bif Nat.ble ((x3_2.length + 1) * 1) 140737488355328 then
    f82_l2 run n k0 k2 (x3_2 ++ [.bool (eqI (Int.tmod x5_1 2) 1)]) x4_2 (IntKind.wrap .i64 (Int.tdiv x5_1 2)) (IntKind.wrap .i64 (x6_1 + 1)) o1_2
  else none
  else
    f82_l0 run n k0 x3_2 (IntKind.wrap .i64 (x4_2 - 1)) o1_2 := by kernel_rfl
theorem f82_l0_eq (run : Run) (n : Nat) (k0 : Nat) (x3_1 : List AV) (x4_1 : Int) (o1_1 : List UInt8) : f82_l0 run n (k0 + 1) x3_1 x4_1 o1_1 =
  bif leI 0 x4_1 then
    bif inR x4_1 32 then
    f82_l2 run n k0 n x3_1 x4_1 (IntKind.wrap .i64 (((o1_1).getD (Int.toNat x4_1) 0).toNat : Int)) 0 o1_1
  else none
  else
    some ⟨[.slice x3_1], [], f82_fresh⟩ := by kernel_rfl
noncomputable def f82 (run : Run) (n : Nat) (a0_1 : List UInt8) : Option Res := evalK G run n f82_info.keep 0 f82_info.body (retE G f82_info) (f82_info.start [.blob a0_1])
theorem f82_eq (run : Run) (n : Nat) (a0_1 : List UInt8) : f82 run n a0_1 =
  f82_l0 run n n [] 31 a0_1 := by kernel_rfl
theorem f82_run (ext : Run) (n : Nat) (a0_1 : List UInt8) : runE G ext (n + 1) 82 [.blob a0_1] = f82 (runE G ext n) n a0_1 := runE_succ f82_at f82_in

noncomputable def f84_l0 (run : Run) (n : Nat) (k0 : Nat) (x0_1 : List AV) (x1_1 : Int) (m1 : Nat) (x6_1 : Int) (o9_1 : List AV) : Option Res :=
  iterK (evalK G run n f84_keep 0 (sub [1, 1, 0, 1, 0, 0] f84_body)) f84_t0 f84_o0 (blockK 0 (seqK (evalK G run n f84_keep 0 (sub [1, 1, 1] f84_body) (retE G f84_info)) (retE G f84_info))) k0
    ⟨[.val (.slice .bool) none (.slice x0_1), .val (.int .i64) none (.int x1_1), .any, .any, .any, .ref ⟨(.arr m1 .bool), 9, 1, []⟩ 0 m1, .val (.int .i64) none (.int x6_1), .any, .any, .any, .any, .any, .any, .any, .any, .any, .any, .any, .any, .any, .any, .any, .any, .any, .any, .any, .any, .any, .any, .any, .any, .any, .any, .any, .any, .any, .any, .any, .any, .any, .any], [⟨0, none⟩, ⟨0, none⟩, ⟨0, none⟩, ⟨0, none⟩, ⟨0, none⟩, ⟨0, none⟩, ⟨0, none⟩, ⟨0, none⟩, ⟨0, none⟩, ⟨1, some ⟨(.arr m1 .bool), .agg o9_1⟩⟩, ⟨0, none⟩, ⟨0, none⟩, ⟨0, none⟩, ⟨0, none⟩, ⟨0, none⟩, ⟨0, none⟩, ⟨0, none⟩, ⟨0, none⟩, ⟨0, none⟩, ⟨0, none⟩, ⟨0, none⟩, ⟨0, none⟩, ⟨0, none⟩, ⟨0, none⟩, ⟨0, none⟩, ⟨0, none⟩, ⟨0, none⟩, ⟨0, none⟩, ⟨0, none⟩, ⟨0, none⟩, ⟨0, none⟩, ⟨0, none⟩, ⟨0, none⟩, ⟨0, none⟩, ⟨0, none⟩, ⟨0, none⟩, ⟨0, none⟩, ⟨0, none⟩, ⟨0, none⟩, ⟨0, none⟩, ⟨0, none⟩], List.replicate 41 0⟩
theorem f84_l0_eq (run : Run) (n : Nat) (k0 : Nat) (x0_1 : List AV) (x1_1 : Int) (m1 : Nat) (x6_1 : Int) (o9_1 : List AV) : f84_l0 run n (k0 + 1) x0_1 x1_1 m1 x6_1 o9_1 =
  bif ltI x6_1 (x0_1.length : Int) then
    bif leI x1_1 0 then
    bif inR x6_1 x0_1.length then
    bif inR x6_1 m1 then
    f84_l0 run n k0 x0_1 x1_1 m1 (IntKind.wrap .i64 (x6_1 + 1)) (o9_1.set (0 + (Int.toNat x6_1)) (.bool ((nth x0_1 (Int.toNat x6_1)).toBool)))
  else none
  else none
  else
    bif ltI x1_1 (IntKind.wrap .i64 ((x0_1.length : Int) - x6_1)) then
    bif inR (IntKind.wrap .i64 (x6_1 + x1_1)) x0_1.length then
    bif inR x6_1 m1 then
    f84_l0 run n k0 x0_1 x1_1 m1 (IntKind.wrap .i64 (x6_1 + 1)) (o9_1.set (0 + (Int.toNat x6_1)) (.bool ((nth x0_1 (Int.toNat (IntKind.wrap .i64 (x6_1 + x1_1)))).toBool)))
  else none
  else none
  else
    f84_l0 run n k0 x0_1 x1_1 m1 (IntKind.wrap .i64 (x6_1 + 1)) o9_1
  else
    some ⟨[.slice (List.drop 0 (List.take m1 o9_1))], [], f84_fresh⟩ := by kernel_rfl
noncomputable def f84 (run : Run) (n : Nat) (a0_1 : List AV) (a1_1 : Int) : Option Res := evalK G run n f84_info.keep 0 f84_info.body (retE G f84_info) (f84_info.start [.slice a0_1, .int a1_1])
theorem f84_eq (run : Run) (n : Nat) (a0_1 : List AV) (a1_1 : Int) : f84 run n a0_1 a1_1 =
  bif eqI (a0_1.length : Int) (a0_1.length : Int) && leI 0 (a0_1.length : Int) && Nat.ble (Int.toNat (a0_1.length : Int) * 1) 140737488355328 then
    f84_l0 run n n a0_1 a1_1 (Int.toNat (a0_1.length : Int)) 0 (List.replicate (Int.toNat (a0_1.length : Int)) (.bool false))
  else none := by kernel_rfl
theorem f84_run (ext : Run) (n : Nat) (a0_1 : List AV) (a1_1 : Int) : runE G ext (n + 1) 84 [.slice a0_1, .int a1_1] = f84 (runE G ext n) n a0_1 a1_1 := runE_succ f84_at f84_in

noncomputable def f83_l0 (run : Run) (n : Nat) (k0 : Nat) (x0_1 : List AV) (x1_1 : List AV) (x5_1 : Int) : Option Res :=
  iterK (evalK G run n f83_keep 0 (sub [1, 0, 1, 0, 0] f83_body)) f83_t0 f83_o0 (blockK 0 (seqK (evalK G run n f83_keep 0 (sub [1, 1] f83_body) (retE G f83_info)) (retE G f83_info))) k0
    ⟨[.val (.slice .bool) none (.slice x0_1), .val (.slice .bool) none (.slice x1_1), .any, .any, .any, .val (.int .i64) none (.int x5_1), .any, .any, .any, .any, .any, .any, .any, .any, .any, .any, .any, .any, .any, .any, .any, .any, .any, .any, .any, .any], [⟨0, none⟩, ⟨0, none⟩, ⟨0, none⟩, ⟨0, none⟩, ⟨0, none⟩, ⟨0, none⟩, ⟨0, none⟩, ⟨0, none⟩, ⟨0, none⟩, ⟨0, none⟩, ⟨0, none⟩, ⟨0, none⟩, ⟨0, none⟩, ⟨0, none⟩, ⟨0, none⟩, ⟨0, none⟩, ⟨0, none⟩, ⟨0, none⟩, ⟨0, none⟩, ⟨0, none⟩, ⟨0, none⟩, ⟨0, none⟩, ⟨0, none⟩, ⟨0, none⟩, ⟨0, none⟩, ⟨0, none⟩], List.replicate 26 0⟩
theorem f83_l0_eq (run : Run) (n : Nat) (k0 : Nat) (x0_1 : List AV) (x1_1 : List AV) (x5_1 : Int) : f83_l0 run n (k0 + 1) x0_1 x1_1 x5_1 =
  bif leI 0 x5_1 then
    bif inR x5_1 x0_1.length then
    bif inR x5_1 x1_1.length then
    bif !(eqO ((nth x0_1 (Int.toNat x5_1)).toBool) ((nth x1_1 (Int.toNat x5_1)).toBool)) then
    bif inR x5_1 x0_1.length then
    bif (nth x0_1 (Int.toNat x5_1)).toBool then
    some ⟨[.int 1], [], f83_fresh⟩
  else
    some ⟨[.int (-1)], [], f83_fresh⟩
  else none
  else
    f83_l0 run n k0 x0_1 x1_1 (IntKind.wrap .i64 (x5_1 - 1))
  else none
  else none
  else
    some ⟨[.int 0], [], f83_fresh⟩ := by kernel_rfl
noncomputable def f83 (run : Run) (n : Nat) (a0_1 : List AV) (a1_1 : List AV) : Option Res := evalK G run n f83_info.keep 0 f83_info.body (retE G f83_info) (f83_info.start [.slice a0_1, .slice a1_1])
theorem f83_eq (run : Run) (n : Nat) (a0_1 : List AV) (a1_1 : List AV) : f83 run n a0_1 a1_1 =
  f83_l0 run n n a0_1 a1_1 (IntKind.wrap .i64 ((a0_1.length : Int) - 1)) := by kernel_rfl
theorem f83_run (ext : Run) (n : Nat) (a0_1 : List AV) (a1_1 : List AV) : runE G ext (n + 1) 83 [.slice a0_1, .slice a1_1] = f83 (runE G ext n) n a0_1 a1_1 := runE_succ f83_at f83_in

end Go.Proofs.YtncajhkogppojaaGreat.Ev

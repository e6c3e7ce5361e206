/- The functions, and what the evaluator is told of them: printed by gen.py. -/
import Derived.Test.YtncajhkogppojaaEvT3
import Derived.Test.YtncajhkogppojaaProg
import Derived.KernelRfl
namespace Go.Proofs.Ytncajhkogppojaa.Ev
open Go Go.RowKit
set_option maxRecDepth 100000


noncomputable def bodyOf (f : Func) : Code := f.body.getD .skip

def sub : List Nat → Code → Code
  | [], c => c
  | i :: r, .seq x y => sub r (bif Nat.beq i 0 then x else y)
  | i :: r, .cond _ x y => sub r (bif Nat.beq i 0 then x else y)
  | _ :: r, .block _ c => sub r c
  | _ :: r, .loop c => sub r c
  | _, c => c

theorem runE_succ {G : Env} {ext : Run} {n : Nat} {f : FuncId} {i : FnInfo} {xs : List AV} (h : assoc G.fns f = some i) (hx : i.ext = false) : runE G ext (n + 1) f xs = evalK G (runE G ext n) n i.keep 0 i.body (retE G i) (i.start xs) := by
  simp only [runE, h, hx, cond_false]

/- strings.Join: by its contract -/
noncomputable def f149_body : Code := bodyOf Try.f149
noncomputable def f149_info : FnInfo := ⟨[.val (.slice .str), .val .str], [.val .str], 75, [.tmp 4], f149_body, [], false, true⟩

/- strings.Repeat: by its contract -/
noncomputable def f154_body : Code := bodyOf Try.f154
noncomputable def f154_info : FnInfo := ⟨[.val .str, .val (.int .i64)], [.val .str], 125, [.tmp 4], f154_body, [], false, true⟩

/- milepost/shape.Sides: by its contract -/
noncomputable def f127_body : Code := bodyOf Try.f127
noncomputable def f127_info : FnInfo := ⟨[.val (.int .i64), .val (.int .i64)], [.val (.slice .bool)], 22, [.tmp 4], f127_body, [], true, true⟩

/- milepost/milepostlaw12.Much -/
noncomputable def f8_body : Code := bodyOf Try.f8
def f8_fresh : Bool := false
def f8_t0 : List Nat := [0, 3, 4]
def f8_o0 : List Nat := []
def f8_keep : List (Nat × (List Nat × List Nat)) := [(0, (f8_t0, f8_o0))]
noncomputable def f8_info : FnInfo := ⟨[.val (.slice .str)], [.val .bool], 30, [.tmp 2], f8_body, f8_keep, f8_fresh, false⟩

/- milepost/multi.rising -/
noncomputable def f43_body : Code := bodyOf Try.f43
def f43_fresh : Bool := false
def f43_t0 : List Nat := [0, 1, 7, 8, 9]
def f43_o0 : List Nat := []
def f43_keep : List (Nat × (List Nat × List Nat)) := [(0, (f43_t0, f43_o0))]
noncomputable def f43_info : FnInfo := ⟨[.val (.int .i64), .val (.slice (.int .i64))], [.val .bool], 38, [.tmp 4], f43_body, f43_keep, f43_fresh, false⟩

/- milepost/shape.Left -/
noncomputable def f51_body : Code := bodyOf Try.f51
def f51_fresh : Bool := false
def f51_t0 : List Nat := [0, 3]
def f51_o0 : List Nat := []
def f51_keep : List (Nat × (List Nat × List Nat)) := [(0, (f51_t0, f51_o0))]
noncomputable def f51_info : FnInfo := ⟨[.val (.int .i64)], [.val (.int .i64)], 14, [.tmp 2], f51_body, f51_keep, f51_fresh, false⟩

/- milepost/multi.parted -/
noncomputable def f52_body : Code := bodyOf Try.f52
def f52_fresh : Bool := false
def f52_t0 : List Nat := [0, 1, 6]
def f52_o0 : List Nat := []
def f52_t2 : List Nat := [0, 1, 6, 7, 26, 27, 28]
def f52_o2 : List Nat := []
def f52_keep : List (Nat × (List Nat × List Nat)) := [(0, (f52_t0, f52_o0)), (2, (f52_t2, f52_o2))]
noncomputable def f52_info : FnInfo := ⟨[.val (.slice (.int .i64)), .val (.int .i64)], [.val (.slice (.int .i64)), .val (.slice (.int .i64))], 43, [.tmp 4, .tmp 5], f52_body, f52_keep, f52_fresh, false⟩

/- milepost/multi.need -/
noncomputable def f81_body : Code := bodyOf Try.f81
def f81_fresh : Bool := false
def f81_keep : List (Nat × (List Nat × List Nat)) := []
noncomputable def f81_info : FnInfo := ⟨[.val (.int .i64), .val (.slice (.int .i64))], [.val (.int .i64)], 32, [.tmp 4], f81_body, f81_keep, f81_fresh, false⟩

/- milepost/multi.Need -/
noncomputable def f42_body : Code := bodyOf Try.f42
def f42_fresh : Bool := false
def f42_keep : List (Nat × (List Nat × List Nat)) := []
noncomputable def f42_info : FnInfo := ⟨[.val (.int .i64), .val (.slice (.int .i64))], [.val (.int .i64)], 12, [.tmp 4], f42_body, f42_keep, f42_fresh, false⟩

/- milepost/milepostlaw16.awake -/
noncomputable def f9_body : Code := bodyOf Try.f9
def f9_fresh : Bool := false
def f9_keep : List (Nat × (List Nat × List Nat)) := []
noncomputable def f9_info : FnInfo := ⟨[], [.val .bool], 13, [.tmp 0], f9_body, f9_keep, f9_fresh, false⟩

/- milepost/tag.Text -/
noncomputable def f136_body : Code := bodyOf Try.f136
def f136_fresh : Bool := false
def f136_keep : List (Nat × (List Nat × List Nat)) := []
noncomputable def f136_info : FnInfo := ⟨[.val (.int .u8), .val (.slice .str)], [.val .str], 11, [.tmp 4], f136_body, f136_keep, f136_fresh, false⟩

/- milepost/tag.LeafText -/
noncomputable def f115_body : Code := bodyOf Try.f115
def f115_fresh : Bool := false
def f115_keep : List (Nat × (List Nat × List Nat)) := []
noncomputable def f115_info : FnInfo := ⟨[.val .str], [.val .str], 6, [.tmp 2], f115_body, f115_keep, f115_fresh, false⟩

/- milepost/sha.New -/
noncomputable def f133_body : Code := bodyOf Try.f133
def f133_fresh : Bool := false
def f133_keep : List (Nat × (List Nat × List Nat)) := []
noncomputable def f133_info : FnInfo := ⟨[], [.ptr (.struct [(.arr 8 (.int .u32)), .str, (.int .u64), .bool])], 3, [.tmp 0], f133_body, f133_keep, f133_fresh, false⟩

/- milepost/sha.First -/
noncomputable def f146_body : Code := bodyOf Try.f146
def f146_fresh : Bool := false
def f146_keep : List (Nat × (List Nat × List Nat)) := []
noncomputable def f146_info : FnInfo := ⟨[], [.val (.arr 8 (.int .u32))], 2, [.cell 0 185], f146_body, f146_keep, f146_fresh, false⟩

/- milepost/word.take -/
noncomputable def f132_body : Code := bodyOf Try.f132
def f132_fresh : Bool := false
def f132_t0 : List Nat := [0, 1, 7, 9, 10]
def f132_o0 : List Nat := []
def f132_keep : List (Nat × (List Nat × List Nat)) := [(0, (f132_t0, f132_o0))]
noncomputable def f132_info : FnInfo := ⟨[.val .str, .val (.int .i64), .val (.int .i64)], [.val (.int .u64)], 41, [.tmp 6], f132_body, f132_keep, f132_fresh, false⟩

/- milepost/word.Take32 -/
noncomputable def f158_body : Code := bodyOf Try.f158
def f158_fresh : Bool := false
def f158_keep : List (Nat × (List Nat × List Nat)) := []
noncomputable def f158_info : FnInfo := ⟨[.val .str, .val (.int .i64)], [.val (.int .u32)], 9, [.tmp 4], f158_body, f158_keep, f158_fresh, false⟩

/- milepost/word.Rot -/
noncomputable def f153_body : Code := bodyOf Try.f153
def f153_fresh : Bool := false
def f153_keep : List (Nat × (List Nat × List Nat)) := []
noncomputable def f153_info : FnInfo := ⟨[.val (.int .u32), .val (.int .i64)], [.val (.int .u32)], 17, [.tmp 4], f153_body, f153_keep, f153_fresh, false⟩

/- milepost/sha.Spread -/
noncomputable def f151_body : Code := bodyOf Try.f151
def f151_fresh : Bool := false
def f151_t0 : List Nat := [0, 2, 3, 9]
def f151_o0 : List Nat := [2, 3]
def f151_keep : List (Nat × (List Nat × List Nat)) := [(0, (f151_t0, f151_o0))]
noncomputable def f151_info : FnInfo := ⟨[.val .str], [.val (.arr 64 (.int .u32))], 61, [.cell 2 176], f151_body, f151_keep, f151_fresh, false⟩

/- milepost/sha.rounds -/
noncomputable def f152_body : Code := bodyOf Try.f152
def f152_fresh : Bool := false
def f152_keep : List (Nat × (List Nat × List Nat)) := []
noncomputable def f152_info : FnInfo := ⟨[], [.val (.arr 64 (.int .u32))], 2, [.cell 0 176], f152_body, f152_keep, f152_fresh, false⟩

/- milepost/sha.Mix -/
noncomputable def f147_body : Code := bodyOf Try.f147
def f147_fresh : Bool := false
def f147_t0 : List Nat := [2, 4, 5, 6, 7, 18]
def f147_o0 : List Nat := [2, 4, 5, 6, 7]
def f147_t2 : List Nat := [2, 4, 7, 109]
def f147_o2 : List Nat := [2, 4, 7]
def f147_keep : List (Nat × (List Nat × List Nat)) := [(0, (f147_t0, f147_o0)), (2, (f147_t2, f147_o2))]
noncomputable def f147_info : FnInfo := ⟨[.val (.arr 8 (.int .u32)), .val .str], [.val (.arr 8 (.int .u32))], 122, [.cell 4 185], f147_body, f147_keep, f147_fresh, false⟩

/- (*milepost/sha.State).Write -/
noncomputable def f134_body : Code := bodyOf Try.f134
def f134_fresh : Bool := false
def f134_t0 : List Nat := [0, 4]
def f134_o0 : List Nat := [0]
def f134_keep : List (Nat × (List Nat × List Nat)) := [(0, (f134_t0, f134_o0))]
noncomputable def f134_info : FnInfo := ⟨[.ptr (.struct [(.arr 8 (.int .u32)), .str, (.int .u64), .bool]), .val .str], [], 72, [], f134_body, f134_keep, f134_fresh, false⟩

/- milepost/word.put -/
noncomputable def f137_body : Code := bodyOf Try.f137
def f137_fresh : Bool := false
def f137_t0 : List Nat := [0, 1, 5, 9, 10]
def f137_o0 : List Nat := [8]
def f137_keep : List (Nat × (List Nat × List Nat)) := [(0, (f137_t0, f137_o0))]
noncomputable def f137_info : FnInfo := ⟨[.val (.int .u64), .val (.int .i64)], [.val .str], 26, [.tmp 4], f137_body, f137_keep, f137_fresh, false⟩

/- milepost/word.Put64 -/
noncomputable def f112_body : Code := bodyOf Try.f112
def f112_fresh : Bool := false
def f112_keep : List (Nat × (List Nat × List Nat)) := []
noncomputable def f112_info : FnInfo := ⟨[.val (.int .u64)], [.val .str], 5, [.tmp 2], f112_body, f112_keep, f112_fresh, false⟩

/- milepost/sha.Pad -/
noncomputable def f148_body : Code := bodyOf Try.f148
def f148_fresh : Bool := false
def f148_keep : List (Nat × (List Nat × List Nat)) := []
noncomputable def f148_info : FnInfo := ⟨[.val (.int .u64)], [.val .str], 16, [.tmp 2], f148_body, f148_keep, f148_fresh, false⟩

/- milepost/word.Put32 -/
noncomputable def f111_body : Code := bodyOf Try.f111
def f111_fresh : Bool := false
def f111_keep : List (Nat × (List Nat × List Nat)) := []
noncomputable def f111_info : FnInfo := ⟨[.val (.int .u32)], [.val .str], 6, [.tmp 2], f111_body, f111_keep, f111_fresh, false⟩

/- (*milepost/sha.State).Sum -/
noncomputable def f135_body : Code := bodyOf Try.f135
def f135_fresh : Bool := false
def f135_t0 : List Nat := [0, 2, 4, 18, 19]
def f135_o0 : List Nat := [0, 2, 4]
def f135_keep : List (Nat × (List Nat × List Nat)) := [(0, (f135_t0, f135_o0))]
noncomputable def f135_info : FnInfo := ⟨[.ptr (.struct [(.arr 8 (.int .u32)), .str, (.int .u64), .bool])], [.val (.blob 32)], 37, [.cell 2 34], f135_body, f135_keep, f135_fresh, false⟩

/- milepost/sha.Sum -/
noncomputable def f109_body : Code := bodyOf Try.f109
def f109_fresh : Bool := false
def f109_keep : List (Nat × (List Nat × List Nat)) := []
noncomputable def f109_info : FnInfo := ⟨[.val .str], [.val (.blob 32)], 10, [.cell 2 34], f109_body, f109_keep, f109_fresh, false⟩

/- milepost/tag.LeafSum -/
noncomputable def f84_body : Code := bodyOf Try.f84
def f84_fresh : Bool := false
def f84_keep : List (Nat × (List Nat × List Nat)) := []
noncomputable def f84_info : FnInfo := ⟨[.val .str], [.val (.blob 32)], 6, [.cell 2 34], f84_body, f84_keep, f84_fresh, false⟩

/- milepost/tree.each[string,milepost/api.Hash] -/
noncomputable def f83_body : Code := bodyOf Try.f83
def f83_fresh : Bool := true
def f83_t0 : List Nat := [1, 5, 8, 9, 10]
def f83_o0 : List Nat := []
def f83_keep : List (Nat × (List Nat × List Nat)) := [(0, (f83_t0, f83_o0))]
noncomputable def f83_info : FnInfo := ⟨[.val (.slice .str), .val .fn], [.val (.slice (.blob 32))], 22, [.tmp 4], f83_body, f83_keep, f83_fresh, false⟩

/- milepost/tree.Leaves -/
noncomputable def f45_body : Code := bodyOf Try.f45
def f45_fresh : Bool := true
def f45_keep : List (Nat × (List Nat × List Nat)) := []
noncomputable def f45_info : FnInfo := ⟨[.val (.slice .str)], [.val (.slice (.blob 32))], 5, [.tmp 2], f45_body, f45_keep, f45_fresh, false⟩

/- milepost/tree.parted[milepost/api.Hash] -/
noncomputable def f114_body : Code := bodyOf Try.f114
def f114_fresh : Bool := false
def f114_keep : List (Nat × (List Nat × List Nat)) := []
noncomputable def f114_info : FnInfo := ⟨[.val (.slice (.blob 32))], [.val (.slice (.blob 32)), .val (.slice (.blob 32))], 14, [.tmp 2, .tmp 3], f114_body, f114_keep, f114_fresh, false⟩

/- milepost/tag.NodeText -/
noncomputable def f125_body : Code := bodyOf Try.f125
def f125_fresh : Bool := false
def f125_keep : List (Nat × (List Nat × List Nat)) := []
noncomputable def f125_info : FnInfo := ⟨[.val (.blob 32), .val (.blob 32)], [.val .str], 11, [.tmp 4], f125_body, f125_keep, f125_fresh, false⟩

/- milepost/tag.NodeSum -/
noncomputable def f91_body : Code := bodyOf Try.f91
def f91_fresh : Bool := false
def f91_keep : List (Nat × (List Nat × List Nat)) := []
noncomputable def f91_info : FnInfo := ⟨[.val (.blob 32), .val (.blob 32)], [.val (.blob 32)], 9, [.cell 4 34], f91_body, f91_keep, f91_fresh, false⟩

/- milepost/tree.Top -/
noncomputable def f82_body : Code := bodyOf Try.f82
def f82_fresh : Bool := false
def f82_keep : List (Nat × (List Nat × List Nat)) := []
noncomputable def f82_info : FnInfo := ⟨[.val (.slice (.blob 32))], [.val (.blob 32)], 25, [.cell 2 34], f82_body, f82_keep, f82_fresh, false⟩

/- milepost/multi.beside -/
noncomputable def f44_body : Code := bodyOf Try.f44
def f44_fresh : Bool := true
def f44_keep : List (Nat × (List Nat × List Nat)) := []
noncomputable def f44_info : FnInfo := ⟨[.val (.slice (.blob 32)), .val (.slice (.int .i64))], [.val (.slice (.blob 32))], 39, [.tmp 4], f44_body, f44_keep, f44_fresh, false⟩

/- milepost/multi.Open -/
noncomputable def f10_body : Code := bodyOf Try.f10
def f10_fresh : Bool := false
def f10_keep : List (Nat × (List Nat × List Nat)) := []
noncomputable def f10_info : FnInfo := ⟨[.val (.slice .str), .val (.slice (.int .i64))], [.val (.struct [(.int .i64), (.slice (.int .i64)), (.slice (.blob 32))]), .val (.int .i64)], 27, [.cell 4 28, .tmp 5], f10_body, f10_keep, f10_fresh, false⟩

/- milepost/milepostref16.Rising -/
noncomputable def f11_body : Code := bodyOf Try.f11
def f11_fresh : Bool := false
def f11_t0 : List Nat := [0, 1, 5]
def f11_o0 : List Nat := []
def f11_keep : List (Nat × (List Nat × List Nat)) := [(0, (f11_t0, f11_o0))]
noncomputable def f11_info : FnInfo := ⟨[.val (.int .i64), .val (.slice (.int .i64))], [.val .bool], 44, [.tmp 4], f11_body, f11_keep, f11_fresh, false⟩

/- milepost/milepostref01.Byte -/
noncomputable def f120_body : Code := bodyOf Try.f120
def f120_fresh : Bool := false
def f120_keep : List (Nat × (List Nat × List Nat)) := []
noncomputable def f120_info : FnInfo := ⟨[.val (.int .i64)], [.val .str], 7, [.tmp 2], f120_body, f120_keep, f120_fresh, false⟩

/- milepost/milepostref03.LeafText -/
noncomputable def f123_body : Code := bodyOf Try.f123
def f123_fresh : Bool := false
def f123_keep : List (Nat × (List Nat × List Nat)) := []
noncomputable def f123_info : FnInfo := ⟨[.val .str], [.val .str], 6, [.tmp 2], f123_body, f123_keep, f123_fresh, false⟩

/- milepost/milepostref02.First -/
noncomputable def f116_body : Code := bodyOf Try.f116
def f116_fresh : Bool := false
def f116_keep : List (Nat × (List Nat × List Nat)) := []
noncomputable def f116_info : FnInfo := ⟨[], [.val (.arr 8 (.int .u32))], 2, [.cell 0 160], f116_body, f116_keep, f116_fresh, false⟩

/- milepost/milepostref01.Put -/
noncomputable def f119_body : Code := bodyOf Try.f119
def f119_fresh : Bool := false
def f119_t0 : List Nat := [0, 1, 5, 6]
def f119_o0 : List Nat := []
def f119_keep : List (Nat × (List Nat × List Nat)) := [(0, (f119_t0, f119_o0))]
noncomputable def f119_info : FnInfo := ⟨[.val (.int .u64), .val (.int .i64)], [.val .str], 21, [.tmp 4], f119_body, f119_keep, f119_fresh, false⟩

/- milepost/milepostref02.Pad -/
noncomputable def f117_body : Code := bodyOf Try.f117
def f117_fresh : Bool := false
def f117_t0 : List Nat := [0, 3]
def f117_o0 : List Nat := []
def f117_keep : List (Nat × (List Nat × List Nat)) := [(0, (f117_t0, f117_o0))]
noncomputable def f117_info : FnInfo := ⟨[.val (.int .u64)], [.val .str], 22, [.tmp 2], f117_body, f117_keep, f117_fresh, false⟩

/- milepost/milepostref01.Take -/
noncomputable def f150_body : Code := bodyOf Try.f150
def f150_fresh : Bool := false
def f150_t0 : List Nat := [0, 1, 2, 7, 8]
def f150_o0 : List Nat := []
def f150_keep : List (Nat × (List Nat × List Nat)) := [(0, (f150_t0, f150_o0))]
noncomputable def f150_info : FnInfo := ⟨[.val .str, .val (.int .i64), .val (.int .i64)], [.val (.int .u64)], 41, [.tmp 6], f150_body, f150_keep, f150_fresh, false⟩

/- milepost/milepostref02.turn -/
noncomputable def f139_body : Code := bodyOf Try.f139
def f139_fresh : Bool := false
def f139_keep : List (Nat × (List Nat × List Nat)) := []
noncomputable def f139_info : FnInfo := ⟨[.val (.int .u32), .val (.int .u64)], [.val (.int .u32)], 13, [.tmp 4], f139_body, f139_keep, f139_fresh, false⟩

/- milepost/milepostref02.Spread -/
noncomputable def f138_body : Code := bodyOf Try.f138
def f138_fresh : Bool := false
def f138_t0 : List Nat := [0, 2, 3, 4]
def f138_o0 : List Nat := [2, 3]
def f138_t2 : List Nat := [2, 3, 5]
def f138_o2 : List Nat := [2, 3]
def f138_keep : List (Nat × (List Nat × List Nat)) := [(0, (f138_t0, f138_o0)), (2, (f138_t2, f138_o2))]
noncomputable def f138_info : FnInfo := ⟨[.val .str], [.val (.arr 64 (.int .u32))], 61, [.cell 2 176], f138_body, f138_keep, f138_fresh, false⟩

/- milepost/milepostref02.number -/
noncomputable def f140_body : Code := bodyOf Try.f140
def f140_fresh : Bool := false
def f140_keep : List (Nat × (List Nat × List Nat)) := []
noncomputable def f140_info : FnInfo := ⟨[.val (.int .i64)], [.val (.int .u32)], 9, [.tmp 2], f140_body, f140_keep, f140_fresh, false⟩

/- milepost/milepostref02.Mix -/
noncomputable def f118_body : Code := bodyOf Try.f118
def f118_fresh : Bool := false
def f118_t0 : List Nat := [2, 4, 5, 6, 7]
def f118_o0 : List Nat := [2, 4, 5, 6]
def f118_t2 : List Nat := [2, 4, 5, 6, 7, 10, 11, 12]
def f118_o2 : List Nat := [2, 4, 5, 6]
def f118_t4 : List Nat := [2, 4, 6, 13]
def f118_o4 : List Nat := [2, 4, 6]
def f118_keep : List (Nat × (List Nat × List Nat)) := [(0, (f118_t0, f118_o0)), (2, (f118_t2, f118_o2)), (4, (f118_t4, f118_o4))]
noncomputable def f118_info : FnInfo := ⟨[.val (.arr 8 (.int .u32)), .val .str], [.val (.arr 8 (.int .u32))], 110, [.cell 4 160], f118_body, f118_keep, f118_fresh, false⟩

/- milepost/milepostref02.Sum -/
noncomputable def f85_body : Code := bodyOf Try.f85
def f85_fresh : Bool := false
def f85_t0 : List Nat := [0, 2, 3, 4]
def f85_o0 : List Nat := [2, 3]
def f85_t2 : List Nat := [2, 3, 5, 6]
def f85_o2 : List Nat := [2, 3, 5]
def f85_t4 : List Nat := [2, 3, 5, 6, 7, 8]
def f85_o4 : List Nat := [2, 3, 5]
def f85_keep : List (Nat × (List Nat × List Nat)) := [(0, (f85_t0, f85_o0)), (2, (f85_t2, f85_o2)), (4, (f85_t4, f85_o4))]
noncomputable def f85_info : FnInfo := ⟨[.val .str], [.val (.blob 32)], 51, [.cell 2 34], f85_body, f85_keep, f85_fresh, false⟩

/- milepost/milepostref03.Leaf -/
noncomputable def f89_body : Code := bodyOf Try.f89
def f89_fresh : Bool := false
def f89_keep : List (Nat × (List Nat × List Nat)) := []
noncomputable def f89_info : FnInfo := ⟨[.val .str], [.val (.blob 32)], 6, [.cell 2 34], f89_body, f89_keep, f89_fresh, false⟩

/- milepost/milepostref11.Leaves -/
noncomputable def f48_body : Code := bodyOf Try.f48
def f48_fresh : Bool := true
def f48_t0 : List Nat := [0, 3, 4]
def f48_o0 : List Nat := []
def f48_keep : List (Nat × (List Nat × List Nat)) := [(0, (f48_t0, f48_o0))]
noncomputable def f48_info : FnInfo := ⟨[.val (.slice .str)], [.val (.slice (.blob 32))], 20, [.tmp 2], f48_body, f48_keep, f48_fresh, false⟩

/- milepost/milepostref11.Left -/
noncomputable def f87_body : Code := bodyOf Try.f87
def f87_fresh : Bool := false
def f87_t0 : List Nat := [0, 3, 4]
def f87_o0 : List Nat := []
def f87_keep : List (Nat × (List Nat × List Nat)) := [(0, (f87_t0, f87_o0))]
noncomputable def f87_info : FnInfo := ⟨[.val (.int .i64)], [.val (.int .i64)], 16, [.tmp 2], f87_body, f87_keep, f87_fresh, false⟩

/- milepost/milepostref03.Raw -/
noncomputable def f121_body : Code := bodyOf Try.f121
def f121_fresh : Bool := false
def f121_t0 : List Nat := [1, 3, 4]
def f121_o0 : List Nat := [1, 5]
def f121_keep : List (Nat × (List Nat × List Nat)) := [(0, (f121_t0, f121_o0))]
noncomputable def f121_info : FnInfo := ⟨[.val (.blob 32)], [.val .str], 18, [.tmp 2], f121_body, f121_keep, f121_fresh, false⟩

/- milepost/milepostref03.NodeText -/
noncomputable def f122_body : Code := bodyOf Try.f122
def f122_fresh : Bool := false
def f122_keep : List (Nat × (List Nat × List Nat)) := []
noncomputable def f122_info : FnInfo := ⟨[.val (.blob 32), .val (.blob 32)], [.val .str], 12, [.tmp 4], f122_body, f122_keep, f122_fresh, false⟩

/- milepost/milepostref03.Node -/
noncomputable def f88_body : Code := bodyOf Try.f88
def f88_fresh : Bool := false
def f88_keep : List (Nat × (List Nat × List Nat)) := []
noncomputable def f88_info : FnInfo := ⟨[.val (.blob 32), .val (.blob 32)], [.val (.blob 32)], 9, [.cell 4 34], f88_body, f88_keep, f88_fresh, false⟩

/- milepost/milepostref11.Top -/
noncomputable def f47_body : Code := bodyOf Try.f47
def f47_fresh : Bool := false
def f47_keep : List (Nat × (List Nat × List Nat)) := []
noncomputable def f47_info : FnInfo := ⟨[.val (.slice (.blob 32))], [.val (.blob 32)], 26, [.cell 2 34], f47_body, f47_keep, f47_fresh, false⟩

/- milepost/milepostref03.RootText -/
noncomputable def f86_body : Code := bodyOf Try.f86
def f86_fresh : Bool := false
def f86_keep : List (Nat × (List Nat × List Nat)) := []
noncomputable def f86_info : FnInfo := ⟨[.val (.int .u64), .val (.blob 32)], [.val .str], 12, [.tmp 4], f86_body, f86_keep, f86_fresh, false⟩

/- milepost/milepostref03.Root -/
noncomputable def f46_body : Code := bodyOf Try.f46
def f46_fresh : Bool := false
def f46_keep : List (Nat × (List Nat × List Nat)) := []
noncomputable def f46_info : FnInfo := ⟨[.val (.int .u64), .val (.blob 32)], [.val (.blob 32)], 9, [.cell 4 34], f46_body, f46_keep, f46_fresh, false⟩

/- milepost/milepostref11.Root -/
noncomputable def f12_body : Code := bodyOf Try.f12
def f12_fresh : Bool := false
def f12_keep : List (Nat × (List Nat × List Nat)) := []
noncomputable def f12_info : FnInfo := ⟨[.val (.slice .str)], [.val (.blob 32)], 10, [.cell 2 34], f12_body, f12_keep, f12_fresh, false⟩

/- milepost/multi.May -/
noncomputable def f50_body : Code := bodyOf Try.f50
def f50_fresh : Bool := false
def f50_keep : List (Nat × (List Nat × List Nat)) := []
noncomputable def f50_info : FnInfo := ⟨[.val (.int .i64), .val (.struct [(.int .i64), (.slice (.int .i64)), (.slice (.blob 32))])], [.val (.int .i64)], 39, [.tmp 4], f50_body, f50_keep, f50_fresh, false⟩

/- (*milepost/multi.walker).top -/
noncomputable def f54_body : Code := bodyOf Try.f54
def f54_fresh : Bool := false
def f54_keep : List (Nat × (List Nat × List Nat)) := []
noncomputable def f54_info : FnInfo := ⟨[.ptr (.struct [(.slice .str), (.slice (.blob 32))]), .val (.int .i64), .val (.slice (.int .i64))], [.val (.blob 32)], 69, [.cell 6 34], f54_body, f54_keep, f54_fresh, false⟩

/- milepost/tag.RootText -/
noncomputable def f124_body : Code := bodyOf Try.f124
def f124_fresh : Bool := false
def f124_keep : List (Nat × (List Nat × List Nat)) := []
noncomputable def f124_info : FnInfo := ⟨[.val (.int .u64), .val (.blob 32)], [.val .str], 11, [.tmp 4], f124_body, f124_keep, f124_fresh, false⟩

/- milepost/tag.RootSum -/
noncomputable def f90_body : Code := bodyOf Try.f90
def f90_fresh : Bool := false
def f90_keep : List (Nat × (List Nat × List Nat)) := []
noncomputable def f90_info : FnInfo := ⟨[.val (.int .u64), .val (.blob 32)], [.val (.blob 32)], 9, [.cell 4 34], f90_body, f90_keep, f90_fresh, false⟩

/- milepost/multi.Root -/
noncomputable def f49_body : Code := bodyOf Try.f49
def f49_fresh : Bool := false
def f49_keep : List (Nat × (List Nat × List Nat)) := []
noncomputable def f49_info : FnInfo := ⟨[.val (.slice .str), .val (.struct [(.int .i64), (.slice (.int .i64)), (.slice (.blob 32))])], [.val (.blob 32), .val (.int .i64)], 31, [.cell 4 34, .tmp 5], f49_body, f49_keep, f49_fresh, false⟩

/- milepost/multi.Check -/
noncomputable def f13_body : Code := bodyOf Try.f13
def f13_fresh : Bool := false
def f13_keep : List (Nat × (List Nat × List Nat)) := []
noncomputable def f13_info : FnInfo := ⟨[.val (.blob 32), .val (.slice .str), .val (.struct [(.int .i64), (.slice (.int .i64)), (.slice (.blob 32))])], [.val .bool], 22, [.tmp 6], f13_body, f13_keep, f13_fresh, false⟩

/- (*milepost/multi.walker).skip -/
noncomputable def f53_body : Code := bodyOf Try.f53
def f53_fresh : Bool := false
def f53_keep : List (Nat × (List Nat × List Nat)) := []
noncomputable def f53_info : FnInfo := ⟨[.ptr (.struct [(.slice .str), (.slice (.blob 32))]), .val (.int .i64), .val (.slice (.int .i64))], [], 27, [], f53_body, f53_keep, f53_fresh, false⟩

/- milepost/multi.One -/
noncomputable def f14_body : Code := bodyOf Try.f14
def f14_fresh : Bool := false
def f14_t0 : List Nat := [6, 8, 9, 10, 11, 12]
def f14_o0 : List Nat := [6, 11, 51]
def f14_keep : List (Nat × (List Nat × List Nat)) := [(0, (f14_t0, f14_o0))]
noncomputable def f14_info : FnInfo := ⟨[.val (.slice .str), .val (.struct [(.int .i64), (.slice (.int .i64)), (.slice (.blob 32))]), .val (.int .i64)], [.val (.struct [(.int .i64), (.int .i64), (.slice (.blob 32))]), .val .bool], 96, [.cell 6 38, .tmp 7], f14_body, f14_keep, f14_fresh, false⟩

/- milepost/milepostref11.Hashes -/
noncomputable def f55_body : Code := bodyOf Try.f55
def f55_fresh : Bool := false
def f55_t0 : List Nat := [0, 1, 5]
def f55_o0 : List Nat := []
def f55_keep : List (Nat × (List Nat × List Nat)) := [(0, (f55_t0, f55_o0))]
noncomputable def f55_info : FnInfo := ⟨[.val (.slice (.blob 32)), .val (.slice (.blob 32))], [.val .bool], 26, [.tmp 4], f55_body, f55_keep, f55_fresh, false⟩

/- milepost/milepostref11.Same -/
noncomputable def f15_body : Code := bodyOf Try.f15
def f15_fresh : Bool := false
def f15_keep : List (Nat × (List Nat × List Nat)) := []
noncomputable def f15_info : FnInfo := ⟨[.val (.struct [(.int .i64), (.int .i64), (.slice (.blob 32))]), .val (.struct [(.int .i64), (.int .i64), (.slice (.blob 32))])], [.val .bool], 24, [.tmp 4], f15_body, f15_keep, f15_fresh, false⟩

/- milepost/milepostref11.path -/
noncomputable def f56_body : Code := bodyOf Try.f56
def f56_fresh : Bool := true
def f56_keep : List (Nat × (List Nat × List Nat)) := []
noncomputable def f56_info : FnInfo := ⟨[.val (.slice (.blob 32)), .val (.int .i64)], [.val (.slice (.blob 32))], 39, [.tmp 4], f56_body, f56_keep, f56_fresh, false⟩

/- milepost/milepostref11.Open -/
noncomputable def f16_body : Code := bodyOf Try.f16
def f16_fresh : Bool := false
def f16_keep : List (Nat × (List Nat × List Nat)) := []
noncomputable def f16_info : FnInfo := ⟨[.val (.slice .str), .val (.int .i64)], [.val (.struct [(.int .i64), (.int .i64), (.slice (.blob 32))]), .val (.int .i64)], 27, [.cell 4 38, .tmp 5], f16_body, f16_keep, f16_fresh, false⟩

/- milepost/shape.Depth -/
noncomputable def f126_body : Code := bodyOf Try.f126
def f126_fresh : Bool := false
def f126_keep : List (Nat × (List Nat × List Nat)) := []
noncomputable def f126_info : FnInfo := ⟨[.val (.int .i64), .val (.int .i64)], [.val (.int .i64)], 16, [.tmp 4], f126_body, f126_keep, f126_fresh, false⟩

/- milepost/hold.May -/
noncomputable def f92_body : Code := bodyOf Try.f92
def f92_fresh : Bool := false
def f92_keep : List (Nat × (List Nat × List Nat)) := []
noncomputable def f92_info : FnInfo := ⟨[.val (.struct [(.int .i64), (.int .i64), (.slice (.blob 32))])], [.val (.int .i64)], 34, [.tmp 2], f92_body, f92_keep, f92_fresh, false⟩

/- milepost/hold.Up -/
noncomputable def f93_body : Code := bodyOf Try.f93
def f93_fresh : Bool := true
def f93_t0 : List Nat := [3, 5, 6, 20, 21, 22]
def f93_o0 : List Nat := [3, 5]
def f93_keep : List (Nat × (List Nat × List Nat)) := [(0, (f93_t0, f93_o0))]
noncomputable def f93_info : FnInfo := ⟨[.val .str, .val (.struct [(.int .i64), (.int .i64), (.slice (.blob 32))])], [.val (.slice (.blob 32))], 48, [.tmp 4], f93_body, f93_keep, f93_fresh, false⟩

/- milepost/hold.Root -/
noncomputable def f57_body : Code := bodyOf Try.f57
def f57_fresh : Bool := false
def f57_keep : List (Nat × (List Nat × List Nat)) := []
noncomputable def f57_info : FnInfo := ⟨[.val .str, .val (.struct [(.int .i64), (.int .i64), (.slice (.blob 32))])], [.val (.blob 32), .val (.int .i64)], 27, [.cell 4 34, .tmp 5], f57_body, f57_keep, f57_fresh, false⟩

/- milepost/hold.Check -/
noncomputable def f17_body : Code := bodyOf Try.f17
def f17_fresh : Bool := false
def f17_keep : List (Nat × (List Nat × List Nat)) := []
noncomputable def f17_info : FnInfo := ⟨[.val (.blob 32), .val .str, .val (.struct [(.int .i64), (.int .i64), (.slice (.blob 32))])], [.val .bool], 22, [.tmp 6], f17_body, f17_keep, f17_fresh, false⟩

/- milepost/milepostlaw16.MultiOnes -/
noncomputable def f3_body : Code := bodyOf Try.f3
def f3_fresh : Bool := false
def f3_t0 : List Nat := [0, 1, 2, 7, 9, 10]
def f3_o0 : List Nat := [7]
def f3_keep : List (Nat × (List Nat × List Nat)) := [(0, (f3_t0, f3_o0))]
noncomputable def f3_info : FnInfo := ⟨[.val (.slice .str), .val (.slice (.int .i64)), .val (.int .i64)], [.val .bool], 120, [.tmp 6], f3_body, f3_keep, f3_fresh, false⟩

/- milepost/txs.May -/
noncomputable def f97_body : Code := bodyOf Try.f97
def f97_fresh : Bool := false
def f97_t0 : List Nat := [8, 9, 10]
def f97_o0 : List Nat := []
def f97_keep : List (Nat × (List Nat × List Nat)) := [(0, (f97_t0, f97_o0))]
noncomputable def f97_info : FnInfo := ⟨[.val (.slice .str)], [.val (.int .i64)], 18, [.tmp 2], f97_body, f97_keep, f97_fresh, false⟩

/- milepost/link.Text -/
noncomputable def f113_body : Code := bodyOf Try.f113
def f113_fresh : Bool := false
def f113_keep : List (Nat × (List Nat × List Nat)) := []
noncomputable def f113_info : FnInfo := ⟨[.val (.blob 32)], [.val .str], 6, [.tmp 2], f113_body, f113_keep, f113_fresh, false⟩

/- milepost/link.texts -/
noncomputable def f144_body : Code := bodyOf Try.f144
def f144_fresh : Bool := true
def f144_t0 : List Nat := [3, 6, 7, 8]
def f144_o0 : List Nat := []
def f144_keep : List (Nat × (List Nat × List Nat)) := [(0, (f144_t0, f144_o0))]
noncomputable def f144_info : FnInfo := ⟨[.val (.slice (.blob 32))], [.val (.slice .str)], 19, [.tmp 2], f144_body, f144_keep, f144_fresh, false⟩

/- milepost/tree.Root -/
noncomputable def f143_body : Code := bodyOf Try.f143
def f143_fresh : Bool := false
def f143_keep : List (Nat × (List Nat × List Nat)) := []
noncomputable def f143_info : FnInfo := ⟨[.val (.slice .str)], [.val (.blob 32)], 10, [.cell 2 34], f143_body, f143_keep, f143_fresh, false⟩

/- milepost/link.Root -/
noncomputable def f128_body : Code := bodyOf Try.f128
def f128_fresh : Bool := false
def f128_keep : List (Nat × (List Nat × List Nat)) := []
noncomputable def f128_info : FnInfo := ⟨[.val (.slice (.blob 32))], [.val (.blob 32)], 6, [.cell 2 34], f128_body, f128_keep, f128_fresh, false⟩

/- milepost/txs.Text -/
noncomputable def f107_body : Code := bodyOf Try.f107
def f107_fresh : Bool := false
def f107_keep : List (Nat × (List Nat × List Nat)) := []
noncomputable def f107_info : FnInfo := ⟨[.val .str], [.val .str], 5, [.tmp 2], f107_body, f107_keep, f107_fresh, false⟩

/- milepost/txs.texts -/
noncomputable def f145_body : Code := bodyOf Try.f145
def f145_fresh : Bool := true
def f145_t0 : List Nat := [3, 6, 7, 8]
def f145_o0 : List Nat := []
def f145_keep : List (Nat × (List Nat × List Nat)) := [(0, (f145_t0, f145_o0))]
noncomputable def f145_info : FnInfo := ⟨[.val (.slice .str)], [.val (.slice .str)], 19, [.tmp 2], f145_body, f145_keep, f145_fresh, false⟩

/- milepost/txs.Root -/
noncomputable def f129_body : Code := bodyOf Try.f129
def f129_fresh : Bool := false
def f129_keep : List (Nat × (List Nat × List Nat)) := []
noncomputable def f129_info : FnInfo := ⟨[.val (.slice .str)], [.val (.blob 32)], 6, [.cell 2 34], f129_body, f129_keep, f129_fresh, false⟩

/- milepost/block.Make -/
noncomputable def f98_body : Code := bodyOf Try.f98
def f98_fresh : Bool := false
def f98_keep : List (Nat × (List Nat × List Nat)) := []
noncomputable def f98_info : FnInfo := ⟨[.val (.int .u32), .val (.slice (.blob 32)), .val (.slice .str), .val (.int .u64)], [.val (.struct [(.struct [(.int .u32), (.blob 32), (.blob 32), (.int .u64)]), (.slice .str)])], 21, [.cell 8 60], f98_body, f98_keep, f98_fresh, false⟩

/- milepost/head.Bytes -/
noncomputable def f78_body : Code := bodyOf Try.f78
def f78_fresh : Bool := false
def f78_keep : List (Nat × (List Nat × List Nat)) := []
noncomputable def f78_info : FnInfo := ⟨[.val (.struct [(.int .u32), (.blob 32), (.blob 32), (.int .u64)])], [.val .str], 18, [.tmp 2], f78_body, f78_keep, f78_fresh, false⟩

/- milepost/tag.HeaderText -/
noncomputable def f110_body : Code := bodyOf Try.f110
def f110_fresh : Bool := false
def f110_keep : List (Nat × (List Nat × List Nat)) := []
noncomputable def f110_info : FnInfo := ⟨[.val .str], [.val .str], 6, [.tmp 2], f110_body, f110_keep, f110_fresh, false⟩

/- milepost/tag.HeaderSum -/
noncomputable def f77_body : Code := bodyOf Try.f77
def f77_fresh : Bool := false
def f77_keep : List (Nat × (List Nat × List Nat)) := []
noncomputable def f77_info : FnInfo := ⟨[.val .str], [.val (.blob 32)], 6, [.cell 2 34], f77_body, f77_keep, f77_fresh, false⟩

/- milepost/ident.Id -/
noncomputable def f36_body : Code := bodyOf Try.f36
def f36_fresh : Bool := false
def f36_keep : List (Nat × (List Nat × List Nat)) := []
noncomputable def f36_info : FnInfo := ⟨[.val (.struct [(.int .u32), (.blob 32), (.blob 32), (.int .u64)])], [.val (.blob 32)], 6, [.cell 2 34], f36_body, f36_keep, f36_fresh, false⟩

/- milepost/word.Take64 -/
noncomputable def f108_body : Code := bodyOf Try.f108
def f108_fresh : Bool := false
def f108_keep : List (Nat × (List Nat × List Nat)) := []
noncomputable def f108_info : FnInfo := ⟨[.val .str, .val (.int .i64)], [.val (.int .u64)], 8, [.tmp 4], f108_body, f108_keep, f108_fresh, false⟩

/- milepost/wide.Of -/
noncomputable def f76_body : Code := bodyOf Try.f76
def f76_fresh : Bool := false
def f76_t0 : List Nat := [1, 2, 3, 5]
def f76_o0 : List Nat := [1, 2, 3]
def f76_keep : List (Nat × (List Nat × List Nat)) := [(0, (f76_t0, f76_o0))]
noncomputable def f76_info : FnInfo := ⟨[.val (.blob 32)], [.val (.arr 4 (.int .u64))], 18, [.cell 2 130], f76_body, f76_keep, f76_fresh, false⟩

/- milepost/wide.Cmp -/
noncomputable def f75_body : Code := bodyOf Try.f75
def f75_fresh : Bool := false
def f75_t0 : List Nat := [2, 3, 8]
def f75_o0 : List Nat := [2, 3]
def f75_keep : List (Nat × (List Nat × List Nat)) := [(0, (f75_t0, f75_o0))]
noncomputable def f75_info : FnInfo := ⟨[.val (.arr 4 (.int .u64)), .val (.arr 4 (.int .u64))], [.val (.int .i64)], 28, [.tmp 4], f75_body, f75_keep, f75_fresh, false⟩

/- milepost/work.Ok -/
noncomputable def f35_body : Code := bodyOf Try.f35
def f35_fresh : Bool := false
def f35_keep : List (Nat × (List Nat × List Nat)) := []
noncomputable def f35_info : FnInfo := ⟨[.val (.blob 32), .val (.blob 32)], [.val .bool], 11, [.tmp 4], f35_body, f35_keep, f35_fresh, false⟩

/- milepost/mine.Seek -/
noncomputable def f99_body : Code := bodyOf Try.f99
def f99_fresh : Bool := false
def f99_t0 : List Nat := [2, 3, 4, 6]
def f99_o0 : List Nat := [3, 4, 6]
def f99_keep : List (Nat × (List Nat × List Nat)) := [(0, (f99_t0, f99_o0))]
noncomputable def f99_info : FnInfo := ⟨[.val (.blob 32), .val (.struct [(.int .u32), (.blob 32), (.blob 32), (.int .u64)]), .val (.int .i64)], [.val (.struct [(.int .u32), (.blob 32), (.blob 32), (.int .u64)]), .val .bool], 22, [.cell 6 49, .tmp 7], f99_body, f99_keep, f99_fresh, false⟩

/- milepost/mine.mined -/
noncomputable def f63_body : Code := bodyOf Try.f63
def f63_fresh : Bool := false
def f63_keep : List (Nat × (List Nat × List Nat)) := []
noncomputable def f63_info : FnInfo := ⟨[.val (.blob 32), .val (.int .i64), .val (.slice (.blob 32)), .val (.slice .str), .val (.int .u64), .val (.int .i64)], [.val (.struct [(.struct [(.int .u32), (.blob 32), (.blob 32), (.int .u64)]), (.slice .str)]), .val (.int .i64)], 44, [.cell 12 60, .tmp 13], f63_body, f63_keep, f63_fresh, false⟩

/- milepost/mine.Start -/
noncomputable def f62_body : Code := bodyOf Try.f62
def f62_fresh : Bool := false
def f62_keep : List (Nat × (List Nat × List Nat)) := []
noncomputable def f62_info : FnInfo := ⟨[.val (.blob 32), .val (.slice .str), .val (.int .u64), .val (.int .i64)], [.val (.struct [(.struct [(.int .u32), (.blob 32), (.blob 32), (.int .u64)]), (.slice .str)]), .val (.int .i64)], 17, [.cell 8 60, .tmp 9], f62_body, f62_keep, f62_fresh, false⟩

/- milepost/chain.id -/
noncomputable def f65_body : Code := bodyOf Try.f65
def f65_fresh : Bool := false
def f65_keep : List (Nat × (List Nat × List Nat)) := []
noncomputable def f65_info : FnInfo := ⟨[.val (.struct [(.struct [(.int .u32), (.blob 32), (.blob 32), (.int .u64)]), (.slice .str)])], [.val (.blob 32)], 6, [.cell 2 34], f65_body, f65_keep, f65_fresh, false⟩

/- milepost/inter.First -/
noncomputable def f95_body : Code := bodyOf Try.f95
def f95_fresh : Bool := true
def f95_keep : List (Nat × (List Nat × List Nat)) := []
noncomputable def f95_info : FnInfo := ⟨[.val (.blob 32)], [.val (.slice (.blob 32))], 5, [.tmp 2], f95_body, f95_keep, f95_fresh, false⟩

/- milepost/wide.Shr -/
noncomputable def f100_body : Code := bodyOf Try.f100
def f100_fresh : Bool := false
def f100_t0 : List Nat := [2, 4, 5, 6, 7, 21, 22]
def f100_o0 : List Nat := [2, 4, 5]
def f100_keep : List (Nat × (List Nat × List Nat)) := [(0, (f100_t0, f100_o0))]
noncomputable def f100_info : FnInfo := ⟨[.val (.arr 4 (.int .u64)), .val (.int .i64)], [.val (.arr 4 (.int .u64))], 59, [.cell 4 130], f100_body, f100_keep, f100_fresh, false⟩

/- milepost/work.Level -/
noncomputable def f66_body : Code := bodyOf Try.f66
def f66_fresh : Bool := false
def f66_t0 : List Nat := [5, 6, 7, 13]
def f66_o0 : List Nat := [5, 6]
def f66_keep : List (Nat × (List Nat × List Nat)) := [(0, (f66_t0, f66_o0))]
noncomputable def f66_info : FnInfo := ⟨[.val (.blob 32), .val (.blob 32)], [.val (.int .i64)], 25, [.tmp 4], f66_body, f66_keep, f66_fresh, false⟩

/- milepost/inter.Next -/
noncomputable def f96_body : Code := bodyOf Try.f96
def f96_fresh : Bool := false
def f96_t0 : List Nat := [0, 2, 4, 7, 8, 30, 31]
def f96_o0 : List Nat := [4, 8, 22]
def f96_t2 : List Nat := [4, 7, 8, 48, 49]
def f96_o2 : List Nat := [4, 8, 22]
def f96_keep : List (Nat × (List Nat × List Nat)) := [(0, (f96_t0, f96_o0)), (2, (f96_t2, f96_o2))]
noncomputable def f96_info : FnInfo := ⟨[.val (.slice (.blob 32)), .val (.blob 32), .val (.int .i64)], [.val (.slice (.blob 32))], 64, [.tmp 6], f96_body, f96_keep, f96_fresh, false⟩

/- milepost/chain.behind -/
noncomputable def f61_body : Code := bodyOf Try.f61
def f61_fresh : Bool := false
def f61_keep : List (Nat × (List Nat × List Nat)) := []
noncomputable def f61_info : FnInfo := ⟨[.val (.blob 32), .val (.slice (.blob 32)), .val (.struct [(.struct [(.int .u32), (.blob 32), (.blob 32), (.int .u64)]), (.slice .str)]), .val (.int .i64)], [.val (.slice (.blob 32))], 22, [.tmp 8], f61_body, f61_keep, f61_fresh, false⟩

/- milepost/chain.Vectors -/
noncomputable def f26_body : Code := bodyOf Try.f26
def f26_fresh : Bool := true
def f26_t0 : List Nat := [2, 5, 9, 10, 11]
def f26_o0 : List Nat := [2]
def f26_keep : List (Nat × (List Nat × List Nat)) := [(0, (f26_t0, f26_o0))]
noncomputable def f26_info : FnInfo := ⟨[.val (.blob 32), .val (.slice (.struct [(.struct [(.int .u32), (.blob 32), (.blob 32), (.int .u64)]), (.slice .str)]))], [.val (.slice (.slice (.blob 32)))], 29, [.tmp 4], f26_body, f26_keep, f26_fresh, false⟩

/- milepost/mine.Grow -/
noncomputable def f22_body : Code := bodyOf Try.f22
def f22_fresh : Bool := false
def f22_keep : List (Nat × (List Nat × List Nat)) := []
noncomputable def f22_info : FnInfo := ⟨[.val (.blob 32), .val (.slice (.struct [(.struct [(.int .u32), (.blob 32), (.blob 32), (.int .u64)]), (.slice .str)])), .val (.slice .str), .val (.int .u64), .val (.int .i64)], [.val (.struct [(.struct [(.int .u32), (.blob 32), (.blob 32), (.int .u64)]), (.slice .str)]), .val (.int .i64)], 40, [.cell 10 60, .tmp 11], f22_body, f22_keep, f22_fresh, false⟩

/- milepost/milepostlaw25.awake -/
noncomputable def f21_body : Code := bodyOf Try.f21
def f21_fresh : Bool := false
def f21_t0 : List Nat := [1, 2]
def f21_o0 : List Nat := [1]
def f21_keep : List (Nat × (List Nat × List Nat)) := [(0, (f21_t0, f21_o0))]
noncomputable def f21_info : FnInfo := ⟨[], [.val .bool], 50, [.tmp 0], f21_body, f21_keep, f21_fresh, false⟩

/- milepost/milepostlaw22.Much -/
noncomputable def f19_body : Code := bodyOf Try.f19
def f19_fresh : Bool := false
def f19_t0 : List Nat := [0, 3, 4]
def f19_o0 : List Nat := []
def f19_keep : List (Nat × (List Nat × List Nat)) := [(0, (f19_t0, f19_o0))]
noncomputable def f19_info : FnInfo := ⟨[.val (.slice .str)], [.val .bool], 41, [.tmp 2], f19_body, f19_keep, f19_fresh, false⟩

/- milepost/milepostlaw24.Much -/
noncomputable def f18_body : Code := bodyOf Try.f18
def f18_fresh : Bool := false
def f18_t0 : List Nat := [0, 3, 4]
def f18_o0 : List Nat := []
def f18_keep : List (Nat × (List Nat × List Nat)) := [(0, (f18_t0, f18_o0))]
noncomputable def f18_info : FnInfo := ⟨[.val (.slice (.struct [(.struct [(.int .u32), (.blob 32), (.blob 32), (.int .u64)]), (.slice .str)]))], [.val .bool], 36, [.tmp 2], f18_body, f18_keep, f18_fresh, false⟩

/- (milepost/chain.look).work -/
noncomputable def f60_body : Code := bodyOf Try.f60
def f60_fresh : Bool := false
def f60_keep : List (Nat × (List Nat × List Nat)) := []
noncomputable def f60_info : FnInfo := ⟨[.val (.struct [(.struct [(.struct [(.int .u32), (.blob 32), (.blob 32), (.int .u64)]), (.blob 32), (.int .i64), (.int .i64), (.int .i64), (.int .i64), (.int .i64), (.int .i64)]), (.int .i64), (.struct [(.struct [(.int .u32), (.blob 32), (.blob 32), (.int .u64)]), (.slice .str)]), (.slice (.blob 32))])], [.val (.int .i64)], 11, [.tmp 2], f60_body, f60_keep, f60_fresh, false⟩

/- milepost/block.Check -/
noncomputable def f94_body : Code := bodyOf Try.f94
def f94_fresh : Bool := false
def f94_keep : List (Nat × (List Nat × List Nat)) := []
noncomputable def f94_info : FnInfo := ⟨[.val (.struct [(.struct [(.int .u32), (.blob 32), (.blob 32), (.int .u64)]), (.slice .str)]), .val (.int .u32), .val (.slice (.blob 32))], [.val (.int .i64)], 31, [.tmp 6], f94_body, f94_keep, f94_fresh, false⟩

/- (milepost/chain.look).form -/
noncomputable def f59_body : Code := bodyOf Try.f59
def f59_fresh : Bool := false
def f59_keep : List (Nat × (List Nat × List Nat)) := []
noncomputable def f59_info : FnInfo := ⟨[.val (.struct [(.struct [(.struct [(.int .u32), (.blob 32), (.blob 32), (.int .u64)]), (.blob 32), (.int .i64), (.int .i64), (.int .i64), (.int .i64), (.int .i64), (.int .i64)]), (.int .i64), (.struct [(.struct [(.int .u32), (.blob 32), (.blob 32), (.int .u64)]), (.slice .str)]), (.slice (.blob 32))])], [.val (.int .i64)], 11, [.tmp 2], f59_body, f59_keep, f59_fresh, false⟩

/- (milepost/chain.look).anchor -/
noncomputable def f58_body : Code := bodyOf Try.f58
def f58_fresh : Bool := false
def f58_keep : List (Nat × (List Nat × List Nat)) := []
noncomputable def f58_info : FnInfo := ⟨[.val (.struct [(.struct [(.struct [(.int .u32), (.blob 32), (.blob 32), (.int .u64)]), (.blob 32), (.int .i64), (.int .i64), (.int .i64), (.int .i64), (.int .i64), (.int .i64)]), (.int .i64), (.struct [(.struct [(.int .u32), (.blob 32), (.blob 32), (.int .u64)]), (.slice .str)]), (.slice (.blob 32))])], [.val (.int .i64)], 15, [.tmp 2], f58_body, f58_keep, f58_fresh, false⟩

/- milepost/chain.Check -/
noncomputable def f20_body : Code := bodyOf Try.f20
def f20_fresh : Bool := false
def f20_t1 : List Nat := [2, 4, 1000005, 22, 23, 24]
def f20_o1 : List Nat := [4]
def f20_t3 : List Nat := [2, 4, 5, 6, 7, 22, 23, 24, 40, 41, 42]
def f20_o3 : List Nat := [4, 7]
def f20_keep : List (Nat × (List Nat × List Nat)) := [(1, (f20_t1, f20_o1)), (3, (f20_t3, f20_o3))]
noncomputable def f20_info : FnInfo := ⟨[.val (.struct [(.struct [(.int .u32), (.blob 32), (.blob 32), (.int .u64)]), (.blob 32), (.int .i64), (.int .i64), (.int .i64), (.int .i64), (.int .i64), (.int .i64)]), .val (.slice (.struct [(.struct [(.int .u32), (.blob 32), (.blob 32), (.int .u64)]), (.slice .str)]))], [.val (.struct [(.int .i64), (.int .i64)])], 62, [.cell 4 57], f20_body, f20_keep, f20_fresh, false⟩

/- milepost/milepostlaw25.MineGrows -/
noncomputable def f4_body : Code := bodyOf Try.f4
def f4_fresh : Bool := false
def f4_keep : List (Nat × (List Nat × List Nat)) := []
noncomputable def f4_info : FnInfo := ⟨[.val (.struct [(.struct [(.int .u32), (.blob 32), (.blob 32), (.int .u64)]), (.blob 32), (.int .i64), (.int .i64), (.int .i64), (.int .i64), (.int .i64), (.int .i64)]), .val (.slice (.struct [(.struct [(.int .u32), (.blob 32), (.blob 32), (.int .u64)]), (.slice .str)])), .val (.struct [(.blob 32), (.slice .str), (.int .u64), (.int .i64)])], [.val .bool], 70, [.tmp 6], f4_body, f4_keep, f4_fresh, false⟩

/- milepost/near.Near -/
noncomputable def f67_body : Code := bodyOf Try.f67
def f67_fresh : Bool := false
def f67_t0 : List Nat := [0, 2, 7]
def f67_o0 : List Nat := []
def f67_keep : List (Nat × (List Nat × List Nat)) := [(0, (f67_t0, f67_o0))]
noncomputable def f67_info : FnInfo := ⟨[.val (.slice (.int .i64)), .val (.int .i64), .val (.int .i64)], [.val (.int .i64)], 24, [.tmp 6], f67_body, f67_keep, f67_fresh, false⟩

/- milepost/near.All -/
noncomputable def f27_body : Code := bodyOf Try.f27
def f27_fresh : Bool := true
def f27_t0 : List Nat := [0, 1, 5, 17]
def f27_o0 : List Nat := []
def f27_keep : List (Nat × (List Nat × List Nat)) := [(0, (f27_t0, f27_o0))]
noncomputable def f27_info : FnInfo := ⟨[.val (.slice (.int .i64)), .val (.int .i64)], [.val (.slice (.int .i64))], 34, [.tmp 4], f27_body, f27_keep, f27_fresh, false⟩

/- milepost/milepostref22.Same -/
noncomputable def f64_body : Code := bodyOf Try.f64
def f64_fresh : Bool := false
def f64_t0 : List Nat := [0, 1, 5]
def f64_o0 : List Nat := []
def f64_keep : List (Nat × (List Nat × List Nat)) := [(0, (f64_t0, f64_o0))]
noncomputable def f64_info : FnInfo := ⟨[.val (.slice (.int .i64)), .val (.slice (.int .i64))], [.val .bool], 26, [.tmp 4], f64_body, f64_keep, f64_fresh, false⟩

/- milepost/milepostlaw26.awake -/
noncomputable def f23_body : Code := bodyOf Try.f23
def f23_fresh : Bool := false
def f23_keep : List (Nat × (List Nat × List Nat)) := []
noncomputable def f23_info : FnInfo := ⟨[], [.val .bool], 5, [.tmp 0], f23_body, f23_keep, f23_fresh, false⟩

/- milepost/chain.Ids -/
noncomputable def f24_body : Code := bodyOf Try.f24
def f24_fresh : Bool := true
def f24_t0 : List Nat := [3, 6, 7, 8]
def f24_o0 : List Nat := []
def f24_keep : List (Nat × (List Nat × List Nat)) := [(0, (f24_t0, f24_o0))]
noncomputable def f24_info : FnInfo := ⟨[.val (.slice (.struct [(.struct [(.int .u32), (.blob 32), (.blob 32), (.int .u64)]), (.slice .str)]))], [.val (.slice (.blob 32))], 19, [.tmp 2], f24_body, f24_keep, f24_fresh, false⟩

/- milepost/chain.Levels -/
noncomputable def f25_body : Code := bodyOf Try.f25
def f25_fresh : Bool := true
def f25_t0 : List Nat := [2, 5, 9, 10, 11]
def f25_o0 : List Nat := [2]
def f25_keep : List (Nat × (List Nat × List Nat)) := [(0, (f25_t0, f25_o0))]
noncomputable def f25_info : FnInfo := ⟨[.val (.blob 32), .val (.slice (.struct [(.struct [(.int .u32), (.blob 32), (.blob 32), (.int .u64)]), (.slice .str)]))], [.val (.slice (.int .i64))], 28, [.tmp 4], f25_body, f25_keep, f25_fresh, false⟩

/- milepost/milepostlaw26.NearVectors -/
noncomputable def f5_body : Code := bodyOf Try.f5
def f5_fresh : Bool := false
def f5_t0 : List Nat := [1, 5, 6, 7, 8]
def f5_o0 : List Nat := []
def f5_t2 : List Nat := [1, 5, 6, 7, 8, 9, 10]
def f5_o2 : List Nat := []
def f5_keep : List (Nat × (List Nat × List Nat)) := [(0, (f5_t0, f5_o0)), (2, (f5_t2, f5_o2))]
noncomputable def f5_info : FnInfo := ⟨[.val (.struct [(.struct [(.int .u32), (.blob 32), (.blob 32), (.int .u64)]), (.blob 32), (.int .i64), (.int .i64), (.int .i64), (.int .i64), (.int .i64), (.int .i64)]), .val (.slice (.struct [(.struct [(.int .u32), (.blob 32), (.blob 32), (.int .u64)]), (.slice .str)]))], [.val .bool], 90, [.tmp 4], f5_body, f5_keep, f5_fresh, false⟩

/- milepost/milepostlaw30.Much -/
noncomputable def f68_body : Code := bodyOf Try.f68
def f68_fresh : Bool := false
def f68_t0 : List Nat := [0, 3, 4]
def f68_o0 : List Nat := []
def f68_keep : List (Nat × (List Nat × List Nat)) := [(0, (f68_t0, f68_o0))]
noncomputable def f68_info : FnInfo := ⟨[.val (.slice (.struct [(.struct [(.int .u32), (.blob 32), (.blob 32), (.int .u64)]), (.struct [(.int .i64), (.int .i64), (.slice (.blob 32))])]))], [.val .bool], 42, [.tmp 2], f68_body, f68_keep, f68_fresh, false⟩

/- milepost/milepostlaw50.Much -/
noncomputable def f28_body : Code := bodyOf Try.f28
def f28_fresh : Bool := false
def f28_keep : List (Nat × (List Nat × List Nat)) := []
noncomputable def f28_info : FnInfo := ⟨[.val (.slice (.struct [(.struct [(.int .u32), (.blob 32), (.blob 32), (.int .u64)]), (.struct [(.int .i64), (.int .i64), (.slice (.blob 32))])])), .val (.struct [(.int .i64), (.slice (.struct [(.struct [(.int .u32), (.blob 32), (.blob 32), (.int .u64)]), (.struct [(.int .i64), (.int .i64), (.slice (.blob 32))])])), (.struct [(.int .i64), (.int .i64), (.slice (.blob 32))]), (.int .i64), .str, (.struct [(.int .i64), (.int .i64), (.slice (.blob 32))])])], [.val .bool], 32, [.tmp 4], f28_body, f28_keep, f28_fresh, false⟩

/- milepost/within.place -/
noncomputable def f72_body : Code := bodyOf Try.f72
def f72_fresh : Bool := false
def f72_keep : List (Nat × (List Nat × List Nat)) := []
noncomputable def f72_info : FnInfo := ⟨[.val (.int .i64), .val (.struct [(.int .i64), (.slice (.struct [(.struct [(.int .u32), (.blob 32), (.blob 32), (.int .u64)]), (.struct [(.int .i64), (.int .i64), (.slice (.blob 32))])])), (.struct [(.int .i64), (.int .i64), (.slice (.blob 32))]), (.int .i64), .str, (.struct [(.int .i64), (.int .i64), (.slice (.blob 32))])])], [.val (.int .i64)], 44, [.tmp 4], f72_body, f72_keep, f72_fresh, false⟩

/- milepost/open.Same -/
noncomputable def f130_body : Code := bodyOf Try.f130
def f130_fresh : Bool := false
def f130_t0 : List Nat := [2, 3, 29, 30]
def f130_o0 : List Nat := [2, 3]
def f130_keep : List (Nat × (List Nat × List Nat)) := [(0, (f130_t0, f130_o0))]
noncomputable def f130_info : FnInfo := ⟨[.val (.struct [(.int .i64), (.int .i64), (.slice (.blob 32))]), .val (.struct [(.int .i64), (.int .i64), (.slice (.blob 32))])], [.val .bool], 45, [.tmp 4], f130_body, f130_keep, f130_fresh, false⟩

/- milepost/open.None -/
noncomputable def f101_body : Code := bodyOf Try.f101
def f101_fresh : Bool := false
def f101_keep : List (Nat × (List Nat × List Nat)) := []
noncomputable def f101_info : FnInfo := ⟨[.val (.struct [(.int .i64), (.int .i64), (.slice (.blob 32))])], [.val .bool], 6, [.tmp 2], f101_body, f101_keep, f101_fresh, false⟩

/- milepost/rise.Above -/
noncomputable def f37_body : Code := bodyOf Try.f37
def f37_fresh : Bool := false
def f37_keep : List (Nat × (List Nat × List Nat)) := []
noncomputable def f37_info : FnInfo := ⟨[.val (.struct [(.int .u32), (.blob 32), (.blob 32), (.int .u64)]), .val (.struct [(.int .u32), (.blob 32), (.blob 32), (.int .u64)])], [.val .bool], 10, [.tmp 4], f37_body, f37_keep, f37_fresh, false⟩

/- milepost/link.Check -/
noncomputable def f79_body : Code := bodyOf Try.f79
def f79_fresh : Bool := false
def f79_keep : List (Nat × (List Nat × List Nat)) := []
noncomputable def f79_info : FnInfo := ⟨[.val (.blob 32), .val (.blob 32), .val (.struct [(.int .i64), (.int .i64), (.slice (.blob 32))])], [.val .bool], 17, [.tmp 6], f79_body, f79_keep, f79_fresh, false⟩

/- milepost/join.Holds -/
noncomputable def f38_body : Code := bodyOf Try.f38
def f38_fresh : Bool := false
def f38_keep : List (Nat × (List Nat × List Nat)) := []
noncomputable def f38_info : FnInfo := ⟨[.val (.struct [(.struct [(.int .u32), (.blob 32), (.blob 32), (.int .u64)]), (.struct [(.int .i64), (.int .i64), (.slice (.blob 32))])]), .val (.struct [(.int .u32), (.blob 32), (.blob 32), (.int .u64)])], [.val .bool], 13, [.tmp 4], f38_body, f38_keep, f38_fresh, false⟩

/- milepost/within.one -/
noncomputable def f106_body : Code := bodyOf Try.f106
def f106_fresh : Bool := false
def f106_keep : List (Nat × (List Nat × List Nat)) := []
noncomputable def f106_info : FnInfo := ⟨[.val (.blob 32), .val (.struct [(.struct [(.int .u32), (.blob 32), (.blob 32), (.int .u64)]), (.struct [(.int .i64), (.int .i64), (.slice (.blob 32))])]), .val (.struct [(.int .u32), (.blob 32), (.blob 32), (.int .u64)]), .val (.int .u32)], [.val (.int .i64)], 34, [.tmp 8], f106_body, f106_keep, f106_fresh, false⟩

/- milepost/within.inner -/
noncomputable def f73_body : Code := bodyOf Try.f73
def f73_fresh : Bool := false
def f73_t0 : List Nat := [3, 5, 7, 8, 34, 35, 36]
def f73_o0 : List Nat := [3, 5, 7, 8]
def f73_keep : List (Nat × (List Nat × List Nat)) := [(0, (f73_t0, f73_o0))]
noncomputable def f73_info : FnInfo := ⟨[.val (.blob 32), .val (.slice (.struct [(.struct [(.int .u32), (.blob 32), (.blob 32), (.int .u64)]), (.struct [(.int .i64), (.int .i64), (.slice (.blob 32))])])), .val (.struct [(.int .i64), (.slice (.struct [(.struct [(.int .u32), (.blob 32), (.blob 32), (.int .u64)]), (.struct [(.int .i64), (.int .i64), (.slice (.blob 32))])])), (.struct [(.int .i64), (.int .i64), (.slice (.blob 32))]), (.int .i64), .str, (.struct [(.int .i64), (.int .i64), (.slice (.blob 32))])])], [.val (.int .i64)], 59, [.tmp 6], f73_body, f73_keep, f73_fresh, false⟩

/- milepost/within.Block -/
noncomputable def f34_body : Code := bodyOf Try.f34
def f34_fresh : Bool := false
def f34_keep : List (Nat × (List Nat × List Nat)) := []
noncomputable def f34_info : FnInfo := ⟨[.val (.slice (.struct [(.struct [(.int .u32), (.blob 32), (.blob 32), (.int .u64)]), (.struct [(.int .i64), (.int .i64), (.slice (.blob 32))])])), .val (.struct [(.int .i64), (.slice (.struct [(.struct [(.int .u32), (.blob 32), (.blob 32), (.int .u64)]), (.struct [(.int .i64), (.int .i64), (.slice (.blob 32))])])), (.struct [(.int .i64), (.int .i64), (.slice (.blob 32))]), (.int .i64), .str, (.struct [(.int .i64), (.int .i64), (.slice (.blob 32))])])], [.val (.struct [(.int .u32), (.blob 32), (.blob 32), (.int .u64)]), .val .bool], 31, [.cell 4 49, .tmp 5], f34_body, f34_keep, f34_fresh, false⟩

/- milepost/txs.Check -/
noncomputable def f74_body : Code := bodyOf Try.f74
def f74_fresh : Bool := false
def f74_keep : List (Nat × (List Nat × List Nat)) := []
noncomputable def f74_info : FnInfo := ⟨[.val (.blob 32), .val .str, .val (.struct [(.int .i64), (.int .i64), (.slice (.blob 32))])], [.val .bool], 22, [.tmp 6], f74_body, f74_keep, f74_fresh, false⟩

/- milepost/within.Check -/
noncomputable def f30_body : Code := bodyOf Try.f30
def f30_fresh : Bool := false
def f30_keep : List (Nat × (List Nat × List Nat)) := []
noncomputable def f30_info : FnInfo := ⟨[.val (.blob 32), .val (.slice (.struct [(.struct [(.int .u32), (.blob 32), (.blob 32), (.int .u64)]), (.struct [(.int .i64), (.int .i64), (.slice (.blob 32))])])), .val (.struct [(.int .i64), (.slice (.struct [(.struct [(.int .u32), (.blob 32), (.blob 32), (.int .u64)]), (.struct [(.int .i64), (.int .i64), (.slice (.blob 32))])])), (.struct [(.int .i64), (.int .i64), (.slice (.blob 32))]), (.int .i64), .str, (.struct [(.int .i64), (.int .i64), (.slice (.blob 32))])])], [.val (.int .i64)], 39, [.tmp 6], f30_body, f30_keep, f30_fresh, false⟩

/- milepost/trail.Trail -/
noncomputable def f32_body : Code := bodyOf Try.f32
def f32_fresh : Bool := false
def f32_t0 : List Nat := [5, 9, 19, 20, 21]
def f32_o0 : List Nat := [5]
def f32_keep : List (Nat × (List Nat × List Nat)) := [(0, (f32_t0, f32_o0))]
noncomputable def f32_info : FnInfo := ⟨[.val (.blob 32), .val (.slice (.struct [(.struct [(.int .u32), (.blob 32), (.blob 32), (.int .u64)]), (.struct [(.int .i64), (.int .i64), (.slice (.blob 32))])])), .val (.struct [(.int .i64), (.slice (.struct [(.struct [(.int .u32), (.blob 32), (.blob 32), (.int .u64)]), (.struct [(.int .i64), (.int .i64), (.slice (.blob 32))])])), (.struct [(.int .i64), (.int .i64), (.slice (.blob 32))]), (.int .i64), .str, (.struct [(.int .i64), (.int .i64), (.slice (.blob 32))])])], [.val (.slice (.struct [(.struct [(.int .u32), (.blob 32), (.blob 32), (.int .u64)]), (.struct [(.int .i64), (.int .i64), (.slice (.blob 32))])])), .val (.int .i64)], 55, [.tmp 6, .tmp 7], f32_body, f32_keep, f32_fresh, false⟩

/- milepost/trail.At -/
noncomputable def f33_body : Code := bodyOf Try.f33
def f33_fresh : Bool := false
def f33_keep : List (Nat × (List Nat × List Nat)) := []
noncomputable def f33_info : FnInfo := ⟨[.val (.slice (.struct [(.struct [(.int .u32), (.blob 32), (.blob 32), (.int .u64)]), (.struct [(.int .i64), (.int .i64), (.slice (.blob 32))])])), .val (.struct [(.int .i64), (.slice (.struct [(.struct [(.int .u32), (.blob 32), (.blob 32), (.int .u64)]), (.struct [(.int .i64), (.int .i64), (.slice (.blob 32))])])), (.struct [(.int .i64), (.int .i64), (.slice (.blob 32))]), (.int .i64), .str, (.struct [(.int .i64), (.int .i64), (.slice (.blob 32))])])], [.val (.int .i64)], 20, [.tmp 4], f33_body, f33_keep, f33_fresh, false⟩

/- milepost/milepostlaw51.awake -/
noncomputable def f31_body : Code := bodyOf Try.f31
def f31_fresh : Bool := false
def f31_keep : List (Nat × (List Nat × List Nat)) := []
noncomputable def f31_info : FnInfo := ⟨[], [.val .bool], 22, [.tmp 0], f31_body, f31_keep, f31_fresh, false⟩

/- milepost/anchor.Check -/
noncomputable def f69_body : Code := bodyOf Try.f69
def f69_fresh : Bool := false
def f69_keep : List (Nat × (List Nat × List Nat)) := []
noncomputable def f69_info : FnInfo := ⟨[.val (.struct [(.int .u32), (.blob 32), (.blob 32), (.int .u64)]), .val (.slice (.struct [(.struct [(.int .u32), (.blob 32), (.blob 32), (.int .u64)]), (.struct [(.int .i64), (.int .i64), (.slice (.blob 32))])]))], [.val (.int .i64)], 23, [.tmp 4], f69_body, f69_keep, f69_fresh, false⟩

/- milepost/valid.rules -/
noncomputable def f70_body : Code := bodyOf Try.f70
def f70_fresh : Bool := true
def f70_keep : List (Nat × (List Nat × List Nat)) := []
noncomputable def f70_info : FnInfo := ⟨[.val (.struct [(.struct [(.int .u32), (.blob 32), (.blob 32), (.int .u64)]), (.blob 32), (.int .i64), (.int .i64), (.int .i64), (.int .i64), (.int .i64), (.int .i64)]), .val (.slice (.struct [(.struct [(.int .u32), (.blob 32), (.blob 32), (.int .u64)]), (.struct [(.int .i64), (.int .i64), (.slice (.blob 32))])]))], [.val (.slice (.struct [(.clos [(102, ([], [0])), (103, ([], [0, 1])), (104, ([], [0]))] [(.pat (.slice (.struct [(.struct [(.int .u32), (.blob 32), (.blob 32), (.int .u64)]), (.struct [(.int .i64), (.int .i64), (.slice (.blob 32))])]))), (.pat (.struct [(.struct [(.int .u32), (.blob 32), (.blob 32), (.int .u64)]), (.blob 32), (.int .i64), (.int .i64), (.int .i64), (.int .i64), (.int .i64), (.int .i64)]))]), (.int .i64)]))], 12, [.tmp 4], f70_body, f70_keep, f70_fresh, false⟩

/- milepost/valid.rules$3 -/
noncomputable def f104_body : Code := bodyOf Try.f104
def f104_fresh : Bool := false
def f104_keep : List (Nat × (List Nat × List Nat)) := []
noncomputable def f104_info : FnInfo := ⟨[.val (.int .i64), .val (.pat (.slice (.struct [(.struct [(.int .u32), (.blob 32), (.blob 32), (.int .u64)]), (.struct [(.int .i64), (.int .i64), (.slice (.blob 32))])])))], [.val .bool], 19, [.tmp 3], f104_body, f104_keep, f104_fresh, false⟩

/- milepost/valid.rules$2 -/
noncomputable def f103_body : Code := bodyOf Try.f103
def f103_fresh : Bool := false
def f103_keep : List (Nat × (List Nat × List Nat)) := []
noncomputable def f103_info : FnInfo := ⟨[.val (.int .i64), .val (.pat (.slice (.struct [(.struct [(.int .u32), (.blob 32), (.blob 32), (.int .u64)]), (.struct [(.int .i64), (.int .i64), (.slice (.blob 32))])]))), .val (.pat (.struct [(.struct [(.int .u32), (.blob 32), (.blob 32), (.int .u64)]), (.blob 32), (.int .i64), (.int .i64), (.int .i64), (.int .i64), (.int .i64), (.int .i64)]))], [.val .bool], 14, [.tmp 4], f103_body, f103_keep, f103_fresh, false⟩

/- milepost/valid.rules$1 -/
noncomputable def f102_body : Code := bodyOf Try.f102
def f102_fresh : Bool := false
def f102_keep : List (Nat × (List Nat × List Nat)) := []
noncomputable def f102_info : FnInfo := ⟨[.val (.int .i64), .val (.pat (.slice (.struct [(.struct [(.int .u32), (.blob 32), (.blob 32), (.int .u64)]), (.struct [(.int .i64), (.int .i64), (.slice (.blob 32))])])))], [.val .bool], 20, [.tmp 3], f102_body, f102_keep, f102_fresh, false⟩

/- milepost/rise.Next -/
noncomputable def f131_body : Code := bodyOf Try.f131
def f131_fresh : Bool := false
def f131_keep : List (Nat × (List Nat × List Nat)) := []
noncomputable def f131_info : FnInfo := ⟨[.val (.struct [(.int .u32), (.blob 32), (.blob 32), (.int .u64)]), .val (.struct [(.int .u32), (.blob 32), (.blob 32), (.int .u64)])], [.val .bool], 16, [.tmp 4], f131_body, f131_keep, f131_fresh, false⟩

/- milepost/tail.Len -/
noncomputable def f105_body : Code := bodyOf Try.f105
def f105_fresh : Bool := false
def f105_t0 : List Nat := [0, 3, 4]
def f105_o0 : List Nat := []
def f105_keep : List (Nat × (List Nat × List Nat)) := [(0, (f105_t0, f105_o0))]
noncomputable def f105_info : FnInfo := ⟨[.val (.slice (.struct [(.struct [(.int .u32), (.blob 32), (.blob 32), (.int .u64)]), (.struct [(.int .i64), (.int .i64), (.slice (.blob 32))])]))], [.val (.int .i64)], 38, [.tmp 2], f105_body, f105_keep, f105_fresh, false⟩

/- milepost/tail.Check -/
noncomputable def f71_body : Code := bodyOf Try.f71
def f71_fresh : Bool := false
def f71_keep : List (Nat × (List Nat × List Nat)) := []
noncomputable def f71_info : FnInfo := ⟨[.val (.slice (.struct [(.struct [(.int .u32), (.blob 32), (.blob 32), (.int .u64)]), (.struct [(.int .i64), (.int .i64), (.slice (.blob 32))])])), .val (.int .i64)], [.val (.int .i64)], 9, [.tmp 4], f71_body, f71_keep, f71_fresh, false⟩

/- milepost/valid.Check -/
noncomputable def f29_body : Code := bodyOf Try.f29
def f29_fresh : Bool := false
def f29_t0 : List Nat := [1, 2, 4, 6, 23, 24]
def f29_o0 : List Nat := [4]
def f29_t2 : List Nat := [1, 2, 4, 6, 7, 23, 24, 27, 28, 29]
def f29_o2 : List Nat := [4]
def f29_keep : List (Nat × (List Nat × List Nat)) := [(0, (f29_t0, f29_o0)), (2, (f29_t2, f29_o2))]
noncomputable def f29_info : FnInfo := ⟨[.val (.struct [(.struct [(.int .u32), (.blob 32), (.blob 32), (.int .u64)]), (.blob 32), (.int .i64), (.int .i64), (.int .i64), (.int .i64), (.int .i64), (.int .i64)]), .val (.slice (.struct [(.struct [(.int .u32), (.blob 32), (.blob 32), (.int .u64)]), (.struct [(.int .i64), (.int .i64), (.slice (.blob 32))])]))], [.val (.struct [(.int .i64), (.int .i64)])], 55, [.cell 4 57], f29_body, f29_keep, f29_fresh, false⟩

/- milepost/milepostlaw51.TrailLeads -/
noncomputable def f6_body : Code := bodyOf Try.f6
def f6_fresh : Bool := false
def f6_t0 : List Nat := [3, 7, 12]
def f6_o0 : List Nat := []
def f6_keep : List (Nat × (List Nat × List Nat)) := [(0, (f6_t0, f6_o0))]
noncomputable def f6_info : FnInfo := ⟨[.val (.struct [(.struct [(.int .u32), (.blob 32), (.blob 32), (.int .u64)]), (.blob 32), (.int .i64), (.int .i64), (.int .i64), (.int .i64), (.int .i64), (.int .i64)]), .val (.slice (.struct [(.struct [(.int .u32), (.blob 32), (.blob 32), (.int .u64)]), (.struct [(.int .i64), (.int .i64), (.slice (.blob 32))])])), .val (.struct [(.int .i64), (.slice (.struct [(.struct [(.int .u32), (.blob 32), (.blob 32), (.int .u64)]), (.struct [(.int .i64), (.int .i64), (.slice (.blob 32))])])), (.struct [(.int .i64), (.int .i64), (.slice (.blob 32))]), (.int .i64), .str, (.struct [(.int .i64), (.int .i64), (.slice (.blob 32))])])], [.val .bool], 150, [.tmp 6], f6_body, f6_keep, f6_fresh, false⟩

/- milepost/down.far -/
noncomputable def f80_body : Code := bodyOf Try.f80
def f80_fresh : Bool := false
def f80_t0 : List Nat := [1, 6, 7, 10, 11, 12]
def f80_o0 : List Nat := []
def f80_keep : List (Nat × (List Nat × List Nat)) := [(0, (f80_t0, f80_o0))]
noncomputable def f80_info : FnInfo := ⟨[.val (.slice (.int .i64)), .val (.int .i64)], [.val (.int .i64), .val .bool], 32, [.tmp 4, .tmp 5], f80_body, f80_keep, f80_fresh, false⟩

/- milepost/down.Walk -/
noncomputable def f40_body : Code := bodyOf Try.f40
def f40_fresh : Bool := true
def f40_t0 : List Nat := [0, 1, 2, 7]
def f40_o0 : List Nat := []
def f40_keep : List (Nat × (List Nat × List Nat)) := [(0, (f40_t0, f40_o0))]
noncomputable def f40_info : FnInfo := ⟨[.val (.slice (.int .i64)), .val (.int .i64), .val (.int .i64)], [.val (.slice (.int .i64))], 44, [.tmp 6], f40_body, f40_keep, f40_fresh, false⟩

/- milepost/down.Index -/
noncomputable def f41_body : Code := bodyOf Try.f41
def f41_fresh : Bool := false
def f41_t0 : List Nat := [2, 11, 12, 13]
def f41_o0 : List Nat := []
def f41_keep : List (Nat × (List Nat × List Nat)) := [(0, (f41_t0, f41_o0))]
noncomputable def f41_info : FnInfo := ⟨[.val (.slice (.int .i64)), .val (.int .i64), .val (.int .i64)], [.val (.int .i64)], 23, [.tmp 6], f41_body, f41_keep, f41_fresh, false⟩

/- milepost/milepostlaw27.awake -/
noncomputable def f39_body : Code := bodyOf Try.f39
def f39_fresh : Bool := false
def f39_keep : List (Nat × (List Nat × List Nat)) := []
noncomputable def f39_info : FnInfo := ⟨[], [.val .bool], 10, [.tmp 0], f39_body, f39_keep, f39_fresh, false⟩

/- milepost/milepostlaw27.DownChain -/
noncomputable def f7_body : Code := bodyOf Try.f7
def f7_fresh : Bool := false
def f7_t0 : List Nat := [1, 5, 6, 7, 8]
def f7_o0 : List Nat := []
def f7_t2 : List Nat := [1, 5, 6, 7, 8, 9]
def f7_o2 : List Nat := []
def f7_t4 : List Nat := [1, 5, 6, 7, 8, 9, 10, 11]
def f7_o4 : List Nat := []
def f7_keep : List (Nat × (List Nat × List Nat)) := [(0, (f7_t0, f7_o0)), (2, (f7_t2, f7_o2)), (4, (f7_t4, f7_o4))]
noncomputable def f7_info : FnInfo := ⟨[.val (.struct [(.struct [(.int .u32), (.blob 32), (.blob 32), (.int .u64)]), (.blob 32), (.int .i64), (.int .i64), (.int .i64), (.int .i64), (.int .i64), (.int .i64)]), .val (.slice (.struct [(.struct [(.int .u32), (.blob 32), (.blob 32), (.int .u64)]), (.slice .str)]))], [.val .bool], 146, [.tmp 4], f7_body, f7_keep, f7_fresh, false⟩

noncomputable def G : Env := {
  ty := [(3, (.int .i64)), (4, .bool), (5, (.int .u8)), (9, .str), (22, (.slice .str)), (23, (.slice (.int .i64))), (26, (.slice (.blob 32))), (28, (.struct [(.int .i64), (.slice (.int .i64)), (.slice (.blob 32))])), (29, (.int .i64)), (34, (.blob 32)), (38, (.struct [(.int .i64), (.int .i64), (.slice (.blob 32))])), (46, (.int .u32)), (47, (.int .u64)), (49, (.struct [(.int .u32), (.blob 32), (.blob 32), (.int .u64)])), (51, (.struct [(.struct [(.int .u32), (.blob 32), (.blob 32), (.int .u64)]), (.blob 32), (.int .i64), (.int .i64), (.int .i64), (.int .i64), (.int .i64), (.int .i64)])), (52, (.slice (.struct [(.struct [(.int .u32), (.blob 32), (.blob 32), (.int .u64)]), (.slice .str)]))), (54, (.struct [(.blob 32), (.slice .str), (.int .u64), (.int .i64)])), (57, (.struct [(.int .i64), (.int .i64)])), (60, (.struct [(.struct [(.int .u32), (.blob 32), (.blob 32), (.int .u64)]), (.slice .str)])), (66, (.slice (.slice (.blob 32)))), (70, (.slice (.struct [(.struct [(.int .u32), (.blob 32), (.blob 32), (.int .u64)]), (.struct [(.int .i64), (.int .i64), (.slice (.blob 32))])]))), (72, (.struct [(.int .i64), (.slice (.struct [(.struct [(.int .u32), (.blob 32), (.blob 32), (.int .u64)]), (.struct [(.int .i64), (.int .i64), (.slice (.blob 32))])])), (.struct [(.int .i64), (.int .i64), (.slice (.blob 32))]), (.int .i64), .str, (.struct [(.int .i64), (.int .i64), (.slice (.blob 32))])])), (82, (.struct [(.struct [(.int .u32), (.blob 32), (.blob 32), (.int .u64)]), (.struct [(.int .i64), (.int .i64), (.slice (.blob 32))])])), (100, (.struct [(.slice .str), (.slice (.blob 32))])), (110, (.struct [(.struct [(.struct [(.int .u32), (.blob 32), (.blob 32), (.int .u64)]), (.blob 32), (.int .i64), (.int .i64), (.int .i64), (.int .i64), (.int .i64), (.int .i64)]), (.int .i64), (.struct [(.struct [(.int .u32), (.blob 32), (.blob 32), (.int .u64)]), (.slice .str)]), (.slice (.blob 32))])), (111, (.clos [(58, ([0], [])), (59, ([0], [])), (60, ([0], []))] [(.struct [(.struct [(.struct [(.int .u32), (.blob 32), (.blob 32), (.int .u64)]), (.blob 32), (.int .i64), (.int .i64), (.int .i64), (.int .i64), (.int .i64), (.int .i64)]), (.int .i64), (.struct [(.struct [(.int .u32), (.blob 32), (.blob 32), (.int .u64)]), (.slice .str)]), (.slice (.blob 32))])])), (112, (.slice (.clos [(58, ([0], [])), (59, ([0], [])), (60, ([0], []))] [(.struct [(.struct [(.struct [(.int .u32), (.blob 32), (.blob 32), (.int .u64)]), (.blob 32), (.int .i64), (.int .i64), (.int .i64), (.int .i64), (.int .i64), (.int .i64)]), (.int .i64), (.struct [(.struct [(.int .u32), (.blob 32), (.blob 32), (.int .u64)]), (.slice .str)]), (.slice (.blob 32))])]))), (121, (.slice (.struct [(.clos [(102, ([], [0])), (103, ([], [0, 1])), (104, ([], [0]))] [(.pat (.slice (.struct [(.struct [(.int .u32), (.blob 32), (.blob 32), (.int .u64)]), (.struct [(.int .i64), (.int .i64), (.slice (.blob 32))])]))), (.pat (.struct [(.struct [(.int .u32), (.blob 32), (.blob 32), (.int .u64)]), (.blob 32), (.int .i64), (.int .i64), (.int .i64), (.int .i64), (.int .i64), (.int .i64)]))]), (.int .i64)]))), (123, (.clos [(102, ([], [0])), (103, ([], [0, 1])), (104, ([], [0]))] [(.pat (.slice (.struct [(.struct [(.int .u32), (.blob 32), (.blob 32), (.int .u64)]), (.struct [(.int .i64), (.int .i64), (.slice (.blob 32))])]))), (.pat (.struct [(.struct [(.int .u32), (.blob 32), (.blob 32), (.int .u64)]), (.blob 32), (.int .i64), (.int .i64), (.int .i64), (.int .i64), (.int .i64), (.int .i64)]))])), (125, (.struct [(.clos [(102, ([], [0])), (103, ([], [0, 1])), (104, ([], [0]))] [(.pat (.slice (.struct [(.struct [(.int .u32), (.blob 32), (.blob 32), (.int .u64)]), (.struct [(.int .i64), (.int .i64), (.slice (.blob 32))])]))), (.pat (.struct [(.struct [(.int .u32), (.blob 32), (.blob 32), (.int .u64)]), (.blob 32), (.int .i64), (.int .i64), (.int .i64), (.int .i64), (.int .i64), (.int .i64)]))]), (.int .i64)])), (130, (.arr 4 (.int .u64))), (154, (.slice (.int .u8))), (160, (.arr 8 (.int .u32))), (167, (.slice .bool)), (169, (.int .u64)), (176, (.arr 64 (.int .u32))), (185, (.arr 8 (.int .u32))), (187, (.struct [(.arr 8 (.int .u32)), .str, (.int .u64), .bool])), (191, (.slice (.int .u32)))]
  bytes := [(22, 16), (23, 8), (26, 32), (52, 104), (66, 24), (70, 120), (154, 1)]
  fns := [(149, f149_info), (154, f154_info), (127, f127_info), (8, f8_info), (43, f43_info), (51, f51_info), (52, f52_info), (81, f81_info), (42, f42_info), (9, f9_info), (136, f136_info), (115, f115_info), (133, f133_info), (146, f146_info), (132, f132_info), (158, f158_info), (153, f153_info), (151, f151_info), (152, f152_info), (147, f147_info), (134, f134_info), (137, f137_info), (112, f112_info), (148, f148_info), (111, f111_info), (135, f135_info), (109, f109_info), (84, f84_info), (83, f83_info), (45, f45_info), (114, f114_info), (125, f125_info), (91, f91_info), (82, f82_info), (44, f44_info), (10, f10_info), (11, f11_info), (120, f120_info), (123, f123_info), (116, f116_info), (119, f119_info), (117, f117_info), (150, f150_info), (139, f139_info), (138, f138_info), (140, f140_info), (118, f118_info), (85, f85_info), (89, f89_info), (48, f48_info), (87, f87_info), (121, f121_info), (122, f122_info), (88, f88_info), (47, f47_info), (86, f86_info), (46, f46_info), (12, f12_info), (50, f50_info), (54, f54_info), (124, f124_info), (90, f90_info), (49, f49_info), (13, f13_info), (53, f53_info), (14, f14_info), (55, f55_info), (15, f15_info), (56, f56_info), (16, f16_info), (126, f126_info), (92, f92_info), (93, f93_info), (57, f57_info), (17, f17_info), (3, f3_info), (97, f97_info), (113, f113_info), (144, f144_info), (143, f143_info), (128, f128_info), (107, f107_info), (145, f145_info), (129, f129_info), (98, f98_info), (78, f78_info), (110, f110_info), (77, f77_info), (36, f36_info), (108, f108_info), (76, f76_info), (75, f75_info), (35, f35_info), (99, f99_info), (63, f63_info), (62, f62_info), (65, f65_info), (95, f95_info), (100, f100_info), (66, f66_info), (96, f96_info), (61, f61_info), (26, f26_info), (22, f22_info), (21, f21_info), (19, f19_info), (18, f18_info), (60, f60_info), (94, f94_info), (59, f59_info), (58, f58_info), (20, f20_info), (4, f4_info), (67, f67_info), (27, f27_info), (64, f64_info), (23, f23_info), (24, f24_info), (25, f25_info), (5, f5_info), (68, f68_info), (28, f28_info), (72, f72_info), (130, f130_info), (101, f101_info), (37, f37_info), (79, f79_info), (38, f38_info), (106, f106_info), (73, f73_info), (34, f34_info), (74, f74_info), (30, f30_info), (32, f32_info), (33, f33_info), (31, f31_info), (69, f69_info), (70, f70_info), (104, f104_info), (103, f103_info), (102, f102_info), (131, f131_info), (105, f105_info), (71, f71_info), (29, f29_info), (6, f6_info), (80, f80_info), (40, f40_info), (41, f41_info), (39, f39_info), (7, f7_info)]
  ptrs := [171]
  made := [70]
  froz := [51, 70] }

theorem f149_at : assoc G.fns 149 = some f149_info := by kernel_rfl
theorem f149_out : f149_info.ext = true := rfl

theorem f154_at : assoc G.fns 154 = some f154_info := by kernel_rfl
theorem f154_out : f154_info.ext = true := rfl

theorem f127_at : assoc G.fns 127 = some f127_info := by kernel_rfl
theorem f127_out : f127_info.ext = true := rfl

theorem f8_at : assoc G.fns 8 = some f8_info := by kernel_rfl
theorem f8_in : f8_info.ext = false := rfl

theorem f43_at : assoc G.fns 43 = some f43_info := by kernel_rfl
theorem f43_in : f43_info.ext = false := rfl

theorem f51_at : assoc G.fns 51 = some f51_info := by kernel_rfl
theorem f51_in : f51_info.ext = false := rfl

theorem f52_at : assoc G.fns 52 = some f52_info := by kernel_rfl
theorem f52_in : f52_info.ext = false := rfl

theorem f81_at : assoc G.fns 81 = some f81_info := by kernel_rfl
theorem f81_in : f81_info.ext = false := rfl

theorem f42_at : assoc G.fns 42 = some f42_info := by kernel_rfl
theorem f42_in : f42_info.ext = false := rfl

theorem f9_at : assoc G.fns 9 = some f9_info := by kernel_rfl
theorem f9_in : f9_info.ext = false := rfl

theorem f136_at : assoc G.fns 136 = some f136_info := by kernel_rfl
theorem f136_in : f136_info.ext = false := rfl

theorem f115_at : assoc G.fns 115 = some f115_info := by kernel_rfl
theorem f115_in : f115_info.ext = false := rfl

theorem f133_at : assoc G.fns 133 = some f133_info := by kernel_rfl
theorem f133_in : f133_info.ext = false := rfl

theorem f146_at : assoc G.fns 146 = some f146_info := by kernel_rfl
theorem f146_in : f146_info.ext = false := rfl

theorem f132_at : assoc G.fns 132 = some f132_info := by kernel_rfl
theorem f132_in : f132_info.ext = false := rfl

theorem f158_at : assoc G.fns 158 = some f158_info := by kernel_rfl
theorem f158_in : f158_info.ext = false := rfl

theorem f153_at : assoc G.fns 153 = some f153_info := by kernel_rfl
theorem f153_in : f153_info.ext = false := rfl

theorem f151_at : assoc G.fns 151 = some f151_info := by kernel_rfl
theorem f151_in : f151_info.ext = false := rfl

theorem f152_at : assoc G.fns 152 = some f152_info := by kernel_rfl
theorem f152_in : f152_info.ext = false := rfl

theorem f147_at : assoc G.fns 147 = some f147_info := by kernel_rfl
theorem f147_in : f147_info.ext = false := rfl

theorem f134_at : assoc G.fns 134 = some f134_info := by kernel_rfl
theorem f134_in : f134_info.ext = false := rfl

theorem f137_at : assoc G.fns 137 = some f137_info := by kernel_rfl
theorem f137_in : f137_info.ext = false := rfl

theorem f112_at : assoc G.fns 112 = some f112_info := by kernel_rfl
theorem f112_in : f112_info.ext = false := rfl

theorem f148_at : assoc G.fns 148 = some f148_info := by kernel_rfl
theorem f148_in : f148_info.ext = false := rfl

theorem f111_at : assoc G.fns 111 = some f111_info := by kernel_rfl
theorem f111_in : f111_info.ext = false := rfl

theorem f135_at : assoc G.fns 135 = some f135_info := by kernel_rfl
theorem f135_in : f135_info.ext = false := rfl

theorem f109_at : assoc G.fns 109 = some f109_info := by kernel_rfl
theorem f109_in : f109_info.ext = false := rfl

theorem f84_at : assoc G.fns 84 = some f84_info := by kernel_rfl
theorem f84_in : f84_info.ext = false := rfl

theorem f83_at : assoc G.fns 83 = some f83_info := by kernel_rfl
theorem f83_in : f83_info.ext = false := rfl

theorem f45_at : assoc G.fns 45 = some f45_info := by kernel_rfl
theorem f45_in : f45_info.ext = false := rfl

theorem f114_at : assoc G.fns 114 = some f114_info := by kernel_rfl
theorem f114_in : f114_info.ext = false := rfl

theorem f125_at : assoc G.fns 125 = some f125_info := by kernel_rfl
theorem f125_in : f125_info.ext = false := rfl

theorem f91_at : assoc G.fns 91 = some f91_info := by kernel_rfl
theorem f91_in : f91_info.ext = false := rfl

theorem f82_at : assoc G.fns 82 = some f82_info := by kernel_rfl
theorem f82_in : f82_info.ext = false := rfl

theorem f44_at : assoc G.fns 44 = some f44_info := by kernel_rfl
theorem f44_in : f44_info.ext = false := rfl

theorem f10_at : assoc G.fns 10 = some f10_info := by kernel_rfl
theorem f10_in : f10_info.ext = false := rfl

theorem f11_at : assoc G.fns 11 = some f11_info := by kernel_rfl
theorem f11_in : f11_info.ext = false := rfl

theorem f120_at : assoc G.fns 120 = some f120_info := by kernel_rfl
theorem f120_in : f120_info.ext = false := rfl

theorem f123_at : assoc G.fns 123 = some f123_info := by kernel_rfl
theorem f123_in : f123_info.ext = false := rfl

theorem f116_at : assoc G.fns 116 = some f116_info := by kernel_rfl
theorem f116_in : f116_info.ext = false := rfl

theorem f119_at : assoc G.fns 119 = some f119_info := by kernel_rfl
theorem f119_in : f119_info.ext = false := rfl

theorem f117_at : assoc G.fns 117 = some f117_info := by kernel_rfl
theorem f117_in : f117_info.ext = false := rfl

theorem f150_at : assoc G.fns 150 = some f150_info := by kernel_rfl
theorem f150_in : f150_info.ext = false := rfl

theorem f139_at : assoc G.fns 139 = some f139_info := by kernel_rfl
theorem f139_in : f139_info.ext = false := rfl

theorem f138_at : assoc G.fns 138 = some f138_info := by kernel_rfl
theorem f138_in : f138_info.ext = false := rfl

theorem f140_at : assoc G.fns 140 = some f140_info := by kernel_rfl
theorem f140_in : f140_info.ext = false := rfl

theorem f118_at : assoc G.fns 118 = some f118_info := by kernel_rfl
theorem f118_in : f118_info.ext = false := rfl

theorem f85_at : assoc G.fns 85 = some f85_info := by kernel_rfl
theorem f85_in : f85_info.ext = false := rfl

theorem f89_at : assoc G.fns 89 = some f89_info := by kernel_rfl
theorem f89_in : f89_info.ext = false := rfl

theorem f48_at : assoc G.fns 48 = some f48_info := by kernel_rfl
theorem f48_in : f48_info.ext = false := rfl

theorem f87_at : assoc G.fns 87 = some f87_info := by kernel_rfl
theorem f87_in : f87_info.ext = false := rfl

theorem f121_at : assoc G.fns 121 = some f121_info := by kernel_rfl
theorem f121_in : f121_info.ext = false := rfl

theorem f122_at : assoc G.fns 122 = some f122_info := by kernel_rfl
theorem f122_in : f122_info.ext = false := rfl

theorem f88_at : assoc G.fns 88 = some f88_info := by kernel_rfl
theorem f88_in : f88_info.ext = false := rfl

theorem f47_at : assoc G.fns 47 = some f47_info := by kernel_rfl
theorem f47_in : f47_info.ext = false := rfl

theorem f86_at : assoc G.fns 86 = some f86_info := by kernel_rfl
theorem f86_in : f86_info.ext = false := rfl

theorem f46_at : assoc G.fns 46 = some f46_info := by kernel_rfl
theorem f46_in : f46_info.ext = false := rfl

theorem f12_at : assoc G.fns 12 = some f12_info := by kernel_rfl
theorem f12_in : f12_info.ext = false := rfl

theorem f50_at : assoc G.fns 50 = some f50_info := by kernel_rfl
theorem f50_in : f50_info.ext = false := rfl

theorem f54_at : assoc G.fns 54 = some f54_info := by kernel_rfl
theorem f54_in : f54_info.ext = false := rfl

theorem f124_at : assoc G.fns 124 = some f124_info := by kernel_rfl
theorem f124_in : f124_info.ext = false := rfl

theorem f90_at : assoc G.fns 90 = some f90_info := by kernel_rfl
theorem f90_in : f90_info.ext = false := rfl

theorem f49_at : assoc G.fns 49 = some f49_info := by kernel_rfl
theorem f49_in : f49_info.ext = false := rfl

theorem f13_at : assoc G.fns 13 = some f13_info := by kernel_rfl
theorem f13_in : f13_info.ext = false := rfl

theorem f53_at : assoc G.fns 53 = some f53_info := by kernel_rfl
theorem f53_in : f53_info.ext = false := rfl

theorem f14_at : assoc G.fns 14 = some f14_info := by kernel_rfl
theorem f14_in : f14_info.ext = false := rfl

theorem f55_at : assoc G.fns 55 = some f55_info := by kernel_rfl
theorem f55_in : f55_info.ext = false := rfl

theorem f15_at : assoc G.fns 15 = some f15_info := by kernel_rfl
theorem f15_in : f15_info.ext = false := rfl

theorem f56_at : assoc G.fns 56 = some f56_info := by kernel_rfl
theorem f56_in : f56_info.ext = false := rfl

theorem f16_at : assoc G.fns 16 = some f16_info := by kernel_rfl
theorem f16_in : f16_info.ext = false := rfl

theorem f126_at : assoc G.fns 126 = some f126_info := by kernel_rfl
theorem f126_in : f126_info.ext = false := rfl

theorem f92_at : assoc G.fns 92 = some f92_info := by kernel_rfl
theorem f92_in : f92_info.ext = false := rfl

theorem f93_at : assoc G.fns 93 = some f93_info := by kernel_rfl
theorem f93_in : f93_info.ext = false := rfl

theorem f57_at : assoc G.fns 57 = some f57_info := by kernel_rfl
theorem f57_in : f57_info.ext = false := rfl

theorem f17_at : assoc G.fns 17 = some f17_info := by kernel_rfl
theorem f17_in : f17_info.ext = false := rfl

theorem f3_at : assoc G.fns 3 = some f3_info := by kernel_rfl
theorem f3_in : f3_info.ext = false := rfl

theorem f97_at : assoc G.fns 97 = some f97_info := by kernel_rfl
theorem f97_in : f97_info.ext = false := rfl

theorem f113_at : assoc G.fns 113 = some f113_info := by kernel_rfl
theorem f113_in : f113_info.ext = false := rfl

theorem f144_at : assoc G.fns 144 = some f144_info := by kernel_rfl
theorem f144_in : f144_info.ext = false := rfl

theorem f143_at : assoc G.fns 143 = some f143_info := by kernel_rfl
theorem f143_in : f143_info.ext = false := rfl

theorem f128_at : assoc G.fns 128 = some f128_info := by kernel_rfl
theorem f128_in : f128_info.ext = false := rfl

theorem f107_at : assoc G.fns 107 = some f107_info := by kernel_rfl
theorem f107_in : f107_info.ext = false := rfl

theorem f145_at : assoc G.fns 145 = some f145_info := by kernel_rfl
theorem f145_in : f145_info.ext = false := rfl

theorem f129_at : assoc G.fns 129 = some f129_info := by kernel_rfl
theorem f129_in : f129_info.ext = false := rfl

theorem f98_at : assoc G.fns 98 = some f98_info := by kernel_rfl
theorem f98_in : f98_info.ext = false := rfl

theorem f78_at : assoc G.fns 78 = some f78_info := by kernel_rfl
theorem f78_in : f78_info.ext = false := rfl

theorem f110_at : assoc G.fns 110 = some f110_info := by kernel_rfl
theorem f110_in : f110_info.ext = false := rfl

theorem f77_at : assoc G.fns 77 = some f77_info := by kernel_rfl
theorem f77_in : f77_info.ext = false := rfl

theorem f36_at : assoc G.fns 36 = some f36_info := by kernel_rfl
theorem f36_in : f36_info.ext = false := rfl

theorem f108_at : assoc G.fns 108 = some f108_info := by kernel_rfl
theorem f108_in : f108_info.ext = false := rfl

theorem f76_at : assoc G.fns 76 = some f76_info := by kernel_rfl
theorem f76_in : f76_info.ext = false := rfl

theorem f75_at : assoc G.fns 75 = some f75_info := by kernel_rfl
theorem f75_in : f75_info.ext = false := rfl

theorem f35_at : assoc G.fns 35 = some f35_info := by kernel_rfl
theorem f35_in : f35_info.ext = false := rfl

theorem f99_at : assoc G.fns 99 = some f99_info := by kernel_rfl
theorem f99_in : f99_info.ext = false := rfl

theorem f63_at : assoc G.fns 63 = some f63_info := by kernel_rfl
theorem f63_in : f63_info.ext = false := rfl

theorem f62_at : assoc G.fns 62 = some f62_info := by kernel_rfl
theorem f62_in : f62_info.ext = false := rfl

theorem f65_at : assoc G.fns 65 = some f65_info := by kernel_rfl
theorem f65_in : f65_info.ext = false := rfl

theorem f95_at : assoc G.fns 95 = some f95_info := by kernel_rfl
theorem f95_in : f95_info.ext = false := rfl

theorem f100_at : assoc G.fns 100 = some f100_info := by kernel_rfl
theorem f100_in : f100_info.ext = false := rfl

theorem f66_at : assoc G.fns 66 = some f66_info := by kernel_rfl
theorem f66_in : f66_info.ext = false := rfl

theorem f96_at : assoc G.fns 96 = some f96_info := by kernel_rfl
theorem f96_in : f96_info.ext = false := rfl

theorem f61_at : assoc G.fns 61 = some f61_info := by kernel_rfl
theorem f61_in : f61_info.ext = false := rfl

theorem f26_at : assoc G.fns 26 = some f26_info := by kernel_rfl
theorem f26_in : f26_info.ext = false := rfl

theorem f22_at : assoc G.fns 22 = some f22_info := by kernel_rfl
theorem f22_in : f22_info.ext = false := rfl

theorem f21_at : assoc G.fns 21 = some f21_info := by kernel_rfl
theorem f21_in : f21_info.ext = false := rfl

theorem f19_at : assoc G.fns 19 = some f19_info := by kernel_rfl
theorem f19_in : f19_info.ext = false := rfl

theorem f18_at : assoc G.fns 18 = some f18_info := by kernel_rfl
theorem f18_in : f18_info.ext = false := rfl

theorem f60_at : assoc G.fns 60 = some f60_info := by kernel_rfl
theorem f60_in : f60_info.ext = false := rfl

theorem f94_at : assoc G.fns 94 = some f94_info := by kernel_rfl
theorem f94_in : f94_info.ext = false := rfl

theorem f59_at : assoc G.fns 59 = some f59_info := by kernel_rfl
theorem f59_in : f59_info.ext = false := rfl

theorem f58_at : assoc G.fns 58 = some f58_info := by kernel_rfl
theorem f58_in : f58_info.ext = false := rfl

theorem f20_at : assoc G.fns 20 = some f20_info := by kernel_rfl
theorem f20_in : f20_info.ext = false := rfl

theorem f4_at : assoc G.fns 4 = some f4_info := by kernel_rfl
theorem f4_in : f4_info.ext = false := rfl

theorem f67_at : assoc G.fns 67 = some f67_info := by kernel_rfl
theorem f67_in : f67_info.ext = false := rfl

theorem f27_at : assoc G.fns 27 = some f27_info := by kernel_rfl
theorem f27_in : f27_info.ext = false := rfl

theorem f64_at : assoc G.fns 64 = some f64_info := by kernel_rfl
theorem f64_in : f64_info.ext = false := rfl

theorem f23_at : assoc G.fns 23 = some f23_info := by kernel_rfl
theorem f23_in : f23_info.ext = false := rfl

theorem f24_at : assoc G.fns 24 = some f24_info := by kernel_rfl
theorem f24_in : f24_info.ext = false := rfl

theorem f25_at : assoc G.fns 25 = some f25_info := by kernel_rfl
theorem f25_in : f25_info.ext = false := rfl

theorem f5_at : assoc G.fns 5 = some f5_info := by kernel_rfl
theorem f5_in : f5_info.ext = false := rfl

theorem f68_at : assoc G.fns 68 = some f68_info := by kernel_rfl
theorem f68_in : f68_info.ext = false := rfl

theorem f28_at : assoc G.fns 28 = some f28_info := by kernel_rfl
theorem f28_in : f28_info.ext = false := rfl

theorem f72_at : assoc G.fns 72 = some f72_info := by kernel_rfl
theorem f72_in : f72_info.ext = false := rfl

theorem f130_at : assoc G.fns 130 = some f130_info := by kernel_rfl
theorem f130_in : f130_info.ext = false := rfl

theorem f101_at : assoc G.fns 101 = some f101_info := by kernel_rfl
theorem f101_in : f101_info.ext = false := rfl

theorem f37_at : assoc G.fns 37 = some f37_info := by kernel_rfl
theorem f37_in : f37_info.ext = false := rfl

theorem f79_at : assoc G.fns 79 = some f79_info := by kernel_rfl
theorem f79_in : f79_info.ext = false := rfl

theorem f38_at : assoc G.fns 38 = some f38_info := by kernel_rfl
theorem f38_in : f38_info.ext = false := rfl

theorem f106_at : assoc G.fns 106 = some f106_info := by kernel_rfl
theorem f106_in : f106_info.ext = false := rfl

theorem f73_at : assoc G.fns 73 = some f73_info := by kernel_rfl
theorem f73_in : f73_info.ext = false := rfl

theorem f34_at : assoc G.fns 34 = some f34_info := by kernel_rfl
theorem f34_in : f34_info.ext = false := rfl

theorem f74_at : assoc G.fns 74 = some f74_info := by kernel_rfl
theorem f74_in : f74_info.ext = false := rfl

theorem f30_at : assoc G.fns 30 = some f30_info := by kernel_rfl
theorem f30_in : f30_info.ext = false := rfl

theorem f32_at : assoc G.fns 32 = some f32_info := by kernel_rfl
theorem f32_in : f32_info.ext = false := rfl

theorem f33_at : assoc G.fns 33 = some f33_info := by kernel_rfl
theorem f33_in : f33_info.ext = false := rfl

theorem f31_at : assoc G.fns 31 = some f31_info := by kernel_rfl
theorem f31_in : f31_info.ext = false := rfl

theorem f69_at : assoc G.fns 69 = some f69_info := by kernel_rfl
theorem f69_in : f69_info.ext = false := rfl

theorem f70_at : assoc G.fns 70 = some f70_info := by kernel_rfl
theorem f70_in : f70_info.ext = false := rfl

theorem f104_at : assoc G.fns 104 = some f104_info := by kernel_rfl
theorem f104_in : f104_info.ext = false := rfl

theorem f103_at : assoc G.fns 103 = some f103_info := by kernel_rfl
theorem f103_in : f103_info.ext = false := rfl

theorem f102_at : assoc G.fns 102 = some f102_info := by kernel_rfl
theorem f102_in : f102_info.ext = false := rfl

theorem f131_at : assoc G.fns 131 = some f131_info := by kernel_rfl
theorem f131_in : f131_info.ext = false := rfl

theorem f105_at : assoc G.fns 105 = some f105_info := by kernel_rfl
theorem f105_in : f105_info.ext = false := rfl

theorem f71_at : assoc G.fns 71 = some f71_info := by kernel_rfl
theorem f71_in : f71_info.ext = false := rfl

theorem f29_at : assoc G.fns 29 = some f29_info := by kernel_rfl
theorem f29_in : f29_info.ext = false := rfl

theorem f6_at : assoc G.fns 6 = some f6_info := by kernel_rfl
theorem f6_in : f6_info.ext = false := rfl

theorem f80_at : assoc G.fns 80 = some f80_info := by kernel_rfl
theorem f80_in : f80_info.ext = false := rfl

theorem f40_at : assoc G.fns 40 = some f40_info := by kernel_rfl
theorem f40_in : f40_info.ext = false := rfl

theorem f41_at : assoc G.fns 41 = some f41_info := by kernel_rfl
theorem f41_in : f41_info.ext = false := rfl

theorem f39_at : assoc G.fns 39 = some f39_info := by kernel_rfl
theorem f39_in : f39_info.ext = false := rfl

theorem f7_at : assoc G.fns 7 = some f7_info := by kernel_rfl
theorem f7_in : f7_info.ext = false := rfl

end Go.Proofs.Ytncajhkogppojaa.Ev

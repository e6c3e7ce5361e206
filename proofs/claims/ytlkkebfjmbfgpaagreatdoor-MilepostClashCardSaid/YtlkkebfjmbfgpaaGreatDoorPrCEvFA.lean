import Derived.Test.YtlkkebfjmbfgpaaGreatDoorPrCEvT3
import Derived.Test.YtlkkebfjmbfgpaaGreatDoorProg
import Derived.KernelRfl
namespace Go.Proofs.YtlkkebfjmbfgpaaGreatDoor.Ev
open Go Go.RowKit
abbrev qz:OSlot:=⟨0,none⟩
abbrev qa:Ent:=.any
set_option maxRecDepth 100000
noncomputable def bodyOf (f:Func):Code:=f.body.getD .skip
def sub:List Nat→Code→Code
  | [],c=>c
  | i::r,.seq x y=>sub r (bif Nat.beq i 0 then x else y)
  | i::r,.cond _ x y=>sub r (bif Nat.beq i 0 then x else y)
  | _::r,.block _ c=>sub r c
  | _::r,.loop c=>sub r c
  | _,c=>c
theorem runE_succ {G:Env} {ext:Run} {n:Nat} {f:FuncId} {i:FnInfo} {xs:List AV} (h:assoc G.fns f=some i) (hx:i.ext=false):runE G ext (n+1) f xs=evalK G (runE G ext n) n i.keep 0 i.body (retE G i) (i.start xs):=by
  simp only [runE,h,hx,cond_false]
noncomputable def f4_body:Code:=bodyOf Tryz.f4
noncomputable def f4_info:FnInfo:=⟨[],[.val .bool],88,[.tmp 0],f4_body,[],false,true⟩
noncomputable def f55_body:Code:=bodyOf Tryz.f55
noncomputable def f55_info:FnInfo:=⟨[.val (.int .i64),.val (.int .i64)],[.val (.slice .bool)],22,[.tmp 4],f55_body,[],true,true⟩
noncomputable def f164_body:Code:=bodyOf Tryz.f164
noncomputable def f164_info:FnInfo:=⟨[.val (.slice .str),.val .str],[.val .str],75,[.tmp 4],f164_body,[],false,true⟩
noncomputable def f216_body:Code:=bodyOf Tryz.f216
noncomputable def f216_info:FnInfo:=⟨[.val .str,.val (.int .i64)],[.val .str],125,[.tmp 4],f216_body,[],false,true⟩
noncomputable def f312_body:Code:=bodyOf Tryz.f312
noncomputable def f312_info:FnInfo:=⟨[.val (.slice (.int .i64)),.val (.int .i64)],[.val (.int .i64)],13,[.tmp 4],f312_body,[],false,true⟩
noncomputable def f100_body:Code:=bodyOf Tryz.f100
def f100_fresh:Bool:=false
def f100_keep:List (Nat × (List Nat × List Nat)):=[]
noncomputable def f100_info:FnInfo:=⟨[.val (.int .i64)],[.val .str],7,[.tmp 2],f100_body,f100_keep,f100_fresh,false⟩
noncomputable def f103_body:Code:=bodyOf Tryz.f103
def f103_fresh:Bool:=false
def f103_keep:List (Nat × (List Nat × List Nat)):=[]
noncomputable def f103_info:FnInfo:=⟨[.val .str],[.val .str],6,[.tmp 2],f103_body,f103_keep,f103_fresh,false⟩
noncomputable def f96_body:Code:=bodyOf Tryz.f96
def f96_fresh:Bool:=false
def f96_keep:List (Nat × (List Nat × List Nat)):=[]
noncomputable def f96_info:FnInfo:=⟨[],[.val (.arr 8 (.int .u32))],2,[.cell 0 179],f96_body,f96_keep,f96_fresh,false⟩
noncomputable def f99_body:Code:=bodyOf Tryz.f99
def f99_fresh:Bool:=false
def f99_t0:List Nat:=[0,1,5,6]
def f99_o0:List Nat:=[]
def f99_keep:List (Nat × (List Nat × List Nat)):=[(0,(f99_t0,f99_o0))]
noncomputable def f99_info:FnInfo:=⟨[.val (.int .u64),.val (.int .i64)],[.val .str],21,[.tmp 4],f99_body,f99_keep,f99_fresh,false⟩
noncomputable def f97_body:Code:=bodyOf Tryz.f97
def f97_fresh:Bool:=false
def f97_t0:List Nat:=[0,3]
def f97_o0:List Nat:=[]
def f97_keep:List (Nat × (List Nat × List Nat)):=[(0,(f97_t0,f97_o0))]
noncomputable def f97_info:FnInfo:=⟨[.val (.int .u64)],[.val .str],22,[.tmp 2],f97_body,f97_keep,f97_fresh,false⟩
noncomputable def f211_body:Code:=bodyOf Tryz.f211
def f211_fresh:Bool:=false
def f211_t0:List Nat:=[0,1,2,7,8]
def f211_o0:List Nat:=[]
def f211_keep:List (Nat × (List Nat × List Nat)):=[(0,(f211_t0,f211_o0))]
noncomputable def f211_info:FnInfo:=⟨[.val .str,.val (.int .i64),.val (.int .i64)],[.val (.int .u64)],41,[.tmp 6],f211_body,f211_keep,f211_fresh,false⟩
noncomputable def f162_body:Code:=bodyOf Tryz.f162
def f162_fresh:Bool:=false
def f162_keep:List (Nat × (List Nat × List Nat)):=[]
noncomputable def f162_info:FnInfo:=⟨[.val (.int .u32),.val (.int .u64)],[.val (.int .u32)],13,[.tmp 4],f162_body,f162_keep,f162_fresh,false⟩
noncomputable def f161_body:Code:=bodyOf Tryz.f161
def f161_fresh:Bool:=false
def f161_t0:List Nat:=[0,2,3,4]
def f161_o0:List Nat:=[2,3]
def f161_t2:List Nat:=[2,3,5]
def f161_o2:List Nat:=[2,3]
def f161_keep:List (Nat × (List Nat × List Nat)):=[(0,(f161_t0,f161_o0)),(2,(f161_t2,f161_o2))]
noncomputable def f161_info:FnInfo:=⟨[.val .str],[.val (.arr 64 (.int .u32))],61,[.cell 2 252],f161_body,f161_keep,f161_fresh,false⟩
noncomputable def f163_body:Code:=bodyOf Tryz.f163
def f163_fresh:Bool:=false
def f163_keep:List (Nat × (List Nat × List Nat)):=[]
noncomputable def f163_info:FnInfo:=⟨[.val (.int .i64)],[.val (.int .u32)],9,[.tmp 2],f163_body,f163_keep,f163_fresh,false⟩
noncomputable def f98_body:Code:=bodyOf Tryz.f98
def f98_fresh:Bool:=false
def f98_t0:List Nat:=[2,4,5,6,7]
def f98_o0:List Nat:=[2,4,5,6]
def f98_t2:List Nat:=[2,4,5,6,7,10,11,12]
def f98_o2:List Nat:=[2,4,5,6]
def f98_t4:List Nat:=[2,4,6,13]
def f98_o4:List Nat:=[2,4,6]
def f98_keep:List (Nat × (List Nat × List Nat)):=[(0,(f98_t0,f98_o0)),(2,(f98_t2,f98_o2)),(4,(f98_t4,f98_o4))]
noncomputable def f98_info:FnInfo:=⟨[.val (.arr 8 (.int .u32)),.val .str],[.val (.arr 8 (.int .u32))],110,[.cell 4 179],f98_body,f98_keep,f98_fresh,false⟩
noncomputable def f46_body:Code:=bodyOf Tryz.f46
def f46_fresh:Bool:=false
def f46_t0:List Nat:=[0,2,3,4]
def f46_o0:List Nat:=[2,3]
def f46_t2:List Nat:=[2,3,5,6]
def f46_o2:List Nat:=[2,3,5]
def f46_t4:List Nat:=[2,3,5,6,7,8]
def f46_o4:List Nat:=[2,3,5]
def f46_keep:List (Nat × (List Nat × List Nat)):=[(0,(f46_t0,f46_o0)),(2,(f46_t2,f46_o2)),(4,(f46_t4,f46_o4))]
noncomputable def f46_info:FnInfo:=⟨[.val .str],[.val (.blob 32)],51,[.cell 2 32],f46_body,f46_keep,f46_fresh,false⟩
noncomputable def f50_body:Code:=bodyOf Tryz.f50
def f50_fresh:Bool:=false
def f50_keep:List (Nat × (List Nat × List Nat)):=[]
noncomputable def f50_info:FnInfo:=⟨[.val .str],[.val (.blob 32)],6,[.cell 2 32],f50_body,f50_keep,f50_fresh,false⟩
noncomputable def f21_body:Code:=bodyOf Tryz.f21
def f21_fresh:Bool:=true
def f21_t0:List Nat:=[0,3,4]
def f21_o0:List Nat:=[]
def f21_keep:List (Nat × (List Nat × List Nat)):=[(0,(f21_t0,f21_o0))]
noncomputable def f21_info:FnInfo:=⟨[.val (.slice .str)],[.val (.slice (.blob 32))],20,[.tmp 2],f21_body,f21_keep,f21_fresh,false⟩
noncomputable def f48_body:Code:=bodyOf Tryz.f48
def f48_fresh:Bool:=false
def f48_t0:List Nat:=[0,3,4]
def f48_o0:List Nat:=[]
def f48_keep:List (Nat × (List Nat × List Nat)):=[(0,(f48_t0,f48_o0))]
noncomputable def f48_info:FnInfo:=⟨[.val (.int .i64)],[.val (.int .i64)],16,[.tmp 2],f48_body,f48_keep,f48_fresh,false⟩
noncomputable def f101_body:Code:=bodyOf Tryz.f101
def f101_fresh:Bool:=false
def f101_t0:List Nat:=[1,3,4]
def f101_o0:List Nat:=[1,5]
def f101_keep:List (Nat × (List Nat × List Nat)):=[(0,(f101_t0,f101_o0))]
noncomputable def f101_info:FnInfo:=⟨[.val (.blob 32)],[.val .str],18,[.tmp 2],f101_body,f101_keep,f101_fresh,false⟩
noncomputable def f102_body:Code:=bodyOf Tryz.f102
def f102_fresh:Bool:=false
def f102_keep:List (Nat × (List Nat × List Nat)):=[]
noncomputable def f102_info:FnInfo:=⟨[.val (.blob 32),.val (.blob 32)],[.val .str],12,[.tmp 4],f102_body,f102_keep,f102_fresh,false⟩
noncomputable def f49_body:Code:=bodyOf Tryz.f49
def f49_fresh:Bool:=false
def f49_keep:List (Nat × (List Nat × List Nat)):=[]
noncomputable def f49_info:FnInfo:=⟨[.val (.blob 32),.val (.blob 32)],[.val (.blob 32)],9,[.cell 4 32],f49_body,f49_keep,f49_fresh,false⟩
noncomputable def f20_body:Code:=bodyOf Tryz.f20
def f20_fresh:Bool:=false
def f20_keep:List (Nat × (List Nat × List Nat)):=[]
noncomputable def f20_info:FnInfo:=⟨[.val (.slice (.blob 32))],[.val (.blob 32)],26,[.cell 2 32],f20_body,f20_keep,f20_fresh,false⟩
noncomputable def f47_body:Code:=bodyOf Tryz.f47
def f47_fresh:Bool:=false
def f47_keep:List (Nat × (List Nat × List Nat)):=[]
noncomputable def f47_info:FnInfo:=⟨[.val (.int .u64),.val (.blob 32)],[.val .str],12,[.tmp 4],f47_body,f47_keep,f47_fresh,false⟩
noncomputable def f19_body:Code:=bodyOf Tryz.f19
def f19_fresh:Bool:=false
def f19_keep:List (Nat × (List Nat × List Nat)):=[]
noncomputable def f19_info:FnInfo:=⟨[.val (.int .u64),.val (.blob 32)],[.val (.blob 32)],9,[.cell 4 32],f19_body,f19_keep,f19_fresh,false⟩
noncomputable def f5_body:Code:=bodyOf Tryz.f5
def f5_fresh:Bool:=false
def f5_keep:List (Nat × (List Nat × List Nat)):=[]
noncomputable def f5_info:FnInfo:=⟨[.val (.slice .str)],[.val (.blob 32)],10,[.cell 2 32],f5_body,f5_keep,f5_fresh,false⟩
noncomputable def f22_body:Code:=bodyOf Tryz.f22
def f22_fresh:Bool:=true
def f22_keep:List (Nat × (List Nat × List Nat)):=[]
noncomputable def f22_info:FnInfo:=⟨[.val (.slice (.blob 32)),.val (.int .i64)],[.val (.slice (.blob 32))],39,[.tmp 4],f22_body,f22_keep,f22_fresh,false⟩
noncomputable def f6_body:Code:=bodyOf Tryz.f6
def f6_fresh:Bool:=false
def f6_keep:List (Nat × (List Nat × List Nat)):=[]
noncomputable def f6_info:FnInfo:=⟨[.val (.slice .str),.val (.int .i64)],[.val (.struct [(.int .i64),(.int .i64),(.slice (.blob 32))]),.val (.int .i64)],27,[.cell 4 26,.tmp 5],f6_body,f6_keep,f6_fresh,false⟩
noncomputable def f109_body:Code:=bodyOf Tryz.f109
def f109_fresh:Bool:=false
def f109_keep:List (Nat × (List Nat × List Nat)):=[]
noncomputable def f109_info:FnInfo:=⟨[.val (.int .i64),.val (.int .i64)],[.val (.int .i64)],16,[.tmp 4],f109_body,f109_keep,f109_fresh,false⟩
noncomputable def f57_body:Code:=bodyOf Tryz.f57
def f57_fresh:Bool:=false
def f57_keep:List (Nat × (List Nat × List Nat)):=[]
noncomputable def f57_info:FnInfo:=⟨[.val (.struct [(.int .i64),(.int .i64),(.slice (.blob 32))])],[.val (.int .i64)],34,[.tmp 2],f57_body,f57_keep,f57_fresh,false⟩
noncomputable def f106_body:Code:=bodyOf Tryz.f106
def f106_fresh:Bool:=false
def f106_keep:List (Nat × (List Nat × List Nat)):=[]
noncomputable def f106_info:FnInfo:=⟨[.val (.int .u8),.val (.slice .str)],[.val .str],11,[.tmp 4],f106_body,f106_keep,f106_fresh,false⟩
noncomputable def f52_body:Code:=bodyOf Tryz.f52
def f52_fresh:Bool:=false
def f52_keep:List (Nat × (List Nat × List Nat)):=[]
noncomputable def f52_info:FnInfo:=⟨[.val .str],[.val .str],6,[.tmp 2],f52_body,f52_keep,f52_fresh,false⟩
noncomputable def f110_body:Code:=bodyOf Tryz.f110
def f110_fresh:Bool:=false
def f110_keep:List (Nat × (List Nat × List Nat)):=[]
noncomputable def f110_info:FnInfo:=⟨[],[.ptr (.struct [(.arr 8 (.int .u32)),.str,(.int .u64),.bool])],3,[.tmp 0],f110_body,f110_keep,f110_fresh,false⟩
noncomputable def f166_body:Code:=bodyOf Tryz.f166
def f166_fresh:Bool:=false
def f166_keep:List (Nat × (List Nat × List Nat)):=[]
noncomputable def f166_info:FnInfo:=⟨[],[.val (.arr 8 (.int .u32))],2,[.cell 0 257],f166_body,f166_keep,f166_fresh,false⟩
noncomputable def f225_body:Code:=bodyOf Tryz.f225
def f225_fresh:Bool:=false
def f225_t0:List Nat:=[0,1,7,9,10]
def f225_o0:List Nat:=[]
def f225_keep:List (Nat × (List Nat × List Nat)):=[(0,(f225_t0,f225_o0))]
noncomputable def f225_info:FnInfo:=⟨[.val .str,.val (.int .i64),.val (.int .i64)],[.val (.int .u64)],41,[.tmp 6],f225_body,f225_keep,f225_fresh,false⟩
noncomputable def f252_body:Code:=bodyOf Tryz.f252
def f252_fresh:Bool:=false
def f252_keep:List (Nat × (List Nat × List Nat)):=[]
noncomputable def f252_info:FnInfo:=⟨[.val .str,.val (.int .i64)],[.val (.int .u32)],9,[.tmp 4],f252_body,f252_keep,f252_fresh,false⟩
noncomputable def f215_body:Code:=bodyOf Tryz.f215
def f215_fresh:Bool:=false
def f215_keep:List (Nat × (List Nat × List Nat)):=[]
noncomputable def f215_info:FnInfo:=⟨[.val (.int .u32),.val (.int .i64)],[.val (.int .u32)],17,[.tmp 4],f215_body,f215_keep,f215_fresh,false⟩
noncomputable def f213_body:Code:=bodyOf Tryz.f213
def f213_fresh:Bool:=false
def f213_t0:List Nat:=[0,2,3,9]
def f213_o0:List Nat:=[2,3]
def f213_keep:List (Nat × (List Nat × List Nat)):=[(0,(f213_t0,f213_o0))]
noncomputable def f213_info:FnInfo:=⟨[.val .str],[.val (.arr 64 (.int .u32))],61,[.cell 2 252],f213_body,f213_keep,f213_fresh,false⟩
noncomputable def f214_body:Code:=bodyOf Tryz.f214
def f214_fresh:Bool:=false
def f214_keep:List (Nat × (List Nat × List Nat)):=[]
noncomputable def f214_info:FnInfo:=⟨[],[.val (.arr 64 (.int .u32))],2,[.cell 0 252],f214_body,f214_keep,f214_fresh,false⟩
noncomputable def f167_body:Code:=bodyOf Tryz.f167
def f167_fresh:Bool:=false
def f167_t0:List Nat:=[2,4,5,6,7,18]
def f167_o0:List Nat:=[2,4,5,6,7]
def f167_t2:List Nat:=[2,4,7,109]
def f167_o2:List Nat:=[2,4,7]
def f167_keep:List (Nat × (List Nat × List Nat)):=[(0,(f167_t0,f167_o0)),(2,(f167_t2,f167_o2))]
noncomputable def f167_info:FnInfo:=⟨[.val (.arr 8 (.int .u32)),.val .str],[.val (.arr 8 (.int .u32))],122,[.cell 4 257],f167_body,f167_keep,f167_fresh,false⟩
noncomputable def f111_body:Code:=bodyOf Tryz.f111
def f111_fresh:Bool:=false
def f111_t0:List Nat:=[0,4]
def f111_o0:List Nat:=[0]
def f111_keep:List (Nat × (List Nat × List Nat)):=[(0,(f111_t0,f111_o0))]
noncomputable def f111_info:FnInfo:=⟨[.ptr (.struct [(.arr 8 (.int .u32)),.str,(.int .u64),.bool]),.val .str],[],72,[],f111_body,f111_keep,f111_fresh,false⟩
noncomputable def f113_body:Code:=bodyOf Tryz.f113
def f113_fresh:Bool:=false
def f113_t0:List Nat:=[0,1,5,9,10]
def f113_o0:List Nat:=[8]
def f113_keep:List (Nat × (List Nat × List Nat)):=[(0,(f113_t0,f113_o0))]
noncomputable def f113_info:FnInfo:=⟨[.val (.int .u64),.val (.int .i64)],[.val .str],26,[.tmp 4],f113_body,f113_keep,f113_fresh,false⟩
noncomputable def f62_body:Code:=bodyOf Tryz.f62
def f62_fresh:Bool:=false
def f62_keep:List (Nat × (List Nat × List Nat)):=[]
noncomputable def f62_info:FnInfo:=⟨[.val (.int .u64)],[.val .str],5,[.tmp 2],f62_body,f62_keep,f62_fresh,false⟩
noncomputable def f168_body:Code:=bodyOf Tryz.f168
def f168_fresh:Bool:=false
def f168_keep:List (Nat × (List Nat × List Nat)):=[]
noncomputable def f168_info:FnInfo:=⟨[.val (.int .u64)],[.val .str],16,[.tmp 2],f168_body,f168_keep,f168_fresh,false⟩
noncomputable def f61_body:Code:=bodyOf Tryz.f61
def f61_fresh:Bool:=false
def f61_keep:List (Nat × (List Nat × List Nat)):=[]
noncomputable def f61_info:FnInfo:=⟨[.val (.int .u32)],[.val .str],6,[.tmp 2],f61_body,f61_keep,f61_fresh,false⟩
noncomputable def f112_body:Code:=bodyOf Tryz.f112
def f112_fresh:Bool:=false
def f112_t0:List Nat:=[0,2,4,18,19]
def f112_o0:List Nat:=[0,2,4]
def f112_keep:List (Nat × (List Nat × List Nat)):=[(0,(f112_t0,f112_o0))]
noncomputable def f112_info:FnInfo:=⟨[.ptr (.struct [(.arr 8 (.int .u32)),.str,(.int .u64),.bool])],[.val (.blob 32)],37,[.cell 2 32],f112_body,f112_keep,f112_fresh,false⟩
noncomputable def f59_body:Code:=bodyOf Tryz.f59
def f59_fresh:Bool:=false
def f59_keep:List (Nat × (List Nat × List Nat)):=[]
noncomputable def f59_info:FnInfo:=⟨[.val .str],[.val (.blob 32)],10,[.cell 2 32],f59_body,f59_keep,f59_fresh,false⟩
noncomputable def f104_body:Code:=bodyOf Tryz.f104
def f104_fresh:Bool:=false
def f104_keep:List (Nat × (List Nat × List Nat)):=[]
noncomputable def f104_info:FnInfo:=⟨[.val .str],[.val (.blob 32)],6,[.cell 2 32],f104_body,f104_keep,f104_fresh,false⟩
noncomputable def f54_body:Code:=bodyOf Tryz.f54
def f54_fresh:Bool:=false
def f54_keep:List (Nat × (List Nat × List Nat)):=[]
noncomputable def f54_info:FnInfo:=⟨[.val (.blob 32),.val (.blob 32)],[.val .str],11,[.tmp 4],f54_body,f54_keep,f54_fresh,false⟩
noncomputable def f105_body:Code:=bodyOf Tryz.f105
def f105_fresh:Bool:=false
def f105_keep:List (Nat × (List Nat × List Nat)):=[]
noncomputable def f105_info:FnInfo:=⟨[.val (.blob 32),.val (.blob 32)],[.val (.blob 32)],9,[.cell 4 32],f105_body,f105_keep,f105_fresh,false⟩
noncomputable def f51_body:Code:=bodyOf Tryz.f51
def f51_fresh:Bool:=true
def f51_t0:List Nat:=[3,5,6,20,21,22]
def f51_o0:List Nat:=[3,5]
def f51_keep:List (Nat × (List Nat × List Nat)):=[(0,(f51_t0,f51_o0))]
noncomputable def f51_info:FnInfo:=⟨[.val .str,.val (.struct [(.int .i64),(.int .i64),(.slice (.blob 32))])],[.val (.slice (.blob 32))],48,[.tmp 4],f51_body,f51_keep,f51_fresh,false⟩
noncomputable def f56_body:Code:=bodyOf Tryz.f56
def f56_fresh:Bool:=false
def f56_keep:List (Nat × (List Nat × List Nat)):=[]
noncomputable def f56_info:FnInfo:=⟨[.val (.int .u64),.val (.blob 32)],[.val .str],11,[.tmp 4],f56_body,f56_keep,f56_fresh,false⟩
noncomputable def f58_body:Code:=bodyOf Tryz.f58
def f58_fresh:Bool:=false
def f58_keep:List (Nat × (List Nat × List Nat)):=[]
noncomputable def f58_info:FnInfo:=⟨[.val (.int .u64),.val (.blob 32)],[.val (.blob 32)],9,[.cell 4 32],f58_body,f58_keep,f58_fresh,false⟩
noncomputable def f24_body:Code:=bodyOf Tryz.f24
def f24_fresh:Bool:=false
def f24_keep:List (Nat × (List Nat × List Nat)):=[]
noncomputable def f24_info:FnInfo:=⟨[.val .str,.val (.struct [(.int .i64),(.int .i64),(.slice (.blob 32))])],[.val (.blob 32),.val (.int .i64)],27,[.cell 4 32,.tmp 5],f24_body,f24_keep,f24_fresh,false⟩
noncomputable def f8_body:Code:=bodyOf Tryz.f8
def f8_fresh:Bool:=false
def f8_keep:List (Nat × (List Nat × List Nat)):=[]
noncomputable def f8_info:FnInfo:=⟨[.val (.blob 32),.val .str,.val (.struct [(.int .i64),(.int .i64),(.slice (.blob 32))])],[.val .bool],22,[.tmp 6],f8_body,f8_keep,f8_fresh,false⟩
noncomputable def f53_body:Code:=bodyOf Tryz.f53
def f53_fresh:Bool:=false
def f53_keep:List (Nat × (List Nat × List Nat)):=[]
noncomputable def f53_info:FnInfo:=⟨[.val (.int .i64),.val .bool,.ptr (.struct [(.int .i64),(.int .i64),(.slice (.blob 32))]),.ptr (.slice (.blob 32))],[.val .str],28,[.tmp 6],f53_body,f53_keep,f53_fresh,false⟩
noncomputable def f23_body:Code:=bodyOf Tryz.f23
def f23_fresh:Bool:=true
def f23_t0:List Nat:=[3,4,5,6,24,25,26]
def f23_o0:List Nat:=[3,4]
def f23_keep:List (Nat × (List Nat × List Nat)):=[(0,(f23_t0,f23_o0))]
noncomputable def f23_info:FnInfo:=⟨[.val (.struct [.str,(.struct [(.int .i64),(.int .i64),(.slice (.blob 32))])])],[.val (.slice .str)],52,[.tmp 2],f23_body,f23_keep,f23_fresh,false⟩
noncomputable def f7_body:Code:=bodyOf Tryz.f7
def f7_fresh:Bool:=false
def f7_t0:List Nat:=[9,10,11]
def f7_o0:List Nat:=[]
def f7_keep:List (Nat × (List Nat × List Nat)):=[(0,(f7_t0,f7_o0))]
noncomputable def f7_info:FnInfo:=⟨[.val (.blob 32),.val (.struct [.str,(.struct [(.int .i64),(.int .i64),(.slice (.blob 32))])]),.val (.struct [.str,(.struct [(.int .i64),(.int .i64),(.slice (.blob 32))])])],[.val .str,.val .str,.val .bool],81,[.tmp 6,.tmp 7,.tmp 8],f7_body,f7_keep,f7_fresh,false⟩
noncomputable def f25_body:Code:=bodyOf Tryz.f25
def f25_fresh:Bool:=false
def f25_keep:List (Nat × (List Nat × List Nat)):=[]
noncomputable def f25_info:FnInfo:=⟨[.val .str],[.val (.blob 32)],5,[.cell 2 32],f25_body,f25_keep,f25_fresh,false⟩
noncomputable def f9_body:Code:=bodyOf Tryz.f9
def f9_fresh:Bool:=false
def f9_keep:List (Nat × (List Nat × List Nat)):=[]
noncomputable def f9_info:FnInfo:=⟨[.val .str,.val .str],[.val .bool],15,[.tmp 4],f9_body,f9_keep,f9_fresh,false⟩
noncomputable def f3_body:Code:=bodyOf Tryz.f3
def f3_fresh:Bool:=false
def f3_t0:List Nat:=[0,7,8,9,10,11,12]
def f3_o0:List Nat:=[9,10]
def f3_t2000009:List Nat:=[0,7,8,9,10]
def f3_o2000009:List Nat:=[9,10]
def f3_t2000016:List Nat:=[0,7,9,10,13,14,15]
def f3_o2000016:List Nat:=[9,10,13,14]
def f3_t2000020:List Nat:=[9,10,13]
def f3_o2000020:List Nat:=[9,10,13]
def f3_t2000022:List Nat:=[24,25,26,27]
def f3_o2000022:List Nat:=[]
def f3_keep:List (Nat × (List Nat × List Nat)):=[(0,(f3_t0,f3_o0)),(2000009,(f3_t2000009,f3_o2000009)),(2000016,(f3_t2000016,f3_o2000016)),(2000020,(f3_t2000020,f3_o2000020)),(2000022,(f3_t2000022,f3_o2000022))]
noncomputable def f3_info:FnInfo:=⟨[.val (.slice .str),.val (.arr 2 (.int .i64)),.val (.arr 2 (.struct [.str,(.struct [(.int .i64),(.int .i64),(.slice (.blob 32))])]))],[.val .bool],222,[.tmp 6],f3_body,f3_keep,f3_fresh,false⟩
noncomputable def f165_body:Code:=bodyOf Tryz.f165
def f165_fresh:Bool:=false
def f165_t0:List Nat:=[0,3]
def f165_o0:List Nat:=[]
def f165_keep:List (Nat × (List Nat × List Nat)):=[(0,(f165_t0,f165_o0))]
noncomputable def f165_info:FnInfo:=⟨[.val (.int .i64)],[.val (.int .i64)],14,[.tmp 2],f165_body,f165_keep,f165_fresh,false⟩
noncomputable def f311_body:Code:=bodyOf Tryz.f311
def f311_fresh:Bool:=false
def f311_keep:List (Nat × (List Nat × List Nat)):=[]
noncomputable def f311_info:FnInfo:=⟨[.val (.int .u64)],[.val (.arr 5 (.int .u64))],5,[.cell 2 340],f311_body,f311_keep,f311_fresh,false⟩
noncomputable def f323_body:Code:=bodyOf Tryz.f323
def f323_fresh:Bool:=false
def f323_t0:List Nat:=[0,3,5]
def f323_o0:List Nat:=[]
def f323_keep:List (Nat × (List Nat × List Nat)):=[(0,(f323_t0,f323_o0))]
noncomputable def f323_info:FnInfo:=⟨[.val (.int .u64)],[.val (.int .i64)],18,[.tmp 2],f323_body,f323_keep,f323_fresh,false⟩
noncomputable def f319_body:Code:=bodyOf Tryz.f319
def f319_fresh:Bool:=false
def f319_t0:List Nat:=[1,5]
def f319_o0:List Nat:=[1]
def f319_keep:List (Nat × (List Nat × List Nat)):=[(0,(f319_t0,f319_o0))]
noncomputable def f319_info:FnInfo:=⟨[.val (.arr 5 (.int .u64))],[.val (.int .i64)],21,[.tmp 2],f319_body,f319_keep,f319_fresh,false⟩
noncomputable def f310_body:Code:=bodyOf Tryz.f310
def f310_fresh:Bool:=false
def f310_t0:List Nat:=[2,4,6,7,8,9]
def f310_o0:List Nat:=[2,4,6]
def f310_keep:List (Nat × (List Nat × List Nat)):=[(0,(f310_t0,f310_o0))]
noncomputable def f310_info:FnInfo:=⟨[.val (.arr 5 (.int .u64)),.val (.int .i64)],[.val (.arr 5 (.int .u64)),.val .bool],70,[.cell 4 340,.tmp 5],f310_body,f310_keep,f310_fresh,false⟩
noncomputable def f297_body:Code:=bodyOf Tryz.f297
def f297_fresh:Bool:=false
def f297_keep:List (Nat × (List Nat × List Nat)):=[]
noncomputable def f297_info:FnInfo:=⟨[.val (.slice (.int .i64)),.val (.int .i64)],[.val (.arr 5 (.int .u64))],25,[.cell 4 340],f297_body,f297_keep,f297_fresh,false⟩
noncomputable def f298_body:Code:=bodyOf Tryz.f298
def f298_fresh:Bool:=false
def f298_keep:List (Nat × (List Nat × List Nat)):=[]
noncomputable def f298_info:FnInfo:=⟨[.val (.slice (.int .i64)),.val (.int .i64),.val (.int .i64)],[.val .bool],24,[.tmp 6],f298_body,f298_keep,f298_fresh,false⟩
noncomputable def f236_body:Code:=bodyOf Tryz.f236
def f236_fresh:Bool:=false
def f236_t0:List Nat:=[2,3,8]
def f236_o0:List Nat:=[2,3]
def f236_keep:List (Nat × (List Nat × List Nat)):=[(0,(f236_t0,f236_o0))]
noncomputable def f236_info:FnInfo:=⟨[.val (.arr 5 (.int .u64)),.val (.arr 5 (.int .u64))],[.val (.int .i64)],26,[.tmp 4],f236_body,f236_keep,f236_fresh,false⟩
noncomputable def f273_body:Code:=bodyOf Tryz.f273
def f273_fresh:Bool:=false
def f273_t0:List Nat:=[0,1,4,5,8]
def f273_o0:List Nat:=[4,5]
def f273_keep:List (Nat × (List Nat × List Nat)):=[(0,(f273_t0,f273_o0))]
noncomputable def f273_info:FnInfo:=⟨[.val (.slice (.int .i64)),.val (.int .i64)],[.val (.struct [(.arr 5 (.int .u64)),(.int .i64)])],35,[.cell 4 342],f273_body,f273_keep,f273_fresh,false⟩
noncomputable def G:Env:={
  ty:=[(3,(.int .i64)),(4,.bool),(5,(.int .u8)),(9,.str),(22,(.slice .str)),(23,(.arr 2 (.int .i64))),(24,(.slice (.blob 32))),(26,(.struct [(.int .i64),(.int .i64),(.slice (.blob 32))])),(28,(.struct [.str,(.struct [(.int .i64),(.int .i64),(.slice (.blob 32))])])),(29,(.arr 2 (.struct [.str,(.struct [(.int .i64),(.int .i64),(.slice (.blob 32))])]))),(32,(.blob 32)),(34,(.int .i64)),(42,(.int .u32)),(43,(.int .u64)),(76,(.slice (.int .u8))),(121,(.slice .bool)),(179,(.arr 8 (.int .u32))),(251,(.int .u64)),(252,(.arr 64 (.int .u32))),(257,(.arr 8 (.int .u32))),(259,(.struct [(.arr 8 (.int .u32)),.str,(.int .u64),.bool])),(321,(.slice (.int .u32))),(340,(.arr 5 (.int .u64))),(342,(.struct [(.arr 5 (.int .u64)),(.int .i64)]))]
  bytes:=[(22,16),(24,32),(76,1)]
  fns:=[(4,f4_info),(55,f55_info),(164,f164_info),(216,f216_info),(312,f312_info),(100,f100_info),(103,f103_info),(96,f96_info),(99,f99_info),(97,f97_info),(211,f211_info),(162,f162_info),(161,f161_info),(163,f163_info),(98,f98_info),(46,f46_info),(50,f50_info),(21,f21_info),(48,f48_info),(101,f101_info),(102,f102_info),(49,f49_info),(20,f20_info),(47,f47_info),(19,f19_info),(5,f5_info),(22,f22_info),(6,f6_info),(109,f109_info),(57,f57_info),(106,f106_info),(52,f52_info),(110,f110_info),(166,f166_info),(225,f225_info),(252,f252_info),(215,f215_info),(213,f213_info),(214,f214_info),(167,f167_info),(111,f111_info),(113,f113_info),(62,f62_info),(168,f168_info),(61,f61_info),(112,f112_info),(59,f59_info),(104,f104_info),(54,f54_info),(105,f105_info),(51,f51_info),(56,f56_info),(58,f58_info),(24,f24_info),(8,f8_info),(53,f53_info),(23,f23_info),(7,f7_info),(25,f25_info),(9,f9_info),(3,f3_info),(165,f165_info),(311,f311_info),(323,f323_info),(319,f319_info),(310,f310_info),(297,f297_info),(298,f298_info),(236,f236_info),(273,f273_info)]
  ptrs:=[189]
  made:=[]
  froz:=[] }
theorem f4_at:assoc G.fns 4=some f4_info:=by kernel_rfl
theorem f55_at:assoc G.fns 55=some f55_info:=by kernel_rfl
theorem f164_at:assoc G.fns 164=some f164_info:=by kernel_rfl
theorem f216_at:assoc G.fns 216=some f216_info:=by kernel_rfl
theorem f312_at:assoc G.fns 312=some f312_info:=by kernel_rfl
theorem f100_at:assoc G.fns 100=some f100_info:=by kernel_rfl
theorem f100_in:f100_info.ext=false:=rfl
theorem f103_at:assoc G.fns 103=some f103_info:=by kernel_rfl
theorem f103_in:f103_info.ext=false:=rfl
theorem f96_at:assoc G.fns 96=some f96_info:=by kernel_rfl
theorem f96_in:f96_info.ext=false:=rfl
theorem f99_at:assoc G.fns 99=some f99_info:=by kernel_rfl
theorem f99_in:f99_info.ext=false:=rfl
theorem f97_at:assoc G.fns 97=some f97_info:=by kernel_rfl
theorem f97_in:f97_info.ext=false:=rfl
theorem f211_at:assoc G.fns 211=some f211_info:=by kernel_rfl
theorem f211_in:f211_info.ext=false:=rfl
theorem f162_at:assoc G.fns 162=some f162_info:=by kernel_rfl
theorem f162_in:f162_info.ext=false:=rfl
theorem f161_at:assoc G.fns 161=some f161_info:=by kernel_rfl
theorem f161_in:f161_info.ext=false:=rfl
theorem f163_at:assoc G.fns 163=some f163_info:=by kernel_rfl
theorem f163_in:f163_info.ext=false:=rfl
theorem f98_at:assoc G.fns 98=some f98_info:=by kernel_rfl
theorem f98_in:f98_info.ext=false:=rfl
theorem f46_at:assoc G.fns 46=some f46_info:=by kernel_rfl
theorem f46_in:f46_info.ext=false:=rfl
theorem f50_at:assoc G.fns 50=some f50_info:=by kernel_rfl
theorem f50_in:f50_info.ext=false:=rfl
theorem f21_at:assoc G.fns 21=some f21_info:=by kernel_rfl
theorem f21_in:f21_info.ext=false:=rfl
theorem f48_at:assoc G.fns 48=some f48_info:=by kernel_rfl
theorem f48_in:f48_info.ext=false:=rfl
theorem f101_at:assoc G.fns 101=some f101_info:=by kernel_rfl
theorem f101_in:f101_info.ext=false:=rfl
theorem f102_at:assoc G.fns 102=some f102_info:=by kernel_rfl
theorem f102_in:f102_info.ext=false:=rfl
theorem f49_at:assoc G.fns 49=some f49_info:=by kernel_rfl
theorem f49_in:f49_info.ext=false:=rfl
theorem f20_at:assoc G.fns 20=some f20_info:=by kernel_rfl
theorem f20_in:f20_info.ext=false:=rfl
theorem f47_at:assoc G.fns 47=some f47_info:=by kernel_rfl
theorem f47_in:f47_info.ext=false:=rfl
theorem f19_at:assoc G.fns 19=some f19_info:=by kernel_rfl
theorem f19_in:f19_info.ext=false:=rfl
theorem f5_at:assoc G.fns 5=some f5_info:=by kernel_rfl
theorem f5_in:f5_info.ext=false:=rfl
theorem f22_at:assoc G.fns 22=some f22_info:=by kernel_rfl
theorem f22_in:f22_info.ext=false:=rfl
theorem f6_at:assoc G.fns 6=some f6_info:=by kernel_rfl
theorem f6_in:f6_info.ext=false:=rfl
theorem f109_at:assoc G.fns 109=some f109_info:=by kernel_rfl
theorem f109_in:f109_info.ext=false:=rfl
theorem f57_at:assoc G.fns 57=some f57_info:=by kernel_rfl
theorem f57_in:f57_info.ext=false:=rfl
theorem f106_at:assoc G.fns 106=some f106_info:=by kernel_rfl
theorem f106_in:f106_info.ext=false:=rfl
theorem f52_at:assoc G.fns 52=some f52_info:=by kernel_rfl
theorem f52_in:f52_info.ext=false:=rfl
theorem f110_at:assoc G.fns 110=some f110_info:=by kernel_rfl
theorem f110_in:f110_info.ext=false:=rfl
theorem f166_at:assoc G.fns 166=some f166_info:=by kernel_rfl
theorem f166_in:f166_info.ext=false:=rfl
theorem f225_at:assoc G.fns 225=some f225_info:=by kernel_rfl
theorem f225_in:f225_info.ext=false:=rfl
theorem f252_at:assoc G.fns 252=some f252_info:=by kernel_rfl
theorem f252_in:f252_info.ext=false:=rfl
theorem f215_at:assoc G.fns 215=some f215_info:=by kernel_rfl
theorem f215_in:f215_info.ext=false:=rfl
theorem f213_at:assoc G.fns 213=some f213_info:=by kernel_rfl
theorem f213_in:f213_info.ext=false:=rfl
theorem f214_at:assoc G.fns 214=some f214_info:=by kernel_rfl
theorem f214_in:f214_info.ext=false:=rfl
theorem f167_at:assoc G.fns 167=some f167_info:=by kernel_rfl
theorem f167_in:f167_info.ext=false:=rfl
theorem f111_at:assoc G.fns 111=some f111_info:=by kernel_rfl
theorem f111_in:f111_info.ext=false:=rfl
theorem f113_at:assoc G.fns 113=some f113_info:=by kernel_rfl
theorem f113_in:f113_info.ext=false:=rfl
theorem f62_at:assoc G.fns 62=some f62_info:=by kernel_rfl
theorem f62_in:f62_info.ext=false:=rfl
theorem f168_at:assoc G.fns 168=some f168_info:=by kernel_rfl
theorem f168_in:f168_info.ext=false:=rfl
theorem f61_at:assoc G.fns 61=some f61_info:=by kernel_rfl
theorem f61_in:f61_info.ext=false:=rfl
theorem f112_at:assoc G.fns 112=some f112_info:=by kernel_rfl
theorem f112_in:f112_info.ext=false:=rfl
theorem f59_at:assoc G.fns 59=some f59_info:=by kernel_rfl
theorem f59_in:f59_info.ext=false:=rfl
theorem f104_at:assoc G.fns 104=some f104_info:=by kernel_rfl
theorem f104_in:f104_info.ext=false:=rfl
theorem f54_at:assoc G.fns 54=some f54_info:=by kernel_rfl
theorem f54_in:f54_info.ext=false:=rfl
theorem f105_at:assoc G.fns 105=some f105_info:=by kernel_rfl
theorem f105_in:f105_info.ext=false:=rfl
theorem f51_at:assoc G.fns 51=some f51_info:=by kernel_rfl
theorem f51_in:f51_info.ext=false:=rfl
theorem f56_at:assoc G.fns 56=some f56_info:=by kernel_rfl
theorem f56_in:f56_info.ext=false:=rfl
theorem f58_at:assoc G.fns 58=some f58_info:=by kernel_rfl
theorem f58_in:f58_info.ext=false:=rfl
theorem f24_at:assoc G.fns 24=some f24_info:=by kernel_rfl
theorem f24_in:f24_info.ext=false:=rfl
theorem f8_at:assoc G.fns 8=some f8_info:=by kernel_rfl
theorem f8_in:f8_info.ext=false:=rfl
theorem f53_at:assoc G.fns 53=some f53_info:=by kernel_rfl
theorem f53_in:f53_info.ext=false:=rfl
theorem f23_at:assoc G.fns 23=some f23_info:=by kernel_rfl
theorem f23_in:f23_info.ext=false:=rfl
theorem f7_at:assoc G.fns 7=some f7_info:=by kernel_rfl
theorem f7_in:f7_info.ext=false:=rfl
theorem f25_at:assoc G.fns 25=some f25_info:=by kernel_rfl
theorem f25_in:f25_info.ext=false:=rfl
theorem f9_at:assoc G.fns 9=some f9_info:=by kernel_rfl
theorem f9_in:f9_info.ext=false:=rfl
theorem f3_at:assoc G.fns 3=some f3_info:=by kernel_rfl
theorem f3_in:f3_info.ext=false:=rfl
theorem f165_at:assoc G.fns 165=some f165_info:=by kernel_rfl
theorem f165_in:f165_info.ext=false:=rfl
theorem f311_at:assoc G.fns 311=some f311_info:=by kernel_rfl
theorem f311_in:f311_info.ext=false:=rfl
theorem f310_at:assoc G.fns 310=some f310_info:=by kernel_rfl
theorem f310_in:f310_info.ext=false:=rfl
theorem f297_at:assoc G.fns 297=some f297_info:=by kernel_rfl
theorem f297_in:f297_info.ext=false:=rfl
theorem f298_at:assoc G.fns 298=some f298_info:=by kernel_rfl
theorem f298_in:f298_info.ext=false:=rfl
theorem f273_at:assoc G.fns 273=some f273_info:=by kernel_rfl
theorem f273_in:f273_info.ext=false:=rfl
end Go.Proofs.YtlkkebfjmbfgpaaGreatDoor.Ev


import Derived.Test.YteiahdlklppghaaGreatPrWEvT3
import Derived.Test.YteiahdlklppghaaGreatProg
import Derived.KernelRfl
namespace Go.Proofs.YteiahdlklppghaaGreat.Ev
open Go Go.RowKit
abbrev qz:OSlot:=⟨0,none⟩
abbrev qa:Ent:=.any
set_option maxRecDepth 100000
noncomputable def bodyOf (f:Func):Code:=f.body.getD .skip
def sub:List Nat→Code→Code
  | [],c=>c
  | i::r,.seq x y=>sub r (bif Nat.beq i 0 then x else y)
  | i::r,.cond _ x y=>sub r (bif Nat.beq i 0 then x else y)
  | _::r,.block _ c=>sub r c
  | _::r,.loop c=>sub r c
  | _,c=>c
theorem runE_succ {G:Env} {ext:Run} {n:Nat} {f:FuncId} {i:FnInfo} {xs:List AV} (h:assoc G.fns f=some i) (hx:i.ext=false):runE G ext (n+1) f xs=evalK G (runE G ext n) n i.keep 0 i.body (retE G i) (i.start xs):=by
  simp only [runE,h,hx,cond_false]
noncomputable def f172_body:Code:=bodyOf Tryz.f172
noncomputable def f172_info:FnInfo:=⟨[.val (.slice .str),.val .str],[.val .str],75,[.tmp 4],f172_body,[],false,true⟩
noncomputable def f180_body:Code:=bodyOf Tryz.f180
noncomputable def f180_info:FnInfo:=⟨[.val .str,.val (.int .i64)],[.val .str],125,[.tmp 4],f180_body,[],false,true⟩
noncomputable def f51_body:Code:=bodyOf Tryz.f51
noncomputable def f51_info:FnInfo:=⟨[.val (.slice (.int .i64)),.val (.int .i64),.val (.int .i64)],[.val (.slice (.int .i64))],19,[.tmp 6],f51_body,[],true,true⟩
noncomputable def f17_body:Code:=bodyOf Tryz.f17
noncomputable def f17_info:FnInfo:=⟨[.val (.slice (.int .i64)),.val (.int .i64),.val (.int .i64),.val (.int .i64)],[.val (.slice (.int .i64))],51,[.tmp 8],f17_body,[],false,true⟩
noncomputable def f159_body:Code:=bodyOf Tryz.f159
noncomputable def f159_info:FnInfo:=⟨[.val (.slice (.int .i64)),.val (.slice (.int .i64))],[.val (.slice (.int .i64))],67,[.tmp 4],f159_body,[],false,true⟩
noncomputable def f22_body:Code:=bodyOf Tryz.f22
def f22_fresh:Bool:=false
def f22_t0:List Nat:=[0,3,4]
def f22_o0:List Nat:=[]
def f22_keep:List (Nat × (List Nat × List Nat)):=[(0,(f22_t0,f22_o0))]
noncomputable def f22_info:FnInfo:=⟨[.val (.slice .str)],[.val .bool],41,[.tmp 2],f22_body,f22_keep,f22_fresh,false⟩
noncomputable def f6_body:Code:=bodyOf Tryz.f6
def f6_fresh:Bool:=false
def f6_t0:List Nat:=[0,3,4]
def f6_o0:List Nat:=[]
def f6_keep:List (Nat × (List Nat × List Nat)):=[(0,(f6_t0,f6_o0))]
noncomputable def f6_info:FnInfo:=⟨[.val (.slice (.struct [(.struct [(.int .u32),(.blob 32),(.blob 32),(.int .u64)]),(.slice .str)]))],[.val .bool],36,[.tmp 2],f6_body,f6_keep,f6_fresh,false⟩
noncomputable def f158_body:Code:=bodyOf Tryz.f158
def f158_fresh:Bool:=false
def f158_t0:List Nat:=[0,1,5,9,10]
def f158_o0:List Nat:=[8]
def f158_keep:List (Nat × (List Nat × List Nat)):=[(0,(f158_t0,f158_o0))]
noncomputable def f158_info:FnInfo:=⟨[.val (.int .u64),.val (.int .i64)],[.val .str],26,[.tmp 4],f158_body,f158_keep,f158_fresh,false⟩
noncomputable def f137_body:Code:=bodyOf Tryz.f137
def f137_fresh:Bool:=false
def f137_keep:List (Nat × (List Nat × List Nat)):=[]
noncomputable def f137_info:FnInfo:=⟨[.val (.int .u32)],[.val .str],6,[.tmp 2],f137_body,f137_keep,f137_fresh,false⟩
noncomputable def f138_body:Code:=bodyOf Tryz.f138
def f138_fresh:Bool:=false
def f138_keep:List (Nat × (List Nat × List Nat)):=[]
noncomputable def f138_info:FnInfo:=⟨[.val (.int .u64)],[.val .str],5,[.tmp 2],f138_body,f138_keep,f138_fresh,false⟩
noncomputable def f115_body:Code:=bodyOf Tryz.f115
def f115_fresh:Bool:=false
def f115_keep:List (Nat × (List Nat × List Nat)):=[]
noncomputable def f115_info:FnInfo:=⟨[.val (.struct [(.int .u32),(.blob 32),(.blob 32),(.int .u64)])],[.val .str],18,[.tmp 2],f115_body,f115_keep,f115_fresh,false⟩
noncomputable def f157_body:Code:=bodyOf Tryz.f157
def f157_fresh:Bool:=false
def f157_keep:List (Nat × (List Nat × List Nat)):=[]
noncomputable def f157_info:FnInfo:=⟨[.val (.int .u8),.val (.slice .str)],[.val .str],11,[.tmp 4],f157_body,f157_keep,f157_fresh,false⟩
noncomputable def f136_body:Code:=bodyOf Tryz.f136
def f136_fresh:Bool:=false
def f136_keep:List (Nat × (List Nat × List Nat)):=[]
noncomputable def f136_info:FnInfo:=⟨[.val .str],[.val .str],6,[.tmp 2],f136_body,f136_keep,f136_fresh,false⟩
noncomputable def f154_body:Code:=bodyOf Tryz.f154
def f154_fresh:Bool:=false
def f154_keep:List (Nat × (List Nat × List Nat)):=[]
noncomputable def f154_info:FnInfo:=⟨[],[.ptr (.struct [(.arr 8 (.int .u32)),.str,(.int .u64),.bool])],3,[.tmp 0],f154_body,f154_keep,f154_fresh,false⟩
noncomputable def f169_body:Code:=bodyOf Tryz.f169
def f169_fresh:Bool:=false
def f169_keep:List (Nat × (List Nat × List Nat)):=[]
noncomputable def f169_info:FnInfo:=⟨[],[.val (.arr 8 (.int .u32))],2,[.cell 0 172],f169_body,f169_keep,f169_fresh,false⟩
noncomputable def f134_body:Code:=bodyOf Tryz.f134
def f134_fresh:Bool:=false
def f134_t0:List Nat:=[0,1,7,9,10]
def f134_o0:List Nat:=[]
def f134_keep:List (Nat × (List Nat × List Nat)):=[(0,(f134_t0,f134_o0))]
noncomputable def f134_info:FnInfo:=⟨[.val .str,.val (.int .i64),.val (.int .i64)],[.val (.int .u64)],41,[.tmp 6],f134_body,f134_keep,f134_fresh,false⟩
noncomputable def f188_body:Code:=bodyOf Tryz.f188
def f188_fresh:Bool:=false
def f188_keep:List (Nat × (List Nat × List Nat)):=[]
noncomputable def f188_info:FnInfo:=⟨[.val .str,.val (.int .i64)],[.val (.int .u32)],9,[.tmp 4],f188_body,f188_keep,f188_fresh,false⟩
noncomputable def f179_body:Code:=bodyOf Tryz.f179
def f179_fresh:Bool:=false
def f179_keep:List (Nat × (List Nat × List Nat)):=[]
noncomputable def f179_info:FnInfo:=⟨[.val (.int .u32),.val (.int .i64)],[.val (.int .u32)],17,[.tmp 4],f179_body,f179_keep,f179_fresh,false⟩
noncomputable def f177_body:Code:=bodyOf Tryz.f177
def f177_fresh:Bool:=false
def f177_t0:List Nat:=[0,2,3,9]
def f177_o0:List Nat:=[2,3]
def f177_keep:List (Nat × (List Nat × List Nat)):=[(0,(f177_t0,f177_o0))]
noncomputable def f177_info:FnInfo:=⟨[.val .str],[.val (.arr 64 (.int .u32))],61,[.cell 2 146],f177_body,f177_keep,f177_fresh,false⟩
noncomputable def f178_body:Code:=bodyOf Tryz.f178
def f178_fresh:Bool:=false
def f178_keep:List (Nat × (List Nat × List Nat)):=[]
noncomputable def f178_info:FnInfo:=⟨[],[.val (.arr 64 (.int .u32))],2,[.cell 0 146],f178_body,f178_keep,f178_fresh,false⟩
noncomputable def f170_body:Code:=bodyOf Tryz.f170
def f170_fresh:Bool:=false
def f170_t0:List Nat:=[2,4,5,6,7,18]
def f170_o0:List Nat:=[2,4,5,6,7]
def f170_t2:List Nat:=[2,4,7,109]
def f170_o2:List Nat:=[2,4,7]
def f170_keep:List (Nat × (List Nat × List Nat)):=[(0,(f170_t0,f170_o0)),(2,(f170_t2,f170_o2))]
noncomputable def f170_info:FnInfo:=⟨[.val (.arr 8 (.int .u32)),.val .str],[.val (.arr 8 (.int .u32))],122,[.cell 4 172],f170_body,f170_keep,f170_fresh,false⟩
noncomputable def f155_body:Code:=bodyOf Tryz.f155
def f155_fresh:Bool:=false
def f155_t0:List Nat:=[0,4]
def f155_o0:List Nat:=[0]
def f155_keep:List (Nat × (List Nat × List Nat)):=[(0,(f155_t0,f155_o0))]
noncomputable def f155_info:FnInfo:=⟨[.ptr (.struct [(.arr 8 (.int .u32)),.str,(.int .u64),.bool]),.val .str],[],72,[],f155_body,f155_keep,f155_fresh,false⟩
noncomputable def f171_body:Code:=bodyOf Tryz.f171
def f171_fresh:Bool:=false
def f171_keep:List (Nat × (List Nat × List Nat)):=[]
noncomputable def f171_info:FnInfo:=⟨[.val (.int .u64)],[.val .str],16,[.tmp 2],f171_body,f171_keep,f171_fresh,false⟩
noncomputable def f156_body:Code:=bodyOf Tryz.f156
def f156_fresh:Bool:=false
def f156_t0:List Nat:=[0,2,4,18,19]
def f156_o0:List Nat:=[0,2,4]
def f156_keep:List (Nat × (List Nat × List Nat)):=[(0,(f156_t0,f156_o0))]
noncomputable def f156_info:FnInfo:=⟨[.ptr (.struct [(.arr 8 (.int .u32)),.str,(.int .u64),.bool])],[.val (.blob 32)],37,[.cell 2 24],f156_body,f156_keep,f156_fresh,false⟩
noncomputable def f135_body:Code:=bodyOf Tryz.f135
def f135_fresh:Bool:=false
def f135_keep:List (Nat × (List Nat × List Nat)):=[]
noncomputable def f135_info:FnInfo:=⟨[.val .str],[.val (.blob 32)],10,[.cell 2 24],f135_body,f135_keep,f135_fresh,false⟩
noncomputable def f114_body:Code:=bodyOf Tryz.f114
def f114_fresh:Bool:=false
def f114_keep:List (Nat × (List Nat × List Nat)):=[]
noncomputable def f114_info:FnInfo:=⟨[.val .str],[.val (.blob 32)],6,[.cell 2 24],f114_body,f114_keep,f114_fresh,false⟩
noncomputable def f86_body:Code:=bodyOf Tryz.f86
def f86_fresh:Bool:=false
def f86_keep:List (Nat × (List Nat × List Nat)):=[]
noncomputable def f86_info:FnInfo:=⟨[.val (.struct [(.int .u32),(.blob 32),(.blob 32),(.int .u64)])],[.val (.blob 32)],6,[.cell 2 24],f86_body,f86_keep,f86_fresh,false⟩
noncomputable def f54_body:Code:=bodyOf Tryz.f54
def f54_fresh:Bool:=false
def f54_keep:List (Nat × (List Nat × List Nat)):=[]
noncomputable def f54_info:FnInfo:=⟨[.val (.struct [(.struct [(.int .u32),(.blob 32),(.blob 32),(.int .u64)]),(.slice .str)])],[.val (.blob 32)],6,[.cell 2 24],f54_body,f54_keep,f54_fresh,false⟩
noncomputable def f113_body:Code:=bodyOf Tryz.f113
def f113_fresh:Bool:=false
def f113_keep:List (Nat × (List Nat × List Nat)):=[]
noncomputable def f113_info:FnInfo:=⟨[.val .str,.val (.int .i64)],[.val (.int .u64)],8,[.tmp 4],f113_body,f113_keep,f113_fresh,false⟩
noncomputable def f83_body:Code:=bodyOf Tryz.f83
def f83_fresh:Bool:=false
def f83_t0:List Nat:=[1,2,3,5]
def f83_o0:List Nat:=[1,2,3]
def f83_keep:List (Nat × (List Nat × List Nat)):=[(0,(f83_t0,f83_o0))]
noncomputable def f83_info:FnInfo:=⟨[.val (.blob 32)],[.val (.arr 4 (.int .u64))],18,[.cell 2 113],f83_body,f83_keep,f83_fresh,false⟩
noncomputable def f84_body:Code:=bodyOf Tryz.f84
def f84_fresh:Bool:=false
def f84_t0:List Nat:=[2,3,8]
def f84_o0:List Nat:=[2,3]
def f84_keep:List (Nat × (List Nat × List Nat)):=[(0,(f84_t0,f84_o0))]
noncomputable def f84_info:FnInfo:=⟨[.val (.arr 4 (.int .u64)),.val (.arr 4 (.int .u64))],[.val (.int .i64)],28,[.tmp 4],f84_body,f84_keep,f84_fresh,false⟩
noncomputable def f95_body:Code:=bodyOf Tryz.f95
def f95_fresh:Bool:=false
def f95_keep:List (Nat × (List Nat × List Nat)):=[]
noncomputable def f95_info:FnInfo:=⟨[.val (.blob 32),.val (.blob 32)],[.val .bool],11,[.tmp 4],f95_body,f95_keep,f95_fresh,false⟩
noncomputable def f61_body:Code:=bodyOf Tryz.f61
def f61_fresh:Bool:=false
def f61_keep:List (Nat × (List Nat × List Nat)):=[]
noncomputable def f61_info:FnInfo:=⟨[.val (.struct [(.struct [(.struct [(.int .u32),(.blob 32),(.blob 32),(.int .u64)]),(.blob 32),(.int .i64),(.int .i64),(.int .i64),(.int .i64),(.int .i64),(.int .i64)]),(.int .i64),(.struct [(.struct [(.int .u32),(.blob 32),(.blob 32),(.int .u64)]),(.slice .str)]),(.slice (.blob 32))])],[.val (.int .i64)],11,[.tmp 2],f61_body,f61_keep,f61_fresh,false⟩
noncomputable def f70_body:Code:=bodyOf Tryz.f70
def f70_fresh:Bool:=false
def f70_t0:List Nat:=[8,9,10]
def f70_o0:List Nat:=[]
def f70_keep:List (Nat × (List Nat × List Nat)):=[(0,(f70_t0,f70_o0))]
noncomputable def f70_info:FnInfo:=⟨[.val (.slice .str)],[.val (.int .i64)],18,[.tmp 2],f70_body,f70_keep,f70_fresh,false⟩
noncomputable def f105_body:Code:=bodyOf Tryz.f105
def f105_fresh:Bool:=false
def f105_keep:List (Nat × (List Nat × List Nat)):=[]
noncomputable def f105_info:FnInfo:=⟨[.val (.blob 32)],[.val .str],6,[.tmp 2],f105_body,f105_keep,f105_fresh,false⟩
noncomputable def f76_body:Code:=bodyOf Tryz.f76
def f76_fresh:Bool:=true
def f76_t0:List Nat:=[3,6,7,8]
def f76_o0:List Nat:=[]
def f76_keep:List (Nat × (List Nat × List Nat)):=[(0,(f76_t0,f76_o0))]
noncomputable def f76_info:FnInfo:=⟨[.val (.slice (.blob 32))],[.val (.slice .str)],19,[.tmp 2],f76_body,f76_keep,f76_fresh,false⟩
noncomputable def f150_body:Code:=bodyOf Tryz.f150
def f150_fresh:Bool:=false
def f150_keep:List (Nat × (List Nat × List Nat)):=[]
noncomputable def f150_info:FnInfo:=⟨[.val .str],[.val .str],6,[.tmp 2],f150_body,f150_keep,f150_fresh,false⟩
noncomputable def f128_body:Code:=bodyOf Tryz.f128
def f128_fresh:Bool:=false
def f128_keep:List (Nat × (List Nat × List Nat)):=[]
noncomputable def f128_info:FnInfo:=⟨[.val .str],[.val (.blob 32)],6,[.cell 2 24],f128_body,f128_keep,f128_fresh,false⟩
noncomputable def f127_body:Code:=bodyOf Tryz.f127
def f127_fresh:Bool:=true
def f127_t0:List Nat:=[1,5,8,9,10]
def f127_o0:List Nat:=[]
def f127_keep:List (Nat × (List Nat × List Nat)):=[(0,(f127_t0,f127_o0))]
noncomputable def f127_info:FnInfo:=⟨[.val (.slice .str),.val .fn],[.val (.slice (.blob 32))],22,[.tmp 4],f127_body,f127_keep,f127_fresh,false⟩
noncomputable def f103_body:Code:=bodyOf Tryz.f103
def f103_fresh:Bool:=true
def f103_keep:List (Nat × (List Nat × List Nat)):=[]
noncomputable def f103_info:FnInfo:=⟨[.val (.slice .str)],[.val (.slice (.blob 32))],5,[.tmp 2],f103_body,f103_keep,f103_fresh,false⟩
noncomputable def f125_body:Code:=bodyOf Tryz.f125
def f125_fresh:Bool:=false
def f125_t0:List Nat:=[0,3]
def f125_o0:List Nat:=[]
def f125_keep:List (Nat × (List Nat × List Nat)):=[(0,(f125_t0,f125_o0))]
noncomputable def f125_info:FnInfo:=⟨[.val (.int .i64)],[.val (.int .i64)],14,[.tmp 2],f125_body,f125_keep,f125_fresh,false⟩
noncomputable def f148_body:Code:=bodyOf Tryz.f148
def f148_fresh:Bool:=false
def f148_keep:List (Nat × (List Nat × List Nat)):=[]
noncomputable def f148_info:FnInfo:=⟨[.val (.slice (.blob 32))],[.val (.slice (.blob 32)),.val (.slice (.blob 32))],14,[.tmp 2,.tmp 3],f148_body,f148_keep,f148_fresh,false⟩
noncomputable def f166_body:Code:=bodyOf Tryz.f166
def f166_fresh:Bool:=false
def f166_keep:List (Nat × (List Nat × List Nat)):=[]
noncomputable def f166_info:FnInfo:=⟨[.val (.blob 32),.val (.blob 32)],[.val .str],11,[.tmp 4],f166_body,f166_keep,f166_fresh,false⟩
noncomputable def f149_body:Code:=bodyOf Tryz.f149
def f149_fresh:Bool:=false
def f149_keep:List (Nat × (List Nat × List Nat)):=[]
noncomputable def f149_info:FnInfo:=⟨[.val (.blob 32),.val (.blob 32)],[.val (.blob 32)],9,[.cell 4 24],f149_body,f149_keep,f149_fresh,false⟩
noncomputable def f126_body:Code:=bodyOf Tryz.f126
def f126_fresh:Bool:=false
def f126_keep:List (Nat × (List Nat × List Nat)):=[]
noncomputable def f126_info:FnInfo:=⟨[.val (.slice (.blob 32))],[.val (.blob 32)],25,[.cell 2 24],f126_body,f126_keep,f126_fresh,false⟩
noncomputable def f184_body:Code:=bodyOf Tryz.f184
def f184_fresh:Bool:=false
def f184_keep:List (Nat × (List Nat × List Nat)):=[]
noncomputable def f184_info:FnInfo:=⟨[.val (.int .u64),.val (.blob 32)],[.val .str],11,[.tmp 4],f184_body,f184_keep,f184_fresh,false⟩
noncomputable def f175_body:Code:=bodyOf Tryz.f175
def f175_fresh:Bool:=false
def f175_keep:List (Nat × (List Nat × List Nat)):=[]
noncomputable def f175_info:FnInfo:=⟨[.val (.int .u64),.val (.blob 32)],[.val (.blob 32)],9,[.cell 4 24],f175_body,f175_keep,f175_fresh,false⟩
noncomputable def f164_body:Code:=bodyOf Tryz.f164
def f164_fresh:Bool:=false
def f164_keep:List (Nat × (List Nat × List Nat)):=[]
noncomputable def f164_info:FnInfo:=⟨[.val (.slice .str)],[.val (.blob 32)],10,[.cell 2 24],f164_body,f164_keep,f164_fresh,false⟩
noncomputable def f145_body:Code:=bodyOf Tryz.f145
def f145_fresh:Bool:=false
def f145_keep:List (Nat × (List Nat × List Nat)):=[]
noncomputable def f145_info:FnInfo:=⟨[.val (.slice (.blob 32))],[.val (.blob 32)],6,[.cell 2 24],f145_body,f145_keep,f145_fresh,false⟩
noncomputable def f104_body:Code:=bodyOf Tryz.f104
def f104_fresh:Bool:=false
def f104_keep:List (Nat × (List Nat × List Nat)):=[]
noncomputable def f104_info:FnInfo:=⟨[.val .str],[.val .str],5,[.tmp 2],f104_body,f104_keep,f104_fresh,false⟩
noncomputable def f72_body:Code:=bodyOf Tryz.f72
def f72_fresh:Bool:=true
def f72_t0:List Nat:=[3,6,7,8]
def f72_o0:List Nat:=[]
def f72_keep:List (Nat × (List Nat × List Nat)):=[(0,(f72_t0,f72_o0))]
noncomputable def f72_info:FnInfo:=⟨[.val (.slice .str)],[.val (.slice .str)],19,[.tmp 2],f72_body,f72_keep,f72_fresh,false⟩
noncomputable def f146_body:Code:=bodyOf Tryz.f146
def f146_fresh:Bool:=false
def f146_keep:List (Nat × (List Nat × List Nat)):=[]
noncomputable def f146_info:FnInfo:=⟨[.val (.slice .str)],[.val (.blob 32)],6,[.cell 2 24],f146_body,f146_keep,f146_fresh,false⟩
noncomputable def f123_body:Code:=bodyOf Tryz.f123
def f123_fresh:Bool:=false
def f123_keep:List (Nat × (List Nat × List Nat)):=[]
noncomputable def f123_info:FnInfo:=⟨[.val (.int .u32),.val (.slice (.blob 32)),.val (.slice .str),.val (.int .u64)],[.val (.struct [(.struct [(.int .u32),(.blob 32),(.blob 32),(.int .u64)]),(.slice .str)])],21,[.cell 8 59],f123_body,f123_keep,f123_fresh,false⟩
noncomputable def f94_body:Code:=bodyOf Tryz.f94
def f94_fresh:Bool:=false
def f94_keep:List (Nat × (List Nat × List Nat)):=[]
noncomputable def f94_info:FnInfo:=⟨[.val (.struct [(.struct [(.int .u32),(.blob 32),(.blob 32),(.int .u64)]),(.slice .str)]),.val (.int .u32),.val (.slice (.blob 32))],[.val (.int .i64)],31,[.tmp 6],f94_body,f94_keep,f94_fresh,false⟩
noncomputable def f60_body:Code:=bodyOf Tryz.f60
def f60_fresh:Bool:=false
def f60_keep:List (Nat × (List Nat × List Nat)):=[]
noncomputable def f60_info:FnInfo:=⟨[.val (.struct [(.struct [(.struct [(.int .u32),(.blob 32),(.blob 32),(.int .u64)]),(.blob 32),(.int .i64),(.int .i64),(.int .i64),(.int .i64),(.int .i64),(.int .i64)]),(.int .i64),(.struct [(.struct [(.int .u32),(.blob 32),(.blob 32),(.int .u64)]),(.slice .str)]),(.slice (.blob 32))])],[.val (.int .i64)],11,[.tmp 2],f60_body,f60_keep,f60_fresh,false⟩
noncomputable def f59_body:Code:=bodyOf Tryz.f59
def f59_fresh:Bool:=false
def f59_keep:List (Nat × (List Nat × List Nat)):=[]
noncomputable def f59_info:FnInfo:=⟨[.val (.struct [(.struct [(.struct [(.int .u32),(.blob 32),(.blob 32),(.int .u64)]),(.blob 32),(.int .i64),(.int .i64),(.int .i64),(.int .i64),(.int .i64),(.int .i64)]),(.int .i64),(.struct [(.struct [(.int .u32),(.blob 32),(.blob 32),(.int .u64)]),(.slice .str)]),(.slice (.blob 32))])],[.val (.int .i64)],15,[.tmp 2],f59_body,f59_keep,f59_fresh,false⟩
noncomputable def f96_body:Code:=bodyOf Tryz.f96
def f96_fresh:Bool:=true
def f96_keep:List (Nat × (List Nat × List Nat)):=[]
noncomputable def f96_info:FnInfo:=⟨[.val (.blob 32)],[.val (.slice (.blob 32))],5,[.tmp 2],f96_body,f96_keep,f96_fresh,false⟩
noncomputable def f85_body:Code:=bodyOf Tryz.f85
def f85_fresh:Bool:=false
def f85_t0:List Nat:=[2,4,5,6,7,21,22]
def f85_o0:List Nat:=[2,4,5]
def f85_keep:List (Nat × (List Nat × List Nat)):=[(0,(f85_t0,f85_o0))]
noncomputable def f85_info:FnInfo:=⟨[.val (.arr 4 (.int .u64)),.val (.int .i64)],[.val (.arr 4 (.int .u64))],59,[.cell 4 113],f85_body,f85_keep,f85_fresh,false⟩
noncomputable def f53_body:Code:=bodyOf Tryz.f53
def f53_fresh:Bool:=false
def f53_t0:List Nat:=[5,6,7,13]
def f53_o0:List Nat:=[5,6]
def f53_keep:List (Nat × (List Nat × List Nat)):=[(0,(f53_t0,f53_o0))]
noncomputable def f53_info:FnInfo:=⟨[.val (.blob 32),.val (.blob 32)],[.val (.int .i64)],25,[.tmp 4],f53_body,f53_keep,f53_fresh,false⟩
noncomputable def f97_body:Code:=bodyOf Tryz.f97
def f97_fresh:Bool:=false
def f97_t0:List Nat:=[0,2,4,7,8,30,31]
def f97_o0:List Nat:=[4,8,22]
def f97_t2:List Nat:=[4,7,8,48,49]
def f97_o2:List Nat:=[4,8,22]
def f97_keep:List (Nat × (List Nat × List Nat)):=[(0,(f97_t0,f97_o0)),(2,(f97_t2,f97_o2))]
noncomputable def f97_info:FnInfo:=⟨[.val (.slice (.blob 32)),.val (.blob 32),.val (.int .i64)],[.val (.slice (.blob 32))],64,[.tmp 6],f97_body,f97_keep,f97_fresh,false⟩
noncomputable def f62_body:Code:=bodyOf Tryz.f62
def f62_fresh:Bool:=false
def f62_keep:List (Nat × (List Nat × List Nat)):=[]
noncomputable def f62_info:FnInfo:=⟨[.val (.blob 32),.val (.slice (.blob 32)),.val (.struct [(.struct [(.int .u32),(.blob 32),(.blob 32),(.int .u64)]),(.slice .str)]),.val (.int .i64)],[.val (.slice (.blob 32))],22,[.tmp 8],f62_body,f62_keep,f62_fresh,false⟩
noncomputable def f31_body:Code:=bodyOf Tryz.f31
def f31_fresh:Bool:=false
def f31_t1:List Nat:=[2,4,1000005,22,23,24]
def f31_o1:List Nat:=[2,4]
def f31_t3:List Nat:=[2,4,5,6,7,22,23,24,40,41,42]
def f31_o3:List Nat:=[2,4,7]
def f31_keep:List (Nat × (List Nat × List Nat)):=[(1,(f31_t1,f31_o1)),(3,(f31_t3,f31_o3))]
noncomputable def f31_info:FnInfo:=⟨[.val (.struct [(.struct [(.int .u32),(.blob 32),(.blob 32),(.int .u64)]),(.blob 32),(.int .i64),(.int .i64),(.int .i64),(.int .i64),(.int .i64),(.int .i64)]),.val (.slice (.struct [(.struct [(.int .u32),(.blob 32),(.blob 32),(.int .u64)]),(.slice .str)]))],[.val (.struct [(.int .i64),(.int .i64)])],62,[.cell 4 69],f31_body,f31_keep,f31_fresh,false⟩
noncomputable def f63_body:Code:=bodyOf Tryz.f63
def f63_fresh:Bool:=false
def f63_keep:List (Nat × (List Nat × List Nat)):=[]
noncomputable def f63_info:FnInfo:=⟨[.val (.int .i64),.val (.int .i64)],[.val .bool],16,[.tmp 4],f63_body,f63_keep,f63_fresh,false⟩
noncomputable def f32_body:Code:=bodyOf Tryz.f32
def f32_fresh:Bool:=false
def f32_keep:List (Nat × (List Nat × List Nat)):=[]
noncomputable def f32_info:FnInfo:=⟨[.val (.int .i64),.val (.int .i64),.val (.int .i64),.val (.int .i64)],[.val .bool],28,[.tmp 8],f32_body,f32_keep,f32_fresh,false⟩
noncomputable def f14_body:Code:=bodyOf Tryz.f14
def f14_fresh:Bool:=false
def f14_keep:List (Nat × (List Nat × List Nat)):=[]
noncomputable def f14_info:FnInfo:=⟨[.val (.struct [(.struct [(.int .u32),(.blob 32),(.blob 32),(.int .u64)]),(.blob 32),(.int .i64),(.int .i64),(.int .i64),(.int .i64),(.int .i64),(.int .i64)]),.val (.slice (.struct [(.struct [(.int .u32),(.blob 32),(.blob 32),(.int .u64)]),(.slice .str)]))],[.val (.int .i64)],31,[.tmp 4],f14_body,f14_keep,f14_fresh,false⟩
noncomputable def f102_body:Code:=bodyOf Tryz.f102
def f102_fresh:Bool:=true
def f102_keep:List (Nat × (List Nat × List Nat)):=[]
noncomputable def f102_info:FnInfo:=⟨[.val (.slice (.blob 32)),.val (.int .i64)],[.val (.slice (.blob 32))],39,[.tmp 4],f102_body,f102_keep,f102_fresh,false⟩
noncomputable def f71_body:Code:=bodyOf Tryz.f71
def f71_fresh:Bool:=false
def f71_keep:List (Nat × (List Nat × List Nat)):=[]
noncomputable def f71_info:FnInfo:=⟨[.val (.slice .str),.val (.int .i64)],[.val (.struct [(.int .i64),(.int .i64),(.slice (.blob 32))]),.val (.int .i64)],29,[.cell 4 49,.tmp 5],f71_body,f71_keep,f71_fresh,false⟩
noncomputable def f38_body:Code:=bodyOf Tryz.f38
def f38_fresh:Bool:=false
def f38_keep:List (Nat × (List Nat × List Nat)):=[]
noncomputable def f38_info:FnInfo:=⟨[.val (.slice .str),.val (.int .i64)],[.val (.struct [(.int .i64),(.int .i64),(.slice (.blob 32))]),.val (.int .i64)],19,[.cell 4 49,.tmp 5],f38_body,f38_keep,f38_fresh,false⟩
noncomputable def f26_body:Code:=bodyOf Tryz.f26
def f26_fresh:Bool:=true
def f26_t0:List Nat:=[2,5,9,10,11]
def f26_o0:List Nat:=[2]
def f26_keep:List (Nat × (List Nat × List Nat)):=[(0,(f26_t0,f26_o0))]
noncomputable def f26_info:FnInfo:=⟨[.val (.blob 32),.val (.slice (.struct [(.struct [(.int .u32),(.blob 32),(.blob 32),(.int .u64)]),(.slice .str)]))],[.val (.slice (.int .i64))],28,[.tmp 4],f26_body,f26_keep,f26_fresh,false⟩
noncomputable def f50_body:Code:=bodyOf Tryz.f50
def f50_fresh:Bool:=false
def f50_t0:List Nat:=[3,6,7,8]
def f50_o0:List Nat:=[]
def f50_keep:List (Nat × (List Nat × List Nat)):=[(0,(f50_t0,f50_o0))]
noncomputable def f50_info:FnInfo:=⟨[.val (.slice (.int .i64))],[.val (.int .i64)],21,[.tmp 2],f50_body,f50_keep,f50_fresh,false⟩
noncomputable def f186_body:Code:=bodyOf Tryz.f186
def f186_fresh:Bool:=false
def f186_keep:List (Nat × (List Nat × List Nat)):=[]
noncomputable def f186_info:FnInfo:=⟨[.val (.int .u64)],[.val (.arr 5 (.int .u64))],5,[.cell 2 168],f186_body,f186_keep,f186_fresh,false⟩
noncomputable def f194_body:Code:=bodyOf Tryz.f194
def f194_fresh:Bool:=false
def f194_t0:List Nat:=[1,2,4,6,7,11]
def f194_o0:List Nat:=[2,4,6]
def f194_keep:List (Nat × (List Nat × List Nat)):=[(0,(f194_t0,f194_o0))]
noncomputable def f194_info:FnInfo:=⟨[.val (.arr 5 (.int .u64)),.val (.int .u64)],[.val (.arr 5 (.int .u64)),.val .bool],44,[.cell 4 168,.tmp 5],f194_body,f194_keep,f194_fresh,false⟩
noncomputable def f202_body:Code:=bodyOf Tryz.f202
def f202_fresh:Bool:=false
def f202_t0:List Nat:=[0,3,5]
def f202_o0:List Nat:=[]
def f202_keep:List (Nat × (List Nat × List Nat)):=[(0,(f202_t0,f202_o0))]
noncomputable def f202_info:FnInfo:=⟨[.val (.int .u64)],[.val (.int .i64)],18,[.tmp 2],f202_body,f202_keep,f202_fresh,false⟩
noncomputable def f196_body:Code:=bodyOf Tryz.f196
def f196_fresh:Bool:=false
def f196_t0:List Nat:=[1,5]
def f196_o0:List Nat:=[1]
def f196_keep:List (Nat × (List Nat × List Nat)):=[(0,(f196_t0,f196_o0))]
noncomputable def f196_info:FnInfo:=⟨[.val (.arr 5 (.int .u64))],[.val (.int .i64)],21,[.tmp 2],f196_body,f196_keep,f196_fresh,false⟩
noncomputable def f187_body:Code:=bodyOf Tryz.f187
def f187_fresh:Bool:=false
def f187_t0:List Nat:=[2,4,6,7,8,9]
def f187_o0:List Nat:=[2,4,6]
def f187_keep:List (Nat × (List Nat × List Nat)):=[(0,(f187_t0,f187_o0))]
noncomputable def f187_info:FnInfo:=⟨[.val (.arr 5 (.int .u64)),.val (.int .i64)],[.val (.arr 5 (.int .u64)),.val .bool],70,[.cell 4 168,.tmp 5],f187_body,f187_keep,f187_fresh,false⟩
noncomputable def f195_body:Code:=bodyOf Tryz.f195
def f195_fresh:Bool:=false
def f195_t0:List Nat:=[2,3,4,6,7,11]
def f195_o0:List Nat:=[2,3,4,6]
def f195_keep:List (Nat × (List Nat × List Nat)):=[(0,(f195_t0,f195_o0))]
noncomputable def f195_info:FnInfo:=⟨[.val (.arr 5 (.int .u64)),.val (.arr 5 (.int .u64))],[.val (.arr 5 (.int .u64)),.val .bool],51,[.cell 4 168,.tmp 5],f195_body,f195_keep,f195_fresh,false⟩
noncomputable def f185_body:Code:=bodyOf Tryz.f185
def f185_fresh:Bool:=false
def f185_keep:List (Nat × (List Nat × List Nat)):=[]
noncomputable def f185_info:FnInfo:=⟨[.val (.arr 5 (.int .u64)),.val (.int .u64)],[.val (.arr 5 (.int .u64)),.val .bool],42,[.cell 4 168,.tmp 5],f185_body,f185_keep,f185_fresh,false⟩
noncomputable def f176_body:Code:=bodyOf Tryz.f176
def f176_fresh:Bool:=false
def f176_keep:List (Nat × (List Nat × List Nat)):=[]
noncomputable def f176_info:FnInfo:=⟨[.val (.int .u32),.val (.int .u32),.val (.int .i64)],[.val (.arr 5 (.int .u64)),.val .bool],31,[.cell 6 168,.tmp 7],f176_body,f176_keep,f176_fresh,false⟩
noncomputable def f167_body:Code:=bodyOf Tryz.f167
def f167_fresh:Bool:=false
def f167_keep:List (Nat × (List Nat × List Nat)):=[]
noncomputable def f167_info:FnInfo:=⟨[.val (.int .u32),.val (.int .u32),.val (.int .i64),.val (.int .i64),.val (.int .i64)],[.val (.arr 5 (.int .u64)),.val (.arr 5 (.int .u64)),.val .bool],43,[.cell 10 168,.cell 11 168,.tmp 12],f167_body,f167_keep,f167_fresh,false⟩
noncomputable def f168_body:Code:=bodyOf Tryz.f168
def f168_fresh:Bool:=false
def f168_t0:List Nat:=[2,3,8]
def f168_o0:List Nat:=[2,3]
def f168_keep:List (Nat × (List Nat × List Nat)):=[(0,(f168_t0,f168_o0))]
noncomputable def f168_info:FnInfo:=⟨[.val (.arr 5 (.int .u64)),.val (.arr 5 (.int .u64))],[.val (.int .i64)],26,[.tmp 4],f168_body,f168_keep,f168_fresh,false⟩
noncomputable def f152_body:Code:=bodyOf Tryz.f152
def f152_fresh:Bool:=false
def f152_keep:List (Nat × (List Nat × List Nat)):=[]
noncomputable def f152_info:FnInfo:=⟨[.val (.int .u32),.val (.int .u32),.val (.int .i64),.val (.int .i64),.val (.int .i64)],[.val .bool],31,[.tmp 10],f152_body,f152_keep,f152_fresh,false⟩
noncomputable def f131_body:Code:=bodyOf Tryz.f131
def f131_fresh:Bool:=false
def f131_keep:List (Nat × (List Nat × List Nat)):=[]
noncomputable def f131_info:FnInfo:=⟨[.val (.int .i64),.val (.int .i64),.val (.int .i64),.val (.int .i64),.val (.int .i64)],[.val .bool],35,[.tmp 10],f131_body,f131_keep,f131_fresh,false⟩
noncomputable def f111_body:Code:=bodyOf Tryz.f111
def f111_fresh:Bool:=false
def f111_t0:List Nat:=[0,1,3,4,11,12]
def f111_o0:List Nat:=[]
def f111_keep:List (Nat × (List Nat × List Nat)):=[(0,(f111_t0,f111_o0))]
noncomputable def f111_info:FnInfo:=⟨[.val (.slice (.int .i64)),.val (.int .i64),.val (.int .i64),.val (.int .i64),.val (.int .i64)],[.val .bool],43,[.tmp 10],f111_body,f111_keep,f111_fresh,false⟩
noncomputable def f132_body:Code:=bodyOf Tryz.f132
def f132_fresh:Bool:=false
def f132_t0:List Nat:=[1,5,12,13,14]
def f132_o0:List Nat:=[11]
def f132_keep:List (Nat × (List Nat × List Nat)):=[(0,(f132_t0,f132_o0))]
noncomputable def f132_info:FnInfo:=⟨[.val (.slice (.int .i64)),.val (.int .i64)],[.val (.slice (.int .i64))],39,[.tmp 4],f132_body,f132_keep,f132_fresh,false⟩
noncomputable def f153_body:Code:=bodyOf Tryz.f153
def f153_fresh:Bool:=false
def f153_keep:List (Nat × (List Nat × List Nat)):=[]
noncomputable def f153_info:FnInfo:=⟨[.val (.int .u32),.val (.int .u32),.val (.int .i64),.val (.int .i64),.val (.int .i64)],[.val .bool],31,[.tmp 10],f153_body,f153_keep,f153_fresh,false⟩
noncomputable def f133_body:Code:=bodyOf Tryz.f133
def f133_fresh:Bool:=false
def f133_t0:List Nat:=[0,1,2,3,4,5,18,19]
def f133_o0:List Nat:=[]
def f133_t2:List Nat:=[0,1,2,3,4,5,13,14,18,19]
def f133_o2:List Nat:=[]
def f133_keep:List (Nat × (List Nat × List Nat)):=[(0,(f133_t0,f133_o0)),(2,(f133_t2,f133_o2))]
noncomputable def f133_info:FnInfo:=⟨[.val (.slice (.int .i64)),.val (.slice (.int .i64)),.val (.int .i64),.val (.int .i64),.val (.int .i64),.val (.int .i64)],[.val .bool],63,[.tmp 12],f133_body,f133_keep,f133_fresh,false⟩
noncomputable def f112_body:Code:=bodyOf Tryz.f112
def f112_fresh:Bool:=false
def f112_t0:List Nat:=[0,1,2,3,4,11,24,25]
def f112_o0:List Nat:=[]
def f112_keep:List (Nat × (List Nat × List Nat)):=[(0,(f112_t0,f112_o0))]
noncomputable def f112_info:FnInfo:=⟨[.val (.slice (.int .i64)),.val (.int .i64),.val (.int .i64),.val (.int .i64),.val (.int .i64)],[.val .bool],42,[.tmp 10],f112_body,f112_keep,f112_fresh,false⟩
noncomputable def f82_body:Code:=bodyOf Tryz.f82
def f82_fresh:Bool:=false
def f82_keep:List (Nat × (List Nat × List Nat)):=[]
noncomputable def f82_info:FnInfo:=⟨[.val (.slice (.int .i64)),.val (.int .i64),.val (.int .i64),.val (.int .i64),.val (.int .i64)],[.val .bool],25,[.tmp 10],f82_body,f82_keep,f82_fresh,false⟩
noncomputable def f52_body:Code:=bodyOf Tryz.f52
def f52_fresh:Bool:=false
def f52_keep:List (Nat × (List Nat × List Nat)):=[]
noncomputable def f52_info:FnInfo:=⟨[.val (.slice (.int .i64)),.val (.int .i64),.val (.int .i64),.val (.int .i64),.val (.int .i64),.val (.int .i64)],[.val (.int .i64)],49,[.tmp 12],f52_body,f52_keep,f52_fresh,false⟩
noncomputable def f25_body:Code:=bodyOf Tryz.f25
def f25_fresh:Bool:=true
def f25_t0:List Nat:=[1,3,4,11,12,13,14]
def f25_o0:List Nat:=[45]
def f25_t2:List Nat:=[1,3,4,11,12,13,14,55,56,57]
def f25_o2:List Nat:=[45]
def f25_t4:List Nat:=[17,72,73,74]
def f25_o4:List Nat:=[45]
def f25_keep:List (Nat × (List Nat × List Nat)):=[(0,(f25_t0,f25_o0)),(2,(f25_t2,f25_o2)),(4,(f25_t4,f25_o4))]
noncomputable def f25_info:FnInfo:=⟨[.val (.slice (.int .i64)),.val (.int .i64),.val (.int .i64),.val (.int .i64),.val (.int .i64)],[.val (.slice (.int .i64))],86,[.tmp 10],f25_body,f25_keep,f25_fresh,false⟩
noncomputable def f11_body:Code:=bodyOf Tryz.f11
def f11_fresh:Bool:=true
def f11_t0:List Nat:=[1,5,6]
def f11_o0:List Nat:=[]
def f11_keep:List (Nat × (List Nat × List Nat)):=[(0,(f11_t0,f11_o0))]
noncomputable def f11_info:FnInfo:=⟨[.val (.struct [(.struct [(.int .u32),(.blob 32),(.blob 32),(.int .u64)]),(.blob 32),(.int .i64),(.int .i64),(.int .i64),(.int .i64),(.int .i64),(.int .i64)]),.val (.slice (.struct [(.struct [(.int .u32),(.blob 32),(.blob 32),(.int .u64)]),(.slice .str)]))],[.val (.slice (.int .i64))],43,[.tmp 4],f11_body,f11_keep,f11_fresh,false⟩
noncomputable def f39_body:Code:=bodyOf Tryz.f39
def f39_fresh:Bool:=false
def f39_t0:List Nat:=[0,1,7,8,9]
def f39_o0:List Nat:=[]
def f39_keep:List (Nat × (List Nat × List Nat)):=[(0,(f39_t0,f39_o0))]
noncomputable def f39_info:FnInfo:=⟨[.val (.slice (.int .i64)),.val (.int .i64)],[.val (.int .i64)],21,[.tmp 4],f39_body,f39_keep,f39_fresh,false⟩
noncomputable def f43_body:Code:=bodyOf Tryz.f43
def f43_fresh:Bool:=true
def f43_t0:List Nat:=[2,5,9,10,11]
def f43_o0:List Nat:=[2]
def f43_keep:List (Nat × (List Nat × List Nat)):=[(0,(f43_t0,f43_o0))]
noncomputable def f43_info:FnInfo:=⟨[.val (.blob 32),.val (.slice (.struct [(.struct [(.int .u32),(.blob 32),(.blob 32),(.int .u64)]),(.slice .str)]))],[.val (.slice (.slice (.blob 32)))],29,[.tmp 4],f43_body,f43_keep,f43_fresh,false⟩
noncomputable def f100_body:Code:=bodyOf Tryz.f100
def f100_fresh:Bool:=false
def f100_t0:List Nat:=[0,2,7]
def f100_o0:List Nat:=[]
def f100_keep:List (Nat × (List Nat × List Nat)):=[(0,(f100_t0,f100_o0))]
noncomputable def f100_info:FnInfo:=⟨[.val (.slice (.int .i64)),.val (.int .i64),.val (.int .i64)],[.val (.int .i64)],24,[.tmp 6],f100_body,f100_keep,f100_fresh,false⟩
noncomputable def f68_body:Code:=bodyOf Tryz.f68
def f68_fresh:Bool:=true
def f68_t0:List Nat:=[0,1,5,17]
def f68_o0:List Nat:=[]
def f68_keep:List (Nat × (List Nat × List Nat)):=[(0,(f68_t0,f68_o0))]
noncomputable def f68_info:FnInfo:=⟨[.val (.slice (.int .i64)),.val (.int .i64)],[.val (.slice (.int .i64))],34,[.tmp 4],f68_body,f68_keep,f68_fresh,false⟩
noncomputable def f44_body:Code:=bodyOf Tryz.f44
def f44_fresh:Bool:=false
def f44_t0:List Nat:=[2,11,12,13]
def f44_o0:List Nat:=[]
def f44_keep:List (Nat × (List Nat × List Nat)):=[(0,(f44_t0,f44_o0))]
noncomputable def f44_info:FnInfo:=⟨[.val (.slice (.int .i64)),.val (.int .i64),.val (.int .i64)],[.val (.int .i64)],23,[.tmp 6],f44_body,f44_keep,f44_fresh,false⟩
noncomputable def f45_body:Code:=bodyOf Tryz.f45
def f45_fresh:Bool:=false
def f45_keep:List (Nat × (List Nat × List Nat)):=[]
noncomputable def f45_info:FnInfo:=⟨[.val (.slice (.blob 32)),.val (.int .i64)],[.val (.struct [(.int .i64),(.int .i64),(.slice (.blob 32))]),.val (.int .i64)],12,[.cell 4 49,.tmp 5],f45_body,f45_keep,f45_fresh,false⟩
noncomputable def f23_body:Code:=bodyOf Tryz.f23
def f23_fresh:Bool:=false
def f23_t0:List Nat:=[1,2,8,9,10,23,24,25]
def f23_o0:List Nat:=[]
def f23_keep:List (Nat × (List Nat × List Nat)):=[(0,(f23_t0,f23_o0))]
noncomputable def f23_info:FnInfo:=⟨[.val (.blob 32),.val (.slice (.struct [(.struct [(.int .u32),(.blob 32),(.blob 32),(.int .u64)]),(.slice .str)])),.val (.slice (.int .i64))],[.val (.slice (.struct [(.struct [(.int .u32),(.blob 32),(.blob 32),(.int .u64)]),(.struct [(.int .i64),(.int .i64),(.slice (.blob 32))])])),.val (.int .i64)],76,[.tmp 6,.tmp 7],f23_body,f23_keep,f23_fresh,false⟩
noncomputable def f40_body:Code:=bodyOf Tryz.f40
def f40_fresh:Bool:=false
def f40_keep:List (Nat × (List Nat × List Nat)):=[]
noncomputable def f40_info:FnInfo:=⟨[.val (.blob 32),.val (.slice (.struct [(.struct [(.int .u32),(.blob 32),(.blob 32),(.int .u64)]),(.slice .str)])),.val (.slice (.int .i64)),.val (.int .i64),.val (.struct [(.int .i64),(.slice (.struct [(.struct [(.int .u32),(.blob 32),(.blob 32),(.int .u64)]),(.struct [(.int .i64),(.int .i64),(.slice (.blob 32))])])),(.struct [(.int .i64),(.int .i64),(.slice (.blob 32))]),(.int .i64),.str,(.struct [(.int .i64),(.int .i64),(.slice (.blob 32))])])],[.val (.struct [(.int .i64),(.slice (.struct [(.struct [(.int .u32),(.blob 32),(.blob 32),(.int .u64)]),(.struct [(.int .i64),(.int .i64),(.slice (.blob 32))])])),(.struct [(.int .i64),(.int .i64),(.slice (.blob 32))]),(.int .i64),.str,(.struct [(.int .i64),(.int .i64),(.slice (.blob 32))])]),.val (.int .i64)],73,[.cell 10 51,.tmp 11],f40_body,f40_keep,f40_fresh,false⟩
noncomputable def f19_body:Code:=bodyOf Tryz.f19
def f19_fresh:Bool:=false
def f19_keep:List (Nat × (List Nat × List Nat)):=[]
noncomputable def f19_info:FnInfo:=⟨[.val (.struct [(.struct [(.int .u32),(.blob 32),(.blob 32),(.int .u64)]),(.blob 32),(.int .i64),(.int .i64),(.int .i64),(.int .i64),(.int .i64),(.int .i64)]),.val (.slice (.struct [(.struct [(.int .u32),(.blob 32),(.blob 32),(.int .u64)]),(.slice .str)])),.val (.int .i64),.val (.int .i64)],[.val (.struct [(.int .i64),(.slice (.struct [(.struct [(.int .u32),(.blob 32),(.blob 32),(.int .u64)]),(.struct [(.int .i64),(.int .i64),(.slice (.blob 32))])])),(.struct [(.int .i64),(.int .i64),(.slice (.blob 32))]),(.int .i64),.str,(.struct [(.int .i64),(.int .i64),(.slice (.blob 32))])]),.val (.int .i64)],80,[.cell 8 51,.tmp 9],f19_body,f19_keep,f19_fresh,false⟩
noncomputable def f10_body:Code:=bodyOf Tryz.f10
def f10_fresh:Bool:=false
def f10_t0:List Nat:=[0,1,5]
def f10_o0:List Nat:=[]
def f10_keep:List (Nat × (List Nat × List Nat)):=[(0,(f10_t0,f10_o0))]
noncomputable def f10_info:FnInfo:=⟨[.val (.slice (.int .i64)),.val (.slice (.int .i64))],[.val .bool],26,[.tmp 4],f10_body,f10_keep,f10_fresh,false⟩
noncomputable def f16_body:Code:=bodyOf Tryz.f16
def f16_fresh:Bool:=false
def f16_keep:List (Nat × (List Nat × List Nat)):=[]
noncomputable def f16_info:FnInfo:=⟨[],[.val .bool],16,[.tmp 0],f16_body,f16_keep,f16_fresh,false⟩
noncomputable def f122_body:Code:=bodyOf Tryz.f122
def f122_fresh:Bool:=false
def f122_keep:List (Nat × (List Nat × List Nat)):=[]
noncomputable def f122_info:FnInfo:=⟨[.val (.int .i64)],[.val .str],7,[.tmp 2],f122_body,f122_keep,f122_fresh,false⟩
noncomputable def f121_body:Code:=bodyOf Tryz.f121
def f121_fresh:Bool:=false
def f121_t0:List Nat:=[0,1,5,6]
def f121_o0:List Nat:=[]
def f121_keep:List (Nat × (List Nat × List Nat)):=[(0,(f121_t0,f121_o0))]
noncomputable def f121_info:FnInfo:=⟨[.val (.int .u64),.val (.int .i64)],[.val .str],21,[.tmp 4],f121_body,f121_keep,f121_fresh,false⟩
noncomputable def f109_body:Code:=bodyOf Tryz.f109
def f109_fresh:Bool:=false
def f109_t0:List Nat:=[1,3,4]
def f109_o0:List Nat:=[1,5]
def f109_keep:List (Nat × (List Nat × List Nat)):=[(0,(f109_t0,f109_o0))]
noncomputable def f109_info:FnInfo:=⟨[.val (.blob 32)],[.val .str],18,[.tmp 2],f109_body,f109_keep,f109_fresh,false⟩
noncomputable def f93_body:Code:=bodyOf Tryz.f93
def f93_fresh:Bool:=false
def f93_keep:List (Nat × (List Nat × List Nat)):=[]
noncomputable def f93_info:FnInfo:=⟨[.val (.struct [(.int .u32),(.blob 32),(.blob 32),(.int .u64)])],[.val .str],19,[.tmp 2],f93_body,f93_keep,f93_fresh,false⟩
noncomputable def f92_body:Code:=bodyOf Tryz.f92
def f92_fresh:Bool:=false
def f92_keep:List (Nat × (List Nat × List Nat)):=[]
noncomputable def f92_info:FnInfo:=⟨[.val .str],[.val .str],6,[.tmp 2],f92_body,f92_keep,f92_fresh,false⟩
noncomputable def f118_body:Code:=bodyOf Tryz.f118
def f118_fresh:Bool:=false
def f118_keep:List (Nat × (List Nat × List Nat)):=[]
noncomputable def f118_info:FnInfo:=⟨[],[.val (.arr 8 (.int .u32))],2,[.cell 0 132],f118_body,f118_keep,f118_fresh,false⟩
noncomputable def f119_body:Code:=bodyOf Tryz.f119
def f119_fresh:Bool:=false
def f119_t0:List Nat:=[0,3]
def f119_o0:List Nat:=[]
def f119_keep:List (Nat × (List Nat × List Nat)):=[(0,(f119_t0,f119_o0))]
noncomputable def f119_info:FnInfo:=⟨[.val (.int .u64)],[.val .str],22,[.tmp 2],f119_body,f119_keep,f119_fresh,false⟩
noncomputable def f163_body:Code:=bodyOf Tryz.f163
def f163_fresh:Bool:=false
def f163_t0:List Nat:=[0,1,2,7,8]
def f163_o0:List Nat:=[]
def f163_keep:List (Nat × (List Nat × List Nat)):=[(0,(f163_t0,f163_o0))]
noncomputable def f163_info:FnInfo:=⟨[.val .str,.val (.int .i64),.val (.int .i64)],[.val (.int .u64)],41,[.tmp 6],f163_body,f163_keep,f163_fresh,false⟩
noncomputable def f143_body:Code:=bodyOf Tryz.f143
def f143_fresh:Bool:=false
def f143_keep:List (Nat × (List Nat × List Nat)):=[]
noncomputable def f143_info:FnInfo:=⟨[.val (.int .u32),.val (.int .u64)],[.val (.int .u32)],13,[.tmp 4],f143_body,f143_keep,f143_fresh,false⟩
noncomputable def f142_body:Code:=bodyOf Tryz.f142
def f142_fresh:Bool:=false
def f142_t0:List Nat:=[0,2,3,4]
def f142_o0:List Nat:=[2,3]
def f142_t2:List Nat:=[2,3,5]
def f142_o2:List Nat:=[2,3]
def f142_keep:List (Nat × (List Nat × List Nat)):=[(0,(f142_t0,f142_o0)),(2,(f142_t2,f142_o2))]
noncomputable def f142_info:FnInfo:=⟨[.val .str],[.val (.arr 64 (.int .u32))],61,[.cell 2 146],f142_body,f142_keep,f142_fresh,false⟩
noncomputable def f144_body:Code:=bodyOf Tryz.f144
def f144_fresh:Bool:=false
def f144_keep:List (Nat × (List Nat × List Nat)):=[]
noncomputable def f144_info:FnInfo:=⟨[.val (.int .i64)],[.val (.int .u32)],9,[.tmp 2],f144_body,f144_keep,f144_fresh,false⟩
noncomputable def f120_body:Code:=bodyOf Tryz.f120
def f120_fresh:Bool:=false
def f120_t0:List Nat:=[2,4,5,6,7]
def f120_o0:List Nat:=[2,4,5,6]
def f120_t2:List Nat:=[2,4,5,6,7,10,11,12]
def f120_o2:List Nat:=[2,4,5,6]
def f120_t4:List Nat:=[2,4,6,13]
def f120_o4:List Nat:=[2,4,6]
def f120_keep:List (Nat × (List Nat × List Nat)):=[(0,(f120_t0,f120_o0)),(2,(f120_t2,f120_o2)),(4,(f120_t4,f120_o4))]
noncomputable def f120_info:FnInfo:=⟨[.val (.arr 8 (.int .u32)),.val .str],[.val (.arr 8 (.int .u32))],110,[.cell 4 132],f120_body,f120_keep,f120_fresh,false⟩
noncomputable def f91_body:Code:=bodyOf Tryz.f91
def f91_fresh:Bool:=false
def f91_t0:List Nat:=[0,2,3,4]
def f91_o0:List Nat:=[2,3]
def f91_t2:List Nat:=[2,3,5,6]
def f91_o2:List Nat:=[2,3,5]
def f91_t4:List Nat:=[2,3,5,6,7,8]
def f91_o4:List Nat:=[2,3,5]
def f91_keep:List (Nat × (List Nat × List Nat)):=[(0,(f91_t0,f91_o0)),(2,(f91_t2,f91_o2)),(4,(f91_t4,f91_o4))]
noncomputable def f91_info:FnInfo:=⟨[.val .str],[.val (.blob 32)],51,[.cell 2 24],f91_body,f91_keep,f91_fresh,false⟩
noncomputable def f58_body:Code:=bodyOf Tryz.f58
def f58_fresh:Bool:=false
def f58_keep:List (Nat × (List Nat × List Nat)):=[]
noncomputable def f58_info:FnInfo:=⟨[.val (.struct [(.int .u32),(.blob 32),(.blob 32),(.int .u64)])],[.val (.blob 32)],7,[.cell 2 24],f58_body,f58_keep,f58_fresh,false⟩
noncomputable def f29_body:Code:=bodyOf Tryz.f29
def f29_fresh:Bool:=true
def f29_t0:List Nat:=[0,3,4]
def f29_o0:List Nat:=[]
def f29_keep:List (Nat × (List Nat × List Nat)):=[(0,(f29_t0,f29_o0))]
noncomputable def f29_info:FnInfo:=⟨[.val (.slice (.struct [(.struct [(.int .u32),(.blob 32),(.blob 32),(.int .u64)]),(.slice .str)]))],[.val (.slice (.blob 32))],21,[.tmp 2],f29_body,f29_keep,f29_fresh,false⟩
noncomputable def f88_body:Code:=bodyOf Tryz.f88
def f88_fresh:Bool:=true
def f88_t0:List Nat:=[1,3,4]
def f88_o0:List Nat:=[1]
def f88_t2:List Nat:=[1,3,4,5,6]
def f88_o2:List Nat:=[1]
def f88_keep:List (Nat × (List Nat × List Nat)):=[(0,(f88_t0,f88_o0)),(2,(f88_t2,f88_o2))]
noncomputable def f88_info:FnInfo:=⟨[.val (.blob 32)],[.val (.slice .bool)],28,[.tmp 2],f88_body,f88_keep,f88_fresh,false⟩
noncomputable def f90_body:Code:=bodyOf Tryz.f90
def f90_fresh:Bool:=false
def f90_t0:List Nat:=[0,1,5,6]
def f90_o0:List Nat:=[9]
def f90_keep:List (Nat × (List Nat × List Nat)):=[(0,(f90_t0,f90_o0))]
noncomputable def f90_info:FnInfo:=⟨[.val (.slice .bool),.val (.int .i64)],[.val (.slice .bool)],41,[.tmp 4],f90_body,f90_keep,f90_fresh,false⟩
noncomputable def f89_body:Code:=bodyOf Tryz.f89
def f89_fresh:Bool:=false
def f89_t0:List Nat:=[0,1,5]
def f89_o0:List Nat:=[]
def f89_keep:List (Nat × (List Nat × List Nat)):=[(0,(f89_t0,f89_o0))]
noncomputable def f89_info:FnInfo:=⟨[.val (.slice .bool),.val (.slice .bool)],[.val (.int .i64)],26,[.tmp 4],f89_body,f89_keep,f89_fresh,false⟩
noncomputable def f57_body:Code:=bodyOf Tryz.f57
def f57_fresh:Bool:=false
def f57_t0:List Nat:=[5,6,7]
def f57_o0:List Nat:=[]
def f57_keep:List (Nat × (List Nat × List Nat)):=[(0,(f57_t0,f57_o0))]
noncomputable def f57_info:FnInfo:=⟨[.val (.blob 32),.val (.blob 32)],[.val (.int .i64)],26,[.tmp 4],f57_body,f57_keep,f57_fresh,false⟩
noncomputable def f28_body:Code:=bodyOf Tryz.f28
def f28_fresh:Bool:=true
def f28_t0:List Nat:=[1,2,5,6]
def f28_o0:List Nat:=[2]
def f28_keep:List (Nat × (List Nat × List Nat)):=[(0,(f28_t0,f28_o0))]
noncomputable def f28_info:FnInfo:=⟨[.val (.blob 32),.val (.slice (.blob 32))],[.val (.slice (.int .i64))],28,[.tmp 4],f28_body,f28_keep,f28_fresh,false⟩
noncomputable def f80_body:Code:=bodyOf Tryz.f80
def f80_fresh:Bool:=true
def f80_t0:List Nat:=[0,2,4,7,8,9]
def f80_o0:List Nat:=[4]
def f80_keep:List (Nat × (List Nat × List Nat)):=[(0,(f80_t0,f80_o0))]
noncomputable def f80_info:FnInfo:=⟨[.val (.slice (.blob 32)),.val (.blob 32),.val (.int .i64)],[.val (.slice (.blob 32))],64,[.tmp 6],f80_body,f80_keep,f80_fresh,false⟩
noncomputable def f49_body:Code:=bodyOf Tryz.f49
def f49_fresh:Bool:=true
def f49_t0:List Nat:=[0,1,2,7,8]
def f49_o0:List Nat:=[]
def f49_keep:List (Nat × (List Nat × List Nat)):=[(0,(f49_t0,f49_o0))]
noncomputable def f49_info:FnInfo:=⟨[.val (.slice (.blob 32)),.val (.slice (.int .i64)),.val (.int .i64)],[.val (.slice (.blob 32))],31,[.tmp 6],f49_body,f49_keep,f49_fresh,false⟩
noncomputable def f73_body:Code:=bodyOf Tryz.f73
def f73_fresh:Bool:=false
def f73_t0:List Nat:=[0,3]
def f73_o0:List Nat:=[]
def f73_keep:List (Nat × (List Nat × List Nat)):=[(0,(f73_t0,f73_o0))]
noncomputable def f73_info:FnInfo:=⟨[.val (.slice .str)],[.val (.int .i64)],19,[.tmp 2],f73_body,f73_keep,f73_fresh,false⟩
noncomputable def f79_body:Code:=bodyOf Tryz.f79
def f79_fresh:Bool:=false
def f79_keep:List (Nat × (List Nat × List Nat)):=[]
noncomputable def f79_info:FnInfo:=⟨[.val (.blob 32)],[.val .str],6,[.tmp 2],f79_body,f79_keep,f79_fresh,false⟩
noncomputable def f48_body:Code:=bodyOf Tryz.f48
def f48_fresh:Bool:=true
def f48_t0:List Nat:=[0,3,4]
def f48_o0:List Nat:=[]
def f48_keep:List (Nat × (List Nat × List Nat)):=[(0,(f48_t0,f48_o0))]
noncomputable def f48_info:FnInfo:=⟨[.val (.slice (.blob 32))],[.val (.slice .str)],20,[.tmp 2],f48_body,f48_keep,f48_fresh,false⟩
noncomputable def f130_body:Code:=bodyOf Tryz.f130
def f130_fresh:Bool:=false
def f130_keep:List (Nat × (List Nat × List Nat)):=[]
noncomputable def f130_info:FnInfo:=⟨[.val .str],[.val .str],6,[.tmp 2],f130_body,f130_keep,f130_fresh,false⟩
noncomputable def f108_body:Code:=bodyOf Tryz.f108
def f108_fresh:Bool:=false
def f108_keep:List (Nat × (List Nat × List Nat)):=[]
noncomputable def f108_info:FnInfo:=⟨[.val .str],[.val (.blob 32)],6,[.cell 2 24],f108_body,f108_keep,f108_fresh,false⟩
noncomputable def f78_body:Code:=bodyOf Tryz.f78
def f78_fresh:Bool:=true
def f78_t0:List Nat:=[0,3,4]
def f78_o0:List Nat:=[]
def f78_keep:List (Nat × (List Nat × List Nat)):=[(0,(f78_t0,f78_o0))]
noncomputable def f78_info:FnInfo:=⟨[.val (.slice .str)],[.val (.slice (.blob 32))],20,[.tmp 2],f78_body,f78_keep,f78_fresh,false⟩
noncomputable def f106_body:Code:=bodyOf Tryz.f106
def f106_fresh:Bool:=false
def f106_t0:List Nat:=[0,3,4]
def f106_o0:List Nat:=[]
def f106_keep:List (Nat × (List Nat × List Nat)):=[(0,(f106_t0,f106_o0))]
noncomputable def f106_info:FnInfo:=⟨[.val (.int .i64)],[.val (.int .i64)],16,[.tmp 2],f106_body,f106_keep,f106_fresh,false⟩
noncomputable def f151_body:Code:=bodyOf Tryz.f151
def f151_fresh:Bool:=false
def f151_keep:List (Nat × (List Nat × List Nat)):=[]
noncomputable def f151_info:FnInfo:=⟨[.val (.blob 32),.val (.blob 32)],[.val .str],12,[.tmp 4],f151_body,f151_keep,f151_fresh,false⟩
noncomputable def f129_body:Code:=bodyOf Tryz.f129
def f129_fresh:Bool:=false
def f129_keep:List (Nat × (List Nat × List Nat)):=[]
noncomputable def f129_info:FnInfo:=⟨[.val (.blob 32),.val (.blob 32)],[.val (.blob 32)],9,[.cell 4 24],f129_body,f129_keep,f129_fresh,false⟩
noncomputable def f107_body:Code:=bodyOf Tryz.f107
def f107_fresh:Bool:=false
def f107_keep:List (Nat × (List Nat × List Nat)):=[]
noncomputable def f107_info:FnInfo:=⟨[.val (.slice (.blob 32))],[.val (.blob 32)],26,[.cell 2 24],f107_body,f107_keep,f107_fresh,false⟩
noncomputable def f165_body:Code:=bodyOf Tryz.f165
def f165_fresh:Bool:=false
def f165_keep:List (Nat × (List Nat × List Nat)):=[]
noncomputable def f165_info:FnInfo:=⟨[.val (.int .u64),.val (.blob 32)],[.val .str],12,[.tmp 4],f165_body,f165_keep,f165_fresh,false⟩
noncomputable def f147_body:Code:=bodyOf Tryz.f147
def f147_fresh:Bool:=false
def f147_keep:List (Nat × (List Nat × List Nat)):=[]
noncomputable def f147_info:FnInfo:=⟨[.val (.int .u64),.val (.blob 32)],[.val (.blob 32)],9,[.cell 4 24],f147_body,f147_keep,f147_fresh,false⟩
noncomputable def f124_body:Code:=bodyOf Tryz.f124
def f124_fresh:Bool:=false
def f124_keep:List (Nat × (List Nat × List Nat)):=[]
noncomputable def f124_info:FnInfo:=⟨[.val (.slice .str)],[.val (.blob 32)],10,[.cell 2 24],f124_body,f124_keep,f124_fresh,false⟩
noncomputable def f98_body:Code:=bodyOf Tryz.f98
def f98_fresh:Bool:=false
def f98_keep:List (Nat × (List Nat × List Nat)):=[]
noncomputable def f98_info:FnInfo:=⟨[.val (.slice (.blob 32))],[.val (.blob 32)],6,[.cell 2 24],f98_body,f98_keep,f98_fresh,false⟩
noncomputable def f74_body:Code:=bodyOf Tryz.f74
def f74_fresh:Bool:=true
def f74_t0:List Nat:=[0,3,4]
def f74_o0:List Nat:=[]
def f74_keep:List (Nat × (List Nat × List Nat)):=[(0,(f74_t0,f74_o0))]
noncomputable def f74_info:FnInfo:=⟨[.val (.slice .str)],[.val (.slice .str)],20,[.tmp 2],f74_body,f74_keep,f74_fresh,false⟩
noncomputable def f99_body:Code:=bodyOf Tryz.f99
def f99_fresh:Bool:=false
def f99_keep:List (Nat × (List Nat × List Nat)):=[]
noncomputable def f99_info:FnInfo:=⟨[.val (.slice .str)],[.val (.blob 32)],6,[.cell 2 24],f99_body,f99_keep,f99_fresh,false⟩
noncomputable def f64_body:Code:=bodyOf Tryz.f64
def f64_fresh:Bool:=false
def f64_keep:List (Nat × (List Nat × List Nat)):=[]
noncomputable def f64_info:FnInfo:=⟨[.val (.struct [(.struct [(.int .u32),(.blob 32),(.blob 32),(.int .u64)]),(.slice .str)]),.val (.int .u32),.val (.slice (.blob 32))],[.val (.int .i64)],34,[.tmp 6],f64_body,f64_keep,f64_fresh,false⟩
noncomputable def f65_body:Code:=bodyOf Tryz.f65
def f65_fresh:Bool:=false
def f65_keep:List (Nat × (List Nat × List Nat)):=[]
noncomputable def f65_info:FnInfo:=⟨[.val (.blob 32),.val (.blob 32)],[.val .bool],11,[.tmp 4],f65_body,f65_keep,f65_fresh,false⟩
noncomputable def f33_body:Code:=bodyOf Tryz.f33
def f33_fresh:Bool:=false
def f33_t0:List Nat:=[1,2,4,5,6,7]
def f33_o0:List Nat:=[2,4]
def f33_keep:List (Nat × (List Nat × List Nat)):=[(0,(f33_t0,f33_o0))]
noncomputable def f33_info:FnInfo:=⟨[.val (.struct [(.struct [(.int .u32),(.blob 32),(.blob 32),(.int .u64)]),(.blob 32),(.int .i64),(.int .i64),(.int .i64),(.int .i64),(.int .i64),(.int .i64)]),.val (.slice (.struct [(.struct [(.int .u32),(.blob 32),(.blob 32),(.int .u64)]),(.slice .str)]))],[.val (.struct [(.int .i64),(.int .i64)])],68,[.cell 4 69],f33_body,f33_keep,f33_fresh,false⟩
noncomputable def f66_body:Code:=bodyOf Tryz.f66
def f66_fresh:Bool:=false
def f66_keep:List (Nat × (List Nat × List Nat)):=[]
noncomputable def f66_info:FnInfo:=⟨[.val (.int .i64),.val (.int .i64)],[.val .bool],16,[.tmp 4],f66_body,f66_keep,f66_fresh,false⟩
noncomputable def f34_body:Code:=bodyOf Tryz.f34
def f34_fresh:Bool:=false
def f34_keep:List (Nat × (List Nat × List Nat)):=[]
noncomputable def f34_info:FnInfo:=⟨[.val (.int .i64),.val (.int .i64),.val (.int .i64),.val (.int .i64)],[.val .bool],28,[.tmp 8],f34_body,f34_keep,f34_fresh,false⟩
noncomputable def f15_body:Code:=bodyOf Tryz.f15
def f15_fresh:Bool:=false
def f15_keep:List (Nat × (List Nat × List Nat)):=[]
noncomputable def f15_info:FnInfo:=⟨[.val (.struct [(.struct [(.int .u32),(.blob 32),(.blob 32),(.int .u64)]),(.blob 32),(.int .i64),(.int .i64),(.int .i64),(.int .i64),(.int .i64),(.int .i64)]),.val (.slice (.struct [(.struct [(.int .u32),(.blob 32),(.blob 32),(.int .u64)]),(.slice .str)]))],[.val (.int .i64)],29,[.tmp 4],f15_body,f15_keep,f15_fresh,false⟩
noncomputable def f77_body:Code:=bodyOf Tryz.f77
def f77_fresh:Bool:=true
def f77_keep:List (Nat × (List Nat × List Nat)):=[]
noncomputable def f77_info:FnInfo:=⟨[.val (.slice (.blob 32)),.val (.int .i64)],[.val (.slice (.blob 32))],39,[.tmp 4],f77_body,f77_keep,f77_fresh,false⟩
noncomputable def f47_body:Code:=bodyOf Tryz.f47
def f47_fresh:Bool:=false
def f47_keep:List (Nat × (List Nat × List Nat)):=[]
noncomputable def f47_info:FnInfo:=⟨[.val (.slice .str),.val (.int .i64)],[.val (.struct [(.int .i64),(.int .i64),(.slice (.blob 32))]),.val (.int .i64)],27,[.cell 4 49,.tmp 5],f47_body,f47_keep,f47_fresh,false⟩
noncomputable def f41_body:Code:=bodyOf Tryz.f41
def f41_fresh:Bool:=false
def f41_keep:List (Nat × (List Nat × List Nat)):=[]
noncomputable def f41_info:FnInfo:=⟨[.val (.slice .str),.val (.int .i64)],[.val (.struct [(.int .i64),(.int .i64),(.slice (.blob 32))]),.val (.int .i64)],19,[.cell 4 49,.tmp 5],f41_body,f41_keep,f41_fresh,false⟩
noncomputable def f55_body:Code:=bodyOf Tryz.f55
def f55_fresh:Bool:=true
def f55_t0:List Nat:=[0,1,2,7,8]
def f55_o0:List Nat:=[]
def f55_keep:List (Nat × (List Nat × List Nat)):=[(0,(f55_t0,f55_o0))]
noncomputable def f55_info:FnInfo:=⟨[.val (.slice (.int .i64)),.val (.int .i64),.val (.int .i64)],[.val (.slice (.int .i64))],31,[.tmp 6],f55_body,f55_keep,f55_fresh,false⟩
noncomputable def f139_body:Code:=bodyOf Tryz.f139
def f139_fresh:Bool:=false
def f139_t0:List Nat:=[0,1,5,6]
def f139_o0:List Nat:=[]
def f139_keep:List (Nat × (List Nat × List Nat)):=[(0,(f139_t0,f139_o0))]
noncomputable def f139_info:FnInfo:=⟨[.val (.slice (.int .i64)),.val (.int .i64)],[.val (.int .i64)],22,[.tmp 4],f139_body,f139_keep,f139_fresh,false⟩
noncomputable def f173_body:Code:=bodyOf Tryz.f173
def f173_fresh:Bool:=false
def f173_t0:List Nat:=[0]
def f173_o0:List Nat:=[]
def f173_keep:List (Nat × (List Nat × List Nat)):=[(0,(f173_t0,f173_o0))]
noncomputable def f173_info:FnInfo:=⟨[.val (.slice (.int .i64))],[.val (.slice (.int .i64))],21,[.tmp 2],f173_body,f173_keep,f173_fresh,false⟩
noncomputable def f174_body:Code:=bodyOf Tryz.f174
def f174_fresh:Bool:=false
def f174_t0:List Nat:=[0,3,4]
def f174_o0:List Nat:=[]
def f174_t2:List Nat:=[0,3,4,5,6]
def f174_o2:List Nat:=[]
def f174_keep:List (Nat × (List Nat × List Nat)):=[(0,(f174_t0,f174_o0)),(2,(f174_t2,f174_o2))]
noncomputable def f174_info:FnInfo:=⟨[.val (.slice (.int .u64))],[.val (.slice (.int .i64))],31,[.tmp 2],f174_body,f174_keep,f174_fresh,false⟩
noncomputable def f160_body:Code:=bodyOf Tryz.f160
def f160_fresh:Bool:=false
def f160_keep:List (Nat × (List Nat × List Nat)):=[]
noncomputable def f160_info:FnInfo:=⟨[.val (.int .u64)],[.val (.slice (.int .i64))],6,[.tmp 2],f160_body,f160_keep,f160_fresh,false⟩
noncomputable def f161_body:Code:=bodyOf Tryz.f161
def f161_fresh:Bool:=false
def f161_keep:List (Nat × (List Nat × List Nat)):=[]
noncomputable def f161_info:FnInfo:=⟨[.val (.int .i64)],[.val (.slice (.int .i64))],16,[.tmp 2],f161_body,f161_keep,f161_fresh,false⟩
noncomputable def f162_body:Code:=bodyOf Tryz.f162
def f162_fresh:Bool:=false
def f162_t0:List Nat:=[0,1,5]
def f162_o0:List Nat:=[]
def f162_keep:List (Nat × (List Nat × List Nat)):=[(0,(f162_t0,f162_o0))]
noncomputable def f162_info:FnInfo:=⟨[.val (.slice (.int .i64)),.val (.slice (.int .i64))],[.val (.int .i64)],41,[.tmp 4],f162_body,f162_keep,f162_fresh,false⟩
noncomputable def f141_body:Code:=bodyOf Tryz.f141
def f141_fresh:Bool:=false
def f141_keep:List (Nat × (List Nat × List Nat)):=[]
noncomputable def f141_info:FnInfo:=⟨[.val (.int .u32),.val (.int .u32),.val (.int .i64),.val (.int .i64),.val (.int .i64)],[.val (.int .i64)],75,[.tmp 10],f141_body,f141_keep,f141_fresh,false⟩
noncomputable def f140_body:Code:=bodyOf Tryz.f140
def f140_fresh:Bool:=false
def f140_keep:List (Nat × (List Nat × List Nat)):=[]
noncomputable def f140_info:FnInfo:=⟨[.val (.int .i64),.val (.int .i64),.val (.int .i64),.val (.int .i64),.val (.int .i64)],[.val .bool],36,[.tmp 10],f140_body,f140_keep,f140_fresh,false⟩
noncomputable def f116_body:Code:=bodyOf Tryz.f116
def f116_fresh:Bool:=false
def f116_t0:List Nat:=[0,1,2,3,4,11]
def f116_o0:List Nat:=[]
def f116_keep:List (Nat × (List Nat × List Nat)):=[(0,(f116_t0,f116_o0))]
noncomputable def f116_info:FnInfo:=⟨[.val (.slice (.int .i64)),.val (.int .i64),.val (.int .i64),.val (.int .i64),.val (.int .i64)],[.val .bool],52,[.tmp 10],f116_body,f116_keep,f116_fresh,false⟩
noncomputable def f117_body:Code:=bodyOf Tryz.f117
def f117_fresh:Bool:=false
def f117_t0:List Nat:=[0,1,2,3,4,11]
def f117_o0:List Nat:=[]
def f117_t2:List Nat:=[0,1,2,3,4,11,12]
def f117_o2:List Nat:=[]
def f117_t4:List Nat:=[0,1,2,3,4,11,12,13]
def f117_o4:List Nat:=[]
def f117_keep:List (Nat × (List Nat × List Nat)):=[(0,(f117_t0,f117_o0)),(2,(f117_t2,f117_o2)),(4,(f117_t4,f117_o4))]
noncomputable def f117_info:FnInfo:=⟨[.val (.slice (.int .i64)),.val (.int .i64),.val (.int .i64),.val (.int .i64),.val (.int .i64)],[.val .bool],74,[.tmp 10],f117_body,f117_keep,f117_fresh,false⟩
noncomputable def f87_body:Code:=bodyOf Tryz.f87
def f87_fresh:Bool:=false
def f87_keep:List (Nat × (List Nat × List Nat)):=[]
noncomputable def f87_info:FnInfo:=⟨[.val (.slice (.int .i64)),.val (.int .i64),.val (.int .i64),.val (.int .i64),.val (.int .i64)],[.val .bool],25,[.tmp 10],f87_body,f87_keep,f87_fresh,false⟩
noncomputable def f56_body:Code:=bodyOf Tryz.f56
def f56_fresh:Bool:=false
def f56_keep:List (Nat × (List Nat × List Nat)):=[]
noncomputable def f56_info:FnInfo:=⟨[.val (.slice (.int .i64)),.val (.int .i64),.val (.int .i64),.val (.int .i64),.val (.int .i64),.val (.int .i64)],[.val (.int .i64)],49,[.tmp 12],f56_body,f56_keep,f56_fresh,false⟩
noncomputable def f27_body:Code:=bodyOf Tryz.f27
def f27_fresh:Bool:=true
def f27_t0:List Nat:=[1,3,4,11,12,13]
def f27_o0:List Nat:=[]
def f27_t2:List Nat:=[1,3,4,11,12,14,15]
def f27_o2:List Nat:=[63]
def f27_t4:List Nat:=[1,3,4,11,12,14,15,16,17]
def f27_o4:List Nat:=[63]
def f27_t6:List Nat:=[14,18,19]
def f27_o6:List Nat:=[63]
def f27_keep:List (Nat × (List Nat × List Nat)):=[(0,(f27_t0,f27_o0)),(2,(f27_t2,f27_o2)),(4,(f27_t4,f27_o4)),(6,(f27_t6,f27_o6))]
noncomputable def f27_info:FnInfo:=⟨[.val (.slice (.int .i64)),.val (.int .i64),.val (.int .i64),.val (.int .i64),.val (.int .i64)],[.val (.slice (.int .i64))],106,[.tmp 10],f27_body,f27_keep,f27_fresh,false⟩
noncomputable def f12_body:Code:=bodyOf Tryz.f12
def f12_fresh:Bool:=true
def f12_t0:List Nat:=[1,2,5,6]
def f12_o0:List Nat:=[2]
def f12_keep:List (Nat × (List Nat × List Nat)):=[(0,(f12_t0,f12_o0))]
noncomputable def f12_info:FnInfo:=⟨[.val (.struct [(.struct [(.int .u32),(.blob 32),(.blob 32),(.int .u64)]),(.blob 32),(.int .i64),(.int .i64),(.int .i64),(.int .i64),(.int .i64),(.int .i64)]),.val (.slice (.struct [(.struct [(.int .u32),(.blob 32),(.blob 32),(.int .u64)]),(.slice .str)]))],[.val (.slice (.int .i64))],39,[.tmp 4],f12_body,f12_keep,f12_fresh,false⟩
noncomputable def f101_body:Code:=bodyOf Tryz.f101
def f101_fresh:Bool:=false
def f101_t0:List Nat:=[0,1,2,7,8]
def f101_o0:List Nat:=[]
def f101_keep:List (Nat × (List Nat × List Nat)):=[(0,(f101_t0,f101_o0))]
noncomputable def f101_info:FnInfo:=⟨[.val (.slice (.int .i64)),.val (.int .i64),.val (.int .i64)],[.val (.int .i64)],28,[.tmp 6],f101_body,f101_keep,f101_fresh,false⟩
noncomputable def f69_body:Code:=bodyOf Tryz.f69
def f69_fresh:Bool:=true
def f69_t0:List Nat:=[0,1,5,6]
def f69_o0:List Nat:=[]
def f69_keep:List (Nat × (List Nat × List Nat)):=[(0,(f69_t0,f69_o0))]
noncomputable def f69_info:FnInfo:=⟨[.val (.slice (.int .i64)),.val (.int .i64)],[.val (.slice (.int .i64))],35,[.tmp 4],f69_body,f69_keep,f69_fresh,false⟩
noncomputable def f37_body:Code:=bodyOf Tryz.f37
def f37_fresh:Bool:=true
def f37_t0:List Nat:=[0,1,2,7]
def f37_o0:List Nat:=[]
def f37_t2:List Nat:=[0,2,7,8,9,10]
def f37_o2:List Nat:=[]
def f37_keep:List (Nat × (List Nat × List Nat)):=[(0,(f37_t0,f37_o0)),(2,(f37_t2,f37_o2))]
noncomputable def f37_info:FnInfo:=⟨[.val (.slice (.int .i64)),.val (.int .i64),.val (.int .i64)],[.val (.slice (.int .i64))],68,[.tmp 6],f37_body,f37_keep,f37_fresh,false⟩
noncomputable def f18_body:Code:=bodyOf Tryz.f18
def f18_fresh:Bool:=true
def f18_t0:List Nat:=[9,10,11,12]
def f18_o0:List Nat:=[]
def f18_t2:List Nat:=[9,11,13]
def f18_o2:List Nat:=[]
def f18_keep:List (Nat × (List Nat × List Nat)):=[(0,(f18_t0,f18_o0)),(2,(f18_t2,f18_o2))]
noncomputable def f18_info:FnInfo:=⟨[.val (.slice (.int .i64)),.val (.int .i64),.val (.int .i64),.val (.int .i64)],[.val (.slice (.int .i64))],67,[.tmp 8],f18_body,f18_keep,f18_fresh,false⟩
noncomputable def f46_body:Code:=bodyOf Tryz.f46
def f46_fresh:Bool:=false
def f46_t0:List Nat:=[2,7,8]
def f46_o0:List Nat:=[]
def f46_keep:List (Nat × (List Nat × List Nat)):=[(0,(f46_t0,f46_o0))]
noncomputable def f46_info:FnInfo:=⟨[.val (.slice (.int .i64)),.val (.int .i64),.val (.int .i64)],[.val (.int .i64)],25,[.tmp 6],f46_body,f46_keep,f46_fresh,false⟩
noncomputable def f24_body:Code:=bodyOf Tryz.f24
def f24_fresh:Bool:=false
def f24_t0:List Nat:=[1,2,8,9,10,11]
def f24_o0:List Nat:=[]
def f24_keep:List (Nat × (List Nat × List Nat)):=[(0,(f24_t0,f24_o0))]
noncomputable def f24_info:FnInfo:=⟨[.val (.blob 32),.val (.slice (.struct [(.struct [(.int .u32),(.blob 32),(.blob 32),(.int .u64)]),(.slice .str)])),.val (.slice (.int .i64))],[.val (.slice (.struct [(.struct [(.int .u32),(.blob 32),(.blob 32),(.int .u64)]),(.struct [(.int .i64),(.int .i64),(.slice (.blob 32))])])),.val (.int .i64)],78,[.tmp 6,.tmp 7],f24_body,f24_keep,f24_fresh,false⟩
noncomputable def f20_body:Code:=bodyOf Tryz.f20
def f20_fresh:Bool:=false
def f20_t0:List Nat:=[1,2,4,8,12,13]
def f20_o0:List Nat:=[4,8,13]
def f20_t2:List Nat:=[2,8,13,14,16]
def f20_o2:List Nat:=[8,13]
def f20_keep:List (Nat × (List Nat × List Nat)):=[(0,(f20_t0,f20_o0)),(2,(f20_t2,f20_o2))]
noncomputable def f20_info:FnInfo:=⟨[.val (.struct [(.struct [(.int .u32),(.blob 32),(.blob 32),(.int .u64)]),(.blob 32),(.int .i64),(.int .i64),(.int .i64),(.int .i64),(.int .i64),(.int .i64)]),.val (.slice (.struct [(.struct [(.int .u32),(.blob 32),(.blob 32),(.int .u64)]),(.slice .str)])),.val (.int .i64),.val (.int .i64)],[.val (.struct [(.int .i64),(.slice (.struct [(.struct [(.int .u32),(.blob 32),(.blob 32),(.int .u64)]),(.struct [(.int .i64),(.int .i64),(.slice (.blob 32))])])),(.struct [(.int .i64),(.int .i64),(.slice (.blob 32))]),(.int .i64),.str,(.struct [(.int .i64),(.int .i64),(.slice (.blob 32))])]),.val (.int .i64)],153,[.cell 8 51,.tmp 9],f20_body,f20_keep,f20_fresh,false⟩
noncomputable def f75_body:Code:=bodyOf Tryz.f75
def f75_fresh:Bool:=false
def f75_t0:List Nat:=[0,1,5]
def f75_o0:List Nat:=[]
def f75_keep:List (Nat × (List Nat × List Nat)):=[(0,(f75_t0,f75_o0))]
noncomputable def f75_info:FnInfo:=⟨[.val (.slice (.blob 32)),.val (.slice (.blob 32))],[.val .bool],26,[.tmp 4],f75_body,f75_keep,f75_fresh,false⟩
noncomputable def f42_body:Code:=bodyOf Tryz.f42
def f42_fresh:Bool:=false
def f42_keep:List (Nat × (List Nat × List Nat)):=[]
noncomputable def f42_info:FnInfo:=⟨[.val (.struct [(.int .i64),(.int .i64),(.slice (.blob 32))]),.val (.struct [(.int .i64),(.int .i64),(.slice (.blob 32))])],[.val .bool],24,[.tmp 4],f42_body,f42_keep,f42_fresh,false⟩
noncomputable def f30_body:Code:=bodyOf Tryz.f30
def f30_fresh:Bool:=false
def f30_keep:List (Nat × (List Nat × List Nat)):=[]
noncomputable def f30_info:FnInfo:=⟨[.val (.struct [(.struct [(.int .u32),(.blob 32),(.blob 32),(.int .u64)]),(.struct [(.int .i64),(.int .i64),(.slice (.blob 32))])]),.val (.struct [(.struct [(.int .u32),(.blob 32),(.blob 32),(.int .u64)]),(.struct [(.int .i64),(.int .i64),(.slice (.blob 32))])])],[.val .bool],17,[.tmp 4],f30_body,f30_keep,f30_fresh,false⟩
noncomputable def f13_body:Code:=bodyOf Tryz.f13
def f13_fresh:Bool:=false
def f13_t0:List Nat:=[0,1,5]
def f13_o0:List Nat:=[]
def f13_keep:List (Nat × (List Nat × List Nat)):=[(0,(f13_t0,f13_o0))]
noncomputable def f13_info:FnInfo:=⟨[.val (.slice (.struct [(.struct [(.int .u32),(.blob 32),(.blob 32),(.int .u64)]),(.struct [(.int .i64),(.int .i64),(.slice (.blob 32))])])),.val (.slice (.struct [(.struct [(.int .u32),(.blob 32),(.blob 32),(.int .u64)]),(.struct [(.int .i64),(.int .i64),(.slice (.blob 32))])]))],[.val .bool],27,[.tmp 4],f13_body,f13_keep,f13_fresh,false⟩
noncomputable def f21_body:Code:=bodyOf Tryz.f21
def f21_fresh:Bool:=false
def f21_keep:List (Nat × (List Nat × List Nat)):=[]
noncomputable def f21_info:FnInfo:=⟨[.val (.struct [(.int .i64),(.slice (.struct [(.struct [(.int .u32),(.blob 32),(.blob 32),(.int .u64)]),(.struct [(.int .i64),(.int .i64),(.slice (.blob 32))])])),(.struct [(.int .i64),(.int .i64),(.slice (.blob 32))]),(.int .i64),.str,(.struct [(.int .i64),(.int .i64),(.slice (.blob 32))])]),.val (.struct [(.int .i64),(.slice (.struct [(.struct [(.int .u32),(.blob 32),(.blob 32),(.int .u64)]),(.struct [(.int .i64),(.int .i64),(.slice (.blob 32))])])),(.struct [(.int .i64),(.int .i64),(.slice (.blob 32))]),(.int .i64),.str,(.struct [(.int .i64),(.int .i64),(.slice (.blob 32))])])],[.val .bool],45,[.tmp 4],f21_body,f21_keep,f21_fresh,false⟩
noncomputable def f5_body:Code:=bodyOf Tryz.f5
def f5_fresh:Bool:=false
def f5_keep:List (Nat × (List Nat × List Nat)):=[]
noncomputable def f5_info:FnInfo:=⟨[.val (.struct [(.struct [(.int .u32),(.blob 32),(.blob 32),(.int .u64)]),(.blob 32),(.int .i64),(.int .i64),(.int .i64),(.int .i64),(.int .i64),(.int .i64)]),.val (.slice (.struct [(.struct [(.int .u32),(.blob 32),(.blob 32),(.int .u64)]),(.slice .str)])),.val (.arr 2 (.int .i64))],[.val .bool],47,[.tmp 6],f5_body,f5_keep,f5_fresh,false⟩
noncomputable def f67_body:Code:=bodyOf Tryz.f67
def f67_fresh:Bool:=false
def f67_t0:List Nat:=[1,6,7,10,11,12]
def f67_o0:List Nat:=[]
def f67_keep:List (Nat × (List Nat × List Nat)):=[(0,(f67_t0,f67_o0))]
noncomputable def f67_info:FnInfo:=⟨[.val (.slice (.int .i64)),.val (.int .i64)],[.val (.int .i64),.val .bool],32,[.tmp 4,.tmp 5],f67_body,f67_keep,f67_fresh,false⟩
noncomputable def f35_body:Code:=bodyOf Tryz.f35
def f35_fresh:Bool:=true
def f35_t0:List Nat:=[0,1,2,7]
def f35_o0:List Nat:=[]
def f35_keep:List (Nat × (List Nat × List Nat)):=[(0,(f35_t0,f35_o0))]
noncomputable def f35_info:FnInfo:=⟨[.val (.slice (.int .i64)),.val (.int .i64),.val (.int .i64)],[.val (.slice (.int .i64))],44,[.tmp 6],f35_body,f35_keep,f35_fresh,false⟩
noncomputable def G:Env:={
  ty:=[(3,(.int .i64)),(4,.bool),(5,(.int .u8)),(9,.str),(22,(.int .u32)),(24,(.blob 32)),(25,(.int .u64)),(27,(.struct [(.int .u32),(.blob 32),(.blob 32),(.int .u64)])),(29,(.struct [(.struct [(.int .u32),(.blob 32),(.blob 32),(.int .u64)]),(.blob 32),(.int .i64),(.int .i64),(.int .i64),(.int .i64),(.int .i64),(.int .i64)])),(30,(.slice (.struct [(.struct [(.int .u32),(.blob 32),(.blob 32),(.int .u64)]),(.slice .str)]))),(33,(.slice (.struct [(.struct [(.int .u32),(.blob 32),(.blob 32),(.int .u64)]),(.struct [(.int .i64),(.int .i64),(.slice (.blob 32))])]))),(34,(.int .i64)),(38,(.slice (.int .i64))),(46,(.arr 2 (.int .i64))),(47,(.slice (.blob 32))),(49,(.struct [(.int .i64),(.int .i64),(.slice (.blob 32))])),(51,(.struct [(.int .i64),(.slice (.struct [(.struct [(.int .u32),(.blob 32),(.blob 32),(.int .u64)]),(.struct [(.int .i64),(.int .i64),(.slice (.blob 32))])])),(.struct [(.int .i64),(.int .i64),(.slice (.blob 32))]),(.int .i64),.str,(.struct [(.int .i64),(.int .i64),(.slice (.blob 32))])])),(57,(.slice .str)),(59,(.struct [(.struct [(.int .u32),(.blob 32),(.blob 32),(.int .u64)]),(.slice .str)])),(67,(.struct [(.struct [(.int .u32),(.blob 32),(.blob 32),(.int .u64)]),(.struct [(.int .i64),(.int .i64),(.slice (.blob 32))])])),(69,(.struct [(.int .i64),(.int .i64)])),(79,(.slice (.slice (.blob 32)))),(85,(.slice .bool)),(92,(.struct [(.struct [(.struct [(.int .u32),(.blob 32),(.blob 32),(.int .u64)]),(.blob 32),(.int .i64),(.int .i64),(.int .i64),(.int .i64),(.int .i64),(.int .i64)]),(.int .i64),(.struct [(.struct [(.int .u32),(.blob 32),(.blob 32),(.int .u64)]),(.slice .str)]),(.slice (.blob 32))])),(93,(.clos [(59,([0],[])),(60,([0],[])),(61,([0],[]))] [(.struct [(.struct [(.struct [(.int .u32),(.blob 32),(.blob 32),(.int .u64)]),(.blob 32),(.int .i64),(.int .i64),(.int .i64),(.int .i64),(.int .i64),(.int .i64)]),(.int .i64),(.struct [(.struct [(.int .u32),(.blob 32),(.blob 32),(.int .u64)]),(.slice .str)]),(.slice (.blob 32))])])),(94,(.slice (.clos [(59,([0],[])),(60,([0],[])),(61,([0],[]))] [(.struct [(.struct [(.struct [(.int .u32),(.blob 32),(.blob 32),(.int .u64)]),(.blob 32),(.int .i64),(.int .i64),(.int .i64),(.int .i64),(.int .i64),(.int .i64)]),(.int .i64),(.struct [(.struct [(.int .u32),(.blob 32),(.blob 32),(.int .u64)]),(.slice .str)]),(.slice (.blob 32))])]))),(113,(.arr 4 (.int .u64))),(117,(.slice .bool)),(130,(.slice (.int .u8))),(131,(.int .u64)),(132,(.arr 8 (.int .u32))),(146,(.arr 64 (.int .u32))),(160,(.slice (.int .i64))),(165,(.slice (.int .u32))),(168,(.arr 5 (.int .u64))),(172,(.arr 8 (.int .u32))),(174,(.struct [(.arr 8 (.int .u32)),.str,(.int .u64),.bool])),(180,(.slice (.int .u64)))]
  bytes:=[(33,120),(38,8),(47,32),(57,16),(79,24),(85,1),(117,1),(130,1),(160,8)]
  fns:=[(172,f172_info),(180,f180_info),(51,f51_info),(17,f17_info),(159,f159_info),(22,f22_info),(6,f6_info),(158,f158_info),(137,f137_info),(138,f138_info),(115,f115_info),(157,f157_info),(136,f136_info),(154,f154_info),(169,f169_info),(134,f134_info),(188,f188_info),(179,f179_info),(177,f177_info),(178,f178_info),(170,f170_info),(155,f155_info),(171,f171_info),(156,f156_info),(135,f135_info),(114,f114_info),(86,f86_info),(54,f54_info),(113,f113_info),(83,f83_info),(84,f84_info),(95,f95_info),(61,f61_info),(70,f70_info),(105,f105_info),(76,f76_info),(150,f150_info),(128,f128_info),(127,f127_info),(103,f103_info),(125,f125_info),(148,f148_info),(166,f166_info),(149,f149_info),(126,f126_info),(184,f184_info),(175,f175_info),(164,f164_info),(145,f145_info),(104,f104_info),(72,f72_info),(146,f146_info),(123,f123_info),(94,f94_info),(60,f60_info),(59,f59_info),(96,f96_info),(85,f85_info),(53,f53_info),(97,f97_info),(62,f62_info),(31,f31_info),(63,f63_info),(32,f32_info),(14,f14_info),(102,f102_info),(71,f71_info),(38,f38_info),(26,f26_info),(50,f50_info),(186,f186_info),(194,f194_info),(202,f202_info),(196,f196_info),(187,f187_info),(195,f195_info),(185,f185_info),(176,f176_info),(167,f167_info),(168,f168_info),(152,f152_info),(131,f131_info),(111,f111_info),(132,f132_info),(153,f153_info),(133,f133_info),(112,f112_info),(82,f82_info),(52,f52_info),(25,f25_info),(11,f11_info),(39,f39_info),(43,f43_info),(100,f100_info),(68,f68_info),(44,f44_info),(45,f45_info),(23,f23_info),(40,f40_info),(19,f19_info),(10,f10_info),(16,f16_info),(122,f122_info),(121,f121_info),(109,f109_info),(93,f93_info),(92,f92_info),(118,f118_info),(119,f119_info),(163,f163_info),(143,f143_info),(142,f142_info),(144,f144_info),(120,f120_info),(91,f91_info),(58,f58_info),(29,f29_info),(88,f88_info),(90,f90_info),(89,f89_info),(57,f57_info),(28,f28_info),(80,f80_info),(49,f49_info),(73,f73_info),(79,f79_info),(48,f48_info),(130,f130_info),(108,f108_info),(78,f78_info),(106,f106_info),(151,f151_info),(129,f129_info),(107,f107_info),(165,f165_info),(147,f147_info),(124,f124_info),(98,f98_info),(74,f74_info),(99,f99_info),(64,f64_info),(65,f65_info),(33,f33_info),(66,f66_info),(34,f34_info),(15,f15_info),(77,f77_info),(47,f47_info),(41,f41_info),(55,f55_info),(139,f139_info),(173,f173_info),(174,f174_info),(160,f160_info),(161,f161_info),(162,f162_info),(141,f141_info),(140,f140_info),(116,f116_info),(117,f117_info),(87,f87_info),(56,f56_info),(27,f27_info),(12,f12_info),(101,f101_info),(69,f69_info),(37,f37_info),(18,f18_info),(46,f46_info),(24,f24_info),(20,f20_info),(75,f75_info),(42,f42_info),(30,f30_info),(13,f13_info),(21,f21_info),(5,f5_info),(67,f67_info),(35,f35_info)]
  ptrs:=[155]
  made:=[]
  froz:=[] }
theorem f172_at:assoc G.fns 172=some f172_info:=by kernel_rfl
theorem f180_at:assoc G.fns 180=some f180_info:=by kernel_rfl
theorem f51_at:assoc G.fns 51=some f51_info:=by kernel_rfl
theorem f17_at:assoc G.fns 17=some f17_info:=by kernel_rfl
theorem f159_at:assoc G.fns 159=some f159_info:=by kernel_rfl
theorem f22_at:assoc G.fns 22=some f22_info:=by kernel_rfl
theorem f22_in:f22_info.ext=false:=rfl
theorem f6_at:assoc G.fns 6=some f6_info:=by kernel_rfl
theorem f6_in:f6_info.ext=false:=rfl
theorem f158_at:assoc G.fns 158=some f158_info:=by kernel_rfl
theorem f158_in:f158_info.ext=false:=rfl
theorem f137_at:assoc G.fns 137=some f137_info:=by kernel_rfl
theorem f137_in:f137_info.ext=false:=rfl
theorem f138_at:assoc G.fns 138=some f138_info:=by kernel_rfl
theorem f138_in:f138_info.ext=false:=rfl
theorem f115_at:assoc G.fns 115=some f115_info:=by kernel_rfl
theorem f115_in:f115_info.ext=false:=rfl
theorem f157_at:assoc G.fns 157=some f157_info:=by kernel_rfl
theorem f157_in:f157_info.ext=false:=rfl
theorem f136_at:assoc G.fns 136=some f136_info:=by kernel_rfl
theorem f136_in:f136_info.ext=false:=rfl
theorem f154_at:assoc G.fns 154=some f154_info:=by kernel_rfl
theorem f154_in:f154_info.ext=false:=rfl
theorem f169_at:assoc G.fns 169=some f169_info:=by kernel_rfl
theorem f169_in:f169_info.ext=false:=rfl
theorem f134_at:assoc G.fns 134=some f134_info:=by kernel_rfl
theorem f134_in:f134_info.ext=false:=rfl
theorem f188_at:assoc G.fns 188=some f188_info:=by kernel_rfl
theorem f188_in:f188_info.ext=false:=rfl
theorem f179_at:assoc G.fns 179=some f179_info:=by kernel_rfl
theorem f179_in:f179_info.ext=false:=rfl
theorem f177_at:assoc G.fns 177=some f177_info:=by kernel_rfl
theorem f177_in:f177_info.ext=false:=rfl
theorem f178_at:assoc G.fns 178=some f178_info:=by kernel_rfl
theorem f178_in:f178_info.ext=false:=rfl
theorem f170_at:assoc G.fns 170=some f170_info:=by kernel_rfl
theorem f170_in:f170_info.ext=false:=rfl
theorem f155_at:assoc G.fns 155=some f155_info:=by kernel_rfl
theorem f155_in:f155_info.ext=false:=rfl
theorem f171_at:assoc G.fns 171=some f171_info:=by kernel_rfl
theorem f171_in:f171_info.ext=false:=rfl
theorem f156_at:assoc G.fns 156=some f156_info:=by kernel_rfl
theorem f156_in:f156_info.ext=false:=rfl
theorem f135_at:assoc G.fns 135=some f135_info:=by kernel_rfl
theorem f135_in:f135_info.ext=false:=rfl
theorem f114_at:assoc G.fns 114=some f114_info:=by kernel_rfl
theorem f114_in:f114_info.ext=false:=rfl
theorem f86_at:assoc G.fns 86=some f86_info:=by kernel_rfl
theorem f86_in:f86_info.ext=false:=rfl
theorem f54_at:assoc G.fns 54=some f54_info:=by kernel_rfl
theorem f54_in:f54_info.ext=false:=rfl
theorem f113_at:assoc G.fns 113=some f113_info:=by kernel_rfl
theorem f113_in:f113_info.ext=false:=rfl
theorem f83_at:assoc G.fns 83=some f83_info:=by kernel_rfl
theorem f83_in:f83_info.ext=false:=rfl
theorem f84_at:assoc G.fns 84=some f84_info:=by kernel_rfl
theorem f84_in:f84_info.ext=false:=rfl
theorem f95_at:assoc G.fns 95=some f95_info:=by kernel_rfl
theorem f95_in:f95_info.ext=false:=rfl
theorem f61_at:assoc G.fns 61=some f61_info:=by kernel_rfl
theorem f61_in:f61_info.ext=false:=rfl
theorem f70_at:assoc G.fns 70=some f70_info:=by kernel_rfl
theorem f70_in:f70_info.ext=false:=rfl
theorem f105_at:assoc G.fns 105=some f105_info:=by kernel_rfl
theorem f105_in:f105_info.ext=false:=rfl
theorem f76_at:assoc G.fns 76=some f76_info:=by kernel_rfl
theorem f76_in:f76_info.ext=false:=rfl
theorem f150_at:assoc G.fns 150=some f150_info:=by kernel_rfl
theorem f150_in:f150_info.ext=false:=rfl
theorem f128_at:assoc G.fns 128=some f128_info:=by kernel_rfl
theorem f128_in:f128_info.ext=false:=rfl
theorem f127_at:assoc G.fns 127=some f127_info:=by kernel_rfl
theorem f127_in:f127_info.ext=false:=rfl
theorem f103_at:assoc G.fns 103=some f103_info:=by kernel_rfl
theorem f103_in:f103_info.ext=false:=rfl
theorem f125_at:assoc G.fns 125=some f125_info:=by kernel_rfl
theorem f125_in:f125_info.ext=false:=rfl
theorem f148_at:assoc G.fns 148=some f148_info:=by kernel_rfl
theorem f148_in:f148_info.ext=false:=rfl
theorem f166_at:assoc G.fns 166=some f166_info:=by kernel_rfl
theorem f166_in:f166_info.ext=false:=rfl
theorem f149_at:assoc G.fns 149=some f149_info:=by kernel_rfl
theorem f149_in:f149_info.ext=false:=rfl
theorem f126_at:assoc G.fns 126=some f126_info:=by kernel_rfl
theorem f126_in:f126_info.ext=false:=rfl
theorem f184_at:assoc G.fns 184=some f184_info:=by kernel_rfl
theorem f184_in:f184_info.ext=false:=rfl
theorem f175_at:assoc G.fns 175=some f175_info:=by kernel_rfl
theorem f175_in:f175_info.ext=false:=rfl
theorem f164_at:assoc G.fns 164=some f164_info:=by kernel_rfl
theorem f164_in:f164_info.ext=false:=rfl
theorem f145_at:assoc G.fns 145=some f145_info:=by kernel_rfl
theorem f145_in:f145_info.ext=false:=rfl
theorem f104_at:assoc G.fns 104=some f104_info:=by kernel_rfl
theorem f104_in:f104_info.ext=false:=rfl
theorem f72_at:assoc G.fns 72=some f72_info:=by kernel_rfl
theorem f72_in:f72_info.ext=false:=rfl
theorem f146_at:assoc G.fns 146=some f146_info:=by kernel_rfl
theorem f146_in:f146_info.ext=false:=rfl
theorem f123_at:assoc G.fns 123=some f123_info:=by kernel_rfl
theorem f123_in:f123_info.ext=false:=rfl
theorem f94_at:assoc G.fns 94=some f94_info:=by kernel_rfl
theorem f94_in:f94_info.ext=false:=rfl
theorem f60_at:assoc G.fns 60=some f60_info:=by kernel_rfl
theorem f60_in:f60_info.ext=false:=rfl
theorem f59_at:assoc G.fns 59=some f59_info:=by kernel_rfl
theorem f59_in:f59_info.ext=false:=rfl
theorem f96_at:assoc G.fns 96=some f96_info:=by kernel_rfl
theorem f96_in:f96_info.ext=false:=rfl
theorem f85_at:assoc G.fns 85=some f85_info:=by kernel_rfl
theorem f85_in:f85_info.ext=false:=rfl
theorem f53_at:assoc G.fns 53=some f53_info:=by kernel_rfl
theorem f53_in:f53_info.ext=false:=rfl
theorem f97_at:assoc G.fns 97=some f97_info:=by kernel_rfl
theorem f97_in:f97_info.ext=false:=rfl
theorem f62_at:assoc G.fns 62=some f62_info:=by kernel_rfl
theorem f62_in:f62_info.ext=false:=rfl
theorem f31_at:assoc G.fns 31=some f31_info:=by kernel_rfl
theorem f31_in:f31_info.ext=false:=rfl
theorem f63_at:assoc G.fns 63=some f63_info:=by kernel_rfl
theorem f63_in:f63_info.ext=false:=rfl
theorem f32_at:assoc G.fns 32=some f32_info:=by kernel_rfl
theorem f32_in:f32_info.ext=false:=rfl
theorem f14_at:assoc G.fns 14=some f14_info:=by kernel_rfl
theorem f14_in:f14_info.ext=false:=rfl
theorem f102_at:assoc G.fns 102=some f102_info:=by kernel_rfl
theorem f102_in:f102_info.ext=false:=rfl
theorem f71_at:assoc G.fns 71=some f71_info:=by kernel_rfl
theorem f71_in:f71_info.ext=false:=rfl
theorem f38_at:assoc G.fns 38=some f38_info:=by kernel_rfl
theorem f38_in:f38_info.ext=false:=rfl
theorem f26_at:assoc G.fns 26=some f26_info:=by kernel_rfl
theorem f26_in:f26_info.ext=false:=rfl
theorem f50_at:assoc G.fns 50=some f50_info:=by kernel_rfl
theorem f50_in:f50_info.ext=false:=rfl
theorem f186_at:assoc G.fns 186=some f186_info:=by kernel_rfl
theorem f186_in:f186_info.ext=false:=rfl
theorem f194_at:assoc G.fns 194=some f194_info:=by kernel_rfl
theorem f194_in:f194_info.ext=false:=rfl
theorem f202_at:assoc G.fns 202=some f202_info:=by kernel_rfl
theorem f202_in:f202_info.ext=false:=rfl
theorem f196_at:assoc G.fns 196=some f196_info:=by kernel_rfl
theorem f196_in:f196_info.ext=false:=rfl
theorem f187_at:assoc G.fns 187=some f187_info:=by kernel_rfl
theorem f187_in:f187_info.ext=false:=rfl
theorem f195_at:assoc G.fns 195=some f195_info:=by kernel_rfl
theorem f195_in:f195_info.ext=false:=rfl
theorem f185_at:assoc G.fns 185=some f185_info:=by kernel_rfl
theorem f185_in:f185_info.ext=false:=rfl
theorem f176_at:assoc G.fns 176=some f176_info:=by kernel_rfl
theorem f176_in:f176_info.ext=false:=rfl
theorem f167_at:assoc G.fns 167=some f167_info:=by kernel_rfl
theorem f167_in:f167_info.ext=false:=rfl
theorem f168_at:assoc G.fns 168=some f168_info:=by kernel_rfl
theorem f168_in:f168_info.ext=false:=rfl
theorem f152_at:assoc G.fns 152=some f152_info:=by kernel_rfl
theorem f152_in:f152_info.ext=false:=rfl
theorem f131_at:assoc G.fns 131=some f131_info:=by kernel_rfl
theorem f131_in:f131_info.ext=false:=rfl
theorem f111_at:assoc G.fns 111=some f111_info:=by kernel_rfl
theorem f111_in:f111_info.ext=false:=rfl
theorem f132_at:assoc G.fns 132=some f132_info:=by kernel_rfl
theorem f132_in:f132_info.ext=false:=rfl
theorem f153_at:assoc G.fns 153=some f153_info:=by kernel_rfl
theorem f153_in:f153_info.ext=false:=rfl
theorem f133_at:assoc G.fns 133=some f133_info:=by kernel_rfl
theorem f133_in:f133_info.ext=false:=rfl
theorem f112_at:assoc G.fns 112=some f112_info:=by kernel_rfl
theorem f112_in:f112_info.ext=false:=rfl
theorem f82_at:assoc G.fns 82=some f82_info:=by kernel_rfl
theorem f82_in:f82_info.ext=false:=rfl
theorem f52_at:assoc G.fns 52=some f52_info:=by kernel_rfl
theorem f52_in:f52_info.ext=false:=rfl
theorem f25_at:assoc G.fns 25=some f25_info:=by kernel_rfl
theorem f25_in:f25_info.ext=false:=rfl
theorem f11_at:assoc G.fns 11=some f11_info:=by kernel_rfl
theorem f11_in:f11_info.ext=false:=rfl
theorem f39_at:assoc G.fns 39=some f39_info:=by kernel_rfl
theorem f39_in:f39_info.ext=false:=rfl
theorem f43_at:assoc G.fns 43=some f43_info:=by kernel_rfl
theorem f43_in:f43_info.ext=false:=rfl
theorem f100_at:assoc G.fns 100=some f100_info:=by kernel_rfl
theorem f100_in:f100_info.ext=false:=rfl
theorem f68_at:assoc G.fns 68=some f68_info:=by kernel_rfl
theorem f68_in:f68_info.ext=false:=rfl
theorem f44_at:assoc G.fns 44=some f44_info:=by kernel_rfl
theorem f44_in:f44_info.ext=false:=rfl
theorem f45_at:assoc G.fns 45=some f45_info:=by kernel_rfl
theorem f45_in:f45_info.ext=false:=rfl
theorem f23_at:assoc G.fns 23=some f23_info:=by kernel_rfl
theorem f23_in:f23_info.ext=false:=rfl
theorem f40_at:assoc G.fns 40=some f40_info:=by kernel_rfl
theorem f40_in:f40_info.ext=false:=rfl
theorem f19_at:assoc G.fns 19=some f19_info:=by kernel_rfl
theorem f19_in:f19_info.ext=false:=rfl
theorem f122_at:assoc G.fns 122=some f122_info:=by kernel_rfl
theorem f122_in:f122_info.ext=false:=rfl
theorem f121_at:assoc G.fns 121=some f121_info:=by kernel_rfl
theorem f121_in:f121_info.ext=false:=rfl
theorem f109_at:assoc G.fns 109=some f109_info:=by kernel_rfl
theorem f109_in:f109_info.ext=false:=rfl
theorem f93_at:assoc G.fns 93=some f93_info:=by kernel_rfl
theorem f93_in:f93_info.ext=false:=rfl
theorem f92_at:assoc G.fns 92=some f92_info:=by kernel_rfl
theorem f92_in:f92_info.ext=false:=rfl
theorem f118_at:assoc G.fns 118=some f118_info:=by kernel_rfl
theorem f118_in:f118_info.ext=false:=rfl
theorem f119_at:assoc G.fns 119=some f119_info:=by kernel_rfl
theorem f119_in:f119_info.ext=false:=rfl
theorem f163_at:assoc G.fns 163=some f163_info:=by kernel_rfl
theorem f163_in:f163_info.ext=false:=rfl
theorem f143_at:assoc G.fns 143=some f143_info:=by kernel_rfl
theorem f143_in:f143_info.ext=false:=rfl
theorem f142_at:assoc G.fns 142=some f142_info:=by kernel_rfl
theorem f142_in:f142_info.ext=false:=rfl
theorem f144_at:assoc G.fns 144=some f144_info:=by kernel_rfl
theorem f144_in:f144_info.ext=false:=rfl
theorem f120_at:assoc G.fns 120=some f120_info:=by kernel_rfl
theorem f120_in:f120_info.ext=false:=rfl
theorem f91_at:assoc G.fns 91=some f91_info:=by kernel_rfl
theorem f91_in:f91_info.ext=false:=rfl
theorem f58_at:assoc G.fns 58=some f58_info:=by kernel_rfl
theorem f58_in:f58_info.ext=false:=rfl
theorem f29_at:assoc G.fns 29=some f29_info:=by kernel_rfl
theorem f29_in:f29_info.ext=false:=rfl
theorem f88_at:assoc G.fns 88=some f88_info:=by kernel_rfl
theorem f88_in:f88_info.ext=false:=rfl
theorem f90_at:assoc G.fns 90=some f90_info:=by kernel_rfl
theorem f90_in:f90_info.ext=false:=rfl
theorem f89_at:assoc G.fns 89=some f89_info:=by kernel_rfl
theorem f89_in:f89_info.ext=false:=rfl
theorem f57_at:assoc G.fns 57=some f57_info:=by kernel_rfl
theorem f57_in:f57_info.ext=false:=rfl
theorem f28_at:assoc G.fns 28=some f28_info:=by kernel_rfl
theorem f28_in:f28_info.ext=false:=rfl
theorem f80_at:assoc G.fns 80=some f80_info:=by kernel_rfl
theorem f80_in:f80_info.ext=false:=rfl
theorem f49_at:assoc G.fns 49=some f49_info:=by kernel_rfl
theorem f49_in:f49_info.ext=false:=rfl
theorem f73_at:assoc G.fns 73=some f73_info:=by kernel_rfl
theorem f73_in:f73_info.ext=false:=rfl
theorem f79_at:assoc G.fns 79=some f79_info:=by kernel_rfl
theorem f79_in:f79_info.ext=false:=rfl
theorem f48_at:assoc G.fns 48=some f48_info:=by kernel_rfl
theorem f48_in:f48_info.ext=false:=rfl
theorem f130_at:assoc G.fns 130=some f130_info:=by kernel_rfl
theorem f130_in:f130_info.ext=false:=rfl
theorem f108_at:assoc G.fns 108=some f108_info:=by kernel_rfl
theorem f108_in:f108_info.ext=false:=rfl
theorem f78_at:assoc G.fns 78=some f78_info:=by kernel_rfl
theorem f78_in:f78_info.ext=false:=rfl
theorem f106_at:assoc G.fns 106=some f106_info:=by kernel_rfl
theorem f106_in:f106_info.ext=false:=rfl
theorem f151_at:assoc G.fns 151=some f151_info:=by kernel_rfl
theorem f151_in:f151_info.ext=false:=rfl
theorem f129_at:assoc G.fns 129=some f129_info:=by kernel_rfl
theorem f129_in:f129_info.ext=false:=rfl
theorem f107_at:assoc G.fns 107=some f107_info:=by kernel_rfl
theorem f107_in:f107_info.ext=false:=rfl
theorem f165_at:assoc G.fns 165=some f165_info:=by kernel_rfl
theorem f165_in:f165_info.ext=false:=rfl
theorem f147_at:assoc G.fns 147=some f147_info:=by kernel_rfl
theorem f147_in:f147_info.ext=false:=rfl
theorem f124_at:assoc G.fns 124=some f124_info:=by kernel_rfl
theorem f124_in:f124_info.ext=false:=rfl
theorem f98_at:assoc G.fns 98=some f98_info:=by kernel_rfl
theorem f98_in:f98_info.ext=false:=rfl
theorem f74_at:assoc G.fns 74=some f74_info:=by kernel_rfl
theorem f74_in:f74_info.ext=false:=rfl
theorem f99_at:assoc G.fns 99=some f99_info:=by kernel_rfl
theorem f99_in:f99_info.ext=false:=rfl
theorem f64_at:assoc G.fns 64=some f64_info:=by kernel_rfl
theorem f64_in:f64_info.ext=false:=rfl
theorem f65_at:assoc G.fns 65=some f65_info:=by kernel_rfl
theorem f65_in:f65_info.ext=false:=rfl
theorem f33_at:assoc G.fns 33=some f33_info:=by kernel_rfl
theorem f33_in:f33_info.ext=false:=rfl
theorem f66_at:assoc G.fns 66=some f66_info:=by kernel_rfl
theorem f66_in:f66_info.ext=false:=rfl
theorem f34_at:assoc G.fns 34=some f34_info:=by kernel_rfl
theorem f34_in:f34_info.ext=false:=rfl
theorem f15_at:assoc G.fns 15=some f15_info:=by kernel_rfl
theorem f15_in:f15_info.ext=false:=rfl
theorem f77_at:assoc G.fns 77=some f77_info:=by kernel_rfl
theorem f77_in:f77_info.ext=false:=rfl
theorem f47_at:assoc G.fns 47=some f47_info:=by kernel_rfl
theorem f47_in:f47_info.ext=false:=rfl
theorem f41_at:assoc G.fns 41=some f41_info:=by kernel_rfl
theorem f41_in:f41_info.ext=false:=rfl
theorem f55_at:assoc G.fns 55=some f55_info:=by kernel_rfl
theorem f55_in:f55_info.ext=false:=rfl
theorem f139_at:assoc G.fns 139=some f139_info:=by kernel_rfl
theorem f139_in:f139_info.ext=false:=rfl
theorem f173_at:assoc G.fns 173=some f173_info:=by kernel_rfl
theorem f173_in:f173_info.ext=false:=rfl
theorem f174_at:assoc G.fns 174=some f174_info:=by kernel_rfl
theorem f174_in:f174_info.ext=false:=rfl
theorem f160_at:assoc G.fns 160=some f160_info:=by kernel_rfl
theorem f160_in:f160_info.ext=false:=rfl
theorem f161_at:assoc G.fns 161=some f161_info:=by kernel_rfl
theorem f161_in:f161_info.ext=false:=rfl
theorem f162_at:assoc G.fns 162=some f162_info:=by kernel_rfl
theorem f162_in:f162_info.ext=false:=rfl
theorem f141_at:assoc G.fns 141=some f141_info:=by kernel_rfl
theorem f141_in:f141_info.ext=false:=rfl
theorem f140_at:assoc G.fns 140=some f140_info:=by kernel_rfl
theorem f140_in:f140_info.ext=false:=rfl
theorem f116_at:assoc G.fns 116=some f116_info:=by kernel_rfl
theorem f116_in:f116_info.ext=false:=rfl
theorem f117_at:assoc G.fns 117=some f117_info:=by kernel_rfl
theorem f117_in:f117_info.ext=false:=rfl
theorem f87_at:assoc G.fns 87=some f87_info:=by kernel_rfl
theorem f87_in:f87_info.ext=false:=rfl
theorem f56_at:assoc G.fns 56=some f56_info:=by kernel_rfl
theorem f56_in:f56_info.ext=false:=rfl
theorem f27_at:assoc G.fns 27=some f27_info:=by kernel_rfl
theorem f27_in:f27_info.ext=false:=rfl
theorem f12_at:assoc G.fns 12=some f12_info:=by kernel_rfl
theorem f12_in:f12_info.ext=false:=rfl
theorem f101_at:assoc G.fns 101=some f101_info:=by kernel_rfl
theorem f101_in:f101_info.ext=false:=rfl
theorem f69_at:assoc G.fns 69=some f69_info:=by kernel_rfl
theorem f69_in:f69_info.ext=false:=rfl
theorem f37_at:assoc G.fns 37=some f37_info:=by kernel_rfl
theorem f37_in:f37_info.ext=false:=rfl
theorem f18_at:assoc G.fns 18=some f18_info:=by kernel_rfl
theorem f18_in:f18_info.ext=false:=rfl
theorem f46_at:assoc G.fns 46=some f46_info:=by kernel_rfl
theorem f46_in:f46_info.ext=false:=rfl
theorem f24_at:assoc G.fns 24=some f24_info:=by kernel_rfl
theorem f24_in:f24_info.ext=false:=rfl
theorem f20_at:assoc G.fns 20=some f20_info:=by kernel_rfl
theorem f20_in:f20_info.ext=false:=rfl
theorem f75_at:assoc G.fns 75=some f75_info:=by kernel_rfl
theorem f75_in:f75_info.ext=false:=rfl
theorem f42_at:assoc G.fns 42=some f42_info:=by kernel_rfl
theorem f42_in:f42_info.ext=false:=rfl
theorem f30_at:assoc G.fns 30=some f30_info:=by kernel_rfl
theorem f30_in:f30_info.ext=false:=rfl
theorem f13_at:assoc G.fns 13=some f13_info:=by kernel_rfl
theorem f13_in:f13_info.ext=false:=rfl
theorem f21_at:assoc G.fns 21=some f21_info:=by kernel_rfl
theorem f21_in:f21_info.ext=false:=rfl
theorem f5_at:assoc G.fns 5=some f5_info:=by kernel_rfl
theorem f5_in:f5_info.ext=false:=rfl
theorem f67_at:assoc G.fns 67=some f67_info:=by kernel_rfl
theorem f67_in:f67_info.ext=false:=rfl
theorem f35_at:assoc G.fns 35=some f35_info:=by kernel_rfl
theorem f35_in:f35_info.ext=false:=rfl
end Go.Proofs.YteiahdlklppghaaGreat.Ev


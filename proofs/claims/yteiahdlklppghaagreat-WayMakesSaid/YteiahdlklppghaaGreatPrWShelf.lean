import Derived.Shelf.Strings.OnBuilder
import Derived.Shelf.Strings.Repeat
import Derived.Shelf.Slices.Reverse
import Derived.Test.YteiahdlklppghaaGreatProg
namespace Go.Proofs
open Go.Shelf
def Tryz.lays156_ren:Go.Shelf.Ren:=⟨fun | 156=>172 | 165=>181 | 166=>182 | 169=>183 | 240=>192 | 241=>193 | 276=>200 | 277=>201 | n=>n,fun | 31=>57 | 9=>9 | 3=>3 | 4=>4 | 0=>0 | 20=>20 | 72=>188 | 76=>192 | 70=>186 | 37=>130 | 75=>191 | 127=>203 | 164=>210 | 5=>5 | 80=>194 | n=>n,fun | n=>n⟩
theorem Tryz.lays156:Go.Proofs.Lays.n156 Tryz.prog Tryz.lays156_ren:={
  mixed:=by kernel_rfl
  f156:=Tryz.func172.trans (congrArg some (by kernel_rfl))
  f165:=Tryz.func181.trans (congrArg some (by kernel_rfl))
  f166:=Tryz.func182.trans (congrArg some (by kernel_rfl))
  f169:=Tryz.func183.trans (congrArg some (by kernel_rfl))
  f240:=Tryz.func192.trans (congrArg some (by kernel_rfl))
  f241:=Tryz.func193.trans (congrArg some (by kernel_rfl))
  f276:=Tryz.func200.trans (congrArg some (by kernel_rfl))
  f277:=Tryz.func201.trans (congrArg some (by kernel_rfl))
  t0:=Tryz.underlying0
  a0:=Tryz.isAgg0
  z0:=Tryz.sizeOf0
  v0:=Tryz.zeroValue0
  t3:=Tryz.underlying3
  a3:=Tryz.isAgg3
  z3:=Tryz.sizeOf3
  v3:=Tryz.zeroValue3
  t4:=Tryz.underlying4
  a4:=Tryz.isAgg4
  z4:=Tryz.sizeOf4
  v4:=Tryz.zeroValue4
  t9:=Tryz.underlying9
  a9:=Tryz.isAgg9
  z9:=Tryz.sizeOf9
  v9:=Tryz.zeroValue9
  t20:=Tryz.underlying20
  a20:=Tryz.isAgg20
  z20:=Tryz.sizeOf20
  v20:=Tryz.zeroValue20
  t31:=Tryz.underlying57
  a31:=Tryz.isAgg57
  z31:=Tryz.sizeOf57
  v31:=Tryz.zeroValue57
  t37:=Tryz.underlying130
  a37:=Tryz.isAgg130
  z37:=Tryz.sizeOf130
  v37:=Tryz.zeroValue130
  t70:=Tryz.underlying186
  a70:=Tryz.isAgg186
  z70:=Tryz.sizeOf186
  v70:=Tryz.zeroValue186
  t72:=Tryz.underlying188
  a72:=Tryz.isAgg188
  z72:=Tryz.sizeOf188
  v72:=Tryz.zeroValue188
  t75:=Tryz.underlying191
  a75:=Tryz.isAgg191
  z75:=Tryz.sizeOf191
  v75:=Tryz.zeroValue191
  t76:=Tryz.underlying192
  a76:=Tryz.isAgg192
  z76:=Tryz.sizeOf192
  v76:=Tryz.zeroValue192
  t127:=Tryz.underlying203
  a127:=Tryz.isAgg203
  z127:=Tryz.sizeOf203
  v127:=Tryz.zeroValue203
  t164:=Tryz.underlying210
  a164:=Tryz.isAgg210
  z164:=Tryz.sizeOf210
  v164:=Tryz.zeroValue210 }
theorem Tryz.Builder_Extra_156:Builder.Extra Tryz.prog Tryz.lays156_ren:={
  sizeBuilder:=by kernel_rfl
  liesBuilder:=by kernel_rfl
  t5:=Tryz.underlying5
  a5:=Tryz.isAgg5
  z5:=Tryz.sizeOf5
  v5:=Tryz.zeroValue5
  infoByte:=by kernel_rfl
  cellsByte:=by kernel_rfl
  sizeByte:=by kernel_rfl
  neB5:=by decide }
open Go.RowKit in
theorem Tryz.strings_Join_none (a:Option Addr) (c:Nat) (sep:ByteArray) (w:World) :
    Calls Tryz.prog 172 #[.slice a 0 c,.string sep] w fun e w'=>e=.returned (.string ⟨#[]⟩)∧w'=w:=Any.strings_Join_none Tryz.lays156 Tryz.Builder_Extra_156 a c sep w
open Go.RowKit in
theorem Tryz.strings_Join (bk o c:Nat) (xs:List ByteArray) (sep:ByteArray) (w:World) (hcells:∀ (j:Nat) x,xs[j]?=some x→w.cell? ⟨bk,o+j,none⟩=some (.string x)) (hbk:bk < w.heap.size) (hN:xs.length≤140737488355328) (hcap:xs.length≤c) (hlen:(Lib.join (xs.map (·.data.toList)) sep.data.toList).length≤140737488355328) :
    Calls Tryz.prog 172 #[.slice (some ⟨bk,o,none⟩) xs.length c,.string sep] w fun e w'=>e=.returned (.string ⟨(Lib.join (xs.map (·.data.toList)) sep.data.toList).toArray⟩)∧Below w.heap.size w w':=Any.strings_Join Tryz.lays156 Tryz.Builder_Extra_156 bk o c xs sep w hcells hbk hN hcap hlen
def Tryz.lays105_ren:Go.Shelf.Ren:=⟨fun | 105=>180 | 212=>189 | 99=>190 | 165=>181 | 166=>182 | 170=>191 | 169=>183 | 263=>197 | 264=>198 | 206=>199 | 240=>192 | 241=>193 | 276=>200 | 277=>201 | n=>n,fun | 9=>9 | 3=>3 | 4=>4 | 20=>20 | 0=>0 | 46=>131 | 109=>199 | 5=>5 | 72=>188 | 76=>192 | 51=>22 | 146=>206 | 53=>25 | 148=>208 | 70=>186 | 37=>130 | 75=>191 | 127=>203 | 164=>210 | 80=>194 | n=>n,fun | n=>n⟩
theorem Tryz.lays105:Go.Proofs.Lays.n105 Tryz.prog Tryz.lays105_ren:={
  mixed:=by kernel_rfl
  f99:=Tryz.func190.trans (congrArg some (by kernel_rfl))
  f105:=Tryz.func180.trans (congrArg some (by kernel_rfl))
  f165:=Tryz.func181.trans (congrArg some (by kernel_rfl))
  f166:=Tryz.func182.trans (congrArg some (by kernel_rfl))
  f169:=Tryz.func183.trans (congrArg some (by kernel_rfl))
  f170:=Tryz.func191.trans (congrArg some (by kernel_rfl))
  f206:=Tryz.func199.trans (congrArg some (by kernel_rfl))
  f212:=Tryz.func189.trans (congrArg some (by kernel_rfl))
  f240:=Tryz.func192.trans (congrArg some (by kernel_rfl))
  f241:=Tryz.func193.trans (congrArg some (by kernel_rfl))
  f263:=Tryz.func197.trans (congrArg some (by kernel_rfl))
  f264:=Tryz.func198.trans (congrArg some (by kernel_rfl))
  f276:=Tryz.func200.trans (congrArg some (by kernel_rfl))
  f277:=Tryz.func201.trans (congrArg some (by kernel_rfl))
  t0:=Tryz.underlying0
  a0:=Tryz.isAgg0
  z0:=Tryz.sizeOf0
  v0:=Tryz.zeroValue0
  t3:=Tryz.underlying3
  a3:=Tryz.isAgg3
  z3:=Tryz.sizeOf3
  v3:=Tryz.zeroValue3
  t4:=Tryz.underlying4
  a4:=Tryz.isAgg4
  z4:=Tryz.sizeOf4
  v4:=Tryz.zeroValue4
  t5:=Tryz.underlying5
  a5:=Tryz.isAgg5
  z5:=Tryz.sizeOf5
  v5:=Tryz.zeroValue5
  t9:=Tryz.underlying9
  a9:=Tryz.isAgg9
  z9:=Tryz.sizeOf9
  v9:=Tryz.zeroValue9
  t20:=Tryz.underlying20
  a20:=Tryz.isAgg20
  z20:=Tryz.sizeOf20
  v20:=Tryz.zeroValue20
  t37:=Tryz.underlying130
  a37:=Tryz.isAgg130
  z37:=Tryz.sizeOf130
  v37:=Tryz.zeroValue130
  t46:=Tryz.underlying131
  a46:=Tryz.isAgg131
  z46:=Tryz.sizeOf131
  v46:=Tryz.zeroValue131
  t51:=Tryz.underlying22
  a51:=Tryz.isAgg22
  z51:=Tryz.sizeOf22
  v51:=Tryz.zeroValue22
  t53:=Tryz.underlying25
  a53:=Tryz.isAgg25
  z53:=Tryz.sizeOf25
  v53:=Tryz.zeroValue25
  t70:=Tryz.underlying186
  a70:=Tryz.isAgg186
  z70:=Tryz.sizeOf186
  v70:=Tryz.zeroValue186
  t72:=Tryz.underlying188
  a72:=Tryz.isAgg188
  z72:=Tryz.sizeOf188
  v72:=Tryz.zeroValue188
  t75:=Tryz.underlying191
  a75:=Tryz.isAgg191
  z75:=Tryz.sizeOf191
  v75:=Tryz.zeroValue191
  t76:=Tryz.underlying192
  a76:=Tryz.isAgg192
  z76:=Tryz.sizeOf192
  v76:=Tryz.zeroValue192
  t109:=Tryz.underlying199
  a109:=Tryz.isAgg199
  z109:=Tryz.sizeOf199
  v109:=Tryz.zeroValue199
  t127:=Tryz.underlying203
  a127:=Tryz.isAgg203
  z127:=Tryz.sizeOf203
  v127:=Tryz.zeroValue203
  t146:=Tryz.underlying206
  a146:=Tryz.isAgg206
  z146:=Tryz.sizeOf206
  v146:=Tryz.zeroValue206
  t148:=Tryz.underlying208
  a148:=Tryz.isAgg208
  z148:=Tryz.sizeOf208
  v148:=Tryz.zeroValue208
  t164:=Tryz.underlying210
  a164:=Tryz.isAgg210
  z164:=Tryz.sizeOf210
  v164:=Tryz.zeroValue210 }
theorem Tryz.Builder_Extra_105:Builder.Extra Tryz.prog Tryz.lays105_ren:={
  sizeBuilder:=by kernel_rfl
  liesBuilder:=by kernel_rfl
  t5:=Tryz.underlying5
  a5:=Tryz.isAgg5
  z5:=Tryz.sizeOf5
  v5:=Tryz.zeroValue5
  infoByte:=by kernel_rfl
  cellsByte:=by kernel_rfl
  sizeByte:=by kernel_rfl
  neB5:=by decide }
open Go.RowKit Go.Lib in
theorem Tryz.strings_Repeat (s:ByteArray) (c:Nat) (w:World) (hc:c≤9223372036854775807) (hlen:s.size*c≤140737488355328) :
    Calls Tryz.prog 180 #[.string s,.int .i64 c] w fun e w'=>e=.returned (.string ⟨(Lib.repeatL s.data.toList c).toArray⟩)∧Below w.heap.size w w':=Any.strings_Repeat Tryz.lays105 Tryz.Builder_Extra_105 s c w hc hlen
def Tryz.lays112_ren:Go.Shelf.Ren:=⟨fun | 112=>36 | n=>n,fun | 28=>38 | 3=>3 | 4=>4 | 0=>0 | n=>n,fun | n=>n⟩
theorem Tryz.lays112:Go.Proofs.Lays.n112 Tryz.prog Tryz.lays112_ren:={
  mixed:=by kernel_rfl
  f112:=Tryz.func36.trans (congrArg some (by kernel_rfl))
  t0:=Tryz.underlying0
  a0:=Tryz.isAgg0
  z0:=Tryz.sizeOf0
  v0:=Tryz.zeroValue0
  t3:=Tryz.underlying3
  a3:=Tryz.isAgg3
  z3:=Tryz.sizeOf3
  v3:=Tryz.zeroValue3
  t4:=Tryz.underlying4
  a4:=Tryz.isAgg4
  z4:=Tryz.sizeOf4
  v4:=Tryz.zeroValue4
  t28:=Tryz.underlying38
  a28:=Tryz.isAgg38
  z28:=Tryz.sizeOf38
  v28:=Tryz.zeroValue38 }
open Go.RowKit Go.Lib Go.Sort in
theorem Tryz.slices_Reverse_int (blk off cap:Nat) (zs:List Int) (w:World) (hH:Holds (Value.int .i64) w blk off zs.toArray) (hsz:zs.length≤9223372036854775807) :
    Calls Tryz.prog 36 #[.slice (some ⟨blk,off,none⟩) zs.length cap] w fun e w'=>e=.returned (.tuple #[])∧∃ n,w'=putRow (Value.int .i64) (Sort.ahead w n) blk off zs.reverse.toArray:=Any.slices_Reverse_int Tryz.lays112 blk off cap zs w hH hsz
end Go.Proofs


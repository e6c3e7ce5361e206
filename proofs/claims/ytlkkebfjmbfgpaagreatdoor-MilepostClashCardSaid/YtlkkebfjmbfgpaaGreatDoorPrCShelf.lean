import Derived.Shelf.Strings.Builder1
import Derived.Shelf.Strings.Builder2
import Derived.Shelf.Strings.OnBuilder
import Derived.Shelf.Small.Bits
import Derived.Shelf.Strings.BuilderF
import Derived.Shelf.Strings.BuilderK
import Derived.Shelf.Utf8.RuneCount
import Derived.Shelf.Strings.Builder2Cap
import Derived.Shelf.Strconv.Itoa0
import Derived.Shelf.Strconv.Itoa1
import Derived.Shelf.LaysM
import Derived.Shelf.Strconv.Itoa2
import Derived.Shelf.Strconv.Itoa3
import Derived.Shelf.Strconv.Clone
import Derived.Shelf.Strings.Search1
import Derived.Shelf.Strings.Search2
import Derived.Shelf.Strings.Search3
import Derived.Shelf.Strings.Count
import Derived.Shelf.Strings.Shaped
import Derived.Shelf.Sort.Plain
import Derived.Shelf.Strings.Prefix
import Derived.Shelf.Strings.Split
import Derived.Shelf.Strings.SplitShaped
import Derived.Shelf.Unicode.Decode
import Derived.Shelf.Strings.RuneCount
import Derived.Shelf.Strings.Explode
import Derived.Shelf.Bits.Mul64
import Derived.Shelf.Strings.Repeat
import Derived.Shelf.Unicode.DecodeSlow
import Derived.Shelf.Unicode.DecodeAny
import Derived.Shelf.Strings.BuilderCap
import Derived.Shelf.Slices.In.SortNone
import Derived.Test.YtlkkebfjmbfgpaaGreatDoorProg
namespace Go.Proofs
open Go.Shelf
def Tryz.lays156_ren:Go.Shelf.Ren:=⟨fun | 156=>164 | 165=>212 | 166=>43 | 169=>45 | 240=>91 | 241=>251 | 276=>153 | 277=>283 | n=>n,fun | 31=>22 | 9=>9 | 3=>3 | 4=>4 | 0=>0 | 20=>20 | 72=>109 | 76=>112 | 70=>107 | 37=>76 | 75=>93 | 127=>178 | 164=>227 | 5=>5 | 80=>85 | n=>n,fun | n=>n⟩
theorem Tryz.lays156:Go.Proofs.Lays.n156 Tryz.prog Tryz.lays156_ren:={
  mixed:=by kernel_rfl
  f156:=Tryz.func164.trans (congrArg some (by kernel_rfl))
  f165:=Tryz.func212.trans (congrArg some (by kernel_rfl))
  f166:=Tryz.func43.trans (congrArg some (by kernel_rfl))
  f169:=Tryz.func45.trans (congrArg some (by kernel_rfl))
  f240:=Tryz.func91.trans (congrArg some (by kernel_rfl))
  f241:=Tryz.func251.trans (congrArg some (by kernel_rfl))
  f276:=Tryz.func153.trans (congrArg some (by kernel_rfl))
  f277:=Tryz.func283.trans (congrArg some (by kernel_rfl))
  t0:=Tryz.underlying0
  a0:=Tryz.isAgg0
  z0:=Tryz.sizeOf0
  v0:=Tryz.zeroValue0
  t3:=Tryz.underlying3
  a3:=Tryz.isAgg3
  z3:=Tryz.sizeOf3
  v3:=Tryz.zeroValue3
  t4:=Tryz.underlying4
  a4:=Tryz.isAgg4
  z4:=Tryz.sizeOf4
  v4:=Tryz.zeroValue4
  t9:=Tryz.underlying9
  a9:=Tryz.isAgg9
  z9:=Tryz.sizeOf9
  v9:=Tryz.zeroValue9
  t20:=Tryz.underlying20
  a20:=Tryz.isAgg20
  z20:=Tryz.sizeOf20
  v20:=Tryz.zeroValue20
  t31:=Tryz.underlying22
  a31:=Tryz.isAgg22
  z31:=Tryz.sizeOf22
  v31:=Tryz.zeroValue22
  t37:=Tryz.underlying76
  a37:=Tryz.isAgg76
  z37:=Tryz.sizeOf76
  v37:=Tryz.zeroValue76
  t70:=Tryz.underlying107
  a70:=Tryz.isAgg107
  z70:=Tryz.sizeOf107
  v70:=Tryz.zeroValue107
  t72:=Tryz.underlying109
  a72:=Tryz.isAgg109
  z72:=Tryz.sizeOf109
  v72:=Tryz.zeroValue109
  t75:=Tryz.underlying93
  a75:=Tryz.isAgg93
  z75:=Tryz.sizeOf93
  v75:=Tryz.zeroValue93
  t76:=Tryz.underlying112
  a76:=Tryz.isAgg112
  z76:=Tryz.sizeOf112
  v76:=Tryz.zeroValue112
  t127:=Tryz.underlying178
  a127:=Tryz.isAgg178
  z127:=Tryz.sizeOf178
  v127:=Tryz.zeroValue178
  t164:=Tryz.underlying227
  a164:=Tryz.isAgg227
  z164:=Tryz.sizeOf227
  v164:=Tryz.zeroValue227 }
theorem Tryz.Builder_Extra_156:Builder.Extra Tryz.prog Tryz.lays156_ren:={
  sizeBuilder:=by kernel_rfl
  liesBuilder:=by kernel_rfl
  t5:=Tryz.underlying5
  a5:=Tryz.isAgg5
  z5:=Tryz.sizeOf5
  v5:=Tryz.zeroValue5
  infoByte:=by kernel_rfl
  cellsByte:=by kernel_rfl
  sizeByte:=by kernel_rfl
  neB5:=by decide }
open Go.RowKit in
theorem Tryz.strings_Join_none (a:Option Addr) (c:Nat) (sep:ByteArray) (w:World) :
    Calls Tryz.prog 164 #[.slice a 0 c,.string sep] w fun e w'=>e=.returned (.string ⟨#[]⟩)∧w'=w:=Any.strings_Join_none Tryz.lays156 Tryz.Builder_Extra_156 a c sep w
open Go.RowKit in
theorem Tryz.strings_Join (bk o c:Nat) (xs:List ByteArray) (sep:ByteArray) (w:World) (hcells:∀ (j:Nat) x,xs[j]?=some x→w.cell? ⟨bk,o+j,none⟩=some (.string x)) (hbk:bk < w.heap.size) (hN:xs.length≤140737488355328) (hcap:xs.length≤c) (hlen:(Lib.join (xs.map (·.data.toList)) sep.data.toList).length≤140737488355328) :
    Calls Tryz.prog 164 #[.slice (some ⟨bk,o,none⟩) xs.length c,.string sep] w fun e w'=>e=.returned (.string ⟨(Lib.join (xs.map (·.data.toList)) sep.data.toList).toArray⟩)∧Below w.heap.size w w':=Any.strings_Join Tryz.lays156 Tryz.Builder_Extra_156 bk o c xs sep w hcells hbk hN hcap hlen
def Tryz.laysM316_ren:Go.Shelf.Ren:=⟨fun | 316=>144 | n=>n,fun | 9=>9 | 3=>3 | 4=>4 | 37=>76 | 0=>0 | 127=>178 | 5=>5 | n=>n,fun | n=>n⟩
theorem Tryz.laysM316:Go.Proofs.LaysM.n316 Tryz.prog Tryz.laysM316_ren:={
  mixed:=by kernel_rfl
  f316:=Tryz.func144.trans (congrArg some (by kernel_rfl))
  t0:=Tryz.underlying0
  a0:=Tryz.isAgg0
  z0:=Tryz.sizeOf0
  v0:=Tryz.zeroValue0
  t3:=Tryz.underlying3
  a3:=Tryz.isAgg3
  z3:=Tryz.sizeOf3
  v3:=Tryz.zeroValue3
  t4:=Tryz.underlying4
  a4:=Tryz.isAgg4
  z4:=Tryz.sizeOf4
  v4:=Tryz.zeroValue4
  t9:=Tryz.underlying9
  a9:=Tryz.isAgg9
  z9:=Tryz.sizeOf9
  v9:=Tryz.zeroValue9
  t37:=Tryz.underlying76
  a37:=Tryz.isAgg76
  z37:=Tryz.sizeOf76
  v37:=Tryz.zeroValue76
  t127:=Tryz.underlying178
  a127:=Tryz.isAgg178
  z127:=Tryz.sizeOf178
  v127:=Tryz.zeroValue178
  t5:=Tryz.underlying5
  a5:=Tryz.isAgg5
  z5:=Tryz.sizeOf5
  v5:=Tryz.zeroValue5
  i0:=by kernel_rfl
  i3:=by kernel_rfl
  i4:=by kernel_rfl
  i5:=by kernel_rfl
  i9:=by kernel_rfl
  i37:=by kernel_rfl
  i127:=by kernel_rfl }
open Go.RowKit in
theorem Tryz.stringslite_Clone (s:ByteArray) (w:World) (hlim:s.size≤281474976710656) :
    Calls Tryz.prog 144 #[.string s] w fun e w'=>e=.returned (.string s)∧Below w.heap.size w w':=Any.stringslite_Clone Tryz.laysM316 s w hlim
def Tryz.lays190_ren:Go.Shelf.Ren:=⟨fun | 190=>196 | 125=>234 | 258=>233 | 128=>270 | 129=>271 | 302=>261 | 303=>262 | 304=>263 | 305=>264 | 306=>265 | 307=>266 | 308=>267 | 309=>268 | 310=>269 | 333=>290 | 329=>291 | 330=>292 | 334=>293 | 335=>294 | 336=>295 | 344=>309 | n=>n,fun | 31=>22 | 9=>9 | 3=>3 | 46=>251 | 0=>0 | 51=>42 | 53=>43 | 4=>4 | 183=>367 | 182=>366 | 131=>237 | 5=>5 | 218=>399 | 222=>356 | 228=>414 | 229=>374 | n=>n,fun | n=>n⟩
theorem Tryz.lays190:Go.Proofs.Lays.n190 Tryz.prog Tryz.lays190_ren:={
  mixed:=by kernel_rfl
  f125:=Tryz.func234.trans (congrArg some (by kernel_rfl))
  f128:=Tryz.func270.trans (congrArg some (by kernel_rfl))
  f129:=Tryz.func271.trans (congrArg some (by kernel_rfl))
  f190:=Tryz.func196.trans (congrArg some (by kernel_rfl))
  f258:=Tryz.func233.trans (congrArg some (by kernel_rfl))
  f302:=Tryz.func261.trans (congrArg some (by kernel_rfl))
  f303:=Tryz.func262.trans (congrArg some (by kernel_rfl))
  f304:=Tryz.func263.trans (congrArg some (by kernel_rfl))
  f305:=Tryz.func264.trans (congrArg some (by kernel_rfl))
  f306:=Tryz.func265.trans (congrArg some (by kernel_rfl))
  f307:=Tryz.func266.trans (congrArg some (by kernel_rfl))
  f308:=Tryz.func267.trans (congrArg some (by kernel_rfl))
  f309:=Tryz.func268.trans (congrArg some (by kernel_rfl))
  f310:=Tryz.func269.trans (congrArg some (by kernel_rfl))
  f329:=Tryz.func291.trans (congrArg some (by kernel_rfl))
  f330:=Tryz.func292.trans (congrArg some (by kernel_rfl))
  f333:=Tryz.func290.trans (congrArg some (by kernel_rfl))
  f334:=Tryz.func293.trans (congrArg some (by kernel_rfl))
  f335:=Tryz.func294.trans (congrArg some (by kernel_rfl))
  f336:=Tryz.func295.trans (congrArg some (by kernel_rfl))
  f344:=Tryz.func309.trans (congrArg some (by kernel_rfl))
  t0:=Tryz.underlying0
  a0:=Tryz.isAgg0
  z0:=Tryz.sizeOf0
  v0:=Tryz.zeroValue0
  t3:=Tryz.underlying3
  a3:=Tryz.isAgg3
  z3:=Tryz.sizeOf3
  v3:=Tryz.zeroValue3
  t4:=Tryz.underlying4
  a4:=Tryz.isAgg4
  z4:=Tryz.sizeOf4
  v4:=Tryz.zeroValue4
  t5:=Tryz.underlying5
  a5:=Tryz.isAgg5
  z5:=Tryz.sizeOf5
  v5:=Tryz.zeroValue5
  t9:=Tryz.underlying9
  a9:=Tryz.isAgg9
  z9:=Tryz.sizeOf9
  v9:=Tryz.zeroValue9
  t31:=Tryz.underlying22
  a31:=Tryz.isAgg22
  z31:=Tryz.sizeOf22
  v31:=Tryz.zeroValue22
  t46:=Tryz.underlying251
  a46:=Tryz.isAgg251
  z46:=Tryz.sizeOf251
  v46:=Tryz.zeroValue251
  t51:=Tryz.underlying42
  a51:=Tryz.isAgg42
  z51:=Tryz.sizeOf42
  v51:=Tryz.zeroValue42
  t53:=Tryz.underlying43
  a53:=Tryz.isAgg43
  z53:=Tryz.sizeOf43
  v53:=Tryz.zeroValue43
  t131:=Tryz.underlying237
  a131:=Tryz.isAgg237
  z131:=Tryz.sizeOf237
  v131:=Tryz.zeroValue237
  t182:=Tryz.underlying366
  a182:=Tryz.isAgg366
  z182:=Tryz.sizeOf366
  v182:=Tryz.zeroValue366
  t183:=Tryz.underlying367
  a183:=Tryz.isAgg367
  z183:=Tryz.sizeOf367
  v183:=Tryz.zeroValue367
  t218:=Tryz.underlying399
  a218:=Tryz.isAgg399
  z218:=Tryz.sizeOf399
  v218:=Tryz.zeroValue399
  t222:=Tryz.underlying356
  a222:=Tryz.isAgg356
  z222:=Tryz.sizeOf356
  v222:=Tryz.zeroValue356
  t228:=Tryz.underlying414
  a228:=Tryz.isAgg414
  z228:=Tryz.sizeOf414
  v228:=Tryz.zeroValue414
  t229:=Tryz.underlying374
  a229:=Tryz.isAgg374
  z229:=Tryz.sizeOf374
  v229:=Tryz.zeroValue374 }
open Go.Sort Go.RowKit in
theorem Tryz.slices_Sort_string (blk off cap:Nat) (ss:List (List UInt8)) (w:World) (hH:Holds encStr w blk off ss.toArray) (hblk:blk < w.heap.size) (hsz:ss.length < 4611686018427387904) :
    Calls Tryz.prog 196 #[.slice (some ⟨blk,off,none⟩) ss.length cap] w fun e w' =>
      e=.returned (.tuple #[])∧∃ n os,w'=grow (putRow encStr (Sort.ahead w n) blk off (ss.mergeSort fun x y=>decide (x≤y)).toArray) os:=Any.slices_Sort_string Tryz.lays190 blk off cap ss w hH hblk hsz
def Tryz.lays105_ren:Go.Shelf.Ren:=⟨fun | 105=>216 | 212=>253 | 99=>254 | 165=>212 | 166=>43 | 170=>255 | 169=>45 | 263=>284 | 264=>285 | 206=>286 | 240=>91 | 241=>251 | 276=>153 | 277=>283 | n=>n,fun | 9=>9 | 3=>3 | 4=>4 | 20=>20 | 0=>0 | 46=>251 | 109=>360 | 5=>5 | 72=>109 | 76=>112 | 51=>42 | 146=>382 | 53=>43 | 148=>395 | 70=>107 | 37=>76 | 75=>93 | 127=>178 | 164=>227 | 80=>85 | n=>n,fun | n=>n⟩
theorem Tryz.lays105:Go.Proofs.Lays.n105 Tryz.prog Tryz.lays105_ren:={
  mixed:=by kernel_rfl
  f99:=Tryz.func254.trans (congrArg some (by kernel_rfl))
  f105:=Tryz.func216.trans (congrArg some (by kernel_rfl))
  f165:=Tryz.func212.trans (congrArg some (by kernel_rfl))
  f166:=Tryz.func43.trans (congrArg some (by kernel_rfl))
  f169:=Tryz.func45.trans (congrArg some (by kernel_rfl))
  f170:=Tryz.func255.trans (congrArg some (by kernel_rfl))
  f206:=Tryz.func286.trans (congrArg some (by kernel_rfl))
  f212:=Tryz.func253.trans (congrArg some (by kernel_rfl))
  f240:=Tryz.func91.trans (congrArg some (by kernel_rfl))
  f241:=Tryz.func251.trans (congrArg some (by kernel_rfl))
  f263:=Tryz.func284.trans (congrArg some (by kernel_rfl))
  f264:=Tryz.func285.trans (congrArg some (by kernel_rfl))
  f276:=Tryz.func153.trans (congrArg some (by kernel_rfl))
  f277:=Tryz.func283.trans (congrArg some (by kernel_rfl))
  t0:=Tryz.underlying0
  a0:=Tryz.isAgg0
  z0:=Tryz.sizeOf0
  v0:=Tryz.zeroValue0
  t3:=Tryz.underlying3
  a3:=Tryz.isAgg3
  z3:=Tryz.sizeOf3
  v3:=Tryz.zeroValue3
  t4:=Tryz.underlying4
  a4:=Tryz.isAgg4
  z4:=Tryz.sizeOf4
  v4:=Tryz.zeroValue4
  t5:=Tryz.underlying5
  a5:=Tryz.isAgg5
  z5:=Tryz.sizeOf5
  v5:=Tryz.zeroValue5
  t9:=Tryz.underlying9
  a9:=Tryz.isAgg9
  z9:=Tryz.sizeOf9
  v9:=Tryz.zeroValue9
  t20:=Tryz.underlying20
  a20:=Tryz.isAgg20
  z20:=Tryz.sizeOf20
  v20:=Tryz.zeroValue20
  t37:=Tryz.underlying76
  a37:=Tryz.isAgg76
  z37:=Tryz.sizeOf76
  v37:=Tryz.zeroValue76
  t46:=Tryz.underlying251
  a46:=Tryz.isAgg251
  z46:=Tryz.sizeOf251
  v46:=Tryz.zeroValue251
  t51:=Tryz.underlying42
  a51:=Tryz.isAgg42
  z51:=Tryz.sizeOf42
  v51:=Tryz.zeroValue42
  t53:=Tryz.underlying43
  a53:=Tryz.isAgg43
  z53:=Tryz.sizeOf43
  v53:=Tryz.zeroValue43
  t70:=Tryz.underlying107
  a70:=Tryz.isAgg107
  z70:=Tryz.sizeOf107
  v70:=Tryz.zeroValue107
  t72:=Tryz.underlying109
  a72:=Tryz.isAgg109
  z72:=Tryz.sizeOf109
  v72:=Tryz.zeroValue109
  t75:=Tryz.underlying93
  a75:=Tryz.isAgg93
  z75:=Tryz.sizeOf93
  v75:=Tryz.zeroValue93
  t76:=Tryz.underlying112
  a76:=Tryz.isAgg112
  z76:=Tryz.sizeOf112
  v76:=Tryz.zeroValue112
  t109:=Tryz.underlying360
  a109:=Tryz.isAgg360
  z109:=Tryz.sizeOf360
  v109:=Tryz.zeroValue360
  t127:=Tryz.underlying178
  a127:=Tryz.isAgg178
  z127:=Tryz.sizeOf178
  v127:=Tryz.zeroValue178
  t146:=Tryz.underlying382
  a146:=Tryz.isAgg382
  z146:=Tryz.sizeOf382
  v146:=Tryz.zeroValue382
  t148:=Tryz.underlying395
  a148:=Tryz.isAgg395
  z148:=Tryz.sizeOf395
  v148:=Tryz.zeroValue395
  t164:=Tryz.underlying227
  a164:=Tryz.isAgg227
  z164:=Tryz.sizeOf227
  v164:=Tryz.zeroValue227 }
theorem Tryz.Builder_Extra_105:Builder.Extra Tryz.prog Tryz.lays105_ren:={
  sizeBuilder:=by kernel_rfl
  liesBuilder:=by kernel_rfl
  t5:=Tryz.underlying5
  a5:=Tryz.isAgg5
  z5:=Tryz.sizeOf5
  v5:=Tryz.zeroValue5
  infoByte:=by kernel_rfl
  cellsByte:=by kernel_rfl
  sizeByte:=by kernel_rfl
  neB5:=by decide }
open Go.RowKit Go.Lib in
theorem Tryz.strings_Repeat (s:ByteArray) (c:Nat) (w:World) (hc:c≤9223372036854775807) (hlen:s.size*c≤140737488355328) :
    Calls Tryz.prog 216 #[.string s,.int .i64 c] w fun e w'=>e=.returned (.string ⟨(Lib.repeatL s.data.toList c).toArray⟩)∧Below w.heap.size w w':=Any.strings_Repeat Tryz.lays105 Tryz.Builder_Extra_105 s c w hc hlen
open Go.RowKit Go.Sort in
theorem Tryz.slices_Sort_string_none (p:Option Addr) (cap:Nat) (w:World) :
    Calls Tryz.prog 196 #[.slice p 0 cap] w fun e w'=>e=.returned (.tuple #[])∧w'=w:=Any.slices_Sort_string_none Tryz.lays190 p cap w
end Go.Proofs


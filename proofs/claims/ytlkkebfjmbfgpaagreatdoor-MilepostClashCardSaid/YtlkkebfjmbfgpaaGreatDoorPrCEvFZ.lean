import Derived.Test.YtlkkebfjmbfgpaaGreatDoorPrCEvFB
import Derived.Test.YtlkkebfjmbfgpaaGreatDoorPrCEvFC
import Derived.Test.YtlkkebfjmbfgpaaGreatDoorPrCEvFD
namespace Go.Proofs.YtlkkebfjmbfgpaaGreatDoor.Ev
open Go Go.RowKit
set_option maxRecDepth 100000
theorem f4_ok:FnOk Tryz.prog 4 f4_info Tryz.f4 where
  at_:=Tryz.func4
  body:=by kernel_rfl
  results:=by kernel_rfl
  ntmps:=by kernel_rfl
  params:=Nat.le_of_ble_eq_true (by kernel_rfl)
  name:=by kernel_rfl
theorem f55_ok:FnOk Tryz.prog 55 f55_info Tryz.f55 where
  at_:=Tryz.func55
  body:=by kernel_rfl
  results:=by kernel_rfl
  ntmps:=by kernel_rfl
  params:=Nat.le_of_ble_eq_true (by kernel_rfl)
  name:=by kernel_rfl
theorem f164_ok:FnOk Tryz.prog 164 f164_info Tryz.f164 where
  at_:=Tryz.func164
  body:=by kernel_rfl
  results:=by kernel_rfl
  ntmps:=by kernel_rfl
  params:=Nat.le_of_ble_eq_true (by kernel_rfl)
  name:=by kernel_rfl
theorem f216_ok:FnOk Tryz.prog 216 f216_info Tryz.f216 where
  at_:=Tryz.func216
  body:=by kernel_rfl
  results:=by kernel_rfl
  ntmps:=by kernel_rfl
  params:=Nat.le_of_ble_eq_true (by kernel_rfl)
  name:=by kernel_rfl
theorem f312_ok:FnOk Tryz.prog 312 f312_info Tryz.f312 where
  at_:=Tryz.func312
  body:=by kernel_rfl
  results:=by kernel_rfl
  ntmps:=by kernel_rfl
  params:=Nat.le_of_ble_eq_true (by kernel_rfl)
  name:=by kernel_rfl
theorem f100_ok:FnOk Tryz.prog 100 f100_info Tryz.f100 where
  at_:=Tryz.func100
  body:=by kernel_rfl
  results:=by kernel_rfl
  ntmps:=by kernel_rfl
  params:=Nat.le_of_ble_eq_true (by kernel_rfl)
  name:=by kernel_rfl
theorem f103_ok:FnOk Tryz.prog 103 f103_info Tryz.f103 where
  at_:=Tryz.func103
  body:=by kernel_rfl
  results:=by kernel_rfl
  ntmps:=by kernel_rfl
  params:=Nat.le_of_ble_eq_true (by kernel_rfl)
  name:=by kernel_rfl
theorem f96_ok:FnOk Tryz.prog 96 f96_info Tryz.f96 where
  at_:=Tryz.func96
  body:=by kernel_rfl
  results:=by kernel_rfl
  ntmps:=by kernel_rfl
  params:=Nat.le_of_ble_eq_true (by kernel_rfl)
  name:=by kernel_rfl
theorem f99_ok:FnOk Tryz.prog 99 f99_info Tryz.f99 where
  at_:=Tryz.func99
  body:=by kernel_rfl
  results:=by kernel_rfl
  ntmps:=by kernel_rfl
  params:=Nat.le_of_ble_eq_true (by kernel_rfl)
  name:=by kernel_rfl
theorem f97_ok:FnOk Tryz.prog 97 f97_info Tryz.f97 where
  at_:=Tryz.func97
  body:=by kernel_rfl
  results:=by kernel_rfl
  ntmps:=by kernel_rfl
  params:=Nat.le_of_ble_eq_true (by kernel_rfl)
  name:=by kernel_rfl
theorem f211_ok:FnOk Tryz.prog 211 f211_info Tryz.f211 where
  at_:=Tryz.func211
  body:=by kernel_rfl
  results:=by kernel_rfl
  ntmps:=by kernel_rfl
  params:=Nat.le_of_ble_eq_true (by kernel_rfl)
  name:=by kernel_rfl
theorem f162_ok:FnOk Tryz.prog 162 f162_info Tryz.f162 where
  at_:=Tryz.func162
  body:=by kernel_rfl
  results:=by kernel_rfl
  ntmps:=by kernel_rfl
  params:=Nat.le_of_ble_eq_true (by kernel_rfl)
  name:=by kernel_rfl
theorem f161_ok:FnOk Tryz.prog 161 f161_info Tryz.f161 where
  at_:=Tryz.func161
  body:=by kernel_rfl
  results:=by kernel_rfl
  ntmps:=by kernel_rfl
  params:=Nat.le_of_ble_eq_true (by kernel_rfl)
  name:=by kernel_rfl
theorem f163_ok:FnOk Tryz.prog 163 f163_info Tryz.f163 where
  at_:=Tryz.func163
  body:=by kernel_rfl
  results:=by kernel_rfl
  ntmps:=by kernel_rfl
  params:=Nat.le_of_ble_eq_true (by kernel_rfl)
  name:=by kernel_rfl
theorem f98_ok:FnOk Tryz.prog 98 f98_info Tryz.f98 where
  at_:=Tryz.func98
  body:=by kernel_rfl
  results:=by kernel_rfl
  ntmps:=by kernel_rfl
  params:=Nat.le_of_ble_eq_true (by kernel_rfl)
  name:=by kernel_rfl
theorem f46_ok:FnOk Tryz.prog 46 f46_info Tryz.f46 where
  at_:=Tryz.func46
  body:=by kernel_rfl
  results:=by kernel_rfl
  ntmps:=by kernel_rfl
  params:=Nat.le_of_ble_eq_true (by kernel_rfl)
  name:=by kernel_rfl
theorem f50_ok:FnOk Tryz.prog 50 f50_info Tryz.f50 where
  at_:=Tryz.func50
  body:=by kernel_rfl
  results:=by kernel_rfl
  ntmps:=by kernel_rfl
  params:=Nat.le_of_ble_eq_true (by kernel_rfl)
  name:=by kernel_rfl
theorem f21_ok:FnOk Tryz.prog 21 f21_info Tryz.f21 where
  at_:=Tryz.func21
  body:=by kernel_rfl
  results:=by kernel_rfl
  ntmps:=by kernel_rfl
  params:=Nat.le_of_ble_eq_true (by kernel_rfl)
  name:=by kernel_rfl
theorem f48_ok:FnOk Tryz.prog 48 f48_info Tryz.f48 where
  at_:=Tryz.func48
  body:=by kernel_rfl
  results:=by kernel_rfl
  ntmps:=by kernel_rfl
  params:=Nat.le_of_ble_eq_true (by kernel_rfl)
  name:=by kernel_rfl
theorem f101_ok:FnOk Tryz.prog 101 f101_info Tryz.f101 where
  at_:=Tryz.func101
  body:=by kernel_rfl
  results:=by kernel_rfl
  ntmps:=by kernel_rfl
  params:=Nat.le_of_ble_eq_true (by kernel_rfl)
  name:=by kernel_rfl
theorem f102_ok:FnOk Tryz.prog 102 f102_info Tryz.f102 where
  at_:=Tryz.func102
  body:=by kernel_rfl
  results:=by kernel_rfl
  ntmps:=by kernel_rfl
  params:=Nat.le_of_ble_eq_true (by kernel_rfl)
  name:=by kernel_rfl
theorem f49_ok:FnOk Tryz.prog 49 f49_info Tryz.f49 where
  at_:=Tryz.func49
  body:=by kernel_rfl
  results:=by kernel_rfl
  ntmps:=by kernel_rfl
  params:=Nat.le_of_ble_eq_true (by kernel_rfl)
  name:=by kernel_rfl
theorem f20_ok:FnOk Tryz.prog 20 f20_info Tryz.f20 where
  at_:=Tryz.func20
  body:=by kernel_rfl
  results:=by kernel_rfl
  ntmps:=by kernel_rfl
  params:=Nat.le_of_ble_eq_true (by kernel_rfl)
  name:=by kernel_rfl
theorem f47_ok:FnOk Tryz.prog 47 f47_info Tryz.f47 where
  at_:=Tryz.func47
  body:=by kernel_rfl
  results:=by kernel_rfl
  ntmps:=by kernel_rfl
  params:=Nat.le_of_ble_eq_true (by kernel_rfl)
  name:=by kernel_rfl
theorem f19_ok:FnOk Tryz.prog 19 f19_info Tryz.f19 where
  at_:=Tryz.func19
  body:=by kernel_rfl
  results:=by kernel_rfl
  ntmps:=by kernel_rfl
  params:=Nat.le_of_ble_eq_true (by kernel_rfl)
  name:=by kernel_rfl
theorem f5_ok:FnOk Tryz.prog 5 f5_info Tryz.f5 where
  at_:=Tryz.func5
  body:=by kernel_rfl
  results:=by kernel_rfl
  ntmps:=by kernel_rfl
  params:=Nat.le_of_ble_eq_true (by kernel_rfl)
  name:=by kernel_rfl
theorem f22_ok:FnOk Tryz.prog 22 f22_info Tryz.f22 where
  at_:=Tryz.func22
  body:=by kernel_rfl
  results:=by kernel_rfl
  ntmps:=by kernel_rfl
  params:=Nat.le_of_ble_eq_true (by kernel_rfl)
  name:=by kernel_rfl
theorem f6_ok:FnOk Tryz.prog 6 f6_info Tryz.f6 where
  at_:=Tryz.func6
  body:=by kernel_rfl
  results:=by kernel_rfl
  ntmps:=by kernel_rfl
  params:=Nat.le_of_ble_eq_true (by kernel_rfl)
  name:=by kernel_rfl
theorem f109_ok:FnOk Tryz.prog 109 f109_info Tryz.f109 where
  at_:=Tryz.func109
  body:=by kernel_rfl
  results:=by kernel_rfl
  ntmps:=by kernel_rfl
  params:=Nat.le_of_ble_eq_true (by kernel_rfl)
  name:=by kernel_rfl
theorem f57_ok:FnOk Tryz.prog 57 f57_info Tryz.f57 where
  at_:=Tryz.func57
  body:=by kernel_rfl
  results:=by kernel_rfl
  ntmps:=by kernel_rfl
  params:=Nat.le_of_ble_eq_true (by kernel_rfl)
  name:=by kernel_rfl
theorem f106_ok:FnOk Tryz.prog 106 f106_info Tryz.f106 where
  at_:=Tryz.func106
  body:=by kernel_rfl
  results:=by kernel_rfl
  ntmps:=by kernel_rfl
  params:=Nat.le_of_ble_eq_true (by kernel_rfl)
  name:=by kernel_rfl
theorem f52_ok:FnOk Tryz.prog 52 f52_info Tryz.f52 where
  at_:=Tryz.func52
  body:=by kernel_rfl
  results:=by kernel_rfl
  ntmps:=by kernel_rfl
  params:=Nat.le_of_ble_eq_true (by kernel_rfl)
  name:=by kernel_rfl
theorem f110_ok:FnOk Tryz.prog 110 f110_info Tryz.f110 where
  at_:=Tryz.func110
  body:=by kernel_rfl
  results:=by kernel_rfl
  ntmps:=by kernel_rfl
  params:=Nat.le_of_ble_eq_true (by kernel_rfl)
  name:=by kernel_rfl
theorem f166_ok:FnOk Tryz.prog 166 f166_info Tryz.f166 where
  at_:=Tryz.func166
  body:=by kernel_rfl
  results:=by kernel_rfl
  ntmps:=by kernel_rfl
  params:=Nat.le_of_ble_eq_true (by kernel_rfl)
  name:=by kernel_rfl
theorem f225_ok:FnOk Tryz.prog 225 f225_info Tryz.f225 where
  at_:=Tryz.func225
  body:=by kernel_rfl
  results:=by kernel_rfl
  ntmps:=by kernel_rfl
  params:=Nat.le_of_ble_eq_true (by kernel_rfl)
  name:=by kernel_rfl
theorem f252_ok:FnOk Tryz.prog 252 f252_info Tryz.f252 where
  at_:=Tryz.func252
  body:=by kernel_rfl
  results:=by kernel_rfl
  ntmps:=by kernel_rfl
  params:=Nat.le_of_ble_eq_true (by kernel_rfl)
  name:=by kernel_rfl
theorem f215_ok:FnOk Tryz.prog 215 f215_info Tryz.f215 where
  at_:=Tryz.func215
  body:=by kernel_rfl
  results:=by kernel_rfl
  ntmps:=by kernel_rfl
  params:=Nat.le_of_ble_eq_true (by kernel_rfl)
  name:=by kernel_rfl
theorem f213_ok:FnOk Tryz.prog 213 f213_info Tryz.f213 where
  at_:=Tryz.func213
  body:=by kernel_rfl
  results:=by kernel_rfl
  ntmps:=by kernel_rfl
  params:=Nat.le_of_ble_eq_true (by kernel_rfl)
  name:=by kernel_rfl
theorem f214_ok:FnOk Tryz.prog 214 f214_info Tryz.f214 where
  at_:=Tryz.func214
  body:=by kernel_rfl
  results:=by kernel_rfl
  ntmps:=by kernel_rfl
  params:=Nat.le_of_ble_eq_true (by kernel_rfl)
  name:=by kernel_rfl
theorem f167_ok:FnOk Tryz.prog 167 f167_info Tryz.f167 where
  at_:=Tryz.func167
  body:=by kernel_rfl
  results:=by kernel_rfl
  ntmps:=by kernel_rfl
  params:=Nat.le_of_ble_eq_true (by kernel_rfl)
  name:=by kernel_rfl
theorem f111_ok:FnOk Tryz.prog 111 f111_info Tryz.f111 where
  at_:=Tryz.func111
  body:=by kernel_rfl
  results:=by kernel_rfl
  ntmps:=by kernel_rfl
  params:=Nat.le_of_ble_eq_true (by kernel_rfl)
  name:=by kernel_rfl
theorem f113_ok:FnOk Tryz.prog 113 f113_info Tryz.f113 where
  at_:=Tryz.func113
  body:=by kernel_rfl
  results:=by kernel_rfl
  ntmps:=by kernel_rfl
  params:=Nat.le_of_ble_eq_true (by kernel_rfl)
  name:=by kernel_rfl
theorem f62_ok:FnOk Tryz.prog 62 f62_info Tryz.f62 where
  at_:=Tryz.func62
  body:=by kernel_rfl
  results:=by kernel_rfl
  ntmps:=by kernel_rfl
  params:=Nat.le_of_ble_eq_true (by kernel_rfl)
  name:=by kernel_rfl
theorem f168_ok:FnOk Tryz.prog 168 f168_info Tryz.f168 where
  at_:=Tryz.func168
  body:=by kernel_rfl
  results:=by kernel_rfl
  ntmps:=by kernel_rfl
  params:=Nat.le_of_ble_eq_true (by kernel_rfl)
  name:=by kernel_rfl
theorem f61_ok:FnOk Tryz.prog 61 f61_info Tryz.f61 where
  at_:=Tryz.func61
  body:=by kernel_rfl
  results:=by kernel_rfl
  ntmps:=by kernel_rfl
  params:=Nat.le_of_ble_eq_true (by kernel_rfl)
  name:=by kernel_rfl
theorem f112_ok:FnOk Tryz.prog 112 f112_info Tryz.f112 where
  at_:=Tryz.func112
  body:=by kernel_rfl
  results:=by kernel_rfl
  ntmps:=by kernel_rfl
  params:=Nat.le_of_ble_eq_true (by kernel_rfl)
  name:=by kernel_rfl
theorem f59_ok:FnOk Tryz.prog 59 f59_info Tryz.f59 where
  at_:=Tryz.func59
  body:=by kernel_rfl
  results:=by kernel_rfl
  ntmps:=by kernel_rfl
  params:=Nat.le_of_ble_eq_true (by kernel_rfl)
  name:=by kernel_rfl
theorem f104_ok:FnOk Tryz.prog 104 f104_info Tryz.f104 where
  at_:=Tryz.func104
  body:=by kernel_rfl
  results:=by kernel_rfl
  ntmps:=by kernel_rfl
  params:=Nat.le_of_ble_eq_true (by kernel_rfl)
  name:=by kernel_rfl
theorem f54_ok:FnOk Tryz.prog 54 f54_info Tryz.f54 where
  at_:=Tryz.func54
  body:=by kernel_rfl
  results:=by kernel_rfl
  ntmps:=by kernel_rfl
  params:=Nat.le_of_ble_eq_true (by kernel_rfl)
  name:=by kernel_rfl
theorem f105_ok:FnOk Tryz.prog 105 f105_info Tryz.f105 where
  at_:=Tryz.func105
  body:=by kernel_rfl
  results:=by kernel_rfl
  ntmps:=by kernel_rfl
  params:=Nat.le_of_ble_eq_true (by kernel_rfl)
  name:=by kernel_rfl
theorem f51_ok:FnOk Tryz.prog 51 f51_info Tryz.f51 where
  at_:=Tryz.func51
  body:=by kernel_rfl
  results:=by kernel_rfl
  ntmps:=by kernel_rfl
  params:=Nat.le_of_ble_eq_true (by kernel_rfl)
  name:=by kernel_rfl
theorem f56_ok:FnOk Tryz.prog 56 f56_info Tryz.f56 where
  at_:=Tryz.func56
  body:=by kernel_rfl
  results:=by kernel_rfl
  ntmps:=by kernel_rfl
  params:=Nat.le_of_ble_eq_true (by kernel_rfl)
  name:=by kernel_rfl
theorem f58_ok:FnOk Tryz.prog 58 f58_info Tryz.f58 where
  at_:=Tryz.func58
  body:=by kernel_rfl
  results:=by kernel_rfl
  ntmps:=by kernel_rfl
  params:=Nat.le_of_ble_eq_true (by kernel_rfl)
  name:=by kernel_rfl
theorem f24_ok:FnOk Tryz.prog 24 f24_info Tryz.f24 where
  at_:=Tryz.func24
  body:=by kernel_rfl
  results:=by kernel_rfl
  ntmps:=by kernel_rfl
  params:=Nat.le_of_ble_eq_true (by kernel_rfl)
  name:=by kernel_rfl
theorem f8_ok:FnOk Tryz.prog 8 f8_info Tryz.f8 where
  at_:=Tryz.func8
  body:=by kernel_rfl
  results:=by kernel_rfl
  ntmps:=by kernel_rfl
  params:=Nat.le_of_ble_eq_true (by kernel_rfl)
  name:=by kernel_rfl
theorem f53_ok:FnOk Tryz.prog 53 f53_info Tryz.f53 where
  at_:=Tryz.func53
  body:=by kernel_rfl
  results:=by kernel_rfl
  ntmps:=by kernel_rfl
  params:=Nat.le_of_ble_eq_true (by kernel_rfl)
  name:=by kernel_rfl
theorem f23_ok:FnOk Tryz.prog 23 f23_info Tryz.f23 where
  at_:=Tryz.func23
  body:=by kernel_rfl
  results:=by kernel_rfl
  ntmps:=by kernel_rfl
  params:=Nat.le_of_ble_eq_true (by kernel_rfl)
  name:=by kernel_rfl
theorem f7_ok:FnOk Tryz.prog 7 f7_info Tryz.f7 where
  at_:=Tryz.func7
  body:=by kernel_rfl
  results:=by kernel_rfl
  ntmps:=by kernel_rfl
  params:=Nat.le_of_ble_eq_true (by kernel_rfl)
  name:=by kernel_rfl
theorem f25_ok:FnOk Tryz.prog 25 f25_info Tryz.f25 where
  at_:=Tryz.func25
  body:=by kernel_rfl
  results:=by kernel_rfl
  ntmps:=by kernel_rfl
  params:=Nat.le_of_ble_eq_true (by kernel_rfl)
  name:=by kernel_rfl
theorem f9_ok:FnOk Tryz.prog 9 f9_info Tryz.f9 where
  at_:=Tryz.func9
  body:=by kernel_rfl
  results:=by kernel_rfl
  ntmps:=by kernel_rfl
  params:=Nat.le_of_ble_eq_true (by kernel_rfl)
  name:=by kernel_rfl
theorem f3_ok:FnOk Tryz.prog 3 f3_info Tryz.f3 where
  at_:=Tryz.func3
  body:=by kernel_rfl
  results:=by kernel_rfl
  ntmps:=by kernel_rfl
  params:=Nat.le_of_ble_eq_true (by kernel_rfl)
  name:=by kernel_rfl
theorem f165_ok:FnOk Tryz.prog 165 f165_info Tryz.f165 where
  at_:=Tryz.func165
  body:=by kernel_rfl
  results:=by kernel_rfl
  ntmps:=by kernel_rfl
  params:=Nat.le_of_ble_eq_true (by kernel_rfl)
  name:=by kernel_rfl
theorem f311_ok:FnOk Tryz.prog 311 f311_info Tryz.f311 where
  at_:=Tryz.func311
  body:=by kernel_rfl
  results:=by kernel_rfl
  ntmps:=by kernel_rfl
  params:=Nat.le_of_ble_eq_true (by kernel_rfl)
  name:=by kernel_rfl
theorem f323_ok:FnOk Tryz.prog 323 f323_info Tryz.f323 where
  at_:=Tryz.func323
  body:=by kernel_rfl
  results:=by kernel_rfl
  ntmps:=by kernel_rfl
  params:=Nat.le_of_ble_eq_true (by kernel_rfl)
  name:=by kernel_rfl
theorem f319_ok:FnOk Tryz.prog 319 f319_info Tryz.f319 where
  at_:=Tryz.func319
  body:=by kernel_rfl
  results:=by kernel_rfl
  ntmps:=by kernel_rfl
  params:=Nat.le_of_ble_eq_true (by kernel_rfl)
  name:=by kernel_rfl
theorem f310_ok:FnOk Tryz.prog 310 f310_info Tryz.f310 where
  at_:=Tryz.func310
  body:=by kernel_rfl
  results:=by kernel_rfl
  ntmps:=by kernel_rfl
  params:=Nat.le_of_ble_eq_true (by kernel_rfl)
  name:=by kernel_rfl
theorem f297_ok:FnOk Tryz.prog 297 f297_info Tryz.f297 where
  at_:=Tryz.func297
  body:=by kernel_rfl
  results:=by kernel_rfl
  ntmps:=by kernel_rfl
  params:=Nat.le_of_ble_eq_true (by kernel_rfl)
  name:=by kernel_rfl
theorem f298_ok:FnOk Tryz.prog 298 f298_info Tryz.f298 where
  at_:=Tryz.func298
  body:=by kernel_rfl
  results:=by kernel_rfl
  ntmps:=by kernel_rfl
  params:=Nat.le_of_ble_eq_true (by kernel_rfl)
  name:=by kernel_rfl
theorem f236_ok:FnOk Tryz.prog 236 f236_info Tryz.f236 where
  at_:=Tryz.func236
  body:=by kernel_rfl
  results:=by kernel_rfl
  ntmps:=by kernel_rfl
  params:=Nat.le_of_ble_eq_true (by kernel_rfl)
  name:=by kernel_rfl
theorem f273_ok:FnOk Tryz.prog 273 f273_info Tryz.f273 where
  at_:=Tryz.func273
  body:=by kernel_rfl
  results:=by kernel_rfl
  ntmps:=by kernel_rfl
  params:=Nat.le_of_ble_eq_true (by kernel_rfl)
  name:=by kernel_rfl
theorem types_ok:TyAll Tryz.prog G:=tyAll_of (by kernel_rfl) (by kernel_rfl) (by kernel_rfl) (by kernel_rfl)
theorem fns_ok:FnsAll Tryz.prog G.fns:=⟨⟨_,f4_ok⟩,⟨⟨_,f55_ok⟩,⟨⟨_,f164_ok⟩,⟨⟨_,f216_ok⟩,⟨⟨_,f312_ok⟩,⟨⟨_,f100_ok⟩,⟨⟨_,f103_ok⟩,⟨⟨_,f96_ok⟩,⟨⟨_,f99_ok⟩,⟨⟨_,f97_ok⟩,⟨⟨_,f211_ok⟩,⟨⟨_,f162_ok⟩,⟨⟨_,f161_ok⟩,⟨⟨_,f163_ok⟩,⟨⟨_,f98_ok⟩,⟨⟨_,f46_ok⟩,⟨⟨_,f50_ok⟩,⟨⟨_,f21_ok⟩,⟨⟨_,f48_ok⟩,⟨⟨_,f101_ok⟩,⟨⟨_,f102_ok⟩,⟨⟨_,f49_ok⟩,⟨⟨_,f20_ok⟩,⟨⟨_,f47_ok⟩,⟨⟨_,f19_ok⟩,⟨⟨_,f5_ok⟩,⟨⟨_,f22_ok⟩,⟨⟨_,f6_ok⟩,⟨⟨_,f109_ok⟩,⟨⟨_,f57_ok⟩,⟨⟨_,f106_ok⟩,⟨⟨_,f52_ok⟩,⟨⟨_,f110_ok⟩,⟨⟨_,f166_ok⟩,⟨⟨_,f225_ok⟩,⟨⟨_,f252_ok⟩,⟨⟨_,f215_ok⟩,⟨⟨_,f213_ok⟩,⟨⟨_,f214_ok⟩,⟨⟨_,f167_ok⟩,⟨⟨_,f111_ok⟩,⟨⟨_,f113_ok⟩,⟨⟨_,f62_ok⟩,⟨⟨_,f168_ok⟩,⟨⟨_,f61_ok⟩,⟨⟨_,f112_ok⟩,⟨⟨_,f59_ok⟩,⟨⟨_,f104_ok⟩,⟨⟨_,f54_ok⟩,⟨⟨_,f105_ok⟩,⟨⟨_,f51_ok⟩,⟨⟨_,f56_ok⟩,⟨⟨_,f58_ok⟩,⟨⟨_,f24_ok⟩,⟨⟨_,f8_ok⟩,⟨⟨_,f53_ok⟩,⟨⟨_,f23_ok⟩,⟨⟨_,f7_ok⟩,⟨⟨_,f25_ok⟩,⟨⟨_,f9_ok⟩,⟨⟨_,f3_ok⟩,⟨⟨_,f165_ok⟩,⟨⟨_,f311_ok⟩,⟨⟨_,f323_ok⟩,⟨⟨_,f319_ok⟩,⟨⟨_,f310_ok⟩,⟨⟨_,f297_ok⟩,⟨⟨_,f298_ok⟩,⟨⟨_,f236_ok⟩,⟨⟨_,f273_ok⟩,trivial⟩⟩⟩⟩⟩⟩⟩⟩⟩⟩⟩⟩⟩⟩⟩⟩⟩⟩⟩⟩⟩⟩⟩⟩⟩⟩⟩⟩⟩⟩⟩⟩⟩⟩⟩⟩⟩⟩⟩⟩⟩⟩⟩⟩⟩⟩⟩⟩⟩⟩⟩⟩⟩⟩⟩⟩⟩⟩⟩⟩⟩⟩⟩⟩⟩⟩⟩⟩⟩⟩
end Go.Proofs.YtlkkebfjmbfgpaaGreatDoor.Ev


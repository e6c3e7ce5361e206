import Derived.Test.YteiahdlklppghaaGreatPrWEvFB
import Derived.Test.YteiahdlklppghaaGreatPrWEvFC
import Derived.Test.YteiahdlklppghaaGreatPrWEvFD
import Derived.Test.YteiahdlklppghaaGreatPrWEvFE
import Derived.Test.YteiahdlklppghaaGreatPrWEvFF
import Derived.Test.YteiahdlklppghaaGreatPrWEvFG
namespace Go.Proofs.YteiahdlklppghaaGreat.Ev
open Go Go.RowKit
set_option maxRecDepth 100000
theorem f172_ok:FnOk Tryz.prog 172 f172_info Tryz.f172 where
  at_:=Tryz.func172
  body:=by kernel_rfl
  results:=by kernel_rfl
  ntmps:=by kernel_rfl
  params:=Nat.le_of_ble_eq_true (by kernel_rfl)
  name:=by kernel_rfl
theorem f180_ok:FnOk Tryz.prog 180 f180_info Tryz.f180 where
  at_:=Tryz.func180
  body:=by kernel_rfl
  results:=by kernel_rfl
  ntmps:=by kernel_rfl
  params:=Nat.le_of_ble_eq_true (by kernel_rfl)
  name:=by kernel_rfl
theorem f51_ok:FnOk Tryz.prog 51 f51_info Tryz.f51 where
  at_:=Tryz.func51
  body:=by kernel_rfl
  results:=by kernel_rfl
  ntmps:=by kernel_rfl
  params:=Nat.le_of_ble_eq_true (by kernel_rfl)
  name:=by kernel_rfl
theorem f17_ok:FnOk Tryz.prog 17 f17_info Tryz.f17 where
  at_:=Tryz.func17
  body:=by kernel_rfl
  results:=by kernel_rfl
  ntmps:=by kernel_rfl
  params:=Nat.le_of_ble_eq_true (by kernel_rfl)
  name:=by kernel_rfl
theorem f159_ok:FnOk Tryz.prog 159 f159_info Tryz.f159 where
  at_:=Tryz.func159
  body:=by kernel_rfl
  results:=by kernel_rfl
  ntmps:=by kernel_rfl
  params:=Nat.le_of_ble_eq_true (by kernel_rfl)
  name:=by kernel_rfl
theorem f22_ok:FnOk Tryz.prog 22 f22_info Tryz.f22 where
  at_:=Tryz.func22
  body:=by kernel_rfl
  results:=by kernel_rfl
  ntmps:=by kernel_rfl
  params:=Nat.le_of_ble_eq_true (by kernel_rfl)
  name:=by kernel_rfl
theorem f6_ok:FnOk Tryz.prog 6 f6_info Tryz.f6 where
  at_:=Tryz.func6
  body:=by kernel_rfl
  results:=by kernel_rfl
  ntmps:=by kernel_rfl
  params:=Nat.le_of_ble_eq_true (by kernel_rfl)
  name:=by kernel_rfl
theorem f158_ok:FnOk Tryz.prog 158 f158_info Tryz.f158 where
  at_:=Tryz.func158
  body:=by kernel_rfl
  results:=by kernel_rfl
  ntmps:=by kernel_rfl
  params:=Nat.le_of_ble_eq_true (by kernel_rfl)
  name:=by kernel_rfl
theorem f137_ok:FnOk Tryz.prog 137 f137_info Tryz.f137 where
  at_:=Tryz.func137
  body:=by kernel_rfl
  results:=by kernel_rfl
  ntmps:=by kernel_rfl
  params:=Nat.le_of_ble_eq_true (by kernel_rfl)
  name:=by kernel_rfl
theorem f138_ok:FnOk Tryz.prog 138 f138_info Tryz.f138 where
  at_:=Tryz.func138
  body:=by kernel_rfl
  results:=by kernel_rfl
  ntmps:=by kernel_rfl
  params:=Nat.le_of_ble_eq_true (by kernel_rfl)
  name:=by kernel_rfl
theorem f115_ok:FnOk Tryz.prog 115 f115_info Tryz.f115 where
  at_:=Tryz.func115
  body:=by kernel_rfl
  results:=by kernel_rfl
  ntmps:=by kernel_rfl
  params:=Nat.le_of_ble_eq_true (by kernel_rfl)
  name:=by kernel_rfl
theorem f157_ok:FnOk Tryz.prog 157 f157_info Tryz.f157 where
  at_:=Tryz.func157
  body:=by kernel_rfl
  results:=by kernel_rfl
  ntmps:=by kernel_rfl
  params:=Nat.le_of_ble_eq_true (by kernel_rfl)
  name:=by kernel_rfl
theorem f136_ok:FnOk Tryz.prog 136 f136_info Tryz.f136 where
  at_:=Tryz.func136
  body:=by kernel_rfl
  results:=by kernel_rfl
  ntmps:=by kernel_rfl
  params:=Nat.le_of_ble_eq_true (by kernel_rfl)
  name:=by kernel_rfl
theorem f154_ok:FnOk Tryz.prog 154 f154_info Tryz.f154 where
  at_:=Tryz.func154
  body:=by kernel_rfl
  results:=by kernel_rfl
  ntmps:=by kernel_rfl
  params:=Nat.le_of_ble_eq_true (by kernel_rfl)
  name:=by kernel_rfl
theorem f169_ok:FnOk Tryz.prog 169 f169_info Tryz.f169 where
  at_:=Tryz.func169
  body:=by kernel_rfl
  results:=by kernel_rfl
  ntmps:=by kernel_rfl
  params:=Nat.le_of_ble_eq_true (by kernel_rfl)
  name:=by kernel_rfl
theorem f134_ok:FnOk Tryz.prog 134 f134_info Tryz.f134 where
  at_:=Tryz.func134
  body:=by kernel_rfl
  results:=by kernel_rfl
  ntmps:=by kernel_rfl
  params:=Nat.le_of_ble_eq_true (by kernel_rfl)
  name:=by kernel_rfl
theorem f188_ok:FnOk Tryz.prog 188 f188_info Tryz.f188 where
  at_:=Tryz.func188
  body:=by kernel_rfl
  results:=by kernel_rfl
  ntmps:=by kernel_rfl
  params:=Nat.le_of_ble_eq_true (by kernel_rfl)
  name:=by kernel_rfl
theorem f179_ok:FnOk Tryz.prog 179 f179_info Tryz.f179 where
  at_:=Tryz.func179
  body:=by kernel_rfl
  results:=by kernel_rfl
  ntmps:=by kernel_rfl
  params:=Nat.le_of_ble_eq_true (by kernel_rfl)
  name:=by kernel_rfl
theorem f177_ok:FnOk Tryz.prog 177 f177_info Tryz.f177 where
  at_:=Tryz.func177
  body:=by kernel_rfl
  results:=by kernel_rfl
  ntmps:=by kernel_rfl
  params:=Nat.le_of_ble_eq_true (by kernel_rfl)
  name:=by kernel_rfl
theorem f178_ok:FnOk Tryz.prog 178 f178_info Tryz.f178 where
  at_:=Tryz.func178
  body:=by kernel_rfl
  results:=by kernel_rfl
  ntmps:=by kernel_rfl
  params:=Nat.le_of_ble_eq_true (by kernel_rfl)
  name:=by kernel_rfl
theorem f170_ok:FnOk Tryz.prog 170 f170_info Tryz.f170 where
  at_:=Tryz.func170
  body:=by kernel_rfl
  results:=by kernel_rfl
  ntmps:=by kernel_rfl
  params:=Nat.le_of_ble_eq_true (by kernel_rfl)
  name:=by kernel_rfl
theorem f155_ok:FnOk Tryz.prog 155 f155_info Tryz.f155 where
  at_:=Tryz.func155
  body:=by kernel_rfl
  results:=by kernel_rfl
  ntmps:=by kernel_rfl
  params:=Nat.le_of_ble_eq_true (by kernel_rfl)
  name:=by kernel_rfl
theorem f171_ok:FnOk Tryz.prog 171 f171_info Tryz.f171 where
  at_:=Tryz.func171
  body:=by kernel_rfl
  results:=by kernel_rfl
  ntmps:=by kernel_rfl
  params:=Nat.le_of_ble_eq_true (by kernel_rfl)
  name:=by kernel_rfl
theorem f156_ok:FnOk Tryz.prog 156 f156_info Tryz.f156 where
  at_:=Tryz.func156
  body:=by kernel_rfl
  results:=by kernel_rfl
  ntmps:=by kernel_rfl
  params:=Nat.le_of_ble_eq_true (by kernel_rfl)
  name:=by kernel_rfl
theorem f135_ok:FnOk Tryz.prog 135 f135_info Tryz.f135 where
  at_:=Tryz.func135
  body:=by kernel_rfl
  results:=by kernel_rfl
  ntmps:=by kernel_rfl
  params:=Nat.le_of_ble_eq_true (by kernel_rfl)
  name:=by kernel_rfl
theorem f114_ok:FnOk Tryz.prog 114 f114_info Tryz.f114 where
  at_:=Tryz.func114
  body:=by kernel_rfl
  results:=by kernel_rfl
  ntmps:=by kernel_rfl
  params:=Nat.le_of_ble_eq_true (by kernel_rfl)
  name:=by kernel_rfl
theorem f86_ok:FnOk Tryz.prog 86 f86_info Tryz.f86 where
  at_:=Tryz.func86
  body:=by kernel_rfl
  results:=by kernel_rfl
  ntmps:=by kernel_rfl
  params:=Nat.le_of_ble_eq_true (by kernel_rfl)
  name:=by kernel_rfl
theorem f54_ok:FnOk Tryz.prog 54 f54_info Tryz.f54 where
  at_:=Tryz.func54
  body:=by kernel_rfl
  results:=by kernel_rfl
  ntmps:=by kernel_rfl
  params:=Nat.le_of_ble_eq_true (by kernel_rfl)
  name:=by kernel_rfl
theorem f113_ok:FnOk Tryz.prog 113 f113_info Tryz.f113 where
  at_:=Tryz.func113
  body:=by kernel_rfl
  results:=by kernel_rfl
  ntmps:=by kernel_rfl
  params:=Nat.le_of_ble_eq_true (by kernel_rfl)
  name:=by kernel_rfl
theorem f83_ok:FnOk Tryz.prog 83 f83_info Tryz.f83 where
  at_:=Tryz.func83
  body:=by kernel_rfl
  results:=by kernel_rfl
  ntmps:=by kernel_rfl
  params:=Nat.le_of_ble_eq_true (by kernel_rfl)
  name:=by kernel_rfl
theorem f84_ok:FnOk Tryz.prog 84 f84_info Tryz.f84 where
  at_:=Tryz.func84
  body:=by kernel_rfl
  results:=by kernel_rfl
  ntmps:=by kernel_rfl
  params:=Nat.le_of_ble_eq_true (by kernel_rfl)
  name:=by kernel_rfl
theorem f95_ok:FnOk Tryz.prog 95 f95_info Tryz.f95 where
  at_:=Tryz.func95
  body:=by kernel_rfl
  results:=by kernel_rfl
  ntmps:=by kernel_rfl
  params:=Nat.le_of_ble_eq_true (by kernel_rfl)
  name:=by kernel_rfl
theorem f61_ok:FnOk Tryz.prog 61 f61_info Tryz.f61 where
  at_:=Tryz.func61
  body:=by kernel_rfl
  results:=by kernel_rfl
  ntmps:=by kernel_rfl
  params:=Nat.le_of_ble_eq_true (by kernel_rfl)
  name:=by kernel_rfl
theorem f70_ok:FnOk Tryz.prog 70 f70_info Tryz.f70 where
  at_:=Tryz.func70
  body:=by kernel_rfl
  results:=by kernel_rfl
  ntmps:=by kernel_rfl
  params:=Nat.le_of_ble_eq_true (by kernel_rfl)
  name:=by kernel_rfl
theorem f105_ok:FnOk Tryz.prog 105 f105_info Tryz.f105 where
  at_:=Tryz.func105
  body:=by kernel_rfl
  results:=by kernel_rfl
  ntmps:=by kernel_rfl
  params:=Nat.le_of_ble_eq_true (by kernel_rfl)
  name:=by kernel_rfl
theorem f76_ok:FnOk Tryz.prog 76 f76_info Tryz.f76 where
  at_:=Tryz.func76
  body:=by kernel_rfl
  results:=by kernel_rfl
  ntmps:=by kernel_rfl
  params:=Nat.le_of_ble_eq_true (by kernel_rfl)
  name:=by kernel_rfl
theorem f150_ok:FnOk Tryz.prog 150 f150_info Tryz.f150 where
  at_:=Tryz.func150
  body:=by kernel_rfl
  results:=by kernel_rfl
  ntmps:=by kernel_rfl
  params:=Nat.le_of_ble_eq_true (by kernel_rfl)
  name:=by kernel_rfl
theorem f128_ok:FnOk Tryz.prog 128 f128_info Tryz.f128 where
  at_:=Tryz.func128
  body:=by kernel_rfl
  results:=by kernel_rfl
  ntmps:=by kernel_rfl
  params:=Nat.le_of_ble_eq_true (by kernel_rfl)
  name:=by kernel_rfl
theorem f127_ok:FnOk Tryz.prog 127 f127_info Tryz.f127 where
  at_:=Tryz.func127
  body:=by kernel_rfl
  results:=by kernel_rfl
  ntmps:=by kernel_rfl
  params:=Nat.le_of_ble_eq_true (by kernel_rfl)
  name:=by kernel_rfl
theorem f103_ok:FnOk Tryz.prog 103 f103_info Tryz.f103 where
  at_:=Tryz.func103
  body:=by kernel_rfl
  results:=by kernel_rfl
  ntmps:=by kernel_rfl
  params:=Nat.le_of_ble_eq_true (by kernel_rfl)
  name:=by kernel_rfl
theorem f125_ok:FnOk Tryz.prog 125 f125_info Tryz.f125 where
  at_:=Tryz.func125
  body:=by kernel_rfl
  results:=by kernel_rfl
  ntmps:=by kernel_rfl
  params:=Nat.le_of_ble_eq_true (by kernel_rfl)
  name:=by kernel_rfl
theorem f148_ok:FnOk Tryz.prog 148 f148_info Tryz.f148 where
  at_:=Tryz.func148
  body:=by kernel_rfl
  results:=by kernel_rfl
  ntmps:=by kernel_rfl
  params:=Nat.le_of_ble_eq_true (by kernel_rfl)
  name:=by kernel_rfl
theorem f166_ok:FnOk Tryz.prog 166 f166_info Tryz.f166 where
  at_:=Tryz.func166
  body:=by kernel_rfl
  results:=by kernel_rfl
  ntmps:=by kernel_rfl
  params:=Nat.le_of_ble_eq_true (by kernel_rfl)
  name:=by kernel_rfl
theorem f149_ok:FnOk Tryz.prog 149 f149_info Tryz.f149 where
  at_:=Tryz.func149
  body:=by kernel_rfl
  results:=by kernel_rfl
  ntmps:=by kernel_rfl
  params:=Nat.le_of_ble_eq_true (by kernel_rfl)
  name:=by kernel_rfl
theorem f126_ok:FnOk Tryz.prog 126 f126_info Tryz.f126 where
  at_:=Tryz.func126
  body:=by kernel_rfl
  results:=by kernel_rfl
  ntmps:=by kernel_rfl
  params:=Nat.le_of_ble_eq_true (by kernel_rfl)
  name:=by kernel_rfl
theorem f184_ok:FnOk Tryz.prog 184 f184_info Tryz.f184 where
  at_:=Tryz.func184
  body:=by kernel_rfl
  results:=by kernel_rfl
  ntmps:=by kernel_rfl
  params:=Nat.le_of_ble_eq_true (by kernel_rfl)
  name:=by kernel_rfl
theorem f175_ok:FnOk Tryz.prog 175 f175_info Tryz.f175 where
  at_:=Tryz.func175
  body:=by kernel_rfl
  results:=by kernel_rfl
  ntmps:=by kernel_rfl
  params:=Nat.le_of_ble_eq_true (by kernel_rfl)
  name:=by kernel_rfl
theorem f164_ok:FnOk Tryz.prog 164 f164_info Tryz.f164 where
  at_:=Tryz.func164
  body:=by kernel_rfl
  results:=by kernel_rfl
  ntmps:=by kernel_rfl
  params:=Nat.le_of_ble_eq_true (by kernel_rfl)
  name:=by kernel_rfl
theorem f145_ok:FnOk Tryz.prog 145 f145_info Tryz.f145 where
  at_:=Tryz.func145
  body:=by kernel_rfl
  results:=by kernel_rfl
  ntmps:=by kernel_rfl
  params:=Nat.le_of_ble_eq_true (by kernel_rfl)
  name:=by kernel_rfl
theorem f104_ok:FnOk Tryz.prog 104 f104_info Tryz.f104 where
  at_:=Tryz.func104
  body:=by kernel_rfl
  results:=by kernel_rfl
  ntmps:=by kernel_rfl
  params:=Nat.le_of_ble_eq_true (by kernel_rfl)
  name:=by kernel_rfl
theorem f72_ok:FnOk Tryz.prog 72 f72_info Tryz.f72 where
  at_:=Tryz.func72
  body:=by kernel_rfl
  results:=by kernel_rfl
  ntmps:=by kernel_rfl
  params:=Nat.le_of_ble_eq_true (by kernel_rfl)
  name:=by kernel_rfl
theorem f146_ok:FnOk Tryz.prog 146 f146_info Tryz.f146 where
  at_:=Tryz.func146
  body:=by kernel_rfl
  results:=by kernel_rfl
  ntmps:=by kernel_rfl
  params:=Nat.le_of_ble_eq_true (by kernel_rfl)
  name:=by kernel_rfl
theorem f123_ok:FnOk Tryz.prog 123 f123_info Tryz.f123 where
  at_:=Tryz.func123
  body:=by kernel_rfl
  results:=by kernel_rfl
  ntmps:=by kernel_rfl
  params:=Nat.le_of_ble_eq_true (by kernel_rfl)
  name:=by kernel_rfl
theorem f94_ok:FnOk Tryz.prog 94 f94_info Tryz.f94 where
  at_:=Tryz.func94
  body:=by kernel_rfl
  results:=by kernel_rfl
  ntmps:=by kernel_rfl
  params:=Nat.le_of_ble_eq_true (by kernel_rfl)
  name:=by kernel_rfl
theorem f60_ok:FnOk Tryz.prog 60 f60_info Tryz.f60 where
  at_:=Tryz.func60
  body:=by kernel_rfl
  results:=by kernel_rfl
  ntmps:=by kernel_rfl
  params:=Nat.le_of_ble_eq_true (by kernel_rfl)
  name:=by kernel_rfl
theorem f59_ok:FnOk Tryz.prog 59 f59_info Tryz.f59 where
  at_:=Tryz.func59
  body:=by kernel_rfl
  results:=by kernel_rfl
  ntmps:=by kernel_rfl
  params:=Nat.le_of_ble_eq_true (by kernel_rfl)
  name:=by kernel_rfl
theorem f96_ok:FnOk Tryz.prog 96 f96_info Tryz.f96 where
  at_:=Tryz.func96
  body:=by kernel_rfl
  results:=by kernel_rfl
  ntmps:=by kernel_rfl
  params:=Nat.le_of_ble_eq_true (by kernel_rfl)
  name:=by kernel_rfl
theorem f85_ok:FnOk Tryz.prog 85 f85_info Tryz.f85 where
  at_:=Tryz.func85
  body:=by kernel_rfl
  results:=by kernel_rfl
  ntmps:=by kernel_rfl
  params:=Nat.le_of_ble_eq_true (by kernel_rfl)
  name:=by kernel_rfl
theorem f53_ok:FnOk Tryz.prog 53 f53_info Tryz.f53 where
  at_:=Tryz.func53
  body:=by kernel_rfl
  results:=by kernel_rfl
  ntmps:=by kernel_rfl
  params:=Nat.le_of_ble_eq_true (by kernel_rfl)
  name:=by kernel_rfl
theorem f97_ok:FnOk Tryz.prog 97 f97_info Tryz.f97 where
  at_:=Tryz.func97
  body:=by kernel_rfl
  results:=by kernel_rfl
  ntmps:=by kernel_rfl
  params:=Nat.le_of_ble_eq_true (by kernel_rfl)
  name:=by kernel_rfl
theorem f62_ok:FnOk Tryz.prog 62 f62_info Tryz.f62 where
  at_:=Tryz.func62
  body:=by kernel_rfl
  results:=by kernel_rfl
  ntmps:=by kernel_rfl
  params:=Nat.le_of_ble_eq_true (by kernel_rfl)
  name:=by kernel_rfl
theorem f31_ok:FnOk Tryz.prog 31 f31_info Tryz.f31 where
  at_:=Tryz.func31
  body:=by kernel_rfl
  results:=by kernel_rfl
  ntmps:=by kernel_rfl
  params:=Nat.le_of_ble_eq_true (by kernel_rfl)
  name:=by kernel_rfl
theorem f63_ok:FnOk Tryz.prog 63 f63_info Tryz.f63 where
  at_:=Tryz.func63
  body:=by kernel_rfl
  results:=by kernel_rfl
  ntmps:=by kernel_rfl
  params:=Nat.le_of_ble_eq_true (by kernel_rfl)
  name:=by kernel_rfl
theorem f32_ok:FnOk Tryz.prog 32 f32_info Tryz.f32 where
  at_:=Tryz.func32
  body:=by kernel_rfl
  results:=by kernel_rfl
  ntmps:=by kernel_rfl
  params:=Nat.le_of_ble_eq_true (by kernel_rfl)
  name:=by kernel_rfl
theorem f14_ok:FnOk Tryz.prog 14 f14_info Tryz.f14 where
  at_:=Tryz.func14
  body:=by kernel_rfl
  results:=by kernel_rfl
  ntmps:=by kernel_rfl
  params:=Nat.le_of_ble_eq_true (by kernel_rfl)
  name:=by kernel_rfl
theorem f102_ok:FnOk Tryz.prog 102 f102_info Tryz.f102 where
  at_:=Tryz.func102
  body:=by kernel_rfl
  results:=by kernel_rfl
  ntmps:=by kernel_rfl
  params:=Nat.le_of_ble_eq_true (by kernel_rfl)
  name:=by kernel_rfl
theorem f71_ok:FnOk Tryz.prog 71 f71_info Tryz.f71 where
  at_:=Tryz.func71
  body:=by kernel_rfl
  results:=by kernel_rfl
  ntmps:=by kernel_rfl
  params:=Nat.le_of_ble_eq_true (by kernel_rfl)
  name:=by kernel_rfl
theorem f38_ok:FnOk Tryz.prog 38 f38_info Tryz.f38 where
  at_:=Tryz.func38
  body:=by kernel_rfl
  results:=by kernel_rfl
  ntmps:=by kernel_rfl
  params:=Nat.le_of_ble_eq_true (by kernel_rfl)
  name:=by kernel_rfl
theorem f26_ok:FnOk Tryz.prog 26 f26_info Tryz.f26 where
  at_:=Tryz.func26
  body:=by kernel_rfl
  results:=by kernel_rfl
  ntmps:=by kernel_rfl
  params:=Nat.le_of_ble_eq_true (by kernel_rfl)
  name:=by kernel_rfl
theorem f50_ok:FnOk Tryz.prog 50 f50_info Tryz.f50 where
  at_:=Tryz.func50
  body:=by kernel_rfl
  results:=by kernel_rfl
  ntmps:=by kernel_rfl
  params:=Nat.le_of_ble_eq_true (by kernel_rfl)
  name:=by kernel_rfl
theorem f186_ok:FnOk Tryz.prog 186 f186_info Tryz.f186 where
  at_:=Tryz.func186
  body:=by kernel_rfl
  results:=by kernel_rfl
  ntmps:=by kernel_rfl
  params:=Nat.le_of_ble_eq_true (by kernel_rfl)
  name:=by kernel_rfl
theorem f194_ok:FnOk Tryz.prog 194 f194_info Tryz.f194 where
  at_:=Tryz.func194
  body:=by kernel_rfl
  results:=by kernel_rfl
  ntmps:=by kernel_rfl
  params:=Nat.le_of_ble_eq_true (by kernel_rfl)
  name:=by kernel_rfl
theorem f202_ok:FnOk Tryz.prog 202 f202_info Tryz.f202 where
  at_:=Tryz.func202
  body:=by kernel_rfl
  results:=by kernel_rfl
  ntmps:=by kernel_rfl
  params:=Nat.le_of_ble_eq_true (by kernel_rfl)
  name:=by kernel_rfl
theorem f196_ok:FnOk Tryz.prog 196 f196_info Tryz.f196 where
  at_:=Tryz.func196
  body:=by kernel_rfl
  results:=by kernel_rfl
  ntmps:=by kernel_rfl
  params:=Nat.le_of_ble_eq_true (by kernel_rfl)
  name:=by kernel_rfl
theorem f187_ok:FnOk Tryz.prog 187 f187_info Tryz.f187 where
  at_:=Tryz.func187
  body:=by kernel_rfl
  results:=by kernel_rfl
  ntmps:=by kernel_rfl
  params:=Nat.le_of_ble_eq_true (by kernel_rfl)
  name:=by kernel_rfl
theorem f195_ok:FnOk Tryz.prog 195 f195_info Tryz.f195 where
  at_:=Tryz.func195
  body:=by kernel_rfl
  results:=by kernel_rfl
  ntmps:=by kernel_rfl
  params:=Nat.le_of_ble_eq_true (by kernel_rfl)
  name:=by kernel_rfl
theorem f185_ok:FnOk Tryz.prog 185 f185_info Tryz.f185 where
  at_:=Tryz.func185
  body:=by kernel_rfl
  results:=by kernel_rfl
  ntmps:=by kernel_rfl
  params:=Nat.le_of_ble_eq_true (by kernel_rfl)
  name:=by kernel_rfl
theorem f176_ok:FnOk Tryz.prog 176 f176_info Tryz.f176 where
  at_:=Tryz.func176
  body:=by kernel_rfl
  results:=by kernel_rfl
  ntmps:=by kernel_rfl
  params:=Nat.le_of_ble_eq_true (by kernel_rfl)
  name:=by kernel_rfl
theorem f167_ok:FnOk Tryz.prog 167 f167_info Tryz.f167 where
  at_:=Tryz.func167
  body:=by kernel_rfl
  results:=by kernel_rfl
  ntmps:=by kernel_rfl
  params:=Nat.le_of_ble_eq_true (by kernel_rfl)
  name:=by kernel_rfl
theorem f168_ok:FnOk Tryz.prog 168 f168_info Tryz.f168 where
  at_:=Tryz.func168
  body:=by kernel_rfl
  results:=by kernel_rfl
  ntmps:=by kernel_rfl
  params:=Nat.le_of_ble_eq_true (by kernel_rfl)
  name:=by kernel_rfl
theorem f152_ok:FnOk Tryz.prog 152 f152_info Tryz.f152 where
  at_:=Tryz.func152
  body:=by kernel_rfl
  results:=by kernel_rfl
  ntmps:=by kernel_rfl
  params:=Nat.le_of_ble_eq_true (by kernel_rfl)
  name:=by kernel_rfl
theorem f131_ok:FnOk Tryz.prog 131 f131_info Tryz.f131 where
  at_:=Tryz.func131
  body:=by kernel_rfl
  results:=by kernel_rfl
  ntmps:=by kernel_rfl
  params:=Nat.le_of_ble_eq_true (by kernel_rfl)
  name:=by kernel_rfl
theorem f111_ok:FnOk Tryz.prog 111 f111_info Tryz.f111 where
  at_:=Tryz.func111
  body:=by kernel_rfl
  results:=by kernel_rfl
  ntmps:=by kernel_rfl
  params:=Nat.le_of_ble_eq_true (by kernel_rfl)
  name:=by kernel_rfl
theorem f132_ok:FnOk Tryz.prog 132 f132_info Tryz.f132 where
  at_:=Tryz.func132
  body:=by kernel_rfl
  results:=by kernel_rfl
  ntmps:=by kernel_rfl
  params:=Nat.le_of_ble_eq_true (by kernel_rfl)
  name:=by kernel_rfl
theorem f153_ok:FnOk Tryz.prog 153 f153_info Tryz.f153 where
  at_:=Tryz.func153
  body:=by kernel_rfl
  results:=by kernel_rfl
  ntmps:=by kernel_rfl
  params:=Nat.le_of_ble_eq_true (by kernel_rfl)
  name:=by kernel_rfl
theorem f133_ok:FnOk Tryz.prog 133 f133_info Tryz.f133 where
  at_:=Tryz.func133
  body:=by kernel_rfl
  results:=by kernel_rfl
  ntmps:=by kernel_rfl
  params:=Nat.le_of_ble_eq_true (by kernel_rfl)
  name:=by kernel_rfl
theorem f112_ok:FnOk Tryz.prog 112 f112_info Tryz.f112 where
  at_:=Tryz.func112
  body:=by kernel_rfl
  results:=by kernel_rfl
  ntmps:=by kernel_rfl
  params:=Nat.le_of_ble_eq_true (by kernel_rfl)
  name:=by kernel_rfl
theorem f82_ok:FnOk Tryz.prog 82 f82_info Tryz.f82 where
  at_:=Tryz.func82
  body:=by kernel_rfl
  results:=by kernel_rfl
  ntmps:=by kernel_rfl
  params:=Nat.le_of_ble_eq_true (by kernel_rfl)
  name:=by kernel_rfl
theorem f52_ok:FnOk Tryz.prog 52 f52_info Tryz.f52 where
  at_:=Tryz.func52
  body:=by kernel_rfl
  results:=by kernel_rfl
  ntmps:=by kernel_rfl
  params:=Nat.le_of_ble_eq_true (by kernel_rfl)
  name:=by kernel_rfl
theorem f25_ok:FnOk Tryz.prog 25 f25_info Tryz.f25 where
  at_:=Tryz.func25
  body:=by kernel_rfl
  results:=by kernel_rfl
  ntmps:=by kernel_rfl
  params:=Nat.le_of_ble_eq_true (by kernel_rfl)
  name:=by kernel_rfl
theorem f11_ok:FnOk Tryz.prog 11 f11_info Tryz.f11 where
  at_:=Tryz.func11
  body:=by kernel_rfl
  results:=by kernel_rfl
  ntmps:=by kernel_rfl
  params:=Nat.le_of_ble_eq_true (by kernel_rfl)
  name:=by kernel_rfl
theorem f39_ok:FnOk Tryz.prog 39 f39_info Tryz.f39 where
  at_:=Tryz.func39
  body:=by kernel_rfl
  results:=by kernel_rfl
  ntmps:=by kernel_rfl
  params:=Nat.le_of_ble_eq_true (by kernel_rfl)
  name:=by kernel_rfl
theorem f43_ok:FnOk Tryz.prog 43 f43_info Tryz.f43 where
  at_:=Tryz.func43
  body:=by kernel_rfl
  results:=by kernel_rfl
  ntmps:=by kernel_rfl
  params:=Nat.le_of_ble_eq_true (by kernel_rfl)
  name:=by kernel_rfl
theorem f100_ok:FnOk Tryz.prog 100 f100_info Tryz.f100 where
  at_:=Tryz.func100
  body:=by kernel_rfl
  results:=by kernel_rfl
  ntmps:=by kernel_rfl
  params:=Nat.le_of_ble_eq_true (by kernel_rfl)
  name:=by kernel_rfl
theorem f68_ok:FnOk Tryz.prog 68 f68_info Tryz.f68 where
  at_:=Tryz.func68
  body:=by kernel_rfl
  results:=by kernel_rfl
  ntmps:=by kernel_rfl
  params:=Nat.le_of_ble_eq_true (by kernel_rfl)
  name:=by kernel_rfl
theorem f44_ok:FnOk Tryz.prog 44 f44_info Tryz.f44 where
  at_:=Tryz.func44
  body:=by kernel_rfl
  results:=by kernel_rfl
  ntmps:=by kernel_rfl
  params:=Nat.le_of_ble_eq_true (by kernel_rfl)
  name:=by kernel_rfl
theorem f45_ok:FnOk Tryz.prog 45 f45_info Tryz.f45 where
  at_:=Tryz.func45
  body:=by kernel_rfl
  results:=by kernel_rfl
  ntmps:=by kernel_rfl
  params:=Nat.le_of_ble_eq_true (by kernel_rfl)
  name:=by kernel_rfl
theorem f23_ok:FnOk Tryz.prog 23 f23_info Tryz.f23 where
  at_:=Tryz.func23
  body:=by kernel_rfl
  results:=by kernel_rfl
  ntmps:=by kernel_rfl
  params:=Nat.le_of_ble_eq_true (by kernel_rfl)
  name:=by kernel_rfl
theorem f40_ok:FnOk Tryz.prog 40 f40_info Tryz.f40 where
  at_:=Tryz.func40
  body:=by kernel_rfl
  results:=by kernel_rfl
  ntmps:=by kernel_rfl
  params:=Nat.le_of_ble_eq_true (by kernel_rfl)
  name:=by kernel_rfl
theorem f19_ok:FnOk Tryz.prog 19 f19_info Tryz.f19 where
  at_:=Tryz.func19
  body:=by kernel_rfl
  results:=by kernel_rfl
  ntmps:=by kernel_rfl
  params:=Nat.le_of_ble_eq_true (by kernel_rfl)
  name:=by kernel_rfl
theorem f10_ok:FnOk Tryz.prog 10 f10_info Tryz.f10 where
  at_:=Tryz.func10
  body:=by kernel_rfl
  results:=by kernel_rfl
  ntmps:=by kernel_rfl
  params:=Nat.le_of_ble_eq_true (by kernel_rfl)
  name:=by kernel_rfl
theorem f16_ok:FnOk Tryz.prog 16 f16_info Tryz.f16 where
  at_:=Tryz.func16
  body:=by kernel_rfl
  results:=by kernel_rfl
  ntmps:=by kernel_rfl
  params:=Nat.le_of_ble_eq_true (by kernel_rfl)
  name:=by kernel_rfl
theorem f122_ok:FnOk Tryz.prog 122 f122_info Tryz.f122 where
  at_:=Tryz.func122
  body:=by kernel_rfl
  results:=by kernel_rfl
  ntmps:=by kernel_rfl
  params:=Nat.le_of_ble_eq_true (by kernel_rfl)
  name:=by kernel_rfl
theorem f121_ok:FnOk Tryz.prog 121 f121_info Tryz.f121 where
  at_:=Tryz.func121
  body:=by kernel_rfl
  results:=by kernel_rfl
  ntmps:=by kernel_rfl
  params:=Nat.le_of_ble_eq_true (by kernel_rfl)
  name:=by kernel_rfl
theorem f109_ok:FnOk Tryz.prog 109 f109_info Tryz.f109 where
  at_:=Tryz.func109
  body:=by kernel_rfl
  results:=by kernel_rfl
  ntmps:=by kernel_rfl
  params:=Nat.le_of_ble_eq_true (by kernel_rfl)
  name:=by kernel_rfl
theorem f93_ok:FnOk Tryz.prog 93 f93_info Tryz.f93 where
  at_:=Tryz.func93
  body:=by kernel_rfl
  results:=by kernel_rfl
  ntmps:=by kernel_rfl
  params:=Nat.le_of_ble_eq_true (by kernel_rfl)
  name:=by kernel_rfl
theorem f92_ok:FnOk Tryz.prog 92 f92_info Tryz.f92 where
  at_:=Tryz.func92
  body:=by kernel_rfl
  results:=by kernel_rfl
  ntmps:=by kernel_rfl
  params:=Nat.le_of_ble_eq_true (by kernel_rfl)
  name:=by kernel_rfl
theorem f118_ok:FnOk Tryz.prog 118 f118_info Tryz.f118 where
  at_:=Tryz.func118
  body:=by kernel_rfl
  results:=by kernel_rfl
  ntmps:=by kernel_rfl
  params:=Nat.le_of_ble_eq_true (by kernel_rfl)
  name:=by kernel_rfl
theorem f119_ok:FnOk Tryz.prog 119 f119_info Tryz.f119 where
  at_:=Tryz.func119
  body:=by kernel_rfl
  results:=by kernel_rfl
  ntmps:=by kernel_rfl
  params:=Nat.le_of_ble_eq_true (by kernel_rfl)
  name:=by kernel_rfl
theorem f163_ok:FnOk Tryz.prog 163 f163_info Tryz.f163 where
  at_:=Tryz.func163
  body:=by kernel_rfl
  results:=by kernel_rfl
  ntmps:=by kernel_rfl
  params:=Nat.le_of_ble_eq_true (by kernel_rfl)
  name:=by kernel_rfl
theorem f143_ok:FnOk Tryz.prog 143 f143_info Tryz.f143 where
  at_:=Tryz.func143
  body:=by kernel_rfl
  results:=by kernel_rfl
  ntmps:=by kernel_rfl
  params:=Nat.le_of_ble_eq_true (by kernel_rfl)
  name:=by kernel_rfl
theorem f142_ok:FnOk Tryz.prog 142 f142_info Tryz.f142 where
  at_:=Tryz.func142
  body:=by kernel_rfl
  results:=by kernel_rfl
  ntmps:=by kernel_rfl
  params:=Nat.le_of_ble_eq_true (by kernel_rfl)
  name:=by kernel_rfl
theorem f144_ok:FnOk Tryz.prog 144 f144_info Tryz.f144 where
  at_:=Tryz.func144
  body:=by kernel_rfl
  results:=by kernel_rfl
  ntmps:=by kernel_rfl
  params:=Nat.le_of_ble_eq_true (by kernel_rfl)
  name:=by kernel_rfl
theorem f120_ok:FnOk Tryz.prog 120 f120_info Tryz.f120 where
  at_:=Tryz.func120
  body:=by kernel_rfl
  results:=by kernel_rfl
  ntmps:=by kernel_rfl
  params:=Nat.le_of_ble_eq_true (by kernel_rfl)
  name:=by kernel_rfl
theorem f91_ok:FnOk Tryz.prog 91 f91_info Tryz.f91 where
  at_:=Tryz.func91
  body:=by kernel_rfl
  results:=by kernel_rfl
  ntmps:=by kernel_rfl
  params:=Nat.le_of_ble_eq_true (by kernel_rfl)
  name:=by kernel_rfl
theorem f58_ok:FnOk Tryz.prog 58 f58_info Tryz.f58 where
  at_:=Tryz.func58
  body:=by kernel_rfl
  results:=by kernel_rfl
  ntmps:=by kernel_rfl
  params:=Nat.le_of_ble_eq_true (by kernel_rfl)
  name:=by kernel_rfl
theorem f29_ok:FnOk Tryz.prog 29 f29_info Tryz.f29 where
  at_:=Tryz.func29
  body:=by kernel_rfl
  results:=by kernel_rfl
  ntmps:=by kernel_rfl
  params:=Nat.le_of_ble_eq_true (by kernel_rfl)
  name:=by kernel_rfl
theorem f88_ok:FnOk Tryz.prog 88 f88_info Tryz.f88 where
  at_:=Tryz.func88
  body:=by kernel_rfl
  results:=by kernel_rfl
  ntmps:=by kernel_rfl
  params:=Nat.le_of_ble_eq_true (by kernel_rfl)
  name:=by kernel_rfl
theorem f90_ok:FnOk Tryz.prog 90 f90_info Tryz.f90 where
  at_:=Tryz.func90
  body:=by kernel_rfl
  results:=by kernel_rfl
  ntmps:=by kernel_rfl
  params:=Nat.le_of_ble_eq_true (by kernel_rfl)
  name:=by kernel_rfl
theorem f89_ok:FnOk Tryz.prog 89 f89_info Tryz.f89 where
  at_:=Tryz.func89
  body:=by kernel_rfl
  results:=by kernel_rfl
  ntmps:=by kernel_rfl
  params:=Nat.le_of_ble_eq_true (by kernel_rfl)
  name:=by kernel_rfl
theorem f57_ok:FnOk Tryz.prog 57 f57_info Tryz.f57 where
  at_:=Tryz.func57
  body:=by kernel_rfl
  results:=by kernel_rfl
  ntmps:=by kernel_rfl
  params:=Nat.le_of_ble_eq_true (by kernel_rfl)
  name:=by kernel_rfl
theorem f28_ok:FnOk Tryz.prog 28 f28_info Tryz.f28 where
  at_:=Tryz.func28
  body:=by kernel_rfl
  results:=by kernel_rfl
  ntmps:=by kernel_rfl
  params:=Nat.le_of_ble_eq_true (by kernel_rfl)
  name:=by kernel_rfl
theorem f80_ok:FnOk Tryz.prog 80 f80_info Tryz.f80 where
  at_:=Tryz.func80
  body:=by kernel_rfl
  results:=by kernel_rfl
  ntmps:=by kernel_rfl
  params:=Nat.le_of_ble_eq_true (by kernel_rfl)
  name:=by kernel_rfl
theorem f49_ok:FnOk Tryz.prog 49 f49_info Tryz.f49 where
  at_:=Tryz.func49
  body:=by kernel_rfl
  results:=by kernel_rfl
  ntmps:=by kernel_rfl
  params:=Nat.le_of_ble_eq_true (by kernel_rfl)
  name:=by kernel_rfl
theorem f73_ok:FnOk Tryz.prog 73 f73_info Tryz.f73 where
  at_:=Tryz.func73
  body:=by kernel_rfl
  results:=by kernel_rfl
  ntmps:=by kernel_rfl
  params:=Nat.le_of_ble_eq_true (by kernel_rfl)
  name:=by kernel_rfl
theorem f79_ok:FnOk Tryz.prog 79 f79_info Tryz.f79 where
  at_:=Tryz.func79
  body:=by kernel_rfl
  results:=by kernel_rfl
  ntmps:=by kernel_rfl
  params:=Nat.le_of_ble_eq_true (by kernel_rfl)
  name:=by kernel_rfl
theorem f48_ok:FnOk Tryz.prog 48 f48_info Tryz.f48 where
  at_:=Tryz.func48
  body:=by kernel_rfl
  results:=by kernel_rfl
  ntmps:=by kernel_rfl
  params:=Nat.le_of_ble_eq_true (by kernel_rfl)
  name:=by kernel_rfl
theorem f130_ok:FnOk Tryz.prog 130 f130_info Tryz.f130 where
  at_:=Tryz.func130
  body:=by kernel_rfl
  results:=by kernel_rfl
  ntmps:=by kernel_rfl
  params:=Nat.le_of_ble_eq_true (by kernel_rfl)
  name:=by kernel_rfl
theorem f108_ok:FnOk Tryz.prog 108 f108_info Tryz.f108 where
  at_:=Tryz.func108
  body:=by kernel_rfl
  results:=by kernel_rfl
  ntmps:=by kernel_rfl
  params:=Nat.le_of_ble_eq_true (by kernel_rfl)
  name:=by kernel_rfl
theorem f78_ok:FnOk Tryz.prog 78 f78_info Tryz.f78 where
  at_:=Tryz.func78
  body:=by kernel_rfl
  results:=by kernel_rfl
  ntmps:=by kernel_rfl
  params:=Nat.le_of_ble_eq_true (by kernel_rfl)
  name:=by kernel_rfl
theorem f106_ok:FnOk Tryz.prog 106 f106_info Tryz.f106 where
  at_:=Tryz.func106
  body:=by kernel_rfl
  results:=by kernel_rfl
  ntmps:=by kernel_rfl
  params:=Nat.le_of_ble_eq_true (by kernel_rfl)
  name:=by kernel_rfl
theorem f151_ok:FnOk Tryz.prog 151 f151_info Tryz.f151 where
  at_:=Tryz.func151
  body:=by kernel_rfl
  results:=by kernel_rfl
  ntmps:=by kernel_rfl
  params:=Nat.le_of_ble_eq_true (by kernel_rfl)
  name:=by kernel_rfl
theorem f129_ok:FnOk Tryz.prog 129 f129_info Tryz.f129 where
  at_:=Tryz.func129
  body:=by kernel_rfl
  results:=by kernel_rfl
  ntmps:=by kernel_rfl
  params:=Nat.le_of_ble_eq_true (by kernel_rfl)
  name:=by kernel_rfl
theorem f107_ok:FnOk Tryz.prog 107 f107_info Tryz.f107 where
  at_:=Tryz.func107
  body:=by kernel_rfl
  results:=by kernel_rfl
  ntmps:=by kernel_rfl
  params:=Nat.le_of_ble_eq_true (by kernel_rfl)
  name:=by kernel_rfl
theorem f165_ok:FnOk Tryz.prog 165 f165_info Tryz.f165 where
  at_:=Tryz.func165
  body:=by kernel_rfl
  results:=by kernel_rfl
  ntmps:=by kernel_rfl
  params:=Nat.le_of_ble_eq_true (by kernel_rfl)
  name:=by kernel_rfl
theorem f147_ok:FnOk Tryz.prog 147 f147_info Tryz.f147 where
  at_:=Tryz.func147
  body:=by kernel_rfl
  results:=by kernel_rfl
  ntmps:=by kernel_rfl
  params:=Nat.le_of_ble_eq_true (by kernel_rfl)
  name:=by kernel_rfl
theorem f124_ok:FnOk Tryz.prog 124 f124_info Tryz.f124 where
  at_:=Tryz.func124
  body:=by kernel_rfl
  results:=by kernel_rfl
  ntmps:=by kernel_rfl
  params:=Nat.le_of_ble_eq_true (by kernel_rfl)
  name:=by kernel_rfl
theorem f98_ok:FnOk Tryz.prog 98 f98_info Tryz.f98 where
  at_:=Tryz.func98
  body:=by kernel_rfl
  results:=by kernel_rfl
  ntmps:=by kernel_rfl
  params:=Nat.le_of_ble_eq_true (by kernel_rfl)
  name:=by kernel_rfl
theorem f74_ok:FnOk Tryz.prog 74 f74_info Tryz.f74 where
  at_:=Tryz.func74
  body:=by kernel_rfl
  results:=by kernel_rfl
  ntmps:=by kernel_rfl
  params:=Nat.le_of_ble_eq_true (by kernel_rfl)
  name:=by kernel_rfl
theorem f99_ok:FnOk Tryz.prog 99 f99_info Tryz.f99 where
  at_:=Tryz.func99
  body:=by kernel_rfl
  results:=by kernel_rfl
  ntmps:=by kernel_rfl
  params:=Nat.le_of_ble_eq_true (by kernel_rfl)
  name:=by kernel_rfl
theorem f64_ok:FnOk Tryz.prog 64 f64_info Tryz.f64 where
  at_:=Tryz.func64
  body:=by kernel_rfl
  results:=by kernel_rfl
  ntmps:=by kernel_rfl
  params:=Nat.le_of_ble_eq_true (by kernel_rfl)
  name:=by kernel_rfl
theorem f65_ok:FnOk Tryz.prog 65 f65_info Tryz.f65 where
  at_:=Tryz.func65
  body:=by kernel_rfl
  results:=by kernel_rfl
  ntmps:=by kernel_rfl
  params:=Nat.le_of_ble_eq_true (by kernel_rfl)
  name:=by kernel_rfl
theorem f33_ok:FnOk Tryz.prog 33 f33_info Tryz.f33 where
  at_:=Tryz.func33
  body:=by kernel_rfl
  results:=by kernel_rfl
  ntmps:=by kernel_rfl
  params:=Nat.le_of_ble_eq_true (by kernel_rfl)
  name:=by kernel_rfl
theorem f66_ok:FnOk Tryz.prog 66 f66_info Tryz.f66 where
  at_:=Tryz.func66
  body:=by kernel_rfl
  results:=by kernel_rfl
  ntmps:=by kernel_rfl
  params:=Nat.le_of_ble_eq_true (by kernel_rfl)
  name:=by kernel_rfl
theorem f34_ok:FnOk Tryz.prog 34 f34_info Tryz.f34 where
  at_:=Tryz.func34
  body:=by kernel_rfl
  results:=by kernel_rfl
  ntmps:=by kernel_rfl
  params:=Nat.le_of_ble_eq_true (by kernel_rfl)
  name:=by kernel_rfl
theorem f15_ok:FnOk Tryz.prog 15 f15_info Tryz.f15 where
  at_:=Tryz.func15
  body:=by kernel_rfl
  results:=by kernel_rfl
  ntmps:=by kernel_rfl
  params:=Nat.le_of_ble_eq_true (by kernel_rfl)
  name:=by kernel_rfl
theorem f77_ok:FnOk Tryz.prog 77 f77_info Tryz.f77 where
  at_:=Tryz.func77
  body:=by kernel_rfl
  results:=by kernel_rfl
  ntmps:=by kernel_rfl
  params:=Nat.le_of_ble_eq_true (by kernel_rfl)
  name:=by kernel_rfl
theorem f47_ok:FnOk Tryz.prog 47 f47_info Tryz.f47 where
  at_:=Tryz.func47
  body:=by kernel_rfl
  results:=by kernel_rfl
  ntmps:=by kernel_rfl
  params:=Nat.le_of_ble_eq_true (by kernel_rfl)
  name:=by kernel_rfl
theorem f41_ok:FnOk Tryz.prog 41 f41_info Tryz.f41 where
  at_:=Tryz.func41
  body:=by kernel_rfl
  results:=by kernel_rfl
  ntmps:=by kernel_rfl
  params:=Nat.le_of_ble_eq_true (by kernel_rfl)
  name:=by kernel_rfl
theorem f55_ok:FnOk Tryz.prog 55 f55_info Tryz.f55 where
  at_:=Tryz.func55
  body:=by kernel_rfl
  results:=by kernel_rfl
  ntmps:=by kernel_rfl
  params:=Nat.le_of_ble_eq_true (by kernel_rfl)
  name:=by kernel_rfl
theorem f139_ok:FnOk Tryz.prog 139 f139_info Tryz.f139 where
  at_:=Tryz.func139
  body:=by kernel_rfl
  results:=by kernel_rfl
  ntmps:=by kernel_rfl
  params:=Nat.le_of_ble_eq_true (by kernel_rfl)
  name:=by kernel_rfl
theorem f173_ok:FnOk Tryz.prog 173 f173_info Tryz.f173 where
  at_:=Tryz.func173
  body:=by kernel_rfl
  results:=by kernel_rfl
  ntmps:=by kernel_rfl
  params:=Nat.le_of_ble_eq_true (by kernel_rfl)
  name:=by kernel_rfl
theorem f174_ok:FnOk Tryz.prog 174 f174_info Tryz.f174 where
  at_:=Tryz.func174
  body:=by kernel_rfl
  results:=by kernel_rfl
  ntmps:=by kernel_rfl
  params:=Nat.le_of_ble_eq_true (by kernel_rfl)
  name:=by kernel_rfl
theorem f160_ok:FnOk Tryz.prog 160 f160_info Tryz.f160 where
  at_:=Tryz.func160
  body:=by kernel_rfl
  results:=by kernel_rfl
  ntmps:=by kernel_rfl
  params:=Nat.le_of_ble_eq_true (by kernel_rfl)
  name:=by kernel_rfl
theorem f161_ok:FnOk Tryz.prog 161 f161_info Tryz.f161 where
  at_:=Tryz.func161
  body:=by kernel_rfl
  results:=by kernel_rfl
  ntmps:=by kernel_rfl
  params:=Nat.le_of_ble_eq_true (by kernel_rfl)
  name:=by kernel_rfl
theorem f162_ok:FnOk Tryz.prog 162 f162_info Tryz.f162 where
  at_:=Tryz.func162
  body:=by kernel_rfl
  results:=by kernel_rfl
  ntmps:=by kernel_rfl
  params:=Nat.le_of_ble_eq_true (by kernel_rfl)
  name:=by kernel_rfl
theorem f141_ok:FnOk Tryz.prog 141 f141_info Tryz.f141 where
  at_:=Tryz.func141
  body:=by kernel_rfl
  results:=by kernel_rfl
  ntmps:=by kernel_rfl
  params:=Nat.le_of_ble_eq_true (by kernel_rfl)
  name:=by kernel_rfl
theorem f140_ok:FnOk Tryz.prog 140 f140_info Tryz.f140 where
  at_:=Tryz.func140
  body:=by kernel_rfl
  results:=by kernel_rfl
  ntmps:=by kernel_rfl
  params:=Nat.le_of_ble_eq_true (by kernel_rfl)
  name:=by kernel_rfl
theorem f116_ok:FnOk Tryz.prog 116 f116_info Tryz.f116 where
  at_:=Tryz.func116
  body:=by kernel_rfl
  results:=by kernel_rfl
  ntmps:=by kernel_rfl
  params:=Nat.le_of_ble_eq_true (by kernel_rfl)
  name:=by kernel_rfl
theorem f117_ok:FnOk Tryz.prog 117 f117_info Tryz.f117 where
  at_:=Tryz.func117
  body:=by kernel_rfl
  results:=by kernel_rfl
  ntmps:=by kernel_rfl
  params:=Nat.le_of_ble_eq_true (by kernel_rfl)
  name:=by kernel_rfl
theorem f87_ok:FnOk Tryz.prog 87 f87_info Tryz.f87 where
  at_:=Tryz.func87
  body:=by kernel_rfl
  results:=by kernel_rfl
  ntmps:=by kernel_rfl
  params:=Nat.le_of_ble_eq_true (by kernel_rfl)
  name:=by kernel_rfl
theorem f56_ok:FnOk Tryz.prog 56 f56_info Tryz.f56 where
  at_:=Tryz.func56
  body:=by kernel_rfl
  results:=by kernel_rfl
  ntmps:=by kernel_rfl
  params:=Nat.le_of_ble_eq_true (by kernel_rfl)
  name:=by kernel_rfl
theorem f27_ok:FnOk Tryz.prog 27 f27_info Tryz.f27 where
  at_:=Tryz.func27
  body:=by kernel_rfl
  results:=by kernel_rfl
  ntmps:=by kernel_rfl
  params:=Nat.le_of_ble_eq_true (by kernel_rfl)
  name:=by kernel_rfl
theorem f12_ok:FnOk Tryz.prog 12 f12_info Tryz.f12 where
  at_:=Tryz.func12
  body:=by kernel_rfl
  results:=by kernel_rfl
  ntmps:=by kernel_rfl
  params:=Nat.le_of_ble_eq_true (by kernel_rfl)
  name:=by kernel_rfl
theorem f101_ok:FnOk Tryz.prog 101 f101_info Tryz.f101 where
  at_:=Tryz.func101
  body:=by kernel_rfl
  results:=by kernel_rfl
  ntmps:=by kernel_rfl
  params:=Nat.le_of_ble_eq_true (by kernel_rfl)
  name:=by kernel_rfl
theorem f69_ok:FnOk Tryz.prog 69 f69_info Tryz.f69 where
  at_:=Tryz.func69
  body:=by kernel_rfl
  results:=by kernel_rfl
  ntmps:=by kernel_rfl
  params:=Nat.le_of_ble_eq_true (by kernel_rfl)
  name:=by kernel_rfl
theorem f37_ok:FnOk Tryz.prog 37 f37_info Tryz.f37 where
  at_:=Tryz.func37
  body:=by kernel_rfl
  results:=by kernel_rfl
  ntmps:=by kernel_rfl
  params:=Nat.le_of_ble_eq_true (by kernel_rfl)
  name:=by kernel_rfl
theorem f18_ok:FnOk Tryz.prog 18 f18_info Tryz.f18 where
  at_:=Tryz.func18
  body:=by kernel_rfl
  results:=by kernel_rfl
  ntmps:=by kernel_rfl
  params:=Nat.le_of_ble_eq_true (by kernel_rfl)
  name:=by kernel_rfl
theorem f46_ok:FnOk Tryz.prog 46 f46_info Tryz.f46 where
  at_:=Tryz.func46
  body:=by kernel_rfl
  results:=by kernel_rfl
  ntmps:=by kernel_rfl
  params:=Nat.le_of_ble_eq_true (by kernel_rfl)
  name:=by kernel_rfl
theorem f24_ok:FnOk Tryz.prog 24 f24_info Tryz.f24 where
  at_:=Tryz.func24
  body:=by kernel_rfl
  results:=by kernel_rfl
  ntmps:=by kernel_rfl
  params:=Nat.le_of_ble_eq_true (by kernel_rfl)
  name:=by kernel_rfl
theorem f20_ok:FnOk Tryz.prog 20 f20_info Tryz.f20 where
  at_:=Tryz.func20
  body:=by kernel_rfl
  results:=by kernel_rfl
  ntmps:=by kernel_rfl
  params:=Nat.le_of_ble_eq_true (by kernel_rfl)
  name:=by kernel_rfl
theorem f75_ok:FnOk Tryz.prog 75 f75_info Tryz.f75 where
  at_:=Tryz.func75
  body:=by kernel_rfl
  results:=by kernel_rfl
  ntmps:=by kernel_rfl
  params:=Nat.le_of_ble_eq_true (by kernel_rfl)
  name:=by kernel_rfl
theorem f42_ok:FnOk Tryz.prog 42 f42_info Tryz.f42 where
  at_:=Tryz.func42
  body:=by kernel_rfl
  results:=by kernel_rfl
  ntmps:=by kernel_rfl
  params:=Nat.le_of_ble_eq_true (by kernel_rfl)
  name:=by kernel_rfl
theorem f30_ok:FnOk Tryz.prog 30 f30_info Tryz.f30 where
  at_:=Tryz.func30
  body:=by kernel_rfl
  results:=by kernel_rfl
  ntmps:=by kernel_rfl
  params:=Nat.le_of_ble_eq_true (by kernel_rfl)
  name:=by kernel_rfl
theorem f13_ok:FnOk Tryz.prog 13 f13_info Tryz.f13 where
  at_:=Tryz.func13
  body:=by kernel_rfl
  results:=by kernel_rfl
  ntmps:=by kernel_rfl
  params:=Nat.le_of_ble_eq_true (by kernel_rfl)
  name:=by kernel_rfl
theorem f21_ok:FnOk Tryz.prog 21 f21_info Tryz.f21 where
  at_:=Tryz.func21
  body:=by kernel_rfl
  results:=by kernel_rfl
  ntmps:=by kernel_rfl
  params:=Nat.le_of_ble_eq_true (by kernel_rfl)
  name:=by kernel_rfl
theorem f5_ok:FnOk Tryz.prog 5 f5_info Tryz.f5 where
  at_:=Tryz.func5
  body:=by kernel_rfl
  results:=by kernel_rfl
  ntmps:=by kernel_rfl
  params:=Nat.le_of_ble_eq_true (by kernel_rfl)
  name:=by kernel_rfl
theorem f67_ok:FnOk Tryz.prog 67 f67_info Tryz.f67 where
  at_:=Tryz.func67
  body:=by kernel_rfl
  results:=by kernel_rfl
  ntmps:=by kernel_rfl
  params:=Nat.le_of_ble_eq_true (by kernel_rfl)
  name:=by kernel_rfl
theorem f35_ok:FnOk Tryz.prog 35 f35_info Tryz.f35 where
  at_:=Tryz.func35
  body:=by kernel_rfl
  results:=by kernel_rfl
  ntmps:=by kernel_rfl
  params:=Nat.le_of_ble_eq_true (by kernel_rfl)
  name:=by kernel_rfl
theorem types_ok:TyAll Tryz.prog G:=tyAll_of (by kernel_rfl) (by kernel_rfl) (by kernel_rfl) (by kernel_rfl)
theorem fns_ok:FnsAll Tryz.prog G.fns:=⟨⟨_,f172_ok⟩,⟨⟨_,f180_ok⟩,⟨⟨_,f51_ok⟩,⟨⟨_,f17_ok⟩,⟨⟨_,f159_ok⟩,⟨⟨_,f22_ok⟩,⟨⟨_,f6_ok⟩,⟨⟨_,f158_ok⟩,⟨⟨_,f137_ok⟩,⟨⟨_,f138_ok⟩,⟨⟨_,f115_ok⟩,⟨⟨_,f157_ok⟩,⟨⟨_,f136_ok⟩,⟨⟨_,f154_ok⟩,⟨⟨_,f169_ok⟩,⟨⟨_,f134_ok⟩,⟨⟨_,f188_ok⟩,⟨⟨_,f179_ok⟩,⟨⟨_,f177_ok⟩,⟨⟨_,f178_ok⟩,⟨⟨_,f170_ok⟩,⟨⟨_,f155_ok⟩,⟨⟨_,f171_ok⟩,⟨⟨_,f156_ok⟩,⟨⟨_,f135_ok⟩,⟨⟨_,f114_ok⟩,⟨⟨_,f86_ok⟩,⟨⟨_,f54_ok⟩,⟨⟨_,f113_ok⟩,⟨⟨_,f83_ok⟩,⟨⟨_,f84_ok⟩,⟨⟨_,f95_ok⟩,⟨⟨_,f61_ok⟩,⟨⟨_,f70_ok⟩,⟨⟨_,f105_ok⟩,⟨⟨_,f76_ok⟩,⟨⟨_,f150_ok⟩,⟨⟨_,f128_ok⟩,⟨⟨_,f127_ok⟩,⟨⟨_,f103_ok⟩,⟨⟨_,f125_ok⟩,⟨⟨_,f148_ok⟩,⟨⟨_,f166_ok⟩,⟨⟨_,f149_ok⟩,⟨⟨_,f126_ok⟩,⟨⟨_,f184_ok⟩,⟨⟨_,f175_ok⟩,⟨⟨_,f164_ok⟩,⟨⟨_,f145_ok⟩,⟨⟨_,f104_ok⟩,⟨⟨_,f72_ok⟩,⟨⟨_,f146_ok⟩,⟨⟨_,f123_ok⟩,⟨⟨_,f94_ok⟩,⟨⟨_,f60_ok⟩,⟨⟨_,f59_ok⟩,⟨⟨_,f96_ok⟩,⟨⟨_,f85_ok⟩,⟨⟨_,f53_ok⟩,⟨⟨_,f97_ok⟩,⟨⟨_,f62_ok⟩,⟨⟨_,f31_ok⟩,⟨⟨_,f63_ok⟩,⟨⟨_,f32_ok⟩,⟨⟨_,f14_ok⟩,⟨⟨_,f102_ok⟩,⟨⟨_,f71_ok⟩,⟨⟨_,f38_ok⟩,⟨⟨_,f26_ok⟩,⟨⟨_,f50_ok⟩,⟨⟨_,f186_ok⟩,⟨⟨_,f194_ok⟩,⟨⟨_,f202_ok⟩,⟨⟨_,f196_ok⟩,⟨⟨_,f187_ok⟩,⟨⟨_,f195_ok⟩,⟨⟨_,f185_ok⟩,⟨⟨_,f176_ok⟩,⟨⟨_,f167_ok⟩,⟨⟨_,f168_ok⟩,⟨⟨_,f152_ok⟩,⟨⟨_,f131_ok⟩,⟨⟨_,f111_ok⟩,⟨⟨_,f132_ok⟩,⟨⟨_,f153_ok⟩,⟨⟨_,f133_ok⟩,⟨⟨_,f112_ok⟩,⟨⟨_,f82_ok⟩,⟨⟨_,f52_ok⟩,⟨⟨_,f25_ok⟩,⟨⟨_,f11_ok⟩,⟨⟨_,f39_ok⟩,⟨⟨_,f43_ok⟩,⟨⟨_,f100_ok⟩,⟨⟨_,f68_ok⟩,⟨⟨_,f44_ok⟩,⟨⟨_,f45_ok⟩,⟨⟨_,f23_ok⟩,⟨⟨_,f40_ok⟩,⟨⟨_,f19_ok⟩,⟨⟨_,f10_ok⟩,⟨⟨_,f16_ok⟩,⟨⟨_,f122_ok⟩,⟨⟨_,f121_ok⟩,⟨⟨_,f109_ok⟩,⟨⟨_,f93_ok⟩,⟨⟨_,f92_ok⟩,⟨⟨_,f118_ok⟩,⟨⟨_,f119_ok⟩,⟨⟨_,f163_ok⟩,⟨⟨_,f143_ok⟩,⟨⟨_,f142_ok⟩,⟨⟨_,f144_ok⟩,⟨⟨_,f120_ok⟩,⟨⟨_,f91_ok⟩,⟨⟨_,f58_ok⟩,⟨⟨_,f29_ok⟩,⟨⟨_,f88_ok⟩,⟨⟨_,f90_ok⟩,⟨⟨_,f89_ok⟩,⟨⟨_,f57_ok⟩,⟨⟨_,f28_ok⟩,⟨⟨_,f80_ok⟩,⟨⟨_,f49_ok⟩,⟨⟨_,f73_ok⟩,⟨⟨_,f79_ok⟩,⟨⟨_,f48_ok⟩,⟨⟨_,f130_ok⟩,⟨⟨_,f108_ok⟩,⟨⟨_,f78_ok⟩,⟨⟨_,f106_ok⟩,⟨⟨_,f151_ok⟩,⟨⟨_,f129_ok⟩,⟨⟨_,f107_ok⟩,⟨⟨_,f165_ok⟩,⟨⟨_,f147_ok⟩,⟨⟨_,f124_ok⟩,⟨⟨_,f98_ok⟩,⟨⟨_,f74_ok⟩,⟨⟨_,f99_ok⟩,⟨⟨_,f64_ok⟩,⟨⟨_,f65_ok⟩,⟨⟨_,f33_ok⟩,⟨⟨_,f66_ok⟩,⟨⟨_,f34_ok⟩,⟨⟨_,f15_ok⟩,⟨⟨_,f77_ok⟩,⟨⟨_,f47_ok⟩,⟨⟨_,f41_ok⟩,⟨⟨_,f55_ok⟩,⟨⟨_,f139_ok⟩,⟨⟨_,f173_ok⟩,⟨⟨_,f174_ok⟩,⟨⟨_,f160_ok⟩,⟨⟨_,f161_ok⟩,⟨⟨_,f162_ok⟩,⟨⟨_,f141_ok⟩,⟨⟨_,f140_ok⟩,⟨⟨_,f116_ok⟩,⟨⟨_,f117_ok⟩,⟨⟨_,f87_ok⟩,⟨⟨_,f56_ok⟩,⟨⟨_,f27_ok⟩,⟨⟨_,f12_ok⟩,⟨⟨_,f101_ok⟩,⟨⟨_,f69_ok⟩,⟨⟨_,f37_ok⟩,⟨⟨_,f18_ok⟩,⟨⟨_,f46_ok⟩,⟨⟨_,f24_ok⟩,⟨⟨_,f20_ok⟩,⟨⟨_,f75_ok⟩,⟨⟨_,f42_ok⟩,⟨⟨_,f30_ok⟩,⟨⟨_,f13_ok⟩,⟨⟨_,f21_ok⟩,⟨⟨_,f5_ok⟩,⟨⟨_,f67_ok⟩,⟨⟨_,f35_ok⟩,trivial⟩⟩⟩⟩⟩⟩⟩⟩⟩⟩⟩⟩⟩⟩⟩⟩⟩⟩⟩⟩⟩⟩⟩⟩⟩⟩⟩⟩⟩⟩⟩⟩⟩⟩⟩⟩⟩⟩⟩⟩⟩⟩⟩⟩⟩⟩⟩⟩⟩⟩⟩⟩⟩⟩⟩⟩⟩⟩⟩⟩⟩⟩⟩⟩⟩⟩⟩⟩⟩⟩⟩⟩⟩⟩⟩⟩⟩⟩⟩⟩⟩⟩⟩⟩⟩⟩⟩⟩⟩⟩⟩⟩⟩⟩⟩⟩⟩⟩⟩⟩⟩⟩⟩⟩⟩⟩⟩⟩⟩⟩⟩⟩⟩⟩⟩⟩⟩⟩⟩⟩⟩⟩⟩⟩⟩⟩⟩⟩⟩⟩⟩⟩⟩⟩⟩⟩⟩⟩⟩⟩⟩⟩⟩⟩⟩⟩⟩⟩⟩⟩⟩⟩⟩⟩⟩⟩⟩⟩⟩⟩⟩⟩⟩⟩⟩⟩⟩⟩⟩⟩⟩⟩⟩⟩⟩⟩⟩⟩⟩
end Go.Proofs.YteiahdlklppghaaGreat.Ev


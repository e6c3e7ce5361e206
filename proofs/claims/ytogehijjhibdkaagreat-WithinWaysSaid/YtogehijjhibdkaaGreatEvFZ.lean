/- The functions are those of the program. -/
import Derived.Test.YtogehijjhibdkaaGreatEvFB
import Derived.Test.YtogehijjhibdkaaGreatEvFC
import Derived.Test.YtogehijjhibdkaaGreatEvFD
import Derived.Test.YtogehijjhibdkaaGreatEvFE
namespace Go.Proofs.YtogehijjhibdkaaGreat.Ev
open Go Go.RowKit
set_option maxRecDepth 100000


theorem f195_ok : FnOk Tryz.prog 195 f195_info Tryz.f195 where
  at_ := Tryz.func195
  body := by kernel_rfl
  results := by kernel_rfl
  ntmps := by kernel_rfl
  params := Nat.le_of_ble_eq_true (by kernel_rfl)
  name := by kernel_rfl

theorem f211_ok : FnOk Tryz.prog 211 f211_info Tryz.f211 where
  at_ := Tryz.func211
  body := by kernel_rfl
  results := by kernel_rfl
  ntmps := by kernel_rfl
  params := Nat.le_of_ble_eq_true (by kernel_rfl)
  name := by kernel_rfl

theorem f190_ok : FnOk Tryz.prog 190 f190_info Tryz.f190 where
  at_ := Tryz.func190
  body := by kernel_rfl
  results := by kernel_rfl
  ntmps := by kernel_rfl
  params := Nat.le_of_ble_eq_true (by kernel_rfl)
  name := by kernel_rfl

theorem f46_ok : FnOk Tryz.prog 46 f46_info Tryz.f46 where
  at_ := Tryz.func46
  body := by kernel_rfl
  results := by kernel_rfl
  ntmps := by kernel_rfl
  params := Nat.le_of_ble_eq_true (by kernel_rfl)
  name := by kernel_rfl

theorem f27_ok : FnOk Tryz.prog 27 f27_info Tryz.f27 where
  at_ := Tryz.func27
  body := by kernel_rfl
  results := by kernel_rfl
  ntmps := by kernel_rfl
  params := Nat.le_of_ble_eq_true (by kernel_rfl)
  name := by kernel_rfl

theorem f37_ok : FnOk Tryz.prog 37 f37_info Tryz.f37 where
  at_ := Tryz.func37
  body := by kernel_rfl
  results := by kernel_rfl
  ntmps := by kernel_rfl
  params := Nat.le_of_ble_eq_true (by kernel_rfl)
  name := by kernel_rfl

theorem f9_ok : FnOk Tryz.prog 9 f9_info Tryz.f9 where
  at_ := Tryz.func9
  body := by kernel_rfl
  results := by kernel_rfl
  ntmps := by kernel_rfl
  params := Nat.le_of_ble_eq_true (by kernel_rfl)
  name := by kernel_rfl

theorem f69_ok : FnOk Tryz.prog 69 f69_info Tryz.f69 where
  at_ := Tryz.func69
  body := by kernel_rfl
  results := by kernel_rfl
  ntmps := by kernel_rfl
  params := Nat.le_of_ble_eq_true (by kernel_rfl)
  name := by kernel_rfl

theorem f35_ok : FnOk Tryz.prog 35 f35_info Tryz.f35 where
  at_ := Tryz.func35
  body := by kernel_rfl
  results := by kernel_rfl
  ntmps := by kernel_rfl
  params := Nat.le_of_ble_eq_true (by kernel_rfl)
  name := by kernel_rfl

theorem f135_ok : FnOk Tryz.prog 135 f135_info Tryz.f135 where
  at_ := Tryz.func135
  body := by kernel_rfl
  results := by kernel_rfl
  ntmps := by kernel_rfl
  params := Nat.le_of_ble_eq_true (by kernel_rfl)
  name := by kernel_rfl

theorem f103_ok : FnOk Tryz.prog 103 f103_info Tryz.f103 where
  at_ := Tryz.func103
  body := by kernel_rfl
  results := by kernel_rfl
  ntmps := by kernel_rfl
  params := Nat.le_of_ble_eq_true (by kernel_rfl)
  name := by kernel_rfl

theorem f33_ok : FnOk Tryz.prog 33 f33_info Tryz.f33 where
  at_ := Tryz.func33
  body := by kernel_rfl
  results := by kernel_rfl
  ntmps := by kernel_rfl
  params := Nat.le_of_ble_eq_true (by kernel_rfl)
  name := by kernel_rfl

theorem f174_ok : FnOk Tryz.prog 174 f174_info Tryz.f174 where
  at_ := Tryz.func174
  body := by kernel_rfl
  results := by kernel_rfl
  ntmps := by kernel_rfl
  params := Nat.le_of_ble_eq_true (by kernel_rfl)
  name := by kernel_rfl

theorem f144_ok : FnOk Tryz.prog 144 f144_info Tryz.f144 where
  at_ := Tryz.func144
  body := by kernel_rfl
  results := by kernel_rfl
  ntmps := by kernel_rfl
  params := Nat.le_of_ble_eq_true (by kernel_rfl)
  name := by kernel_rfl

theorem f145_ok : FnOk Tryz.prog 145 f145_info Tryz.f145 where
  at_ := Tryz.func145
  body := by kernel_rfl
  results := by kernel_rfl
  ntmps := by kernel_rfl
  params := Nat.le_of_ble_eq_true (by kernel_rfl)
  name := by kernel_rfl

theorem f115_ok : FnOk Tryz.prog 115 f115_info Tryz.f115 where
  at_ := Tryz.func115
  body := by kernel_rfl
  results := by kernel_rfl
  ntmps := by kernel_rfl
  params := Nat.le_of_ble_eq_true (by kernel_rfl)
  name := by kernel_rfl

theorem f173_ok : FnOk Tryz.prog 173 f173_info Tryz.f173 where
  at_ := Tryz.func173
  body := by kernel_rfl
  results := by kernel_rfl
  ntmps := by kernel_rfl
  params := Nat.le_of_ble_eq_true (by kernel_rfl)
  name := by kernel_rfl

theorem f143_ok : FnOk Tryz.prog 143 f143_info Tryz.f143 where
  at_ := Tryz.func143
  body := by kernel_rfl
  results := by kernel_rfl
  ntmps := by kernel_rfl
  params := Nat.le_of_ble_eq_true (by kernel_rfl)
  name := by kernel_rfl

theorem f170_ok : FnOk Tryz.prog 170 f170_info Tryz.f170 where
  at_ := Tryz.func170
  body := by kernel_rfl
  results := by kernel_rfl
  ntmps := by kernel_rfl
  params := Nat.le_of_ble_eq_true (by kernel_rfl)
  name := by kernel_rfl

theorem f192_ok : FnOk Tryz.prog 192 f192_info Tryz.f192 where
  at_ := Tryz.func192
  body := by kernel_rfl
  results := by kernel_rfl
  ntmps := by kernel_rfl
  params := Nat.le_of_ble_eq_true (by kernel_rfl)
  name := by kernel_rfl

theorem f141_ok : FnOk Tryz.prog 141 f141_info Tryz.f141 where
  at_ := Tryz.func141
  body := by kernel_rfl
  results := by kernel_rfl
  ntmps := by kernel_rfl
  params := Nat.le_of_ble_eq_true (by kernel_rfl)
  name := by kernel_rfl

theorem f218_ok : FnOk Tryz.prog 218 f218_info Tryz.f218 where
  at_ := Tryz.func218
  body := by kernel_rfl
  results := by kernel_rfl
  ntmps := by kernel_rfl
  params := Nat.le_of_ble_eq_true (by kernel_rfl)
  name := by kernel_rfl

theorem f210_ok : FnOk Tryz.prog 210 f210_info Tryz.f210 where
  at_ := Tryz.func210
  body := by kernel_rfl
  results := by kernel_rfl
  ntmps := by kernel_rfl
  params := Nat.le_of_ble_eq_true (by kernel_rfl)
  name := by kernel_rfl

theorem f208_ok : FnOk Tryz.prog 208 f208_info Tryz.f208 where
  at_ := Tryz.func208
  body := by kernel_rfl
  results := by kernel_rfl
  ntmps := by kernel_rfl
  params := Nat.le_of_ble_eq_true (by kernel_rfl)
  name := by kernel_rfl

theorem f209_ok : FnOk Tryz.prog 209 f209_info Tryz.f209 where
  at_ := Tryz.func209
  body := by kernel_rfl
  results := by kernel_rfl
  ntmps := by kernel_rfl
  params := Nat.le_of_ble_eq_true (by kernel_rfl)
  name := by kernel_rfl

theorem f193_ok : FnOk Tryz.prog 193 f193_info Tryz.f193 where
  at_ := Tryz.func193
  body := by kernel_rfl
  results := by kernel_rfl
  ntmps := by kernel_rfl
  params := Nat.le_of_ble_eq_true (by kernel_rfl)
  name := by kernel_rfl

theorem f171_ok : FnOk Tryz.prog 171 f171_info Tryz.f171 where
  at_ := Tryz.func171
  body := by kernel_rfl
  results := by kernel_rfl
  ntmps := by kernel_rfl
  params := Nat.le_of_ble_eq_true (by kernel_rfl)
  name := by kernel_rfl

theorem f194_ok : FnOk Tryz.prog 194 f194_info Tryz.f194 where
  at_ := Tryz.func194
  body := by kernel_rfl
  results := by kernel_rfl
  ntmps := by kernel_rfl
  params := Nat.le_of_ble_eq_true (by kernel_rfl)
  name := by kernel_rfl

theorem f172_ok : FnOk Tryz.prog 172 f172_info Tryz.f172 where
  at_ := Tryz.func172
  body := by kernel_rfl
  results := by kernel_rfl
  ntmps := by kernel_rfl
  params := Nat.le_of_ble_eq_true (by kernel_rfl)
  name := by kernel_rfl

theorem f142_ok : FnOk Tryz.prog 142 f142_info Tryz.f142 where
  at_ := Tryz.func142
  body := by kernel_rfl
  results := by kernel_rfl
  ntmps := by kernel_rfl
  params := Nat.le_of_ble_eq_true (by kernel_rfl)
  name := by kernel_rfl

theorem f114_ok : FnOk Tryz.prog 114 f114_info Tryz.f114 where
  at_ := Tryz.func114
  body := by kernel_rfl
  results := by kernel_rfl
  ntmps := by kernel_rfl
  params := Nat.le_of_ble_eq_true (by kernel_rfl)
  name := by kernel_rfl

theorem f79_ok : FnOk Tryz.prog 79 f79_info Tryz.f79 where
  at_ := Tryz.func79
  body := by kernel_rfl
  results := by kernel_rfl
  ntmps := by kernel_rfl
  params := Nat.le_of_ble_eq_true (by kernel_rfl)
  name := by kernel_rfl

theorem f113_ok : FnOk Tryz.prog 113 f113_info Tryz.f113 where
  at_ := Tryz.func113
  body := by kernel_rfl
  results := by kernel_rfl
  ntmps := by kernel_rfl
  params := Nat.le_of_ble_eq_true (by kernel_rfl)
  name := by kernel_rfl

theorem f76_ok : FnOk Tryz.prog 76 f76_info Tryz.f76 where
  at_ := Tryz.func76
  body := by kernel_rfl
  results := by kernel_rfl
  ntmps := by kernel_rfl
  params := Nat.le_of_ble_eq_true (by kernel_rfl)
  name := by kernel_rfl

theorem f77_ok : FnOk Tryz.prog 77 f77_info Tryz.f77 where
  at_ := Tryz.func77
  body := by kernel_rfl
  results := by kernel_rfl
  ntmps := by kernel_rfl
  params := Nat.le_of_ble_eq_true (by kernel_rfl)
  name := by kernel_rfl

theorem f73_ok : FnOk Tryz.prog 73 f73_info Tryz.f73 where
  at_ := Tryz.func73
  body := by kernel_rfl
  results := by kernel_rfl
  ntmps := by kernel_rfl
  params := Nat.le_of_ble_eq_true (by kernel_rfl)
  name := by kernel_rfl

theorem f149_ok : FnOk Tryz.prog 149 f149_info Tryz.f149 where
  at_ := Tryz.func149
  body := by kernel_rfl
  results := by kernel_rfl
  ntmps := by kernel_rfl
  params := Nat.le_of_ble_eq_true (by kernel_rfl)
  name := by kernel_rfl

theorem f189_ok : FnOk Tryz.prog 189 f189_info Tryz.f189 where
  at_ := Tryz.func189
  body := by kernel_rfl
  results := by kernel_rfl
  ntmps := by kernel_rfl
  params := Nat.le_of_ble_eq_true (by kernel_rfl)
  name := by kernel_rfl

theorem f166_ok : FnOk Tryz.prog 166 f166_info Tryz.f166 where
  at_ := Tryz.func166
  body := by kernel_rfl
  results := by kernel_rfl
  ntmps := by kernel_rfl
  params := Nat.le_of_ble_eq_true (by kernel_rfl)
  name := by kernel_rfl

theorem f188_ok : FnOk Tryz.prog 188 f188_info Tryz.f188 where
  at_ := Tryz.func188
  body := by kernel_rfl
  results := by kernel_rfl
  ntmps := by kernel_rfl
  params := Nat.le_of_ble_eq_true (by kernel_rfl)
  name := by kernel_rfl

theorem f165_ok : FnOk Tryz.prog 165 f165_info Tryz.f165 where
  at_ := Tryz.func165
  body := by kernel_rfl
  results := by kernel_rfl
  ntmps := by kernel_rfl
  params := Nat.le_of_ble_eq_true (by kernel_rfl)
  name := by kernel_rfl

theorem f205_ok : FnOk Tryz.prog 205 f205_info Tryz.f205 where
  at_ := Tryz.func205
  body := by kernel_rfl
  results := by kernel_rfl
  ntmps := by kernel_rfl
  params := Nat.le_of_ble_eq_true (by kernel_rfl)
  name := by kernel_rfl

theorem f187_ok : FnOk Tryz.prog 187 f187_info Tryz.f187 where
  at_ := Tryz.func187
  body := by kernel_rfl
  results := by kernel_rfl
  ntmps := by kernel_rfl
  params := Nat.le_of_ble_eq_true (by kernel_rfl)
  name := by kernel_rfl

theorem f167_ok : FnOk Tryz.prog 167 f167_info Tryz.f167 where
  at_ := Tryz.func167
  body := by kernel_rfl
  results := by kernel_rfl
  ntmps := by kernel_rfl
  params := Nat.le_of_ble_eq_true (by kernel_rfl)
  name := by kernel_rfl

theorem f191_ok : FnOk Tryz.prog 191 f191_info Tryz.f191 where
  at_ := Tryz.func191
  body := by kernel_rfl
  results := by kernel_rfl
  ntmps := by kernel_rfl
  params := Nat.le_of_ble_eq_true (by kernel_rfl)
  name := by kernel_rfl

theorem f168_ok : FnOk Tryz.prog 168 f168_info Tryz.f168 where
  at_ := Tryz.func168
  body := by kernel_rfl
  results := by kernel_rfl
  ntmps := by kernel_rfl
  params := Nat.le_of_ble_eq_true (by kernel_rfl)
  name := by kernel_rfl

theorem f138_ok : FnOk Tryz.prog 138 f138_info Tryz.f138 where
  at_ := Tryz.func138
  body := by kernel_rfl
  results := by kernel_rfl
  ntmps := by kernel_rfl
  params := Nat.le_of_ble_eq_true (by kernel_rfl)
  name := by kernel_rfl

theorem f110_ok : FnOk Tryz.prog 110 f110_info Tryz.f110 where
  at_ := Tryz.func110
  body := by kernel_rfl
  results := by kernel_rfl
  ntmps := by kernel_rfl
  params := Nat.le_of_ble_eq_true (by kernel_rfl)
  name := by kernel_rfl

theorem f136_ok : FnOk Tryz.prog 136 f136_info Tryz.f136 where
  at_ := Tryz.func136
  body := by kernel_rfl
  results := by kernel_rfl
  ntmps := by kernel_rfl
  params := Nat.le_of_ble_eq_true (by kernel_rfl)
  name := by kernel_rfl

theorem f107_ok : FnOk Tryz.prog 107 f107_info Tryz.f107 where
  at_ := Tryz.func107
  body := by kernel_rfl
  results := by kernel_rfl
  ntmps := by kernel_rfl
  params := Nat.le_of_ble_eq_true (by kernel_rfl)
  name := by kernel_rfl

theorem f109_ok : FnOk Tryz.prog 109 f109_info Tryz.f109 where
  at_ := Tryz.func109
  body := by kernel_rfl
  results := by kernel_rfl
  ntmps := by kernel_rfl
  params := Nat.le_of_ble_eq_true (by kernel_rfl)
  name := by kernel_rfl

theorem f70_ok : FnOk Tryz.prog 70 f70_info Tryz.f70 where
  at_ := Tryz.func70
  body := by kernel_rfl
  results := by kernel_rfl
  ntmps := by kernel_rfl
  params := Nat.le_of_ble_eq_true (by kernel_rfl)
  name := by kernel_rfl

theorem f111_ok : FnOk Tryz.prog 111 f111_info Tryz.f111 where
  at_ := Tryz.func111
  body := by kernel_rfl
  results := by kernel_rfl
  ntmps := by kernel_rfl
  params := Nat.le_of_ble_eq_true (by kernel_rfl)
  name := by kernel_rfl

theorem f71_ok : FnOk Tryz.prog 71 f71_info Tryz.f71 where
  at_ := Tryz.func71
  body := by kernel_rfl
  results := by kernel_rfl
  ntmps := by kernel_rfl
  params := Nat.le_of_ble_eq_true (by kernel_rfl)
  name := by kernel_rfl

theorem f36_ok : FnOk Tryz.prog 36 f36_info Tryz.f36 where
  at_ := Tryz.func36
  body := by kernel_rfl
  results := by kernel_rfl
  ntmps := by kernel_rfl
  params := Nat.le_of_ble_eq_true (by kernel_rfl)
  name := by kernel_rfl

theorem f34_ok : FnOk Tryz.prog 34 f34_info Tryz.f34 where
  at_ := Tryz.func34
  body := by kernel_rfl
  results := by kernel_rfl
  ntmps := by kernel_rfl
  params := Nat.le_of_ble_eq_true (by kernel_rfl)
  name := by kernel_rfl

theorem f38_ok : FnOk Tryz.prog 38 f38_info Tryz.f38 where
  at_ := Tryz.func38
  body := by kernel_rfl
  results := by kernel_rfl
  ntmps := by kernel_rfl
  params := Nat.le_of_ble_eq_true (by kernel_rfl)
  name := by kernel_rfl

theorem f10_ok : FnOk Tryz.prog 10 f10_info Tryz.f10 where
  at_ := Tryz.func10
  body := by kernel_rfl
  results := by kernel_rfl
  ntmps := by kernel_rfl
  params := Nat.le_of_ble_eq_true (by kernel_rfl)
  name := by kernel_rfl

theorem f44_ok : FnOk Tryz.prog 44 f44_info Tryz.f44 where
  at_ := Tryz.func44
  body := by kernel_rfl
  results := by kernel_rfl
  ntmps := by kernel_rfl
  params := Nat.le_of_ble_eq_true (by kernel_rfl)
  name := by kernel_rfl

theorem f41_ok : FnOk Tryz.prog 41 f41_info Tryz.f41 where
  at_ := Tryz.func41
  body := by kernel_rfl
  results := by kernel_rfl
  ntmps := by kernel_rfl
  params := Nat.le_of_ble_eq_true (by kernel_rfl)
  name := by kernel_rfl

theorem f97_ok : FnOk Tryz.prog 97 f97_info Tryz.f97 where
  at_ := Tryz.func97
  body := by kernel_rfl
  results := by kernel_rfl
  ntmps := by kernel_rfl
  params := Nat.le_of_ble_eq_true (by kernel_rfl)
  name := by kernel_rfl

theorem f119_ok : FnOk Tryz.prog 119 f119_info Tryz.f119 where
  at_ := Tryz.func119
  body := by kernel_rfl
  results := by kernel_rfl
  ntmps := by kernel_rfl
  params := Nat.le_of_ble_eq_true (by kernel_rfl)
  name := by kernel_rfl

theorem f164_ok : FnOk Tryz.prog 164 f164_info Tryz.f164 where
  at_ := Tryz.func164
  body := by kernel_rfl
  results := by kernel_rfl
  ntmps := by kernel_rfl
  params := Nat.le_of_ble_eq_true (by kernel_rfl)
  name := by kernel_rfl

theorem f134_ok : FnOk Tryz.prog 134 f134_info Tryz.f134 where
  at_ := Tryz.func134
  body := by kernel_rfl
  results := by kernel_rfl
  ntmps := by kernel_rfl
  params := Nat.le_of_ble_eq_true (by kernel_rfl)
  name := by kernel_rfl

theorem f162_ok : FnOk Tryz.prog 162 f162_info Tryz.f162 where
  at_ := Tryz.func162
  body := by kernel_rfl
  results := by kernel_rfl
  ntmps := by kernel_rfl
  params := Nat.le_of_ble_eq_true (by kernel_rfl)
  name := by kernel_rfl

theorem f186_ok : FnOk Tryz.prog 186 f186_info Tryz.f186 where
  at_ := Tryz.func186
  body := by kernel_rfl
  results := by kernel_rfl
  ntmps := by kernel_rfl
  params := Nat.le_of_ble_eq_true (by kernel_rfl)
  name := by kernel_rfl

theorem f163_ok : FnOk Tryz.prog 163 f163_info Tryz.f163 where
  at_ := Tryz.func163
  body := by kernel_rfl
  results := by kernel_rfl
  ntmps := by kernel_rfl
  params := Nat.le_of_ble_eq_true (by kernel_rfl)
  name := by kernel_rfl

theorem f169_ok : FnOk Tryz.prog 169 f169_info Tryz.f169 where
  at_ := Tryz.func169
  body := by kernel_rfl
  results := by kernel_rfl
  ntmps := by kernel_rfl
  params := Nat.le_of_ble_eq_true (by kernel_rfl)
  name := by kernel_rfl

theorem f139_ok : FnOk Tryz.prog 139 f139_info Tryz.f139 where
  at_ := Tryz.func139
  body := by kernel_rfl
  results := by kernel_rfl
  ntmps := by kernel_rfl
  params := Nat.le_of_ble_eq_true (by kernel_rfl)
  name := by kernel_rfl

theorem f99_ok : FnOk Tryz.prog 99 f99_info Tryz.f99 where
  at_ := Tryz.func99
  body := by kernel_rfl
  results := by kernel_rfl
  ntmps := by kernel_rfl
  params := Nat.le_of_ble_eq_true (by kernel_rfl)
  name := by kernel_rfl

theorem f140_ok : FnOk Tryz.prog 140 f140_info Tryz.f140 where
  at_ := Tryz.func140
  body := by kernel_rfl
  results := by kernel_rfl
  ntmps := by kernel_rfl
  params := Nat.le_of_ble_eq_true (by kernel_rfl)
  name := by kernel_rfl

theorem f112_ok : FnOk Tryz.prog 112 f112_info Tryz.f112 where
  at_ := Tryz.func112
  body := by kernel_rfl
  results := by kernel_rfl
  ntmps := by kernel_rfl
  params := Nat.le_of_ble_eq_true (by kernel_rfl)
  name := by kernel_rfl

theorem f72_ok : FnOk Tryz.prog 72 f72_info Tryz.f72 where
  at_ := Tryz.func72
  body := by kernel_rfl
  results := by kernel_rfl
  ntmps := by kernel_rfl
  params := Nat.le_of_ble_eq_true (by kernel_rfl)
  name := by kernel_rfl

theorem f40_ok : FnOk Tryz.prog 40 f40_info Tryz.f40 where
  at_ := Tryz.func40
  body := by kernel_rfl
  results := by kernel_rfl
  ntmps := by kernel_rfl
  params := Nat.le_of_ble_eq_true (by kernel_rfl)
  name := by kernel_rfl

theorem f39_ok : FnOk Tryz.prog 39 f39_info Tryz.f39 where
  at_ := Tryz.func39
  body := by kernel_rfl
  results := by kernel_rfl
  ntmps := by kernel_rfl
  params := Nat.le_of_ble_eq_true (by kernel_rfl)
  name := by kernel_rfl

theorem f74_ok : FnOk Tryz.prog 74 f74_info Tryz.f74 where
  at_ := Tryz.func74
  body := by kernel_rfl
  results := by kernel_rfl
  ntmps := by kernel_rfl
  params := Nat.le_of_ble_eq_true (by kernel_rfl)
  name := by kernel_rfl

theorem f78_ok : FnOk Tryz.prog 78 f78_info Tryz.f78 where
  at_ := Tryz.func78
  body := by kernel_rfl
  results := by kernel_rfl
  ntmps := by kernel_rfl
  params := Nat.le_of_ble_eq_true (by kernel_rfl)
  name := by kernel_rfl

theorem f43_ok : FnOk Tryz.prog 43 f43_info Tryz.f43 where
  at_ := Tryz.func43
  body := by kernel_rfl
  results := by kernel_rfl
  ntmps := by kernel_rfl
  params := Nat.le_of_ble_eq_true (by kernel_rfl)
  name := by kernel_rfl

theorem f75_ok : FnOk Tryz.prog 75 f75_info Tryz.f75 where
  at_ := Tryz.func75
  body := by kernel_rfl
  results := by kernel_rfl
  ntmps := by kernel_rfl
  params := Nat.le_of_ble_eq_true (by kernel_rfl)
  name := by kernel_rfl

theorem f42_ok : FnOk Tryz.prog 42 f42_info Tryz.f42 where
  at_ := Tryz.func42
  body := by kernel_rfl
  results := by kernel_rfl
  ntmps := by kernel_rfl
  params := Nat.le_of_ble_eq_true (by kernel_rfl)
  name := by kernel_rfl

theorem f11_ok : FnOk Tryz.prog 11 f11_info Tryz.f11 where
  at_ := Tryz.func11
  body := by kernel_rfl
  results := by kernel_rfl
  ntmps := by kernel_rfl
  params := Nat.le_of_ble_eq_true (by kernel_rfl)
  name := by kernel_rfl

theorem f24_ok : FnOk Tryz.prog 24 f24_info Tryz.f24 where
  at_ := Tryz.func24
  body := by kernel_rfl
  results := by kernel_rfl
  ntmps := by kernel_rfl
  params := Nat.le_of_ble_eq_true (by kernel_rfl)
  name := by kernel_rfl

theorem f13_ok : FnOk Tryz.prog 13 f13_info Tryz.f13 where
  at_ := Tryz.func13
  body := by kernel_rfl
  results := by kernel_rfl
  ntmps := by kernel_rfl
  params := Nat.le_of_ble_eq_true (by kernel_rfl)
  name := by kernel_rfl

theorem f45_ok : FnOk Tryz.prog 45 f45_info Tryz.f45 where
  at_ := Tryz.func45
  body := by kernel_rfl
  results := by kernel_rfl
  ntmps := by kernel_rfl
  params := Nat.le_of_ble_eq_true (by kernel_rfl)
  name := by kernel_rfl

theorem f225_ok : FnOk Tryz.prog 225 f225_info Tryz.f225 where
  at_ := Tryz.func225
  body := by kernel_rfl
  results := by kernel_rfl
  ntmps := by kernel_rfl
  params := Nat.le_of_ble_eq_true (by kernel_rfl)
  name := by kernel_rfl

theorem f232_ok : FnOk Tryz.prog 232 f232_info Tryz.f232 where
  at_ := Tryz.func232
  body := by kernel_rfl
  results := by kernel_rfl
  ntmps := by kernel_rfl
  params := Nat.le_of_ble_eq_true (by kernel_rfl)
  name := by kernel_rfl

theorem f235_ok : FnOk Tryz.prog 235 f235_info Tryz.f235 where
  at_ := Tryz.func235
  body := by kernel_rfl
  results := by kernel_rfl
  ntmps := by kernel_rfl
  params := Nat.le_of_ble_eq_true (by kernel_rfl)
  name := by kernel_rfl

theorem f234_ok : FnOk Tryz.prog 234 f234_info Tryz.f234 where
  at_ := Tryz.func234
  body := by kernel_rfl
  results := by kernel_rfl
  ntmps := by kernel_rfl
  params := Nat.le_of_ble_eq_true (by kernel_rfl)
  name := by kernel_rfl

theorem f226_ok : FnOk Tryz.prog 226 f226_info Tryz.f226 where
  at_ := Tryz.func226
  body := by kernel_rfl
  results := by kernel_rfl
  ntmps := by kernel_rfl
  params := Nat.le_of_ble_eq_true (by kernel_rfl)
  name := by kernel_rfl

theorem f233_ok : FnOk Tryz.prog 233 f233_info Tryz.f233 where
  at_ := Tryz.func233
  body := by kernel_rfl
  results := by kernel_rfl
  ntmps := by kernel_rfl
  params := Nat.le_of_ble_eq_true (by kernel_rfl)
  name := by kernel_rfl

theorem f224_ok : FnOk Tryz.prog 224 f224_info Tryz.f224 where
  at_ := Tryz.func224
  body := by kernel_rfl
  results := by kernel_rfl
  ntmps := by kernel_rfl
  params := Nat.le_of_ble_eq_true (by kernel_rfl)
  name := by kernel_rfl

theorem f215_ok : FnOk Tryz.prog 215 f215_info Tryz.f215 where
  at_ := Tryz.func215
  body := by kernel_rfl
  results := by kernel_rfl
  ntmps := by kernel_rfl
  params := Nat.le_of_ble_eq_true (by kernel_rfl)
  name := by kernel_rfl

theorem f196_ok : FnOk Tryz.prog 196 f196_info Tryz.f196 where
  at_ := Tryz.func196
  body := by kernel_rfl
  results := by kernel_rfl
  ntmps := by kernel_rfl
  params := Nat.le_of_ble_eq_true (by kernel_rfl)
  name := by kernel_rfl

theorem f197_ok : FnOk Tryz.prog 197 f197_info Tryz.f197 where
  at_ := Tryz.func197
  body := by kernel_rfl
  results := by kernel_rfl
  ntmps := by kernel_rfl
  params := Nat.le_of_ble_eq_true (by kernel_rfl)
  name := by kernel_rfl

theorem f175_ok : FnOk Tryz.prog 175 f175_info Tryz.f175 where
  at_ := Tryz.func175
  body := by kernel_rfl
  results := by kernel_rfl
  ntmps := by kernel_rfl
  params := Nat.le_of_ble_eq_true (by kernel_rfl)
  name := by kernel_rfl

theorem f146_ok : FnOk Tryz.prog 146 f146_info Tryz.f146 where
  at_ := Tryz.func146
  body := by kernel_rfl
  results := by kernel_rfl
  ntmps := by kernel_rfl
  params := Nat.le_of_ble_eq_true (by kernel_rfl)
  name := by kernel_rfl

theorem f117_ok : FnOk Tryz.prog 117 f117_info Tryz.f117 where
  at_ := Tryz.func117
  body := by kernel_rfl
  results := by kernel_rfl
  ntmps := by kernel_rfl
  params := Nat.le_of_ble_eq_true (by kernel_rfl)
  name := by kernel_rfl

theorem f147_ok : FnOk Tryz.prog 147 f147_info Tryz.f147 where
  at_ := Tryz.func147
  body := by kernel_rfl
  results := by kernel_rfl
  ntmps := by kernel_rfl
  params := Nat.le_of_ble_eq_true (by kernel_rfl)
  name := by kernel_rfl

theorem f176_ok : FnOk Tryz.prog 176 f176_info Tryz.f176 where
  at_ := Tryz.func176
  body := by kernel_rfl
  results := by kernel_rfl
  ntmps := by kernel_rfl
  params := Nat.le_of_ble_eq_true (by kernel_rfl)
  name := by kernel_rfl

theorem f148_ok : FnOk Tryz.prog 148 f148_info Tryz.f148 where
  at_ := Tryz.func148
  body := by kernel_rfl
  results := by kernel_rfl
  ntmps := by kernel_rfl
  params := Nat.le_of_ble_eq_true (by kernel_rfl)
  name := by kernel_rfl

theorem f118_ok : FnOk Tryz.prog 118 f118_info Tryz.f118 where
  at_ := Tryz.func118
  body := by kernel_rfl
  results := by kernel_rfl
  ntmps := by kernel_rfl
  params := Nat.le_of_ble_eq_true (by kernel_rfl)
  name := by kernel_rfl

theorem f81_ok : FnOk Tryz.prog 81 f81_info Tryz.f81 where
  at_ := Tryz.func81
  body := by kernel_rfl
  results := by kernel_rfl
  ntmps := by kernel_rfl
  params := Nat.le_of_ble_eq_true (by kernel_rfl)
  name := by kernel_rfl

theorem f47_ok : FnOk Tryz.prog 47 f47_info Tryz.f47 where
  at_ := Tryz.func47
  body := by kernel_rfl
  results := by kernel_rfl
  ntmps := by kernel_rfl
  params := Nat.le_of_ble_eq_true (by kernel_rfl)
  name := by kernel_rfl

theorem f14_ok : FnOk Tryz.prog 14 f14_info Tryz.f14 where
  at_ := Tryz.func14
  body := by kernel_rfl
  results := by kernel_rfl
  ntmps := by kernel_rfl
  params := Nat.le_of_ble_eq_true (by kernel_rfl)
  name := by kernel_rfl

theorem f21_ok : FnOk Tryz.prog 21 f21_info Tryz.f21 where
  at_ := Tryz.func21
  body := by kernel_rfl
  results := by kernel_rfl
  ntmps := by kernel_rfl
  params := Nat.le_of_ble_eq_true (by kernel_rfl)
  name := by kernel_rfl

theorem f83_ok : FnOk Tryz.prog 83 f83_info Tryz.f83 where
  at_ := Tryz.func83
  body := by kernel_rfl
  results := by kernel_rfl
  ntmps := by kernel_rfl
  params := Nat.le_of_ble_eq_true (by kernel_rfl)
  name := by kernel_rfl

theorem f49_ok : FnOk Tryz.prog 49 f49_info Tryz.f49 where
  at_ := Tryz.func49
  body := by kernel_rfl
  results := by kernel_rfl
  ntmps := by kernel_rfl
  params := Nat.le_of_ble_eq_true (by kernel_rfl)
  name := by kernel_rfl

theorem f16_ok : FnOk Tryz.prog 16 f16_info Tryz.f16 where
  at_ := Tryz.func16
  body := by kernel_rfl
  results := by kernel_rfl
  ntmps := by kernel_rfl
  params := Nat.le_of_ble_eq_true (by kernel_rfl)
  name := by kernel_rfl

theorem f84_ok : FnOk Tryz.prog 84 f84_info Tryz.f84 where
  at_ := Tryz.func84
  body := by kernel_rfl
  results := by kernel_rfl
  ntmps := by kernel_rfl
  params := Nat.le_of_ble_eq_true (by kernel_rfl)
  name := by kernel_rfl

theorem f133_ok : FnOk Tryz.prog 133 f133_info Tryz.f133 where
  at_ := Tryz.func133
  body := by kernel_rfl
  results := by kernel_rfl
  ntmps := by kernel_rfl
  params := Nat.le_of_ble_eq_true (by kernel_rfl)
  name := by kernel_rfl

theorem f98_ok : FnOk Tryz.prog 98 f98_info Tryz.f98 where
  at_ := Tryz.func98
  body := by kernel_rfl
  results := by kernel_rfl
  ntmps := by kernel_rfl
  params := Nat.le_of_ble_eq_true (by kernel_rfl)
  name := by kernel_rfl

theorem f85_ok : FnOk Tryz.prog 85 f85_info Tryz.f85 where
  at_ := Tryz.func85
  body := by kernel_rfl
  results := by kernel_rfl
  ntmps := by kernel_rfl
  params := Nat.le_of_ble_eq_true (by kernel_rfl)
  name := by kernel_rfl

theorem f50_ok : FnOk Tryz.prog 50 f50_info Tryz.f50 where
  at_ := Tryz.func50
  body := by kernel_rfl
  results := by kernel_rfl
  ntmps := by kernel_rfl
  params := Nat.le_of_ble_eq_true (by kernel_rfl)
  name := by kernel_rfl

theorem f18_ok : FnOk Tryz.prog 18 f18_info Tryz.f18 where
  at_ := Tryz.func18
  body := by kernel_rfl
  results := by kernel_rfl
  ntmps := by kernel_rfl
  params := Nat.le_of_ble_eq_true (by kernel_rfl)
  name := by kernel_rfl

theorem f61_ok : FnOk Tryz.prog 61 f61_info Tryz.f61 where
  at_ := Tryz.func61
  body := by kernel_rfl
  results := by kernel_rfl
  ntmps := by kernel_rfl
  params := Nat.le_of_ble_eq_true (by kernel_rfl)
  name := by kernel_rfl

theorem f62_ok : FnOk Tryz.prog 62 f62_info Tryz.f62 where
  at_ := Tryz.func62
  body := by kernel_rfl
  results := by kernel_rfl
  ntmps := by kernel_rfl
  params := Nat.le_of_ble_eq_true (by kernel_rfl)
  name := by kernel_rfl

theorem f63_ok : FnOk Tryz.prog 63 f63_info Tryz.f63 where
  at_ := Tryz.func63
  body := by kernel_rfl
  results := by kernel_rfl
  ntmps := by kernel_rfl
  params := Nat.le_of_ble_eq_true (by kernel_rfl)
  name := by kernel_rfl

theorem f29_ok : FnOk Tryz.prog 29 f29_info Tryz.f29 where
  at_ := Tryz.func29
  body := by kernel_rfl
  results := by kernel_rfl
  ntmps := by kernel_rfl
  params := Nat.le_of_ble_eq_true (by kernel_rfl)
  name := by kernel_rfl

theorem f8_ok : FnOk Tryz.prog 8 f8_info Tryz.f8 where
  at_ := Tryz.func8
  body := by kernel_rfl
  results := by kernel_rfl
  ntmps := by kernel_rfl
  params := Nat.le_of_ble_eq_true (by kernel_rfl)
  name := by kernel_rfl

theorem f96_ok : FnOk Tryz.prog 96 f96_info Tryz.f96 where
  at_ := Tryz.func96
  body := by kernel_rfl
  results := by kernel_rfl
  ntmps := by kernel_rfl
  params := Nat.le_of_ble_eq_true (by kernel_rfl)
  name := by kernel_rfl

theorem f58_ok : FnOk Tryz.prog 58 f58_info Tryz.f58 where
  at_ := Tryz.func58
  body := by kernel_rfl
  results := by kernel_rfl
  ntmps := by kernel_rfl
  params := Nat.le_of_ble_eq_true (by kernel_rfl)
  name := by kernel_rfl

theorem types_ok : TyAll Tryz.prog G := tyAll_of (by kernel_rfl) (by kernel_rfl) (by kernel_rfl) (by kernel_rfl)

theorem fns_ok : FnsAll Tryz.prog G.fns := ⟨⟨_, f195_ok⟩, ⟨⟨_, f211_ok⟩, ⟨⟨_, f190_ok⟩, ⟨⟨_, f46_ok⟩, ⟨⟨_, f27_ok⟩, ⟨⟨_, f37_ok⟩, ⟨⟨_, f9_ok⟩, ⟨⟨_, f69_ok⟩, ⟨⟨_, f35_ok⟩, ⟨⟨_, f135_ok⟩, ⟨⟨_, f103_ok⟩, ⟨⟨_, f33_ok⟩, ⟨⟨_, f174_ok⟩, ⟨⟨_, f144_ok⟩, ⟨⟨_, f145_ok⟩, ⟨⟨_, f115_ok⟩, ⟨⟨_, f173_ok⟩, ⟨⟨_, f143_ok⟩, ⟨⟨_, f170_ok⟩, ⟨⟨_, f192_ok⟩, ⟨⟨_, f141_ok⟩, ⟨⟨_, f218_ok⟩, ⟨⟨_, f210_ok⟩, ⟨⟨_, f208_ok⟩, ⟨⟨_, f209_ok⟩, ⟨⟨_, f193_ok⟩, ⟨⟨_, f171_ok⟩, ⟨⟨_, f194_ok⟩, ⟨⟨_, f172_ok⟩, ⟨⟨_, f142_ok⟩, ⟨⟨_, f114_ok⟩, ⟨⟨_, f79_ok⟩, ⟨⟨_, f113_ok⟩, ⟨⟨_, f76_ok⟩, ⟨⟨_, f77_ok⟩, ⟨⟨_, f73_ok⟩, ⟨⟨_, f149_ok⟩, ⟨⟨_, f189_ok⟩, ⟨⟨_, f166_ok⟩, ⟨⟨_, f188_ok⟩, ⟨⟨_, f165_ok⟩, ⟨⟨_, f205_ok⟩, ⟨⟨_, f187_ok⟩, ⟨⟨_, f167_ok⟩, ⟨⟨_, f191_ok⟩, ⟨⟨_, f168_ok⟩, ⟨⟨_, f138_ok⟩, ⟨⟨_, f110_ok⟩, ⟨⟨_, f136_ok⟩, ⟨⟨_, f107_ok⟩, ⟨⟨_, f109_ok⟩, ⟨⟨_, f70_ok⟩, ⟨⟨_, f111_ok⟩, ⟨⟨_, f71_ok⟩, ⟨⟨_, f36_ok⟩, ⟨⟨_, f34_ok⟩, ⟨⟨_, f38_ok⟩, ⟨⟨_, f10_ok⟩, ⟨⟨_, f44_ok⟩, ⟨⟨_, f41_ok⟩, ⟨⟨_, f97_ok⟩, ⟨⟨_, f119_ok⟩, ⟨⟨_, f164_ok⟩, ⟨⟨_, f134_ok⟩, ⟨⟨_, f162_ok⟩, ⟨⟨_, f186_ok⟩, ⟨⟨_, f163_ok⟩, ⟨⟨_, f169_ok⟩, ⟨⟨_, f139_ok⟩, ⟨⟨_, f99_ok⟩, ⟨⟨_, f140_ok⟩, ⟨⟨_, f112_ok⟩, ⟨⟨_, f72_ok⟩, ⟨⟨_, f40_ok⟩, ⟨⟨_, f39_ok⟩, ⟨⟨_, f74_ok⟩, ⟨⟨_, f78_ok⟩, ⟨⟨_, f43_ok⟩, ⟨⟨_, f75_ok⟩, ⟨⟨_, f42_ok⟩, ⟨⟨_, f11_ok⟩, ⟨⟨_, f24_ok⟩, ⟨⟨_, f13_ok⟩, ⟨⟨_, f45_ok⟩, ⟨⟨_, f225_ok⟩, ⟨⟨_, f232_ok⟩, ⟨⟨_, f235_ok⟩, ⟨⟨_, f234_ok⟩, ⟨⟨_, f226_ok⟩, ⟨⟨_, f233_ok⟩, ⟨⟨_, f224_ok⟩, ⟨⟨_, f215_ok⟩, ⟨⟨_, f196_ok⟩, ⟨⟨_, f197_ok⟩, ⟨⟨_, f175_ok⟩, ⟨⟨_, f146_ok⟩, ⟨⟨_, f117_ok⟩, ⟨⟨_, f147_ok⟩, ⟨⟨_, f176_ok⟩, ⟨⟨_, f148_ok⟩, ⟨⟨_, f118_ok⟩, ⟨⟨_, f81_ok⟩, ⟨⟨_, f47_ok⟩, ⟨⟨_, f14_ok⟩, ⟨⟨_, f21_ok⟩, ⟨⟨_, f83_ok⟩, ⟨⟨_, f49_ok⟩, ⟨⟨_, f16_ok⟩, ⟨⟨_, f84_ok⟩, ⟨⟨_, f133_ok⟩, ⟨⟨_, f98_ok⟩, ⟨⟨_, f85_ok⟩, ⟨⟨_, f50_ok⟩, ⟨⟨_, f18_ok⟩, ⟨⟨_, f61_ok⟩, ⟨⟨_, f62_ok⟩, ⟨⟨_, f63_ok⟩, ⟨⟨_, f29_ok⟩, ⟨⟨_, f8_ok⟩, ⟨⟨_, f96_ok⟩, ⟨⟨_, f58_ok⟩, trivial⟩⟩⟩⟩⟩⟩⟩⟩⟩⟩⟩⟩⟩⟩⟩⟩⟩⟩⟩⟩⟩⟩⟩⟩⟩⟩⟩⟩⟩⟩⟩⟩⟩⟩⟩⟩⟩⟩⟩⟩⟩⟩⟩⟩⟩⟩⟩⟩⟩⟩⟩⟩⟩⟩⟩⟩⟩⟩⟩⟩⟩⟩⟩⟩⟩⟩⟩⟩⟩⟩⟩⟩⟩⟩⟩⟩⟩⟩⟩⟩⟩⟩⟩⟩⟩⟩⟩⟩⟩⟩⟩⟩⟩⟩⟩⟩⟩⟩⟩⟩⟩⟩⟩⟩⟩⟩⟩⟩⟩⟩⟩⟩⟩⟩⟩⟩⟩⟩⟩⟩⟩

end Go.Proofs.YtogehijjhibdkaaGreat.Ev

/- The functions are those of the program. -/
import Derived.Test.YtncajhkogppojaaEvFB
import Derived.Test.YtncajhkogppojaaEvFC
import Derived.Test.YtncajhkogppojaaEvFD
import Derived.Test.YtncajhkogppojaaEvFE
import Derived.Test.YtncajhkogppojaaEvFF
namespace Go.Proofs.Ytncajhkogppojaa.Ev
open Go Go.RowKit
set_option maxRecDepth 100000


theorem f149_ok : FnOk Try.prog 149 f149_info Try.f149 where
  at_ := Try.func149
  body := by kernel_rfl
  results := by kernel_rfl
  ntmps := by kernel_rfl
  params := Nat.le_of_ble_eq_true (by kernel_rfl)
  name := by kernel_rfl

theorem f154_ok : FnOk Try.prog 154 f154_info Try.f154 where
  at_ := Try.func154
  body := by kernel_rfl
  results := by kernel_rfl
  ntmps := by kernel_rfl
  params := Nat.le_of_ble_eq_true (by kernel_rfl)
  name := by kernel_rfl

theorem f127_ok : FnOk Try.prog 127 f127_info Try.f127 where
  at_ := Try.func127
  body := by kernel_rfl
  results := by kernel_rfl
  ntmps := by kernel_rfl
  params := Nat.le_of_ble_eq_true (by kernel_rfl)
  name := by kernel_rfl

theorem f8_ok : FnOk Try.prog 8 f8_info Try.f8 where
  at_ := Try.func8
  body := by kernel_rfl
  results := by kernel_rfl
  ntmps := by kernel_rfl
  params := Nat.le_of_ble_eq_true (by kernel_rfl)
  name := by kernel_rfl

theorem f43_ok : FnOk Try.prog 43 f43_info Try.f43 where
  at_ := Try.func43
  body := by kernel_rfl
  results := by kernel_rfl
  ntmps := by kernel_rfl
  params := Nat.le_of_ble_eq_true (by kernel_rfl)
  name := by kernel_rfl

theorem f51_ok : FnOk Try.prog 51 f51_info Try.f51 where
  at_ := Try.func51
  body := by kernel_rfl
  results := by kernel_rfl
  ntmps := by kernel_rfl
  params := Nat.le_of_ble_eq_true (by kernel_rfl)
  name := by kernel_rfl

theorem f52_ok : FnOk Try.prog 52 f52_info Try.f52 where
  at_ := Try.func52
  body := by kernel_rfl
  results := by kernel_rfl
  ntmps := by kernel_rfl
  params := Nat.le_of_ble_eq_true (by kernel_rfl)
  name := by kernel_rfl

theorem f81_ok : FnOk Try.prog 81 f81_info Try.f81 where
  at_ := Try.func81
  body := by kernel_rfl
  results := by kernel_rfl
  ntmps := by kernel_rfl
  params := Nat.le_of_ble_eq_true (by kernel_rfl)
  name := by kernel_rfl

theorem f42_ok : FnOk Try.prog 42 f42_info Try.f42 where
  at_ := Try.func42
  body := by kernel_rfl
  results := by kernel_rfl
  ntmps := by kernel_rfl
  params := Nat.le_of_ble_eq_true (by kernel_rfl)
  name := by kernel_rfl

theorem f9_ok : FnOk Try.prog 9 f9_info Try.f9 where
  at_ := Try.func9
  body := by kernel_rfl
  results := by kernel_rfl
  ntmps := by kernel_rfl
  params := Nat.le_of_ble_eq_true (by kernel_rfl)
  name := by kernel_rfl

theorem f136_ok : FnOk Try.prog 136 f136_info Try.f136 where
  at_ := Try.func136
  body := by kernel_rfl
  results := by kernel_rfl
  ntmps := by kernel_rfl
  params := Nat.le_of_ble_eq_true (by kernel_rfl)
  name := by kernel_rfl

theorem f115_ok : FnOk Try.prog 115 f115_info Try.f115 where
  at_ := Try.func115
  body := by kernel_rfl
  results := by kernel_rfl
  ntmps := by kernel_rfl
  params := Nat.le_of_ble_eq_true (by kernel_rfl)
  name := by kernel_rfl

theorem f133_ok : FnOk Try.prog 133 f133_info Try.f133 where
  at_ := Try.func133
  body := by kernel_rfl
  results := by kernel_rfl
  ntmps := by kernel_rfl
  params := Nat.le_of_ble_eq_true (by kernel_rfl)
  name := by kernel_rfl

theorem f146_ok : FnOk Try.prog 146 f146_info Try.f146 where
  at_ := Try.func146
  body := by kernel_rfl
  results := by kernel_rfl
  ntmps := by kernel_rfl
  params := Nat.le_of_ble_eq_true (by kernel_rfl)
  name := by kernel_rfl

theorem f132_ok : FnOk Try.prog 132 f132_info Try.f132 where
  at_ := Try.func132
  body := by kernel_rfl
  results := by kernel_rfl
  ntmps := by kernel_rfl
  params := Nat.le_of_ble_eq_true (by kernel_rfl)
  name := by kernel_rfl

theorem f158_ok : FnOk Try.prog 158 f158_info Try.f158 where
  at_ := Try.func158
  body := by kernel_rfl
  results := by kernel_rfl
  ntmps := by kernel_rfl
  params := Nat.le_of_ble_eq_true (by kernel_rfl)
  name := by kernel_rfl

theorem f153_ok : FnOk Try.prog 153 f153_info Try.f153 where
  at_ := Try.func153
  body := by kernel_rfl
  results := by kernel_rfl
  ntmps := by kernel_rfl
  params := Nat.le_of_ble_eq_true (by kernel_rfl)
  name := by kernel_rfl

theorem f151_ok : FnOk Try.prog 151 f151_info Try.f151 where
  at_ := Try.func151
  body := by kernel_rfl
  results := by kernel_rfl
  ntmps := by kernel_rfl
  params := Nat.le_of_ble_eq_true (by kernel_rfl)
  name := by kernel_rfl

theorem f152_ok : FnOk Try.prog 152 f152_info Try.f152 where
  at_ := Try.func152
  body := by kernel_rfl
  results := by kernel_rfl
  ntmps := by kernel_rfl
  params := Nat.le_of_ble_eq_true (by kernel_rfl)
  name := by kernel_rfl

theorem f147_ok : FnOk Try.prog 147 f147_info Try.f147 where
  at_ := Try.func147
  body := by kernel_rfl
  results := by kernel_rfl
  ntmps := by kernel_rfl
  params := Nat.le_of_ble_eq_true (by kernel_rfl)
  name := by kernel_rfl

theorem f134_ok : FnOk Try.prog 134 f134_info Try.f134 where
  at_ := Try.func134
  body := by kernel_rfl
  results := by kernel_rfl
  ntmps := by kernel_rfl
  params := Nat.le_of_ble_eq_true (by kernel_rfl)
  name := by kernel_rfl

theorem f137_ok : FnOk Try.prog 137 f137_info Try.f137 where
  at_ := Try.func137
  body := by kernel_rfl
  results := by kernel_rfl
  ntmps := by kernel_rfl
  params := Nat.le_of_ble_eq_true (by kernel_rfl)
  name := by kernel_rfl

theorem f112_ok : FnOk Try.prog 112 f112_info Try.f112 where
  at_ := Try.func112
  body := by kernel_rfl
  results := by kernel_rfl
  ntmps := by kernel_rfl
  params := Nat.le_of_ble_eq_true (by kernel_rfl)
  name := by kernel_rfl

theorem f148_ok : FnOk Try.prog 148 f148_info Try.f148 where
  at_ := Try.func148
  body := by kernel_rfl
  results := by kernel_rfl
  ntmps := by kernel_rfl
  params := Nat.le_of_ble_eq_true (by kernel_rfl)
  name := by kernel_rfl

theorem f111_ok : FnOk Try.prog 111 f111_info Try.f111 where
  at_ := Try.func111
  body := by kernel_rfl
  results := by kernel_rfl
  ntmps := by kernel_rfl
  params := Nat.le_of_ble_eq_true (by kernel_rfl)
  name := by kernel_rfl

theorem f135_ok : FnOk Try.prog 135 f135_info Try.f135 where
  at_ := Try.func135
  body := by kernel_rfl
  results := by kernel_rfl
  ntmps := by kernel_rfl
  params := Nat.le_of_ble_eq_true (by kernel_rfl)
  name := by kernel_rfl

theorem f109_ok : FnOk Try.prog 109 f109_info Try.f109 where
  at_ := Try.func109
  body := by kernel_rfl
  results := by kernel_rfl
  ntmps := by kernel_rfl
  params := Nat.le_of_ble_eq_true (by kernel_rfl)
  name := by kernel_rfl

theorem f84_ok : FnOk Try.prog 84 f84_info Try.f84 where
  at_ := Try.func84
  body := by kernel_rfl
  results := by kernel_rfl
  ntmps := by kernel_rfl
  params := Nat.le_of_ble_eq_true (by kernel_rfl)
  name := by kernel_rfl

theorem f83_ok : FnOk Try.prog 83 f83_info Try.f83 where
  at_ := Try.func83
  body := by kernel_rfl
  results := by kernel_rfl
  ntmps := by kernel_rfl
  params := Nat.le_of_ble_eq_true (by kernel_rfl)
  name := by kernel_rfl

theorem f45_ok : FnOk Try.prog 45 f45_info Try.f45 where
  at_ := Try.func45
  body := by kernel_rfl
  results := by kernel_rfl
  ntmps := by kernel_rfl
  params := Nat.le_of_ble_eq_true (by kernel_rfl)
  name := by kernel_rfl

theorem f114_ok : FnOk Try.prog 114 f114_info Try.f114 where
  at_ := Try.func114
  body := by kernel_rfl
  results := by kernel_rfl
  ntmps := by kernel_rfl
  params := Nat.le_of_ble_eq_true (by kernel_rfl)
  name := by kernel_rfl

theorem f125_ok : FnOk Try.prog 125 f125_info Try.f125 where
  at_ := Try.func125
  body := by kernel_rfl
  results := by kernel_rfl
  ntmps := by kernel_rfl
  params := Nat.le_of_ble_eq_true (by kernel_rfl)
  name := by kernel_rfl

theorem f91_ok : FnOk Try.prog 91 f91_info Try.f91 where
  at_ := Try.func91
  body := by kernel_rfl
  results := by kernel_rfl
  ntmps := by kernel_rfl
  params := Nat.le_of_ble_eq_true (by kernel_rfl)
  name := by kernel_rfl

theorem f82_ok : FnOk Try.prog 82 f82_info Try.f82 where
  at_ := Try.func82
  body := by kernel_rfl
  results := by kernel_rfl
  ntmps := by kernel_rfl
  params := Nat.le_of_ble_eq_true (by kernel_rfl)
  name := by kernel_rfl

theorem f44_ok : FnOk Try.prog 44 f44_info Try.f44 where
  at_ := Try.func44
  body := by kernel_rfl
  results := by kernel_rfl
  ntmps := by kernel_rfl
  params := Nat.le_of_ble_eq_true (by kernel_rfl)
  name := by kernel_rfl

theorem f10_ok : FnOk Try.prog 10 f10_info Try.f10 where
  at_ := Try.func10
  body := by kernel_rfl
  results := by kernel_rfl
  ntmps := by kernel_rfl
  params := Nat.le_of_ble_eq_true (by kernel_rfl)
  name := by kernel_rfl

theorem f11_ok : FnOk Try.prog 11 f11_info Try.f11 where
  at_ := Try.func11
  body := by kernel_rfl
  results := by kernel_rfl
  ntmps := by kernel_rfl
  params := Nat.le_of_ble_eq_true (by kernel_rfl)
  name := by kernel_rfl

theorem f120_ok : FnOk Try.prog 120 f120_info Try.f120 where
  at_ := Try.func120
  body := by kernel_rfl
  results := by kernel_rfl
  ntmps := by kernel_rfl
  params := Nat.le_of_ble_eq_true (by kernel_rfl)
  name := by kernel_rfl

theorem f123_ok : FnOk Try.prog 123 f123_info Try.f123 where
  at_ := Try.func123
  body := by kernel_rfl
  results := by kernel_rfl
  ntmps := by kernel_rfl
  params := Nat.le_of_ble_eq_true (by kernel_rfl)
  name := by kernel_rfl

theorem f116_ok : FnOk Try.prog 116 f116_info Try.f116 where
  at_ := Try.func116
  body := by kernel_rfl
  results := by kernel_rfl
  ntmps := by kernel_rfl
  params := Nat.le_of_ble_eq_true (by kernel_rfl)
  name := by kernel_rfl

theorem f119_ok : FnOk Try.prog 119 f119_info Try.f119 where
  at_ := Try.func119
  body := by kernel_rfl
  results := by kernel_rfl
  ntmps := by kernel_rfl
  params := Nat.le_of_ble_eq_true (by kernel_rfl)
  name := by kernel_rfl

theorem f117_ok : FnOk Try.prog 117 f117_info Try.f117 where
  at_ := Try.func117
  body := by kernel_rfl
  results := by kernel_rfl
  ntmps := by kernel_rfl
  params := Nat.le_of_ble_eq_true (by kernel_rfl)
  name := by kernel_rfl

theorem f150_ok : FnOk Try.prog 150 f150_info Try.f150 where
  at_ := Try.func150
  body := by kernel_rfl
  results := by kernel_rfl
  ntmps := by kernel_rfl
  params := Nat.le_of_ble_eq_true (by kernel_rfl)
  name := by kernel_rfl

theorem f139_ok : FnOk Try.prog 139 f139_info Try.f139 where
  at_ := Try.func139
  body := by kernel_rfl
  results := by kernel_rfl
  ntmps := by kernel_rfl
  params := Nat.le_of_ble_eq_true (by kernel_rfl)
  name := by kernel_rfl

theorem f138_ok : FnOk Try.prog 138 f138_info Try.f138 where
  at_ := Try.func138
  body := by kernel_rfl
  results := by kernel_rfl
  ntmps := by kernel_rfl
  params := Nat.le_of_ble_eq_true (by kernel_rfl)
  name := by kernel_rfl

theorem f140_ok : FnOk Try.prog 140 f140_info Try.f140 where
  at_ := Try.func140
  body := by kernel_rfl
  results := by kernel_rfl
  ntmps := by kernel_rfl
  params := Nat.le_of_ble_eq_true (by kernel_rfl)
  name := by kernel_rfl

theorem f118_ok : FnOk Try.prog 118 f118_info Try.f118 where
  at_ := Try.func118
  body := by kernel_rfl
  results := by kernel_rfl
  ntmps := by kernel_rfl
  params := Nat.le_of_ble_eq_true (by kernel_rfl)
  name := by kernel_rfl

theorem f85_ok : FnOk Try.prog 85 f85_info Try.f85 where
  at_ := Try.func85
  body := by kernel_rfl
  results := by kernel_rfl
  ntmps := by kernel_rfl
  params := Nat.le_of_ble_eq_true (by kernel_rfl)
  name := by kernel_rfl

theorem f89_ok : FnOk Try.prog 89 f89_info Try.f89 where
  at_ := Try.func89
  body := by kernel_rfl
  results := by kernel_rfl
  ntmps := by kernel_rfl
  params := Nat.le_of_ble_eq_true (by kernel_rfl)
  name := by kernel_rfl

theorem f48_ok : FnOk Try.prog 48 f48_info Try.f48 where
  at_ := Try.func48
  body := by kernel_rfl
  results := by kernel_rfl
  ntmps := by kernel_rfl
  params := Nat.le_of_ble_eq_true (by kernel_rfl)
  name := by kernel_rfl

theorem f87_ok : FnOk Try.prog 87 f87_info Try.f87 where
  at_ := Try.func87
  body := by kernel_rfl
  results := by kernel_rfl
  ntmps := by kernel_rfl
  params := Nat.le_of_ble_eq_true (by kernel_rfl)
  name := by kernel_rfl

theorem f121_ok : FnOk Try.prog 121 f121_info Try.f121 where
  at_ := Try.func121
  body := by kernel_rfl
  results := by kernel_rfl
  ntmps := by kernel_rfl
  params := Nat.le_of_ble_eq_true (by kernel_rfl)
  name := by kernel_rfl

theorem f122_ok : FnOk Try.prog 122 f122_info Try.f122 where
  at_ := Try.func122
  body := by kernel_rfl
  results := by kernel_rfl
  ntmps := by kernel_rfl
  params := Nat.le_of_ble_eq_true (by kernel_rfl)
  name := by kernel_rfl

theorem f88_ok : FnOk Try.prog 88 f88_info Try.f88 where
  at_ := Try.func88
  body := by kernel_rfl
  results := by kernel_rfl
  ntmps := by kernel_rfl
  params := Nat.le_of_ble_eq_true (by kernel_rfl)
  name := by kernel_rfl

theorem f47_ok : FnOk Try.prog 47 f47_info Try.f47 where
  at_ := Try.func47
  body := by kernel_rfl
  results := by kernel_rfl
  ntmps := by kernel_rfl
  params := Nat.le_of_ble_eq_true (by kernel_rfl)
  name := by kernel_rfl

theorem f86_ok : FnOk Try.prog 86 f86_info Try.f86 where
  at_ := Try.func86
  body := by kernel_rfl
  results := by kernel_rfl
  ntmps := by kernel_rfl
  params := Nat.le_of_ble_eq_true (by kernel_rfl)
  name := by kernel_rfl

theorem f46_ok : FnOk Try.prog 46 f46_info Try.f46 where
  at_ := Try.func46
  body := by kernel_rfl
  results := by kernel_rfl
  ntmps := by kernel_rfl
  params := Nat.le_of_ble_eq_true (by kernel_rfl)
  name := by kernel_rfl

theorem f12_ok : FnOk Try.prog 12 f12_info Try.f12 where
  at_ := Try.func12
  body := by kernel_rfl
  results := by kernel_rfl
  ntmps := by kernel_rfl
  params := Nat.le_of_ble_eq_true (by kernel_rfl)
  name := by kernel_rfl

theorem f50_ok : FnOk Try.prog 50 f50_info Try.f50 where
  at_ := Try.func50
  body := by kernel_rfl
  results := by kernel_rfl
  ntmps := by kernel_rfl
  params := Nat.le_of_ble_eq_true (by kernel_rfl)
  name := by kernel_rfl

theorem f54_ok : FnOk Try.prog 54 f54_info Try.f54 where
  at_ := Try.func54
  body := by kernel_rfl
  results := by kernel_rfl
  ntmps := by kernel_rfl
  params := Nat.le_of_ble_eq_true (by kernel_rfl)
  name := by kernel_rfl

theorem f124_ok : FnOk Try.prog 124 f124_info Try.f124 where
  at_ := Try.func124
  body := by kernel_rfl
  results := by kernel_rfl
  ntmps := by kernel_rfl
  params := Nat.le_of_ble_eq_true (by kernel_rfl)
  name := by kernel_rfl

theorem f90_ok : FnOk Try.prog 90 f90_info Try.f90 where
  at_ := Try.func90
  body := by kernel_rfl
  results := by kernel_rfl
  ntmps := by kernel_rfl
  params := Nat.le_of_ble_eq_true (by kernel_rfl)
  name := by kernel_rfl

theorem f49_ok : FnOk Try.prog 49 f49_info Try.f49 where
  at_ := Try.func49
  body := by kernel_rfl
  results := by kernel_rfl
  ntmps := by kernel_rfl
  params := Nat.le_of_ble_eq_true (by kernel_rfl)
  name := by kernel_rfl

theorem f13_ok : FnOk Try.prog 13 f13_info Try.f13 where
  at_ := Try.func13
  body := by kernel_rfl
  results := by kernel_rfl
  ntmps := by kernel_rfl
  params := Nat.le_of_ble_eq_true (by kernel_rfl)
  name := by kernel_rfl

theorem f53_ok : FnOk Try.prog 53 f53_info Try.f53 where
  at_ := Try.func53
  body := by kernel_rfl
  results := by kernel_rfl
  ntmps := by kernel_rfl
  params := Nat.le_of_ble_eq_true (by kernel_rfl)
  name := by kernel_rfl

theorem f14_ok : FnOk Try.prog 14 f14_info Try.f14 where
  at_ := Try.func14
  body := by kernel_rfl
  results := by kernel_rfl
  ntmps := by kernel_rfl
  params := Nat.le_of_ble_eq_true (by kernel_rfl)
  name := by kernel_rfl

theorem f55_ok : FnOk Try.prog 55 f55_info Try.f55 where
  at_ := Try.func55
  body := by kernel_rfl
  results := by kernel_rfl
  ntmps := by kernel_rfl
  params := Nat.le_of_ble_eq_true (by kernel_rfl)
  name := by kernel_rfl

theorem f15_ok : FnOk Try.prog 15 f15_info Try.f15 where
  at_ := Try.func15
  body := by kernel_rfl
  results := by kernel_rfl
  ntmps := by kernel_rfl
  params := Nat.le_of_ble_eq_true (by kernel_rfl)
  name := by kernel_rfl

theorem f56_ok : FnOk Try.prog 56 f56_info Try.f56 where
  at_ := Try.func56
  body := by kernel_rfl
  results := by kernel_rfl
  ntmps := by kernel_rfl
  params := Nat.le_of_ble_eq_true (by kernel_rfl)
  name := by kernel_rfl

theorem f16_ok : FnOk Try.prog 16 f16_info Try.f16 where
  at_ := Try.func16
  body := by kernel_rfl
  results := by kernel_rfl
  ntmps := by kernel_rfl
  params := Nat.le_of_ble_eq_true (by kernel_rfl)
  name := by kernel_rfl

theorem f126_ok : FnOk Try.prog 126 f126_info Try.f126 where
  at_ := Try.func126
  body := by kernel_rfl
  results := by kernel_rfl
  ntmps := by kernel_rfl
  params := Nat.le_of_ble_eq_true (by kernel_rfl)
  name := by kernel_rfl

theorem f92_ok : FnOk Try.prog 92 f92_info Try.f92 where
  at_ := Try.func92
  body := by kernel_rfl
  results := by kernel_rfl
  ntmps := by kernel_rfl
  params := Nat.le_of_ble_eq_true (by kernel_rfl)
  name := by kernel_rfl

theorem f93_ok : FnOk Try.prog 93 f93_info Try.f93 where
  at_ := Try.func93
  body := by kernel_rfl
  results := by kernel_rfl
  ntmps := by kernel_rfl
  params := Nat.le_of_ble_eq_true (by kernel_rfl)
  name := by kernel_rfl

theorem f57_ok : FnOk Try.prog 57 f57_info Try.f57 where
  at_ := Try.func57
  body := by kernel_rfl
  results := by kernel_rfl
  ntmps := by kernel_rfl
  params := Nat.le_of_ble_eq_true (by kernel_rfl)
  name := by kernel_rfl

theorem f17_ok : FnOk Try.prog 17 f17_info Try.f17 where
  at_ := Try.func17
  body := by kernel_rfl
  results := by kernel_rfl
  ntmps := by kernel_rfl
  params := Nat.le_of_ble_eq_true (by kernel_rfl)
  name := by kernel_rfl

theorem f3_ok : FnOk Try.prog 3 f3_info Try.f3 where
  at_ := Try.func3
  body := by kernel_rfl
  results := by kernel_rfl
  ntmps := by kernel_rfl
  params := Nat.le_of_ble_eq_true (by kernel_rfl)
  name := by kernel_rfl

theorem f97_ok : FnOk Try.prog 97 f97_info Try.f97 where
  at_ := Try.func97
  body := by kernel_rfl
  results := by kernel_rfl
  ntmps := by kernel_rfl
  params := Nat.le_of_ble_eq_true (by kernel_rfl)
  name := by kernel_rfl

theorem f113_ok : FnOk Try.prog 113 f113_info Try.f113 where
  at_ := Try.func113
  body := by kernel_rfl
  results := by kernel_rfl
  ntmps := by kernel_rfl
  params := Nat.le_of_ble_eq_true (by kernel_rfl)
  name := by kernel_rfl

theorem f144_ok : FnOk Try.prog 144 f144_info Try.f144 where
  at_ := Try.func144
  body := by kernel_rfl
  results := by kernel_rfl
  ntmps := by kernel_rfl
  params := Nat.le_of_ble_eq_true (by kernel_rfl)
  name := by kernel_rfl

theorem f143_ok : FnOk Try.prog 143 f143_info Try.f143 where
  at_ := Try.func143
  body := by kernel_rfl
  results := by kernel_rfl
  ntmps := by kernel_rfl
  params := Nat.le_of_ble_eq_true (by kernel_rfl)
  name := by kernel_rfl

theorem f128_ok : FnOk Try.prog 128 f128_info Try.f128 where
  at_ := Try.func128
  body := by kernel_rfl
  results := by kernel_rfl
  ntmps := by kernel_rfl
  params := Nat.le_of_ble_eq_true (by kernel_rfl)
  name := by kernel_rfl

theorem f107_ok : FnOk Try.prog 107 f107_info Try.f107 where
  at_ := Try.func107
  body := by kernel_rfl
  results := by kernel_rfl
  ntmps := by kernel_rfl
  params := Nat.le_of_ble_eq_true (by kernel_rfl)
  name := by kernel_rfl

theorem f145_ok : FnOk Try.prog 145 f145_info Try.f145 where
  at_ := Try.func145
  body := by kernel_rfl
  results := by kernel_rfl
  ntmps := by kernel_rfl
  params := Nat.le_of_ble_eq_true (by kernel_rfl)
  name := by kernel_rfl

theorem f129_ok : FnOk Try.prog 129 f129_info Try.f129 where
  at_ := Try.func129
  body := by kernel_rfl
  results := by kernel_rfl
  ntmps := by kernel_rfl
  params := Nat.le_of_ble_eq_true (by kernel_rfl)
  name := by kernel_rfl

theorem f98_ok : FnOk Try.prog 98 f98_info Try.f98 where
  at_ := Try.func98
  body := by kernel_rfl
  results := by kernel_rfl
  ntmps := by kernel_rfl
  params := Nat.le_of_ble_eq_true (by kernel_rfl)
  name := by kernel_rfl

theorem f78_ok : FnOk Try.prog 78 f78_info Try.f78 where
  at_ := Try.func78
  body := by kernel_rfl
  results := by kernel_rfl
  ntmps := by kernel_rfl
  params := Nat.le_of_ble_eq_true (by kernel_rfl)
  name := by kernel_rfl

theorem f110_ok : FnOk Try.prog 110 f110_info Try.f110 where
  at_ := Try.func110
  body := by kernel_rfl
  results := by kernel_rfl
  ntmps := by kernel_rfl
  params := Nat.le_of_ble_eq_true (by kernel_rfl)
  name := by kernel_rfl

theorem f77_ok : FnOk Try.prog 77 f77_info Try.f77 where
  at_ := Try.func77
  body := by kernel_rfl
  results := by kernel_rfl
  ntmps := by kernel_rfl
  params := Nat.le_of_ble_eq_true (by kernel_rfl)
  name := by kernel_rfl

theorem f36_ok : FnOk Try.prog 36 f36_info Try.f36 where
  at_ := Try.func36
  body := by kernel_rfl
  results := by kernel_rfl
  ntmps := by kernel_rfl
  params := Nat.le_of_ble_eq_true (by kernel_rfl)
  name := by kernel_rfl

theorem f108_ok : FnOk Try.prog 108 f108_info Try.f108 where
  at_ := Try.func108
  body := by kernel_rfl
  results := by kernel_rfl
  ntmps := by kernel_rfl
  params := Nat.le_of_ble_eq_true (by kernel_rfl)
  name := by kernel_rfl

theorem f76_ok : FnOk Try.prog 76 f76_info Try.f76 where
  at_ := Try.func76
  body := by kernel_rfl
  results := by kernel_rfl
  ntmps := by kernel_rfl
  params := Nat.le_of_ble_eq_true (by kernel_rfl)
  name := by kernel_rfl

theorem f75_ok : FnOk Try.prog 75 f75_info Try.f75 where
  at_ := Try.func75
  body := by kernel_rfl
  results := by kernel_rfl
  ntmps := by kernel_rfl
  params := Nat.le_of_ble_eq_true (by kernel_rfl)
  name := by kernel_rfl

theorem f35_ok : FnOk Try.prog 35 f35_info Try.f35 where
  at_ := Try.func35
  body := by kernel_rfl
  results := by kernel_rfl
  ntmps := by kernel_rfl
  params := Nat.le_of_ble_eq_true (by kernel_rfl)
  name := by kernel_rfl

theorem f99_ok : FnOk Try.prog 99 f99_info Try.f99 where
  at_ := Try.func99
  body := by kernel_rfl
  results := by kernel_rfl
  ntmps := by kernel_rfl
  params := Nat.le_of_ble_eq_true (by kernel_rfl)
  name := by kernel_rfl

theorem f63_ok : FnOk Try.prog 63 f63_info Try.f63 where
  at_ := Try.func63
  body := by kernel_rfl
  results := by kernel_rfl
  ntmps := by kernel_rfl
  params := Nat.le_of_ble_eq_true (by kernel_rfl)
  name := by kernel_rfl

theorem f62_ok : FnOk Try.prog 62 f62_info Try.f62 where
  at_ := Try.func62
  body := by kernel_rfl
  results := by kernel_rfl
  ntmps := by kernel_rfl
  params := Nat.le_of_ble_eq_true (by kernel_rfl)
  name := by kernel_rfl

theorem f65_ok : FnOk Try.prog 65 f65_info Try.f65 where
  at_ := Try.func65
  body := by kernel_rfl
  results := by kernel_rfl
  ntmps := by kernel_rfl
  params := Nat.le_of_ble_eq_true (by kernel_rfl)
  name := by kernel_rfl

theorem f95_ok : FnOk Try.prog 95 f95_info Try.f95 where
  at_ := Try.func95
  body := by kernel_rfl
  results := by kernel_rfl
  ntmps := by kernel_rfl
  params := Nat.le_of_ble_eq_true (by kernel_rfl)
  name := by kernel_rfl

theorem f100_ok : FnOk Try.prog 100 f100_info Try.f100 where
  at_ := Try.func100
  body := by kernel_rfl
  results := by kernel_rfl
  ntmps := by kernel_rfl
  params := Nat.le_of_ble_eq_true (by kernel_rfl)
  name := by kernel_rfl

theorem f66_ok : FnOk Try.prog 66 f66_info Try.f66 where
  at_ := Try.func66
  body := by kernel_rfl
  results := by kernel_rfl
  ntmps := by kernel_rfl
  params := Nat.le_of_ble_eq_true (by kernel_rfl)
  name := by kernel_rfl

theorem f96_ok : FnOk Try.prog 96 f96_info Try.f96 where
  at_ := Try.func96
  body := by kernel_rfl
  results := by kernel_rfl
  ntmps := by kernel_rfl
  params := Nat.le_of_ble_eq_true (by kernel_rfl)
  name := by kernel_rfl

theorem f61_ok : FnOk Try.prog 61 f61_info Try.f61 where
  at_ := Try.func61
  body := by kernel_rfl
  results := by kernel_rfl
  ntmps := by kernel_rfl
  params := Nat.le_of_ble_eq_true (by kernel_rfl)
  name := by kernel_rfl

theorem f26_ok : FnOk Try.prog 26 f26_info Try.f26 where
  at_ := Try.func26
  body := by kernel_rfl
  results := by kernel_rfl
  ntmps := by kernel_rfl
  params := Nat.le_of_ble_eq_true (by kernel_rfl)
  name := by kernel_rfl

theorem f22_ok : FnOk Try.prog 22 f22_info Try.f22 where
  at_ := Try.func22
  body := by kernel_rfl
  results := by kernel_rfl
  ntmps := by kernel_rfl
  params := Nat.le_of_ble_eq_true (by kernel_rfl)
  name := by kernel_rfl

theorem f21_ok : FnOk Try.prog 21 f21_info Try.f21 where
  at_ := Try.func21
  body := by kernel_rfl
  results := by kernel_rfl
  ntmps := by kernel_rfl
  params := Nat.le_of_ble_eq_true (by kernel_rfl)
  name := by kernel_rfl

theorem f19_ok : FnOk Try.prog 19 f19_info Try.f19 where
  at_ := Try.func19
  body := by kernel_rfl
  results := by kernel_rfl
  ntmps := by kernel_rfl
  params := Nat.le_of_ble_eq_true (by kernel_rfl)
  name := by kernel_rfl

theorem f18_ok : FnOk Try.prog 18 f18_info Try.f18 where
  at_ := Try.func18
  body := by kernel_rfl
  results := by kernel_rfl
  ntmps := by kernel_rfl
  params := Nat.le_of_ble_eq_true (by kernel_rfl)
  name := by kernel_rfl

theorem f60_ok : FnOk Try.prog 60 f60_info Try.f60 where
  at_ := Try.func60
  body := by kernel_rfl
  results := by kernel_rfl
  ntmps := by kernel_rfl
  params := Nat.le_of_ble_eq_true (by kernel_rfl)
  name := by kernel_rfl

theorem f94_ok : FnOk Try.prog 94 f94_info Try.f94 where
  at_ := Try.func94
  body := by kernel_rfl
  results := by kernel_rfl
  ntmps := by kernel_rfl
  params := Nat.le_of_ble_eq_true (by kernel_rfl)
  name := by kernel_rfl

theorem f59_ok : FnOk Try.prog 59 f59_info Try.f59 where
  at_ := Try.func59
  body := by kernel_rfl
  results := by kernel_rfl
  ntmps := by kernel_rfl
  params := Nat.le_of_ble_eq_true (by kernel_rfl)
  name := by kernel_rfl

theorem f58_ok : FnOk Try.prog 58 f58_info Try.f58 where
  at_ := Try.func58
  body := by kernel_rfl
  results := by kernel_rfl
  ntmps := by kernel_rfl
  params := Nat.le_of_ble_eq_true (by kernel_rfl)
  name := by kernel_rfl

theorem f20_ok : FnOk Try.prog 20 f20_info Try.f20 where
  at_ := Try.func20
  body := by kernel_rfl
  results := by kernel_rfl
  ntmps := by kernel_rfl
  params := Nat.le_of_ble_eq_true (by kernel_rfl)
  name := by kernel_rfl

theorem f4_ok : FnOk Try.prog 4 f4_info Try.f4 where
  at_ := Try.func4
  body := by kernel_rfl
  results := by kernel_rfl
  ntmps := by kernel_rfl
  params := Nat.le_of_ble_eq_true (by kernel_rfl)
  name := by kernel_rfl

theorem f67_ok : FnOk Try.prog 67 f67_info Try.f67 where
  at_ := Try.func67
  body := by kernel_rfl
  results := by kernel_rfl
  ntmps := by kernel_rfl
  params := Nat.le_of_ble_eq_true (by kernel_rfl)
  name := by kernel_rfl

theorem f27_ok : FnOk Try.prog 27 f27_info Try.f27 where
  at_ := Try.func27
  body := by kernel_rfl
  results := by kernel_rfl
  ntmps := by kernel_rfl
  params := Nat.le_of_ble_eq_true (by kernel_rfl)
  name := by kernel_rfl

theorem f64_ok : FnOk Try.prog 64 f64_info Try.f64 where
  at_ := Try.func64
  body := by kernel_rfl
  results := by kernel_rfl
  ntmps := by kernel_rfl
  params := Nat.le_of_ble_eq_true (by kernel_rfl)
  name := by kernel_rfl

theorem f23_ok : FnOk Try.prog 23 f23_info Try.f23 where
  at_ := Try.func23
  body := by kernel_rfl
  results := by kernel_rfl
  ntmps := by kernel_rfl
  params := Nat.le_of_ble_eq_true (by kernel_rfl)
  name := by kernel_rfl

theorem f24_ok : FnOk Try.prog 24 f24_info Try.f24 where
  at_ := Try.func24
  body := by kernel_rfl
  results := by kernel_rfl
  ntmps := by kernel_rfl
  params := Nat.le_of_ble_eq_true (by kernel_rfl)
  name := by kernel_rfl

theorem f25_ok : FnOk Try.prog 25 f25_info Try.f25 where
  at_ := Try.func25
  body := by kernel_rfl
  results := by kernel_rfl
  ntmps := by kernel_rfl
  params := Nat.le_of_ble_eq_true (by kernel_rfl)
  name := by kernel_rfl

theorem f5_ok : FnOk Try.prog 5 f5_info Try.f5 where
  at_ := Try.func5
  body := by kernel_rfl
  results := by kernel_rfl
  ntmps := by kernel_rfl
  params := Nat.le_of_ble_eq_true (by kernel_rfl)
  name := by kernel_rfl

theorem f68_ok : FnOk Try.prog 68 f68_info Try.f68 where
  at_ := Try.func68
  body := by kernel_rfl
  results := by kernel_rfl
  ntmps := by kernel_rfl
  params := Nat.le_of_ble_eq_true (by kernel_rfl)
  name := by kernel_rfl

theorem f28_ok : FnOk Try.prog 28 f28_info Try.f28 where
  at_ := Try.func28
  body := by kernel_rfl
  results := by kernel_rfl
  ntmps := by kernel_rfl
  params := Nat.le_of_ble_eq_true (by kernel_rfl)
  name := by kernel_rfl

theorem f72_ok : FnOk Try.prog 72 f72_info Try.f72 where
  at_ := Try.func72
  body := by kernel_rfl
  results := by kernel_rfl
  ntmps := by kernel_rfl
  params := Nat.le_of_ble_eq_true (by kernel_rfl)
  name := by kernel_rfl

theorem f130_ok : FnOk Try.prog 130 f130_info Try.f130 where
  at_ := Try.func130
  body := by kernel_rfl
  results := by kernel_rfl
  ntmps := by kernel_rfl
  params := Nat.le_of_ble_eq_true (by kernel_rfl)
  name := by kernel_rfl

theorem f101_ok : FnOk Try.prog 101 f101_info Try.f101 where
  at_ := Try.func101
  body := by kernel_rfl
  results := by kernel_rfl
  ntmps := by kernel_rfl
  params := Nat.le_of_ble_eq_true (by kernel_rfl)
  name := by kernel_rfl

theorem f37_ok : FnOk Try.prog 37 f37_info Try.f37 where
  at_ := Try.func37
  body := by kernel_rfl
  results := by kernel_rfl
  ntmps := by kernel_rfl
  params := Nat.le_of_ble_eq_true (by kernel_rfl)
  name := by kernel_rfl

theorem f79_ok : FnOk Try.prog 79 f79_info Try.f79 where
  at_ := Try.func79
  body := by kernel_rfl
  results := by kernel_rfl
  ntmps := by kernel_rfl
  params := Nat.le_of_ble_eq_true (by kernel_rfl)
  name := by kernel_rfl

theorem f38_ok : FnOk Try.prog 38 f38_info Try.f38 where
  at_ := Try.func38
  body := by kernel_rfl
  results := by kernel_rfl
  ntmps := by kernel_rfl
  params := Nat.le_of_ble_eq_true (by kernel_rfl)
  name := by kernel_rfl

theorem f106_ok : FnOk Try.prog 106 f106_info Try.f106 where
  at_ := Try.func106
  body := by kernel_rfl
  results := by kernel_rfl
  ntmps := by kernel_rfl
  params := Nat.le_of_ble_eq_true (by kernel_rfl)
  name := by kernel_rfl

theorem f73_ok : FnOk Try.prog 73 f73_info Try.f73 where
  at_ := Try.func73
  body := by kernel_rfl
  results := by kernel_rfl
  ntmps := by kernel_rfl
  params := Nat.le_of_ble_eq_true (by kernel_rfl)
  name := by kernel_rfl

theorem f34_ok : FnOk Try.prog 34 f34_info Try.f34 where
  at_ := Try.func34
  body := by kernel_rfl
  results := by kernel_rfl
  ntmps := by kernel_rfl
  params := Nat.le_of_ble_eq_true (by kernel_rfl)
  name := by kernel_rfl

theorem f74_ok : FnOk Try.prog 74 f74_info Try.f74 where
  at_ := Try.func74
  body := by kernel_rfl
  results := by kernel_rfl
  ntmps := by kernel_rfl
  params := Nat.le_of_ble_eq_true (by kernel_rfl)
  name := by kernel_rfl

theorem f30_ok : FnOk Try.prog 30 f30_info Try.f30 where
  at_ := Try.func30
  body := by kernel_rfl
  results := by kernel_rfl
  ntmps := by kernel_rfl
  params := Nat.le_of_ble_eq_true (by kernel_rfl)
  name := by kernel_rfl

theorem f32_ok : FnOk Try.prog 32 f32_info Try.f32 where
  at_ := Try.func32
  body := by kernel_rfl
  results := by kernel_rfl
  ntmps := by kernel_rfl
  params := Nat.le_of_ble_eq_true (by kernel_rfl)
  name := by kernel_rfl

theorem f33_ok : FnOk Try.prog 33 f33_info Try.f33 where
  at_ := Try.func33
  body := by kernel_rfl
  results := by kernel_rfl
  ntmps := by kernel_rfl
  params := Nat.le_of_ble_eq_true (by kernel_rfl)
  name := by kernel_rfl

theorem f31_ok : FnOk Try.prog 31 f31_info Try.f31 where
  at_ := Try.func31
  body := by kernel_rfl
  results := by kernel_rfl
  ntmps := by kernel_rfl
  params := Nat.le_of_ble_eq_true (by kernel_rfl)
  name := by kernel_rfl

theorem f69_ok : FnOk Try.prog 69 f69_info Try.f69 where
  at_ := Try.func69
  body := by kernel_rfl
  results := by kernel_rfl
  ntmps := by kernel_rfl
  params := Nat.le_of_ble_eq_true (by kernel_rfl)
  name := by kernel_rfl

theorem f70_ok : FnOk Try.prog 70 f70_info Try.f70 where
  at_ := Try.func70
  body := by kernel_rfl
  results := by kernel_rfl
  ntmps := by kernel_rfl
  params := Nat.le_of_ble_eq_true (by kernel_rfl)
  name := by kernel_rfl

theorem f104_ok : FnOk Try.prog 104 f104_info Try.f104 where
  at_ := Try.func104
  body := by kernel_rfl
  results := by kernel_rfl
  ntmps := by kernel_rfl
  params := Nat.le_of_ble_eq_true (by kernel_rfl)
  name := by kernel_rfl

theorem f103_ok : FnOk Try.prog 103 f103_info Try.f103 where
  at_ := Try.func103
  body := by kernel_rfl
  results := by kernel_rfl
  ntmps := by kernel_rfl
  params := Nat.le_of_ble_eq_true (by kernel_rfl)
  name := by kernel_rfl

theorem f102_ok : FnOk Try.prog 102 f102_info Try.f102 where
  at_ := Try.func102
  body := by kernel_rfl
  results := by kernel_rfl
  ntmps := by kernel_rfl
  params := Nat.le_of_ble_eq_true (by kernel_rfl)
  name := by kernel_rfl

theorem f131_ok : FnOk Try.prog 131 f131_info Try.f131 where
  at_ := Try.func131
  body := by kernel_rfl
  results := by kernel_rfl
  ntmps := by kernel_rfl
  params := Nat.le_of_ble_eq_true (by kernel_rfl)
  name := by kernel_rfl

theorem f105_ok : FnOk Try.prog 105 f105_info Try.f105 where
  at_ := Try.func105
  body := by kernel_rfl
  results := by kernel_rfl
  ntmps := by kernel_rfl
  params := Nat.le_of_ble_eq_true (by kernel_rfl)
  name := by kernel_rfl

theorem f71_ok : FnOk Try.prog 71 f71_info Try.f71 where
  at_ := Try.func71
  body := by kernel_rfl
  results := by kernel_rfl
  ntmps := by kernel_rfl
  params := Nat.le_of_ble_eq_true (by kernel_rfl)
  name := by kernel_rfl

theorem f29_ok : FnOk Try.prog 29 f29_info Try.f29 where
  at_ := Try.func29
  body := by kernel_rfl
  results := by kernel_rfl
  ntmps := by kernel_rfl
  params := Nat.le_of_ble_eq_true (by kernel_rfl)
  name := by kernel_rfl

theorem f6_ok : FnOk Try.prog 6 f6_info Try.f6 where
  at_ := Try.func6
  body := by kernel_rfl
  results := by kernel_rfl
  ntmps := by kernel_rfl
  params := Nat.le_of_ble_eq_true (by kernel_rfl)
  name := by kernel_rfl

theorem f80_ok : FnOk Try.prog 80 f80_info Try.f80 where
  at_ := Try.func80
  body := by kernel_rfl
  results := by kernel_rfl
  ntmps := by kernel_rfl
  params := Nat.le_of_ble_eq_true (by kernel_rfl)
  name := by kernel_rfl

theorem f40_ok : FnOk Try.prog 40 f40_info Try.f40 where
  at_ := Try.func40
  body := by kernel_rfl
  results := by kernel_rfl
  ntmps := by kernel_rfl
  params := Nat.le_of_ble_eq_true (by kernel_rfl)
  name := by kernel_rfl

theorem f41_ok : FnOk Try.prog 41 f41_info Try.f41 where
  at_ := Try.func41
  body := by kernel_rfl
  results := by kernel_rfl
  ntmps := by kernel_rfl
  params := Nat.le_of_ble_eq_true (by kernel_rfl)
  name := by kernel_rfl

theorem f39_ok : FnOk Try.prog 39 f39_info Try.f39 where
  at_ := Try.func39
  body := by kernel_rfl
  results := by kernel_rfl
  ntmps := by kernel_rfl
  params := Nat.le_of_ble_eq_true (by kernel_rfl)
  name := by kernel_rfl

theorem f7_ok : FnOk Try.prog 7 f7_info Try.f7 where
  at_ := Try.func7
  body := by kernel_rfl
  results := by kernel_rfl
  ntmps := by kernel_rfl
  params := Nat.le_of_ble_eq_true (by kernel_rfl)
  name := by kernel_rfl

theorem types_ok : TyAll Try.prog G := tyAll_of (by kernel_rfl) (by kernel_rfl) (by kernel_rfl) (by kernel_rfl)

theorem fns_ok : FnsAll Try.prog G.fns := ⟨⟨_, f149_ok⟩, ⟨⟨_, f154_ok⟩, ⟨⟨_, f127_ok⟩, ⟨⟨_, f8_ok⟩, ⟨⟨_, f43_ok⟩, ⟨⟨_, f51_ok⟩, ⟨⟨_, f52_ok⟩, ⟨⟨_, f81_ok⟩, ⟨⟨_, f42_ok⟩, ⟨⟨_, f9_ok⟩, ⟨⟨_, f136_ok⟩, ⟨⟨_, f115_ok⟩, ⟨⟨_, f133_ok⟩, ⟨⟨_, f146_ok⟩, ⟨⟨_, f132_ok⟩, ⟨⟨_, f158_ok⟩, ⟨⟨_, f153_ok⟩, ⟨⟨_, f151_ok⟩, ⟨⟨_, f152_ok⟩, ⟨⟨_, f147_ok⟩, ⟨⟨_, f134_ok⟩, ⟨⟨_, f137_ok⟩, ⟨⟨_, f112_ok⟩, ⟨⟨_, f148_ok⟩, ⟨⟨_, f111_ok⟩, ⟨⟨_, f135_ok⟩, ⟨⟨_, f109_ok⟩, ⟨⟨_, f84_ok⟩, ⟨⟨_, f83_ok⟩, ⟨⟨_, f45_ok⟩, ⟨⟨_, f114_ok⟩, ⟨⟨_, f125_ok⟩, ⟨⟨_, f91_ok⟩, ⟨⟨_, f82_ok⟩, ⟨⟨_, f44_ok⟩, ⟨⟨_, f10_ok⟩, ⟨⟨_, f11_ok⟩, ⟨⟨_, f120_ok⟩, ⟨⟨_, f123_ok⟩, ⟨⟨_, f116_ok⟩, ⟨⟨_, f119_ok⟩, ⟨⟨_, f117_ok⟩, ⟨⟨_, f150_ok⟩, ⟨⟨_, f139_ok⟩, ⟨⟨_, f138_ok⟩, ⟨⟨_, f140_ok⟩, ⟨⟨_, f118_ok⟩, ⟨⟨_, f85_ok⟩, ⟨⟨_, f89_ok⟩, ⟨⟨_, f48_ok⟩, ⟨⟨_, f87_ok⟩, ⟨⟨_, f121_ok⟩, ⟨⟨_, f122_ok⟩, ⟨⟨_, f88_ok⟩, ⟨⟨_, f47_ok⟩, ⟨⟨_, f86_ok⟩, ⟨⟨_, f46_ok⟩, ⟨⟨_, f12_ok⟩, ⟨⟨_, f50_ok⟩, ⟨⟨_, f54_ok⟩, ⟨⟨_, f124_ok⟩, ⟨⟨_, f90_ok⟩, ⟨⟨_, f49_ok⟩, ⟨⟨_, f13_ok⟩, ⟨⟨_, f53_ok⟩, ⟨⟨_, f14_ok⟩, ⟨⟨_, f55_ok⟩, ⟨⟨_, f15_ok⟩, ⟨⟨_, f56_ok⟩, ⟨⟨_, f16_ok⟩, ⟨⟨_, f126_ok⟩, ⟨⟨_, f92_ok⟩, ⟨⟨_, f93_ok⟩, ⟨⟨_, f57_ok⟩, ⟨⟨_, f17_ok⟩, ⟨⟨_, f3_ok⟩, ⟨⟨_, f97_ok⟩, ⟨⟨_, f113_ok⟩, ⟨⟨_, f144_ok⟩, ⟨⟨_, f143_ok⟩, ⟨⟨_, f128_ok⟩, ⟨⟨_, f107_ok⟩, ⟨⟨_, f145_ok⟩, ⟨⟨_, f129_ok⟩, ⟨⟨_, f98_ok⟩, ⟨⟨_, f78_ok⟩, ⟨⟨_, f110_ok⟩, ⟨⟨_, f77_ok⟩, ⟨⟨_, f36_ok⟩, ⟨⟨_, f108_ok⟩, ⟨⟨_, f76_ok⟩, ⟨⟨_, f75_ok⟩, ⟨⟨_, f35_ok⟩, ⟨⟨_, f99_ok⟩, ⟨⟨_, f63_ok⟩, ⟨⟨_, f62_ok⟩, ⟨⟨_, f65_ok⟩, ⟨⟨_, f95_ok⟩, ⟨⟨_, f100_ok⟩, ⟨⟨_, f66_ok⟩, ⟨⟨_, f96_ok⟩, ⟨⟨_, f61_ok⟩, ⟨⟨_, f26_ok⟩, ⟨⟨_, f22_ok⟩, ⟨⟨_, f21_ok⟩, ⟨⟨_, f19_ok⟩, ⟨⟨_, f18_ok⟩, ⟨⟨_, f60_ok⟩, ⟨⟨_, f94_ok⟩, ⟨⟨_, f59_ok⟩, ⟨⟨_, f58_ok⟩, ⟨⟨_, f20_ok⟩, ⟨⟨_, f4_ok⟩, ⟨⟨_, f67_ok⟩, ⟨⟨_, f27_ok⟩, ⟨⟨_, f64_ok⟩, ⟨⟨_, f23_ok⟩, ⟨⟨_, f24_ok⟩, ⟨⟨_, f25_ok⟩, ⟨⟨_, f5_ok⟩, ⟨⟨_, f68_ok⟩, ⟨⟨_, f28_ok⟩, ⟨⟨_, f72_ok⟩, ⟨⟨_, f130_ok⟩, ⟨⟨_, f101_ok⟩, ⟨⟨_, f37_ok⟩, ⟨⟨_, f79_ok⟩, ⟨⟨_, f38_ok⟩, ⟨⟨_, f106_ok⟩, ⟨⟨_, f73_ok⟩, ⟨⟨_, f34_ok⟩, ⟨⟨_, f74_ok⟩, ⟨⟨_, f30_ok⟩, ⟨⟨_, f32_ok⟩, ⟨⟨_, f33_ok⟩, ⟨⟨_, f31_ok⟩, ⟨⟨_, f69_ok⟩, ⟨⟨_, f70_ok⟩, ⟨⟨_, f104_ok⟩, ⟨⟨_, f103_ok⟩, ⟨⟨_, f102_ok⟩, ⟨⟨_, f131_ok⟩, ⟨⟨_, f105_ok⟩, ⟨⟨_, f71_ok⟩, ⟨⟨_, f29_ok⟩, ⟨⟨_, f6_ok⟩, ⟨⟨_, f80_ok⟩, ⟨⟨_, f40_ok⟩, ⟨⟨_, f41_ok⟩, ⟨⟨_, f39_ok⟩, ⟨⟨_, f7_ok⟩, trivial⟩⟩⟩⟩⟩⟩⟩⟩⟩⟩⟩⟩⟩⟩⟩⟩⟩⟩⟩⟩⟩⟩⟩⟩⟩⟩⟩⟩⟩⟩⟩⟩⟩⟩⟩⟩⟩⟩⟩⟩⟩⟩⟩⟩⟩⟩⟩⟩⟩⟩⟩⟩⟩⟩⟩⟩⟩⟩⟩⟩⟩⟩⟩⟩⟩⟩⟩⟩⟩⟩⟩⟩⟩⟩⟩⟩⟩⟩⟩⟩⟩⟩⟩⟩⟩⟩⟩⟩⟩⟩⟩⟩⟩⟩⟩⟩⟩⟩⟩⟩⟩⟩⟩⟩⟩⟩⟩⟩⟩⟩⟩⟩⟩⟩⟩⟩⟩⟩⟩⟩⟩⟩⟩⟩⟩⟩⟩⟩⟩⟩⟩⟩⟩⟩⟩⟩⟩⟩⟩⟩⟩⟩⟩⟩⟩⟩⟩⟩⟩⟩⟩

end Go.Proofs.Ytncajhkogppojaa.Ev

/- The functions are those of the program. -/
import Derived.Test.YtogehijjhibdkaaEvFB
import Derived.Test.YtogehijjhibdkaaEvFC
namespace Go.Proofs.Ytogehijjhibdkaa.Ev
open Go Go.RowKit
set_option maxRecDepth 100000


theorem f15_ok : FnOk Try.prog 15 f15_info Try.f15 where
  at_ := Try.func15
  body := by kernel_rfl
  results := by kernel_rfl
  ntmps := by kernel_rfl
  params := Nat.le_of_ble_eq_true (by kernel_rfl)
  name := by kernel_rfl

theorem f35_ok : FnOk Try.prog 35 f35_info Try.f35 where
  at_ := Try.func35
  body := by kernel_rfl
  results := by kernel_rfl
  ntmps := by kernel_rfl
  params := Nat.le_of_ble_eq_true (by kernel_rfl)
  name := by kernel_rfl

theorem f5_ok : FnOk Try.prog 5 f5_info Try.f5 where
  at_ := Try.func5
  body := by kernel_rfl
  results := by kernel_rfl
  ntmps := by kernel_rfl
  params := Nat.le_of_ble_eq_true (by kernel_rfl)
  name := by kernel_rfl

theorem f17_ok : FnOk Try.prog 17 f17_info Try.f17 where
  at_ := Try.func17
  body := by kernel_rfl
  results := by kernel_rfl
  ntmps := by kernel_rfl
  params := Nat.le_of_ble_eq_true (by kernel_rfl)
  name := by kernel_rfl

theorem f10_ok : FnOk Try.prog 10 f10_info Try.f10 where
  at_ := Try.func10
  body := by kernel_rfl
  results := by kernel_rfl
  ntmps := by kernel_rfl
  params := Nat.le_of_ble_eq_true (by kernel_rfl)
  name := by kernel_rfl

theorem f14_ok : FnOk Try.prog 14 f14_info Try.f14 where
  at_ := Try.func14
  body := by kernel_rfl
  results := by kernel_rfl
  ntmps := by kernel_rfl
  params := Nat.le_of_ble_eq_true (by kernel_rfl)
  name := by kernel_rfl

theorem f45_ok : FnOk Try.prog 45 f45_info Try.f45 where
  at_ := Try.func45
  body := by kernel_rfl
  results := by kernel_rfl
  ntmps := by kernel_rfl
  params := Nat.le_of_ble_eq_true (by kernel_rfl)
  name := by kernel_rfl

theorem f47_ok : FnOk Try.prog 47 f47_info Try.f47 where
  at_ := Try.func47
  body := by kernel_rfl
  results := by kernel_rfl
  ntmps := by kernel_rfl
  params := Nat.le_of_ble_eq_true (by kernel_rfl)
  name := by kernel_rfl

theorem f50_ok : FnOk Try.prog 50 f50_info Try.f50 where
  at_ := Try.func50
  body := by kernel_rfl
  results := by kernel_rfl
  ntmps := by kernel_rfl
  params := Nat.le_of_ble_eq_true (by kernel_rfl)
  name := by kernel_rfl

theorem f49_ok : FnOk Try.prog 49 f49_info Try.f49 where
  at_ := Try.func49
  body := by kernel_rfl
  results := by kernel_rfl
  ntmps := by kernel_rfl
  params := Nat.le_of_ble_eq_true (by kernel_rfl)
  name := by kernel_rfl

theorem f46_ok : FnOk Try.prog 46 f46_info Try.f46 where
  at_ := Try.func46
  body := by kernel_rfl
  results := by kernel_rfl
  ntmps := by kernel_rfl
  params := Nat.le_of_ble_eq_true (by kernel_rfl)
  name := by kernel_rfl

theorem f48_ok : FnOk Try.prog 48 f48_info Try.f48 where
  at_ := Try.func48
  body := by kernel_rfl
  results := by kernel_rfl
  ntmps := by kernel_rfl
  params := Nat.le_of_ble_eq_true (by kernel_rfl)
  name := by kernel_rfl

theorem f44_ok : FnOk Try.prog 44 f44_info Try.f44 where
  at_ := Try.func44
  body := by kernel_rfl
  results := by kernel_rfl
  ntmps := by kernel_rfl
  params := Nat.le_of_ble_eq_true (by kernel_rfl)
  name := by kernel_rfl

theorem f43_ok : FnOk Try.prog 43 f43_info Try.f43 where
  at_ := Try.func43
  body := by kernel_rfl
  results := by kernel_rfl
  ntmps := by kernel_rfl
  params := Nat.le_of_ble_eq_true (by kernel_rfl)
  name := by kernel_rfl

theorem f39_ok : FnOk Try.prog 39 f39_info Try.f39 where
  at_ := Try.func39
  body := by kernel_rfl
  results := by kernel_rfl
  ntmps := by kernel_rfl
  params := Nat.le_of_ble_eq_true (by kernel_rfl)
  name := by kernel_rfl

theorem f40_ok : FnOk Try.prog 40 f40_info Try.f40 where
  at_ := Try.func40
  body := by kernel_rfl
  results := by kernel_rfl
  ntmps := by kernel_rfl
  params := Nat.le_of_ble_eq_true (by kernel_rfl)
  name := by kernel_rfl

theorem f33_ok : FnOk Try.prog 33 f33_info Try.f33 where
  at_ := Try.func33
  body := by kernel_rfl
  results := by kernel_rfl
  ntmps := by kernel_rfl
  params := Nat.le_of_ble_eq_true (by kernel_rfl)
  name := by kernel_rfl

theorem f27_ok : FnOk Try.prog 27 f27_info Try.f27 where
  at_ := Try.func27
  body := by kernel_rfl
  results := by kernel_rfl
  ntmps := by kernel_rfl
  params := Nat.le_of_ble_eq_true (by kernel_rfl)
  name := by kernel_rfl

theorem f22_ok : FnOk Try.prog 22 f22_info Try.f22 where
  at_ := Try.func22
  body := by kernel_rfl
  results := by kernel_rfl
  ntmps := by kernel_rfl
  params := Nat.le_of_ble_eq_true (by kernel_rfl)
  name := by kernel_rfl

theorem f28_ok : FnOk Try.prog 28 f28_info Try.f28 where
  at_ := Try.func28
  body := by kernel_rfl
  results := by kernel_rfl
  ntmps := by kernel_rfl
  params := Nat.le_of_ble_eq_true (by kernel_rfl)
  name := by kernel_rfl

theorem f34_ok : FnOk Try.prog 34 f34_info Try.f34 where
  at_ := Try.func34
  body := by kernel_rfl
  results := by kernel_rfl
  ntmps := by kernel_rfl
  params := Nat.le_of_ble_eq_true (by kernel_rfl)
  name := by kernel_rfl

theorem f29_ok : FnOk Try.prog 29 f29_info Try.f29 where
  at_ := Try.func29
  body := by kernel_rfl
  results := by kernel_rfl
  ntmps := by kernel_rfl
  params := Nat.le_of_ble_eq_true (by kernel_rfl)
  name := by kernel_rfl

theorem f23_ok : FnOk Try.prog 23 f23_info Try.f23 where
  at_ := Try.func23
  body := by kernel_rfl
  results := by kernel_rfl
  ntmps := by kernel_rfl
  params := Nat.le_of_ble_eq_true (by kernel_rfl)
  name := by kernel_rfl

theorem f19_ok : FnOk Try.prog 19 f19_info Try.f19 where
  at_ := Try.func19
  body := by kernel_rfl
  results := by kernel_rfl
  ntmps := by kernel_rfl
  params := Nat.le_of_ble_eq_true (by kernel_rfl)
  name := by kernel_rfl

theorem f12_ok : FnOk Try.prog 12 f12_info Try.f12 where
  at_ := Try.func12
  body := by kernel_rfl
  results := by kernel_rfl
  ntmps := by kernel_rfl
  params := Nat.le_of_ble_eq_true (by kernel_rfl)
  name := by kernel_rfl

theorem f8_ok : FnOk Try.prog 8 f8_info Try.f8 where
  at_ := Try.func8
  body := by kernel_rfl
  results := by kernel_rfl
  ntmps := by kernel_rfl
  params := Nat.le_of_ble_eq_true (by kernel_rfl)
  name := by kernel_rfl

theorem f7_ok : FnOk Try.prog 7 f7_info Try.f7 where
  at_ := Try.func7
  body := by kernel_rfl
  results := by kernel_rfl
  ntmps := by kernel_rfl
  params := Nat.le_of_ble_eq_true (by kernel_rfl)
  name := by kernel_rfl

theorem f6_ok : FnOk Try.prog 6 f6_info Try.f6 where
  at_ := Try.func6
  body := by kernel_rfl
  results := by kernel_rfl
  ntmps := by kernel_rfl
  params := Nat.le_of_ble_eq_true (by kernel_rfl)
  name := by kernel_rfl

theorem f18_ok : FnOk Try.prog 18 f18_info Try.f18 where
  at_ := Try.func18
  body := by kernel_rfl
  results := by kernel_rfl
  ntmps := by kernel_rfl
  params := Nat.le_of_ble_eq_true (by kernel_rfl)
  name := by kernel_rfl

theorem f11_ok : FnOk Try.prog 11 f11_info Try.f11 where
  at_ := Try.func11
  body := by kernel_rfl
  results := by kernel_rfl
  ntmps := by kernel_rfl
  params := Nat.le_of_ble_eq_true (by kernel_rfl)
  name := by kernel_rfl

theorem f16_ok : FnOk Try.prog 16 f16_info Try.f16 where
  at_ := Try.func16
  body := by kernel_rfl
  results := by kernel_rfl
  ntmps := by kernel_rfl
  params := Nat.le_of_ble_eq_true (by kernel_rfl)
  name := by kernel_rfl

theorem f30_ok : FnOk Try.prog 30 f30_info Try.f30 where
  at_ := Try.func30
  body := by kernel_rfl
  results := by kernel_rfl
  ntmps := by kernel_rfl
  params := Nat.le_of_ble_eq_true (by kernel_rfl)
  name := by kernel_rfl

theorem f41_ok : FnOk Try.prog 41 f41_info Try.f41 where
  at_ := Try.func41
  body := by kernel_rfl
  results := by kernel_rfl
  ntmps := by kernel_rfl
  params := Nat.le_of_ble_eq_true (by kernel_rfl)
  name := by kernel_rfl

theorem f42_ok : FnOk Try.prog 42 f42_info Try.f42 where
  at_ := Try.func42
  body := by kernel_rfl
  results := by kernel_rfl
  ntmps := by kernel_rfl
  params := Nat.le_of_ble_eq_true (by kernel_rfl)
  name := by kernel_rfl

theorem f36_ok : FnOk Try.prog 36 f36_info Try.f36 where
  at_ := Try.func36
  body := by kernel_rfl
  results := by kernel_rfl
  ntmps := by kernel_rfl
  params := Nat.le_of_ble_eq_true (by kernel_rfl)
  name := by kernel_rfl

theorem f37_ok : FnOk Try.prog 37 f37_info Try.f37 where
  at_ := Try.func37
  body := by kernel_rfl
  results := by kernel_rfl
  ntmps := by kernel_rfl
  params := Nat.le_of_ble_eq_true (by kernel_rfl)
  name := by kernel_rfl

theorem f38_ok : FnOk Try.prog 38 f38_info Try.f38 where
  at_ := Try.func38
  body := by kernel_rfl
  results := by kernel_rfl
  ntmps := by kernel_rfl
  params := Nat.le_of_ble_eq_true (by kernel_rfl)
  name := by kernel_rfl

theorem f32_ok : FnOk Try.prog 32 f32_info Try.f32 where
  at_ := Try.func32
  body := by kernel_rfl
  results := by kernel_rfl
  ntmps := by kernel_rfl
  params := Nat.le_of_ble_eq_true (by kernel_rfl)
  name := by kernel_rfl

theorem f31_ok : FnOk Try.prog 31 f31_info Try.f31 where
  at_ := Try.func31
  body := by kernel_rfl
  results := by kernel_rfl
  ntmps := by kernel_rfl
  params := Nat.le_of_ble_eq_true (by kernel_rfl)
  name := by kernel_rfl

theorem f24_ok : FnOk Try.prog 24 f24_info Try.f24 where
  at_ := Try.func24
  body := by kernel_rfl
  results := by kernel_rfl
  ntmps := by kernel_rfl
  params := Nat.le_of_ble_eq_true (by kernel_rfl)
  name := by kernel_rfl

theorem f25_ok : FnOk Try.prog 25 f25_info Try.f25 where
  at_ := Try.func25
  body := by kernel_rfl
  results := by kernel_rfl
  ntmps := by kernel_rfl
  params := Nat.le_of_ble_eq_true (by kernel_rfl)
  name := by kernel_rfl

theorem f20_ok : FnOk Try.prog 20 f20_info Try.f20 where
  at_ := Try.func20
  body := by kernel_rfl
  results := by kernel_rfl
  ntmps := by kernel_rfl
  params := Nat.le_of_ble_eq_true (by kernel_rfl)
  name := by kernel_rfl

theorem f13_ok : FnOk Try.prog 13 f13_info Try.f13 where
  at_ := Try.func13
  body := by kernel_rfl
  results := by kernel_rfl
  ntmps := by kernel_rfl
  params := Nat.le_of_ble_eq_true (by kernel_rfl)
  name := by kernel_rfl

theorem f9_ok : FnOk Try.prog 9 f9_info Try.f9 where
  at_ := Try.func9
  body := by kernel_rfl
  results := by kernel_rfl
  ntmps := by kernel_rfl
  params := Nat.le_of_ble_eq_true (by kernel_rfl)
  name := by kernel_rfl

theorem f3_ok : FnOk Try.prog 3 f3_info Try.f3 where
  at_ := Try.func3
  body := by kernel_rfl
  results := by kernel_rfl
  ntmps := by kernel_rfl
  params := Nat.le_of_ble_eq_true (by kernel_rfl)
  name := by kernel_rfl

theorem f4_ok : FnOk Try.prog 4 f4_info Try.f4 where
  at_ := Try.func4
  body := by kernel_rfl
  results := by kernel_rfl
  ntmps := by kernel_rfl
  params := Nat.le_of_ble_eq_true (by kernel_rfl)
  name := by kernel_rfl

theorem types_ok : TyAll Try.prog G := tyAll_of (by kernel_rfl) (by kernel_rfl) (by kernel_rfl) (by kernel_rfl)

theorem fns_ok : FnsAll Try.prog G.fns := ⟨⟨_, f15_ok⟩, ⟨⟨_, f35_ok⟩, ⟨⟨_, f5_ok⟩, ⟨⟨_, f17_ok⟩, ⟨⟨_, f10_ok⟩, ⟨⟨_, f14_ok⟩, ⟨⟨_, f45_ok⟩, ⟨⟨_, f47_ok⟩, ⟨⟨_, f50_ok⟩, ⟨⟨_, f49_ok⟩, ⟨⟨_, f46_ok⟩, ⟨⟨_, f48_ok⟩, ⟨⟨_, f44_ok⟩, ⟨⟨_, f43_ok⟩, ⟨⟨_, f39_ok⟩, ⟨⟨_, f40_ok⟩, ⟨⟨_, f33_ok⟩, ⟨⟨_, f27_ok⟩, ⟨⟨_, f22_ok⟩, ⟨⟨_, f28_ok⟩, ⟨⟨_, f34_ok⟩, ⟨⟨_, f29_ok⟩, ⟨⟨_, f23_ok⟩, ⟨⟨_, f19_ok⟩, ⟨⟨_, f12_ok⟩, ⟨⟨_, f8_ok⟩, ⟨⟨_, f7_ok⟩, ⟨⟨_, f6_ok⟩, ⟨⟨_, f18_ok⟩, ⟨⟨_, f11_ok⟩, ⟨⟨_, f16_ok⟩, ⟨⟨_, f30_ok⟩, ⟨⟨_, f41_ok⟩, ⟨⟨_, f42_ok⟩, ⟨⟨_, f36_ok⟩, ⟨⟨_, f37_ok⟩, ⟨⟨_, f38_ok⟩, ⟨⟨_, f32_ok⟩, ⟨⟨_, f31_ok⟩, ⟨⟨_, f24_ok⟩, ⟨⟨_, f25_ok⟩, ⟨⟨_, f20_ok⟩, ⟨⟨_, f13_ok⟩, ⟨⟨_, f9_ok⟩, ⟨⟨_, f3_ok⟩, ⟨⟨_, f4_ok⟩, trivial⟩⟩⟩⟩⟩⟩⟩⟩⟩⟩⟩⟩⟩⟩⟩⟩⟩⟩⟩⟩⟩⟩⟩⟩⟩⟩⟩⟩⟩⟩⟩⟩⟩⟩⟩⟩⟩⟩⟩⟩⟩⟩⟩⟩⟩⟩

end Go.Proofs.Ytogehijjhibdkaa.Ev

/- Rows of the table hold (second part). No condition. -/
import Derived.Test.YtjbbhpfoohpbkaaGreatDoorRunB
set_option linter.all false
open Go Go.Xv
namespace Go.Proofs.YtjbbhpfoohpbkaaGreatDoor
theorem k1 : eqO (valT PR glT ext0 T1 mdT 100000 60 r1.f r1.args) r1.v = true := by kernel_rfl
theorem k2 : eqO (valT PR glT ext0 T2 mdT 100000 60 r2.f r2.args) r2.v = true := by kernel_rfl
theorem k4 : eqO (valT PR glT ext0 T4 mdT 100000 60 r4.f r4.args) r4.v = true := by kernel_rfl
theorem k7 : eqO (valT PR glT ext0 T7 mdT 100000 60 r7.f r7.args) r7.v = true := by kernel_rfl
theorem k11 : eqO (valT PR glT ext0 T11 mdT 100000 60 r11.f r11.args) r11.v = true := by kernel_rfl
theorem k18 : eqO (valT PR glT ext0 T18 mdT 100000 60 r18.f r18.args) r18.v = true := by kernel_rfl
theorem k19 : eqO (valT PR glT ext0 T19 mdT 100000 60 r19.f r19.args) r19.v = true := by kernel_rfl
theorem k20 : eqO (valT PR glT ext0 T20 mdT 100000 60 r20.f r20.args) r20.v = true := by kernel_rfl
theorem k24 : eqO (valT PR glT ext0 T24 mdT 100000 60 r24.f r24.args) r24.v = true := by kernel_rfl
theorem k26 : eqO (valT PR glT ext0 T26 mdT 100000 60 r26.f r26.args) r26.v = true := by kernel_rfl
theorem k27 : eqO (valT PR glT ext0 T27 mdT 100000 60 r27.f r27.args) r27.v = true := by kernel_rfl
theorem k32 : eqO (valT PR glT ext0 T32 mdT 100000 60 r32.f r32.args) r32.v = true := by kernel_rfl
theorem k33 : eqO (valT PR glT ext0 T33 mdT 100000 60 r33.f r33.args) r33.v = true := by kernel_rfl
theorem k39 : eqO (valT PR glT ext0 T39 mdT 100000 60 r39.f r39.args) r39.v = true := by kernel_rfl
theorem k48 : eqO (valT PR glT ext0 T48 mdT 100000 60 r48.f r48.args) r48.v = true := by kernel_rfl
theorem k50 : eqO (valT PR glT ext0 T50 mdT 100000 60 r50.f r50.args) r50.v = true := by kernel_rfl
theorem k55 : eqO (valT PR glT ext0 T55 mdT 100000 60 r55.f r55.args) r55.v = true := by kernel_rfl
theorem k61 : eqO (valT PR glT ext0 T61 mdT 100000 60 r61.f r61.args) r61.v = true := by kernel_rfl
theorem kf0 : eqO (valF PR glT ext0 [] mdT 100000 60 fr0.f fr0.args) fr0.v = true := by kernel_rfl
theorem kf1 : eqO (valF PR glT ext0 T00 mdT 100000 60 fr1.f fr1.args) fr1.v = true := by kernel_rfl
end Go.Proofs.YtjbbhpfoohpbkaaGreatDoor

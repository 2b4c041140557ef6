/- Rows of the table hold (third part). No condition. -/
import Derived.Test.YtjbbhpfoohpbkaaGreatDoorRunB
set_option linter.all false
open Go Go.Xv
namespace Go.Proofs.YtjbbhpfoohpbkaaGreatDoor
theorem k0 : eqO (valT PR glT ext0 T0 mdT 100000 60 r0.f r0.args) r0.v = true := by kernel_rfl
theorem k5 : eqO (valT PR glT ext0 T5 mdT 100000 60 r5.f r5.args) r5.v = true := by kernel_rfl
theorem k6 : eqO (valT PR glT ext0 T6 mdT 100000 60 r6.f r6.args) r6.v = true := by kernel_rfl
theorem k21 : eqO (valT PR glT ext0 T21 mdT 100000 60 r21.f r21.args) r21.v = true := by kernel_rfl
theorem k22 : eqO (valT PR glT ext0 T22 mdT 100000 60 r22.f r22.args) r22.v = true := by kernel_rfl
theorem k23 : eqO (valT PR glT ext0 T23 mdT 100000 60 r23.f r23.args) r23.v = true := by kernel_rfl
theorem k25 : eqO (valT PR glT ext0 T25 mdT 100000 60 r25.f r25.args) r25.v = true := by kernel_rfl
theorem k28 : eqO (valT PR glT ext0 T28 mdT 100000 60 r28.f r28.args) r28.v = true := by kernel_rfl
theorem k37 : eqO (valT PR glT ext0 T37 mdT 100000 60 r37.f r37.args) r37.v = true := by kernel_rfl
theorem k41 : eqO (valT PR glT ext0 T41 mdT 100000 60 r41.f r41.args) r41.v = true := by kernel_rfl
theorem k47 : eqO (valT PR glT ext0 T47 mdT 100000 60 r47.f r47.args) r47.v = true := by kernel_rfl
theorem k52 : eqO (valT PR glT ext0 T52 mdT 100000 60 r52.f r52.args) r52.v = true := by kernel_rfl
theorem k57 : eqO (valT PR glT ext0 T57 mdT 100000 60 r57.f r57.args) r57.v = true := by kernel_rfl
theorem k62 : eqO (valT PR glT ext0 T62 mdT 100000 60 r62.f r62.args) r62.v = true := by kernel_rfl
theorem k63 : eqO (valT PR glT ext0 T63 mdT 100000 60 r63.f r63.args) r63.v = true := by kernel_rfl
theorem k64 : eqO (valT PR glT ext0 T64 mdT 100000 60 r64.f r64.args) r64.v = true := by kernel_rfl
theorem k66 : eqO (valT PR glT ext0 T66 mdT 100000 60 r66.f r66.args) r66.v = true := by kernel_rfl
theorem k68 : eqO (valT PR glT ext0 T68 mdT 100000 60 r68.f r68.args) r68.v = true := by kernel_rfl
end Go.Proofs.YtjbbhpfoohpbkaaGreatDoor

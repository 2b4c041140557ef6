/- Rows of the table hold (fourth part). No condition. -/
import Derived.Test.YtjbbhpfoohpbkaaGreatDoorRunB
set_option linter.all false
open Go Go.Xv
namespace Go.Proofs.YtjbbhpfoohpbkaaGreatDoor
theorem k8 : eqO (valT PR glT ext0 T8 mdT 100000 60 r8.f r8.args) r8.v = true := by kernel_rfl
theorem k9 : eqO (valT PR glT ext0 T9 mdT 100000 60 r9.f r9.args) r9.v = true := by kernel_rfl
theorem k10 : eqO (valT PR glT ext0 T10 mdT 100000 60 r10.f r10.args) r10.v = true := by kernel_rfl
theorem k12 : eqO (valT PR glT ext0 T12 mdT 100000 60 r12.f r12.args) r12.v = true := by kernel_rfl
theorem k15 : eqO (valT PR glT ext0 T15 mdT 100000 60 r15.f r15.args) r15.v = true := by kernel_rfl
theorem k16 : eqO (valT PR glT ext0 T16 mdT 100000 60 r16.f r16.args) r16.v = true := by kernel_rfl
theorem k17 : eqO (valT PR glT ext0 T17 mdT 100000 60 r17.f r17.args) r17.v = true := by kernel_rfl
theorem k29 : eqO (valT PR glT ext0 T29 mdT 100000 60 r29.f r29.args) r29.v = true := by kernel_rfl
theorem k30 : eqO (valT PR glT ext0 T30 mdT 100000 60 r30.f r30.args) r30.v = true := by kernel_rfl
theorem k31 : eqO (valT PR glT ext0 T31 mdT 100000 60 r31.f r31.args) r31.v = true := by kernel_rfl
theorem k35 : eqO (valT PR glT ext0 T35 mdT 100000 60 r35.f r35.args) r35.v = true := by kernel_rfl
theorem k36 : eqO (valT PR glT ext0 T36 mdT 100000 60 r36.f r36.args) r36.v = true := by kernel_rfl
theorem k38 : eqO (valT PR glT ext0 T38 mdT 100000 60 r38.f r38.args) r38.v = true := by kernel_rfl
theorem k49 : eqO (valT PR glT ext0 T49 mdT 100000 60 r49.f r49.args) r49.v = true := by kernel_rfl
theorem k51 : eqO (valT PR glT ext0 T51 mdT 100000 60 r51.f r51.args) r51.v = true := by kernel_rfl
theorem k54 : eqO (valT PR glT ext0 T54 mdT 100000 60 r54.f r54.args) r54.v = true := by kernel_rfl
theorem k59 : eqO (valT PR glT ext0 T59 mdT 100000 60 r59.f r59.args) r59.v = true := by kernel_rfl
theorem k60 : eqO (valT PR glT ext0 T60 mdT 100000 60 r60.f r60.args) r60.v = true := by kernel_rfl
end Go.Proofs.YtjbbhpfoohpbkaaGreatDoor

/- Rows of the table hold (first part). No condition. -/
import Derived.Test.YtjbbhpfoohpbkaaGreatDoorRunB
set_option linter.all false
open Go Go.Xv
namespace Go.Proofs.YtjbbhpfoohpbkaaGreatDoor
theorem k3 : eqO (valT PR glT ext0 T3 mdT 100000 60 r3.f r3.args) r3.v = true := by kernel_rfl
theorem k13 : eqO (valT PR glT ext0 T13 mdT 100000 60 r13.f r13.args) r13.v = true := by kernel_rfl
theorem k14 : eqO (valT PR glT ext0 T14 mdT 100000 60 r14.f r14.args) r14.v = true := by kernel_rfl
theorem k34 : eqO (valT PR glT ext0 T34 mdT 100000 60 r34.f r34.args) r34.v = true := by kernel_rfl
theorem k40 : eqO (valT PR glT ext0 T40 mdT 100000 60 r40.f r40.args) r40.v = true := by kernel_rfl
theorem k42 : eqO (valT PR glT ext0 T42 mdT 100000 60 r42.f r42.args) r42.v = true := by kernel_rfl
theorem k43 : eqO (valT PR glT ext0 T43 mdT 100000 60 r43.f r43.args) r43.v = true := by kernel_rfl
theorem k44 : eqO (valT PR glT ext0 T44 mdT 100000 60 r44.f r44.args) r44.v = true := by kernel_rfl
theorem k45 : eqO (valT PR glT ext0 T45 mdT 100000 60 r45.f r45.args) r45.v = true := by kernel_rfl
theorem k46 : eqO (valT PR glT ext0 T46 mdT 100000 60 r46.f r46.args) r46.v = true := by kernel_rfl
theorem k53 : eqO (valT PR glT ext0 T53 mdT 100000 60 r53.f r53.args) r53.v = true := by kernel_rfl
theorem k56 : eqO (valT PR glT ext0 T56 mdT 100000 60 r56.f r56.args) r56.v = true := by kernel_rfl
theorem k58 : eqO (valT PR glT ext0 T58 mdT 100000 60 r58.f r58.args) r58.v = true := by kernel_rfl
theorem k65 : eqO (valT PR glT ext0 T65 mdT 100000 60 r65.f r65.args) r65.v = true := by kernel_rfl
theorem k67 : eqO (valT PR glT ext0 T67 mdT 100000 60 r67.f r67.args) r67.v = true := by kernel_rfl
theorem kroot : eqO (valT PR glT ext0 T69 mdT 100000 60 rA.f rA.args) rA.v = true := by kernel_rfl
end Go.Proofs.YtjbbhpfoohpbkaaGreatDoor

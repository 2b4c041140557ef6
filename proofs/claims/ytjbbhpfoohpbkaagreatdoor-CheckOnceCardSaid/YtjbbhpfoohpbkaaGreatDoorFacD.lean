/- The closed cells of the rows that look at the closure. No condition. -/
import Derived.Test.YtjbbhpfoohpbkaaGreatDoorFacC
import Derived.Test.YtjbbhpfoohpbkaaGreatDoorRows
import Derived.Test.YtjbbhpfoohpbkaaGreatDoorCards
set_option linter.all false
open Go Go.Xv
namespace Go.Proofs.YtjbbhpfoohpbkaaGreatDoor
theorem inpl0 : Rows.checkTextsRow.inPlace = Tryz.prog.inPlace 3 := by rw [inPlace_fast f_get clos0]; kernel_rfl
theorem unf0 : Tryz.prog.unfollowed 3 = true := by rw [unfollowed_fast f_get clos0]; kernel_rfl
theorem vars0 : Rows.checkTextsRow.named = Tryz.prog.varsNamed 3 := by rw [vars_fast f_get clos0]; kernel_rfl
theorem inpl1 : Rows.checkOnceRow.inPlace = Tryz.prog.inPlace 4 := by rw [inPlace_fast f_get clos1]; kernel_rfl
theorem unf1 : Tryz.prog.unfollowed 4 = true := by rw [unfollowed_fast f_get clos1]; kernel_rfl
theorem vars1 : Rows.checkOnceRow.named = Tryz.prog.varsNamed 4 := by rw [vars_fast f_get clos1]; kernel_rfl
end Go.Proofs.YtjbbhpfoohpbkaaGreatDoor

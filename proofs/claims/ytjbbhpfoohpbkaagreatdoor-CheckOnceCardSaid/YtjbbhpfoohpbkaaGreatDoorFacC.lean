/- What each function names and the closure of the two laws. No condition. -/
import Derived.Test.YtjbbhpfoohpbkaaGreatDoorFacT
set_option linter.all false
open Go Go.Xv
namespace Go.Proofs.YtjbbhpfoohpbkaaGreatDoor
theorem a_list : Tryz.prog.funcs.toList.map Tryz.prog.leadsTo = atr.toList := by rw [f_list]; kernel_rfl
theorem clos0 : Tryz.prog.closure 3 = cl0 := closure_fast a_list a_ok (by kernel_rfl)
theorem clos1 : Tryz.prog.closure 4 = cl1 := closure_fast a_list a_ok (by kernel_rfl)
end Go.Proofs.YtjbbhpfoohpbkaaGreatDoor

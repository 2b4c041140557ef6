/- Closed facts of the types of the row. No condition. -/
import Derived.Test.YtjbbhpfoohpbkaaGreatDoorFacT
import Derived.Test.YtjbbhpfoohpbkaaGreatDoorRows
import Derived.Test.YtjbbhpfoohpbkaaGreatDoorCards
set_option linter.all false
open Go Go.Xv
namespace Go.Proofs.YtjbbhpfoohpbkaaGreatDoor
set_option maxRecDepth 100000 in
theorem x_wf4 : Rows.checkOnceRow.wf (OpenSpec.ofChange Rows.checkOnceSpec) = true := by kernel_rfl
set_option maxRecDepth 100000 in
theorem x_rec4 : Tryz.f4.params.all (Tryz.prog.readableRec ·) = true := by kernel_rfl
set_option maxRecDepth 100000 in
theorem x_rec4' : (Tryz.f4.params.toList.all fun t => Tryz.prog.readableRec t && decide (t < Tryz.prog.types.size)) = true := by kernel_rfl
set_option maxRecDepth 100000 in
theorem x_maps4 : ((Rows.checkOnceRow.maps == (Tryz.f4.params.toList ++ Rows.checkOnceSpec.plain.varTypes Tryz.prog).any (Tryz.prog.mapsRec ·)) && (Rows.checkOnceRow.ifaces == (Tryz.f4.params.toList ++ Rows.checkOnceSpec.plain.varTypes Tryz.prog).any (Tryz.prog.ifacesRec ·)) && (Rows.checkOnceRow.mapsOut == Tryz.prog.mapsAmong Tryz.f4.resultTypes.toList)) = true := by kernel_rfl
set_option maxRecDepth 100000 in
theorem x_loops4 : ((Rows.checkOnceRow.loops == (Tryz.f4.params.toList ++ Rows.checkOnceSpec.plain.varTypes Tryz.prog).any (Tryz.prog.loopsFrom ·)) && (Rows.checkOnceRow.wideKeys == (Tryz.f4.params.toList ++ Rows.checkOnceSpec.plain.varTypes Tryz.prog ++ Tryz.f4.resultTypes.toList).any (Tryz.prog.wideKeysFrom ·))) = true := by kernel_rfl
set_option maxRecDepth 100000 in
theorem x_res4 : Tryz.f4.resultTypes.all (fun t => Tryz.prog.readableRec t && decide (t < Tryz.prog.types.size)) = true := by kernel_rfl
set_option maxRecDepth 100000 in
theorem x_out4 : ((Rows.checkOnceRow.ifacesOut == Tryz.f4.resultTypes.toList.any (Tryz.prog.ifacesRec ·)) && (Rows.checkOnceRow.loopsOut == Tryz.f4.resultTypes.toList.any (Tryz.prog.loopsFrom ·))) = true := by kernel_rfl
set_option maxRecDepth 100000 in
theorem x_veil4 : (Rows.checkOnceRow.veiled == (Tryz.f4.params.toList ++ Rows.checkOnceSpec.plain.varTypes Tryz.prog ++ Tryz.f4.resultTypes.toList).any (Tryz.prog.veiledRec ·)) = true := by kernel_rfl
set_option maxRecDepth 100000 in
theorem x_fit4 : Rows.checkOnceRow.veiledFits Tryz.prog Tryz.f4.params.toList (Tryz.f4.params.toList ++ Rows.checkOnceSpec.plain.varTypes Tryz.prog ++ Tryz.f4.resultTypes.toList) = true := by kernel_rfl
end Go.Proofs.YtjbbhpfoohpbkaaGreatDoor

/- Closed facts of the types of the first row. No condition. -/
import Derived.Test.YtjbbhpfoohpbkaaGreatDoorFacT
import Derived.Test.YtjbbhpfoohpbkaaGreatDoorRows
import Derived.Test.YtjbbhpfoohpbkaaGreatDoorCards
set_option linter.all false
open Go Go.Xv
namespace Go.Proofs.YtjbbhpfoohpbkaaGreatDoor
set_option maxRecDepth 100000 in
theorem x_wf : Rows.checkTextsRow.wf (OpenSpec.ofChange Rows.checkTextsSpec) = true := by kernel_rfl
set_option maxRecDepth 100000 in
theorem x_rec3 : Tryz.f3.params.all (Tryz.prog.readableRec ·) = true := by kernel_rfl
set_option maxRecDepth 100000 in
theorem x_rec3' : (Tryz.f3.params.toList.all fun t => Tryz.prog.readableRec t && decide (t < Tryz.prog.types.size)) = true := by kernel_rfl
set_option maxRecDepth 100000 in
theorem x_maps3 : ((Rows.checkTextsRow.maps == (Tryz.f3.params.toList ++ Rows.checkTextsSpec.plain.varTypes Tryz.prog).any (Tryz.prog.mapsRec ·)) && (Rows.checkTextsRow.ifaces == (Tryz.f3.params.toList ++ Rows.checkTextsSpec.plain.varTypes Tryz.prog).any (Tryz.prog.ifacesRec ·)) && (Rows.checkTextsRow.mapsOut == Tryz.prog.mapsAmong Tryz.f3.resultTypes.toList)) = true := by kernel_rfl
set_option maxRecDepth 100000 in
theorem x_loops3 : ((Rows.checkTextsRow.loops == (Tryz.f3.params.toList ++ Rows.checkTextsSpec.plain.varTypes Tryz.prog).any (Tryz.prog.loopsFrom ·)) && (Rows.checkTextsRow.wideKeys == (Tryz.f3.params.toList ++ Rows.checkTextsSpec.plain.varTypes Tryz.prog ++ Tryz.f3.resultTypes.toList).any (Tryz.prog.wideKeysFrom ·))) = true := by kernel_rfl
set_option maxRecDepth 100000 in
theorem x_res3 : Tryz.f3.resultTypes.all (fun t => Tryz.prog.readableRec t && decide (t < Tryz.prog.types.size)) = true := by kernel_rfl
set_option maxRecDepth 100000 in
theorem x_out3 : ((Rows.checkTextsRow.ifacesOut == Tryz.f3.resultTypes.toList.any (Tryz.prog.ifacesRec ·)) && (Rows.checkTextsRow.loopsOut == Tryz.f3.resultTypes.toList.any (Tryz.prog.loopsFrom ·))) = true := by kernel_rfl
set_option maxRecDepth 100000 in
theorem x_veil3 : (Rows.checkTextsRow.veiled == (Tryz.f3.params.toList ++ Rows.checkTextsSpec.plain.varTypes Tryz.prog ++ Tryz.f3.resultTypes.toList).any (Tryz.prog.veiledRec ·)) = true := by kernel_rfl
set_option maxRecDepth 100000 in
theorem x_fit3 : Rows.checkTextsRow.veiledFits Tryz.prog Tryz.f3.params.toList (Tryz.f3.params.toList ++ Rows.checkTextsSpec.plain.varTypes Tryz.prog ++ Tryz.f3.resultTypes.toList) = true := by kernel_rfl
end Go.Proofs.YtjbbhpfoohpbkaaGreatDoor

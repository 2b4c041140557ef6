/- One start that fits the row. No condition. -/
import Derived.Test.YtjbbhpfoohpbkaaGreatDoorFacT
import Derived.Lay
import Derived.Test.YtjbbhpfoohpbkaaGreatDoorRows
import Derived.Test.YtjbbhpfoohpbkaaGreatDoorCards
set_option linter.all false
open Go Go.Xv
namespace Go.Proofs.YtjbbhpfoohpbkaaGreatDoor
abbrev lst {H : Type} : List (String × DataW H) := [("math/bits.deBruijn32tab", Rows.laid_math_bits_deBruijn32tab), ("math/bits.deBruijn64tab", Rows.laid_math_bits_deBruijn64tab), ("internal/strconv.uint64pow10", Rows.laid_internal_strconv_uint64pow10), ("tollway/clock.months", Rows.laid_tollway_clock_months)]
noncomputable abbrev w0 (os : Os) : World := World.laidAll Tryz.prog os lst
theorem w_fits (os : Os) : (World.holding Tryz.prog os ⟨#[], #[], []⟩).layFits Tryz.prog lst [] = true := by kernel_rfl
theorem w_ifaces (os : Os) : (World.holding Tryz.prog os ⟨#[], #[], []⟩).layIfaces Tryz.prog lst (World.laidAll Tryz.prog os lst) = true := by kernel_rfl
theorem w_plain : ((lst (H := Unit)).all fun x => x.2.handleName?.isNone) = true := by kernel_rfl
theorem w_met (os : Os) (args : Array Value) : laidMetH Tryz.prog lst (((w0 os)).forCall (fun _ _ => 0) ⟨#[], args, []⟩).memory := by
  rw [MakeChecks.laidMetH_plain _ _ _ w_plain]
  exact laidMet_laidAll args (w_fits os) (w_ifaces os)
theorem w_zip (os : Os) (args : Array Value) : ((w0 os).forCall (fun _ _ => 0) ⟨#[], args, []⟩).variablesZipB Tryz.prog = true := by kernel_rfl
theorem w_row (os : Os) (args : Array Value) : (((w0 os).forCall (fun _ _ => 0) ⟨#[], args, []⟩).heap.toList.drop Tryz.prog.globals.size).take ((begin Tryz.prog (fun _ _ => 0) default).world.heap.size - Tryz.prog.globals.size) =
      (begin Tryz.prog (fun _ _ => 0) default).world.heap.toList.drop Tryz.prog.globals.size := by kernel_rfl
theorem w_ok3 (os : Os) : Input.okWideB Tryz.prog ((w0 os).forCall (fun _ _ => 0) ⟨#[], #[.int .i64 0], []⟩) 3 ⟨#[], #[.int .i64 0], []⟩ = true := by kernel_rfl
theorem w_pre3 (os : Os) {H : Type} (enc : TypeId × Value → H) : Rows.checkTextsSpec.preB enc Tryz.prog Tryz.f3 [] false ((w0 os).forCall (fun _ _ => 0) ⟨#[], #[.int .i64 0], []⟩).memory #[.int .i64 0] 8 = true := by kernel_rfl
theorem w_sz3 (os : Os) {H : Type} (enc : TypeId × Value → H) : Rows.checkTextsSpec.sizedB enc Tryz.prog Tryz.f3 false ((w0 os).forCall (fun _ _ => 0) ⟨#[], #[.int .i64 0], []⟩).memory #[.int .i64 0] 8 = true := by kernel_rfl
end Go.Proofs.YtjbbhpfoohpbkaaGreatDoor

open Go Go.Xv
namespace Go.Proofs.YtjbbhpfoohpbkaaGreatDoor
def nilRes : Value := .agg #[.slice none 0 0, .slice none 0 0, .slice none 0 0, .slice none 0 0, .slice none 0 0, .slice none 0 0]
theorem w_ok4 (os : Os) : Input.okWideB Tryz.prog ((w0 os).forCall (fun _ _ => 0) ⟨#[], #[nilRes], []⟩) 4 ⟨#[], #[nilRes], []⟩ = true := by kernel_rfl
theorem w_pre4 (os : Os) {H : Type} (enc : TypeId × Value → H) : Rows.checkOnceSpec.preB enc Tryz.prog Tryz.f4 [] false ((w0 os).forCall (fun _ _ => 0) ⟨#[], #[nilRes], []⟩).memory #[nilRes] 8 = true := by kernel_rfl
theorem w_sz4 (os : Os) {H : Type} (enc : TypeId × Value → H) : Rows.checkOnceSpec.sizedB enc Tryz.prog Tryz.f4 false ((w0 os).forCall (fun _ _ => 0) ⟨#[], #[nilRes], []⟩).memory #[nilRes] 8 = true := by kernel_rfl
end Go.Proofs.YtjbbhpfoohpbkaaGreatDoor

/- The listed variables are tied to the text of the program. No condition. -/
import Derived.Test.YtjbbhpfoohpbkaaGreatDoorFacW
import Derived.LaidByTextLater
import Derived.LaidOnce
set_option linter.all false
open Go Go.Xv
namespace Go.Proofs.YtjbbhpfoohpbkaaGreatDoor
theorem y_name : Tryz.prog.funcNamed "gosem.cut.vars" = some 855 := name_fast f_get funcs_size (by kernel_rfl)
theorem y_vid : varsId Tryz.prog = 855 := by unfold varsId; rw [y_name]; rfl
theorem y_w1 : Tryz.prog.worded (varsWordLater true) = true := worded_fast (by rw [f_list]; kernel_rfl)
theorem y_w2 : Tryz.prog.worded (varsWordLater !true) = false := worded_fast (by rw [f_list]; kernel_rfl)
theorem y_w3 : Tryz.prog.worded rootWordLater = true := worded_fast (by rw [f_list]; kernel_rfl)
theorem y_hk : (lst (H := Unit)).map (fun x => Tryz.prog.kindOfLater x.1) = [LaidKind.data, .data, .data, .data].map some := by kernel_rfl
def y_tab0 : List Int := [0, 1, 28, 2, 29, 14, 24, 3, 30, 22, 20, 15, 25, 17, 4, 8, 31, 27, 13, 23, 21, 19, 16, 7, 26, 12, 18, 6, 11, 5, 10, 9]
theorem y_g0 : Tryz.prog.globalNamed "math/bits.deBruijn32tab" = some 2 := by kernel_rfl
theorem y_t0 : (Tryz.prog.globals[2]?).map (·.type) = some 714 := by kernel_rfl
set_option maxRecDepth 100000 in
theorem y_tr0 (W : World) : DataW.trod (fun _ => ()) Tryz.prog W 0 (fun _ => true) false 4 714 (y_tab0.map (Value.int .u8)) = some (Rows.laid_math_bits_deBruijn32tab, []) := by kernel_rfl
def y_tab1 : List Int := [0, 1, 56, 2, 57, 49, 28, 3, 61, 58, 42, 50, 38, 29, 17, 4, 62, 47, 59, 36, 45, 43, 51, 22, 53, 39, 33, 30, 24, 18, 12, 5, 63, 55, 48, 27, 60, 41, 37, 16, 46, 35, 44, 21, 52, 32, 23, 11, 54, 26, 40, 15, 34, 20, 31, 10, 25, 14, 19, 9, 13, 8, 7, 6]
theorem y_g1 : Tryz.prog.globalNamed "math/bits.deBruijn64tab" = some 3 := by kernel_rfl
theorem y_t1 : (Tryz.prog.globals[3]?).map (·.type) = some 715 := by kernel_rfl
set_option maxRecDepth 100000 in
theorem y_tr1 (W : World) : DataW.trod (fun _ => ()) Tryz.prog W 0 (fun _ => true) false 4 715 (y_tab1.map (Value.int .u8)) = some (Rows.laid_math_bits_deBruijn64tab, []) := by kernel_rfl
def y_tab2 : List Int := [1, 10, 100, 1000, 10000, 100000, 1000000, 10000000, 100000000, 1000000000, 10000000000, 100000000000, 1000000000000, 10000000000000, 100000000000000, 1000000000000000, 10000000000000000, 100000000000000000, 1000000000000000000, 10000000000000000000]
theorem y_g2 : Tryz.prog.globalNamed "internal/strconv.uint64pow10" = some 1 := by kernel_rfl
theorem y_t2 : (Tryz.prog.globals[1]?).map (·.type) = some 507 := by kernel_rfl
set_option maxRecDepth 100000 in
theorem y_tr2 (W : World) : DataW.trod (fun _ => ()) Tryz.prog W 0 (fun _ => true) false 4 507 (y_tab2.map (Value.int .u64)) = some (Rows.laid_internal_strconv_uint64pow10, []) := by kernel_rfl
def y_tab3 : List Int := [31, 28, 31, 30, 31, 30, 31, 31, 30, 31, 30, 31]
theorem y_g3 : Tryz.prog.globalNamed "tollway/clock.months" = some 6 := by kernel_rfl
theorem y_t3 : (Tryz.prog.globals[6]?).map (·.type) = some 796 := by kernel_rfl
set_option maxRecDepth 100000 in
theorem y_tr3 (W : World) : DataW.trod (fun _ => ()) Tryz.prog W 0 (fun _ => true) false 4 796 (y_tab3.map (Value.int .i64)) = some (Rows.laid_tollway_clock_months, []) := by kernel_rfl
def y_chk (w : World) : Bool := cond (chkB w 2 .u8 y_tab0) (cond (chkB w 3 .u8 y_tab1) (cond (chkB w 1 .u64 y_tab2) (chkB w 6 .i64 y_tab3) false) false) false
set_option maxRecDepth 100000 in
theorem y_run (os : Os) (tape : Tape) : (match runN Tryz.prog 29 (Machine.entering Tryz.prog (World.unlaid Tryz.prog os) tape 855 ⟨#[], #[], []⟩) with | .ended (.done _) w => y_chk w | _ => false) = true := by kernel_rfl
theorem y_met {w : World} (h : y_chk w = true) : laidMet Tryz.prog lst w := by
  unfold y_chk at h
  obtain ⟨h0, h⟩ := cond_t h
  obtain ⟨h1, h⟩ := cond_t h
  obtain ⟨h2, h3⟩ := cond_t h
  obtain ⟨a3, b3⟩ := tab_laid y_g3 y_t3 h3 (y_tr3 w) (r := []) (q := []) rfl (fun b off hb => by cases hb)
  obtain ⟨a2, b2⟩ := tab_laid y_g2 y_t2 h2 (y_tr2 w) a3 b3
  obtain ⟨a1, b1⟩ := tab_laid y_g1 y_t1 h1 (y_tr1 w) a2 b2
  obtain ⟨a0, b0⟩ := tab_laid y_g0 y_t0 h0 (y_tr0 w) a1 b1
  exact ⟨_, a0, (nodupBits_sound (M := 65) (seen := 0) (by kernel_rfl)).1, b0⟩
theorem y_hn : varsNamedLaterB Tryz.prog 855 lst = true := by kernel_rfl
theorem y_tie : Tryz.prog.laidByTextLater lst [.data, .data, .data, .data] true :=
  tie_of 29 y_w1 y_w2 y_w3 y_hk y_name y_hn fun os tape => by
    have h := y_run os tape
    split at h
    · rename_i v w hr
      refine ⟨v, w, hr, ?_⟩
      rw [MakeChecks.laidMetH_plain _ _ _ w_plain]
      have h2 : w.memory.heap = w.heap := rfl
      first
        | exact laidMet.of_heap h2 (y_met h)
        | exact laidMet.of_heap h2.symm (y_met h)
    · cases h
theorem y_own : Tryz.pinned.checked.prog.headLifts.contains "ownunsafe" = false := by kernel_rfl
theorem y_fit : Tryz.pinned.checked.prog.funcsFit (lst (H := Unit)) = true := by kernel_rfl
theorem y_row0 : Rows.checkTextsRow.laidByTextAt .later Tryz.pinned [.data, .data, .data, .data] true := OpenClaim.laidByTextAt_later rfl rfl y_tie y_own y_fit
theorem y_row1 : Rows.checkOnceRow.laidByTextAt .later Tryz.pinned [.data, .data, .data, .data] true := OpenClaim.laidByTextAt_later rfl rfl y_tie y_own y_fit
end Go.Proofs.YtjbbhpfoohpbkaaGreatDoor

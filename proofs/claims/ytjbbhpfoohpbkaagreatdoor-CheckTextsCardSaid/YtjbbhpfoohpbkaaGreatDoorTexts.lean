/- CheckTexts answers true at every int for every memory in which the four listed tables read as listed. Condition: the four listed package variables read as listed (tied to the text of the program by the card). -/
import Derived.Test.YtjbbhpfoohpbkaaGreatDoorRunT
import Derived.Test.YtjbbhpfoohpbkaaGreatDoorFacD
import Derived.Test.YtjbbhpfoohpbkaaGreatDoorFacE
import Derived.Test.YtjbbhpfoohpbkaaGreatDoorFacF
import Derived.Test.YtjbbhpfoohpbkaaGreatDoorFacG
import Derived.Test.YtjbbhpfoohpbkaaGreatDoorFacH
import Derived.Test.YtjbbhpfoohpbkaaGreatDoorFacI
import Derived.Test.YtjbbhpfoohpbkaaGreatDoorFacJ
import Derived.Test.YtjbbhpfoohpbkaaGreatDoorFacW
import Derived.Test.YtjbbhpfoohpbkaaGreatDoorFacX
import Derived.Test.YtjbbhpfoohpbkaaGreatDoorFacK
import Derived.Test.YtjbbhpfoohpbkaaGreatDoorCards
set_option linter.all false
open Go Go.Xv
namespace Go.Proofs.YtjbbhpfoohpbkaaGreatDoor
open Go.ChangeShapes Go.WideShapes Go.ChangeAt Go.WideMaps Go.WideElems Go.RowKit

theorem t_neg (m : Nat) : eqO (valT PR glT ext0 TA mdT 100000 60 3 [i (Int.negSucc m)]) bT = true := by kernel_rfl
theorem t_big (m : Nat) : eqO (valT PR glT ext0 TA mdT 100000 60 3 [i (Int.ofNat (m + 9))]) bT = true := by kernel_rfl
theorem t_0 : eqO (valT PR glT ext0 TA mdT 100000 60 3 [i (Int.ofNat 0)]) bT = true := by kernel_rfl
theorem t_1 : eqO (valT PR glT ext0 TA mdT 100000 60 3 [i (Int.ofNat 1)]) bT = true := by kernel_rfl
theorem t_2 : eqO (valT PR glT ext0 TA mdT 100000 60 3 [i (Int.ofNat 2)]) bT = true := by kernel_rfl
theorem t_3 : eqO (valT PR glT ext0 TA mdT 100000 60 3 [i (Int.ofNat 3)]) bT = true := by kernel_rfl
theorem t_4 : eqO (valT PR glT ext0 TA mdT 100000 60 3 [i (Int.ofNat 4)]) bT = true := by kernel_rfl
theorem t_5 : eqO (valT PR glT ext0 TA mdT 100000 60 3 [i (Int.ofNat 5)]) bT = true := by kernel_rfl
theorem t_6 : eqO (valT PR glT ext0 TA mdT 100000 60 3 [i (Int.ofNat 6)]) bT = true := by kernel_rfl
theorem t_7 : eqO (valT PR glT ext0 TA mdT 100000 60 3 [i (Int.ofNat 7)]) bT = true := by kernel_rfl
theorem t_8 : eqO (valT PR glT ext0 TA mdT 100000 60 3 [i (Int.ofNat 8)]) bT = true := by kernel_rfl

theorem t_all (n : Int) : eqO (valT PR glT ext0 TA mdT 100000 60 3 [i n]) bT = true := by
  match n with
  | .negSucc m => exact t_neg m
  | .ofNat 0 => exact t_0
  | .ofNat 1 => exact t_1
  | .ofNat 2 => exact t_2
  | .ofNat 3 => exact t_3
  | .ofNat 4 => exact t_4
  | .ofNat 5 => exact t_5
  | .ofNat 6 => exact t_6
  | .ofNat 7 => exact t_7
  | .ofNat 8 => exact t_8
  | .ofNat (m + 9) => exact t_big m

theorem gMonths : Tryz.prog.globalNamed "tollway/clock.months" = some 6 := by kernel_rfl
theorem tMonths : (Tryz.prog.globals[6]?).map (·.type) = some 796 := by kernel_rfl

/-- What the condition gives the interpreter: the table of the months. -/
theorem of_laid {W : World} (h : laidMetH Tryz.prog lst W) : Laid glT W := by
  rw [MakeChecks.laidMetH_plain _ _ _ (by kernel_rfl)] at h
  obtain ⟨ps, ⟨_, _, _, _, _, _, _, _, _, _, ⟨_, _, _, _, _, _, _, _, _, _, ⟨_, _, _, _, _, _, _, _, _, _, ⟨g, t, cs, fu, p, q, hg, ht, hv, hd, _, _⟩, _⟩, _⟩, _⟩, _, _⟩ := h
  obtain rfl := Option.some.inj (gMonths.symm.trans hg)
  obtain rfl := Option.some.inj (tMonths.symm.trans ht)
  have hcs := ints_of_trod (k := .i64) (L := months) Tryz.underlying796 Tryz.underlying3 (by kernel_rfl) (by kernel_rfl) hd
  exact laid_of_var hg hv hcs

theorem no_init3 : Tryz.checked.prog.inits.idxOf? 3 = none := by kernel_rfl
theorem f3_res : Tryz.f3.resultTypes = #[4] := by kernel_rfl

set_option maxRecDepth 100000 in
theorem texts_lifted (os : Os) (started : os.Started) (H : Type) (enc : TypeId × Value → H) :
    ReturnsInHanded {} Tryz.checked os 3 .any (fun w args => (Rows.checkTextsSpec.pre enc Tryz.prog Tryz.f3 [] false w args ∧ laidMetH Tryz.prog lst w) ∧ sizedMet enc Tryz.prog Tryz.f3 (OpenSpec.ofChange Rows.checkTextsSpec) false w args)
      (Rows.checkTextsSpec.post enc Tryz.prog Tryz.f3 false true false false) := by
  refine returnsInHanded_of_change_and (C := Tryz.checked) (X := fun w _ => laidMetH Tryz.prog lst w) (fun _ _ _ hh h => h.of_heap hh) own started no_init3 Tryz.func3
    (ChangeSpec.witness_shaped (enc := enc) (C := Tryz.checked) (os := os) (X := fun w _ => laidMetH Tryz.prog lst w) false (w0 os) #[.int .i64 0] 8 (World.laidAll_os _ _ _) (World.shaped_of_ZipB (w_zip os _) (w_row os _)) (w_ok3 os) (w_pre3 os enc) (w_sz3 os enc) (w_met os _)) ?_
  intro W base args ds gs before hval0 hW _ _ hL _
  have hval : ∀ (j : Nat) t v, Tryz.f3.params[j]? = some t → args[j]? = some v → Value.okWide Tryz.prog W .any base t v := hval0
  have hW' := hW
  obtain ⟨p, q, hA0, hV, rfl, hfz, hnd⟩ := hW
  have hA : DataW.TrodAll enc Tryz.prog W 0 (fun _ => true) true Tryz.f3.params.toList args.toList ds p := hA0
  rw [Tryz.params3] at hA hval
  obtain ⟨v0, d0, rfl, rfl, h0⟩ := trodAll_one hA
  obtain ⟨rfl, rfl⟩ := trodVars_none hV
  obtain ⟨n, rfl, rfl, rfl, wn⟩ := open_int Tryz.underlying3 (hval 0 3 v0 rfl rfl) h0
  have hL' := of_laid hL
  have hcall := law_sound (row_ok okA ex0 ng mo (t_all n)) hL' (A := [.int .i64 n]) (VRL.of_sc [.int .i64 n] (fun v hv => by simp at hv; subst hv; rfl))
  refine Calls.mono hcall fun e W' he => ?_
  obtain ⟨rfl, hb⟩ := he
  exact ⟨_, rfl, post_law (tb := 4) laid_out x_rec3' f3_res Tryz.underlying4 rfl hW' rfl hb⟩

theorem texts_joined : joinedFacts Tryz.prog 3 Tryz.f3 Rows.checkTextsSpec Rows.checkTextsRow = true :=
  joined_of x_wf laid_out maps_rowed x_rec3 (by kernel_rfl) (by kernel_rfl) (by kernel_rfl) (by kernel_rfl) (by kernel_rfl)
    inpl0 unf0.symm (recurses_of unf0).symm vars0 x_maps3 x_loops3 (by kernel_rfl) x_res3 x_out3 plain_keys.symm (by kernel_rfl) heard
    may_enter (by kernel_rfl) (by kernel_rfl) (by kernel_rfl) (by kernel_rfl) x_veil3 x_fit3

theorem texts_inst : Tryz.f3.isInstance Tryz.prog Rows.checkTextsRow.origin Rows.checkTextsRow.targs := of_decide_eq_true (by kernel_rfl)
theorem texts_wrap : Tryz.f3.isWrapper Tryz.prog Rows.checkTextsRow.wrapper Rows.checkTextsRow.mainSum := by
  unfold Func.isWrapper
  first
    | (rw [if_pos (by decide +kernel)]; kernel_rfl)
    | (rw [if_neg (by decide +kernel)]; exact ⟨rfl, rfl⟩)

theorem texts_holds : Rows.CheckTextsSaid :=
  OpenClaim.holds_of_wide (p := Tryz.pinned) (c := Rows.checkTextsRow) 3 Tryz.f3 rfl rfl rfl rfl rfl rfl rfl ⟨rfl, rfl, rfl, rfl, rfl⟩ rfl rfl rfl rfl rfl fname0 Tryz.func3 texts_joined
    texts_inst texts_wrap (fun os started H enc _ => texts_lifted os started H enc)

theorem texts_wf : Rows.checkTextsRow.wfByText (OpenSpec.ofChange Rows.checkTextsSpec) = true := by kernel_rfl
theorem main_is : Tryz.pinned.checked.prog.mainIs = some (true, "1d90d658334e377efc2558e549ce2f2bc233d7284d328e15a58a11ea0a01b8f6".toList) := by kernel_rfl
theorem no_stand3 : ([3].all fun u => !Tryz.prog.wantsStandIn u) = true := by kernel_rfl

theorem texts_card : Rows.CheckTextsCardSaid :=
  Claim7.holds_tied_plain_at .later [] [.data, .data, .data, .data] true (true, "1d90d658334e377efc2558e549ce2f2bc233d7284d328e15a58a11ea0a01b8f6") false
    texts_holds (fun _ h => by cases h) texts_wf (fun _ h => by cases h) y_row0 rfl ⟨rfl, rfl⟩ main_is rfl
    (fun f fn hf hfn => by
      obtain rfl : f = 3 := (Option.some.inj (fname0.symm.trans hf)).symm
      obtain rfl : fn = Tryz.f3 := (Option.some.inj (Tryz.func3.symm.trans hfn)).symm
      exact ⟨no_looks.symm, fun j t ht => by
        rw [Tryz.params3] at ht
        have hm : t ∈ [3] := by simpa using Array.mem_of_getElem? ht
        exact (show Tryz.prog.wantsStandIn t = false by simpa using List.all_eq_true.1 no_stand3 t hm)⟩)
    (goesBy_fast (P := Tryz.prog) rfl no_go)
#print axioms texts_card
end Go.Proofs.YtjbbhpfoohpbkaaGreatDoor

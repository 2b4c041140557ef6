/- CheckOnce answers true at every result for every memory in which the four listed tables read as listed. Condition: the four listed package variables read as listed (tied to the text of the program by the card). -/
import Derived.Test.YtjbbhpfoohpbkaaGreatDoorRunT
import Derived.Test.YtjbbhpfoohpbkaaGreatDoorOnR
import Derived.Test.YtjbbhpfoohpbkaaGreatDoorFacD
import Derived.Test.YtjbbhpfoohpbkaaGreatDoorFacE
import Derived.Test.YtjbbhpfoohpbkaaGreatDoorFacF
import Derived.Test.YtjbbhpfoohpbkaaGreatDoorFacG
import Derived.Test.YtjbbhpfoohpbkaaGreatDoorFacH
import Derived.Test.YtjbbhpfoohpbkaaGreatDoorFacI
import Derived.Test.YtjbbhpfoohpbkaaGreatDoorFacJ
import Derived.Test.YtjbbhpfoohpbkaaGreatDoorFacW
import Derived.Test.YtjbbhpfoohpbkaaGreatDoorFacX
import Derived.Test.YtjbbhpfoohpbkaaGreatDoorFacK
import Derived.Test.YtjbbhpfoohpbkaaGreatDoorCards
set_option linter.all false
open Go Go.Xv
namespace Go.Proofs.YtjbbhpfoohpbkaaGreatDoor
open Go.ChangeShapes Go.WideShapes Go.ChangeAt Go.WideMaps Go.WideElems Go.RowKit

theorem gMonths : Tryz.prog.globalNamed "tollway/clock.months" = some 6 := by kernel_rfl
theorem tMonths : (Tryz.prog.globals[6]?).map (·.type) = some 796 := by kernel_rfl
theorem gPow : Tryz.prog.globalNamed "internal/strconv.uint64pow10" = some 1 := by kernel_rfl
theorem tPow : (Tryz.prog.globals[1]?).map (·.type) = some 507 := by kernel_rfl

/-- What the condition gives the interpreter: the table of the months and that of the powers of ten. -/
theorem of_laid {W : World} (h : laidMetH Tryz.prog lst W) : Laid glT W := by
  rw [MakeChecks.laidMetH_plain _ _ _ (by kernel_rfl)] at h
  obtain ⟨ps, ⟨_, _, _, _, _, _, _, _, _, _, ⟨_, _, _, _, _, _, _, _, _, _, ⟨g1, t1, cs1, fu1, p1, q1, hg1, ht1, hv1, hd1, ⟨g, t, cs, fu, p, q, hg, ht, hv, hd, _, _⟩, _⟩, _⟩, _⟩, _, _⟩ := h
  obtain rfl := Option.some.inj (gMonths.symm.trans hg)
  obtain rfl := Option.some.inj (tMonths.symm.trans ht)
  obtain rfl := Option.some.inj (gPow.symm.trans hg1)
  obtain rfl := Option.some.inj (tPow.symm.trans ht1)
  have hcs := ints_of_trod (k := .i64) (L := months) Tryz.underlying796 Tryz.underlying3 (by kernel_rfl) (by kernel_rfl) hd
  have hcs1 := ints_of_trod (k := .u64) (L := pow10s) Tryz.underlying507 Tryz.underlying281 (by kernel_rfl) (by kernel_rfl) hd1
  have l6 := laid_at (k := .i64) (L := months) hg hv hcs
  have l1 := laid_at (k := .u64) (L := pow10s) hg1 hv1 hcs1
  intro j c hj
  unfold glT at hj
  cases h6 : Nat.beq j 6 with
  | true =>
    obtain rfl := Nat.eq_of_beq_eq_true h6
    rw [h6] at hj
    simp only [cond_true, Option.some.injEq] at hj
    subst hj
    exact l6
  | false =>
    rw [h6] at hj
    simp only [cond_false] at hj
    cases h1 : Nat.beq j 1 with
    | true =>
      obtain rfl := Nat.eq_of_beq_eq_true h1
      rw [h1] at hj
      simp only [cond_true, Option.some.injEq] at hj
      subst hj
      exact l1
    | false => rw [h1] at hj; cases hj

theorem told7 : ToldOK PR glT 7 [] bT := ⟨⟨Tryz.f7, by kernel_rfl, by kernel_rfl⟩, rfl, okA 7 [] bT (by kernel_rfl)⟩

theorem no_init4 : Tryz.checked.prog.inits.idxOf? 4 = none := by kernel_rfl
theorem f4_res : Tryz.f4.resultTypes = #[4] := by kernel_rfl

/-- The argument, read. -/
theorem res_of {H : Type} {enc : TypeId × Value → H} {W : World} {sp : Nat → Bool} {v : Value} {d : DataW H} {ps : List MemPlace} (h : DataW.Trod enc Tryz.prog W 0 sp true 32 v d ps) (hw : ∀ n ∈ d.weights Tryz.prog 32, n ≤ reachBytes) :
    ∃ r : Res, r.good ∧ VRL (oldG glT W) deadH W.heap [r.av] [v] := by
  obtain ⟨fuel, hf⟩ := h
  obtain ⟨hl, r, hr, hg⟩ := rd32 (enc := enc) (W := W) sp fuel v.cells.toList (d, ps) hf hw
  refine ⟨r, hg, .cons _ _ _ _ ?_ .nil⟩
  have h6 : Tryz.prog.cellsOf 32 = 6 := by kernel_rfl
  have hl' : v.cells.toList.length = 6 := hl.trans h6
  have hv : ∃ cs : Array Value, v = .agg cs := by
    cases v with
    | agg cs => exact ⟨cs, rfl⟩
    | _ => simp [Value.cells] at hl'
  obtain ⟨cs, rfl⟩ := hv
  have hvr : VRL (oldG glT W) deadH W.heap r.cells cs.toList := hr.vr
  exact .agg r.cells cs.toList hvr hr.st

set_option maxRecDepth 100000 in
theorem once_lifted (os : Os) (started : os.Started) (H : Type) (enc : TypeId × Value → H) :
    ReturnsInHanded {} Tryz.checked os 4 .any (fun w args => (Rows.checkOnceSpec.pre enc Tryz.prog Tryz.f4 [] false w args ∧ laidMetH Tryz.prog lst w) ∧ sizedMet enc Tryz.prog Tryz.f4 (OpenSpec.ofChange Rows.checkOnceSpec) false w args)
      (Rows.checkOnceSpec.post enc Tryz.prog Tryz.f4 false true false false) := by
  refine returnsInHanded_of_change_and (C := Tryz.checked) (X := fun w _ => laidMetH Tryz.prog lst w) (fun _ _ _ hh h => h.of_heap hh) own started no_init4 Tryz.func4
    (ChangeSpec.witness_shaped (enc := enc) (C := Tryz.checked) (os := os) (X := fun w _ => laidMetH Tryz.prog lst w) false (w0 os) #[nilRes] 8 (World.laidAll_os _ _ _) (World.shaped_of_ZipB (w_zip os _) (w_row os _)) (w_ok4 os) (w_pre4 os enc) (w_sz4 os enc) (w_met os _)) ?_
  intro W base args ds gs before hval0 hW _ hsz hL _
  have hW' := hW
  obtain ⟨p, q, hA0, hV, rfl, hfz, hnd⟩ := hW
  have hA : DataW.TrodAll enc Tryz.prog W 0 (fun _ => true) true Tryz.f4.params.toList args.toList ds p := hA0
  have hsz' : (DataW.weightsEach Tryz.prog (Tryz.f4.params.toList ++ Rows.checkOnceSpec.plain.varTypes Tryz.prog) (ds ++ gs)).all (· ≤ reachBytes) = true := hsz
  rw [Tryz.params4] at hA hsz'
  obtain ⟨v0, d0, rfl, rfl, h0⟩ := trodAll_one hA
  obtain ⟨rfl, rfl⟩ := trodVars_none hV
  have hw : ∀ n ∈ d0.weights Tryz.prog 32, n ≤ reachBytes := fun n hn => by
    have := List.all_eq_true.1 hsz' n (DataW.weights_mem_each (j := 0) (t := 32) (d := d0) rfl rfl n hn)
    simpa using this
  obtain ⟨r, hg, hvr⟩ := res_of h0 hw
  have hL' := of_laid hL
  have told := told4 r told7 fun h1 h2 h3 h4 => ⟨hg.1, h1, h2, h3, h4, fun x hx => hg.2 x hx⟩
  have hcall := law_sound (f := 4) told.ok hL' hvr
  refine Calls.mono hcall fun e W' he => ?_
  obtain ⟨rfl, hb⟩ := he
  exact ⟨_, rfl, post_law (tb := 4) laid_out x_rec4' f4_res Tryz.underlying4 rfl hW' rfl hb⟩

theorem once_joined : joinedFacts Tryz.prog 4 Tryz.f4 Rows.checkOnceSpec Rows.checkOnceRow = true :=
  joined_of x_wf4 laid_out maps_rowed x_rec4 (by kernel_rfl) (by kernel_rfl) (by kernel_rfl) (by kernel_rfl) (by kernel_rfl)
    inpl1 unf1.symm (recurses_of unf1).symm vars1 x_maps4 x_loops4 (by kernel_rfl) x_res4 x_out4 plain_keys.symm (by kernel_rfl) heard
    may_enter (by kernel_rfl) (by kernel_rfl) (by kernel_rfl) (by kernel_rfl) x_veil4 x_fit4

theorem once_inst : Tryz.f4.isInstance Tryz.prog Rows.checkOnceRow.origin Rows.checkOnceRow.targs := of_decide_eq_true (by kernel_rfl)
theorem once_wrap : Tryz.f4.isWrapper Tryz.prog Rows.checkOnceRow.wrapper Rows.checkOnceRow.mainSum := by
  unfold Func.isWrapper
  first
    | (rw [if_pos (by decide +kernel)]; kernel_rfl)
    | (rw [if_neg (by decide +kernel)]; exact ⟨rfl, rfl⟩)

theorem once_holds : Rows.CheckOnceSaid :=
  OpenClaim.holds_of_wide (p := Tryz.pinned) (c := Rows.checkOnceRow) 4 Tryz.f4 rfl rfl rfl rfl rfl rfl rfl ⟨rfl, rfl, rfl, rfl, rfl⟩ rfl rfl rfl rfl rfl fname1 Tryz.func4 once_joined
    once_inst once_wrap (fun os started H enc _ => once_lifted os started H enc)

theorem once_wf : Rows.checkOnceRow.wfByText (OpenSpec.ofChange Rows.checkOnceSpec) = true := by kernel_rfl
theorem main_is : Tryz.pinned.checked.prog.mainIs = some (true, "1d90d658334e377efc2558e549ce2f2bc233d7284d328e15a58a11ea0a01b8f6".toList) := by kernel_rfl
theorem no_stand4 : ([32].all fun u => !Tryz.prog.wantsStandIn u) = true := by kernel_rfl

theorem once_card : Rows.CheckOnceCardSaid :=
  Claim7.holds_tied_plain_at .later [] [.data, .data, .data, .data] true (true, "1d90d658334e377efc2558e549ce2f2bc233d7284d328e15a58a11ea0a01b8f6") false
    once_holds (fun _ h => by cases h) once_wf (fun _ h => by cases h) y_row1 rfl ⟨rfl, rfl⟩ main_is rfl
    (fun f fn hf hfn => by
      obtain rfl : f = 4 := (Option.some.inj (fname1.symm.trans hf)).symm
      obtain rfl : fn = Tryz.f4 := (Option.some.inj (Tryz.func4.symm.trans hfn)).symm
      exact ⟨no_looks.symm, fun j t ht => by
        rw [Tryz.params4] at ht
        have hm : t ∈ [32] := by simpa using Array.mem_of_getElem? ht
        exact (show Tryz.prog.wantsStandIn t = false by simpa using List.all_eq_true.1 no_stand4 t hm)⟩)
    (goesBy_fast (P := Tryz.prog) rfl no_go)
#print axioms once_card
end Go.Proofs.YtjbbhpfoohpbkaaGreatDoor

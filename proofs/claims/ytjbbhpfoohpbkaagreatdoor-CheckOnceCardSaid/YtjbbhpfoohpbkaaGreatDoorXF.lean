/- Bridges from the interpreter to the rows: a call of a law, listed tables, closed facts by look-ups in a tree. No condition. -/
import Derived.Test.YtjbbhpfoohpbkaaGreatDoorXE
import Derived.Below
import Derived.ProofKit
import Derived.LaidMore
import Derived.OpenShut
import Derived.Stop.Joined
import Derived.SevenTiedAt
import GoSem.ClaimJoined
import Derived.LaidByTextLater
import Derived.LaidOnce
set_option linter.all false
namespace Go.Xv
open Go.RowKit

section top
variable {P : Program} {gl : Nat → Option (List AV)} {ext : ExtF} {md : FuncId → Nat} {N : Nat} {T : Tab}

/-- What stood ahead of the call may be looked at while it runs. -/
def oldG (gl : Nat → Option (List AV)) (w : World) : G := ⟨fun _ => 0, fun _ => 0, fun _ => 0, fun _ => False, fun o B => (∃ cs, gl B = some cs) ∨ (o = false ∧ B < w.heap.size), .bool false⟩

theorem old_sim {w : World} (hl : Laid gl w) : Sim (oldG gl w) deadH w.heap := by
  refine ⟨fun _ => trivial, fun b b' hb _ _ => (by cases hb), fun o B hF => ?_, fun B hF => ?_⟩
  · rcases hF with ⟨cs, hcs⟩ | ⟨_, h⟩
    · obtain ⟨L, _, _, _, h, _⟩ := hl B cs hcs
      exact h
    · exact h
  · rcases hF with h | ⟨e, _⟩
    · exact .inl h
    · cases e

theorem old_gl {w : World} (hl : Laid gl w) : GlOK gl (oldG gl w) deadH w.heap := by
  intro i cs hi
  obtain ⟨L, rfl, hp, hr, _, hw⟩ := hl i cs hi
  exact ⟨.cp true _ 0 L i 0 (VRL.of_sc L hp) (stor_map_sc L) (.inl ⟨_, hi⟩) hr (okVL_sc _ _ L), by rw [List.length_map]; exact hw⟩

theorem Post.below {g g' : G} {h' : Nat → Blk} {w w' : World} {k k' : Nat} (p : Post g deadH w k k' g' h' w') : Below w.heap.size w w' :=
  ⟨p.os, p.tape, p.output, p.size, fun c hc => p.frame c hc fun b hb => (by cases hb)⟩

/-- A law's call: the arguments stand as trees in the memory; the answer is plain. -/
theorem law_sound {f : FuncId} {args : List AV} {v : Value} (hc : CallOK P gl f args [] (.sc v) []) {w : World} (hl : Laid gl w) {A : List Value} (hA : VRL (oldG gl w) deadH w.heap args A) :
    Calls P f A.toArray w fun e w' => e = .returned v ∧ Below w.heap.size w w' := by
  refine Calls.mono (hc.2 (oldG gl w) w A (by rw [hget_nil]; exact old_sim hl) (by rw [hget_nil]; exact old_gl hl) (by rw [hget_nil]; exact hA) (fun b hb => hb.elim)) fun e w' he => ?_
  obtain ⟨u, g', rfl, hu, p⟩ := he
  have := hu.of_toV (w := v) rfl
  subst this
  rw [hget_nil] at p
  exact ⟨rfl, p.below⟩

theorem row_ok (hT : ExtOK P gl (lookT T)) (hext : ExtOK P gl ext) (hNG : ∀ (f : FuncId) (fn : Func), P.funcs[f]? = some fn → fn.body.isNone = false → (fn.name == "runtime.NumGoroutine") = false)
    (hm : P.follows .mixedOrders = true) {d : Nat} {f : FuncId} {args : List AV} {v : AV} (h : eqO (valT P gl ext T md N d f args) v = true) : CallOK P gl f args [] v [] := by
  unfold eqO at h
  split at h
  · rename_i a ha
    rw [← eqA_sound h]
    exact valT_sound hT hext hNG hm ha
  · cases h

/-- No function with a body bears the one name that the model answers itself: a look over the list. -/
theorem noNG {P : Program} (h : P.funcs.toList.all (fun fn => fn.body.isNone || !(fn.name == "runtime.NumGoroutine")) = true) :
    ∀ (f : FuncId) (fn : Func), P.funcs[f]? = some fn → fn.body.isNone = false → (fn.name == "runtime.NumGoroutine") = false := by
  intro f fn hf hb
  have := List.all_eq_true.1 h fn (by
    have := Array.mem_of_getElem? hf
    simpa using this)
  rw [hb] at this
  simpa using this

theorem ext_none : ExtOK P gl (fun _ _ => none) := fun _ _ _ h => by cases h
end top
end Go.Xv

namespace Go.Xv
open Go.ChangeShapes Go.WideShapes Go.ChangeAt Go.WideMaps Go.WideElems Go.RowKit

section laid
variable {P : Program} {W : World}

/-- A listed table of integers: its cells. -/
theorem ints_of_trod {t e : TypeId} {n : Nat} {k : IntKind} {fuel : Nat} {sp : Nat → Bool} {cs : List Value} {p : List MemPlace} (ht : P.underlying t = some (.array n e)) (he : P.underlying e = some (.int k)) (hc : P.cellsOf e = 1) (hct : P.cellsOf t = n)
    {L : List Int} (h : DataW.trod (fun _ => ()) P W 0 sp false fuel t cs = some (.agg (L.map fun x => DataW.lit (.int k x)), p)) : cs = L.map (Value.int k) := by
  obtain ⟨xs, m, rfl, hx, hl, hn, hel⟩ := DataW.trod_array ht h
  simp only [Prod.mk.injEq, DataW.agg.injEq] at hx
  have hlen : L.length = n := by
    have := congrArg List.length hx.1
    simpa [hn] using this
  apply List.ext_getElem?
  intro i
  rcases Nat.lt_or_ge i n with hi | hi
  · have h1 := hel i hi
    rw [hc] at h1
    have hxi : xs[i]? = some xs[i] := List.getElem?_eq_getElem (by omega)
    rw [hxi] at h1
    obtain ⟨z, e1, e2, _⟩ := DataW.trod_int he h1
    have h2 : (xs.map (·.1))[i]? = (L.map fun x => DataW.lit (H := Unit) (.int k x))[i]? := by rw [hx.1]
    rw [List.getElem?_map, hxi, List.getElem?_map, List.getElem?_eq_getElem (by omega)] at h2
    simp only [Option.map_some, e2, Option.some.injEq, DataW.lit.injEq, Lit.int.injEq, true_and] at h2
    have h3 : cs[i]? = some (.int k z) := by
      have : ((cs.drop (i * 1)).take 1)[0]? = some (.int k z) := by rw [e1]; rfl
      rw [List.getElem?_take_of_lt (by omega), List.getElem?_drop] at this
      simpa using this
    rw [h3, List.getElem?_map, List.getElem?_eq_getElem (by omega), h2]
    rfl
  · rw [List.getElem?_eq_none (by rw [hl, hct]; exact hi), List.getElem?_eq_none (by simp; omega)]

theorem row_of_var {n : String} {g : Nat} {cs : Array Value} (hg : P.globalNamed n = some g) (hv : W.var? P n = some cs) : row W.heap g 0 cs.toList ∧ g < W.heap.size ∧ wideAt W.heap g cs.size := by
  simp only [World.var?, hg, Option.bind_some] at hv
  split at hv
  · rename_i c ty fr hh
    cases hv
    exact ⟨⟨cs, ty, fr, hh, fun i hi => by simp⟩, (Array.getElem?_eq_some_iff.1 hh).1, ⟨_, ty, fr, hh, rfl⟩⟩
  · cases hv

/-- One listed table, as the interpreter wants it. -/
theorem laid_at {n : String} {g : Nat} {cs : Array Value} {k : IntKind} {L : List Int} (hg : P.globalNamed n = some g) (hv : W.var? P n = some cs) (hcs : cs.toList = L.map (Value.int k)) :
    ∃ L' : List Value, (L.map fun x => AV.sc (.int k x)) = L'.map .sc ∧ (∀ v ∈ L', plainV v = true) ∧ row W.heap g 0 L' ∧ g < W.heap.size ∧ wideAt W.heap g L'.length := by
  obtain ⟨h1, h2, h3⟩ := row_of_var hg hv
  refine ⟨L.map (Value.int k), by simp, fun v hv => ?_, hcs ▸ h1, h2, by rw [← hcs]; simpa using h3⟩
  obtain ⟨x, _, rfl⟩ := List.mem_map.1 hv
  rfl

theorem laid_of_var {n : String} {g : Nat} {cs : Array Value} {k : IntKind} {L : List Int} (hg : P.globalNamed n = some g) (hv : W.var? P n = some cs) (hcs : cs.toList = L.map (Value.int k)) :
    Laid (fun i => cond (Nat.beq i g) (some (L.map fun x => AV.sc (.int k x))) none) W := by
  intro i cs' hi
  simp only [] at hi
  cases hb : Nat.beq i g with
  | false => rw [hb] at hi; cases hi
  | true =>
    rw [hb] at hi
    simp only [cond_true, Option.some.injEq] at hi
    obtain rfl := Nat.eq_of_beq_eq_true hb
    obtain ⟨L', h1, h2⟩ := laid_at hg hv hcs
    exact ⟨L', hi ▸ h1, h2⟩
end laid

section post
variable {H : Type} {enc : TypeId × Value → H} {P : Program}

theorem trodAll_below (hl : laidOutB P = true) : ∀ {ts : List TypeId} {vs : List Value} {ds : List (DataW H)} {ps : List MemPlace} {W W' : World}, (ts.all fun t => P.readableRec t && decide (t < P.types.size)) = true →
    DataW.TrodAll enc P W 0 (fun _ => true) true ts vs ds ps → Below W.heap.size W W' → (∀ x ∈ ps, x.block < W.heap.size) → ∀ sp : Nat → Bool, (∀ p ∈ ps, sp p.block = true) → DataW.TrodAll enc P W' 0 sp true ts vs ds ps
  | [], [], [], _, _, _, _, h, _, _, _, _ => h
  | t :: ts, v :: vs, d :: ds, ps, W, W', hr, h, hb, hlt, sp, hsp => by
    obtain ⟨p, q, h1, h2, rfl⟩ := h
    simp only [List.all_cons, Bool.and_eq_true, decide_eq_true_eq] at hr
    exact ⟨p, q, WideElems.Trod_stays hl hr.1.1 hr.1.2 h1 (fun x hx => hb.same (hlt x (by simp [hx]))) (fun x hx => hsp x (by simp [hx])),
      trodAll_below hl (by simpa using hr.2) h2 hb (fun x hx => hlt x (by simp [hx])) sp (fun x hx => hsp x (by simp [hx])), rfl⟩
  | [], [], _ :: _, _, _, _, _, h, _, _, _, _ => h.elim
  | [], _ :: _, _, _, _, _, _, h, _, _, _, _ => by cases h
  | _ :: _, [], _, _, _, _, _, h, _, _, _, _ => by cases h
  | _ :: _, _ :: _, [], _, _, _, _, h, _, _, _, _ => by cases h

/-- Behind a law that has answered 'true' and left what was there. -/
theorem post_law {f : Func} {s : ChangeSpec} {apart fresh handsOn again : Bool} {W W' : World} {args : Array Value} {ds gs : List (DataW H)} {before : List MemPlace} {tb : TypeId} (hl : laidOutB P = true)
    (hpr : (f.params.toList.all fun t => P.readableRec t && decide (t < P.types.size)) = true) (hrt : f.resultTypes = #[tb]) (htb : P.underlying tb = some .bool) (hsv : s.vars = [])
    (hW : DataW.Whole enc P f.params.toList s.vars apart W args.toList ds gs before) (hs : s.fn H (ds ++ gs) = { results := [.lit (.bool true)], args := ds }) (hb : Below W.heap.size W W') :
    s.post enc P f apart fresh handsOn again W args (.bool true) W' := by
  have hlt : ∀ p ∈ before, p.block < W.heap.size := fun p hp => hW.lt p hp
  have hold : ∀ p ∈ before, (fun b => decide (b < W.heap.size)) p.block = true := fun p hp => by simpa using hlt p hp
  have hW0 := hW
  obtain ⟨p, q, h1, h2, rfl, h4, h5⟩ := hW
  rw [hsv] at h2
  obtain ⟨rfl, rfl⟩ := trodVars_none h2
  simp only [List.append_nil] at hlt hold h4 h5 hs hW0
  have hres : ∀ (b : Nat) (sp : Nat → Bool) (hd : Bool), DataW.TrodAll enc P W' b sp hd f.resultTypes.toList ((Value.bool true).resultList f.resultTypes.size) (s.fn H ds).results [] := fun b sp hd => by
    rw [hs, hrt]; exact trodAll_mk1 (shut_bool htb _)
  have hargs : ∀ sp : Nat → Bool, (∀ x ∈ p, sp x.block = true) → DataW.TrodAll enc P W' 0 sp true f.params.toList args.toList (s.fn H ds).args p := fun sp hsp => by
    rw [hs]; exact trodAll_below hl hpr h1 hb hlt sp hsp
  have hsv2 : (s.fn H ds).vars = [] := by rw [hs]
  have hvars : ∀ sp : Nat → Bool, DataW.TrodVars enc P W' sp s.vars (s.fn H ds).vars [] := fun sp => by rw [hsv, hsv2]; rfl
  refine ⟨ds, [], p, [], p, [], by simpa using hW0, by simpa using hres _ _ _, by simpa using hargs _ hold, by simpa using hvars _, World.keptBut_mono (fun x hx => ⟨hx, .inr (.inl hx)⟩) (hb.frame (· ∈ p)), fun _ => ?_⟩
  refine ⟨ok_one (t := tb) (by rw [hrt]) rfl (okWide_bool_mk htb _), _, _, ([] ++ p) ++ [], ⟨[] ++ p, [], trodAll_append (hargs _ (fun _ _ => rfl)) (hres 0 _ true), hvars _, rfl, ?_, ?_⟩, ?_⟩
  · intro b off hp
    have hin : MemPlace.cell b off ∈ p := by simpa using hp
    rw [hb.frozen (hlt _ hin)]
    exact h4 b off hin
  · intro ha
    simpa using h5 ha
  · intro x hx _
    simpa using hx
end post
end Go.Xv

namespace Go.Xv

inductive Tr (α : Type) where
  | leaf (l : List α)
  | node (n : Nat) (a b : Tr α)

def Tr.toList {α : Type} : Tr α → List α
  | .leaf l => l
  | .node _ a b => a.toList ++ b.toList

def Tr.size {α : Type} : Tr α → Nat
  | .leaf l => l.length
  | .node _ a b => a.size + b.size

def Tr.ok {α : Type} : Tr α → Bool
  | .leaf _ => true
  | .node n a b => cond (Nat.beq n a.size) (cond a.ok b.ok false) false

def Tr.get {α : Type} : Tr α → Nat → Option α
  | .leaf l, i => l[i]?
  | .node n a b, i => cond (Nat.blt i n) (a.get i) (b.get (i - n))

theorem Tr.length {α : Type} : ∀ t : Tr α, t.toList.length = t.size
  | .leaf _ => rfl
  | .node _ a b => by simp [Tr.toList, Tr.size, a.length, b.length]

theorem Tr.get_eq {α : Type} : ∀ (t : Tr α) (i : Nat), t.ok = true → t.get i = t.toList[i]?
  | .leaf _, _, _ => rfl
  | .node n a b, i, h => by
    rw [Tr.ok] at h
    obtain ⟨h1, h2⟩ := cond_t h
    obtain ⟨h3, h4⟩ := cond_t h2
    have hn := Nat.eq_of_beq_eq_true h1
    rw [Tr.get, Tr.toList]
    cases hb : Nat.blt i n with
    | true =>
      rw [Nat.blt_eq] at hb
      rw [cond_true, a.get_eq i h3, List.getElem?_append_left (by rw [a.length, ← hn]; exact hb)]
    | false =>
      have : ¬ i < n := fun hlt => by rw [← Nat.blt_eq] at hlt; rw [hlt] at hb; cases hb
      rw [cond_false, b.get_eq _ h4, List.getElem?_append_right (by rw [a.length, ← hn]; omega), a.length, ← hn]

section prog
variable {P : Program} {ft : Tr Func} {tt : Tr TypeInfo} {n : Nat}

theorem funcs_get (hf : P.funcs.toList = ft.toList) (ho : ft.ok = true) (g : Nat) : P.funcs[g]? = ft.get g := by
  rw [ft.get_eq g ho, ← hf, Array.getElem?_toList]

/-- A type's row by the tree. -/
def infoF (P : Program) (tt : Tr TypeInfo) (n : Nat) (t : TypeId) : Option TypeInfo := cond (Nat.blt t n) (tt.get t) (P.info? t)

theorem info_eq (ht : P.types.toList = tt.toList) (ho : tt.ok = true) (hn : tt.size = n) (t : TypeId) : P.info? t = infoF P tt n t := by
  unfold infoF
  cases hb : Nat.blt t n with
  | false => rfl
  | true =>
    rw [Nat.blt_eq] at hb
    have hs : P.types.size = n := by rw [← hn, ← tt.length, ← ht]; simp
    rw [cond_true, tt.get_eq t ho, ← ht, Array.getElem?_toList]
    unfold Tables.info?
    rw [if_pos (by rw [hs]; exact hb)]

def undF (P : Program) (tt : Tr TypeInfo) (n : Nat) (t : TypeId) : Option TypeDesc :=
  match infoF P tt n t with
  | some { desc := .named _ u, .. } => (infoF P tt n u).map (·.desc)
  | some i => some i.desc
  | none => none

def cellsF (P : Program) (tt : Tr TypeInfo) (n : Nat) (t : TypeId) : Nat := ((infoF P tt n t).map (·.size)).getD 0

theorem und_eq (h : ∀ t, P.info? t = infoF P tt n t) (t : TypeId) : P.underlying t = undF P tt n t := by
  unfold Program.underlying undF
  rw [h t]
  split <;> simp_all
theorem cells_eq (h : ∀ t, P.info? t = infoF P tt n t) (t : TypeId) : P.cellsOf t = cellsF P tt n t := by
  unfold Program.cellsOf cellsF; rw [h t]

def isVarF (P : Program) (tt : Tr TypeInfo) (n : Nat) (t : TypeId) : Bool := cond (Nat.blt t n) (kindOk (undF P tt n t)) false

def sumN : List Nat → Nat
  | [] => 0
  | a :: l => a + sumN l

theorem sumN_eq : ∀ l : List Nat, sumN l = l.sum
  | [] => rfl
  | a :: l => by rw [sumN, sumN_eq l, List.sum_cons]

/-- Fields that lie one behind the other. -/
def layF (P : Program) (tt : Tr TypeInfo) (n : Nat) : List Field → Nat → Option Nat
  | [], k => some k
  | f :: fs, k => cond (Nat.beq f.offset k) (layF P tt n fs (k + cellsF P tt n f.type)) none

def rowF (P : Program) (tt : Tr TypeInfo) (n : Nat) (t : TypeId) : Bool :=
  cond (isVarF P tt n t)
    (match undF P tt n t with
    | some (.struct fs) => cond (fs.toList.all fun f => isVarF P tt n f.type) (match layF P tt n fs.toList 0 with | some k => Nat.beq (cellsF P tt n t) k | none => false) false
    | some (.array m e) => cond (isVarF P tt n e) (Nat.beq (cellsF P tt n t) (m * cellsF P tt n e)) false
    | some (.pointer e) => cond (isVarF P tt n e) (Nat.beq (cellsF P tt n t) 1) false
    | some (.slice e) => cond (isVarF P tt n e) (Nat.beq (cellsF P tt n t) 1) false
    | _ => Nat.beq (cellsF P tt n t) 1) true

theorem layF_sum : ∀ (fs : List Field) (k m : Nat), layF P tt n fs k = some m → m = k + (fs.map fun f => cellsF P tt n f.type).sum ∧ ∀ j f, fs[j]? = some f → f.offset = k + ((fs.take j).map fun f => cellsF P tt n f.type).sum
  | [], k, m, h => by simp only [layF, Option.some.injEq] at h; subst h; simp
  | f :: fs, k, m, h => by
    rw [layF] at h
    cases hb : Nat.beq f.offset k with
    | false => rw [hb] at h; cases h
    | true =>
      rw [hb, cond_true] at h
      obtain ⟨h1, h2⟩ := layF_sum fs _ m h
      refine ⟨by rw [h1, List.map_cons, List.sum_cons]; omega, fun j f' hj => ?_⟩
      cases j with
      | zero =>
        simp only [List.getElem?_cons_zero, Option.some.injEq] at hj
        subst hj
        simp [Nat.eq_of_beq_eq_true hb]
      | succ j =>
        simp only [List.getElem?_cons_succ] at hj
        rw [h2 j f' hj, List.take_succ_cons, List.map_cons, List.sum_cons]; omega

theorem row_fine (h : ∀ t, P.info? t = infoF P tt n t) (hs : P.types.size = n) (t : TypeId) (hr : rowF P tt n t = true) : rowFine P t = true := by
  have hv : ∀ t, isVar P t = isVarF P tt n t := fun t => by
    unfold isVar isVarF
    rw [hs, und_eq h]
    cases hb : Nat.blt t n with
    | true => rw [Nat.blt_eq] at hb; simp [hb]
    | false =>
      have : ¬ t < n := fun hlt => by rw [← Nat.blt_eq] at hlt; rw [hlt] at hb; cases hb
      simp [this]
  unfold rowFine
  simp only [hv, und_eq h, cells_eq h]
  unfold rowF at hr
  cases hiv : isVarF P tt n t with
  | false => rfl
  | true =>
    rw [hiv, cond_true] at hr
    simp only [Bool.not_true, Bool.false_or]
    generalize undF P tt n t = u at hr ⊢
    have one : Nat.beq (cellsF P tt n t) 1 = true → (cellsF P tt n t == 1) = true := fun h => by simp [Nat.eq_of_beq_eq_true h]
    cases u with
    | none => exact one hr
    | some d =>
      cases d with
      | struct fs =>
        simp only [] at hr ⊢
        obtain ⟨h1, h2⟩ := cond_t hr
        split at h2
        · rename_i k hk
          obtain ⟨h3, h4⟩ := layF_sum _ 0 k hk
          simp only [Bool.and_eq_true, beq_iff_eq, List.all_eq_true]
          refine ⟨⟨fun f hf => List.all_eq_true.1 h1 f hf, by rw [Nat.eq_of_beq_eq_true h2, h3]; omega⟩, fun j _ => ?_⟩
          split
          · rename_i f hf
            have := h4 j f hf
            simp only [beq_iff_eq]
            omega
          · rfl
        · cases h2
      | array m e =>
        simp only [] at hr ⊢
        obtain ⟨h1, h2⟩ := cond_t hr
        simp [h1, Nat.eq_of_beq_eq_true h2]
      | pointer e =>
        simp only [] at hr ⊢
        obtain ⟨h1, h2⟩ := cond_t hr
        simp [h1, Nat.eq_of_beq_eq_true h2]
      | slice e =>
        simp only [] at hr ⊢
        obtain ⟨h1, h2⟩ := cond_t hr
        simp [h1, Nat.eq_of_beq_eq_true h2]
      | _ => exact one hr

theorem laid_fast (h : ∀ t, P.info? t = infoF P tt n t) (hs : P.types.size = n) (h1 : (List.range n).all (rowF P tt n) = true) (h2 : P.globals.toList.all (fun g => Nat.blt g.type n) = true)
    (h3 : P.funcs.toList.all (fun f => f.params.toList.all fun t => Nat.blt t n) = true) : laidOutB P = true := by
  unfold laidOutB
  simp only [Bool.and_eq_true, List.all_eq_true, hs]
  refine ⟨⟨fun t ht => row_fine h hs t (List.all_eq_true.1 h1 t ht), ?_⟩, ?_⟩
  · rw [← Array.all_toList, List.all_eq_true]
    intro g hg
    have := List.all_eq_true.1 h2 g hg
    rw [Nat.blt_eq] at this
    simpa using this
  · rw [← Array.all_toList, List.all_eq_true]
    intro f hf
    have := List.all_eq_true.1 h3 f hf
    rw [← Array.all_toList, List.all_eq_true]
    intro t ht
    have := List.all_eq_true.1 this t ht
    rw [Nat.blt_eq] at this
    simpa using this


def bitN (m f : Nat) : Bool := Nat.beq (Nat.land (Nat.shiftRight m f) 1) 1

theorem bitN_eq (m f : Nat) : bitN m f = m.testBit f := by
  unfold bitN Nat.testBit
  rw [Nat.and_comm 1]
  show Nat.beq ((m >>> f) &&& 1) 1 = (((m >>> f) &&& 1) != 0)
  have h : ((m >>> f) &&& 1) = 0 ∨ ((m >>> f) &&& 1) = 1 := by
    rw [Nat.and_one_is_mod]; omega
  rcases h with h | h <;> rw [h] <;> rfl

def closF (lead : Nat → List Nat) : Nat → List Nat → Nat → List Nat → List Nat
  | 0, _, _, acc => acc.reverse
  | _ + 1, [], _, acc => acc.reverse
  | k + 1, f :: todo, m, acc => cond (bitN m f) (closF lead k todo m acc) (closF lead k (lead f ++ todo) (Nat.lor m (Nat.shiftLeft 1 f)) (f :: acc))

theorem closF_eq {lead : Nat → List Nat} (hl : ∀ g, (P.funcs[g]?).elim [] P.leadsTo = lead g) : ∀ (k : Nat) (todo acc : List Nat) (m : Nat), (∀ g, m.testBit g = acc.contains g) → P.closureVia k todo acc = closF lead k todo m acc
  | 0, _, _, _, _ => by simp [Program.closureVia, closF]
  | k + 1, [], _, _, _ => by simp [Program.closureVia, closF]
  | k + 1, f :: todo, acc, m, hm => by
    rw [Program.closureVia, closF, bitN_eq, hm f]
    cases hc : acc.contains f with
    | true => rw [if_pos rfl, cond_true, closF_eq hl k todo acc m hm]
    | false =>
      rw [if_neg (by simp), cond_false, hl f]
      refine closF_eq hl k _ _ _ fun g => ?_
      show (m ||| (1 <<< f)).testBit g = _
      rw [Nat.testBit_or, hm g, List.contains_cons]
      have : (1 <<< f).testBit g = (g == f) := by
        rw [Nat.one_shiftLeft, Nat.testBit_two_pow]
        by_cases h : f = g
        · subst h; simp
        · simp [h]; exact fun e => h e.symm
      rw [this, Bool.or_comm]

theorem closure_fast {at_ : Tr (List Nat)} (ha : P.funcs.toList.map P.leadsTo = at_.toList) (ho : at_.ok = true) {f : FuncId} {cl : List Nat}
    (h : closF (fun g => (at_.get g).getD []) (1 + sumN (at_.toList.map fun l => l.length + 1)) [f] 0 [] = cl) : P.closure f = cl := by
  have hl : ∀ g, (P.funcs[g]?).elim [] P.leadsTo = (at_.get g).getD [] := fun g => by
    rw [at_.get_eq g ho, ← ha, List.getElem?_map, Array.getElem?_toList]
    cases P.funcs[g]? <;> rfl
  unfold Program.closure
  have hs : (P.funcs.toList.map fun g => (P.leadsTo g).length + 1).sum = sumN (at_.toList.map fun l => l.length + 1) := by
    rw [← ha, sumN_eq, List.map_map]; rfl
  rw [hs, closF_eq hl _ _ _ 0 (fun g => by simp), h]

def namesF (ft : Tr Func) (cl : List Nat) : List String := cl.filterMap fun g => (ft.get g).bind fun fn => if fn.ours || fn.body.isNone || fn.name == "runtime.NumGoroutine" then some fn.name else none

theorem inPlace_fast (hf : ∀ g : Nat, P.funcs[g]? = ft.get g) {f : FuncId} {cl : List Nat} (hc : P.closure f = cl) : P.inPlace f = namesF ft cl := by
  unfold Program.inPlace namesF
  rw [hc]
  congr 1
  funext g
  rw [hf g]

theorem unfollowed_fast (hf : ∀ g : Nat, P.funcs[g]? = ft.get g) {f : FuncId} {cl : List Nat} (hc : P.closure f = cl) : P.unfollowed f = cl.any fun g => (ft.get g).any fun fn => match fn.body with | some c => c.unfollowed | none => entryCalls fn := by
  unfold Program.unfollowed
  rw [hc]
  congr 1
  funext g
  rw [hf g]
  rfl

theorem recurses_of {f : FuncId} (h : P.unfollowed f = true) : P.recurses f = true := by
  unfold Program.recurses; rw [h]; rfl

theorem vars_fast (hf : ∀ g : Nat, P.funcs[g]? = ft.get g) {f : FuncId} {cl : List Nat} (hc : P.closure f = cl) : P.varsNamed f =
    (((cl.flatMap fun g => ((ft.get g).bind (·.body)).elim [] Code.globalsNamed).eraseDups).filterMap (fun g => (P.globals[g]?).map (·.name)) ++
     cl.filterMap fun g => (ft.get g).bind fun fn => if fn.body.isNone then entryReads.lookup fn.name else none).eraseDups := by
  unfold Program.varsNamed
  rw [hc]
  simp only [hf]

theorem goes_fast {f : FuncId} (h : P.funcs.toList.all (fun fn => !fn.goes) = true) : P.goes f = false := by
  have hall : ∀ fn, fn ∈ P.funcs.toList → fn.goes = false := fun fn hfn => by simpa using List.all_eq_true.1 h fn hfn
  unfold Program.goes
  have h1 : ((P.closure f).any fun g => (P.funcs[g]?).any Func.goes) = false := by
    rw [List.any_eq_false]
    intro g _
    cases hg : P.funcs[g]? with
    | none => simp
    | some fn => simp only [Option.any_some]; rw [hall fn (by simpa using Array.mem_of_getElem? hg)]; simp
  have h2 : P.funcs.any Func.goes = false := by
    rw [← Array.any_toList, List.any_eq_false]
    intro fn hfn
    rw [hall fn hfn]; simp
  rw [h1, h2]; simp

theorem goesBy_fast {c : OpenClaim} (hst : c.start = .entering) (h : P.funcs.toList.all (fun fn => !fn.goes) = true) : false = c.goesBy P := by
  unfold OpenClaim.goesBy Program.goesAt Program.goesFrom
  rw [hst]
  cases P.funcNamed c.func with
  | none => rfl
  | some f => simp [goes_fast h]

theorem name_fast (hf : ∀ g : Nat, P.funcs[g]? = ft.get g) {m : Nat} (hs : P.funcs.size = m) {name : String} {f : FuncId} (h : ((List.range m).filter fun i => (ft.get i).any (·.name == name)) = [f]) : P.funcNamed name = some f := by
  unfold Program.funcNamed
  simp only [hs, hf, h]

theorem looks_fast (hf : ∀ g : Nat, P.funcs[g]? = ft.get g) {m : Nat} (hs : P.funcs.size = m) {b : Bool} (h : ((List.range m).any fun g => (ft.get g).any fun fn => match fn.body with | some c => c.looks P | none => false) = b) : P.looks [] = b := by
  unfold Program.looks
  simp only [hs, hf, List.contains_nil, Bool.not_false, Bool.true_and]
  exact h

theorem maps_fast (h : ∀ t, P.info? t = infoF P tt n t) (hs : P.types.size = n) (hm : ((List.range n).all fun t => match undF P tt n t with | some (.map _ e) => Nat.blt e n | _ => true) = true) : mapsRowed P = true := by
  unfold mapsRowed
  rw [List.all_eq_true] at hm ⊢
  intro t ht
  have := hm t (by rw [hs] at ht; exact ht)
  rw [und_eq h, hs]
  generalize undF P tt n t = u at this ⊢
  split at this
  · rw [Nat.blt_eq] at this; simpa using this
  · rename_i h1
    split
    · exact absurd rfl (h1 _ _)
    · rfl

theorem lays_fast (h : P.funcs.toList.any (fun fn => fn.body.isNone && (fn.name == "runtime.SetFinalizer" || fn.name == "runtime.AddCleanup" || fn.origin == "runtime.AddCleanup")) = false) : P.laysLater = false := by
  unfold Program.laysLater
  rw [← Array.any_toList]
  exact h

theorem worded_fast {w : String} {b : Bool} (h : P.funcs.toList.any (fun fn => fn.body.isNone && fn.name == w) = b) : P.worded w = b := by
  unfold Program.worded
  rw [← Array.any_toList]; exact h

/-- The list of closed facts, out of its parts. -/
theorem joined_of {f : FuncId} {fn : Func} {s : ChangeSpec} {c : OpenClaim} (h1 : c.wf (OpenSpec.ofChange s) = true) (h2 : laidOutB P = true) (h3 : mapsRowed P = true)
    (h4 : fn.params.all (P.readableRec ·) = true) (h5 : namedTie P c.named s.vars = true) (h6 : (c.stops == []) = true) (h7 : (P.stops == []) = true) (h8 : (c.knobs == []) = true) (h9 : (P.stopKnobs == []) = true)
    (h10 : c.inPlace = P.inPlace f) (h11 : c.unfollowed = P.unfollowed f) (h12 : c.recurses = P.recurses f) (h13 : c.named = P.varsNamed f)
    (h14 : ((c.maps == (fn.params.toList ++ s.plain.varTypes P).any (P.mapsRec ·)) && (c.ifaces == (fn.params.toList ++ s.plain.varTypes P).any (P.ifacesRec ·)) && (c.mapsOut == P.mapsAmong fn.resultTypes.toList)) = true)
    (h15 : ((c.loops == (fn.params.toList ++ s.plain.varTypes P).any (P.loopsFrom ·)) && (c.wideKeys == (fn.params.toList ++ s.plain.varTypes P ++ fn.resultTypes.toList).any (P.wideKeysFrom ·))) = true)
    (h16 : s.vars.all (P.varReadable ·) = true) (h17 : fn.resultTypes.all (fun t => P.readableRec t && decide (t < P.types.size)) = true)
    (h18 : ((c.ifacesOut == fn.resultTypes.toList.any (P.ifacesRec ·)) && (c.loopsOut == fn.resultTypes.toList.any (P.loopsFrom ·))) = true) (h19 : c.plainKeys = P.plainKeys) (h20 : c.shortTexts.isNone = true) (h21 : P.stopsHeard = true)
    (h22 : P.mayEnter = true) (h23 : c.lifted = P.liftsFinal) (h24 : P.make = some c.make)
    (h25 : (c.kinds == (if c.domain.isEmpty then [] else fn.params.toList.map fun t => match P.underlying t with | some (.int k) => some k | _ => none)) = true) (h26 : (c.pinned == c.pinnedBy) = true)
    (h27 : (c.veiled == (fn.params.toList ++ s.plain.varTypes P ++ fn.resultTypes.toList).any (P.veiledRec ·)) = true) (h28 : c.veiledFits P fn.params.toList (fn.params.toList ++ s.plain.varTypes P ++ fn.resultTypes.toList) = true) :
    joinedFacts P f fn s c = true := by
  simp only [Bool.and_eq_true] at h14 h15 h18
  unfold joinedFacts
  simp only [Bool.and_eq_true]
  exact ⟨⟨⟨⟨⟨⟨⟨⟨⟨⟨⟨⟨⟨⟨⟨⟨⟨⟨⟨⟨⟨⟨⟨⟨⟨⟨⟨⟨⟨⟨⟨h1, h2⟩, h3⟩, h4⟩, h5⟩, h6⟩, h7⟩, h8⟩, h9⟩, by simp [h10]⟩, by simp [h11]⟩, by simp [h12]⟩, by simp [h13]⟩, h14.1.1⟩, h14.1.2⟩, h14.2⟩, h15.1⟩, h15.2⟩, h16⟩, h17⟩, h18.1⟩, h18.2⟩, by simp [h19]⟩, h20⟩, h21⟩, h22⟩, by simp [h23]⟩, by simp [h24]⟩, h25⟩, h26⟩, h27⟩, h28⟩
end prog

def eqVs : List Value → List Value → Bool
  | [], [] => true
  | a :: l, b :: m => cond (eqV a b) (eqVs l m) false
  | _, _ => false

theorem eqVs_sound : ∀ {l m : List Value}, eqVs l m = true → l = m
  | [], [], _ => rfl
  | [], _ :: _, h => by simp [eqVs] at h
  | _ :: _, [], h => by simp [eqVs] at h
  | a :: l, b :: m, h => by
    rw [eqVs] at h
    obtain ⟨h1, h2⟩ := cond_t h
    rw [eqV_sound h1, eqVs_sound h2]

/-- A table of integers lies in the block g, unfrozen. -/
def chkB (w : World) (g : Nat) (k : IntKind) (L : List Int) : Bool :=
  match w.heap[g]? with
  | some (.cells cs _ fr) => cond (eqVs cs.toList (L.map (Value.int k))) (cond (Nat.beq fr.1 0) (Nat.beq fr.2 0) false) false
  | _ => false

theorem chkB_sound {w : World} {g : Nat} {k : IntKind} {L : List Int} (h : chkB w g k L = true) : ∃ t, w.heap[g]? = some (.cells (L.map (Value.int k)).toArray t (0, 0)) := by
  unfold chkB at h
  split at h
  · rename_i cs t fr hh
    obtain ⟨h1, h2⟩ := cond_t h
    obtain ⟨h3, h4⟩ := cond_t h2
    refine ⟨t, ?_⟩
    rw [hh]
    congr 2
    · rw [← eqVs_sound h1]
    · exact Prod.ext (Nat.eq_of_beq_eq_true h3) (Nat.eq_of_beq_eq_true h4)
  · cases h

section tie
variable {P : Program} {W : World}

def GoodAt (P : Program) (W : World) (ps : List MemPlace) : Prop := ∀ b off, MemPlace.cell b off ∈ ps →
  (∃ c t, W.heap[b]? = some (.cells c t (0, 0))) ∧ ∀ u v, W.cell? ⟨b, off, none⟩ = some (.iface u v) → Value.okWide P W .any 0 u v

theorem tab_laid {n : String} {d : DataW Unit} {r : List (String × DataW Unit)} {q : List MemPlace} {g t : Nat} {k : IntKind} {L : List Int} {fuel : Nat} (hg : P.globalNamed n = some g) (ht : (P.globals[g]?).map (·.type) = some t)
    (hc : chkB W g k L = true) (htr : DataW.trod (fun _ => ()) P W 0 (fun _ => true) false fuel t (L.map (Value.int k)) = some (d, [])) (hr : DataW.LaidVars P W r q) (hq : GoodAt P W q) :
    DataW.LaidVars P W ((n, d) :: r) (MemPlace.row ⟨g, 0, none⟩ L.length ++ [] ++ q) ∧ GoodAt P W (MemPlace.row ⟨g, 0, none⟩ L.length ++ [] ++ q) := by
  obtain ⟨ty, hh⟩ := chkB_sound hc
  refine ⟨⟨g, t, (L.map (Value.int k)).toArray, fuel, [], q, hg, ht, ?_, by simpa using htr, hr, by simp⟩, fun b off hb => ?_⟩
  · simp [World.var?, hg, hh]
  · simp only [List.append_nil, List.mem_append] at hb
    rcases hb with hb | hb
    · simp only [MemPlace.row, List.mem_map, List.mem_range, MemPlace.cell.injEq] at hb
      obtain ⟨i, hi, rfl, rfl⟩ := hb
      refine ⟨⟨_, _, hh⟩, fun u v hu => ?_⟩
      simp only [World.cell?, hh, Option.isSome_none, Bool.false_eq_true, if_false] at hu
      rw [List.getElem?_toArray, List.getElem?_map] at hu
      cases hx : L[0 + i]? with
      | none => simp [hx] at hu
      | some x => simp [hx] at hu
    · exact hq b off hb

theorem tie_of {laid : List (String × DataW Unit)} {kinds : List LaidKind} {tests : Bool} {g : FuncId} (n : Nat)
    (hw : P.worded (varsWordLater tests) = true) (hw' : P.worded (varsWordLater !tests) = false) (hroot : P.worded rootWordLater = true) (hk : laid.map (fun x => P.kindOfLater x.1) = kinds.map some)
    (hg : P.funcNamed "gosem.cut.vars" = some g) (hn : varsNamedLaterB P g laid = true)
    (hrun : ∀ (os : Os) (tape : Tape), ∃ v w', runN P n (Machine.entering P (World.unlaid P os) tape g ⟨#[], #[], []⟩) = .ended (.done v) w' ∧ laidMetH P laid w'.memory) : P.laidByTextLater laid kinds tests := by
  unfold varsNamedLaterB at hn
  cases hc : (P.funcs[g]?).bind (·.body) with
  | none => simp [hc] at hn
  | some code =>
   cases hs : code.laysInOrder [] with
   | none => simp [hc, hs] at hn
   | some stored =>
    simp only [hc, hs, Bool.and_eq_true] at hn
    exact ⟨⟨hw, hw', hroot, hk⟩, g, code, stored, hg, hc, ⟨hs, hn.1.1, hn.1.2⟩, hn.2, fun os tape _ => ⟨n, hrun os tape⟩⟩
end tie
end Go.Xv

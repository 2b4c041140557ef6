/- Contains, Passages of the program and of the reference, ContainsFunc with the functions handed to it. No condition but lengths that memory allows. -/
import Derived.Test.YtjbbhpfoohpbkaaGreatDoorRunB
import Derived.Test.YtjbbhpfoohpbkaaGreatDoorXG
set_option linter.all false
open Go Go.Xv
namespace Go.Proofs.YtjbbhpfoohpbkaaGreatDoor
theorem fitP : Fit PR := ⟨noNG (P := PR) (by kernel_rfl), by kernel_rfl⟩
def bodyOf (fn : Func) : Code := fn.body.getD .skip
def loopsOf : Code → List Code
  | .seq a b => loopsOf a ++ loopsOf b
  | .cond _ a b => loopsOf a ++ loopsOf b
  | .block _ c => loopsOf c
  | .scope c => loopsOf c
  | .loop c => c :: loopsOf c
  | _ => []
def loopN (fn : Func) (k : Nat) : Code := (loopsOf (bodyOf fn)).getD k .skip
abbrev sb (b : ByteArray) : AV := .sc (.string b)
abbrev tp : AV := .top
def tops (n : Nat) : List AV := List.replicate n .top

end Go.Proofs.YtjbbhpfoohpbkaaGreatDoor

open Go Go.Xv
namespace Go.Proofs.YtjbbhpfoohpbkaaGreatDoor
structure Leg where
  a : ByteArray
  t : Int
  p : ByteArray
def Leg.av (l : Leg) : AV := .agg [sb l.a, i l.t, sb l.p]
structure Trip where
  id : ByteArray
  ve : ByteArray
  sy : ByteArray
  cl : Int
  legs : List Leg
def Trip.cells (r : Trip) : List AV := [sb r.id, sb r.ve, sb r.sy, i r.cl, .fz false 3 (r.legs.map Leg.av)]
def Trip.av (r : Trip) : AV := .agg r.cells
structure Pas where
  id : ByteArray
  pt : ByteArray
  tm : Int
  tg : ByteArray
  pl : ByteArray
  cl : Int
  sc : Int
  src : List AV
def Pas.cells (p : Pas) : List AV := [sb p.id, sb p.pt, i p.tm, sb p.tg, sb p.pl, i p.cl, i p.sc, .fz false 2 p.src]
def Pas.av (p : Pas) : AV := .agg p.cells
structure Chg where
  key : ByteArray
  ve : ByteArray
  sy : ByteArray
  cl : Int
  tm : Int
  ce : Int
  ls : Nat
  ln : List AV
def Chg.cells (c : Chg) : List AV := [sb c.key, sb c.ve, sb c.sy, i c.cl, i c.tm, .fz false c.ls c.ln, i c.ce]
def Chg.av (c : Chg) : AV := .agg c.cells
structure Exc where
  id : ByteArray
  why : Int
def Exc.cells (x : Exc) : List AV := [sb x.id, i x.why]
def Exc.av (x : Exc) : AV := .agg x.cells
structure Res where
  ps : List Pas
  rs : Nat
  rj : List AV
  ts : List Trip
  ss : Nat
  st : List AV
  cs : List Chg
  xs : List Exc
def Res.cells (r : Res) : List AV := [.fz false 8 (r.ps.map Pas.av), .fz false r.rs r.rj, .fz false 5 (r.ts.map Trip.av), .fz false r.ss r.st, .fz false 7 (r.cs.map Chg.av), .fz false 2 (r.xs.map Exc.av)]
def Res.av (r : Res) : AV := .agg r.cells

def nonE (ls : List Leg) : List ByteArray := (ls.map Leg.p).filter (fun p => !(p.toList == []))
abbrev sbs (l : List ByteArray) : List AV := l.map fun x => AV.sc (.string x)
/-- Nothing is known but of one temporary. -/
def at1 (n k : Nat) (v : AV) : Tmps := (List.replicate n AV.top).set k v

/-- A grown slice of strings at block b, or nil. -/
def accA (b : Nat) : List ByteArray → AV
  | [] => nS
  | _ :: l => .sl 1 false b 0 (l.length + 1) (l.length + 1)
def accH : List ByteArray → List Blk
  | [] => []
  | a :: l => [.cells (sbs (a :: l))]

theorem sl119 : sliceTy PR 119 3 = true := by kernel_rfl
theorem sl34 : sliceTy PR 34 1 = true := by kernel_rfl
theorem sl27 : sliceTy PR 27 5 = true := by kernel_rfl
theorem sl25 : sliceTy PR 25 8 = true := by kernel_rfl
theorem sl29 : sliceTy PR 29 7 = true := by kernel_rfl
theorem sl30 : sliceTy PR 30 2 = true := by kernel_rfl
theorem el34 : elemTy PR 34 = some (9, 1, false) := by kernel_rfl
theorem src34 : isInt PR 34 = false ∧ isSrc PR 34 = true := ⟨by kernel_rfl, by kernel_rfl⟩
theorem z9 : zeroA PR 9 = some (.sc (.string ByteArray.empty)) := by kernel_rfl
theorem by9 : bytesOk PR 9 = true := by kernel_rfl
theorem b9 : (PR.info? 9).map (·.bytes) = some 16 := by kernel_rfl
theorem fits9 {n : Nat} (h : n ≤ 4398046510000) : fitsB PR 9 n = true := by
  have := b9
  unfold fitsB
  cases hi : PR.info? 9 with
  | none => rw [hi] at this; cases this
  | some x =>
    rw [hi] at this
    simp only [Option.map_some, Option.some.injEq] at this
    simp only [this, Nat.ble_eq]
    omega
theorem len_map {α : Type} {f : α → AV} (l : List α) : AV.sc (.int .i64 ((l.map f).length : Int)) = i l.length := by rw [List.length_map]; rfl
theorem at_map {α : Type} {f : α → AV} {l pre rest : List α} {x : α} (h : l = pre ++ x :: rest) : (l.map f)[pre.length]? = some (f x) := by rw [h]; simp
theorem lt_of {α : Type} {l pre rest : List α} {x : α} (h : l = pre ++ x :: rest) : pre.length < l.length := by rw [h]; simp
theorem bT_of {b : Bool} (h : b = true) : AV.sc (.bool b) = bT := by rw [h]; rfl
theorem bF_of {b : Bool} (h : b = false) : AV.sc (.bool b) = bF := by rw [h]; rfl
theorem len_snoc {α : Type} (pre : List α) (x : α) : (pre ++ [x]).length = pre.length + 1 := by simp
theorem asB {a b : Bool} (h : a = b) : AV.sc (.bool a) = .sc (.bool b) := by rw [h]
theorem gc_nil {ρ : Nat → Option Nat} : gcOK ρ [] [] := trivial
end Go.Proofs.YtjbbhpfoohpbkaaGreatDoor

open Go Go.Xv
namespace Go.Proofs.YtjbbhpfoohpbkaaGreatDoor
def eqS (a b : ByteArray) : Bool := a.toList == b.toList
def s78 (own : Bool) (ls : List ByteArray) (x : ByteArray) (n : Nat) : Tmps := [.fz own 1 (sbs ls), sb x, tp, tp, tp, tp, tp, i ls.length, i n, tp, tp, tp, tp, tp, tp, tp, tp, tp, tp]

theorem loop78 (own : Bool) (ls : List ByteArray) (x : ByteArray) (hb : ls.length ≤ 4000000000000) : ∀ (rest pre : List ByteArray), ls = pre ++ rest →
    (rest.any (eqS x) = true ∧ ∃ k : Nat, Rounds PR glT (loopN Tryz.f78 0) (s78 own ls x pre.length) [] .ret (at1 19 4 (i k)) []) ∨
    (rest.any (eqS x) = false ∧ Rounds PR glT (loopN Tryz.f78 0) (s78 own ls x pre.length) [] (.exit 0) (List.replicate 19 tp) [])
  | [], pre, h => by
    rw [List.append_nil] at h
    refine .inr ⟨rfl, ?_⟩
    exact round_exit (n := 0) (keep := []) (ks := []) fitP [(9, .as _ _ (lt_f (m := pre.length) (n := ls.length) (by rw [h]; exact Nat.le_refl _)))] (by kernel_rfl) (by simp) gc_nil
  | y :: rest, pre, h => by
    have hix := pure_index (gl := glT) (own := own) (ty := 34) (ty' := 0) (x := .tmp 12) (y := .tmp 13) (k := .i64) sl34 (at_map (f := fun x => AV.sc (.string x)) h)
    have hlt := lt_of h
    cases he : eqS x y with
    | true =>
      refine .inl ⟨by simp [he], pre.length, ?_⟩
      exact round_exit (n := 0) (keep := []) (ks := [4]) fitP [(9, .as _ _ (lt_t hlt)), (14, .pure _ _ _ _ hix), (16, .as _ _ (bT_of he))] (by kernel_rfl) (by simp) gc_nil
    | false =>
      have ih := loop78 own ls x hb rest (pre ++ [y]) (by rw [h]; simp)
      rw [len_snoc] at ih
      rw [List.any_cons, he, Bool.false_or]
      have next : ∀ {x' : Ex} {t' : Tmps}, Rounds PR glT (loopN Tryz.f78 0) (s78 own ls x (pre.length + 1)) [] x' t' [] → Rounds PR glT (loopN Tryz.f78 0) (s78 own ls x pre.length) [] x' t' [] := fun r =>
        round_next (n := 0) (keep := []) (ks := [0, 1, 7, 8]) fitP [(9, .as _ _ (lt_t hlt)), (14, .pure _ _ _ _ hix), (16, .as _ _ (bF_of he)), (18, .as _ _ (step_i (n := pre.length) (by omega)))] (by kernel_rfl) gc_nil r
      rcases ih with ⟨h1, k, r⟩ | ⟨h1, r⟩
      · exact .inl ⟨h1, k, next r⟩
      · exact .inr ⟨h1, next r⟩

theorem told78 (own : Bool) (ls : List ByteArray) (x : ByteArray) (hb : ls.length ≤ 4000000000000) : ∃ v : Int, leI 0 v = ls.any (eqS x) ∧ ToldOK PR glT 78 [.fz own 1 (sbs ls), sb x] (i v) := by
  rcases loop78 own ls x hb ls [] rfl with ⟨h1, k, r⟩ | ⟨h1, r⟩
  · refine ⟨k, by rw [h1, leI_eq]; simp, ?_⟩
    exact told_hint fitP [(7, .as _ _ (len_map (f := fun x => AV.sc (.string x)) ls)), (0, .loop [0, 1, 7, 8] _ _ _ _ _ _ r.ok)] (fn := Tryz.f78) (c := bodyOf Tryz.f78) (by kernel_rfl) (by kernel_rfl) (by kernel_rfl)
  · refine ⟨-1, by rw [h1, leI_eq]; simp, ?_⟩
    exact told_hint fitP [(7, .as _ _ (len_map (f := fun x => AV.sc (.string x)) ls)), (0, .loop [0, 1, 7, 8] _ _ _ _ _ _ r.ok)] (fn := Tryz.f78) (c := bodyOf Tryz.f78) (by kernel_rfl) (by kernel_rfl) (by kernel_rfl)

theorem told33 (own : Bool) (ls : List ByteArray) (x : ByteArray) (hb : ls.length ≤ 4000000000000) : ToldOK PR glT 33 [.fz own 1 (sbs ls), sb x] (.sc (.bool (ls.any (eqS x)))) := by
  obtain ⟨v, hv, h⟩ := told78 own ls x hb
  exact told_hint fitP [(7, .callF _ _ _ h (frozen_fz (frozen_sc frozen_nil))), (8, .as _ _ (asB hv))] (fn := Tryz.f33) (c := bodyOf Tryz.f33) (by kernel_rfl) (by kernel_rfl) (by kernel_rfl)
end Go.Proofs.YtjbbhpfoohpbkaaGreatDoor

open Go Go.Xv
namespace Go.Proofs.YtjbbhpfoohpbkaaGreatDoor
def tl34 (r : Trip) : AV := .fz false 3 (r.legs.map Leg.av)
def s34V (r : Trip) (A : AV) (n : Nat) : Tmps := [tp, tp, tp, A, tp, tp, tp, tl34 r, i r.legs.length, i n, tp, tp, tp, tp, tp, tp, tp, tp, tp, tp, tp, tp, tp]
def s34T (r : Trip) (acc : List ByteArray) (n : Nat) : Tmps := s34V r (accA 1 acc) n
def s34H (r : Trip) (acc : List ByteArray) : List Blk := .cells r.cells :: accH acc

theorem nonE_snoc (ls : List Leg) (x : Leg) : nonE (ls ++ [x]) = nonE ls ++ (if (!(x.p.toList == [])) = true then [x.p] else []) := by
  simp only [nonE, List.map_append, List.filter_append, List.map_cons, List.map_nil, List.filter_cons, List.filter_nil]
theorem nonE_le (ls : List Leg) : (nonE ls).length ≤ ls.length := by
  have := List.length_filter_le (fun p : ByteArray => !(p.toList == [])) (ls.map Leg.p)
  simpa [nonE] using this

theorem gc34 (ρ : Nat → Option Nat) (r : Trip) : ∀ acc, gcOK ρ (s34H r acc) (s34H r acc)
  | [] => ⟨.inr rfl, trivial⟩
  | a :: l => ⟨.inr rfl, .inr (by simp only [renB, renL_sc]; rfl), trivial⟩

theorem out34 (r : Trip) : ∀ acc, Rounds PR glT (loopN Tryz.f34 0) (s34T r acc r.legs.length) (s34H r acc) (.exit 0) (at1 23 3 (accA 1 acc)) (s34H r acc)
  | [] => round_exit (n := 1) (keep := []) (ks := [3]) fitP [(10, .as _ _ (lt_f (Nat.le_refl r.legs.length)))] (by kernel_rfl) (by simp) (gc34 _ r [])
  | a :: l => round_exit (n := 2) (keep := []) (ks := [3]) fitP [(10, .as _ _ (lt_f (Nat.le_refl r.legs.length)))] (by kernel_rfl) (by simp) (gc34 _ r (a :: l))

/-- The call of 'append' that grows a slice of strings by one. -/
theorem app1 {ty : TypeId} {x y : Operand} {b b2 : Nat} {a p : ByteArray} {l : List ByteArray} {L : List Blk} (hL : hget L b = .cells (sbs (a :: l))) (hL2 : hget L b2 = .cells [sb p]) (hl : l.length + 2 ≤ 4398046510000) :
    EffOK PR glT (.call { callee := .builtin .append, args := #[x, y], argTypes := #[34, 34] }) ty [.sl 1 false b 0 (l.length + 1) (l.length + 1), .sl 1 false b2 0 1 1] L
      { val := .sl 1 false b 0 (l.length + 1 + 1) (l.length + 1 + 1), wr := [(b, .cells (sbs (a :: l) ++ [sb p]))], rd := [b, b2] } :=
  eff_append el34 src34 z9 rfl (by decide) by9 hL (by simp) hL2 rfl (by decide) (fits9 (by omega)) (fits9 (by omega))

theorem sbs_snoc (a : ByteArray) (l : List ByteArray) (p : ByteArray) : sbs (a :: l) ++ [sb p] = sbs (a :: (l ++ [p])) := by simp
theorem accA_snoc (b : Nat) (a : ByteArray) (l : List ByteArray) (p : ByteArray) : accA b (a :: l ++ [p]) = .sl 1 false b 0 (l.length + 1 + 1) (l.length + 1 + 1) := by simp [accA]

theorem loop34 (r : Trip) (hr : r.legs.length ≤ 4000000000000) : ∀ (rest pre : List Leg), r.legs = pre ++ rest →
    Rounds PR glT (loopN Tryz.f34 0) (s34T r (nonE pre) pre.length) (s34H r (nonE pre)) (.exit 0) (at1 23 3 (accA 1 (nonE r.legs))) (s34H r (nonE r.legs))
  | [], pre, h => by
    rw [List.append_nil] at h
    rw [← h]
    exact out34 r _
  | x :: rest, pre, h => by
    have hlt := lt_of h
    have hix := pure_index (gl := glT) (own := false) (ty := 119) (ty' := 0) (x := .tmp 7) (y := .tmp 9) (k := .i64) sl119 (at_map (f := Leg.av) h)
    have ih := loop34 r hr rest (pre ++ [x]) (by rw [h]; simp)
    rw [nonE_snoc, len_snoc] at ih
    have hacc : (nonE pre).length ≤ 4000000000000 := by have := nonE_le pre; omega
    generalize nonE pre = acc at ih hacc
    have hst := step_i (n := pre.length) (by omega)
    cases hp : (!(x.p.toList == [])) with
    | false =>
      rw [hp] at ih
      simp only [Bool.false_eq_true, if_false, List.append_nil] at ih
      cases acc with
      | nil => exact round_next (n := 1) (keep := []) (ks := [3, 7, 8, 9]) fitP [(10, .as _ _ (lt_t hlt)), (11, .pure _ _ _ _ hix), (15, .as _ _ (bF_of hp)), (21, .as _ _ hst)] (by kernel_rfl) (gc34 _ r []) ih
      | cons a l => exact round_next (n := 2) (keep := []) (ks := [3, 7, 8, 9]) fitP [(10, .as _ _ (lt_t hlt)), (11, .pure _ _ _ _ hix), (15, .as _ _ (bF_of hp)), (21, .as _ _ hst)] (by kernel_rfl) (gc34 _ r (a :: l)) ih
    | true =>
      rw [hp] at ih
      simp only [if_true] at ih
      cases acc with
      | nil => exact round_next (n := 1) (keep := [3]) (ks := [3, 7, 8, 9]) fitP [(10, .as _ _ (lt_t hlt)), (11, .pure _ _ _ _ hix), (15, .as _ _ (bT_of hp)), (21, .as _ _ hst)] (by kernel_rfl) (gc34 _ r [x.p]) ih
      | cons a l =>
        unfold s34T at ih
        rw [accA_snoc] at ih
        have happ := app1 (ty := 34) (x := .tmp 16) (y := .tmp 19) (b := 1) (b2 := 3) (a := a) (p := x.p) (l := l) (L := [.cells r.cells, .cells (sbs (a :: l)), .cells [sb x.a, i x.t, sb x.p], .cells [sb x.p]]) rfl rfl (by simp at hacc; omega)
        rw [sbs_snoc] at happ
        exact round_next (n := 2) (keep := []) (ks := [3, 7, 8, 9]) fitP [(10, .as _ _ (lt_t hlt)), (11, .pure _ _ _ _ hix), (15, .as _ _ (bT_of hp)), (20, .eff _ _ _ _ _ happ), (21, .as _ _ hst)] (by kernel_rfl) (gc34 _ r (a :: (l ++ [x.p]))) ih

theorem okV_sbs (l : List ByteArray) : okV false true (.fz true 1 (sbs l)) = true := rfl

theorem told34 (r : Trip) (hr : r.legs.length ≤ 4000000000000) : ToldOK PR glT 34 [r.av] (.fz true 1 (sbs (nonE r.legs))) := by
  have lp := (loop34 r hr r.legs [] rfl).ok
  cases h : nonE r.legs with
  | nil =>
    rw [h] at lp
    exact ToldOK.nil 1 (told_hint fitP [(8, .as _ _ (len_map (f := Leg.av) r.legs)), (0, .loop [3, 7, 8, 9] _ _ _ _ _ _ lp)] (fn := Tryz.f34) (c := bodyOf Tryz.f34) (by kernel_rfl) (by kernel_rfl) (by kernel_rfl))
  | cons a l =>
    rw [h] at lp
    exact told_deep fitP (v1 := .sl 1 false 1 0 (l.length + 1) (l.length + 1)) (L1 := s34H r (a :: l)) [(8, .as _ _ (len_map (f := Leg.av) r.legs)), (0, .loop [3, 7, 8, 9] _ _ _ _ _ _ lp)] (fn := Tryz.f34) (c := bodyOf Tryz.f34) (by kernel_rfl) (by kernel_rfl) (by kernel_rfl)
      (deep_sl (fun x => Value.string x) (a :: l) 22 rfl (by simp)) rfl

def accE (b : Nat) : List ByteArray → AV
  | [] => .e0
  | _ :: l => .sl 1 false b 0 (l.length + 1) (l.length + 1)
theorem accE_snoc (b : Nat) (a : ByteArray) (l : List ByteArray) (p : ByteArray) : accE b (a :: l ++ [p]) = .sl 1 false b 0 (l.length + 1 + 1) (l.length + 1 + 1) := by simp [accE]
def s37 (A : AV) (n : Nat) : Tmps := [tp, .ptr 0 5 0, tp, A, i n, tp, tp, tp, tp, tp, tp, tp, tp, tp, tp, tp, tp, tp, tp, tp, tp, tp, tp, tp, tp, tp, tp, tp, tp, tp]

theorem out37 (r : Trip) : ∀ acc, Rounds PR glT (loopN Tryz.f37 0) (s37 (accE 1 acc) r.legs.length) (s34H r acc) (.exit 0) (at1 30 3 (accE 1 acc)) (s34H r acc)
  | [] => round_exit (n := 1) (keep := []) (ks := [3]) fitP [(9, .as _ _ (len_map (f := Leg.av) r.legs)), (10, .as _ _ (lt_f (Nat.le_refl r.legs.length)))] (by kernel_rfl) (by simp) (gc34 _ r [])
  | a :: l => round_exit (n := 2) (keep := []) (ks := [3]) fitP [(9, .as _ _ (len_map (f := Leg.av) r.legs)), (10, .as _ _ (lt_f (Nat.le_refl r.legs.length)))] (by kernel_rfl) (by simp) (gc34 _ r (a :: l))

theorem loop37 (r : Trip) (hr : r.legs.length ≤ 4000000000000) : ∀ (rest pre : List Leg), r.legs = pre ++ rest →
    Rounds PR glT (loopN Tryz.f37 0) (s37 (accE 1 (nonE pre)) pre.length) (s34H r (nonE pre)) (.exit 0) (at1 30 3 (accE 1 (nonE r.legs))) (s34H r (nonE r.legs))
  | [], pre, h => by
    rw [List.append_nil] at h
    rw [← h]
    exact out37 r _
  | x :: rest, pre, h => by
    have hlt := lt_of h
    have hix : ∀ a b, PureOK PR glT (.indexAddr 119 a b) 0 [.fz false 3 (r.legs.map Leg.av), .sc (.int .i64 (pre.length : Int))] (.cp false x.av.cells 0) := fun a b => pure_index (gl := glT) (own := false) (ty := 119) (ty' := 0) (x := a) (y := b) (k := .i64) sl119 (at_map (f := Leg.av) h)
    have ih := loop37 r hr rest (pre ++ [x]) (by rw [h]; simp)
    rw [nonE_snoc, len_snoc] at ih
    have hacc : (nonE pre).length ≤ 4000000000000 := by have := nonE_le pre; omega
    generalize nonE pre = acc at ih hacc
    have hst := step_i (n := pre.length) (by omega)
    cases hp : (!(x.p.toList == [])) with
    | false =>
      rw [hp] at ih
      simp only [Bool.false_eq_true, if_false, List.append_nil] at ih
      cases acc with
      | nil => exact round_next (n := 1) (keep := []) (ks := [1, 3, 4]) fitP [(9, .as _ _ (len_map (f := Leg.av) r.legs)), (10, .as _ _ (lt_t hlt)), (16, .pure _ _ _ _ (hix (.tmp 14) (.tmp 15))), (19, .as _ _ (bF_of hp)), (12, .as _ _ hst)] (by kernel_rfl) (gc34 _ r []) ih
      | cons a l => exact round_next (n := 2) (keep := []) (ks := [1, 3, 4]) fitP [(9, .as _ _ (len_map (f := Leg.av) r.legs)), (10, .as _ _ (lt_t hlt)), (16, .pure _ _ _ _ (hix (.tmp 14) (.tmp 15))), (19, .as _ _ (bF_of hp)), (12, .as _ _ hst)] (by kernel_rfl) (gc34 _ r (a :: l)) ih
    | true =>
      rw [hp] at ih
      simp only [if_true] at ih
      cases acc with
      | nil => exact round_next (n := 1) (keep := [2]) (ks := [1, 3, 4]) fitP [(9, .as _ _ (len_map (f := Leg.av) r.legs)), (10, .as _ _ (lt_t hlt)), (16, .pure _ _ _ _ (hix (.tmp 14) (.tmp 15))), (19, .as _ _ (bT_of hp)), (24, .pure _ _ _ _ (hix (.tmp 22) (.tmp 23))), (12, .as _ _ hst)] (by kernel_rfl) (gc34 _ r [x.p]) ih
      | cons a l =>
        rw [accE_snoc] at ih
        have happ := app1 (ty := 34) (x := .tmp 20) (y := .tmp 27) (b := 1) (b2 := 2) (a := a) (p := x.p) (l := l) (L := [.cells r.cells, .cells (sbs (a :: l)), .cells [sb x.p]]) rfl rfl (by simp at hacc; omega)
        rw [sbs_snoc] at happ
        exact round_next (n := 2) (keep := []) (ks := [1, 3, 4]) fitP [(9, .as _ _ (len_map (f := Leg.av) r.legs)), (10, .as _ _ (lt_t hlt)), (16, .pure _ _ _ _ (hix (.tmp 14) (.tmp 15))), (19, .as _ _ (bT_of hp)), (24, .pure _ _ _ _ (hix (.tmp 22) (.tmp 23))), (28, .eff _ _ _ _ _ happ), (12, .as _ _ hst)] (by kernel_rfl) (gc34 _ r (a :: (l ++ [x.p]))) ih

theorem ToldOK.e0 {f : FuncId} {A : List AV} (s : Nat) (h : ToldOK PR glT f A .e0) : ToldOK PR glT f A (.fz true s []) := by
  refine ⟨h.body, by simp [okV], h.ok.1, fun g w B S hg hA hb => Calls.mono (h.ok.2 g w B S hg hA hb) fun e w' he => ?_⟩
  obtain ⟨u, g', rfl, hu, hp⟩ := he
  cases hu with
  | e0 a => exact ⟨_, g', rfl, .fz true s [] [] a 0 .nil rfl (by simp) (by simp) (by simp) rfl, hp⟩

theorem told37 (r : Trip) (hr : r.legs.length ≤ 4000000000000) : ToldOK PR glT 37 [r.av] (.fz true 1 (sbs (nonE r.legs))) := by
  have lp := (loop37 r hr r.legs [] rfl).ok
  cases h : nonE r.legs with
  | nil =>
    rw [h] at lp
    exact ToldOK.e0 1 (told_hint fitP [(0, .loop [1, 3, 4] _ _ _ _ _ _ lp)] (fn := Tryz.f37) (c := bodyOf Tryz.f37) (by kernel_rfl) (by kernel_rfl) (by kernel_rfl))
  | cons a l =>
    rw [h] at lp
    exact told_deep fitP (v1 := .sl 1 false 1 0 (l.length + 1) (l.length + 1)) (L1 := s34H r (a :: l)) [(0, .loop [1, 3, 4] _ _ _ _ _ _ lp)] (fn := Tryz.f37) (c := bodyOf Tryz.f37) (by kernel_rfl) (by kernel_rfl) (by kernel_rfl)
      (deep_sl (fun x => Value.string x) (a :: l) 22 rfl (by simp)) rfl
end Go.Proofs.YtjbbhpfoohpbkaaGreatDoor

open Go Go.Xv
namespace Go.Proofs.YtjbbhpfoohpbkaaGreatDoor
def sameId (p q : Pas) : Bool := eqS q.id p.id
theorem told17 (q p : Pas) : ToldOK PR glT 17 [q.av, .cp false p.cells 0] (.sc (.bool (sameId p q))) :=
  told_hint fitP [] (fn := Tryz.f17) (c := bodyOf Tryz.f17) (by kernel_rfl) (by kernel_rfl) (by kernel_rfl)

def s30 (xs : List Pas) (cap : List AV) (n : Nat) : Tmps := [.fz false 8 (xs.map Pas.av), .fn 17 [] cap, tp, tp, tp, tp, tp, i xs.length, i n, tp, tp, tp, tp, tp, tp, tp, tp, tp, tp]

theorem loop30 (xs : List Pas) (hb : xs.length ≤ 4000000000000) (p : Pas) : ∀ (rest pre : List Pas), xs = pre ++ rest →
    (rest.any (sameId p) = true ∧ ∃ k : Nat, Rounds PR glT (loopN Tryz.f30 0) (s30 xs [.cp false p.cells 0] pre.length) [] .ret (at1 19 4 (i k)) []) ∨
    (rest.any (sameId p) = false ∧ Rounds PR glT (loopN Tryz.f30 0) (s30 xs [.cp false p.cells 0] pre.length) [] (.exit 0) (List.replicate 19 tp) [])
  | [], pre, h => by
    rw [List.append_nil] at h
    refine .inr ⟨rfl, ?_⟩
    exact round_exit (n := 0) (keep := []) (ks := []) fitP [(9, .as _ _ (lt_f (m := pre.length) (n := xs.length) (by rw [h]; exact Nat.le_refl _)))] (by kernel_rfl) (by simp) gc_nil
  | y :: rest, pre, h => by
    have hix := pure_index (gl := glT) (own := false) (ty := 25) (ty' := 0) (x := .tmp 12) (y := .tmp 13) (k := .i64) sl25 (at_map (f := Pas.av) h)
    have hlt := lt_of h
    have ht := told17 y p
    cases he : (sameId p) y with
    | true =>
      rw [he] at ht
      refine .inl ⟨by simp [he], pre.length, ?_⟩
      exact round_exit (n := 0) (keep := []) (ks := [4]) fitP [(9, .as _ _ (lt_t hlt)), (14, .pure _ _ _ _ hix), (16, .call _ _ _ ht)] (by kernel_rfl) (by simp) gc_nil
    | false =>
      rw [he] at ht
      have ih := loop30 xs hb p rest (pre ++ [y]) (by rw [h]; simp)
      rw [len_snoc] at ih
      rw [List.any_cons, he, Bool.false_or]
      have next : ∀ {x' : Ex} {t' : Tmps}, Rounds PR glT (loopN Tryz.f30 0) (s30 xs [.cp false p.cells 0] (pre.length + 1)) [] x' t' [] → Rounds PR glT (loopN Tryz.f30 0) (s30 xs [.cp false p.cells 0] pre.length) [] x' t' [] := fun r =>
        round_next (n := 0) (keep := []) (ks := [0, 1, 7, 8]) fitP [(9, .as _ _ (lt_t hlt)), (14, .pure _ _ _ _ hix), (16, .call _ _ _ ht), (18, .as _ _ (step_i (n := pre.length) (by omega)))] (by kernel_rfl) gc_nil r
      rcases ih with ⟨h1, k, r⟩ | ⟨h1, r⟩
      · exact .inl ⟨h1, k, next r⟩
      · exact .inr ⟨h1, next r⟩

theorem told30 (xs : List Pas) (hb : xs.length ≤ 4000000000000) (p : Pas) : ∃ v : Int, leI 0 v = xs.any (sameId p) ∧ ToldOK PR glT 30 [.fz false 8 (xs.map Pas.av), .fn 17 [] [.cp false p.cells 0]] (i v) := by
  rcases loop30 xs hb p xs [] rfl with ⟨h1, k, r⟩ | ⟨h1, r⟩
  · refine ⟨k, by rw [h1, leI_eq]; simp, ?_⟩
    exact told_hint fitP [(7, .as _ _ (len_map (f := Pas.av) xs)), (0, .loop [0, 1, 7, 8] _ _ _ _ _ _ r.ok)] (fn := Tryz.f30) (c := bodyOf Tryz.f30) (by kernel_rfl) (by kernel_rfl) (by kernel_rfl)
  · refine ⟨-1, by rw [h1, leI_eq]; simp, ?_⟩
    exact told_hint fitP [(7, .as _ _ (len_map (f := Pas.av) xs)), (0, .loop [0, 1, 7, 8] _ _ _ _ _ _ r.ok)] (fn := Tryz.f30) (c := bodyOf Tryz.f30) (by kernel_rfl) (by kernel_rfl) (by kernel_rfl)

theorem told18 (xs : List Pas) (hb : xs.length ≤ 4000000000000) (p : Pas) : ToldOK PR glT 18 [.fz false 8 (xs.map Pas.av), .fn 17 [] [.cp false p.cells 0]] (.sc (.bool (xs.any (sameId p)))) := by
  obtain ⟨v, hv, h⟩ := told30 xs hb p
  exact told_hint fitP [(7, .call _ _ _ h), (8, .as _ _ (asB hv))] (fn := Tryz.f18) (c := bodyOf Tryz.f18) (by kernel_rfl) (by kernel_rfl) (by kernel_rfl)

def tC : ByteArray := ⟨#[116, 58]⟩
def goes (c : Chg) (id : ByteArray) (t : Trip) : Bool := if eqS c.key (tC ++ t.id) = true then (nonE t.legs).any (eqS id) else false
theorem told32 (c : Chg) (id : ByteArray) (t : Trip) (ht : t.legs.length ≤ 4000000000000) (hs : t.id.size ≤ 9000000000000000) : ToldOK PR glT 32 [t.av, .cp false c.cells 0, .cp false [sb id] 0] (.sc (.bool (goes c id t))) := by
  have hc := pure_cat (P := PR) (gl := glT) (ty := 9) (ty' := 9) (x := .const (.string tC)) (y := .tmp 8) (z := 9) (a := tC) (b := t.id) (by have : tC.size = 2 := rfl; omega)
  unfold goes
  cases he : eqS c.key (tC ++ t.id) with
  | true => exact told_hint fitP [(9, .pure _ _ _ _ hc), (10, .as _ _ (bT_of he)), (13, .call _ _ _ (told34 t ht)), (15, .call _ _ _ (told33 true (nonE t.legs) id (by have := nonE_le t.legs; omega)))] (fn := Tryz.f32) (c := bodyOf Tryz.f32) (by kernel_rfl) (by kernel_rfl) (by kernel_rfl)
  | false => exact told_hint fitP [(9, .pure _ _ _ _ hc), (10, .as _ _ (bF_of he))] (fn := Tryz.f32) (c := bodyOf Tryz.f32) (by kernel_rfl) (by kernel_rfl) (by kernel_rfl)
/-- Trips that are no longer than memory. -/
structure TsOK (ts : List Trip) : Prop where
  ok : ∀ t ∈ ts, t.legs.length ≤ 4000000000000 ∧ t.id.size ≤ 9000000000000000

def s77 (xs : List Trip) (cap : List AV) (n : Nat) : Tmps := [.fz false 5 (xs.map Trip.av), .fn 32 [] cap, tp, tp, tp, tp, tp, i xs.length, i n, tp, tp, tp, tp, tp, tp, tp, tp, tp, tp]

theorem loop77 (xs : List Trip) (hb : xs.length ≤ 4000000000000) (c : Chg) (id : ByteArray) (hT : TsOK xs) : ∀ (rest pre : List Trip), xs = pre ++ rest →
    (rest.any (goes c id) = true ∧ ∃ k : Nat, Rounds PR glT (loopN Tryz.f77 0) (s77 xs [.cp false c.cells 0, .cp false [sb id] 0] pre.length) [] .ret (at1 19 4 (i k)) []) ∨
    (rest.any (goes c id) = false ∧ Rounds PR glT (loopN Tryz.f77 0) (s77 xs [.cp false c.cells 0, .cp false [sb id] 0] pre.length) [] (.exit 0) (List.replicate 19 tp) [])
  | [], pre, h => by
    rw [List.append_nil] at h
    refine .inr ⟨rfl, ?_⟩
    exact round_exit (n := 0) (keep := []) (ks := []) fitP [(9, .as _ _ (lt_f (m := pre.length) (n := xs.length) (by rw [h]; exact Nat.le_refl _)))] (by kernel_rfl) (by simp) gc_nil
  | y :: rest, pre, h => by
    have hix := pure_index (gl := glT) (own := false) (ty := 27) (ty' := 0) (x := .tmp 12) (y := .tmp 13) (k := .i64) sl27 (at_map (f := Trip.av) h)
    have hlt := lt_of h
    have ht := told32 c id y (hT.ok y (by rw [h]; simp)).1 (hT.ok y (by rw [h]; simp)).2
    cases he : (goes c id) y with
    | true =>
      rw [he] at ht
      refine .inl ⟨by simp [he], pre.length, ?_⟩
      exact round_exit (n := 0) (keep := []) (ks := [4]) fitP [(9, .as _ _ (lt_t hlt)), (14, .pure _ _ _ _ hix), (16, .call _ _ _ ht)] (by kernel_rfl) (by simp) gc_nil
    | false =>
      rw [he] at ht
      have ih := loop77 xs hb c id hT rest (pre ++ [y]) (by rw [h]; simp)
      rw [len_snoc] at ih
      rw [List.any_cons, he, Bool.false_or]
      have next : ∀ {x' : Ex} {t' : Tmps}, Rounds PR glT (loopN Tryz.f77 0) (s77 xs [.cp false c.cells 0, .cp false [sb id] 0] (pre.length + 1)) [] x' t' [] → Rounds PR glT (loopN Tryz.f77 0) (s77 xs [.cp false c.cells 0, .cp false [sb id] 0] pre.length) [] x' t' [] := fun r =>
        round_next (n := 0) (keep := []) (ks := [0, 1, 7, 8]) fitP [(9, .as _ _ (lt_t hlt)), (14, .pure _ _ _ _ hix), (16, .call _ _ _ ht), (18, .as _ _ (step_i (n := pre.length) (by omega)))] (by kernel_rfl) gc_nil r
      rcases ih with ⟨h1, k, r⟩ | ⟨h1, r⟩
      · exact .inl ⟨h1, k, next r⟩
      · exact .inr ⟨h1, next r⟩

theorem told77 (xs : List Trip) (hb : xs.length ≤ 4000000000000) (c : Chg) (id : ByteArray) (hT : TsOK xs) : ∃ v : Int, leI 0 v = xs.any (goes c id) ∧ ToldOK PR glT 77 [.fz false 5 (xs.map Trip.av), .fn 32 [] [.cp false c.cells 0, .cp false [sb id] 0]] (i v) := by
  rcases loop77 xs hb c id hT xs [] rfl with ⟨h1, k, r⟩ | ⟨h1, r⟩
  · refine ⟨k, by rw [h1, leI_eq]; simp, ?_⟩
    exact told_hint fitP [(7, .as _ _ (len_map (f := Trip.av) xs)), (0, .loop [0, 1, 7, 8] _ _ _ _ _ _ r.ok)] (fn := Tryz.f77) (c := bodyOf Tryz.f77) (by kernel_rfl) (by kernel_rfl) (by kernel_rfl)
  · refine ⟨-1, by rw [h1, leI_eq]; simp, ?_⟩
    exact told_hint fitP [(7, .as _ _ (len_map (f := Trip.av) xs)), (0, .loop [0, 1, 7, 8] _ _ _ _ _ _ r.ok)] (fn := Tryz.f77) (c := bodyOf Tryz.f77) (by kernel_rfl) (by kernel_rfl) (by kernel_rfl)

theorem told31 (xs : List Trip) (hb : xs.length ≤ 4000000000000) (c : Chg) (id : ByteArray) (hT : TsOK xs) : ToldOK PR glT 31 [.fz false 5 (xs.map Trip.av), .fn 32 [] [.cp false c.cells 0, .cp false [sb id] 0]] (.sc (.bool (xs.any (goes c id)))) := by
  obtain ⟨v, hv, h⟩ := told77 xs hb c id hT
  exact told_hint fitP [(7, .call _ _ _ h), (8, .as _ _ (asB hv))] (fn := Tryz.f31) (c := bodyOf Tryz.f31) (by kernel_rfl) (by kernel_rfl) (by kernel_rfl)
end Go.Proofs.YtjbbhpfoohpbkaaGreatDoor

/- The reference: insert, Format and Fates. No condition but lengths that memory allows. -/
import Derived.Test.YtjbbhpfoohpbkaaGreatDoorOnA
set_option linter.all false
open Go Go.Xv
namespace Go.Proofs.YtjbbhpfoohpbkaaGreatDoor
theorem flat_sbs : ∀ l : List ByteArray, (sbs l).flatMap AV.cells = sbs l
  | [] => rfl
  | a :: l => by
    have := flat_sbs l
    simp only [sbs] at this ⊢
    rw [List.map_cons, List.flatMap_cons, this]; rfl

section effs
variable {ty : TypeId} {x y : Operand} {own : Bool} {L : List Blk}
abbrev apOp (x y : Operand) : Op := .call { callee := .builtin .append, args := #[x, y], argTypes := #[34, 34] }
theorem effE {l : List ByteArray} (hl : l ≠ []) (hb : l.length ≤ 4398046510000) : EffOK PR glT (apOp x y) ty [.e0, .fz own 1 (sbs l)] L { val := .sl 1 false L.length 0 l.length l.length, al := [.cells (sbs l)] } := fun t o ho _ hv => by
  obtain ⟨h1, h2⟩ := opVals2 (x := x) (y := y) (by rfl) hv
  refine ⟨by simp [callee, ho], ?_⟩
  have e0 : ¬ (l.length = 0) := by simpa using hl
  have hf := fits9 hb
  have hz : (AV.sc (.string ByteArray.empty)).cells.length = 1 := rfl
  simp [evOp, ho, h1, h2, builtinA, appendA, el34, src34.1, src34.2, srcA, slLen, slCells, z9, hz, by9, hf, flat_sbs, hl]
theorem effE0 : EffOK PR glT (apOp x y) ty [.e0, .fz own 1 (sbs [])] L { val := .e0 } := fun t o ho _ hv => by
  obtain ⟨h1, h2⟩ := opVals2 (x := x) (y := y) (by rfl) hv
  refine ⟨by simp [callee, ho], ?_⟩
  have hf := fits9 (n := 0) (by omega)
  have hz : (AV.sc (.string ByteArray.empty)).cells.length = 1 := rfl
  simp [evOp, ho, h1, h2, builtinA, appendA, el34, src34.1, src34.2, srcA, slLen, slCells, z9, hz, by9, hf]
theorem effS {b m : Nat} {cs : List AV} {l : List ByteArray} (hL : hget L b = .cells cs) (hc : cs.length = m) (hl : l ≠ []) (hb : m + l.length ≤ 4398046510000) :
    EffOK PR glT (apOp x y) ty [.sl 1 false b 0 m m, .fz own 1 (sbs l)] L { val := .sl 1 false b 0 (m + l.length) (m + l.length), wr := [(b, .cells (cs ++ sbs l))], rd := [b] } := fun t o ho _ hv => by
  obtain ⟨h1, h2⟩ := opVals2 (x := x) (y := y) (by rfl) hv
  refine ⟨by simp [callee, ho], ?_⟩
  have e0 : ¬ (l.length = 0) := by simpa using hl
  have hf := fits9 (n := l.length) (by omega)
  have hf2 := fits9 hb
  have hz : (AV.sc (.string ByteArray.empty)).cells.length = 1 := rfl
  have e1 : cs.take m = cs := by rw [← hc]; exact List.take_length
  simp [evOp, ho, h1, h2, builtinA, appendA, el34, src34.1, src34.2, srcA, slLen, slCells, z9, hz, by9, hf, hf2, flat_sbs, curCells, hL, hc, e1, hl]
  exact Nat.pos_of_ne_zero e0
theorem effS0 {b m : Nat} {cs : List AV} (hL : hget L b = .cells cs) (hc : cs.length = m) (hb : m ≤ 4398046510000) :
    EffOK PR glT (apOp x y) ty [.sl 1 false b 0 m m, .fz own 1 (sbs [])] L { val := .sl 1 false b 0 m m, wr := [(b, .cells cs)], rd := [b] } := fun t o ho _ hv => by
  obtain ⟨h1, h2⟩ := opVals2 (x := x) (y := y) (by rfl) hv
  refine ⟨by simp [callee, ho], ?_⟩
  have hf := fits9 (n := 0) (by omega)
  have hf2 := fits9 hb
  have hz : (AV.sc (.string ByteArray.empty)).cells.length = 1 := rfl
  have e1 : cs.take m = cs := by rw [← hc]; exact List.take_length
  have e2 : cs.drop m = [] := by rw [← hc]; exact List.drop_length
  simp [evOp, ho, h1, h2, builtinA, appendA, el34, src34.1, src34.2, srcA, slLen, slCells, z9, hz, by9, hf, hf2, curCells, hL, hc, splice, e1, e2]
end effs

def s38 (own : Bool) (ls : List ByteArray) (x : ByteArray) (n : Nat) : Tmps := [.fz own 1 (sbs ls), sb x, tp, tp, tp, i n, tp, tp, tp, tp, tp, tp, tp, tp, tp, tp, tp, tp, tp, tp, tp, tp, tp, tp, tp, tp, tp, tp, tp, tp, tp, tp, tp, tp, tp, tp, tp]
def leS (a b : ByteArray) : Bool := Op.bytesLess a.toList b.toList || (a.toList == b.toList)

theorem loop38 (own : Bool) (ls : List ByteArray) (x : ByteArray) (hb : ls.length ≤ 4000000000000) : ∀ (rest pre : List ByteArray), ls = pre ++ rest →
    ∃ k : Nat, k ≤ ls.length ∧ Rounds PR glT (loopN Tryz.f38 0) (s38 own ls x pre.length) [] (.exit 0) (s38 own ls x k) []
  | [], pre, h => by
    rw [List.append_nil] at h
    refine ⟨pre.length, by rw [h]; exact Nat.le_refl _, ?_⟩
    exact round_exit (n := 0) (keep := []) (ks := [0, 1, 5]) fitP [(9, .as _ _ (len_map (f := fun x => AV.sc (.string x)) ls)), (10, .as _ _ (lt_f (m := pre.length) (n := ls.length) (by rw [h]; exact Nat.le_refl _)))] (by kernel_rfl) (by simp) gc_nil
  | y :: rest, pre, h => by
    have hix := pure_index (gl := glT) (own := own) (ty := 34) (ty' := 0) (x := .tmp 12) (y := .tmp 13) (k := .i64) sl34 (at_map (f := fun x => AV.sc (.string x)) h)
    have hlt := lt_of h
    cases he : leS y x with
    | false =>
      refine ⟨pre.length, by omega, ?_⟩
      exact round_exit (n := 0) (keep := []) (ks := [0, 1, 5]) fitP [(9, .as _ _ (len_map (f := fun x => AV.sc (.string x)) ls)), (10, .as _ _ (lt_t hlt)), (14, .pure _ _ _ _ hix), (17, .as _ _ (bF_of he))] (by kernel_rfl) (by simp) gc_nil
    | true =>
      obtain ⟨k, hk, ih⟩ := loop38 own ls x hb rest (pre ++ [y]) (by rw [h]; simp)
      rw [len_snoc] at ih
      exact ⟨k, hk, round_next (n := 0) (keep := []) (ks := [0, 1, 5]) fitP [(9, .as _ _ (len_map (f := fun x => AV.sc (.string x)) ls)), (10, .as _ _ (lt_t hlt)), (14, .pure _ _ _ _ hix), (17, .as _ _ (bT_of he)), (20, .as _ _ (step_i (n := pre.length) (by omega)))] (by kernel_rfl) gc_nil ih⟩

theorem told38 (own : Bool) (ls : List ByteArray) (x : ByteArray) (hb : ls.length ≤ 4000000000000) : ∃ l', l'.length = ls.length + 1 ∧ ToldOK PR glT 38 [.fz own 1 (sbs ls), sb x] (.fz true 1 (sbs l')) := by
  obtain ⟨k, hk, r⟩ := loop38 own ls x hb ls [] rfl
  have h25 := pure_to (P := PR) (gl := glT) (ty := 34) (ty' := 34) (x := .tmp 23) (y := .tmp 24) (own := own) (s := 1) (n := k) (k := .i64) (es := sbs ls) sl34 (by simpa using hk)
  have h34 := pure_from (P := PR) (gl := glT) (ty := 34) (ty' := 34) (x := .tmp 32) (y := .tmp 33) (own := own) (s := 1) (n := k) (k := .i64) (es := sbs ls) sl34 (by simpa using hk)
  have et : (sbs ls).take k = sbs (ls.take k) := by simp
  have ed : (sbs ls).drop k = sbs (ls.drop k) := by simp
  rw [et] at h25
  rw [ed] at h34
  have hpq : (ls.take k).length + (ls.drop k).length = ls.length := by simp; omega
  generalize ls.take k = p at *
  generalize ls.drop k = q at *
  cases p with
  | nil =>
    cases q with
    | nil =>
      refine ⟨[x], by simp only [List.length_nil, List.length_cons, List.length_append] at hpq ⊢; omega, ?_⟩
      exact told_deep fitP (v1 := .sl 1 false 1 0 1 1) (L1 := [.cells [sb x], .cells (sbs [x])]) [(0, .loop [0, 1, 5] _ _ _ _ _ _ r.ok), (25, .pure _ _ _ _ h25), (26, .eff _ _ _ [] _ (effE0 (ty := 34) (x := .tmp 22) (y := .tmp 25) (own := own))), (34, .pure _ _ _ _ h34),
        (35, .eff _ _ _ [.cells [sb x], .cells (sbs [x])] _ (effS0 (ty := 34) (x := .tmp 31) (y := .tmp 34) (own := own) (b := 1) (m := 1) (cs := sbs [x]) rfl rfl (by omega)))] (fn := Tryz.f38) (c := bodyOf Tryz.f38) (by kernel_rfl) (by kernel_rfl) (by kernel_rfl) (deep_sl (fun x => Value.string x) [x] 22 rfl rfl) rfl
    | cons c q =>
      refine ⟨x :: c :: q, by simp only [List.length_nil, List.length_cons, List.length_append] at hpq ⊢; omega, ?_⟩
      exact told_deep fitP (v1 := .sl 1 false 1 0 (1 + (c :: q).length) (1 + (c :: q).length)) (L1 := [.cells [sb x], .cells (sbs (x :: c :: q))]) [(0, .loop [0, 1, 5] _ _ _ _ _ _ r.ok), (25, .pure _ _ _ _ h25), (26, .eff _ _ _ [] _ (effE0 (ty := 34) (x := .tmp 22) (y := .tmp 25) (own := own))), (34, .pure _ _ _ _ h34),
        (35, .eff _ _ _ [.cells [sb x], .cells (sbs [x])] _ (effS (ty := 34) (x := .tmp 31) (y := .tmp 34) (own := own) (b := 1) (m := 1) (cs := sbs [x]) (l := c :: q) rfl rfl (by simp) (by simp only [List.length_nil, List.length_cons, List.length_append] at hpq ⊢; omega)))] (fn := Tryz.f38) (c := bodyOf Tryz.f38) (by kernel_rfl) (by kernel_rfl) (by kernel_rfl) (deep_sl (fun x => Value.string x) (x :: c :: q) 22 rfl (by simp; omega)) rfl
  | cons a p =>
    have h30 := app1 (ty := 34) (x := .tmp 27) (y := .tmp 29) (b := 0) (b2 := 1) (a := a) (p := x) (l := p) (L := [.cells (sbs (a :: p)), .cells [sb x]]) rfl rfl (by simp only [List.length_nil, List.length_cons] at hpq; omega)
    rw [sbs_snoc] at h30
    cases q with
    | nil =>
      refine ⟨a :: (p ++ [x]), by simp only [List.length_nil, List.length_cons, List.length_append] at hpq ⊢; omega, ?_⟩
      exact told_deep fitP (v1 := .sl 1 false 0 0 (p.length + 1 + 1) (p.length + 1 + 1)) (L1 := [.cells (sbs (a :: (p ++ [x]))), .cells [sb x]]) [(0, .loop [0, 1, 5] _ _ _ _ _ _ r.ok), (25, .pure _ _ _ _ h25), (26, .eff _ _ _ [] _ (effE (ty := 34) (x := .tmp 22) (y := .tmp 25) (own := own) (L := []) (l := a :: p) (by simp) (by simp only [List.length_nil, List.length_cons, List.length_append] at hpq ⊢; omega))),
        (30, .eff _ _ _ _ _ h30), (34, .pure _ _ _ _ h34),
        (35, .eff _ _ _ [.cells (sbs (a :: (p ++ [x]))), .cells [sb x]] _ (effS0 (ty := 34) (x := .tmp 31) (y := .tmp 34) (own := own) (b := 0) (m := p.length + 1 + 1) (cs := sbs (a :: (p ++ [x]))) rfl (by simp) (by simp only [List.length_nil, List.length_cons] at hpq; omega)))] (fn := Tryz.f38) (c := bodyOf Tryz.f38) (by kernel_rfl) (by kernel_rfl) (by kernel_rfl)
        (deep_sl (fun x => Value.string x) (a :: (p ++ [x])) 22 rfl (by simp)) rfl
    | cons c q =>
      refine ⟨a :: (p ++ [x]) ++ c :: q, by simp only [List.length_nil, List.length_cons, List.length_append] at hpq ⊢; omega, ?_⟩
      have h35 := effS (ty := 34) (x := .tmp 31) (y := .tmp 34) (own := own) (L := [.cells (sbs (a :: (p ++ [x]))), .cells [sb x]]) (b := 0) (m := p.length + 1 + 1) (cs := sbs (a :: (p ++ [x]))) (l := c :: q) rfl (by simp) (by simp) (by simp only [List.length_nil, List.length_cons, List.length_append] at hpq ⊢; omega)
      have ee : sbs (a :: (p ++ [x])) ++ sbs (c :: q) = sbs (a :: (p ++ [x]) ++ c :: q) := by simp
      rw [ee] at h35
      exact told_deep fitP (v1 := .sl 1 false 0 0 (p.length + 1 + 1 + (c :: q).length) (p.length + 1 + 1 + (c :: q).length)) (L1 := [.cells (sbs (a :: (p ++ [x]) ++ c :: q)), .cells [sb x]]) [(0, .loop [0, 1, 5] _ _ _ _ _ _ r.ok), (25, .pure _ _ _ _ h25), (26, .eff _ _ _ [] _ (effE (ty := 34) (x := .tmp 22) (y := .tmp 25) (own := own) (L := []) (l := a :: p) (by simp) (by simp only [List.length_nil, List.length_cons, List.length_append] at hpq ⊢; omega))),
        (30, .eff _ _ _ _ _ h30), (34, .pure _ _ _ _ h34), (35, .eff _ _ _ _ _ h35)] (fn := Tryz.f38) (c := bodyOf Tryz.f38) (by kernel_rfl) (by kernel_rfl) (by kernel_rfl)
        (deep_sl (fun x => Value.string x) (a :: (p ++ [x]) ++ c :: q) 22 rfl (by simp; omega)) rfl
end Go.Proofs.YtjbbhpfoohpbkaaGreatDoor

open Go Go.Xv
namespace Go.Proofs.YtjbbhpfoohpbkaaGreatDoor
theorem str9 : PR.underlying 9 = some .string := by kernel_rfl
def digs : ByteArray := ⟨#[48, 49, 50, 51, 52, 53, 54, 55, 56, 57]⟩
def s39 (n : Int) (s : ByteArray) (m : Int) : Tmps := [i n, tp, tp, sb s, i m, tp, tp, tp, tp, tp, tp, tp, tp, tp, tp, tp, tp, tp, tp, tp, tp, tp, tp, tp, tp, tp, tp, tp, tp, tp]
def s39X (n : Int) (s : ByteArray) : Tmps := [i n, tp, tp, sb s, tp, tp, tp, tp, tp, tp, tp, tp, tp, tp, tp, tp, tp, tp, tp, tp, tp, tp, tp, tp, tp, tp, tp, tp, tp, tp]
theorem wrap_in {n : Int} (h1 : -9223372036854775808 ≤ n) (h2 : n ≤ 9223372036854775807) : wrapI n = n := by
  rw [wrapI_eq]; exact IntWalk.i64_in _ ⟨h1, h2⟩
theorem iA {a b : Int} (h : a = b) : AV.sc (.int .i64 a) = i b := by rw [h]; rfl
theorem tmod_le (m : Int) : -9 ≤ m.tmod 10 ∧ m.tmod 10 ≤ 9 := by
  have := Int.natAbs_tmod m 10
  have h10 : (10 : Int).natAbs = 10 := rfl
  rw [h10] at this
  omega
theorem tdiv_abs (m : Int) : (m.tdiv 10).natAbs = m.natAbs / 10 := Int.natAbs_tdiv m 10
theorem tdiv_lt {m : Int} {k : Nat} (h : m.natAbs < 10 ^ (k + 1)) : (m.tdiv 10).natAbs < 10 ^ k := by
  have e : (10 : Nat) ^ (k + 1) = 10 ^ k * 10 := rfl
  rw [tdiv_abs]
  rw [e] at h
  generalize 10 ^ k = p at *
  omega
theorem cat_size (a b : ByteArray) : (a ++ b).size = a.size + b.size := ByteArray.size_append

theorem round39 (n m : Int) (s : ByteArray) (hm : m ≠ 0) (h1 : -9223372036854775808 ≤ m) (h2 : m ≤ 9223372036854775807) (hs : s.size ≤ 100) :
    ∃ c : ByteArray, c.size = 1 ∧ ∀ {x : Ex} {t' : Tmps}, Rounds PR glT (loopN Tryz.f39 0) (s39 n (c ++ s) (m.tdiv 10)) [] x t' [] → Rounds PR glT (loopN Tryz.f39 0) (s39 n s m) [] x t' [] := by
  have hne : AV.sc (.bool (!eqI m 0)) = bT := by rw [eqI_eq]; simp [hm, bT]
  have hq : IntKind.i64.wrap (m.tdiv 10) = m.tdiv 10 := IntWalk.i64_in _ (by have := tdiv_abs m; omega)
  have hd := tmod_le m
  generalize hdd : m.tmod 10 = d at hd
  have fin : ∀ e : Nat, e ≤ 9 → PureOK PR glT (.slice 9 (.const (.string digs)) (some (.tmp 19)) (some (.tmp 21)) none) 9 [sb digs, .sc (.int .i64 (e : Int)), .sc (.int .i64 ((e + 1 : Nat) : Int))] (sb (digs.extract e (e + 1))) :=
    fun e he => pure_sub str9 (by omega) (by have : digs.size = 10 := rfl; omega)
  have sz : ∀ e : Nat, e ≤ 9 → (digs.extract e (e + 1)).size = 1 := fun e he => by
    have : digs.size = 10 := rfl
    simp [ByteArray.size_extract]; omega
  by_cases hneg : d < 0
  · have he : ∃ e : Nat, (e : Int) = -d ∧ e ≤ 9 := ⟨(-d).toNat, by omega, by omega⟩
    obtain ⟨e, he1, he2⟩ := he
    have hc := pure_cat (P := PR) (gl := glT) (ty := 9) (ty' := 9) (x := .tmp 22) (y := .tmp 23) (z := 9) (a := digs.extract e (e + 1)) (b := s) (by rw [sz e he2]; omega)
    refine ⟨_, sz e he2, fun r => ?_⟩
    exact round_next (n := 0) (keep := []) (ks := [0, 3, 4]) fitP [(10, .as _ _ hne), (14, .as (.sc (.int .i64 (m.tmod 10))) (i d) (iA hdd)), (16, .as (.sc (.bool (ltI d 0))) bT (by rw [ltI_eq]; simp [hneg, bT])),
      (18, .as (.sc (.int .i64 (IntKind.i64.wrap (0 - d)))) (i (e : Int)) (iA (by rw [IntWalk.i64_in _ (by omega)]; omega))), (21, .as _ _ (step_i (n := e) (by omega))), (22, .pure _ _ _ _ (fin e he2)), (24, .pure _ _ _ _ hc),
      (12, .as (.sc (.int .i64 (IntKind.i64.wrap (m.tdiv 10)))) (i (m.tdiv 10)) (iA hq))] (by kernel_rfl) gc_nil r
  · have he : ∃ e : Nat, (e : Int) = d ∧ e ≤ 9 := ⟨d.toNat, by omega, by omega⟩
    obtain ⟨e, he1, he2⟩ := he
    have hc := pure_cat (P := PR) (gl := glT) (ty := 9) (ty' := 9) (x := .tmp 22) (y := .tmp 23) (z := 9) (a := digs.extract e (e + 1)) (b := s) (by rw [sz e he2]; omega)
    refine ⟨_, sz e he2, fun r => ?_⟩
    exact round_next (n := 0) (keep := []) (ks := [0, 3, 4]) fitP [(10, .as _ _ hne), (14, .as (.sc (.int .i64 (m.tmod 10))) (i (e : Int)) (iA (by omega))), (16, .as (.sc (.bool (ltI (e : Int) 0))) bF (by rw [ltI_eq]; simp [bF])),
      (21, .as _ _ (step_i (n := e) (by omega))), (22, .pure _ _ _ _ (fin e he2)), (24, .pure _ _ _ _ hc),
      (12, .as (.sc (.int .i64 (IntKind.i64.wrap (m.tdiv 10)))) (i (m.tdiv 10)) (iA hq))] (by kernel_rfl) gc_nil r

theorem loop39 (n : Int) : ∀ (k : Nat) (m : Int) (s : ByteArray), m.natAbs < 10 ^ k → -9223372036854775808 ≤ m → m ≤ 9223372036854775807 → s.size + k ≤ 40 →
    ∃ s' : ByteArray, s'.size ≤ 40 ∧ Rounds PR glT (loopN Tryz.f39 0) (s39 n s m) [] (.exit 0) (s39X n s') [] := by
  intro k
  induction k with
  | zero =>
    intro m s hm _ _ hs
    have hm0 : m = 0 := by simp at hm; exact hm
    subst hm0
    exact ⟨s, by omega, round_exit (n := 0) (keep := []) (ks := [0, 3]) fitP [] (by kernel_rfl) (by simp) gc_nil⟩
  | succ k ih =>
    intro m s hm h1 h2 hs
    by_cases hm0 : m = 0
    · subst hm0
      exact ⟨s, by omega, round_exit (n := 0) (keep := []) (ks := [0, 3]) fitP [] (by kernel_rfl) (by simp) gc_nil⟩
    · obtain ⟨c, hc, hr⟩ := round39 n m s hm0 h1 h2 (by omega)
      obtain ⟨s', hs', r⟩ := ih (m.tdiv 10) (c ++ s) (tdiv_lt hm) (by have := tdiv_abs m; omega) (by have := tdiv_abs m; omega) (by rw [cat_size]; omega)
      exact ⟨s', hs', hr r⟩

theorem p19 : 10000000000000000000 ≤ (10 : Nat) ^ 19 := by decide
def minusS : ByteArray := ⟨#[45]⟩
theorem minus1 : minusS.size = 1 := rfl
theorem told39 (n : Int) (h1 : -9223372036854775808 ≤ n) (h2 : n ≤ 9223372036854775807) : ∃ s : ByteArray, s.size ≤ 50 ∧ ToldOK PR glT 39 [i n] (sb s) := by
  by_cases h0 : n = 0
  · subst h0
    exact ⟨⟨#[48]⟩, by decide, told_hint fitP [] (fn := Tryz.f39) (c := bodyOf Tryz.f39) (by kernel_rfl) (by kernel_rfl) (by kernel_rfl)⟩
  · have hne : AV.sc (.bool (eqI n 0)) = bF := by rw [eqI_eq]; simp [h0, bF]
    obtain ⟨s', hs', r⟩ := loop39 n 19 n ByteArray.empty (Nat.lt_of_lt_of_le (by omega) p19) h1 h2 (by decide)
    by_cases hneg : n < 0
    · have hc := pure_cat (P := PR) (gl := glT) (ty := 9) (ty' := 9) (x := .const (.string minusS)) (y := .tmp 27) (z := 9) (a := minusS) (b := s') (by rw [minus1]; omega)
      refine ⟨minusS ++ s', by rw [cat_size, minus1]; omega, ?_⟩
      exact told_hint fitP [(7, .as _ _ hne), (0, .loop [0, 3, 4] _ _ _ _ _ _ r.ok), (26, .as (.sc (.bool (ltI n 0))) bT (by rw [ltI_eq]; simp [hneg, bT])), (28, .pure _ _ _ _ hc)] (fn := Tryz.f39) (c := bodyOf Tryz.f39) (by kernel_rfl) (by kernel_rfl) (by kernel_rfl)
    · refine ⟨s', by omega, ?_⟩
      exact told_hint fitP [(7, .as _ _ hne), (0, .loop [0, 3, 4] _ _ _ _ _ _ r.ok), (26, .as (.sc (.bool (ltI n 0))) bF (by rw [ltI_eq]; simp [hneg, bF]))] (fn := Tryz.f39) (c := bodyOf Tryz.f39) (by kernel_rfl) (by kernel_rfl) (by kernel_rfl)
end Go.Proofs.YtjbbhpfoohpbkaaGreatDoor

open Go Go.Xv
namespace Go.Proofs.YtjbbhpfoohpbkaaGreatDoor
theorem tC2 : tC.size = 2 := rfl
def xC : ByteArray := ⟨#[120, 58]⟩
theorem xC2 : xC.size = 2 := rfl
/-- What came in is no longer than memory. -/
structure RsOK (r : Res) : Prop where
  ts : TsOK r.ts
  ps : r.ps.length ≤ 10
  tl : r.ts.length ≤ 10
  cs : r.cs.length ≤ 10
  xs : r.xs.length ≤ 10
  why : ∀ x ∈ r.xs, -9223372036854775808 ≤ x.why ∧ x.why ≤ 9223372036854775807

def hasR (id : ByteArray) (t : Trip) : Bool := (nonE t.legs).any fun y => eqS y id
def goesR (c : Chg) (id : ByteArray) (t : Trip) : Bool := eqS (tC ++ t.id) c.key && hasR id t

def L20 (r : Res) : List Blk := [.cells r.cells]
/-- ids, place in them -/
def s20c (id : ByteArray) (acc : List ByteArray) (ci k : Nat) (b : Bool) (ids : List ByteArray) (m : Nat) : Tmps :=
  tm 97 [(1, sb id), (2, .ptr 0 6 0), (5, .fz true 1 (sbs acc)), (6, i ci), (7, .sc (.bool b)), (8, i k), (9, .fz true 1 (sbs ids)), (10, i m)]
def s20b (id : ByteArray) (acc : List ByteArray) (ci k : Nat) (b : Bool) : Tmps :=
  tm 97 [(1, sb id), (2, .ptr 0 6 0), (5, .fz true 1 (sbs acc)), (6, i ci), (7, .sc (.bool b)), (8, i k)]
def s20x (id : ByteArray) (acc : List ByteArray) (ci : Nat) (b : Bool) : Tmps :=
  tm 97 [(1, sb id), (2, .ptr 0 6 0), (5, .fz true 1 (sbs acc)), (6, i ci), (7, .sc (.bool b))]
def s20a (id : ByteArray) (acc : List ByteArray) (ci : Nat) : Tmps :=
  tm 97 [(1, sb id), (2, .ptr 0 6 0), (5, .fz true 1 (sbs acc)), (6, i ci)]
def s20d (id : ByteArray) (acc : List ByteArray) (n : Nat) : Tmps :=
  tm 97 [(1, sb id), (2, .ptr 0 6 0), (5, .fz true 1 (sbs acc)), (11, i n)]
def s20y (id : ByteArray) (acc : List ByteArray) : Tmps :=
  tm 97 [(1, sb id), (2, .ptr 0 6 0), (5, .fz true 1 (sbs acc))]
theorem gc20 (ρ : Nat → Option Nat) (r : Res) : gcOK ρ (L20 r) (L20 r) := ⟨.inr rfl, trivial⟩

theorem loop20c (r : Res) (id : ByteArray) (acc : List ByteArray) (ci k : Nat) (ids : List ByteArray) (hb : ids.length ≤ 4000000000000) : ∀ (rest pre : List ByteArray) (b : Bool), ids = pre ++ rest →
    Rounds PR glT (loopN Tryz.f20 2) (s20c id acc ci k b ids pre.length) (L20 r) (.exit 4) (s20b id acc ci k (b || rest.any fun y => eqS y id)) (L20 r)
  | [], pre, b, h => by
    rw [List.append_nil] at h
    rw [List.any_nil, Bool.or_false]
    exact round_exit (n := 1) (keep := []) (ks := [1, 2, 5, 6, 7, 8]) fitP [(49, .as _ _ (len_map (f := fun x => AV.sc (.string x)) ids)), (50, .as _ _ (lt_f (m := pre.length) (n := ids.length) (by rw [h]; exact Nat.le_refl _)))] (by kernel_rfl) (by simp) (gc20 _ r)
  | y :: rest, pre, b, h => by
    have hix := pure_index (gl := glT) (own := true) (ty := 34) (ty' := 0) (x := .tmp 55) (y := .tmp 56) (k := .i64) sl34 (at_map (f := fun x => AV.sc (.string x)) h)
    have hlt := lt_of h
    have ih := fun b => loop20c r id acc ci k ids hb rest (pre ++ [y]) b (by rw [h]; simp)
    rw [len_snoc] at ih
    rw [List.any_cons]
    cases b with
    | true =>
      exact round_next (n := 1) (keep := []) (ks := [1, 2, 5, 6, 7, 8, 9, 10]) fitP [(49, .as _ _ (len_map (f := fun x => AV.sc (.string x)) ids)), (50, .as _ _ (lt_t hlt)), (52, .as _ _ (step_i (n := pre.length) (by omega)))] (by kernel_rfl) (gc20 _ r) (ih true)
    | false =>
      exact round_next (n := 1) (keep := []) (ks := [1, 2, 5, 6, 7, 8, 9, 10]) fitP [(49, .as _ _ (len_map (f := fun x => AV.sc (.string x)) ids)), (50, .as _ _ (lt_t hlt)), (57, .pure _ _ _ _ hix), (52, .as _ _ (step_i (n := pre.length) (by omega)))] (by kernel_rfl) (gc20 _ r) (ih (eqS y id))

theorem loop20b (r : Res) (hr : RsOK r) (id : ByteArray) (acc : List ByteArray) (c : Chg) (cpre crest : List Chg) (hc : r.cs = cpre ++ c :: crest) : ∀ (rest pre : List Trip) (b : Bool), r.ts = pre ++ rest →
    Rounds PR glT (loopN Tryz.f20 1) (s20b id acc cpre.length pre.length b) (L20 r) (.exit 2) (s20x id acc cpre.length (b || rest.any (goesR c id))) (L20 r)
  | [], pre, b, h => by
    rw [List.append_nil] at h
    rw [List.any_nil, Bool.or_false]
    exact round_exit (n := 1) (keep := []) (ks := [1, 2, 5, 6, 7]) fitP [(23, .as _ _ (len_map (f := Trip.av) r.ts)), (24, .as _ _ (lt_f (m := pre.length) (n := r.ts.length) (by rw [h]; exact Nat.le_refl _)))] (by kernel_rfl) (by simp) (gc20 _ r)
  | t :: rest, pre, b, h => by
    have hix : ∀ a b, PureOK PR glT (.indexAddr 27 a b) 0 [.fz false 5 (r.ts.map Trip.av), .sc (.int .i64 (pre.length : Int))] (.cp false t.av.cells 0) := fun a b => pure_index sl27 (at_map (f := Trip.av) h)
    have hcx : ∀ a b, PureOK PR glT (.indexAddr 29 a b) 0 [.fz false 7 (r.cs.map Chg.av), .sc (.int .i64 (cpre.length : Int))] (.cp false c.av.cells 0) := fun a b => pure_index sl29 (at_map (f := Chg.av) hc)
    have hlt := lt_of h
    have ht := hr.ts.ok t (by rw [h]; simp)
    have hcat := pure_cat (P := PR) (gl := glT) (ty := 9) (ty' := 9) (x := .const (.string tC)) (y := .tmp 32) (z := 9) (a := tC) (b := t.id) (by rw [tC2]; omega)
    have htl := hr.tl
    have ih := fun b => loop20b r hr id acc c cpre crest hc rest (pre ++ [t]) b (by rw [h]; simp)
    rw [len_snoc] at ih
    rw [List.any_cons]
    cases he : eqS (tC ++ t.id) c.key with
    | false =>
      have ih := ih b
      have e : goesR c id t = false := by unfold goesR; rw [he]; rfl
      rw [e, Bool.false_or]
      exact round_next (n := 1) (keep := []) (ks := [1, 2, 5, 6, 7, 8]) fitP [(23, .as _ _ (len_map (f := Trip.av) r.ts)), (24, .as _ _ (lt_t hlt)), (30, .pure _ _ _ _ (hix (.tmp 28) (.tmp 29))), (33, .pure _ _ _ _ hcat), (37, .pure _ _ _ _ (hcx (.tmp 35) (.tmp 36))),
        (40, .as (.sc (.bool (!eqS (tC ++ t.id) c.key))) bT (bT_of (by rw [he]; rfl))), (26, .as _ _ (step_i (n := pre.length) (by omega)))] (by kernel_rfl) (gc20 _ r) ih
    | true =>
      have ih := ih (b || hasR id t)
      have e : goesR c id t = hasR id t := by unfold goesR; rw [he]; rfl
      rw [e, ← Bool.or_assoc]
      have lp := (loop20c r id acc cpre.length pre.length (nonE t.legs) (by have := nonE_le t.legs; omega) (nonE t.legs) [] b rfl).ok
      exact round_next (n := 1) (keep := []) (ks := [1, 2, 5, 6, 7, 8]) fitP [(23, .as _ _ (len_map (f := Trip.av) r.ts)), (24, .as _ _ (lt_t hlt)), (30, .pure _ _ _ _ (hix (.tmp 28) (.tmp 29))), (33, .pure _ _ _ _ hcat), (37, .pure _ _ _ _ (hcx (.tmp 35) (.tmp 36))),
        (40, .as (.sc (.bool (!eqS (tC ++ t.id) c.key))) bF (bF_of (by rw [he]; rfl))), (43 + 1, .pure _ _ _ _ (hix (.tmp 42) (.tmp 43))), (46, .call _ _ _ (told37 t ht.1)), (0, .loop [1, 2, 5, 6, 7, 8, 9, 10] _ _ _ _ _ _ lp), (26, .as _ _ (step_i (n := pre.length) (by omega)))] (by kernel_rfl) (gc20 _ r) ih

def cntC (r : Res) (id : ByteArray) (l : List Chg) : Nat := (l.filter fun c => r.ts.any (goesR c id)).length
def cntX (id : ByteArray) (l : List Exc) : Nat := (l.filter fun x => eqS x.id id).length

theorem loop20a (r : Res) (hr : RsOK r) (id : ByteArray) : ∀ (rest pre : List Chg) (acc : List ByteArray), r.cs = pre ++ rest → acc.length ≤ pre.length →
    ∃ acc' : List ByteArray, acc'.length = acc.length + cntC r id rest ∧ Rounds PR glT (loopN Tryz.f20 0) (s20a id acc pre.length) (L20 r) (.exit 0) (s20y id acc') (L20 r)
  | [], pre, acc, h, ha => by
    rw [List.append_nil] at h
    refine ⟨acc, rfl, ?_⟩
    exact round_exit (n := 1) (keep := []) (ks := [1, 2, 5]) fitP [(16, .as _ _ (len_map (f := Chg.av) r.cs)), (17, .as _ _ (lt_f (m := pre.length) (n := r.cs.length) (by rw [h]; exact Nat.le_refl _)))] (by kernel_rfl) (by simp) (gc20 _ r)
  | c :: rest, pre, acc, h, ha => by
    have hcx : ∀ a b, PureOK PR glT (.indexAddr 29 a b) 0 [.fz false 7 (r.cs.map Chg.av), .sc (.int .i64 (pre.length : Int))] (.cp false c.av.cells 0) := fun a b => pure_index sl29 (at_map (f := Chg.av) h)
    have hlt := lt_of h
    have hcl := hr.cs
    have lp := (loop20b r hr id acc c pre rest h r.ts [] false rfl).ok
    rw [Bool.false_or] at lp
    cases he : r.ts.any (goesR c id) with
    | false =>
      rw [he] at lp
      obtain ⟨acc', h1, ih⟩ := loop20a r hr id rest (pre ++ [c]) acc (by rw [h]; simp) (by simp; omega)
      rw [len_snoc] at ih
      refine ⟨acc', by rw [h1]; simp [cntC, he], ?_⟩
      exact round_next (n := 1) (keep := []) (ks := [1, 2, 5, 6]) fitP [(16, .as _ _ (len_map (f := Chg.av) r.cs)), (17, .as _ _ (lt_t hlt)), (0, .loop [1, 2, 5, 6, 7, 8] _ _ _ _ _ _ lp), (19, .as _ _ (step_i (n := pre.length) (by omega)))] (by kernel_rfl) (gc20 _ r) ih
    | true =>
      rw [he] at lp
      obtain ⟨a2, g1, g2⟩ := told38 true acc c.key (by omega)
      obtain ⟨acc', h1, ih⟩ := loop20a r hr id rest (pre ++ [c]) a2 (by rw [h]; simp) (by simp; omega)
      rw [len_snoc] at ih
      refine ⟨acc', by rw [h1, g1]; simp [cntC, he]; omega, ?_⟩
      exact round_next (n := 1) (keep := []) (ks := [1, 2, 5, 6]) fitP [(16, .as _ _ (len_map (f := Chg.av) r.cs)), (17, .as _ _ (lt_t hlt)), (0, .loop [1, 2, 5, 6, 7, 8] _ _ _ _ _ _ lp), (67, .pure _ _ _ _ (hcx (.tmp 65) (.tmp 66))), (70, .call _ _ _ g2), (19, .as _ _ (step_i (n := pre.length) (by omega)))] (by kernel_rfl) (gc20 _ r) ih

theorem loop20d (r : Res) (hr : RsOK r) (id : ByteArray) : ∀ (rest pre : List Exc) (acc : List ByteArray), r.xs = pre ++ rest → acc.length ≤ 10 + pre.length →
    ∃ acc' : List ByteArray, acc'.length = acc.length + cntX id rest ∧ Rounds PR glT (loopN Tryz.f20 3) (s20d id acc pre.length) (L20 r) (.exit 6) (s20y id acc') (L20 r)
  | [], pre, acc, h, ha => by
    rw [List.append_nil] at h
    refine ⟨acc, rfl, ?_⟩
    exact round_exit (n := 1) (keep := []) (ks := [1, 2, 5]) fitP [(74, .as _ _ (len_map (f := Exc.av) r.xs)), (75, .as _ _ (lt_f (m := pre.length) (n := r.xs.length) (by rw [h]; exact Nat.le_refl _)))] (by kernel_rfl) (by simp) (gc20 _ r)
  | x :: rest, pre, acc, h, ha => by
    have hix : ∀ a b, PureOK PR glT (.indexAddr 30 a b) 0 [.fz false 2 (r.xs.map Exc.av), .sc (.int .i64 (pre.length : Int))] (.cp false x.av.cells 0) := fun a b => pure_index sl30 (at_map (f := Exc.av) h)
    have hlt := lt_of h
    have hxl := hr.xs
    cases he : eqS x.id id with
    | false =>
      obtain ⟨acc', h1, ih⟩ := loop20d r hr id rest (pre ++ [x]) acc (by rw [h]; simp) (by simp; omega)
      rw [len_snoc] at ih
      refine ⟨acc', by rw [h1]; simp [cntX, he], ?_⟩
      exact round_next (n := 1) (keep := []) (ks := [1, 2, 5, 11]) fitP [(74, .as _ _ (len_map (f := Exc.av) r.xs)), (75, .as _ _ (lt_t hlt)), (81, .pure _ _ _ _ (hix (.tmp 79) (.tmp 80))), (85, .as _ _ (bF_of he)), (77, .as _ _ (step_i (n := pre.length) (by omega)))] (by kernel_rfl) (gc20 _ r) ih
    | true =>
      obtain ⟨w1, w2⟩ := hr.why x (by rw [h]; simp)
      obtain ⟨fs, f1, f2⟩ := told39 x.why w1 w2
      have hcat := pure_cat (P := PR) (gl := glT) (ty := 9) (ty' := 9) (x := .const (.string xC)) (y := .tmp 93) (z := 9) (a := xC) (b := fs) (by rw [xC2]; omega)
      obtain ⟨a2, g1, g2⟩ := told38 true acc (xC ++ fs) (by omega)
      obtain ⟨acc', h1, ih⟩ := loop20d r hr id rest (pre ++ [x]) a2 (by rw [h]; simp) (by simp; omega)
      rw [len_snoc] at ih
      refine ⟨acc', by rw [h1, g1]; simp [cntX, he]; omega, ?_⟩
      exact round_next (n := 1) (keep := []) (ks := [1, 2, 5, 11]) fitP [(74, .as _ _ (len_map (f := Exc.av) r.xs)), (75, .as _ _ (lt_t hlt)), (81, .pure _ _ _ _ (hix (.tmp 79) (.tmp 80))), (85, .as _ _ (bT_of he)), (90, .pure _ _ _ _ (hix (.tmp 88) (.tmp 89))),
        (93, .call _ _ _ f2), (94, .pure _ _ _ _ hcat), (95, .call _ _ _ g2), (77, .as _ _ (step_i (n := pre.length) (by omega)))] (by kernel_rfl) (gc20 _ r) ih

def s20in (id : ByteArray) : Tmps := tm 97 [(1, sb id), (2, .ptr 0 6 0), (5, .e0), (6, i 0)]
theorem weak20 (id : ByteArray) : WeakT (s20in id) (s20a id [] 0) := .same (.same (.same (.same (.same (.e0 (.refl _))))))
theorem told20 (r : Res) (hr : RsOK r) (id : ByteArray) : ∃ l : List ByteArray, l.length = cntC r id r.cs + cntX id r.xs ∧ ToldOK PR glT 20 [r.av, sb id] (.fz true 1 (sbs l)) := by
  obtain ⟨a1, h1, r1⟩ := loop20a r hr id r.cs [] [] rfl (Nat.le_refl _)
  have hc : cntC r id r.cs ≤ 10 := Nat.le_trans (List.length_filter_le _ _) hr.cs
  obtain ⟨a2, h2, r2⟩ := loop20d r hr id r.xs [] a1 rfl (by rw [h1]; simp; omega)
  refine ⟨a2, by rw [h2, h1]; simp, ?_⟩
  exact told_hint fitP [(0, .loop [1, 2, 5, 6] _ _ _ _ _ _ (code_weak (weak20 id) r1.ok)), (0, .loop [1, 2, 5, 11] _ _ _ _ _ _ r2.ok)] (fn := Tryz.f20) (c := bodyOf Tryz.f20) (by kernel_rfl) (by kernel_rfl) (by kernel_rfl)
end Go.Proofs.YtjbbhpfoohpbkaaGreatDoor

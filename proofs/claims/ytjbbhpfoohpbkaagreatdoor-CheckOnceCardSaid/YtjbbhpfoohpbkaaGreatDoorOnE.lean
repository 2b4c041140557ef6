/- The program: Format, Sort and Fates; Once of both; CheckOnce answers true at each tree. No condition but lengths that memory allows. -/
import Derived.Test.YtjbbhpfoohpbkaaGreatDoorOnA
import Derived.Test.YtjbbhpfoohpbkaaGreatDoorXH
import Derived.Test.YtjbbhpfoohpbkaaGreatDoorLay
import Derived.Lib.ItoaLen
import Derived.Test.YtjbbhpfoohpbkaaGreatDoorOnC
set_option linter.all false
open Go Go.Xv
namespace Go.Proofs.YtjbbhpfoohpbkaaGreatDoor
theorem g1 : PR.globalNamed "internal/strconv.uint64pow10" = some 1 := by kernel_rfl
theorem p10 : pow10s = Lib.pow10Tab := by decide
theorem bd79 : Bodied PR 79 := ⟨Tryz.f79, by kernel_rfl, by kernel_rfl⟩
theorem bd36 : Bodied PR 36 := ⟨Tryz.f36, by kernel_rfl, by kernel_rfl⟩
theorem told79 (n : Int) (h1 : -9223372036854775808 ≤ n) (h2 : n ≤ 9223372036854775807) : ToldOK PR glT 79 [i n] (sb ⟨(Lib.itoa n).toArray⟩) :=
  told_grow (V := [.int .i64 n]) bd79 rfl fun w hg => by
    obtain ⟨L, a1, a2, a3⟩ := hg 1 _ (by rfl)
    have ht : Lib.TabIs PR w "internal/strconv.uint64pow10" .u64 Lib.pow10Tab := by
      rw [← p10]
      exact tab_of (zs := pow10s) ⟨L, a1, a2, a3⟩ g1
    exact Any.strconv_Itoa Tryz.laysItoa n h1 h2 w ht
theorem told35 (n : Int) (h1 : -9223372036854775808 ≤ n) (h2 : n ≤ 9223372036854775807) : ToldOK PR glT 35 [i n] (sb ⟨(Lib.itoa n).toArray⟩) :=
  told_hint fitP [(4, .call _ _ _ (told79 n h1 h2))] (fn := Tryz.f35) (c := bodyOf Tryz.f35) (by kernel_rfl) (by kernel_rfl) (by kernel_rfl)
theorem sort36 : SortC PR 36 := fun blk off cap ss w hH hb hs => Any.slices_Sort_string Tryz.laysSort blk off cap ss w hH hb hs
theorem shared36 {L : List Blk} {b : Nat} {l : List ByteArray} (hL : hget L b = .cells (sbs l)) (hn : l.length < 4611686018427387904) (hbl : b < L.length) :
    ∃ l' : List ByteArray, l'.length = l.length ∧ SharedOK PR glT 36 [.sl 1 false b 0 l.length l.length] L (.tup []) (L.set b (.cells (sbs l'))) :=
  ⟨_, by simp, shared_sort bd36 sort36 hL hn hbl⟩
theorem told36nil : ToldOK PR glT 36 [nS] (.tup []) :=
  ⟨bd36, rfl, row_ok (T := []) tab_nil ext_none fitP.ng fitP.mo (md := mdT) (N := 100) (d := 12) (by kernel_rfl)⟩
end Go.Proofs.YtjbbhpfoohpbkaaGreatDoor

open Go Go.Xv
namespace Go.Proofs.YtjbbhpfoohpbkaaGreatDoor
def H19 (r : Res) (id : ByteArray) (acc : List ByteArray) : List Blk := .cells r.cells :: .cells [sb id] :: accH acc
def s19a (r : Res) (A : AV) (n : Nat) : Tmps := tm 49 [(2, .ptr 0 6 0), (3, .ptr 1 1 0), (5, A), (11, .fz false 7 (r.cs.map Chg.av)), (12, i r.cs.length), (13, i n)]
def s19b (r : Res) (A : AV) (n : Nat) : Tmps := tm 49 [(2, .ptr 0 6 0), (3, .ptr 1 1 0), (5, A), (28, .fz false 2 (r.xs.map Exc.av)), (29, i r.xs.length), (30, i n)]
def s19x (A : AV) : Tmps := tm 49 [(2, .ptr 0 6 0), (3, .ptr 1 1 0), (5, A)]
theorem gc19 (ρ : Nat → Option Nat) (r : Res) (id : ByteArray) : ∀ acc, gcOK ρ (H19 r id acc) (H19 r id acc)
  | [] => ⟨.inr rfl, .inr rfl, trivial⟩
  | a :: l => ⟨.inr rfl, .inr rfl, .inr (by simp only [renB, renL_sc]; rfl), trivial⟩
def cntP (r : Res) (id : ByteArray) (l : List Chg) : Nat := (l.filter fun c => r.ts.any (goes c id)).length

theorem loop19a (r : Res) (hr : RsOK r) (id : ByteArray) : ∀ (rest pre : List Chg) (acc : List ByteArray), r.cs = pre ++ rest → acc.length ≤ pre.length →
    ∃ acc' : List ByteArray, acc'.length = acc.length + cntP r id rest ∧ Rounds PR glT (loopN Tryz.f19 0) (s19a r (accA 2 acc) pre.length) (H19 r id acc) (.exit 0) (s19x (accA 2 acc')) (H19 r id acc')
  | [], pre, acc, h, ha => by
    rw [List.append_nil] at h
    refine ⟨acc, rfl, ?_⟩
    have hge : r.cs.length ≤ pre.length := by rw [h]; exact Nat.le_refl _
    cases acc with
    | nil => exact round_exit (n := 2) (keep := []) (ks := [2, 3, 5]) fitP [(14, .as _ _ (lt_f (m := pre.length) (n := r.cs.length) hge))] (by kernel_rfl) (by simp) (gc19 _ r id [])
    | cons a l => exact round_exit (n := 3) (keep := []) (ks := [2, 3, 5]) fitP [(14, .as _ _ (lt_f (m := pre.length) (n := r.cs.length) hge))] (by kernel_rfl) (by simp) (gc19 _ r id (a :: l))
  | c :: rest, pre, acc, h, ha => by
    have hcx := pure_index (gl := glT) (own := false) (ty := 29) (ty' := 0) (x := .tmp 11) (y := .tmp 13) (k := .i64) sl29 (at_map (f := Chg.av) h)
    have hlt := lt_of h
    have hcl := hr.cs
    have hst := step_i (n := pre.length) (by omega)
    have htl := hr.tl
    have ht := told31 r.ts (by omega) c id hr.ts
    cases he : r.ts.any (goes c id) with
    | false =>
      rw [he] at ht
      obtain ⟨acc', h1, ih⟩ := loop19a r hr id rest (pre ++ [c]) acc (by rw [h]; simp) (by simp; omega)
      rw [len_snoc] at ih
      refine ⟨acc', by rw [h1]; simp [cntP, he], ?_⟩
      cases acc with
      | nil => exact round_next (n := 2) (keep := []) (ks := [2, 3, 5, 11, 12, 13]) fitP [(14, .as _ _ (lt_t hlt)), (15, .pure _ _ _ _ hcx), (20, .call _ _ _ ht), (26, .as _ _ hst)] (by kernel_rfl) (gc19 _ r id []) ih
      | cons a l => exact round_next (n := 3) (keep := []) (ks := [2, 3, 5, 11, 12, 13]) fitP [(14, .as _ _ (lt_t hlt)), (15, .pure _ _ _ _ hcx), (20, .call _ _ _ ht), (26, .as _ _ hst)] (by kernel_rfl) (gc19 _ r id (a :: l)) ih
    | true =>
      rw [he] at ht
      obtain ⟨acc', h1, ih⟩ := loop19a r hr id rest (pre ++ [c]) (acc ++ [c.key]) (by rw [h]; simp) (by simp; omega)
      rw [len_snoc] at ih
      refine ⟨acc', by rw [h1]; simp [cntP, he]; omega, ?_⟩
      cases acc with
      | nil => exact round_next (n := 2) (keep := [4]) (ks := [2, 3, 5, 11, 12, 13]) fitP [(14, .as _ _ (lt_t hlt)), (15, .pure _ _ _ _ hcx), (20, .call _ _ _ ht), (26, .as _ _ hst)] (by kernel_rfl) (gc19 _ r id [c.key]) ih
      | cons a l =>
        rw [accA_snoc] at ih
        have happ := app1 (ty := 34) (x := .tmp 21) (y := .tmp 24) (b := 2) (b2 := 4) (a := a) (p := c.key) (l := l) (L := [.cells r.cells, .cells [sb id], .cells (sbs (a :: l)), .cells c.cells, .cells [sb c.key]]) rfl rfl (by simp at ha; omega)
        rw [sbs_snoc] at happ
        exact round_next (n := 3) (keep := []) (ks := [2, 3, 5, 11, 12, 13]) fitP [(14, .as _ _ (lt_t hlt)), (15, .pure _ _ _ _ hcx), (20, .call _ _ _ ht), (25, .eff _ _ _ _ _ happ), (26, .as _ _ hst)] (by kernel_rfl) (gc19 _ r id (a :: (l ++ [c.key]))) ih

theorem itoa_size (n : Int) (h1 : -9223372036854775808 ≤ n) (h2 : n ≤ 9223372036854775807) : (⟨(Lib.itoa n).toArray⟩ : ByteArray).size ≤ 21 := by
  have := Lib.itoa_length_le n h1 h2
  simpa [ByteArray.size] using this

theorem loop19b (r : Res) (hr : RsOK r) (id : ByteArray) : ∀ (rest pre : List Exc) (acc : List ByteArray), r.xs = pre ++ rest → acc.length ≤ 10 + pre.length →
    ∃ acc' : List ByteArray, acc'.length = acc.length + cntX id rest ∧ Rounds PR glT (loopN Tryz.f19 1) (s19b r (accA 2 acc) pre.length) (H19 r id acc) (.exit 2) (s19x (accA 2 acc')) (H19 r id acc')
  | [], pre, acc, h, ha => by
    rw [List.append_nil] at h
    refine ⟨acc, rfl, ?_⟩
    have hge : r.xs.length ≤ pre.length := by rw [h]; exact Nat.le_refl _
    cases acc with
    | nil => exact round_exit (n := 2) (keep := []) (ks := [2, 3, 5]) fitP [(31, .as _ _ (lt_f (m := pre.length) (n := r.xs.length) hge))] (by kernel_rfl) (by simp) (gc19 _ r id [])
    | cons a l => exact round_exit (n := 3) (keep := []) (ks := [2, 3, 5]) fitP [(31, .as _ _ (lt_f (m := pre.length) (n := r.xs.length) hge))] (by kernel_rfl) (by simp) (gc19 _ r id (a :: l))
  | x :: rest, pre, acc, h, ha => by
    have hix := pure_index (gl := glT) (own := false) (ty := 30) (ty' := 0) (x := .tmp 28) (y := .tmp 30) (k := .i64) sl30 (at_map (f := Exc.av) h)
    have hlt := lt_of h
    have hxl := hr.xs
    have hst := step_i (n := pre.length) (by omega)
    cases he : eqS x.id id with
    | false =>
      obtain ⟨acc', h1, ih⟩ := loop19b r hr id rest (pre ++ [x]) acc (by rw [h]; simp) (by simp; omega)
      rw [len_snoc] at ih
      refine ⟨acc', by rw [h1]; simp [cntX, he], ?_⟩
      cases acc with
      | nil => exact round_next (n := 2) (keep := []) (ks := [2, 3, 5, 28, 29, 30]) fitP [(31, .as _ _ (lt_t hlt)), (32, .pure _ _ _ _ hix), (37, .as _ _ (bF_of he)), (45, .as _ _ hst)] (by kernel_rfl) (gc19 _ r id []) ih
      | cons a l => exact round_next (n := 3) (keep := []) (ks := [2, 3, 5, 28, 29, 30]) fitP [(31, .as _ _ (lt_t hlt)), (32, .pure _ _ _ _ hix), (37, .as _ _ (bF_of he)), (45, .as _ _ hst)] (by kernel_rfl) (gc19 _ r id (a :: l)) ih
    | true =>
      obtain ⟨w1, w2⟩ := hr.why x (by rw [h]; simp)
      have f2 := told35 x.why w1 w2
      have f1 := itoa_size x.why w1 w2
      generalize (⟨(Lib.itoa x.why).toArray⟩ : ByteArray) = fs at f1 f2
      have hcat := pure_cat (P := PR) (gl := glT) (ty := 9) (ty' := 9) (x := .const (.string xC)) (y := .tmp 41) (z := 9) (a := xC) (b := fs) (by rw [xC2]; omega)
      obtain ⟨acc', h1, ih⟩ := loop19b r hr id rest (pre ++ [x]) (acc ++ [xC ++ fs]) (by rw [h]; simp) (by simp; omega)
      rw [len_snoc] at ih
      refine ⟨acc', by rw [h1]; simp [cntX, he]; omega, ?_⟩
      cases acc with
      | nil => exact round_next (n := 2) (keep := [4]) (ks := [2, 3, 5, 28, 29, 30]) fitP [(31, .as _ _ (lt_t hlt)), (32, .pure _ _ _ _ hix), (37, .as _ _ (bT_of he)), (41, .call _ _ _ f2), (42, .pure _ _ _ _ hcat), (45, .as _ _ hst)] (by kernel_rfl) (gc19 _ r id [xC ++ fs]) ih
      | cons a l =>
        rw [accA_snoc] at ih
        have happ := app1 (ty := 34) (x := .tmp 38) (y := .tmp 43) (b := 2) (b2 := 4) (a := a) (p := xC ++ fs) (l := l) (L := [.cells r.cells, .cells [sb id], .cells (sbs (a :: l)), .cells x.cells, .cells [sb (xC ++ fs)]]) rfl rfl (by simp at ha; omega)
        rw [sbs_snoc] at happ
        exact round_next (n := 3) (keep := []) (ks := [2, 3, 5, 28, 29, 30]) fitP [(31, .as _ _ (lt_t hlt)), (32, .pure _ _ _ _ hix), (37, .as _ _ (bT_of he)), (41, .call _ _ _ f2), (42, .pure _ _ _ _ hcat), (44, .eff _ _ _ _ _ happ), (45, .as _ _ hst)] (by kernel_rfl) (gc19 _ r id (a :: (l ++ [xC ++ fs]))) ih

theorem told19 (r : Res) (hr : RsOK r) (id : ByteArray) : ∃ l : List ByteArray, l.length = cntP r id r.cs + cntX id r.xs ∧ ToldOK PR glT 19 [r.av, sb id] (.fz true 1 (sbs l)) := by
  obtain ⟨a1, h1, r1⟩ := loop19a r hr id r.cs [] [] rfl (Nat.le_refl _)
  have hc : cntP r id r.cs ≤ 10 := Nat.le_trans (List.length_filter_le _ _) hr.cs
  obtain ⟨a2, h2, r2⟩ := loop19b r hr id r.xs [] a1 rfl (by rw [h1]; simp; omega)
  have hx : cntX id r.xs ≤ 10 := Nat.le_trans (List.length_filter_le _ _) hr.xs
  have hlen : a2.length = cntP r id r.cs + cntX id r.xs := by rw [h2, h1]; simp
  rw [← hlen]
  cases a1 with
  | nil =>
    cases a2 with
    | nil =>
      refine ⟨[], rfl, ToldOK.nil 1 ?_⟩
      exact told_hint fitP [(12, .as _ _ (len_map (f := Chg.av) r.cs)), (0, .loop [2, 3, 5, 11, 12, 13] _ _ _ _ _ _ r1.ok), (29, .as _ _ (len_map (f := Exc.av) r.xs)), (0, .loop [2, 3, 5, 28, 29, 30] _ _ _ _ _ _ r2.ok), (47, .call _ _ _ told36nil)] (fn := Tryz.f19) (c := bodyOf Tryz.f19) (by kernel_rfl) (by kernel_rfl) (by kernel_rfl)
    | cons b l2 =>
      obtain ⟨l', hl', hs⟩ := shared36 (L := [.cells r.cells, .cells [sb id], .cells (sbs (b :: l2))]) (b := 2) (l := b :: l2) rfl (by omega) (by simp)
      refine ⟨l', hl', ?_⟩
      exact told_deep fitP (v1 := .sl 1 false 2 0 (l2.length + 1) (l2.length + 1)) (L1 := [.cells r.cells, .cells [sb id], .cells (sbs l')]) [(12, .as _ _ (len_map (f := Chg.av) r.cs)), (0, .loop [2, 3, 5, 11, 12, 13] _ _ _ _ _ _ r1.ok), (29, .as _ _ (len_map (f := Exc.av) r.xs)), (0, .loop [2, 3, 5, 28, 29, 30] _ _ _ _ _ _ r2.ok), (47, .callS _ _ _ _ _ hs)] (fn := Tryz.f19) (c := bodyOf Tryz.f19) (by kernel_rfl) (by kernel_rfl) (by kernel_rfl)
        (deep_sl (fun x => Value.string x) l' 22 rfl (by rw [hl']; rfl)) rfl
  | cons a l =>
    cases a2 with
    | nil =>
      simp only [List.length_nil, List.length_cons] at h2
      omega
    | cons b l2 =>
      obtain ⟨l', hl', hs⟩ := shared36 (L := [.cells r.cells, .cells [sb id], .cells (sbs (b :: l2))]) (b := 2) (l := b :: l2) rfl (by omega) (by simp)
      refine ⟨l', hl', ?_⟩
      exact told_deep fitP (v1 := .sl 1 false 2 0 (l2.length + 1) (l2.length + 1)) (L1 := [.cells r.cells, .cells [sb id], .cells (sbs l')]) [(12, .as _ _ (len_map (f := Chg.av) r.cs)), (0, .loop [2, 3, 5, 11, 12, 13] _ _ _ _ _ _ r1.ok), (29, .as _ _ (len_map (f := Exc.av) r.xs)), (0, .loop [2, 3, 5, 28, 29, 30] _ _ _ _ _ _ r2.ok), (47, .callS _ _ _ _ _ hs)] (fn := Tryz.f19) (c := bodyOf Tryz.f19) (by kernel_rfl) (by kernel_rfl) (by kernel_rfl)
        (deep_sl (fun x => Value.string x) l' 22 rfl (by rw [hl']; rfl)) rfl
end Go.Proofs.YtjbbhpfoohpbkaaGreatDoor

open Go Go.Xv
namespace Go.Proofs.YtjbbhpfoohpbkaaGreatDoor
def fates (r : Res) (id : ByteArray) : Nat := cntP r id r.cs + cntX id r.xs
def allOK (r : Res) : List Pas → List Pas → Bool
  | _, [] => true
  | pre, p :: rest => if pre.any (sameId p) = true then false else if eqI (fates r p.id : Nat) 1 = true then allOK r (pre ++ [p]) rest else false

theorem eqS_comm (a b : ByteArray) : eqS a b = eqS b a := by
  unfold eqS
  rw [Bool.eq_iff_iff]
  simp only [beq_iff_eq]
  exact ⟨Eq.symm, Eq.symm⟩
theorem goes_eq (c : Chg) (id : ByteArray) (t : Trip) : goesR c id t = goes c id t := by
  unfold goesR goes hasR
  rw [eqS_comm c.key]
  have : (fun y => eqS y id) = eqS id := funext fun y => eqS_comm y id
  rw [this]
  cases eqS (tC ++ t.id) c.key <;> simp
theorem cnt_eq (r : Res) (id : ByteArray) (l : List Chg) : cntC r id l = cntP r id l := by
  unfold cntC cntP
  have : ∀ c, goesR c id = goes c id := fun c => funext (goes_eq c id)
  simp only [this]

def L8 (r : Res) : List Blk := [.cells r.cells]
theorem gc8 (ρ : Nat → Option Nat) (r : Res) : gcOK ρ (L8 r) (L8 r) := ⟨.inr rfl, trivial⟩
def s8 (r : Res) (n : Nat) : Tmps := tm 30 [(1, .ptr 0 6 0), (7, .fz false 8 (r.ps.map Pas.av)), (8, i r.ps.length), (9, i n)]

theorem loop8 (r : Res) (hr : RsOK r) : ∀ (rest pre : List Pas), r.ps = pre ++ rest →
    (allOK r pre rest = true ∧ Rounds PR glT (loopN Tryz.f8 0) (s8 r pre.length) (L8 r) (.exit 0) (at1 30 1 (.ptr 0 6 0)) (L8 r)) ∨
    (allOK r pre rest = false ∧ Rounds PR glT (loopN Tryz.f8 0) (s8 r pre.length) (L8 r) .ret (at1 30 2 bF) (L8 r))
  | [], pre, h => by
    rw [List.append_nil] at h
    have hge : r.ps.length ≤ pre.length := by rw [h]; exact Nat.le_refl _
    exact .inl ⟨rfl, round_exit (n := 1) (keep := []) (ks := [1]) fitP [(10, .as _ _ (lt_f (m := pre.length) (n := r.ps.length) hge))] (by kernel_rfl) (by simp) (gc8 _ r)⟩
  | p :: rest, pre, h => by
    have hix := pure_index (gl := glT) (own := false) (ty := 25) (ty' := 0) (x := .tmp 7) (y := .tmp 9) (k := .i64) sl25 (at_map (f := Pas.av) h)
    have hlt := lt_of h
    have hpl := hr.ps
    have hst := step_i (n := pre.length) (by omega)
    have hto := pure_to (P := PR) (gl := glT) (ty := 25) (ty' := 25) (x := .tmp 16) (y := .tmp 17) (own := false) (s := 8) (n := pre.length) (k := .i64) (es := r.ps.map Pas.av) sl25 (by rw [List.length_map]; omega)
    have et : (r.ps.map Pas.av).take pre.length = pre.map Pas.av := by rw [h]; simp
    rw [et] at hto
    have ht := told18 pre (by omega) p
    unfold allOK
    cases he : pre.any (sameId p) with
    | true =>
      rw [he] at ht
      refine .inr ⟨rfl, ?_⟩
      exact round_exit (n := 1) (keep := []) (ks := [2]) fitP [(10, .as _ _ (lt_t hlt)), (12, .pure _ _ _ _ hix), (18, .pure _ _ _ _ hto), (20, .call _ _ _ ht)] (by kernel_rfl) (by simp) (gc8 _ r)
    | false =>
      rw [he] at ht
      obtain ⟨l, hl, hf⟩ := told19 r hr p.id
      have hlen : AV.sc (.int .i64 ((sbs l).length : Int)) = i (fates r p.id) := by rw [len_map, hl]; rfl
      simp only [Bool.false_eq_true, if_false]
      cases hq : eqI (fates r p.id : Nat) 1 with
      | false =>
        refine .inr ⟨rfl, ?_⟩
        exact round_exit (n := 1) (keep := []) (ks := [2]) fitP [(10, .as _ _ (lt_t hlt)), (12, .pure _ _ _ _ hix), (18, .pure _ _ _ _ hto), (20, .call _ _ _ ht), (25, .call _ _ _ hf), (26, .as _ _ hlen), (27, .as (.sc (.bool (!eqI (fates r p.id : Nat) 1))) bT (bT_of (by rw [hq]; rfl)))] (by kernel_rfl) (by simp) (gc8 _ r)
      | true =>
        have ih := loop8 r hr rest (pre ++ [p]) (by rw [h]; simp)
        rw [len_snoc] at ih
        simp only [if_true]
        have next : ∀ {x' : Ex} {t' : Tmps}, Rounds PR glT (loopN Tryz.f8 0) (s8 r (pre.length + 1)) (L8 r) x' t' (L8 r) → Rounds PR glT (loopN Tryz.f8 0) (s8 r pre.length) (L8 r) x' t' (L8 r) := fun q =>
          round_next (n := 1) (keep := []) (ks := [1, 7, 8, 9]) fitP [(10, .as _ _ (lt_t hlt)), (12, .pure _ _ _ _ hix), (18, .pure _ _ _ _ hto), (20, .call _ _ _ ht), (25, .call _ _ _ hf), (26, .as _ _ hlen), (27, .as (.sc (.bool (!eqI (fates r p.id : Nat) 1))) bF (bF_of (by rw [hq]; rfl))), (29, .as _ _ hst)] (by kernel_rfl) (gc8 _ r) q
        rcases ih with ⟨h1, q⟩ | ⟨h1, q⟩
        · exact .inl ⟨h1, next q⟩
        · exact .inr ⟨h1, next q⟩

theorem told8 (r : Res) (hr : RsOK r) : ToldOK PR glT 8 [r.av] (.sc (.bool (allOK r [] r.ps))) := by
  rcases loop8 r hr r.ps [] rfl with ⟨h1, q⟩ | ⟨h1, q⟩
  · rw [h1]
    exact told_hint fitP [(8, .as _ _ (len_map (f := Pas.av) r.ps)), (0, .loop [1, 7, 8, 9] _ _ _ _ _ _ q.ok)] (fn := Tryz.f8) (c := bodyOf Tryz.f8) (by kernel_rfl) (by kernel_rfl) (by kernel_rfl)
  · rw [h1]
    exact told_hint fitP [(8, .as _ _ (len_map (f := Pas.av) r.ps)), (0, .loop [1, 7, 8, 9] _ _ _ _ _ _ q.ok)] (fn := Tryz.f8) (c := bodyOf Tryz.f8) (by kernel_rfl) (by kernel_rfl) (by kernel_rfl)

def s9b (n k : Nat) : Tmps := tm 40 [(1, .ptr 0 6 0), (3, i n), (4, i k)]
def s9a (n : Nat) : Tmps := tm 40 [(1, .ptr 0 6 0), (3, i n)]
theorem loop9b (r : Res) (hr : RsOK r) (p : Pas) (pre post : List Pas) (hp : r.ps = pre ++ p :: post) : ∀ (rest q : List Pas), pre = q ++ rest →
    (rest.any (sameId p) = false ∧ Rounds PR glT (loopN Tryz.f9 1) (s9b pre.length q.length) (L8 r) (.exit 2) (s9a pre.length) (L8 r)) ∨
    (rest.any (sameId p) = true ∧ Rounds PR glT (loopN Tryz.f9 1) (s9b pre.length q.length) (L8 r) .ret (at1 40 2 bF) (L8 r))
  | [], q, h => by
    rw [List.append_nil] at h
    have hge : pre.length ≤ q.length := by rw [h]; exact Nat.le_refl _
    exact .inl ⟨rfl, round_exit (n := 1) (keep := []) (ks := [1, 3]) fitP [(14, .as _ _ (lt_f (m := q.length) (n := pre.length) hge))] (by kernel_rfl) (by simp) (gc8 _ r)⟩
  | y :: rest, q, h => by
    have hlt := lt_of h
    have hpl := hr.ps
    have hlt2 := lt_of hp
    have hst := step_i (n := q.length) (by omega)
    have hy : r.ps = q ++ y :: (rest ++ p :: post) := by rw [hp, h]; simp
    have hiy : ∀ a b, PureOK PR glT (.indexAddr 25 a b) 0 [.fz false 8 (r.ps.map Pas.av), .sc (.int .i64 (q.length : Int))] (.cp false y.av.cells 0) := fun a b => pure_index sl25 (at_map (f := Pas.av) hy)
    have hip : ∀ a b, PureOK PR glT (.indexAddr 25 a b) 0 [.fz false 8 (r.ps.map Pas.av), .sc (.int .i64 (pre.length : Int))] (.cp false p.av.cells 0) := fun a b => pure_index sl25 (at_map (f := Pas.av) hp)
    cases he : sameId p y with
    | true =>
      refine .inr ⟨by simp [he], ?_⟩
      exact round_exit (n := 1) (keep := []) (ks := [2]) fitP [(14, .as _ _ (lt_t hlt)), (20, .pure _ _ _ _ (hiy (.tmp 18) (.tmp 19))), (26, .pure _ _ _ _ (hip (.tmp 24) (.tmp 25))), (29, .as _ _ (bT_of he))] (by kernel_rfl) (by simp) (gc8 _ r)
    | false =>
      have ih := loop9b r hr p pre post hp rest (q ++ [y]) (by rw [h]; simp)
      rw [len_snoc] at ih
      rw [List.any_cons, he, Bool.false_or]
      have next : ∀ {x' : Ex} {t' : Tmps}, Rounds PR glT (loopN Tryz.f9 1) (s9b pre.length (q.length + 1)) (L8 r) x' t' (L8 r) → Rounds PR glT (loopN Tryz.f9 1) (s9b pre.length q.length) (L8 r) x' t' (L8 r) := fun z =>
        round_next (n := 1) (keep := []) (ks := [1, 3, 4]) fitP [(14, .as _ _ (lt_t hlt)), (20, .pure _ _ _ _ (hiy (.tmp 18) (.tmp 19))), (26, .pure _ _ _ _ (hip (.tmp 24) (.tmp 25))), (29, .as _ _ (bF_of he)), (16, .as _ _ hst)] (by kernel_rfl) (gc8 _ r) z
      rcases ih with ⟨h1, z⟩ | ⟨h1, z⟩
      · exact .inl ⟨h1, next z⟩
      · exact .inr ⟨h1, next z⟩

theorem loop9 (r : Res) (hr : RsOK r) : ∀ (rest pre : List Pas), r.ps = pre ++ rest →
    (allOK r pre rest = true ∧ Rounds PR glT (loopN Tryz.f9 0) (s9a pre.length) (L8 r) (.exit 0) (at1 40 1 (.ptr 0 6 0)) (L8 r)) ∨
    (allOK r pre rest = false ∧ Rounds PR glT (loopN Tryz.f9 0) (s9a pre.length) (L8 r) .ret (at1 40 2 bF) (L8 r))
  | [], pre, h => by
    rw [List.append_nil] at h
    have hge : r.ps.length ≤ pre.length := by rw [h]; exact Nat.le_refl _
    exact .inl ⟨rfl, round_exit (n := 1) (keep := []) (ks := [1]) fitP [(8, .as _ _ (len_map (f := Pas.av) r.ps)), (9, .as _ _ (lt_f (m := pre.length) (n := r.ps.length) hge))] (by kernel_rfl) (by simp) (gc8 _ r)⟩
  | p :: rest, pre, h => by
    have hlt := lt_of h
    have hpl := hr.ps
    have hst := step_i (n := pre.length) (by omega)
    have hip : ∀ a b, PureOK PR glT (.indexAddr 25 a b) 0 [.fz false 8 (r.ps.map Pas.av), .sc (.int .i64 (pre.length : Int))] (.cp false p.av.cells 0) := fun a b => pure_index sl25 (at_map (f := Pas.av) h)
    unfold allOK
    rcases loop9b r hr p pre rest h pre [] rfl with ⟨he, lp⟩ | ⟨he, lp⟩
    · rw [he]
      obtain ⟨l, hl, hf⟩ := told20 r hr p.id
      rw [cnt_eq] at hl
      have hlen : AV.sc (.int .i64 ((sbs l).length : Int)) = i (fates r p.id) := by rw [len_map, hl]; rfl
      simp only [Bool.false_eq_true, if_false]
      cases hq : eqI (fates r p.id : Nat) 1 with
      | false =>
        refine .inr ⟨rfl, ?_⟩
        exact round_exit (n := 1) (keep := []) (ks := [2]) fitP [(8, .as _ _ (len_map (f := Pas.av) r.ps)), (9, .as _ _ (lt_t hlt)), (0, .loop [1, 3, 4] _ _ _ _ _ _ lp.ok), (34, .pure _ _ _ _ (hip (.tmp 32) (.tmp 33))), (37, .call _ _ _ hf), (38, .as _ _ hlen), (39, .as (.sc (.bool (!eqI (fates r p.id : Nat) 1))) bT (bT_of (by rw [hq]; rfl)))] (by kernel_rfl) (by simp) (gc8 _ r)
      | true =>
        have ih := loop9 r hr rest (pre ++ [p]) (by rw [h]; simp)
        rw [len_snoc] at ih
        simp only [if_true]
        have next : ∀ {x' : Ex} {t' : Tmps}, Rounds PR glT (loopN Tryz.f9 0) (s9a (pre.length + 1)) (L8 r) x' t' (L8 r) → Rounds PR glT (loopN Tryz.f9 0) (s9a pre.length) (L8 r) x' t' (L8 r) := fun z =>
          round_next (n := 1) (keep := []) (ks := [1, 3]) fitP [(8, .as _ _ (len_map (f := Pas.av) r.ps)), (9, .as _ _ (lt_t hlt)), (0, .loop [1, 3, 4] _ _ _ _ _ _ lp.ok), (34, .pure _ _ _ _ (hip (.tmp 32) (.tmp 33))), (37, .call _ _ _ hf), (38, .as _ _ hlen), (39, .as (.sc (.bool (!eqI (fates r p.id : Nat) 1))) bF (bF_of (by rw [hq]; rfl))), (11, .as _ _ hst)] (by kernel_rfl) (gc8 _ r) z
        rcases ih with ⟨h1, z⟩ | ⟨h1, z⟩
        · exact .inl ⟨h1, next z⟩
        · exact .inr ⟨h1, next z⟩
    · rw [he]
      refine .inr ⟨rfl, ?_⟩
      exact round_exit (n := 1) (keep := []) (ks := [2]) fitP [(8, .as _ _ (len_map (f := Pas.av) r.ps)), (9, .as _ _ (lt_t hlt)), (0, .loop [1, 3, 4] _ _ _ _ _ _ lp.ok)] (by kernel_rfl) (by simp) (gc8 _ r)

theorem told9 (r : Res) (hr : RsOK r) : ToldOK PR glT 9 [r.av] (.sc (.bool (allOK r [] r.ps))) := by
  rcases loop9 r hr r.ps [] rfl with ⟨h1, q⟩ | ⟨h1, q⟩
  · rw [h1]
    exact told_hint fitP [(0, .loop [1, 3] _ _ _ _ _ _ q.ok)] (fn := Tryz.f9) (c := bodyOf Tryz.f9) (by kernel_rfl) (by kernel_rfl) (by kernel_rfl)
  · rw [h1]
    exact told_hint fitP [(0, .loop [1, 3] _ _ _ _ _ _ q.ok)] (fn := Tryz.f9) (c := bodyOf Tryz.f9) (by kernel_rfl) (by kernel_rfl) (by kernel_rfl)
end Go.Proofs.YtjbbhpfoohpbkaaGreatDoor

open Go Go.Xv
namespace Go.Proofs.YtjbbhpfoohpbkaaGreatDoor
theorem gt_t {n : Nat} (h : 10 < n) : AV.sc (.bool (ltI 10 (n : Int))) = bT := by rw [ltI_eq]; simp only [bT]; congr 2; simp; omega
theorem gt_f {n : Nat} (h : ¬ 10 < n) : AV.sc (.bool (ltI 10 (n : Int))) = bF := by rw [ltI_eq]; simp only [bF]; congr 2; simp; omega
theorem told4 (r : Res) (h7 : ToldOK PR glT 7 [] bT) (hr : r.ps.length ≤ 10 → r.ts.length ≤ 10 → r.cs.length ≤ 10 → r.xs.length ≤ 10 → RsOK r) : ToldOK PR glT 4 [r.av] bT := by
  have l1 := len_map (f := Pas.av) r.ps
  have l2 := len_map (f := Trip.av) r.ts
  have l3 := len_map (f := Chg.av) r.cs
  have l4 := len_map (f := Exc.av) r.xs
  by_cases h1 : 10 < r.ps.length
  · exact told_hint fitP [(5, .as _ _ l1), (6, .as _ _ (gt_t h1)), (25, .call _ _ _ h7)] (fn := Tryz.f4) (c := bodyOf Tryz.f4) (by kernel_rfl) (by kernel_rfl) (by kernel_rfl)
  by_cases h2 : 10 < r.ts.length
  · exact told_hint fitP [(5, .as _ _ l1), (6, .as _ _ (gt_f h1)), (10, .as _ _ l2), (11, .as _ _ (gt_t h2)), (25, .call _ _ _ h7)] (fn := Tryz.f4) (c := bodyOf Tryz.f4) (by kernel_rfl) (by kernel_rfl) (by kernel_rfl)
  by_cases h3 : 10 < r.cs.length
  · exact told_hint fitP [(5, .as _ _ l1), (6, .as _ _ (gt_f h1)), (10, .as _ _ l2), (11, .as _ _ (gt_f h2)), (16, .as _ _ l3), (17, .as _ _ (gt_t h3)), (25, .call _ _ _ h7)] (fn := Tryz.f4) (c := bodyOf Tryz.f4) (by kernel_rfl) (by kernel_rfl) (by kernel_rfl)
  by_cases h4 : 10 < r.xs.length
  · exact told_hint fitP [(5, .as _ _ l1), (6, .as _ _ (gt_f h1)), (10, .as _ _ l2), (11, .as _ _ (gt_f h2)), (16, .as _ _ l3), (17, .as _ _ (gt_f h3)), (22, .as _ _ l4), (23, .as _ _ (gt_t h4)), (25, .call _ _ _ h7)] (fn := Tryz.f4) (c := bodyOf Tryz.f4) (by kernel_rfl) (by kernel_rfl) (by kernel_rfl)
  have R := hr (by omega) (by omega) (by omega) (by omega)
  have t8 := told8 r R
  have t9 := told9 r R
  cases hb : allOK r [] r.ps with
  | true =>
    rw [hb] at t8 t9
    exact told_hint fitP [(5, .as _ _ l1), (6, .as _ _ (gt_f h1)), (10, .as _ _ l2), (11, .as _ _ (gt_f h2)), (16, .as _ _ l3), (17, .as _ _ (gt_f h3)), (22, .as _ _ l4), (23, .as _ _ (gt_f h4)), (27, .call _ _ _ t8), (29, .call _ _ _ t9), (32, .call _ _ _ h7)] (fn := Tryz.f4) (c := bodyOf Tryz.f4) (by kernel_rfl) (by kernel_rfl) (by kernel_rfl)
  | false =>
    rw [hb] at t8 t9
    exact told_hint fitP [(5, .as _ _ l1), (6, .as _ _ (gt_f h1)), (10, .as _ _ l2), (11, .as _ _ (gt_f h2)), (16, .as _ _ l3), (17, .as _ _ (gt_f h3)), (22, .as _ _ l4), (23, .as _ _ (gt_f h4)), (27, .call _ _ _ t8), (29, .call _ _ _ t9), (32, .call _ _ _ h7)] (fn := Tryz.f4) (c := bodyOf Tryz.f4) (by kernel_rfl) (by kernel_rfl) (by kernel_rfl)
end Go.Proofs.YtjbbhpfoohpbkaaGreatDoor

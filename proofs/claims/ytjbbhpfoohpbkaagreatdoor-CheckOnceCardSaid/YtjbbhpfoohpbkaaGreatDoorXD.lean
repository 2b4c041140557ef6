/- Calls of the interpreter and regions in the order of the text are sound. No condition. -/
import Derived.Test.YtjbbhpfoohpbkaaGreatDoorXC
set_option linter.all false
namespace Go.Xv

/-- The live part of a state, as far as a second one keeps it. -/
structure Live (g : G) (h : Nat → Blk) (g1 : G) (h1 : Nat → Blk) : Prop where
  dom : ∀ b, g.dom b → g1.dom b
  cells : ∀ b cs', g.dom b → h1 b = .cells cs' → ∃ cs, h b = .cells cs ∧ cs.length ≤ cs'.length ∧
    (cs.length = cs'.length → g1.m b = g.m b ∧ g1.sh b = g.sh b ∧ g1.sz b = g.sz b)
  obj : ∀ b, g.dom b → isObj (h1 b) = true → isObj (h b) = true ∧ g1.m b = g.m b
  yv : g1.yv = g.yv

section carry
variable {g g1 : G} {h h1 : Nat → Blk} {hp hp1 : Array Obj}

def FK (g g1 : G) (hp hp1 : Array Obj) (p : Bool) : Prop := ∀ o B, (o || !p) = true → g.F o B → g1.F o B ∧ hp1[B]? = hp[B]?

theorem FK.own {p own : Bool} (hk : FK g g1 hp hp1 p) (ho : (own || !p) = true) : FK g g1 hp hp1 own := fun o B h1 h2 => hk o B (by cases o <;> cases own <;> cases p <;> simp_all) h2

theorem VR.carry {a : AV} {v : Value} (hv : VR g h hp a v) : ∀ lv p, okV lv p a = true → FK g g1 hp hp1 p → (lv = true → Live g h g1 h1) → VR g1 h1 hp1 a v := by
  refine VR.rec (motive_1 := fun a v _ => ∀ lv p, okV lv p a = true → FK g g1 hp hp1 p → (lv = true → Live g h g1 h1) → VR g1 h1 hp1 a v)
    (motive_2 := fun l L _ => ∀ lv p, okVL lv p l = true → FK g g1 hp hp1 p → (lv = true → Live g h g1 h1) → VRL g1 h1 hp1 l L) ?_ ?_ ?_ ?_ ?_ ?_ ?_ ?_ ?_ ?_ ?_ ?_ ?_ ?_ ?_ ?_ ?_ hv
  · intro v hv lv p _ _ _; exact .sc v hv
  · intro a lv p _ _ _; exact .e0 a
  · intro b ver off a hd hc lv p hok _ hl
    have E := hl hok
    refine .ptr b ver off a (E.dom b hd) fun cs' hcs' => ?_
    obtain ⟨cs, h0, l0, k0⟩ := E.cells b cs' hd hcs'
    obtain ⟨p, q⟩ := hc cs h0
    refine ⟨by omega, fun he => ?_⟩
    obtain ⟨k1, k2, _⟩ := k0 (by omega)
    rw [q (by omega), k1, k2]
  · intro s ag b off len cap a cap' hd hcap hc lv p hok _ hl
    have E := hl hok
    refine .sl s ag b off len cap a cap' (E.dom b hd) hcap fun cs' hcs' => ?_
    obtain ⟨cs, h0, l0, k0⟩ := E.cells b cs' hd hcs'
    obtain ⟨p, q⟩ := hc cs h0
    refine ⟨by omega, fun he => ?_⟩
    obtain ⟨k1, k2, k3⟩ := k0 (by omega)
    obtain ⟨q1, q3⟩ := q (by omega)
    exact ⟨by rw [q1, k1, k2], by rw [k2, k3]; exact q3⟩
  · intro b r hd hc lv p hok _ hl
    have E := hl hok
    exact .mp b r (E.dom b hd) fun ho => by obtain ⟨p, q⟩ := E.obj b hd ho; rw [q]; exact hc p
  · intro b r hd hc lv p hok _ hl
    have E := hl hok
    exact .it b r (E.dom b hd) fun ho => by obtain ⟨p, q⟩ := E.obj b hd ho; rw [q]; exact hc p
  · intro own s es L a cap' _ hst hs hr hcap hfr ih lv p hok hk _
    have hk' := hk.own hok
    refine .fz own s es L a cap' (ih false own hfr hk' (fun e => by cases e)) hst hs (fun hne => ?_) hcap hfr
    obtain ⟨B, o, ha, hF, hw⟩ := hr hne
    obtain ⟨k1, k2⟩ := hk' own B (by cases own <;> rfl) hF
    exact ⟨B, o, ha, k1, hw.keep k2⟩
  · intro own cs off L B o _ hst hF hr hfr ih lv p hok hk _
    have hk' := hk.own hok
    obtain ⟨k1, k2⟩ := hk' own B (by cases own <;> rfl) hF
    exact .cp own cs off L B o (ih false own hfr hk' (fun e => by cases e)) hst k1 (hr.keep k2) hfr
  · intro own es r ents clock hF hr hke _ hfr ih lv p hok hk _
    have hk' := hk.own hok
    obtain ⟨k1, k2⟩ := hk' own r (by cases own <;> rfl) hF
    exact .fm own es r ents clock k1 (k2.trans hr) hke (ih false own hfr hk' (fun e => by cases e)) hfr
  · intro cs L _ hs ih lv p hok hk hl
    exact .agg cs L (ih lv p hok hk hl) hs
  · intro vs L _ ih lv p hok hk hl
    exact .tup vs L (ih lv p hok hk hl)
  · intro f a b A B _ _ ihA ihB lv p hok hk hl
    simp only [okV, Bool.and_eq_true] at hok
    exact .fn f a b A B (ihA lv p hok.1 hk hl) (ihB lv p hok.2 hk hl)
  · intro hv lv p hok _ hl
    have E := hl hok
    rw [← E.yv]; exact .yl (by rw [E.yv]; exact hv)
  · intro v lv p _ _ _; exact .top v
  · intro own s lv p _ _ _; exact .fzn own s
  · intro lv p _ _ _; exact .nil
  · intro a v l L _ _ iha ihl lv p hok hk hl
    simp only [okVL, Bool.and_eq_true] at hok
    exact .cons a v l L (iha lv p hok.1 hk hl) (ihl lv p hok.2 hk hl)

theorem VRL.carry {l : List AV} {L : List Value} (hl : VRL g h hp l L) (lv p : Bool) (hok : okVL lv p l = true) (hk : FK g g1 hp hp1 p) (hL : lv = true → Live g h g1 h1) : VRL g1 h1 hp1 l L := by
  induction l generalizing L with
  | nil => cases hl; exact .nil
  | cons a l ih =>
    simp only [okVL, Bool.and_eq_true] at hok
    cases hl with | cons _ v _ L ha hl => exact .cons _ _ _ _ (ha.carry lv p hok.1 hk hL) (ih hl hok.2)
end carry

section deep
variable {P : Program} {g : G} {h : Nat → Blk} {w : World}

theorem grp_spec (ag : Bool) (s : Nat) (hs : ag = true ∨ s = 1) : ∀ (n : Nat) (p : List AV), p.length = n * s → p.all AV.stor = true →
    (grp ag s n p).flatMap AV.cells = p ∧ (∀ e ∈ grp ag s n p, e.cells.length = s) ∧ (grp ag s n p).length = n
  | 0, p, hl, _ => by
    have : p = [] := List.length_eq_zero_iff.1 (by simpa using hl)
    subst this
    exact ⟨rfl, by simp [grp], rfl⟩
  | n + 1, p, hl, hst => by
    have hle : s ≤ p.length := by rw [hl]; exact Nat.le_mul_of_pos_left s (Nat.succ_pos n)
    have hl' : (p.drop s).length = n * s := by rw [List.length_drop, hl, Nat.succ_mul]; omega
    obtain ⟨i1, i2, i3⟩ := grp_spec ag s hs n (p.drop s) hl' (by rw [List.all_eq_true] at hst ⊢; exact fun x hx => hst x (List.mem_of_mem_drop hx))
    have hhead : (if ag then AV.agg (p.take s) else p.headD undefA).cells = p.take s := by
      cases ag with
      | true => rfl
      | false =>
        rcases hs with h | h
        · cases h
        subst h
        cases p with
        | nil => simp at hle
        | cons x r =>
          have hx : x.stor = true := by rw [List.all_eq_true] at hst; exact hst x (by simp)
          cases x <;> simp_all [AV.cells, AV.stor]
    refine ⟨?_, ?_, ?_⟩
    · simp only [grp, List.flatMap_cons, hhead, i1, List.take_append_drop]
    · intro e he
      simp only [grp, List.mem_cons] at he
      rcases he with rfl | he
      · rw [hhead, List.length_take]; exact Nat.min_eq_left hle
      · exact i2 e he
    · simp [grp, i3]

theorem live_row (S : Sim g h w.heap) {b : Nat} {cs : List AV} (hb : h b = .cells cs) : cs.all AV.stor = true ∧ ∃ L, VRL g h w.heap cs L ∧ row w.heap (g.m b) (g.sh b) L := by
  obtain ⟨_, hst, _, c, ty, fr, L, k1, k2, k3, k4, k5, k6⟩ := (show BlkOK g h w.heap b (.cells cs) from hb ▸ S.blk b)
  exact ⟨hst, L, k3, c, ty, fr, k1, k4⟩

structure DeepOK (g1 : G) (h1 : Nat → Blk) (hp : Array Obj) (own : Bool) (a a' : AV) (v : Value) : Prop where
  vr : VR g1 h1 hp a' v
  ok : okV false own a' = true
  stor : a.stor = true → a'.stor = true

theorem mapW_sound {g1 : G} {h1 : Nat → Blk} {hp : Array Obj} {own : Bool} {f : AV → Option (AV × List Nat)} (hf : ∀ a a' r v, f a = some (a', r) → VR g h hp a v → DeepOK g1 h1 hp own a a' v) :
    ∀ (l l' : List AV) (r : List Nat) (L : List Value), mapW f l = some (l', r) → VRL g h hp l L → VRL g1 h1 hp l' L ∧ okVL false own l' = true ∧ (l.all AV.stor = true → l'.all AV.stor = true) ∧ l'.length = l.length
  | [], l', r, L, hm, hl => by
    simp only [mapW, Option.some.injEq, Prod.mk.injEq] at hm
    obtain ⟨rfl, rfl⟩ := hm
    cases hl
    exact ⟨.nil, rfl, fun _ => rfl, rfl⟩
  | a :: l, l', r, L, hm, hl => by
    simp only [mapW, Option.bind_eq_some_iff, Option.some.injEq, Prod.mk.injEq] at hm
    obtain ⟨⟨a', r1⟩, h1, ⟨l1, r2⟩, h2, rfl, rfl⟩ := hm
    cases hl with
    | cons _ v _ L' ha hl =>
      have d := hf a a' r1 v h1 ha
      obtain ⟨i1, i2, i3, i4⟩ := mapW_sound hf l l1 r2 L' h2 hl
      refine ⟨.cons _ _ _ _ d.vr i1, by simp [okVL, d.ok, i2], fun hs => ?_, by simp [i4]⟩
      simp only [List.all_cons, Bool.and_eq_true] at hs ⊢
      exact ⟨d.stor hs.1, i3 hs.2⟩

theorem deep_sound (S : Sim g h w.heap) {own : Bool} {g1 : G} {h1 : Nat → Blk} (hA : ∀ b, alive (h b) = true → g1.F own (g.m b)) (hK : ∀ o B, (o || !own) = true → g.F o B → g1.F o B) :
    ∀ (n : Nat) (a a' : AV) (r : List Nat) (v : Value), deep own h n a = some (a', r) → VR g h w.heap a v → DeepOK g1 h1 w.heap own a a' v
  | 0, a, a', r, v, hd, _ => by simp [deep] at hd
  | n + 1, a, a', r, v, hd, hv => by
    have ih := mapW_sound (deep_sound S (own := own) (g1 := g1) (h1 := h1) hA hK n)
    have hoo : (own || !own) = true := by cases own <;> rfl
    have hkeep : ∀ {x : AV}, okV false own x = true → VR g h w.heap x v → x.stor = true → DeepOK g1 h1 w.heap own x x v := fun hok hx hs =>
      ⟨hx.carry false own hok (fun o B h1 h2 => ⟨hK o B h1 h2, rfl⟩) (fun e => by cases e), hok, fun h => h⟩
    cases hv with
    | sc v hp =>
      simp only [deep, Option.some.injEq, Prod.mk.injEq] at hd
      obtain ⟨rfl, rfl⟩ := hd
      exact ⟨.sc v hp, rfl, fun h => h⟩
    | e0 ad =>
      simp only [deep, Option.some.injEq, Prod.mk.injEq] at hd
      obtain ⟨rfl, rfl⟩ := hd
      exact ⟨.e0 ad, rfl, fun h => h⟩
    | ptr b ver off ad hdm hc =>
      simp only [deep, Option.bind_eq_some_iff, Option.some.injEq, Prod.mk.injEq] at hd
      obtain ⟨cs, h2, ⟨cs', r'⟩, h3, rfl, rfl⟩ := hd
      obtain ⟨hb, hcl⟩ := cellsAt h2
      obtain ⟨hst, L, hL, hrw⟩ := live_row S hb
      have := (hc cs hb).2 hcl
      subst this
      obtain ⟨i1, i2, i3, i4⟩ := ih cs cs' r' L h3 hL
      refine ⟨.cp own cs' off L (g.m b) (g.sh b) i1 (i3 hst) (hA b (by rw [hb]; rfl)) hrw i2, hoo, fun _ => rfl⟩
    | sl s ag b off len cap ad cap' hdm hcap hc =>
      simp only [deep, Option.bind_eq_some_iff] at hd
      obtain ⟨cs, h2, hd⟩ := hd
      split at hd
      case isFalse => cases hd
      rename_i hcond
      simp only [Option.bind_eq_some_iff, Option.some.injEq, Prod.mk.injEq] at hd
      obtain ⟨⟨p', r'⟩, h3, rfl, rfl⟩ := hd
      obtain ⟨hb, hcl⟩ := cellsAt h2
      obtain ⟨hst, L, hL, hrw⟩ := live_row S hb
      obtain ⟨q1, q2⟩ := (hc cs hb).2 hcl
      subst q1
      have hLp := (hL.drop off).take (len * s)
      obtain ⟨i1, i2, i3, i4⟩ := ih _ p' r' _ h3 hLp
      have hm : len * s ≤ cap * s := Nat.mul_le_mul_right s hcond.1
      have hlen : p'.length = len * s := by rw [i4, List.length_take, List.length_drop]; omega
      have hst' : p'.all AV.stor = true := i3 (stor_sub hst fun x hx => List.mem_of_mem_drop (List.mem_of_mem_take hx))
      obtain ⟨g1', g2', g3'⟩ := grp_spec ag s hcond.2 len p' hlen hst'
      have hrow : row w.heap (g.m b) (g.sh b + off) ((L.drop off).take (len * s)) := hrw.sub off (len * s)
      have := VR.fz (g := g1) (h := h1) (hp := w.heap) own s (grp ag s len p') ((L.drop off).take (len * s)) ⟨g.m b, g.sh b + off, none⟩ cap' (by rw [g1']; exact i1) (by rw [g1']; exact hst') g2'
        (fun _ => ⟨g.m b, g.sh b + off, rfl, hA b (by rw [hb]; rfl), hrow⟩) (by rw [g3']; exact Nat.le_trans hcond.1 hcap) (by rw [g1']; exact i2)
      rw [g3'] at this
      exact ⟨this, hoo, fun _ => rfl⟩
    | mp b rr hdm hc =>
      simp only [deep] at hd
      split at hd
      case h_2 => cases hd
      rename_i es clock hb
      simp only [Option.bind_eq_some_iff, Option.some.injEq, Prod.mk.injEq] at hd
      obtain ⟨⟨vs, r'⟩, h3, rfl, rfl⟩ := hd
      have := hc (by rw [hb]; rfl)
      subst this
      obtain ⟨ents, e1, e2, e3⟩ := map_block S hb
      obtain ⟨i1, i2, i3, i4⟩ := ih _ vs r' _ h3 e3.vals
      have hlen : (es.map fun e => e.1).length = vs.length := by rw [i4]; simp
      have hz1 : ((es.map fun e => e.1).zip vs).map (·.1) = es.map fun e => e.1 := List.map_fst_zip (by omega)
      have hz2 : ((es.map fun e => e.1).zip vs).map (·.2) = vs := List.map_snd_zip (by omega)
      refine ⟨.fm own _ _ ents clock (hA b (by rw [hb]; rfl)) e1 (by rw [hz1]; exact e3.keys.symm) (by rw [hz2]; exact i1) (by rw [hz2]; exact i2), hoo, fun _ => rfl⟩
    | it b rr hdm hc => simp [deep] at hd
    | yl hv => simp [deep] at hd
    | top v => simp [deep] at hd
    | fzn o s =>
      simp only [deep] at hd
      split at hd
      case isFalse => cases hd
      rename_i hok
      simp only [Option.some.injEq, Prod.mk.injEq] at hd
      obtain ⟨rfl, rfl⟩ := hd
      exact hkeep hok (.fzn o s) rfl
    | fz o s es L ad cap' hL hst hs hr hcap hfr =>
      simp only [deep] at hd
      split at hd
      case isFalse => cases hd
      rename_i hok
      simp only [Option.some.injEq, Prod.mk.injEq] at hd
      obtain ⟨rfl, rfl⟩ := hd
      exact hkeep hok (.fz o s es L ad cap' hL hst hs hr hcap hfr) rfl
    | cp o cs off L B oo hL hst hF hr hfr =>
      simp only [deep] at hd
      split at hd
      case isFalse => cases hd
      rename_i hok
      simp only [Option.some.injEq, Prod.mk.injEq] at hd
      obtain ⟨rfl, rfl⟩ := hd
      exact hkeep hok (.cp o cs off L B oo hL hst hF hr hfr) rfl
    | fm o es rr ents clock hF hr hk hL hfr =>
      simp only [deep] at hd
      split at hd
      case isFalse => cases hd
      rename_i hok
      simp only [Option.some.injEq, Prod.mk.injEq] at hd
      obtain ⟨rfl, rfl⟩ := hd
      exact hkeep hok (.fm o es rr ents clock hF hr hk hL hfr) rfl
    | agg cs L hL hs =>
      simp only [deep, Option.bind_eq_some_iff, Option.some.injEq, Prod.mk.injEq] at hd
      obtain ⟨⟨cs', r'⟩, h3, rfl, rfl⟩ := hd
      obtain ⟨i1, i2, i3, i4⟩ := ih _ cs' r' _ h3 hL
      exact ⟨.agg cs' L i1 (i3 hs), i2, fun h => by simp [AV.stor] at h⟩
    | tup vs L hL =>
      simp only [deep, Option.bind_eq_some_iff, Option.some.injEq, Prod.mk.injEq] at hd
      obtain ⟨⟨cs', r'⟩, h3, rfl, rfl⟩ := hd
      obtain ⟨i1, i2, i3, i4⟩ := ih _ cs' r' _ h3 hL
      exact ⟨.tup cs' L i1, i2, fun h => by simp [AV.stor] at h⟩
    | fn f x y A B hA' hB' =>
      simp only [deep, Option.bind_eq_some_iff, Option.some.injEq, Prod.mk.injEq] at hd
      obtain ⟨⟨x', r1⟩, h3, ⟨y', r2⟩, h4, rfl, rfl⟩ := hd
      obtain ⟨i1, i2, _, _⟩ := ih _ x' r1 _ h3 hA'
      obtain ⟨j1, j2, _, _⟩ := ih _ y' r2 _ h4 hB'
      exact ⟨.fn f x' y' A B i1 j1, by simp [okV, i2, j2], fun _ => rfl⟩
end deep
end Go.Xv

namespace Go.Xv

theorem mapM_same {α β : Type} {f g : α → Option β} : ∀ (l : List α), (∀ x ∈ l, f x = g x) → l.mapM f = l.mapM g
  | [], _ => rfl
  | a :: l, h => by
    rw [List.mapM_cons, List.mapM_cons, h a (by simp), mapM_same l fun x hx => h x (by simp [hx])]

section frame
variable {P : Program} {gl : Nat → Option (List AV)} {h h' : Nat → Blk} {k : Nat}

theorem evOp_tmps {t t' : Tmps} {o : Oper} (ht : ∀ x ∈ o.op.operands, evO gl t' x = evO gl t x) : evOp P gl t' h k o = evOp P gl t h k o := by
  unfold evOp
  cases ho : o.op with
  | move x => simp only [ho, Op.operands] at ht ⊢; rw [ht x (by simp)]
  | assign x => simp only [ho, Op.operands] at ht ⊢; rw [ht x (by simp)]
  | pick c x y => simp only [ho, Op.operands] at ht ⊢; rw [ht c (by simp), ht x (by simp), ht y (by simp)]
  | alloc e => rfl
  | box e x => simp only [ho, Op.operands] at ht ⊢; rw [ht x (by simp)]
  | build ty ps =>
    simp only [ho, Op.operands] at ht ⊢
    rw [mapM_same ps.toList fun p hp => by rw [ht p.2 (by simpa using ⟨p.1, by simpa using hp⟩)]]
  | buildSlice ty n ps =>
    simp only [ho, Op.operands] at ht ⊢
    rw [mapM_same ps.toList fun p hp => by rw [ht p.2 (by simpa using ⟨p.1, by simpa using hp⟩)]]
  | load ty x => simp only [ho, Op.operands] at ht ⊢; rw [ht x (by simp)]
  | store ty x y => simp only [ho, Op.operands] at ht ⊢; rw [ht x (by simp), ht y (by simp)]
  | nilCheck x => simp only [ho, Op.operands] at ht ⊢; rw [ht x (by simp)]
  | binOp op ty x y ty' => simp only [ho, Op.operands] at ht ⊢; rw [ht x (by simp), ht y (by simp)]
  | unOp op ty x => simp only [ho, Op.operands] at ht ⊢; rw [ht x (by simp)]
  | convert a b x => simp only [ho, Op.operands] at ht ⊢; rw [ht x (by simp)]
  | makeFunc fn xs ys =>
    cases fn with
    | func f =>
      simp only [ho, Op.operands] at ht ⊢
      rw [mapM_same xs.toList fun x hx => ht x (by simp; left; simpa using hx), mapM_same ys.toList fun x hx => ht x (by simp; right; simpa using hx)]
    | _ => rfl
  | makeMap ty r =>
    cases r with
    | none => rfl
    | some r => simp only [ho, Op.operands] at ht ⊢; rw [ht r (by simp)]
  | makeSlice ty x y => simp only [ho, Op.operands] at ht ⊢; rw [ht x (by simp), ht y (by simp)]
  | slice ty x lo hi mx =>
    simp only [ho, Op.operands] at ht ⊢
    have hO : ∀ z : Option Operand, (∀ y ∈ z.toArray, y ∈ (#[x] ++ lo.toArray ++ hi.toArray ++ mx.toArray)) → optO (evO gl t') z = optO (evO gl t) z := fun z hz => by
      cases z with
      | none => rfl
      | some y => simp only [optO]; rw [ht y (hz y (by simp))]
    rw [ht x (by simp), hO lo (fun y hy => by simp only [Array.mem_append]; exact .inl (.inl (.inr hy))), hO hi (fun y hy => by simp only [Array.mem_append]; exact .inl (.inr hy)), hO mx (fun y hy => by simp only [Array.mem_append]; exact .inr hy)]
  | fieldAddr s x f => simp only [ho, Op.operands] at ht ⊢; rw [ht x (by simp)]
  | field s x f => simp only [ho, Op.operands] at ht ⊢; rw [ht x (by simp)]
  | indexAddr ty x y => simp only [ho, Op.operands] at ht ⊢; rw [ht x (by simp), ht y (by simp)]
  | index ty x y => simp only [ho, Op.operands] at ht ⊢; rw [ht x (by simp), ht y (by simp)]
  | lookup ty x y ok => simp only [ho, Op.operands] at ht ⊢; rw [ht x (by simp), ht y (by simp)]
  | mapUpdate ty x y z => simp only [ho, Op.operands] at ht ⊢; rw [ht x (by simp), ht y (by simp), ht z (by simp)]
  | insert ty x y z => simp only [ho, Op.operands] at ht ⊢; rw [ht x (by simp), ht y (by simp), ht z (by simp)]
  | mapEntry ty x y => simp only [ho, Op.operands] at ht ⊢; rw [ht x (by simp), ht y (by simp)]
  | entryStore ty x y z => simp only [ho, Op.operands] at ht ⊢; rw [ht x (by simp), ht y (by simp), ht z (by simp)]
  | range ty x => simp only [ho, Op.operands] at ht ⊢; rw [ht x (by simp)]
  | next x b => simp only [ho, Op.operands] at ht ⊢; rw [ht x (by simp)]
  | entry x => simp only [ho, Op.operands] at ht ⊢; rw [ht x (by simp)]
  | extract x i => simp only [ho, Op.operands] at ht ⊢; rw [ht x (by simp)]
  | call c =>
    simp only [ho, Op.operands, Call.operands] at ht ⊢
    cases hc : c.callee with
    | builtin b =>
      simp only [hc] at ht ⊢
      rw [mapM_same c.args.toList fun x hx => ht x (by simpa using hx)]
    | _ => rfl
  | _ => rfl

theorem curCells_frame {b n : Nat} (hb : h' b = h b) : curCells h' b n = curCells h b n := by unfold curCells; rw [hb]

theorem ldPtr_frame {ty : TypeId} {p v : AV} {rd : List Nat} (he : ldPtr P h ty p = some (v, rd)) (hr : ∀ b ∈ rd, h' b = h b) : ldPtr P h' ty p = some (v, rd) := by
  cases p with
  | ptr b n off =>
    have hb : b ∈ rd := by
      simp only [ldPtr, Option.bind_eq_bind, Option.bind_eq_some_iff, Option.some.injEq, Prod.mk.injEq] at he
      obtain ⟨_, _, _, _, _, _, _, _, _, rfl⟩ := he
      simp
    simp only [ldPtr] at he ⊢
    rw [curCells_frame (hr b hb)]; exact he
  | _ => exact he

theorem slCells_frame {x : AV} {cs : List AV} {rd : List Nat} (he : slCells h x = some (cs, rd)) (hr : ∀ b ∈ rd, h' b = h b) : slCells h' x = some (cs, rd) := by
  unfold slCells at he ⊢
  split at he
  · exact he
  · exact he
  · exact he
  · rename_i s ag b off len cap
    have hb : b ∈ rd := by
      simp only [Option.bind_eq_bind, Option.bind_eq_some_iff, Option.some.injEq, Prod.mk.injEq] at he
      obtain ⟨_, _, _, rfl⟩ := he
      simp
    rw [curCells_frame (hr b hb)]; exact he
  · cases he

theorem srcA_frame {x : AV} {n : Nat} {cs : List AV} {rd : List Nat} (he : srcA h x = some (n, cs, rd)) (hr : ∀ b ∈ rd, h' b = h b) : srcA h' x = some (n, cs, rd) := by
  unfold srcA at he ⊢
  split at he
  · exact he
  · simp only [Option.bind_eq_some_iff] at he ⊢
    obtain ⟨m, h1, ⟨cs', rd'⟩, h2, h3⟩ := he
    simp only [Option.some.injEq, Prod.mk.injEq] at h3
    obtain ⟨rfl, rfl, rfl⟩ := h3
    exact ⟨m, h1, _, slCells_frame h2 hr, rfl⟩

theorem appendA_frame {at' : Array TypeId} {args : List AV} {e : Eff} (he : appendA P h k at' args = some e) (hr : ∀ b ∈ e.rd, h' b = h b) : appendA P h' k at' args = some e := by
  unfold appendA at he ⊢
  simp only [Option.bind_eq_some_iff] at he ⊢
  obtain ⟨sT, h1, xT, h2, s, h3, x, h4, el, h5, ⟨n, new, rd⟩, h6, z, h7, he⟩ := he
  have hrd : ∀ b ∈ rd, b ∈ e.rd := by
    intro b hb
    simp only [] at he
    split at he
    case isFalse => cases he
    split at he
    · split at he <;> (cases he; exact hb)
    · split at he <;> (cases he; exact hb)
    · split at he
      · cases he; exact hb
      · cases he
    · split at he
      case isFalse => cases he
      obtain ⟨cs, _, he⟩ := Option.bind_eq_some_iff.1 he
      split at he
      · cases he; exact List.mem_cons_of_mem _ hb
      · split at he
        · cases he; exact List.mem_cons_of_mem _ hb
        · cases he
    · cases he
  refine ⟨sT, h1, xT, h2, s, h3, x, h4, el, h5, (n, new, rd), ?_, z, h7, ?_⟩
  · split at h6
    · rename_i hi; rw [if_pos hi]; exact h6
    · rename_i hi
      rw [if_neg hi]
      split at h6
      · rename_i hi2; rw [if_pos hi2]; exact srcA_frame h6 fun b hb => hr b (hrd b hb)
      · cases h6
  · simp only [] at he ⊢
    split at he
    case isFalse => cases he
    rename_i hc
    rw [if_pos hc]
    split at he
    · exact he
    · exact he
    · exact he
    · rename_i s' ag' b off len cap
      split at he
      case isFalse => cases he
      rename_i hc2
      rw [if_pos hc2]
      have hb : b ∈ e.rd := by
        obtain ⟨cs, _, he⟩ := Option.bind_eq_some_iff.1 he
        split at he
        · cases he; simp
        · split at he
          · cases he; simp
          · cases he
      rw [curCells_frame (hr b hb)]; exact he
    · cases he

theorem copyA_frame {at' : Array TypeId} {args : List AV} {e : Eff} (he : copyA P h at' args = some e) (hr : ∀ b ∈ e.rd, h' b = h b) : copyA P h' at' args = some e := by
  unfold copyA at he ⊢
  simp only [Option.bind_eq_some_iff] at he ⊢
  obtain ⟨dT, h1, d, h3, x, h4, el, h5, dn, h6, ⟨n, cs, rd⟩, h7, he⟩ := he
  have hrd : ∀ b ∈ rd, b ∈ e.rd := by
    intro b hb
    simp only [] at he
    split at he
    case isFalse => cases he
    split at he
    · cases he; exact hb
    · split at he
      · split at he
        · obtain ⟨ds, _, he⟩ := Option.bind_eq_some_iff.1 he
          cases he; exact List.mem_cons_of_mem _ hb
        · cases he
      · cases he
  refine ⟨dT, h1, d, h3, x, h4, el, h5, dn, h6, (n, cs, rd), srcA_frame h7 fun b hb => hr b (hrd b hb), ?_⟩
  simp only [] at he ⊢
  split at he
  case isFalse => cases he
  rename_i hc
  rw [if_pos hc]
  split at he
  · rename_i h0; rw [if_pos h0]; exact he
  · rename_i h0
    rw [if_neg h0]
    cases d with
    | sl s' ag b off len cap =>
      simp only [] at he ⊢
      split at he
      case isFalse => cases he
      rename_i hc2
      rw [if_pos hc2]
      have hb : b ∈ e.rd := by
        obtain ⟨ds, _, he⟩ := Option.bind_eq_some_iff.1 he
        cases he; simp
      rw [curCells_frame (hr b hb)]; exact he
    | _ => exact he

theorem convA_frame {a b : TypeId} {x : AV} {e : Eff} (he : convA P h k a b x = some e) (hr : ∀ b ∈ e.rd, h' b = h b) : convA P h' k a b x = some e := by
  unfold convA at he ⊢
  split at he
  · exact he
  · split at he
    case isFalse => cases he
    rename_i hc
    simp only [if_pos hc, Option.bind_eq_some_iff] at he ⊢
    obtain ⟨n, h1, ⟨cs, rd⟩, h2, bs, h3, he⟩ := he
    refine ⟨n, h1, (cs, rd), slCells_frame h2 fun b hb => hr b ?_, bs, h3, he⟩
    simp only [] at he
    split at he
    · cases he; exact hb
    · cases he
  · exact he

theorem mapOf_frame {m : AV} {es : List (Value × AV × Nat)} {rd : List Nat} (he : mapOf h m = some (es, rd)) (hr : ∀ b ∈ rd, h' b = h b) : mapOf h' m = some (es, rd) := by
  unfold mapOf at he ⊢
  split at he
  · exact he
  · rename_i b
    have hb : b ∈ rd := by
      split at he
      · cases he; simp
      · cases he
    rw [hr b hb]; exact he
  · exact he
  · cases he

theorem lookupA_frame {ty : TypeId} {m ix : AV} {ok : Bool} {e : Eff} (he : lookupA P h ty m ix ok = some e) (hr : ∀ b ∈ e.rd, h' b = h b) : lookupA P h' ty m ix ok = some e := by
  unfold lookupA at he ⊢
  simp only [Option.bind_eq_bind, Option.bind_eq_some_iff] at he ⊢
  obtain ⟨d, h1, he⟩ := he
  refine ⟨d, h1, ?_⟩
  split at he
  case h_2 => cases he
  simp only [Option.bind_eq_some_iff] at he ⊢
  obtain ⟨kv, h2, ⟨es, rd⟩, h3, u, h4, r, h5, he⟩ := he
  refine ⟨kv, h2, (es, rd), mapOf_frame h3 fun b hb => hr b ?_, u, h4, r, h5, he⟩
  simp only [] at he
  split at he
  · obtain ⟨x, _, he⟩ := Option.bind_eq_some_iff.1 he
    cases he; exact hb
  · obtain ⟨x, _, he⟩ := Option.bind_eq_some_iff.1 he
    cases he; exact hb

theorem updateA_frame {ty : TypeId} {m ix x : AV} {e : Eff} (he : updateA P h ty m ix x = some e) (hr : ∀ b ∈ e.rd, h' b = h b) : updateA P h' ty m ix x = some e := by
  unfold updateA at he ⊢
  simp only [Option.bind_eq_bind, Option.bind_eq_some_iff] at he ⊢
  obtain ⟨d, h1, he⟩ := he
  refine ⟨d, h1, ?_⟩
  split at he
  case h_2 => cases he
  simp only [Option.bind_eq_some_iff] at he ⊢
  obtain ⟨kv, h2, he⟩ := he
  refine ⟨kv, h2, ?_⟩
  cases m with
  | mp b =>
    have hb : b ∈ e.rd := by
      simp only [] at he
      split at he
      case h_2 => cases he
      obtain ⟨_, _, he⟩ := Option.bind_eq_some_iff.1 he
      obtain ⟨_, _, he⟩ := Option.bind_eq_some_iff.1 he
      split at he
      · obtain ⟨_, _, he⟩ := Option.bind_eq_some_iff.1 he
        split at he
        · cases he; simp
        · cases he
      · cases he; simp
    simp only [] at he ⊢
    rw [hr b hb]; exact he
  | _ => exact he

theorem entryA_frame {ty : TypeId} {m ix : AV} {e : Eff} (he : entryA P h ty m ix = some e) (hr : ∀ b ∈ e.rd, h' b = h b) : entryA P h' ty m ix = some e := by
  unfold entryA at he ⊢
  simp only [Option.bind_eq_bind, Option.bind_eq_some_iff] at he ⊢
  obtain ⟨d, h1, he⟩ := he
  refine ⟨d, h1, ?_⟩
  split at he
  case h_2 => cases he
  simp only [Option.bind_eq_some_iff] at he ⊢
  obtain ⟨kv, h2, he⟩ := he
  refine ⟨kv, h2, ?_⟩
  cases m with
  | mp b =>
    have hb : b ∈ e.rd := by
      simp only [] at he
      split at he
      case h_2 => cases he
      obtain ⟨_, _, he⟩ := Option.bind_eq_some_iff.1 he
      obtain ⟨_, _, he⟩ := Option.bind_eq_some_iff.1 he
      split at he
      · obtain ⟨_, _, he⟩ := Option.bind_eq_some_iff.1 he
        split at he
        · cases he; simp
        · cases he
      · obtain ⟨_, _, he⟩ := Option.bind_eq_some_iff.1 he
        cases he; simp
    simp only [] at he ⊢
    rw [hr b hb]; exact he
  | _ => exact he

theorem entryStoreA_frame {m s x : AV} {e : Eff} (he : entryStoreA h m s x = some e) (hr : ∀ b ∈ e.rd, h' b = h b) : entryStoreA h' m s x = some e := by
  unfold entryStoreA at he ⊢
  simp only [Option.bind_eq_bind, Option.bind_eq_some_iff] at he ⊢
  obtain ⟨d, h1, he⟩ := he
  refine ⟨d, h1, ?_⟩
  cases m with
  | mp b =>
    have hb : b ∈ e.rd := by
      simp only [] at he
      split at he
      case h_2 => cases he
      obtain ⟨_, _, he⟩ := Option.bind_eq_some_iff.1 he
      obtain ⟨_, _, he⟩ := Option.bind_eq_some_iff.1 he
      cases he; simp
    simp only [] at he ⊢
    rw [hr b hb]; exact he
  | _ => exact he

theorem rangeA_frame {ty : TypeId} {x : AV} {e : Eff} (he : rangeA P h k ty x = some e) (hr : ∀ b ∈ e.rd, h' b = h b) : rangeA P h' k ty x = some e := by
  unfold rangeA at he ⊢
  split at he
  · exact he
  · exact he
  · rename_i b hu
    have hb : b ∈ e.rd := by
      split at he
      · cases he; simp
      · cases he
    rw [hr b hb]; exact he
  · exact he

theorem nextA_frame {x : AV} {s : Bool} {e : Eff} (he : nextA h x s = some e) (hr : ∀ b ∈ e.rd, h' b = h b) : nextA h' x s = some e := by
  unfold nextA at he ⊢
  cases x with
  | it r =>
    simp only [] at he ⊢
    split at he
    · rename_i c pos hb
      have hrr : r ∈ e.rd := by
        split at he <;> (cases he; simp)
      rw [hr r hrr, hb]
      exact he
    · rename_i a b c hb
      have hrr : r ∈ e.rd := by cases he; simp
      rw [hr r hrr, hb]
      exact he
    · rename_i m since seen last hb
      have hrr : r ∈ e.rd ∧ m ∈ e.rd := by
        split at he
        case h_2 => cases he
        split at he
        · cases he
        split at he
        · cases he; simp
        · split at he
          case isFalse => cases he
          obtain ⟨_, _, he⟩ := Option.bind_eq_some_iff.1 he
          cases he; simp
        · cases he
      rw [hr r hrr.1, hb]
      simp only []
      rw [hr m hrr.2]
      exact he
    · cases he
  | _ => exact he

theorem entryIt_frame {x : AV} {e : Eff} (he : entryIt h x = some e) (hr : ∀ b ∈ e.rd, h' b = h b) : entryIt h' x = some e := by
  unfold entryIt at he ⊢
  cases x with
  | it r =>
    simp only [] at he ⊢
    split at he
    case h_2 => cases he
    rename_i m since seen stepped hb
    have hrr : r ∈ e.rd ∧ m ∈ e.rd := by
      obtain ⟨_, _, he⟩ := Option.bind_eq_some_iff.1 he
      split at he
      case h_2 => cases he
      split at he
      case isFalse => cases he
      obtain ⟨_, _, he⟩ := Option.bind_eq_some_iff.1 he
      obtain ⟨_, _, he⟩ := Option.bind_eq_some_iff.1 he
      cases he; simp
    rw [hr r hrr.1, hb]
    simp only []
    rw [hr m hrr.2]
    exact he
  | _ => exact he

theorem lenA_frame {at' : Array TypeId} {ty : TypeId} {x : AV} {e : Eff} (he : lenA P h at' ty x = some e) (hr : ∀ b ∈ e.rd, h' b = h b) : lenA P h' at' ty x = some e := by
  cases x with
  | mp b =>
    have hb : b ∈ e.rd := by
      simp only [lenA] at he
      obtain ⟨_, _, he⟩ := Option.bind_eq_some_iff.1 he
      split at he
      case isFalse => cases he
      split at he
      · cases he; simp
      · cases he
    simp only [lenA] at he ⊢
    rw [hr b hb]; exact he
  | _ => exact he

theorem builtinA_frame {b : Builtin} {at' : Array TypeId} {ty : TypeId} {args : List AV} {e : Eff} (he : builtinA P h k b at' ty args = some e) (hr : ∀ b ∈ e.rd, h' b = h b) : builtinA P h' k b at' ty args = some e := by
  unfold builtinA at he ⊢
  split at he
  · exact appendA_frame he hr
  · exact copyA_frame he hr
  · exact lenA_frame he hr
  · exact he
  · exact he
  · exact he
  · exact he
  · cases he

theorem evOp_frame {t : Tmps} {o : Oper} {e : Eff} (he : evOp P gl t h k o = some e) (hr : ∀ b ∈ e.rd, h' b = h b) : evOp P gl t h' k o = some e := by
  unfold evOp at he ⊢
  cases ho : o.op with
  | convert a b x =>
    simp only [ho, Option.bind_eq_bind, Option.bind_eq_some_iff] at he ⊢
    obtain ⟨v, h1, he⟩ := he
    exact ⟨v, h1, convA_frame he hr⟩
  | load ty x =>
    simp only [ho, Option.bind_eq_bind, Option.bind_eq_some_iff] at he ⊢
    obtain ⟨p, h1, ⟨v, rd⟩, h2, he⟩ := he
    refine ⟨p, h1, (v, rd), ldPtr_frame h2 fun b hb => hr b ?_, he⟩
    cases he; exact hb
  | store ty x y =>
    simp only [ho, Option.bind_eq_bind, Option.bind_eq_some_iff] at he ⊢
    obtain ⟨p, h1, v, h2, he⟩ := he
    refine ⟨p, h1, v, h2, ?_⟩
    cases p with
    | ptr b n off =>
      have hb : b ∈ e.rd := by
        obtain ⟨_, _, he⟩ := Option.bind_eq_some_iff.1 he
        obtain ⟨_, _, he⟩ := Option.bind_eq_some_iff.1 he
        split at he
        · cases he; simp
        · cases he
      simp only [] at he ⊢
      rw [curCells_frame (hr b hb)]; exact he
    | _ => exact he
  | lookup ty x y ok =>
    simp only [ho, Option.bind_eq_bind, Option.bind_eq_some_iff] at he ⊢
    obtain ⟨v, h1, u, h2, he⟩ := he
    exact ⟨v, h1, u, h2, lookupA_frame he hr⟩
  | mapUpdate ty x y z =>
    simp only [ho, Option.bind_eq_bind, Option.bind_eq_some_iff] at he ⊢
    obtain ⟨v, h1, he⟩ := he
    refine ⟨v, h1, ?_⟩
    split at he
    case isFalse => cases he
    rename_i hc
    simp only [if_pos hc, Option.bind_eq_some_iff] at he ⊢
    obtain ⟨m, h2, i, h3, he⟩ := he
    exact ⟨m, h2, i, h3, updateA_frame he hr⟩
  | insert ty x y z =>
    simp only [ho, Option.bind_eq_bind, Option.bind_eq_some_iff] at he ⊢
    obtain ⟨v, h1, he⟩ := he
    refine ⟨v, h1, ?_⟩
    split at he
    case isFalse => cases he
    rename_i hc
    simp only [if_pos hc, Option.bind_eq_some_iff] at he ⊢
    obtain ⟨m, h2, i, h3, he⟩ := he
    exact ⟨m, h2, i, h3, updateA_frame he hr⟩
  | mapEntry ty x y =>
    simp only [ho, Option.bind_eq_bind, Option.bind_eq_some_iff] at he ⊢
    obtain ⟨v, h1, u, h2, he⟩ := he
    exact ⟨v, h1, u, h2, entryA_frame he hr⟩
  | entryStore ty x y z =>
    simp only [ho, Option.bind_eq_bind, Option.bind_eq_some_iff] at he ⊢
    obtain ⟨v, h1, he⟩ := he
    refine ⟨v, h1, ?_⟩
    split at he
    case isFalse => cases he
    rename_i hc
    simp only [if_pos hc, Option.bind_eq_some_iff] at he ⊢
    obtain ⟨m, h2, i, h3, he⟩ := he
    exact ⟨m, h2, i, h3, entryStoreA_frame he hr⟩
  | range ty x =>
    simp only [ho, Option.bind_eq_bind, Option.bind_eq_some_iff] at he ⊢
    obtain ⟨v, h1, he⟩ := he
    exact ⟨v, h1, rangeA_frame he hr⟩
  | next x b =>
    simp only [ho, Option.bind_eq_bind, Option.bind_eq_some_iff] at he ⊢
    obtain ⟨v, h1, he⟩ := he
    exact ⟨v, h1, nextA_frame he hr⟩
  | entry x =>
    simp only [ho, Option.bind_eq_bind, Option.bind_eq_some_iff] at he ⊢
    obtain ⟨v, h1, he⟩ := he
    exact ⟨v, h1, entryIt_frame he hr⟩
  | call c =>
    simp only [ho] at he ⊢
    cases hc : c.callee with
    | builtin b =>
      simp only [hc, Option.bind_eq_bind, Option.bind_eq_some_iff] at he ⊢
      obtain ⟨v, h1, he⟩ := he
      exact ⟨v, h1, builtinA_frame he hr⟩
    | _ => simp [hc] at he
  | makeFunc fn xs ys =>
    rw [ho] at he
    cases fn with
    | func f => exact he
    | _ => cases he
  | makeMap ty r =>
    rw [ho] at he
    cases r with
    | none => exact he
    | some r => exact he
  | sliceToArrayPointer _ _ => rw [ho] at he; cases he
  | makeInterface _ _ => rw [ho] at he; cases he
  | makeChan _ _ => rw [ho] at he; cases he
  | typeAssert _ _ _ _ => rw [ho] at he; cases he
  | go _ => rw [ho] at he; cases he
  | defer _ => rw [ho] at he; cases he
  | panic _ => rw [ho] at he; cases he
  | send _ _ => rw [ho] at he; cases he
  | recv _ _ _ => rw [ho] at he; cases he
  | select _ _ => rw [ho] at he; cases he
  | ready _ => rw [ho] at he; cases he
  | waits _ => rw [ho] at he; cases he
  | _ => rw [ho] at he; exact he
end frame
end Go.Xv

namespace Go.Xv

def deadH : Nat → Blk := fun _ => .dead

def borrow (g : G) (h : Nat → Blk) : G := { g with dom := fun _ => False, F := fun o B => g.F o B ∨ (o = false ∧ ∃ b, alive (h b) = true ∧ g.m b = B) }

section call
variable {P : Program} {gl : Nat → Option (List AV)} {g : G} {h : Nat → Blk} {w w' : World} {k : Nat}

theorem borrow_sim (S : Sim g h w.heap) : Sim (borrow g h) deadH w.heap where
  blk _ := trivial
  inj b b' hb _ _ := by cases hb
  fz o B hF := by
    rcases hF with hF | ⟨_, b, hb, rfl⟩
    · exact S.fz o B hF
    · exact (alive_image S hb).1
  sub B hF := by
    rcases hF with hF | ⟨e, _⟩
    · exact .inl (S.sub B hF)
    · cases e

theorem borrow_gl (H : GlOK gl g h w.heap) : GlOK gl (borrow g h) deadH w.heap := fun i cs hi =>
  ⟨(H i cs hi).1.carry false true rfl (fun _ _ _ hF => ⟨.inl hF, rfl⟩) (fun e => by cases e), (H i cs hi).2⟩

theorem borrow_args (S : Sim g h w.heap) {n : Nat} {args args' : List AV} {rd : List Nat} {A : List Value} (hd : deepL false h n args = some (args', rd)) (hA : VRL g h w.heap args A) :
    VRL (borrow g h) deadH w.heap args' A :=
  (mapW_sound (deep_sound S (own := false) (g1 := borrow g h) (h1 := deadH) (fun b hb => .inr ⟨rfl, b, hb, rfl⟩) (fun _ _ _ hF => .inl hF) n) args args' rd A hd hA).1

theorem BlkOK.alive_lt {hp : Array Obj} {b : Nat} {x : Blk} (hx : BlkOK g h hp b x) (ha : alive x = true) : g.m b < hp.size := by
  cases x with
  | dead => cases ha
  | cells cs => obtain ⟨_, _, _, c, ty, fr, L, h4, _⟩ := hx; exact (Array.getElem?_eq_some_iff.1 h4).1
  | map es clock => obtain ⟨_, _, ents, h4, _⟩ := hx; exact (Array.getElem?_eq_some_iff.1 h4).1
  | sit s pos => obtain ⟨_, _, h4⟩ := hx; exact (Array.getElem?_eq_some_iff.1 h4).1
  | mit m since seen st => obtain ⟨_, _, r, h4, _⟩ := hx; exact (Array.getElem?_eq_some_iff.1 h4).1

/-- Behind a call that was told of nothing live: the caller's state stands; what the call froze stays. -/
theorem iso_post (S : Sim g h w.heap) {k0 k1 : Nat} {g2 : G} {h2 : Nat → Blk} (p : Post (borrow g h) deadH w k0 k1 g2 h2 w') (k k' : Nat) :
    ∃ g3, Post g h w k k' g3 h w' ∧ (∀ b, alive (h2 b) = true → g3.F true (g2.m b)) ∧ (∀ B, g2.F true B → g3.F true B) := by
  let g3 : G := { g with F := fun o B => g.F o B ∨ (w.heap.size ≤ B ∧ B < w'.heap.size ∧ (g2.F true B ∨ ∃ b, alive (h2 b) = true ∧ g2.m b = B)) }
  have hold : ∀ c, c < w.heap.size → w'.heap[c]? = w.heap[c]? := fun c hc => p.frame c hc fun b hb => by cases hb
  have E : Ext g h w.heap g3 h w'.heap := ⟨fun _ h => h, fun _ cs' _ h => ⟨cs', h, Nat.le_refl _, fun _ => ⟨rfl, rfl, rfl⟩⟩, fun _ _ h => ⟨h, rfl⟩, fun _ _ h => .inl h, fun o B hF => hold B (S.fz o B hF), rfl⟩
  have hnew : ∀ B, g2.F true B → g.F true B ∨ w.heap.size ≤ B := fun B hB => by
    rcases p.F true B hB with hF | hF
    · rcases hF with hF | ⟨e, _⟩
      · exact .inl hF
      · cases e
    · exact .inr hF
  have hS : Sim g3 h w'.heap := by
    refine ⟨fun b => ?_, S.inj, fun o B hF => ?_, fun B hF => ?_⟩
    · by_cases ha : alive (h b) = true
      · have hlt := (alive_image S ha).1
        refine (S.blk b).mono E rfl rfl rfl (fun o hn hF => ?_) fun _ => hold _ hlt
        rcases hF with hF | ⟨h1, _⟩
        · exact hn hF
        · omega
      · have : h b = .dead := by cases hx : h b <;> simp_all [alive]
        rw [this]; trivial
    · rcases hF with hF | ⟨_, h2, _⟩
      · have := S.fz o B hF; have := p.size; omega
      · exact h2
    · rcases hF with hF | hF
      · exact .inl (S.sub B hF)
      · exact .inr hF
  refine ⟨g3, ⟨hS, E, p.size, fun c hc _ => hold c hc, fun b hb => .inl ⟨hb, rfl⟩, fun o B hF => ?_, fun b hb => .inl hb, p.os, p.tape, p.output⟩, fun b hb => ?_, fun B hB => ?_⟩
  · rcases hF with hF | ⟨h1, _⟩
    · exact .inl hF
    · exact .inr h1
  · rcases p.img b hb with ⟨hd, _⟩ | h1
    · cases hd
    · exact .inr ⟨h1, (alive_image p.sim hb).1, .inr ⟨b, hb, rfl⟩⟩
  · rcases hnew B hB with h1 | h1
    · exact .inl h1
    · exact .inr ⟨h1, p.sim.fz true B hB, .inl hB⟩

theorem BlkOK.carry {g1 : G} {h1 : Nat → Blk} {hp : Array Obj} {b : Nat} {x : Blk} (hx : BlkOK g h hp b x) (hok : okB x = true) (hK : FK g g1 hp hp true) (hL : Live g h g1 h1)
    (hm : g1.m b = g.m b) (hsh : g1.sh b = g.sh b) (hsz : g1.sz b = g.sz b) (hF : (∀ o, ¬ g.F o (g.m b)) → ∀ o, ¬ g1.F o (g.m b)) : BlkOK g1 h1 hp b x := by
  cases x with
  | dead => trivial
  | cells cs =>
    obtain ⟨a1, a2, a3, c, ty, fr, L, a4, a5, a6, a7, a8, a9⟩ := hx
    exact ⟨hL.dom b a1, a2, by rw [hm]; exact hF a3, c, ty, fr, L, by rw [hm]; exact a4, by rw [hsz]; exact a5, a6.carry true true hok hK (fun _ => hL), by rw [hsh]; exact a7, a8, by rw [hsh]; exact a9⟩
  | map es clock =>
    obtain ⟨a1, a3, ents, a4, a5, a6⟩ := hx
    exact ⟨hL.dom b a1, by rw [hm]; exact hF a3, ents, by rw [hm]; exact a4, a5, a6.carry true true hok hK (fun _ => hL)⟩
  | sit s pos =>
    obtain ⟨a1, a3, a4⟩ := hx
    exact ⟨hL.dom b a1, by rw [hm]; exact hF a3, by rw [hm]; exact a4⟩
  | mit m since seen st =>
    obtain ⟨a1, a3, r, a4, a5⟩ := hx
    refine ⟨hL.dom b a1, by rw [hm]; exact hF a3, r, by rw [hm]; exact a4, ?_⟩
    cases m with
    | none => exact a5
    | some mb =>
      obtain ⟨d, r', hr', hi⟩ := a5
      exact ⟨hL.dom mb d, r', hr', fun ho => by obtain ⟨p, q⟩ := hL.obj mb d ho; rw [q]; exact hi p⟩

/-- Behind a call that was told of nothing live, whose new blocks stay alive. -/
theorem fresh_post (S : Sim g h w.heap) {k0 k1 : Nat} {g2 : G} {h2 : Nat → Blk} (p : Post (borrow g h) deadH w k0 k1 g2 h2 w') (hfree : ∀ b, g.dom b → ¬ (k0 ≤ b ∧ b < k1))
    (hok : ∀ b, k0 ≤ b → b < k1 → okB (h2 b) = true) {h3 : Nat → Blk} (ho : ∀ b, ¬ (k0 ≤ b ∧ b < k1) → h3 b = h b) (hn : ∀ b, k0 ≤ b → b < k1 → h3 b = h2 b) :
    ∃ g3, Post g h w k0 k1 g3 h3 w' ∧ ∀ a v, okV true true a = true → VR g2 h2 w'.heap a v → VR g3 h3 w'.heap a v := by
  let g3 : G := ⟨fun b => if k0 ≤ b ∧ b < k1 then g2.m b else g.m b, fun b => if k0 ≤ b ∧ b < k1 then g2.sh b else g.sh b, fun b => if k0 ≤ b ∧ b < k1 then g2.sz b else g.sz b,
    fun b => g.dom b ∨ g2.dom b, fun o B => g.F o B ∨ (w.heap.size ≤ B ∧ B < w'.heap.size ∧ g2.F true B), g.yv⟩
  have hin : ∀ b, k0 ≤ b ∧ b < k1 → g3.m b = g2.m b ∧ g3.sh b = g2.sh b ∧ g3.sz b = g2.sz b := fun b hb => by simp [g3, hb]
  have hout : ∀ b, ¬ (k0 ≤ b ∧ b < k1) → g3.m b = g.m b ∧ g3.sh b = g.sh b ∧ g3.sz b = g.sz b := fun b hb => by simp only [g3, if_neg hb]; exact ⟨trivial, trivial, trivial⟩
  have hd2 : ∀ b, g2.dom b → k0 ≤ b ∧ b < k1 := fun b hb => by
    rcases p.dom b hb with hf | hf
    · exact hf.elim
    · exact hf
  have hold : ∀ c, c < w.heap.size → w'.heap[c]? = w.heap[c]? := fun c hc => p.frame c hc fun b hb => by cases hb
  have hnew : ∀ B, g2.F true B → g.F true B ∨ w.heap.size ≤ B := fun B hB => by
    rcases p.F true B hB with hF | hF
    · rcases hF with hF | ⟨e, _⟩
      · exact .inl hF
      · cases e
    · exact .inr hF
  have E : Ext g h w.heap g3 h3 w'.heap := by
    refine ⟨fun _ h => .inl h, fun b cs' hb hc => ?_, fun b hb hob => ?_, fun _ _ h => .inl h, fun o B hF => hold B (S.fz o B hF), rfl⟩
    · have hb' := hfree b hb
      rw [ho b hb'] at hc
      exact ⟨cs', hc, Nat.le_refl _, fun _ => hout b hb'⟩
    · have hb' := hfree b hb
      rw [ho b hb'] at hob
      exact ⟨hob, (hout b hb').1⟩
  have hL : Live g2 h2 g3 h3 := by
    refine ⟨fun _ h => .inr h, fun b cs' hb hc => ?_, fun b hb hob => ?_, p.ext.yv.symm⟩
    · have hb' := hd2 b hb
      rw [hn b hb'.1 hb'.2] at hc
      exact ⟨cs', hc, Nat.le_refl _, fun _ => hin b hb'⟩
    · have hb' := hd2 b hb
      rw [hn b hb'.1 hb'.2] at hob
      exact ⟨hob, (hin b hb').1⟩
  have hK : FK g2 g3 w'.heap w'.heap true := fun o B hoo hF => by
    have : o = true := by simpa using hoo
    subst this
    refine ⟨?_, rfl⟩
    rcases hnew B hF with h1 | h1
    · exact .inl h1
    · exact .inr ⟨h1, p.sim.fz true B hF, hF⟩
  have himg : ∀ b, alive (h2 b) = true → w.heap.size ≤ g2.m b := fun b hb => by
    rcases p.img b hb with ⟨hd, _⟩ | h1
    · cases hd
    · exact h1
  have hS : Sim g3 h3 w'.heap := by
    refine ⟨fun b => ?_, fun b b' hb hb' e => ?_, fun o B hF => ?_, fun B hF => ?_⟩
    · by_cases hi : k0 ≤ b ∧ b < k1
      · rw [hn b hi.1 hi.2]
        by_cases ha : alive (h2 b) = true
        · refine (p.sim.blk b).carry (hok b hi.1 hi.2) hK hL (hin b hi).1 (hin b hi).2.1 (hin b hi).2.2 fun hno o hF => ?_
          rcases hF with hF | ⟨_, _, hF⟩
          · have := S.fz o _ hF; have := himg b ha; omega
          · exact hno true hF
        · have : h2 b = .dead := by cases hx : h2 b <;> simp_all [alive]
          rw [this]; trivial
      · rw [ho b hi]
        by_cases ha : alive (h b) = true
        · have hlt := (alive_image S ha).1
          refine (S.blk b).mono E (hout b hi).1 (hout b hi).2.1 (hout b hi).2.2 (fun o hnF hF => ?_) fun _ => hold _ hlt
          rcases hF with hF | ⟨h1, _⟩
          · exact hnF hF
          · omega
        · have : h b = .dead := by cases hx : h b <;> simp_all [alive]
          rw [this]; trivial
    · by_cases h1 : k0 ≤ b ∧ b < k1
      · rw [hn b h1.1 h1.2] at hb
        by_cases h2' : k0 ≤ b' ∧ b' < k1
        · rw [hn b' h2'.1 h2'.2] at hb'
          rw [(hin b h1).1, (hin b' h2').1] at e
          exact p.sim.inj b b' hb hb' e
        · rw [ho b' h2'] at hb'
          rw [(hin b h1).1, (hout b' h2').1] at e
          have := himg b hb; have := (alive_image S hb').1; omega
      · rw [ho b h1] at hb
        by_cases h2' : k0 ≤ b' ∧ b' < k1
        · rw [hn b' h2'.1 h2'.2] at hb'
          rw [(hout b h1).1, (hin b' h2').1] at e
          have := himg b' hb'; have := (alive_image S hb).1; omega
        · rw [ho b' h2'] at hb'
          rw [(hout b h1).1, (hout b' h2').1] at e
          exact S.inj b b' hb hb' e
    · rcases hF with hF | ⟨_, h2, _⟩
      · have := S.fz o B hF; have := p.size; omega
      · exact h2
    · rcases hF with hF | hF
      · exact .inl (S.sub B hF)
      · exact .inr hF
  refine ⟨g3, ⟨hS, E, p.size, fun c hc _ => hold c hc, fun b hb => ?_, fun o B hF => ?_, fun b hb => ?_, p.os, p.tape, p.output⟩, fun a v ha hv => hv.carry true true ha hK fun _ => hL⟩
  · by_cases hi : k0 ≤ b ∧ b < k1
    · rw [hn b hi.1 hi.2] at hb
      right; rw [(hin b hi).1]; exact himg b hb
    · rw [ho b hi] at hb
      exact .inl ⟨hb, (hout b hi).1⟩
  · rcases hF with hF | ⟨h1, _⟩
    · exact .inl hF
    · exact .inr h1
  · rcases hb with hb | hb
    · exact .inl hb
    · exact .inr (hd2 b hb)

/-- What is known of a call. -/
def CallOK (P : Program) (gl : Nat → Option (List AV)) (f : FuncId) (args : List AV) (L : List Blk) (v : AV) (L' : List Blk) : Prop :=
  L.length ≤ L'.length ∧ ∀ (g : G) (w : World) (A : List Value), Sim g (hget L) w.heap → GlOK gl g (hget L) w.heap → VRL g (hget L) w.heap args A → (∀ b, g.dom b → b < L.length) →
    Calls P f A.toArray w fun e w' => ∃ u g', e = .returned u ∧ VR g' (hget L') w'.heap v u ∧ Post g (hget L) w L.length L'.length g' (hget L') w'

def CallsOK (P : Program) (gl : Nat → Option (List AV)) (call : CallF) : Prop := ∀ f args L v L', call f args L = some (v, L') → CallOK P gl f args L v L'
def ExtOK (P : Program) (gl : Nat → Option (List AV)) (ext : ExtF) : Prop := ∀ f args v, ext f args = some v → CallOK P gl f args [] v []

theorem hget_nil : hget [] = deadH := by funext b; simp [hget, deadH]
theorem hget_dead (L : List Blk) : hget (L.map fun _ => .dead) = deadH := by
  funext b
  simp only [hget, deadH, List.getD_eq_getElem?_getD, List.getElem?_map]
  cases L[b]? <;> rfl
end call
end Go.Xv

namespace Go.Xv

def touched (rc : Rec) (b : Nat) : Bool := rc.big || rc.wr.contains b || rc.al.contains b
def after (rc : Rec) (L' : List Blk) (h : Nat → Blk) : Nat → Blk := fun b => if touched rc b then hget L' b else h b

theorem updAll_out {h : Nat → Blk} {b : Nat} : ∀ {wr : List (Nat × Blk)}, (∀ p ∈ wr, p.1 ≠ b) → updAll h wr b = h b
  | [], _ => rfl
  | (c, x) :: r, hb => by
    rw [updAll, updAll_out fun p hp => hb p (by simp [hp]), upd_ne _ _ (fun e => hb (c, x) (by simp) e.symm)]

theorem updAll_in {h h2 : Nat → Blk} {b : Nat} : ∀ {wr : List (Nat × Blk)}, (h b = h2 b ∨ ∃ p ∈ wr, p.1 = b) → updAll h wr b = updAll h2 wr b
  | [], hb => by
    rcases hb with hb | ⟨p, hp, _⟩
    · exact hb
    · cases hp
  | (c, x) :: r, hb => by
    rw [updAll, updAll]
    refine updAll_in ?_
    by_cases hc : b = c
    · subst hc; left; rw [upd_same, upd_same]
    · rw [upd_ne _ _ hc, upd_ne _ _ hc]
      rcases hb with hb | ⟨p, hp, e⟩
      · exact .inl hb
      · rcases List.mem_cons.1 hp with rfl | hp
        · exact absurd e.symm hc
        · exact .inr ⟨p, hp, e⟩

theorem allocs_out {h : Nat → Blk} {b : Nat} : ∀ {al : List Blk} {k : Nat}, ¬ (k ≤ b ∧ b < k + al.length) → allocs h k al b = h b
  | [], _, _ => rfl
  | x :: r, k, hb => by
    simp only [List.length_cons] at hb
    rw [allocs, allocs_out (by omega), upd_ne _ _ (by omega)]

theorem allocs_in {h h2 : Nat → Blk} {b : Nat} : ∀ {al : List Blk} {k : Nat}, (h b = h2 b ∨ (k ≤ b ∧ b < k + al.length)) → allocs h k al b = allocs h2 k al b
  | [], _, hb => by
    rcases hb with hb | hb
    · exact hb
    · simp at hb; omega
  | x :: r, k, hb => by
    rw [allocs, allocs]
    simp only [List.length_cons] at hb
    refine allocs_in ?_
    by_cases hc : b = k
    · subst hc; left; rw [upd_same, upd_same]
    · rw [upd_ne _ _ hc, upd_ne _ _ hc]
      rcases hb with hb | hb
      · exact .inl hb
      · exact .inr (by omega)

theorem hget_set {L : List Blk} {b : Nat} {x : Blk} (hb : b < L.length) : hget (L.set b x) = upd (hget L) b x := by
  funext c
  simp only [hget, List.getD_eq_getElem?_getD, upd]
  by_cases hc : c = b
  · subst hc; simp [hb]
  · simp only [if_neg hc]; rw [List.getElem?_set_ne (Ne.symm hc)]

theorem hget_wrAll : ∀ {wr : List (Nat × Blk)} {L : List Blk}, (∀ p ∈ wr, p.1 < L.length) → hget (wrAll L wr) = updAll (hget L) wr ∧ (wrAll L wr).length = L.length
  | [], _, _ => ⟨rfl, rfl⟩
  | (b, x) :: r, L, hb => by
    obtain ⟨h1, h2⟩ := hget_wrAll (wr := r) (L := L.set b x) fun p hp => by rw [List.length_set]; exact hb p (by simp [hp])
    exact ⟨by rw [wrAll, h1, hget_set (hb (b, x) (by simp))]; rfl, by rw [wrAll, h2, List.length_set]⟩

theorem hget_append : ∀ (al : List Blk) (L : List Blk), hget (L ++ al) = allocs (hget L) L.length al
  | [], L => by simp [allocs]
  | x :: r, L => by
    have h1 : L ++ x :: r = (L ++ [x]) ++ r := by simp
    rw [h1, hget_append r (L ++ [x]), allocs]
    have h2 : hget (L ++ [x]) = upd (hget L) L.length x := by
      funext c
      simp only [hget, List.getD_eq_getElem?_getD, upd]
      by_cases hc : c = L.length
      · subst hc; simp
      · simp only [if_neg hc]
        rcases Nat.lt_or_ge c L.length with h | h
        · rw [List.getElem?_append_left h]
        · rw [List.getElem?_eq_none (by simp; omega), List.getElem?_eq_none h]
    rw [h2]
    simp

section step
variable {P : Program} {gl : Nat → Option (List AV)} {ext : ExtF} {md : FuncId → Nat} {call : CallF}

theorem mem_range_add {n k b : Nat} : ((List.range n).map (· + k)).contains b = true ↔ k ≤ b ∧ b < k + n := by
  simp only [List.contains_iff_mem, List.mem_map, List.mem_range]
  constructor
  · rintro ⟨x, hx, rfl⟩; omega
  · intro h; exact ⟨b - k, by omega, by omega⟩

theorem callee_same {t t' : Tmps} {o : Oper} (ht : ∀ x ∈ o.op.operands, evO gl t' x = evO gl t x) : callee gl t' o = callee gl t o := by
  unfold callee
  cases ho : o.op with
  | call c =>
    simp only [ho, Op.operands, Call.operands] at ht ⊢
    cases hc : c.callee with
    | value f =>
      simp only [hc] at ht ⊢
      rw [ht f (by simp), mapM_same c.args.toList fun x hx => ht x (by simp; right; simpa using hx)]
    | _ => rfl
  | _ => rfl

theorem callee_sound {t : Tmps} {o : Oper} {f : FuncId} {args : List AV} (hc : callee gl t o = some (some (f, args))) {g : G} {h : Nat → Blk} {w : World} {a : Act} (hgl : GlOK gl g h w.heap)
    (ht : VRL g h w.heap t a.tmps.toList) : ∃ V : List Value, VRL g h w.heap args V ∧ execOp a.eval o = callFunc f V.toArray := by
  unfold callee at hc
  split at hc
  case h_2 => cases hc
  rename_i c ho
  split at hc
  case h_2 => cases hc
  rename_i fo hcal
  split at hc
  case h_2 => cases hc
  rename_i gid first cap hf
  cases hl : c.args.toList.mapM (evO gl t) with
  | none => simp [hl] at hc
  | some l =>
  simp only [hl, Option.map_some, Option.some.injEq, Prod.mk.injEq] at hc
  obtain ⟨rfl, rfl⟩ := hc
  have h1 := evO_sound hgl ht hf
  have h2 := evOs_sound hgl ht hl
  generalize hfv : a.eval fo = fv at h1
  cases h1 with
  | fn _ _ _ A B hA hB =>
    refine ⟨A ++ c.args.toList.map a.eval ++ B, (hA.append h2).append hB, ?_⟩
    simp only [execOp, ho, resolve, hcal, hfv, Deferred.ofValue, invoke, pure_bind]
    congr 1
    apply Array.ext'
    simp

theorem mapW_frame {f f' : AV → Option (AV × List Nat)} {h h' : Nat → Blk} (hf : ∀ a a' r, f a = some (a', r) → (∀ b ∈ r, h' b = h b) → f' a = some (a', r)) :
    ∀ (l l' : List AV) (r : List Nat), mapW f l = some (l', r) → (∀ b ∈ r, h' b = h b) → mapW f' l = some (l', r)
  | [], l', r, hm, _ => hm
  | a :: l, l', r, hm, hr => by
    simp only [mapW, Option.bind_eq_some_iff, Option.some.injEq, Prod.mk.injEq] at hm ⊢
    obtain ⟨⟨a', r1⟩, h1, ⟨l1, r2⟩, h2, rfl, rfl⟩ := hm
    exact ⟨(a', r1), hf a a' r1 h1 (fun b hb => hr b (List.mem_append_left _ hb)), (l1, r2), mapW_frame hf l l1 r2 h2 (fun b hb => hr b (List.mem_append_right _ hb)), rfl, rfl⟩

theorem deep_frame {own : Bool} {h h' : Nat → Blk} : ∀ (n : Nat) (a a' : AV) (r : List Nat), deep own h n a = some (a', r) → (∀ b ∈ r, h' b = h b) → deep own h' n a = some (a', r)
  | 0, a, a', r, hd, _ => by simp [deep] at hd
  | n + 1, a, a', r, hd, hr => by
    have ih := mapW_frame (h := h) (h' := h') (deep_frame (own := own) (h := h) (h' := h') n)
    cases a with
    | ptr b ver off =>
      simp only [deep, Option.bind_eq_some_iff, Option.some.injEq, Prod.mk.injEq] at hd ⊢
      obtain ⟨cs, h2, ⟨cs', r'⟩, h3, rfl, rfl⟩ := hd
      exact ⟨cs, by rw [curCells_frame (hr b (by simp))]; exact h2, (cs', r'), ih _ _ _ h3 (fun b hb => hr b (by simp [hb])), rfl, rfl⟩
    | sl s ag b off len cap =>
      simp only [deep, Option.bind_eq_some_iff] at hd ⊢
      obtain ⟨cs, h2, hd⟩ := hd
      split at hd
      case isFalse => cases hd
      rename_i hcond
      simp only [Option.bind_eq_some_iff, Option.some.injEq, Prod.mk.injEq] at hd
      obtain ⟨⟨p', r'⟩, h3, rfl, rfl⟩ := hd
      refine ⟨cs, by rw [curCells_frame (hr b (by simp))]; exact h2, ?_⟩
      rw [if_pos hcond]
      simp only [Option.bind_eq_some_iff, Option.some.injEq, Prod.mk.injEq]
      exact ⟨(p', r'), ih _ _ _ h3 (fun b hb => hr b (by simp [hb])), rfl, rfl⟩
    | mp b =>
      simp only [deep] at hd ⊢
      have hb : b ∈ r := by
        split at hd
        · simp only [Option.bind_eq_some_iff, Option.some.injEq, Prod.mk.injEq] at hd
          obtain ⟨⟨p', r'⟩, h3, rfl, rfl⟩ := hd
          simp
        · cases hd
      rw [hr b hb]
      split at hd
      · simp only [Option.bind_eq_some_iff, Option.some.injEq, Prod.mk.injEq] at hd ⊢
        obtain ⟨⟨p', r'⟩, h3, rfl, rfl⟩ := hd
        exact ⟨(p', r'), ih _ _ _ h3 (fun b hb => hr b (by simp [hb])), rfl, rfl⟩
      · cases hd
    | agg cs =>
      simp only [deep, Option.bind_eq_some_iff, Option.some.injEq, Prod.mk.injEq] at hd ⊢
      obtain ⟨⟨p', r'⟩, h3, rfl, rfl⟩ := hd
      exact ⟨(p', r'), ih _ _ _ h3 hr, rfl, rfl⟩
    | tup cs =>
      simp only [deep, Option.bind_eq_some_iff, Option.some.injEq, Prod.mk.injEq] at hd ⊢
      obtain ⟨⟨p', r'⟩, h3, rfl, rfl⟩ := hd
      exact ⟨(p', r'), ih _ _ _ h3 hr, rfl, rfl⟩
    | fn f x y =>
      simp only [deep, Option.bind_eq_some_iff, Option.some.injEq, Prod.mk.injEq] at hd ⊢
      obtain ⟨⟨x', r1⟩, h3, ⟨y', r2⟩, h4, rfl, rfl⟩ := hd
      exact ⟨(x', r1), ih _ _ _ h3 (fun b hb => hr b (by simp [hb])), (y', r2), ih _ _ _ h4 (fun b hb => hr b (by simp [hb])), rfl, rfl⟩
    | _ => exact hd

theorem deepL_frame {own : Bool} {h h' : Nat → Blk} {n : Nat} {l l' : List AV} {r : List Nat} (hd : deepL own h n l = some (l', r)) (hr : ∀ b ∈ r, h' b = h b) : deepL own h' n l = some (l', r) :=
  mapW_frame (deep_frame n) l l' r hd hr

theorem callFunc_enter {f : FuncId} {fn : Func} {V : Array Value} {w : World} (hf : P.funcs[f]? = some fn) (hb : fn.body.isNone = false) (hn : (fn.name == "runtime.NumGoroutine") = false) :
    (callFunc f V).run P w = .ok (.enter f V) w := by
  unfold callFunc
  have : purely P program = some P := rfl
  rw [run_andThen this]
  simp [hf, hb, hn]

theorem after_none {rc : Rec} {L' : List Blk} {h : Nat → Blk} (h1 : rc.big = false) (h2 : rc.wr = []) (h3 : rc.al = []) : after rc L' h = h := by
  funext b; simp [after, touched, h1, h2, h3]

theorem step_sound (hcall : CallsOK P gl call) (hext : ExtOK P gl ext) (hNG : ∀ (f : FuncId) (fn : Func), P.funcs[f]? = some fn → fn.body.isNone = false → (fn.name == "runtime.NumGoroutine") = false)
    {t t' : Tmps} {L L' : List Blk} {i : Nat} {o : Oper} {v : AV} {rc : Rec} (hs : stepOp P gl ext md call t L i o = some (v, L', rc)) {h' : Nat → Blk}
    (ht' : ∀ x ∈ o.op.operands, evO gl t' x = evO gl t x) (hbig : rc.big = true → h' = hget L) (hrd : ∀ b ∈ rc.rd, h' b = hget L b)
    {g : G} {w : World} {a : Act} (S : Sim g h' w.heap) (hgl : GlOK gl g h' w.heap) (ht : VRL g h' w.heap t' a.tmps.toList) (hfree : ∀ b, g.dom b → ¬ (L.length ≤ b ∧ b < L'.length))
    (hbd : rc.big = true → ∀ b, g.dom b → b < L.length) {next : Act → World → Prop} {Q : Exit → Act → World → Prop}
    (hn : ∀ u g' w', VR g' (after rc L' h') w'.heap v u → Post g h' w L.length L'.length g' (after rc L' h') w' → next (a.put o.dst u) w') : o.wp P a w next Q := by
  unfold stepOp at hs
  obtain ⟨c, hc, hs⟩ := Option.bind_eq_some_iff.1 hs
  have hc' : callee gl t' o = some c := by rw [callee_same ht']; exact hc
  unfold Oper.wp
  cases c with
  | some fa =>
    obtain ⟨f, args⟩ := fa
    simp only [] at hs
    obtain ⟨fn, hfn, hs⟩ := Option.bind_eq_some_iff.1 hs
    obtain ⟨V, hV, hex⟩ := callee_sound hc' hgl ht
    rw [hex]
    split at hs
    · -- no body
      obtain ⟨v1, hx, hs⟩ := Option.bind_eq_some_iff.1 hs
      simp only [Option.some.injEq, Prod.mk.injEq] at hs
      obtain ⟨rfl, rfl, rfl⟩ := hs
      unfold externA at hx
      simp only [Option.bind_eq_bind, Option.bind_eq_some_iff] at hx
      obtain ⟨vs, h1, nx, h2, hx⟩ := hx
      have := toVs_sound hV h1
      subst this
      split at hx
      case h_2 => cases hx
      rename_i u
      rw [purely_run h2 w]
      have ha : after { i := i, loud := false, big := false, rd := [], wr := [], al := [] } L h' = h' := after_none rfl rfl rfl
      exact hn u g w (by rw [ha]; exact VR.of_ofV hx) (by rw [ha]; exact Post.refl S _ _)
    · rename_i hbody
      have hbody' : fn.body.isNone = false := by revert hbody; cases fn.body.isNone <;> simp
      rw [callFunc_enter hfn hbody' (hNG f fn hfn hbody')]
      simp only [Oper.upon]
      split at hs
      · -- told from outside
        simp only [Option.bind_eq_some_iff] at hs
        obtain ⟨⟨args', rd⟩, h1, v1, h2, hs⟩ := hs
        split at hs
        case isFalse => cases hs
        rename_i hok
        simp only [Option.some.injEq, Prod.mk.injEq] at hs
        obtain ⟨rfl, rfl, rfl⟩ := hs
        have hargs := borrow_args S (deepL_frame h1 hrd) hV
        have ha : after { i := i, loud := !rd.isEmpty, big := false, rd := rd, wr := [], al := [] } L h' = h' := after_none rfl rfl rfl
        refine Calls.mono ((hext f args' v1 h2).2 (borrow g h') w V (by rw [hget_nil]; exact borrow_sim S) (by rw [hget_nil]; exact borrow_gl hgl) (by rw [hget_nil]; exact hargs) (fun b hb => hb.elim)) fun e w' he => ?_
        obtain ⟨u, g2, rfl, hu, hp⟩ := he
        rw [hget_nil] at hu hp
        obtain ⟨g3, p3, q1, q2⟩ := iso_post S hp L.length L.length
        refine hn u g3 w' ?_ (by rw [ha]; exact p3)
        rw [ha]
        exact hu.carry false true hok (fun o B hoo hF => by
          have : o = true := by simpa using hoo
          subst this; exact ⟨q2 B hF, rfl⟩) (fun e => by cases e)
      · -- the caller's heap
        obtain ⟨⟨v1, L1⟩, h1, hs⟩ := Option.bind_eq_some_iff.1 hs
        simp only [Option.some.injEq, Prod.mk.injEq] at hs
        obtain ⟨rfl, rfl, rfl⟩ := hs
        have := hbig rfl
        subst this
        have ha : after { i := i, loud := true, big := true, rd := [], wr := [], al := [] } L1 (hget L) = hget L1 := by funext b; simp [after, touched]
        refine Calls.mono ((hcall f args L v1 L1 h1).2 g w V S hgl hV (hbd rfl)) fun e w' he => ?_
        obtain ⟨u, g2, rfl, hu, hp⟩ := he
        exact hn u g2 w' (by rw [ha]; exact hu) (by rw [ha]; exact hp)
      · -- new blocks stay
        simp only [Option.bind_eq_some_iff] at hs
        obtain ⟨⟨args', rd⟩, h1, ⟨v1, L1⟩, h2, hs⟩ := hs
        simp only [] at hs h2
        split at hs
        case isFalse => cases hs
        rename_i hok
        simp only [Bool.and_eq_true, List.all_eq_true] at hok
        simp only [Option.some.injEq, Prod.mk.injEq] at hs
        obtain ⟨rfl, rfl, rfl⟩ := hs
        have hargs := borrow_args S (deepL_frame h1 hrd) hV
        obtain ⟨hlen, hrun⟩ := hcall f args' _ v1 L1 h2
        rw [hget_dead] at hrun
        simp only [List.length_map] at hlen hrun
        have hll : (L ++ L1.drop L.length).length = L1.length := by simp; omega
        have hge : ∀ b, L.length ≤ b → hget (L ++ L1.drop L.length) b = hget L1 b := fun b hb => by
          simp only [hget, List.getD_eq_getElem?_getD]
          rw [List.getElem?_append_right hb, List.getElem?_drop]
          congr 2; omega
        generalize hrc : ({ i := i, loud := !(rd.isEmpty && (L1.drop L.length).isEmpty), big := false, rd := rd, wr := [], al := (List.range (L1.drop L.length).length).map (· + L.length) } : Rec) = rc at *
        have htc : ∀ b, touched rc b = true ↔ L.length ≤ b ∧ b < L1.length := fun b => by
          rw [← hrc]
          simp only [touched, Bool.false_or, List.contains_nil]
          rw [mem_range_add, List.length_drop]
          omega
        refine Calls.mono (hrun (borrow g h') w V (borrow_sim S) (borrow_gl hgl) hargs (fun b hb => hb.elim)) fun e w' he => ?_
        obtain ⟨u, g2, rfl, hu, hp⟩ := he
        obtain ⟨g3, p3, q⟩ := fresh_post S hp (by rw [hll] at hfree; exact hfree) (fun b hb1 hb2 => by
          have : hget L1 b = (L1.drop L.length)[b - L.length]'(by simp; omega) := by
            simp only [hget, List.getD_eq_getElem?_getD, List.getElem_drop]
            rw [List.getElem?_eq_getElem hb2]
            simp only [Option.getD_some]
            congr 1; omega
          rw [this]
          exact hok.2 _ (List.getElem_mem _)) (h3 := after rc (L ++ L1.drop L.length) h')
          (fun b hb => by rw [after, if_neg (by rw [htc]; exact hb)])
          (fun b hb1 hb2 => by rw [after, if_pos ((htc b).2 ⟨hb1, hb2⟩), hge b hb1])
        exact hn u g3 w' (q v1 u hok.1 hu) (by rw [hll]; exact p3)
      · -- a heap of its own
        simp only [Option.bind_eq_some_iff] at hs
        obtain ⟨⟨args', rd⟩, h1, ⟨v1, L1⟩, h2, ⟨v2, r2⟩, h3, hs⟩ := hs
        simp only [] at hs h2 h3
        simp only [Option.some.injEq, Prod.mk.injEq] at hs
        obtain ⟨rfl, rfl, rfl⟩ := hs
        have hargs := borrow_args S (deepL_frame h1 hrd) hV
        have ha : after { i := i, loud := !rd.isEmpty, big := false, rd := rd, wr := [], al := [] } L h' = h' := after_none rfl rfl rfl
        refine Calls.mono ((hcall f args' [] v1 L1 h2).2 (borrow g h') w V (by rw [hget_nil]; exact borrow_sim S) (by rw [hget_nil]; exact borrow_gl hgl) (by rw [hget_nil]; exact hargs) (fun b hb => hb.elim)) fun e w' he => ?_
        obtain ⟨u, g2, rfl, hu, hp⟩ := he
        rw [hget_nil] at hp
        obtain ⟨g3, p3, q1, q2⟩ := iso_post S hp L.length L.length
        refine hn u g3 w' ?_ (by rw [ha]; exact p3)
        rw [ha]
        exact (deep_sound hp.sim (own := true) (g1 := g3) (h1 := h') q1 (fun o B hoo hF => by
          have : o = true := by simpa using hoo
          subst this; exact q2 B hF) dpt v1 v2 r2 u h3 hu).vr
  | none =>
    simp only [] at hs
    obtain ⟨e, he, hs⟩ := Option.bind_eq_some_iff.1 hs
    split at hs
    case isFalse => cases hs
    rename_i hwr
    simp only [Option.some.injEq, Prod.mk.injEq] at hs
    obtain ⟨rfl, rfl, rfl⟩ := hs
    have hw1 : ∀ p ∈ e.wr, p.1 < L.length := fun p hp => by
      have := List.all_eq_true.1 hwr p hp
      simp only [Bool.and_eq_true, Nat.blt_eq] at this
      exact this.1
    obtain ⟨hwA, hwL⟩ := hget_wrAll hw1
    have hlen : (wrAll L e.wr ++ e.al).length = L.length + e.al.length := by simp [hwL]
    have hnew : hget (wrAll L e.wr ++ e.al) = newH (hget L) L.length e := by
      rw [hget_append, hwL, hwA]; rfl
    have he' : evOp P gl t' h' L.length o = some e := evOp_frame (by rw [evOp_tmps ht']; exact he) hrd
    have hgood := evOp_good S hgl ht he' (fun hal hd => hfree _ hd ⟨Nat.le_refl _, by
      rw [hlen]
      have : 0 < e.al.length := List.length_pos_iff.2 hal
      omega⟩)
    obtain ⟨nx, u, w', g', hr, hnx, hp, hv⟩ := hgood
    generalize hrc : ({ i := i, loud := !(e.rd.isEmpty && e.al.isEmpty), big := false, rd := e.rd, wr := e.wr.map (·.1), al := (List.range e.al.length).map (· + L.length) } : Rec) = rc at *
    have haf : after rc (wrAll L e.wr ++ e.al) h' = newH h' L.length e := by
      funext b
      have htc : touched rc b = true ↔ (∃ p ∈ e.wr, p.1 = b) ∨ (L.length ≤ b ∧ b < L.length + e.al.length) := by
        rw [← hrc]
        simp only [touched, Bool.false_or, Bool.or_eq_true]
        rw [mem_range_add]
        simp only [List.contains_iff_mem, List.mem_map]
      simp only [after]
      by_cases hb : touched rc b = true
      · rw [if_pos hb, hnew]
        unfold newH
        rcases htc.1 hb with h1 | h1
        · exact allocs_in (.inl (updAll_in (.inr h1)))
        · exact allocs_in (.inr h1)
      · rw [if_neg hb]
        unfold newH
        rw [allocs_out (fun h1 => hb (htc.2 (.inr h1))), updAll_out fun p hp e => hb (htc.2 (.inl ⟨p, hp, e⟩))]
    rw [hr]
    rw [← haf] at hp hv
    rw [← hlen] at hp
    have := hn u g' w' hv hp
    cases nx with
    | value x => simp only [nextV, Option.some.injEq] at hnx; subst hnx; exact this
    | skip => simp only [nextV, Option.some.injEq] at hnx; subst hnx; exact this
    | _ => simp [nextV] at hnx
end step
end Go.Xv

namespace Go.Xv

section seq
variable {P : Program} {gl : Nat → Option (List AV)} {ext : ExtF} {md : FuncId → Nat} {call : CallF}

/-- What an operation's record tells of the heaps ahead of it and behind it. -/
structure Shape (L L' : List Blk) (rc : Rec) : Prop where
  len : L.length ≤ L'.length
  out : ∀ b, touched rc b = false → hget L' b = hget L b
  wr : ∀ b, b ∈ rc.wr → b ∈ rc.rd
  al : ∀ b, b ∈ rc.al ↔ rc.big = false ∧ L.length ≤ b ∧ b < L'.length
  quiet : rc.loud = false → rc.rd = [] ∧ rc.wr = [] ∧ rc.al = [] ∧ rc.big = false

theorem step_shape (hcall : CallsOK P gl call) {t : Tmps} {L L' : List Blk} {i : Nat} {o : Oper} {v : AV} {rc : Rec} (hs : stepOp P gl ext md call t L i o = some (v, L', rc)) : Shape L L' rc := by
  unfold stepOp at hs
  obtain ⟨c, hc, hs⟩ := Option.bind_eq_some_iff.1 hs
  have hsame : ∀ {rd : List Nat} {ld : Bool}, (ld = false → rd = []) → Shape L L { i := i, loud := ld, big := false, rd := rd, wr := [], al := [] } := fun hl =>
    ⟨Nat.le_refl _, fun b _ => rfl, fun b hb => (by cases hb), fun b => ⟨fun hb => (by cases hb), fun hb => (by omega)⟩, fun hq => ⟨hl hq, rfl, rfl, rfl⟩⟩
  cases c with
  | some fa =>
    obtain ⟨f, args⟩ := fa
    simp only [] at hs
    obtain ⟨fn, hfn, hs⟩ := Option.bind_eq_some_iff.1 hs
    split at hs
    · obtain ⟨v1, hx, hs⟩ := Option.bind_eq_some_iff.1 hs
      simp only [Option.some.injEq, Prod.mk.injEq] at hs
      obtain ⟨rfl, rfl, rfl⟩ := hs
      exact hsame fun _ => rfl
    · split at hs
      · simp only [Option.bind_eq_some_iff] at hs
        obtain ⟨⟨args', rd⟩, h1, v1, h2, hs⟩ := hs
        split at hs
        case isFalse => cases hs
        simp only [Option.some.injEq, Prod.mk.injEq] at hs
        obtain ⟨rfl, rfl, rfl⟩ := hs
        exact hsame fun hl => by simpa using hl
      · obtain ⟨⟨v1, L1⟩, h1, hs⟩ := Option.bind_eq_some_iff.1 hs
        simp only [Option.some.injEq, Prod.mk.injEq] at hs
        obtain ⟨rfl, rfl, rfl⟩ := hs
        exact ⟨(hcall f args L v1 L1 h1).1, fun b hb => by simp [touched] at hb, fun b hb => (by cases hb), fun b => ⟨fun hb => (by cases hb), fun hb => (by simp at hb)⟩, fun hq => by cases hq⟩
      · simp only [Option.bind_eq_some_iff] at hs
        obtain ⟨⟨args', rd⟩, h1, ⟨v1, L1⟩, h2, hs⟩ := hs
        simp only [] at hs h2
        split at hs
        case isFalse => cases hs
        simp only [Option.some.injEq, Prod.mk.injEq] at hs
        obtain ⟨rfl, rfl, rfl⟩ := hs
        have hlen := (hcall f args' _ v1 L1 h2).1
        simp only [List.length_map] at hlen
        refine ⟨by simp, fun b hb => ?_, fun b hb => (by cases hb), fun b => ?_, fun hq => ?_⟩
        · have hb' : ¬ (L.length ≤ b ∧ b < L1.length) := fun h => by
            have : touched { i := i, loud := !(rd.isEmpty && (L1.drop L.length).isEmpty), big := false, rd := rd, wr := [], al := (List.range (L1.drop L.length).length).map (· + L.length) } b = true := by
              simp only [touched, Bool.false_or, List.contains_nil]
              rw [mem_range_add, List.length_drop]; omega
            rw [this] at hb; cases hb
          simp only [hget, List.getD_eq_getElem?_getD]
          rcases Nat.lt_or_ge b L.length with h | h
          · rw [List.getElem?_append_left h]
          · rw [List.getElem?_eq_none (by simp; omega), List.getElem?_eq_none h]
        · rw [← List.contains_iff_mem, mem_range_add]
          simp only [List.length_drop, List.length_append, true_and]
        · simp only [Bool.not_eq_eq_eq_not, Bool.not_false, Bool.and_eq_true, List.isEmpty_iff] at hq
          exact ⟨hq.1, rfl, by simp [hq.2], rfl⟩
      · simp only [Option.bind_eq_some_iff] at hs
        obtain ⟨⟨args', rd⟩, h1, ⟨v1, L1⟩, h2, ⟨v2, r2⟩, h3, hs⟩ := hs
        simp only [Option.some.injEq, Prod.mk.injEq] at hs
        obtain ⟨rfl, rfl, rfl⟩ := hs
        exact hsame fun hl => by simpa using hl
  | none =>
    simp only [] at hs
    obtain ⟨e, he, hs⟩ := Option.bind_eq_some_iff.1 hs
    split at hs
    case isFalse => cases hs
    rename_i hwr
    simp only [Option.some.injEq, Prod.mk.injEq] at hs
    obtain ⟨rfl, rfl, rfl⟩ := hs
    have hw1 : ∀ p ∈ e.wr, p.1 < L.length ∧ p.1 ∈ e.rd := fun p hp => by
      have := List.all_eq_true.1 hwr p hp
      simp only [Bool.and_eq_true, Nat.blt_eq, List.contains_iff_mem] at this
      exact this
    obtain ⟨hwA, hwL⟩ := hget_wrAll fun p hp => (hw1 p hp).1
    have hlen : (wrAll L e.wr ++ e.al).length = L.length + e.al.length := by simp [hwL]
    refine ⟨by omega, fun b hb => ?_, fun b hb => ?_, fun b => ?_, fun hq => ?_⟩
    · rw [hget_append, hwL, hwA]
      simp only [touched, Bool.false_or, Bool.or_eq_false_iff] at hb
      rw [allocs_out (fun h1 => by
        have := mem_range_add.2 h1
        rw [hb.2] at this; cases this), updAll_out fun p hp e' => by
          have : (e.wr.map (·.1)).contains b = true := by rw [List.contains_iff_mem]; exact List.mem_map.2 ⟨p, hp, e'⟩
          rw [hb.1] at this; cases this]
    · obtain ⟨p, hp, rfl⟩ := List.mem_map.1 hb
      exact (hw1 p hp).2
    · rw [← List.contains_iff_mem, mem_range_add, hlen]
      simp only [true_and]
    · simp only [Bool.not_eq_eq_eq_not, Bool.not_false, Bool.and_eq_true, List.isEmpty_iff] at hq
      refine ⟨hq.1, ?_, by simp [hq.2], rfl⟩
      rw [List.map_eq_nil_iff]
      cases hw : e.wr with
      | nil => rfl
      | cons p r => have := (hw1 p (by simp [hw])).2; rw [hq.1] at this; cases this

theorem Shape.after {L L' : List Blk} {rc : Rec} (s : Shape L L' rc) : Go.Xv.after rc L' (hget L) = hget L' := by
  funext b
  unfold Go.Xv.after
  cases ht : touched rc b with
  | true => rfl
  | false => simpa using (s.out b ht).symm

theorem yieldedA_sound {ops : Array Oper} {t : Tmps} {j : Nat} {y : Option Bool} (hy : yieldedA ops t j = some y) {g : G} {h : Nat → Blk} {w : World} {tmps : Array Value} (ht : VRL g h w.heap t tmps.toList) :
    yielded ops tmps j = y := by
  unfold yieldedA at hy
  unfold yielded
  cases hd : (ops[j]?).bind (·.dst) with
  | none => simp [hd] at hy; simp [hy]
  | some d =>
    simp only [hd] at hy
    simp only [Option.bind_some]
    have hl := ht.length
    cases hx : t[d]? with
    | none =>
      simp [hx] at hy
      have : tmps[d]? = none := by
        have h1 : t.length ≤ d := by
          rcases Nat.lt_or_ge d t.length with h | h
          · rw [List.getElem?_eq_getElem h] at hx; cases hx
          · exact h
        exact Array.getElem?_eq_none (by simp at hl; omega)
      simp [this, hy]
    | some x =>
      obtain ⟨v, h1, h2⟩ := ht.get hx
      have h1' : tmps[d]? = some v := by simpa using h1
      rw [h1']
      simp only [hx] at hy
      split at hy
      · rename_i b heq
        cases heq
        cases hy
        have := h2.of_toV (w := .bool b) rfl
        subst this; rfl
      · rename_i vs heq
        cases heq
        cases hy
        cases h2
        rfl
      · rename_i heq; cases heq
      · cases hy

theorem wantedA_sound {ops : Array Oper} {t : Tmps} {o : Oper} {b : Bool} (hw : wantedA ops t o = some b) {g : G} {h : Nat → Blk} {w : World} {tmps : Array Value} (ht : VRL g h w.heap t tmps.toList) :
    Region.wanted o (yielded ops tmps) = b := by
  unfold wantedA at hw
  unfold Region.wanted
  cases hg : o.guard with
  | none => simp [hg] at hw; simp [hw]
  | some jw =>
    obtain ⟨j, want⟩ := jw
    simp only [hg] at hw
    cases hy : yieldedA ops t j with
    | none => simp [hy] at hw
    | some y =>
      simp only [hy, Option.map_some, Option.some.injEq] at hw
      simp only [yieldedA_sound hy ht]
      exact hw

/-- The two states stand to one another. -/
structure At (gl : Nat → Option (List AV)) (g : G) (L : List Blk) (w : World) (t : Tmps) (a : Act) : Prop where
  sim : Sim g (hget L) w.heap
  gl : GlOK gl g (hget L) w.heap
  tmps : VRL g (hget L) w.heap t a.tmps.toList
  bd : ∀ b, g.dom b → b < L.length

theorem put_VRL {g : G} {h : Nat → Blk} {hp : Array Obj} {t : Tmps} {a : Act} (ht : VRL g h hp t a.tmps.toList) {d : Option Tmp} {v : AV} {u : Value} (hv : VR g h hp v u) : VRL g h hp (putA t d v) (a.put d u).tmps.toList := by
  cases d with
  | none => exact ht
  | some d => simp only [putA, Act.put, Array.toList_setIfInBounds]; exact ht.set d hv

theorem At.next {g g' : G} {L L' : List Blk} {w w' : World} {t : Tmps} {a : Act} (s : At gl g L w t a) (p : Post g (hget L) w L.length L'.length g' (hget L') w') (hl : L.length ≤ L'.length) {d : Option Tmp} {v : AV} {u : Value}
    (hv : VR g' (hget L') w'.heap v u) : At gl g' L' w' (putA t d v) (a.put d u) :=
  ⟨p.sim, s.gl.mono p.ext, put_VRL (s.tmps.mono p.ext) hv, fun b hb => by
    rcases p.dom b hb with h | h
    · exact Nat.lt_of_lt_of_le (s.bd b h) hl
    · exact h.2⟩

theorem At.skip {g : G} {L : List Blk} {w : World} {t : Tmps} {a : Act} (s : At gl g L w t a) (d : Option Tmp) : At gl g L w (putA t d undefA) (a.put d undef) :=
  ⟨s.sim, s.gl, put_VRL s.tmps undef_VR, s.bd⟩

theorem put_defers (a : Act) (d : Option Tmp) (u : Value) : (a.put d u).defers = a.defers := by cases d <;> rfl

/-- One operation, its calls told by whatever is true of them. -/
def Step1 (P : Program) (gl : Nat → Option (List AV)) (t : Tmps) (L : List Blk) (i : Nat) (o : Oper) (v : AV) (L' : List Blk) (rc : Rec) : Prop :=
  ∃ (ext : ExtF) (md : FuncId → Nat) (call : CallF), ExtOK P gl ext ∧ CallsOK P gl call ∧ stepOp P gl ext md call t L i o = some (v, L', rc)

theorem Step1.shape {t : Tmps} {L L' : List Blk} {i : Nat} {o : Oper} {v : AV} {rc : Rec} (h : Step1 P gl t L i o v L' rc) : Shape L L' rc := by
  obtain ⟨_, _, _, _, hc, hs⟩ := h
  exact step_shape hc hs

theorem Step1.sound (hNG : ∀ (f : FuncId) (fn : Func), P.funcs[f]? = some fn → fn.body.isNone = false → (fn.name == "runtime.NumGoroutine") = false)
    {t t' : Tmps} {L L' : List Blk} {i : Nat} {o : Oper} {v : AV} {rc : Rec} (hs : Step1 P gl t L i o v L' rc) {h' : Nat → Blk}
    (ht' : ∀ x ∈ o.op.operands, evO gl t' x = evO gl t x) (hbig : rc.big = true → h' = hget L) (hrd : ∀ b ∈ rc.rd, h' b = hget L b)
    {g : G} {w : World} {a : Act} (S : Sim g h' w.heap) (hgl : GlOK gl g h' w.heap) (ht : VRL g h' w.heap t' a.tmps.toList) (hfree : ∀ b, g.dom b → ¬ (L.length ≤ b ∧ b < L'.length))
    (hbd : rc.big = true → ∀ b, g.dom b → b < L.length) {next : Act → World → Prop} {Q : Exit → Act → World → Prop}
    (hn : ∀ u g' w', VR g' (after rc L' h') w'.heap v u → Post g h' w L.length L'.length g' (after rc L' h') w' → next (a.put o.dst u) w') : o.wp P a w next Q := by
  obtain ⟨_, _, _, he, hc, hs⟩ := hs
  exact step_sound hc he hNG hs ht' hbig hrd S hgl ht hfree hbd hn

variable (hcall : CallsOK P gl call) (hext : ExtOK P gl ext) (hNG : ∀ (f : FuncId) (fn : Func), P.funcs[f]? = some fn → fn.body.isNone = false → (fn.name == "runtime.NumGoroutine") = false)
include hcall hext hNG

theorem evSeq_sound {ops : Array Oper} {Q : Exit → Act → World → Prop} : ∀ (l : List Oper) (n : Nat) (t : Tmps) (L : List Blk) (t' : Tmps) (L' : List Blk), ops.toList.drop n = l → evSeq P gl ext md call ops l t L = some (t', L') →
    L.length ≤ L'.length ∧ ∀ (g : G) (w : World) (a : Act), At gl g L w t a →
      (∀ g' w' a', At gl g' L' w' t' a' → Post g (hget L) w L.length L'.length g' (hget L') w' → a'.defers = a.defers → Q .normal a' w') → wpOps P ops Q (List.range' n l.length) a w
  | [], n, t, L, t', L', _, he => by
    simp only [evSeq, Option.some.injEq, Prod.mk.injEq] at he
    obtain ⟨rfl, rfl⟩ := he
    exact ⟨Nat.le_refl _, fun g w a s hq => hq g w a s (Post.refl s.sim _ _) rfl⟩
  | o :: r, n, t, L, t', L', hl, he => by
    have hlt : n < ops.size := by
      rcases Nat.lt_or_ge n ops.toList.length with h | h
      · simpa using h
      · rw [List.drop_eq_nil_of_le h] at hl; cases hl
    have hcons := List.drop_eq_getElem_cons (l := ops.toList) (i := n) (by simpa using hlt)
    rw [hl] at hcons
    obtain ⟨ho, hr⟩ := List.cons.inj hcons
    have ho' : ops[n]? = some o := by rw [Array.getElem?_eq_getElem hlt, ho]; rfl
    simp only [evSeq] at he
    obtain ⟨b, hw, he⟩ := Option.bind_eq_some_iff.1 he
    cases b with
    | true =>
      simp only [if_true] at he
      obtain ⟨⟨v, L1, rc⟩, hs, he⟩ := Option.bind_eq_some_iff.1 he
      have hsh := step_shape hcall hs
      obtain ⟨i1, i2⟩ := evSeq_sound r (n + 1) _ L1 t' L' hr.symm he
      refine ⟨Nat.le_trans hsh.len i1, fun g w a s hq => ?_⟩
      rw [List.length_cons, List.range'_succ]
      simp only [wpOps, ho', wantedA_sound hw s.tmps, if_true]
      left
      refine step_sound hcall hext hNG hs (fun _ _ => rfl) (fun _ => rfl) (fun _ _ => rfl) s.sim s.gl s.tmps (fun b hb => by have := s.bd b hb; omega) (fun _ => s.bd) fun u g' w' hu hp => ?_
      rw [hsh.after] at hu hp
      exact i2 g' w' _ (s.next hp hsh.len hu) fun g2 w2 a2 s2 p2 hd => hq g2 w2 a2 s2 (hp.trans p2 hsh.len i1) (hd.trans (put_defers _ _ _))
    | false =>
      simp only [Bool.false_eq_true, if_false] at he
      obtain ⟨i1, i2⟩ := evSeq_sound r (n + 1) _ L t' L' hr.symm he
      refine ⟨i1, fun g w a s hq => ?_⟩
      rw [List.length_cons, List.range'_succ]
      simp only [wpOps, ho', wantedA_sound hw s.tmps, Bool.false_eq_true, if_false]
      exact i2 g w _ (s.skip o.dst) fun g2 w2 a2 s2 p2 hd => hq g2 w2 a2 s2 p2 (hd.trans (put_defers _ _ _))
end seq
end Go.Xv

namespace Go.Xv

structure Pt where
  t : Tmps
  L : List Blk
  v : AV
  rc : Option Rec

section trace
variable (P : Program) (gl : Nat → Option (List AV)) (ops : Array Oper)

structure StepAt (X : Nat → Pt) (mm : Nat → Nat) (q : Nat) (o : Oper) : Prop where
  lt : ∀ e ∈ edgesOf o, e < q
  mask : ∀ p, (mm q).testBit p = true → ∃ e ∈ edgesOf o, p = e ∨ (mm e).testBit p = true
  tmps : (X (q + 1)).t = putA (X q).t o.dst (X q).v
  run : (∃ rc, (X q).rc = some rc ∧ wantedA ops (X q).t o = some true ∧ Step1 P gl (X q).t (X q).L q o (X q).v (X (q + 1)).L rc) ∨
    ((X q).rc = none ∧ wantedA ops (X q).t o = some false ∧ (X q).v = undefA ∧ (X (q + 1)).L = (X q).L)

variable {P gl ops} {ext : ExtF} {md : FuncId → Nat} {call : CallF}

theorem maskOf_bit {ms : List Nat} {p : Nat} : ∀ {es : List Nat}, (maskOf ms es).testBit p = true → ∃ e ∈ es, p = e ∨ (ms.getD e 0).testBit p = true
  | [], h => by simp [maskOf] at h
  | e :: r, h => by
    simp only [maskOf, Nat.testBit_or, Bool.or_eq_true] at h
    rcases h with (h | h) | h
    · rw [Nat.testBit_two_pow] at h
      exact ⟨e, by simp, .inl (by have := of_decide_eq_true h; omega)⟩
    · exact ⟨e, by simp, .inr h⟩
    · obtain ⟨e', h1, h2⟩ := maskOf_bit h
      exact ⟨e', by simp [h1], h2⟩

theorem getD_snoc {ms : List Nat} {m e : Nat} (he : e < ms.length) : (ms ++ [m]).getD e 0 = ms.getD e 0 := by
  simp only [List.getD_eq_getElem?_getD]
  rw [List.getElem?_append_left he]

theorem evDraw_trace (hcall : CallsOK P gl call) (hext : ExtOK P gl ext) : ∀ (l : List Oper) (i : Nat) (ms : List Nat) (past : List Past) (t : Tmps) (L : List Blk) (tN : Tmps) (LN : List Blk), ops.toList.drop i = l → ms.length = i →
    evDraw P gl ext md call ops l i ms past t L = some (tN, LN) →
    ∃ (X : Nat → Pt) (mm : Nat → Nat), (X i).t = t ∧ (X i).L = L ∧ (X (i + l.length)).t = tN ∧ (X (i + l.length)).L = LN ∧ (∀ e, e < i → mm e = ms.getD e 0) ∧
      (∀ q o, i ≤ q → ops[q]? = some o → StepAt P gl ops X mm q o) ∧
      (∀ p q op oq, i ≤ p → p < q → ops[p]? = some op → ops[q]? = some oq → (mm q).testBit p = true ∨ freely ops ⟨p, op, (X p).rc⟩ oq (X q).rc = true) ∧
      (∀ x ∈ past, ∀ q o, i ≤ q → ops[q]? = some o → (mm q).testBit x.i = true ∨ freely ops x o (X q).rc = true)
  | [], i, ms, past, t, L, tN, LN, hl, hms, he => by
    simp only [evDraw, Option.some.injEq, Prod.mk.injEq] at he
    obtain ⟨rfl, rfl⟩ := he
    have hsz : ops.size ≤ i := by
      rcases Nat.lt_or_ge i ops.toList.length with h | h
      · rw [List.drop_eq_getElem_cons h] at hl; cases hl
      · simpa using h
    have hno : ∀ {q : Nat} {o : Oper}, i ≤ q → ops[q]? = some o → False := fun hq ho => by
      have := (Array.getElem?_eq_some_iff.1 ho).1; omega
    exact ⟨fun _ => ⟨t, L, undefA, none⟩, fun e => ms.getD e 0, rfl, rfl, rfl, rfl, fun _ _ => rfl, fun q o hq ho => (hno hq ho).elim, fun p q op oq hp hpq hop hoq => (hno hp hop).elim, fun x _ q o hq ho => (hno hq ho).elim⟩
  | o :: r, i, ms, past, t, L, tN, LN, hl, hms, he => by
    have hlt : i < ops.size := by
      rcases Nat.lt_or_ge i ops.toList.length with h | h
      · simpa using h
      · rw [List.drop_eq_nil_of_le h] at hl; cases hl
    have hcons := List.drop_eq_getElem_cons (l := ops.toList) (i := i) (by simpa using hlt)
    rw [hl] at hcons
    obtain ⟨ho, hr⟩ := List.cons.inj hcons
    have ho' : ops[i]? = some o := by rw [Array.getElem?_eq_getElem hlt, ho]; rfl
    simp only [evDraw] at he
    split at he
    case isFalse => cases he
    rename_i hes
    obtain ⟨b, hw, he⟩ := Option.bind_eq_some_iff.1 he
    have hlts : ∀ e ∈ edgesOf o, e < i := fun e hm => by
      have := List.all_eq_true.1 hes e hm
      simpa using this
    -- one way for both
    have key : ∀ (v : AV) (L1 : List Blk) (rc : Option Rec),
        ((∃ r', rc = some r' ∧ wantedA ops t o = some true ∧ Step1 P gl t L i o v L1 r') ∨ (rc = none ∧ wantedA ops t o = some false ∧ v = undefA ∧ L1 = L)) →
        past.all (fun x => (maskOf ms (edgesOf o)).testBit x.i || freely ops x o rc) = true →
        evDraw P gl ext md call ops r (i + 1) (ms ++ [maskOf ms (edgesOf o)]) (⟨i, o, rc⟩ :: past) (putA t o.dst v) L1 = some (tN, LN) →
        ∃ (X : Nat → Pt) (mm : Nat → Nat), (X i).t = t ∧ (X i).L = L ∧ (X (i + (o :: r).length)).t = tN ∧ (X (i + (o :: r).length)).L = LN ∧ (∀ e, e < i → mm e = ms.getD e 0) ∧
          (∀ q o, i ≤ q → ops[q]? = some o → StepAt P gl ops X mm q o) ∧
          (∀ p q op oq, i ≤ p → p < q → ops[p]? = some op → ops[q]? = some oq → (mm q).testBit p = true ∨ freely ops ⟨p, op, (X p).rc⟩ oq (X q).rc = true) ∧
          (∀ x ∈ past, ∀ q o, i ≤ q → ops[q]? = some o → (mm q).testBit x.i = true ∨ freely ops x o (X q).rc = true) := by
      intro v L1 rc hrun hpast hrest
      obtain ⟨X, mm, x1, x2, x3, x4, x5, x6, x7, x8⟩ := evDraw_trace hcall hext r (i + 1) _ _ _ _ _ _ hr.symm (by simp [hms]) hrest
      have hmi : mm i = maskOf ms (edgesOf o) := by
        rw [x5 i (by omega)]
        simp only [List.getD_eq_getElem?_getD]
        rw [List.getElem?_append_right (by omega)]
        simp [hms]
      have hml : ∀ e, e < i → mm e = ms.getD e 0 := fun e h => by rw [x5 e (by omega), getD_snoc (by omega)]
      let X' : Nat → Pt := fun q => if q = i then ⟨t, L, v, rc⟩ else X q
      have hXi : X' i = ⟨t, L, v, rc⟩ := if_pos rfl
      have hXn : ∀ q, q ≠ i → X' q = X q := fun q hq => if_neg hq
      have hend : i + (o :: r).length = (i + 1) + r.length := by simp; omega
      refine ⟨X', mm, by rw [hXi], by rw [hXi], by rw [hend, hXn _ (by omega)]; exact x3, by rw [hend, hXn _ (by omega)]; exact x4, hml, fun q oq hq hoq => ?_, fun p q op oq hp hpq hop hoq => ?_, fun x hx q oq hq hoq => ?_⟩
      · by_cases hqi : q = i
        · subst hqi
          rw [ho'] at hoq
          cases hoq
          refine ⟨hlts, fun p hp => ?_, by rw [hXi, hXn _ (by omega)]; exact x1, ?_⟩
          · rw [hmi] at hp
            obtain ⟨e, h1, h2⟩ := maskOf_bit hp
            exact ⟨e, h1, by rw [hml e (hlts e h1)]; exact h2⟩
          · rw [hXi, hXn (q + 1) (by omega), x2]
            exact hrun
        · have s := x6 q oq (by omega) hoq
          refine ⟨s.lt, s.mask, by rw [hXn q hqi, hXn (q + 1) (by omega)]; exact s.tmps, by rw [hXn q hqi, hXn (q + 1) (by omega)]; exact s.run⟩
      · by_cases hpi : p = i
        · subst hpi
          rw [ho'] at hop
          cases hop
          rw [hXi, hXn q (by omega)]
          exact x8 ⟨p, o, rc⟩ (by simp) q oq (by omega) hoq
        · rw [hXn p hpi, hXn q (by omega)]
          exact x7 p q op oq (by omega) hpq hop hoq
      · by_cases hqi : q = i
        · subst hqi
          rw [ho'] at hoq
          cases hoq
          rw [hXi, hmi]
          have := List.all_eq_true.1 hpast x hx
          simpa using this
        · rw [hXn q hqi]
          exact x8 x (by simp [hx]) q oq (by omega) hoq
    cases b with
    | true =>
      simp only [if_true] at he
      obtain ⟨⟨v, L1, rc⟩, hs, he⟩ := Option.bind_eq_some_iff.1 he
      split at he
      case isFalse => cases he
      rename_i hp
      exact key v L1 (some rc) (.inl ⟨rc, rfl, hw, ext, md, call, hext, hcall, hs⟩) hp he
    | false =>
      simp only [Bool.false_eq_true, if_false] at he
      split at he
      case isFalse => cases he
      rename_i hp
      exact key undefA L none (.inr ⟨rfl, hw, rfl, rfl⟩) hp he
end trace
end Go.Xv

/- Contracts of the library as calls of the interpreter: what sorts a live slice, what only makes new blocks. No condition. -/
import Derived.Test.YtjbbhpfoohpbkaaGreatDoorXG
import Derived.Shelf.Sort.Plain
import Derived.Shelf.Strconv.Itoa3
set_option linter.all false
namespace Go.Xv
open Go.Sort Go.Shelf Go.Proofs

section grow
variable {g : G} {h : Nat → Blk} {w : World}
theorem heap_old (w : World) (os : Array Obj) {k : Nat} (hk : k < w.heap.size) : (grow w os).heap[k]? = w.heap[k]? := heap_grow_old w os hk

theorem ext_grow (S : Sim g h w.heap) (os : Array Obj) : Ext g h w.heap g h (grow w os).heap :=
  ⟨fun _ h => h, fun _ cs' _ hc => ⟨cs', hc, Nat.le_refl _, fun _ => ⟨rfl, rfl, rfl⟩⟩, fun _ _ h => ⟨h, rfl⟩, fun _ _ h => h, fun o B hB => heap_old w os (S.fz o B hB), rfl⟩

theorem sim_grow (S : Sim g h w.heap) (os : Array Obj) : Sim g h (grow w os).heap where
  blk b := (S.blk b).mono (ext_grow S os) rfl rfl rfl (fun _ h => h) fun ha => heap_old w os (alive_image S ha).1
  inj := S.inj
  fz o B hB := by have := S.fz o B hB; simp only [size_grow]; omega
  sub := S.sub

theorem post_grow (S : Sim g h w.heap) (os : Array Obj) (k k' : Nat) : Post g h w k k' g h (grow w os) :=
  ⟨sim_grow S os, ext_grow S os, by simp, fun c hc _ => heap_old w os hc, fun _ hb => .inl ⟨hb, rfl⟩, fun _ _ hB => .inl hB, fun _ hb => .inl hb, rfl, rfl, rfl⟩

theorem Post.before {g' : G} {h' : Nat → Blk} {w w1 w' : World} {k k' : Nat} (p : Post g h w1 k k' g' h' w') (hh : w1.heap = w.heap) (ho : w1.os = w.os) (ht : w1.tape = w.tape) (hu : w1.output = w.output) : Post g h w k k' g' h' w' :=
  ⟨p.sim, hh ▸ p.ext, hh ▸ p.size, hh ▸ p.frame, hh ▸ p.img, hh ▸ p.F, p.dom, p.os.trans ho, p.tape.trans ht, p.output.trans hu⟩
end grow

section told
variable {P : Program} {gl : Nat → Option (List AV)}
/-- A contract over plain data that makes new blocks and no more. -/
theorem told_grow {f : FuncId} {V : List Value} {v : Value} (hb : Bodied P f) (hv : plainV v = true)
    (hc : ∀ w : World, (∀ (i : Nat) (cs : List AV), gl i = some cs → ∃ L : List Value, VRL ⟨fun _ => 0, fun _ => 0, fun _ => 0, fun _ => False, fun _ _ => True, .bool false⟩ (fun _ => .dead) w.heap cs L ∧ row w.heap i 0 L ∧ wideAt w.heap i cs.length) →
      Calls P f V.toArray w fun e w' => e = .returned v ∧ ∃ k os, w' = grow (w.drewN k) os) : ToldOK P gl f (V.map .sc) (.sc v) := by
  refine ⟨hb, rfl, Nat.le_refl _, fun g w A S hg hA hbd => ?_⟩
  have hAV : A = V := by
    have : ∀ (V : List Value) (A : List Value), VRL g (hget []) w.heap (V.map .sc) A → A = V := by
      intro V
      induction V with
      | nil => intro A hA; cases hA; rfl
      | cons v V ih =>
        intro A hA
        cases hA with
        | cons _ u _ L ha hl =>
          have := ha.of_toV (w := v) rfl
          subst this
          rw [ih L hl]
    exact this V A hA
  subst hAV
  refine Calls.mono (hc w fun i cs hi => ?_) fun e w' he => ?_
  · obtain ⟨h1, h2⟩ := hg i cs hi
    cases h1 with
    | cp _ _ _ L B o hL hst hF hr hfr =>
      refine ⟨L, ?_, by simpa using hr, h2⟩
      exact hL.carry false true hfr (fun o B _ _ => ⟨trivial, rfl⟩) (fun e => by cases e)
  · obtain ⟨rfl, k, os, rfl⟩ := he
    refine ⟨v, g, rfl, .sc v hv, ?_⟩
    exact Post.before (post_grow (w := w.drewN k) S os _ _) rfl rfl rfl rfl

theorem tab_of {i : Nat} {k : IntKind} {zs : List Int} {w : World} {g : G} {h : Nat → Blk} (hg : ∃ L : List Value, VRL g h w.heap (zs.map fun z => AV.sc (.int k z)) L ∧ row w.heap i 0 L ∧ wideAt w.heap i (zs.map fun z => AV.sc (.int k z)).length)
    {name : String} (hn : P.globalNamed name = some i) : Lib.TabIs P w name k zs := by
  obtain ⟨L, h1, h2, h3⟩ := hg
  have hL : L = zs.map fun z => Value.int k z := by
    clear h2 h3 hn
    induction zs generalizing L with
    | nil => cases h1; rfl
    | cons z zs ih =>
      cases h1 with
      | cons _ u _ L ha hl =>
        have := ha.of_toV (w := .int k z) rfl
        subst this
        rw [List.map_cons, ih L hl]
  subst hL
  obtain ⟨c, ty, fr, e1, e2⟩ := h2
  obtain ⟨c', ty', fr', e3, e4⟩ := h3
  rw [e1] at e3
  cases e3
  unfold Lib.TabIs World.var?
  simp only [hn, Option.bind_some, e1]
  have : c = (zs.map fun z => Value.int k z).toArray := by
    apply Array.ext_getElem?
    intro j
    rcases Nat.lt_or_ge j c.size with hj | hj
    · have := e2 j (by simp at e4 ⊢; omega)
      simpa using this
    · rw [Array.getElem?_eq_none hj, Array.getElem?_eq_none (by simp at e4 ⊢; omega)]
  rw [this]
end told

section sort
variable {P : Program} {gl : Nat → Option (List AV)}
abbrev bsOf (l : List ByteArray) : List (List UInt8) := l.map fun x => x.data.toList
abbrev bytesL (u : List UInt8) : ByteArray := ⟨u.toArray⟩

def SortC (P : Program) (f : FuncId) : Prop := ∀ (blk off cap : Nat) (ss : List (List UInt8)) (w : World), Holds encStr w blk off ss.toArray → blk < w.heap.size → ss.length < 4611686018427387904 →
  Calls P f #[.slice (some ⟨blk, off, none⟩) ss.length cap] w fun e w' =>
    e = .returned (.tuple #[]) ∧ ∃ n os, w' = grow (putRow encStr (Sort.ahead w n) blk off (ss.mergeSort fun x y => decide (x ≤ y)).toArray) os

theorem strs_of {g : G} {h : Nat → Blk} {hp : Array Obj} : ∀ (l : List ByteArray) {L : List Value}, VRL g h hp (l.map fun x => AV.sc (.string x)) L → L = l.map Value.string
  | [], L, h => by cases h; rfl
  | a :: l, L, h => by
    cases h with
    | cons _ u _ L ha hl =>
      have := ha.of_toV (w := .string a) rfl
      subst this
      rw [strs_of l hl]; rfl

theorem shared_sort {f : FuncId} (hb : Bodied P f) (hc : SortC P f) {L : List Blk} {b : Nat} {l : List ByteArray} (hL : hget L b = .cells (l.map fun x => AV.sc (.string x))) (hn : l.length < 4611686018427387904) (hbl : b < L.length) :
    SharedOK P gl f [.sl 1 false b 0 l.length l.length] L (.tup []) (L.set b (.cells ((((bsOf l).mergeSort fun x y => decide (x ≤ y)).map bytesL).map fun x => AV.sc (.string x)))) := by
  refine ⟨hb, by simp, fun g w A S hg hA hbd => ?_⟩
  cases hA with
  | cons _ u _ A' hu hA' =>
  cases hA'
  cases hu with
  | sl _ _ _ _ _ _ ad cap' hd hcap hcur =>
  have hal : alive (hget L b) = true := by rw [hL]; rfl
  obtain ⟨_, hcst, hnF, c, ty, fr, Lv, k1, k2, k3, k4, k5, k6⟩ := (show BlkOK g (hget L) w.heap b (.cells (l.map fun x => AV.sc (.string x))) from hL ▸ S.blk b)
  obtain ⟨r1, r2⟩ := hcur _ hL
  obtain ⟨rfl, r3⟩ := r2 (by simp)
  obtain rfl := strs_of l k3
  have hH : Holds encStr w (g.m b) (g.sh b) (bsOf l).toArray := by
    intro j hj
    have hj' : j < l.length := by simpa using hj
    refine ⟨?_, ?_⟩
    · rw [cell_of k1, k4 j (by simpa using hj')]
      simp [hj', encStr]
    · have := k5 (g.sh b + j) (by simp at k6; omega)
      simp only [World.frozen?, k1]
      exact this
  have hsz : g.m b < w.heap.size := (Array.getElem?_eq_some_iff.1 k1).1
  have hcall := hc (g.m b) (g.sh b) cap' (bsOf l) w hH hsz (by simpa using hn)
  simp only [List.length_map] at hcall
  refine Calls.mono hcall fun e w' he => ?_
  obtain ⟨rfl, n, os, rfl⟩ := he
  generalize hs' : ((bsOf l).mergeSort fun x y => decide (x ≤ y)) = s'
  have hlen : s'.length = l.length := by rw [← hs', List.length_mergeSort]; simp
  have hnew : hget (L.set b (.cells ((s'.map bytesL).map fun x => AV.sc (.string x)))) = upd (hget L) b (.cells ((s'.map bytesL).map fun x => AV.sc (.string x))) := by
    funext i
    unfold hget upd
    by_cases hi : i = b
    · subst hi
      simp [hbl]
    · simp [hi, List.getElem?_set, Ne.symm hi]
  have hcell : (putRow encStr (Sort.ahead w n) (g.m b) (g.sh b) s'.toArray).heap[g.m b]? = some (.cells (putCells encStr (g.sh b) s'.toArray c) ty fr) := by
    simp [putRow, mapBlock, Sort.ahead, Array.getElem?_modify, k1, onCells]
  have hoth : ∀ i, i ≠ g.m b → (putRow encStr (Sort.ahead w n) (g.m b) (g.sh b) s'.toArray).heap[i]? = w.heap[i]? := fun i hi => by
    simp only [putRow, mapBlock, Sort.ahead, Array.getElem?_modify]
    rw [if_neg (Ne.symm hi)]
  obtain ⟨S1, E1⟩ := S.write (hp' := (putRow encStr (Sort.ahead w n) (g.m b) (g.sh b) s'.toArray).heap) b (.cells ((s'.map bytesL).map fun x => AV.sc (.string x))) hal (by simp [Sort.ahead]) hoth
    (.inl ⟨_, _, hL, rfl, by simp [hlen]⟩) fun E => by
      refine ⟨hd, by simp [AV.stor], hnF, _, ty, fr, (s'.map bytesL).map Value.string, hcell, by simp [putCells]; exact k2, ?_, fun i hi => ?_, by simpa [putCells] using k5, by simp [putCells, hlen] at k6 ⊢; exact k6⟩
      · have := VRL.of_sc (g := g) (h := upd (hget L) b (.cells ((s'.map bytesL).map fun x => AV.sc (.string x)))) (hp := (putRow encStr (Sort.ahead w n) (g.m b) (g.sh b) s'.toArray).heap) ((s'.map bytesL).map Value.string) (fun v hv => by
          obtain ⟨x, _, rfl⟩ := List.mem_map.1 hv
          rfl)
        simpa [Function.comp_def] using this
      · have hi' : i < s'.length := by simpa using hi
        have hic : g.sh b + i < c.size := by simp at k6; omega
        simp [putCells, hic, hi', encStr, bytesL]
  refine ⟨.tuple #[], g, rfl, .tup [] [] .nil, ?_⟩
  rw [hnew]
  have p2 := post_grow (w := putRow encStr (Sort.ahead w n) (g.m b) (g.sh b) s'.toArray) S1 os L.length L.length
  have p1 : Post g (hget L) w L.length L.length g (upd (hget L) b (.cells ((s'.map bytesL).map fun x => AV.sc (.string x)))) (putRow encStr (Sort.ahead w n) (g.m b) (g.sh b) s'.toArray) :=
    ⟨S1, E1, by simp [Sort.ahead], fun c hc hb => hoth c fun e => hb b hal e.symm, fun b' hb' => by
      left
      refine ⟨?_, rfl⟩
      by_cases hbb : b' = b
      · subst hbb; exact hal
      · rwa [upd_ne _ _ hbb] at hb', fun _ _ hB => .inl hB, fun _ hb => .inl hb, rfl, rfl, rfl⟩
  have := p1.trans p2 (Nat.le_refl _) (Nat.le_refl _)
  simpa using this
end sort
end Go.Xv

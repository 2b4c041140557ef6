/- Each operation that the interpreter carries out is carried out by the machine with the same result (second part). No condition. -/
import Derived.Test.YtjbbhpfoohpbkaaGreatDoorXB
import Derived.Laws.BytesString
import Derived.Lib.ConvBytes
import Derived.Laws.AppendOwn
set_option linter.all false
namespace Go.Xv

section ops
variable {P : Program} {gl : Nat → Option (List AV)} {g : G} {h : Nat → Blk} {w : World} {k : Nat} {t : Tmps} {a : Act}

theorem fill_run (places : Nat → Option (Nat × Nat)) : ∀ (parts : List (Nat × AV)) (PV : List (Nat × Value)) (cells cells' : List AV) (C : List Value),
    parts.map (·.1) = PV.map (·.1) → VRL g h w.heap (parts.map (·.2)) (PV.map (·.2)) → VRL g h w.heap cells C → cells.all AV.stor = true → buildCells P places cells parts = some cells' →
    ∃ C', Instr.fill places C.toArray PV = some C'.toArray ∧ VRL g h w.heap cells' C' ∧ cells'.all AV.stor = true
  | [], PV, cells, cells', C, hk, hv, hc, hst, hb => by
    cases PV with
    | nil => simp [buildCells] at hb; subst hb; exact ⟨C, rfl, hc, hst⟩
    | cons p PV => simp at hk
  | (i, v) :: rest, PV, cells, cells', C, hk, hv, hc, hst, hb => by
    cases PV with
    | nil => simp at hk
    | cons p PV =>
      obtain ⟨j, u⟩ := p
      simp only [List.map_cons, List.cons.injEq] at hk
      obtain ⟨rfl, hk⟩ := hk
      cases hv with
      | cons _ _ _ _ hvu hvr =>
        simp only [buildCells] at hb
        cases hp : places i with
        | none => simp [hp] at hb
        | some q =>
          obtain ⟨off, size⟩ := q
          simp only [hp, Option.bind_eq_bind, Option.bind_some] at hb
          split at hb
          case isFalse => cases hb
          rename_i hcnd
          obtain ⟨c1, c2, c3⟩ := hcnd
          have hvc := hvu.cells (ne_top c3)
          have hvl := hvc.length
          have hcl := hc.length
          have hnew : VRL g h w.heap (splice cells v.cells off) (C.take off ++ u.cells.toList ++ C.drop (off + v.cells.length)) := by
            unfold splice
            exact ((hc.take off).append hvc).append (hc.drop _)
          obtain ⟨C', r1, r2, r3⟩ := fill_run places rest PV (splice cells v.cells off) cells' _ hk hvr hnew (splice_stor hst c3) hb
          refine ⟨C', ?_, r2, r3⟩
          simp only [Instr.fill, hp]
          have hus : u.cells.size = size := by rw [← c1, hvl]; simp
          rw [if_neg (by simp [hus]; omega)]
          rw [← r1]
          congr 1
          -- the fold stores the cells one by one
          have fold : ∀ (l : List Value) (n : Nat) (A : Array Value), (l.zipIdx n).foldl (fun cs (c, j) => cs.setIfInBounds (off + j) c) A = (A.toList.take (off + n) ++ l ++ A.toList.drop (off + n + l.length)).toArray ∨ A.size < off + n + l.length := by
            intro l
            induction l with
            | nil => intro n A; left; simp
            | cons x l ih =>
              intro n A
              simp only [List.zipIdx_cons, List.foldl_cons, List.length_cons]
              rcases Nat.lt_or_ge A.size (off + n + (l.length + 1)) with h1 | h1
              · exact .inr h1
              · left
                rcases ih (n + 1) (A.setIfInBounds (off + n) x) with h2 | h2
                · rw [h2]
                  apply Array.ext'
                  simp only
                  apply List.ext_getElem?
                  intro q
                  have hlen : (A.setIfInBounds (off + n) x).toList = A.toList.set (off + n) x := by simp
                  rw [hlen]
                  simp only [List.getElem?_append, List.length_append, List.length_take, List.length_set, Array.length_toList, List.length_cons, List.getElem?_take, List.getElem?_set, List.getElem?_drop]
                  by_cases e1 : q < off + n
                  · simp [show q < min (off + (n + 1)) A.size by omega, show q < min (off + n) A.size by omega, show q < off + (n + 1) by omega, e1, show ¬ (off + n = q) by omega, show q < min (off + (n + 1)) A.size + l.length by omega, show q < min (off + n) A.size + (l.length + 1) by omega]
                  · by_cases e2 : q = off + n
                    · subst e2
                      simp [show off + n < min (off + (n + 1)) A.size by omega, show ¬ (off + n < min (off + n) A.size) by omega, show off + n < min (off + (n + 1)) A.size + l.length by omega, show off + n < min (off + n) A.size + (l.length + 1) by omega, show off + n < A.size by omega, show off + n - min (off + n) A.size = 0 by omega]
                    · by_cases e3 : q < off + n + (l.length + 1)
                      · simp [show ¬ (q < min (off + (n + 1)) A.size) by omega, show ¬ (q < min (off + n) A.size) by omega, show q < min (off + (n + 1)) A.size + l.length by omega, show q < min (off + n) A.size + (l.length + 1) by omega]
                        rw [show q - min (off + n) A.size = (q - min (off + (n + 1)) A.size) + 1 by omega]
                        simp
                      · simp [show ¬ (q < min (off + (n + 1)) A.size + l.length) by omega, show ¬ (q < min (off + n) A.size + (l.length + 1)) by omega]
                        rw [if_neg (by omega)]
                        congr 1
                        omega
                · simp at h2; omega
          have := fold u.cells.toList 0 C.toArray
          rcases this with h1 | h1
          · have e : u.cells.zipIdx.foldl (fun cs (x : Value × Nat) => cs.setIfInBounds (off + x.2) x.1) C.toArray = (u.cells.toList.zipIdx).foldl (fun cs (x : Value × Nat) => cs.setIfInBounds (off + x.2) x.1) C.toArray := by
              rw [← Array.foldl_toList]; simp
            refine Eq.trans e (Eq.trans h1 ?_)
            simp [hvl]
          · simp at h1
            omega

end ops
end Go.Xv

namespace Go.Xv

section ops
variable {P : Program} {gl : Nat → Option (List AV)} {g : G} {h : Nat → Blk} {w : World} {k : Nat} {t : Tmps} {a : Act}

theorem parts_sound (hgl : GlOK gl g h w.heap) (ht : VRL g h w.heap t a.tmps.toList) {ps : List (Nat × Operand)} {vs : List (Nat × AV)} (hx : ps.mapM (fun p => (evO gl t p.2).map fun v => (p.1, v)) = some vs) :
    vs.map (·.1) = (ps.map fun p => (p.1, a.eval p.2)).map (·.1) ∧ VRL g h w.heap (vs.map (·.2)) ((ps.map fun p => (p.1, a.eval p.2)).map (·.2)) := by
  induction ps generalizing vs with
  | nil => simp at hx; subst hx; exact ⟨rfl, .nil⟩
  | cons p ps ih =>
    simp only [List.mapM_cons] at hx
    cases h1 : evO gl t p.2 with
    | none => simp [h1] at hx
    | some v =>
      cases h2 : ps.mapM (fun p => (evO gl t p.2).map fun v => (p.1, v)) with
      | none => simp [h1, h2] at hx
      | some vs' =>
        simp [h1, h2] at hx
        subst hx
        obtain ⟨r1, r2⟩ := ih h2
        exact ⟨by simp at r1 ⊢; exact r1, .cons _ _ _ _ (evO_sound hgl ht h1) r2⟩

theorem placesOf_run {fs : Array Field} {pl : List (Nat × Nat)} (hp : placesOf P fs = some pl) :
    (fs.mapM fun f => do pure (f.offset, ← sizeOf f.type) : Sem (Array (Nat × Nat))).run P w = .ok pl.toArray w := by
  rw [← Array.toArray_toList (xs := fs)]
  generalize hfl : fs.toList = l
  unfold placesOf at hp
  rw [hfl] at hp
  rw [List.mapM_toArray]
  rw [Sem.run_map]
  have : (l.mapM fun f => do pure (f.offset, ← sizeOf f.type) : Sem (List (Nat × Nat))).run P w = .ok pl w := by
    clear hfl
    induction l generalizing pl with
    | nil => simp at hp; subst hp; rfl
    | cons f l ih =>
      simp only [List.mapM_cons] at hp ⊢
      cases h1 : szT P f.type with
      | none => simp [h1] at hp
      | some s =>
        cases h2 : l.mapM (fun f => (szT P f.type).map fun s => (f.offset, s)) with
        | none => simp [h1, h2] at hp
        | some pl' =>
          simp [h1, h2] at hp
          subst hp
          rw [Sem.run_bind, run_andThen (show purely P (sizeOf f.type) = some s from h1)]
          simp only [Sem.run_pure, Result.andThen_ok]
          rw [Sem.run_bind, ih h2]
          rfl
  rw [this]
  rfl

theorem good_build (S : Sim g h w.heap) (hgl : GlOK gl g h w.heap) (ht : VRL g h w.heap t a.tmps.toList) {o : Oper} {ty : TypeId} {parts : Array (Nat × Operand)} (ho : o.op = .build ty parts) {vs : List (Nat × AV)} {e : Eff}
    (hx : parts.toList.mapM (fun p => (evO gl t p.2).map fun v => (p.1, v)) = some vs) (he : buildA P ty vs = some e) : Good g h w k e ((execOp a.eval o).run P w) := by
  obtain ⟨p1, p2⟩ := parts_sound hgl ht hx
  have hpl : (parts.map fun (i, x) => (i, a.eval x)).toList = parts.toList.map fun p => (p.1, a.eval p.2) := by simp
  unfold buildA at he
  cases hz : zeroA P ty with
  | none => simp [hz] at he
  | some z =>
    obtain ⟨zv, hzp, hzv, hzst⟩ := zeroA_sound (g := g) (h := h) (w := w) hz
    have hzc := hzv.cells (ne_top hzst)
    simp only [hz, Option.bind_some] at he
    split at he
    · rename_i fields hu
      cases h1 : placesOf P fields with
      | none => simp [h1] at he
      | some places =>
        cases h2 : buildCells P (places[·]?) z.cells vs with
        | none => simp [h1, h2] at he
        | some cells =>
          simp [h1, h2] at he
          subst he
          obtain ⟨C', r1, r2, r3⟩ := fill_run (P := P) (places[·]?) vs _ z.cells cells _ p1 p2 hzc hzst h2
          refine good_value S (.agg cells C' r2 r3) ?_
          simp only [execOp, ho, Instr.build, bind_assoc]
          rw [run_andThen hzp, run_andThen (run_underlyingX hu)]
          simp only [bind_assoc]
          rw [Sem.run_bind, placesOf_run h1]
          simp only [Result.andThen_ok, hpl]
          have : (fun x => places.toArray[x]?) = (fun x : Nat => places[x]?) := by funext x; simp
          rw [this]
          have r1' : Instr.fill (fun x : Nat => places[x]?) zv.cells (parts.toList.map fun p => (p.1, a.eval p.2)) = some C'.toArray := by simpa using r1
          rw [r1']
          rfl
    · rename_i n elem hu
      cases h1 : szT P elem with
      | none => simp [h1] at he
      | some size =>
        cases h2 : buildCells P (fun i => some (i * size, size)) z.cells vs with
        | none => simp [h1, h2] at he
        | some cells =>
          simp [h1, h2] at he
          subst he
          obtain ⟨C', r1, r2, r3⟩ := fill_run (P := P) (fun i => some (i * size, size)) vs _ z.cells cells _ p1 p2 hzc hzst h2
          refine good_value S (.agg cells C' r2 r3) ?_
          simp only [execOp, ho, Instr.build, bind_assoc]
          rw [run_andThen hzp, run_andThen (run_underlyingX hu)]
          simp only [bind_assoc]
          rw [run_andThen (show purely P (sizeOf elem) = some size from h1)]
          simp only [hpl]
          have r1' : Instr.fill (fun i => some (i * size, size)) zv.cells (parts.toList.map fun p => (p.1, a.eval p.2)) = some C'.toArray := by simpa using r1
          rw [r1']
          rfl
    · cases he

theorem rep_cells (zs : Array Value) (len : Nat) : ((Array.range (len * zs.size)).map (zs[· % zs.size]!)).toList = (List.replicate len zs.toList).flatten := zeroCells_eq zs len

/-- A new block that nobody will look at. -/
theorem good_garbage (S : Sim g h w.heap) (ob : Obj) (n : Nat) {av : AV} {v : Value} {rd : List Nat} (hv : ∀ hp', Ext g h w.heap g h hp' → VR g h hp' av v) {r : Result Next}
    (hr : r = .ok (.value v) { w with heap := w.heap.push ob, drawn := n }) : Good g h w k { val := av, rd := rd } r := by
  have E : Ext g h w.heap g h (w.heap.push ob) := by
    refine ⟨fun _ h => h, fun _ cs' _ h => ⟨cs', h, Nat.le_refl _, fun _ => ⟨rfl, rfl, rfl⟩⟩, fun _ _ h => ⟨h, rfl⟩, fun _ _ h => h, fun o B hF => ?_, rfl⟩
    have := S.fz o B hF
    rw [Array.getElem?_push, if_neg (by omega)]
  have S' : Sim g h (w.heap.push ob) := by
    refine ⟨fun b => (S.blk b).mono E rfl rfl rfl (fun _ h => h) fun ha => ?_, S.inj, fun o B hF => by have := S.fz o B hF; simp; omega, S.sub⟩
    have := (alive_image S ha).1
    rw [Array.getElem?_push, if_neg (by omega)]
  refine ⟨.value v, v, _, g, hr, rfl, ⟨S', E, by simp, fun c' hc' _ => ?_, fun b hb => .inl ⟨hb, rfl⟩, fun _ _ h => .inl h, fun _ h => .inl h, rfl, rfl, rfl⟩, hv _ E⟩
  rw [Array.getElem?_push, if_neg (by omega)]

theorem good_buildSlice (S : Sim g h w.heap) (hgl : GlOK gl g h w.heap) (ht : VRL g h w.heap t a.tmps.toList) {o : Oper} {ty : TypeId} {len : Nat} {parts : Array (Nat × Operand)} (ho : o.op = .buildSlice ty len parts) {vs : List (Nat × AV)} {e : Eff}
    (hx : parts.toList.mapM (fun p => (evO gl t p.2).map fun v => (p.1, v)) = some vs) (he : buildSliceA P k ty len vs = some e) (hk : e.al ≠ [] → ¬ g.dom k) : Good g h w k e ((execOp a.eval o).run P w) := by
  obtain ⟨p1, p2⟩ := parts_sound hgl ht hx
  have hpl : (parts.map fun (i, x) => (i, a.eval x)).toList = parts.toList.map fun p => (p.1, a.eval p.2) := by simp
  unfold buildSliceA at he
  cases h0 : elemTy P ty with
  | none => simp [h0] at he
  | some q =>
  obtain ⟨elem, size, ag⟩ := q
  cases hz : zeroA P elem with
  | none => simp [h0, hz] at he
  | some z =>
  simp only [h0, hz, Option.bind_some] at he
  split at he
  case isFalse => cases he
  rename_i hc
  obtain ⟨c1, c2, c3⟩ := hc
  obtain ⟨hu, hsz, hag⟩ := elemTy_spec h0
  obtain ⟨zv, hzp, hzv, hzst⟩ := zeroA_sound (g := g) (h := h) (w := w) hz
  have hzs : zv.cells.size = size := by
    have := (hzv.cells (ne_top hzst)).length
    rw [c1] at this; simpa using this.symm
  cases h2 : buildCells P (fun i => some (i * size, size)) (List.replicate len z.cells).flatten vs with
  | none => simp [h2] at he
  | some cells =>
  simp only [h2, Option.bind_some] at he
  obtain ⟨C', r1, r2, r3⟩ := fill_run (P := P) (fun i => some (i * size, size)) vs _ _ cells _ p1 p2 ((hzv.cells (ne_top hzst)).flat_replicate len) (stor_flat hzst len) h2
  have hlen : ¬ (len * size > 2 ^ 24) := by
    have : (2 : Nat) ^ 24 = 16777216 := by decide
    omega
  have hcells : C'.length = cells.length := r2.length.symm
  -- the machine's run
  have hrun : (execOp a.eval o).run P w = .ok (.value (.slice (some ⟨w.heap.size, 0, none⟩) len len)) (w.alloc (.cells C'.toArray elem)) := by
    simp only [execOp, ho, Instr.buildSlice, bind_assoc]
    rw [run_andThen (run_underlyingX hu)]
    simp only [bind_assoc]
    rw [run_andThen (show purely P (sizeOf elem) = some size from hsz)]
    simp only [if_neg hlen]
    by_cases hl0 : len * size = 0
    · have hl : len = 0 := by
        rcases Nat.mul_eq_zero.1 hl0 with h | h
        · exact h
        · exact absurd h c2
      subst hl
      simp only [Nat.zero_mul, if_true, pure_bind]
      have r1' : Instr.fill (fun i => some (i * size, size)) #[] (parts.toList.map fun p => (p.1, a.eval p.2)) = some C'.toArray := by simpa using r1
      have e1 : (Array.range 0).map (fun x => (#[] : Array Value)[x % (#[] : Array Value).size]!) = #[] := by simp
      simp only [hpl, e1, r1']
      simp [newRow, newObj, Sem.run]
    · simp only [if_neg hl0, bind_assoc]
      rw [run_andThen hzp]
      simp only [pure_bind]
      have e1 : (Array.range (len * size)).map (zv.cells[· % zv.cells.size]!) = (List.replicate len zv.cells.toList).flatten.toArray := by
        apply Array.ext'
        rw [← hzs]
        simpa using rep_cells zv.cells len
      have r1' : Instr.fill (fun i => some (i * size, size)) (List.replicate len zv.cells.toList).flatten.toArray (parts.toList.map fun p => (p.1, a.eval p.2)) = some C'.toArray := by simpa using r1
      simp only [hpl, e1, r1']
      simp [newRow, newObj, Sem.run]
  split at he
  · rename_i hl
    cases he
    subst hl
    exact good_garbage S _ w.drawn (fun _ _ => .e0 _) hrun
  · rename_i hl
    cases he
    have hcl : cells.length = len * size := by
      have hb : ∀ (ps : List (Nat × AV)) (c0 c1 : List AV), buildCells P (fun i => some (i * size, size)) c0 ps = some c1 → c1.length = c0.length := by
        intro ps
        induction ps with
        | nil => intro c0 c1 h; simp [buildCells] at h; rw [h]
        | cons p ps ih =>
          intro c0 c1 h
          obtain ⟨i, v⟩ := p
          simp only [buildCells, Option.bind_eq_bind, Option.bind_some] at h
          split at h
          · rename_i hcc
            rw [ih _ _ h, splice_length _ _ _ (by omega)]
          · cases h
      rw [hb _ _ _ h2]
      simp [c1]
    refine good_alloc S (hk (by simp)) r2 r3 (c := C'.toArray) (ty := elem) (fun i hi => by simp) w.drawn (unfrozen_zero _) (v := .slice (some ⟨w.heap.size, 0, none⟩) len len) (fun g' hp' hg' _ => ?_) hrun
    obtain ⟨m1, m2, m3, m4⟩ := hg' k rfl
    refine .sl size ag k 0 len len _ len m4 (Nat.le_refl _) fun cs hcs => ?_
    rw [upd_same] at hcs; cases hcs
    refine ⟨by omega, fun _ => ⟨by rw [m1, m2], ?_⟩⟩
    rw [m2, m3]
    simp only [List.size_toArray]
    omega

theorem makeSliceA_good (S : Sim g h w.heap) {ty : TypeId} {l c : AV} {lv cv : Value} (hl : VR g h w.heap l lv) (hc : VR g h w.heap c cv) {e : Eff} (he : makeSliceA P k ty l c = some e) (hk : e.al ≠ [] → ¬ g.dom k) :
    Good g h w k e ((do pure (.value (← Instr.makeSlice ty lv cv)) : Sem Next).run P w) := by
  unfold makeSliceA at he
  cases h0 : elemTy P ty with
  | none => simp [h0] at he
  | some q =>
  obtain ⟨elem, s, ag⟩ := q
  cases h1 : asN l with
  | none => simp [h0, h1] at he
  | some q =>
  obtain ⟨k1, n⟩ := q
  cases h2 : asN c with
  | none => simp [h0, h1, h2] at he
  | some q =>
  obtain ⟨k2, m⟩ := q
  cases hz : zeroA P elem with
  | none => simp [h0, h1, h2, hz] at he
  | some z =>
  simp only [h0, h1, h2, hz, Option.bind_some] at he
  split at he
  case isFalse => cases he
  rename_i hcc
  obtain ⟨c1, c2, c3, c4, c5, c6⟩ := hcc
  have := asN_sound hl h1
  subst this
  have := asN_sound hc h2
  subst this
  obtain ⟨n, rfl⟩ := Int.eq_ofNat_of_zero_le c1
  obtain ⟨m, rfl⟩ := Int.eq_ofNat_of_zero_le (show 0 ≤ m by omega)
  simp only [Int.toNat_natCast] at he
  obtain ⟨hu, hsz, hag⟩ := elemTy_spec h0
  obtain ⟨i, hi, hb0, hb⟩ := bytesOk_spec c6
  obtain ⟨zv, hzp, hzv, hzst⟩ := zeroA_sound (g := g) (h := h) (w := w) hz
  have hzs : zv.cells.size = s := by
    have := (hzv.cells (ne_top hzst)).length
    rw [c4] at this; simpa using this.symm
  have hbig : i.bytes * m ≤ 1048576 * 100000 := Nat.mul_le_mul hb (by omega)
  have hwn : IntKind.i64.wrap (n : Int) = n := wrap_nat (by omega)
  have hwm : IntKind.i64.wrap (m : Int) = m := wrap_nat (by omega)
  have h48 : ¬ ((281474976710656 : Int) < (i.bytes : Int) * (m : Int)) := by
    have : (i.bytes : Int) * (m : Int) = ((i.bytes * m : Nat) : Int) := by simp
    rw [this]; omega
  have hroom : ¬ (140737488355328 < m * i.bytes) := by rw [Nat.mul_comm]; omega
  have hneg : ¬ ((m : Int) < 0) := by omega
  have hneg2 : ¬ ((n : Int) < 0) := by omega
  have hnm : ¬ ((m : Int) < n) := by omega
  have hsz' : i.size = s := info_of_sz hi hsz
  have hiz := zero_of hi hzp
  have hrun : (do pure (.value (← Instr.makeSlice ty (.int k1 n) (.int k2 m))) : Sem Next).run P w =
      .ok (.value (.slice (some ⟨w.heap.size, 0, none⟩) n m)) (w.alloc (.cells (List.replicate m zv.cells.toList).flatten.toArray elem)) := by
    have e1 : (Array.range (m * s)).map (zv.cells[· % zv.cells.size]!) = (List.replicate m zv.cells.toList).flatten.toArray := by
      apply Array.ext'
      rw [← hzs]
      simpa using rep_cells zv.cells m
    by_cases hm0 : m * s = 0
    · have hm : m = 0 := by
        rcases Nat.mul_eq_zero.1 hm0 with h | h
        · exact h
        · exact absurd h c5
      subst hm
      have hn : n = 0 := by omega
      subst hn
      have hw0 : IntKind.i64.wrap 0 = 0 := by simpa using hwn
      simp [Instr.makeSlice, run_underlying hu, asInt, asIntOf, typeInfo, sizeOf, hi, hw0, askRoom, roomBytes, newRow, newObj, Sem.run]
      congr 2
      apply Array.ext'
      simp
    · have hm0' : ¬ (m * i.size = 0) := by rw [hsz']; exact hm0
      have e1' : (Array.range (m * i.size)).map (zv.cells[· % zv.cells.size]!) = (List.replicate m zv.cells.toList).flatten.toArray := by rw [hsz']; exact e1
      simp [Instr.makeSlice, run_underlying hu, asInt, asIntOf, typeInfo, sizeOf, zeroValue, hi, hiz, hwn, hwm, h48, hneg, hneg2, hnm, askRoom, roomBytes, hroom, hm0', newRow, newObj, Sem.run]
      rw [e1']
  split at he
  · rename_i hm
    cases he
    have : m = 0 := by omega
    subst this
    have hn : n = 0 := by omega
    subst hn
    exact good_garbage S _ w.drawn (fun _ _ => .e0 _) hrun
  · rename_i hm
    cases he
    have hL := (hzv.cells (ne_top hzst)).flat_replicate m
    refine good_alloc S (hk (by simp)) hL (stor_flat hzst m) (c := (List.replicate m zv.cells.toList).flatten.toArray) (ty := elem) (fun i hi => by simp) w.drawn (unfrozen_zero _) (v := .slice (some ⟨w.heap.size, 0, none⟩) n m) (fun g' hp' hg' _ => ?_) hrun
    obtain ⟨m1, m2, m3, m4⟩ := hg' k rfl
    refine .sl s ag k 0 n m _ m m4 (Nat.le_refl _) fun cs hcs => ?_
    rw [upd_same] at hcs; cases hcs
    have hfl : (List.replicate m z.cells).flatten.length = m * s := by simp [c4]
    refine ⟨by omega, fun _ => ⟨by rw [m1, m2], ?_⟩⟩
    rw [m2, m3]
    simp [hzs]

theorem VRL.one {l : List AV} {L : List Value} {x : AV} (hl : VRL g h w.heap l L) (he : l = [x]) : ∃ v, L = [v] ∧ VR g h w.heap x v := by
  subst he
  cases hl with
  | cons _ v _ L' hx hr => cases hr; exact ⟨v, rfl, hx⟩

theorem toVs_sound {l : List AV} {L W : List Value} (hl : VRL g h w.heap l L) (hm : l.mapM toV = some W) : L = W := by
  induction l generalizing L W with
  | nil => cases hl; simp at hm; exact hm.symm ▸ rfl
  | cons a l ih =>
    cases hl with
    | cons _ v _ L ha hl =>
      simp only [List.mapM_cons] at hm
      cases h1 : toV a with
      | none => simp [h1] at hm
      | some w' =>
        cases h2 : l.mapM toV with
        | none => simp [h1, h2] at hm
        | some W' =>
          simp [h1, h2] at hm
          subst hm
          rw [ha.of_toV h1, ih hl h2]

theorem len_slice_run {argTypes : Array TypeId} {ty T e : TypeId} {b : Option Addr} {n c : Nat} (h0 : argTypes[0]? = some T) (hu : P.underlying T = some (.slice e)) :
    (Builtin.len_ argTypes ty #[.slice b n c]).run P w = .ok (.int .i64 n) w := by
  simp [Builtin.len_, h0, run_underlying hu, goInt]

theorem slLen_sound {x : AV} {v : Value} {n : Nat} (hv : VR g h w.heap x v) (hn : slLen x = some n) : ∃ b c, v = .slice b n c := by
  cases hv with
  | sc v hp =>
    cases v with
    | slice b len cap =>
      cases b with
      | some b => simp [slLen] at hn
      | none => cases len <;> cases cap <;> simp [slLen] at hn; subst hn; exact ⟨_, _, rfl⟩
    | _ => simp [slLen] at hn
  | e0 ad => simp [slLen] at hn; subst hn; exact ⟨_, _, rfl⟩
  | fz own s es L ad cap' hL hst hs hr hcap hfr => simp [slLen] at hn; subst hn; exact ⟨_, _, rfl⟩
  | fzn own s => simp [slLen] at hn; subst hn; exact ⟨_, _, rfl⟩
  | sl s ag b off len cap ad cap' hd hcap hcur => simp [slLen] at hn; subst hn; exact ⟨_, _, rfl⟩
  | _ => simp [slLen] at hn

theorem src_take (S : Sim g h w.heap) {x : AV} {v : Value} (hv : VR g h w.heap x v) {n sz m : Nat} {cs : List AV} {rd : List Nat} (hx : srcA h x = some (n, cs, rd)) (hlen : cs.length = n * sz) (hm : m ≤ n) :
    (Builtin.lenOf v).run P w = .ok n w ∧ ∃ L, VRL g h w.heap (cs.take (m * sz)) L ∧ cs.all AV.stor = true ∧ (Builtin.firstCells sz m v).run P w = .ok L.toArray w := by
  unfold srcA at hx
  split at hx
  · rename_i b
    cases hx
    have := hv.of_toV (w := .string b) rfl
    subst this
    have hsz : b.size = b.size * sz := by
      have : b.data.toList.length = b.size := by rw [Array.length_toList]; rfl
      rw [List.length_map, this] at hlen; exact hlen
    have hm' : m * sz = m := by
      rcases Nat.eq_zero_or_pos b.size with e | e
      · have : m = 0 := by omega
        subst this; simp
      · have : sz = 1 := by
          have h1 : b.size * 1 = b.size * sz := by omega
          exact (Nat.eq_of_mul_eq_mul_left e h1).symm
        subst this; omega
    refine ⟨rfl, (b.data.toList.map fun c => Value.int .u8 c.toNat).take m, ?_, bytes_stor _, ?_⟩
    · rw [hm']; exact (bytes_VRL _).take m
    · simp only [Builtin.firstCells, Sem.run_pure, Result.ok.injEq, and_true]
      apply Array.ext'
      rw [ByteArray.data_extract, Array.toList_map, Array.toList_extract]
      simp [List.extract_eq_take_drop, List.map_take]
  · cases h1 : slLen x with
    | none => simp [h1] at hx
    | some n' =>
      cases h2 : slCells h x with
      | none => simp [h1, h2] at hx
      | some p =>
        obtain ⟨cs', rd'⟩ := p
        simp [h1, h2] at hx
        obtain ⟨rfl, rfl, rfl⟩ := hx
        obtain ⟨ad, cap, rfl, hst, L, hL, hr⟩ := slice_reads S hv h1 h2
        have hl := hL.length
        have hmul : m * sz ≤ n' * sz := Nat.mul_le_mul_right _ hm
        refine ⟨rfl, L.take (m * sz), hL.take _, hst, ?_⟩
        by_cases hz : cs'.length = 0
        · have hL0 : L = [] := List.length_eq_zero_iff.1 (by omega)
          subst hL0
          have : m * sz = 0 := by omega
          cases ad with
          | none => simp [Builtin.firstCells]
          | some ad => simp [Builtin.firstCells, this, loadCells, loadCellsFrom]
        · obtain ⟨B, o, rfl, hcell⟩ := hr hz
          simp only [Builtin.firstCells]
          refine loadCells_run _ (by simp; omega) fun j hj => ?_
          simp at hj
          rw [hcell j (by omega), List.getElem?_take, if_pos (by omega)]

/-- 'copy' into a live slice. -/
theorem copyA_good (S : Sim g h w.heap) {argTypes : Array TypeId} {ty : TypeId} {cb : Array Bool} {args : List AV} {L : List Value} (hL : VRL g h w.heap args L) {e : Eff} (he : copyA P h argTypes args = some e) :
    Good g h w k e ((builtin .copy argTypes ty cb L.toArray).run P w) := by
  unfold copyA at he
  cases h0 : argTypes[0]? with
  | none => simp [h0] at he
  | some dT =>
  cases h2 : args[0]? with
  | none => simp [h0, h2] at he
  | some d =>
  cases h3 : args[1]? with
  | none => simp [h0, h2, h3] at he
  | some x =>
  cases h4 : elemTy P dT with
  | none => simp [h0, h2, h3, h4] at he
  | some q =>
  obtain ⟨el, sz, ag⟩ := q
  cases h5 : slLen d with
  | none => simp [h0, h2, h3, h4, h5] at he
  | some dn =>
  cases h6 : srcA h x with
  | none => simp [h0, h2, h3, h4, h5, h6] at he
  | some q =>
  obtain ⟨n, cs, rd⟩ := q
  simp only [h0, h2, h3, h4, h5, h6, Option.bind_some] at he
  split at he
  case isFalse => cases he
  rename_i hc
  obtain ⟨c1, c2⟩ := hc
  obtain ⟨u, v, R, rfl, hd, hx⟩ := hL.get2 h2 h3
  obtain ⟨hu, hsz, hag⟩ := elemTy_spec h4
  obtain ⟨b, c, rfl⟩ := slLen_sound hd h5
  obtain ⟨p1, N, p2, p3, p4⟩ := src_take (P := P) S hx h6 c1 (Nat.min_le_left n dn)
  have hNl := p2.length
  have hrun : ∀ {w'}, (match b with | some ad => (storeCells ad N).run P w | none => .ok () w) = .ok () w' → (builtin .copy argTypes ty cb (Value.slice b dn c :: v :: R).toArray).run P w = .ok (.value (.int .i64 (Nat.min n dn))) w' := by
    intro w' hw
    simp only [builtin, Sem.run_bind]
    have : (Builtin.copy_ argTypes ty (Value.slice b dn c :: v :: R).toArray).run P w = .ok (.int .i64 (Nat.min n dn)) w' := by
      unfold Builtin.copy_
      have e0 : (Value.slice b dn c :: v :: R).toArray[0]? = some (.slice b dn c) := rfl
      have e1 : (Value.slice b dn c :: v :: R).toArray[1]? = some v := rfl
      rw [e0, e1, h0]
      dsimp only
      rw [run_andThen (run_underlyingX hu)]
      dsimp only
      rw [Sem.run_bind, p1]
      simp only [Result.andThen_ok]
      rw [run_andThen (show purely P (sizeOf el) = some sz from hsz), Sem.run_bind, p4]
      simp only [Result.andThen_ok]
      cases b with
      | none => cases hw; rfl
      | some ad =>
        simp only [] at hw
        simp only [Sem.run_bind, hw, Result.andThen_ok]
        rfl
    rw [this]
    rfl
  split at he
  · rename_i hm0
    cases he
    have hm1 : min n dn = 0 := hm0
    have hN0 : N = [] := List.length_eq_zero_iff.1 (by rw [← hNl]; simp [hm1])
    subst hN0
    refine good_value S (.sc _ rfl) ?_
    have := hrun (w' := w) (by cases b <;> simp [storeCells])
    rw [show (Nat.min n dn) = 0 from hm0] at this
    exact this
  · rename_i hm0
    split at he
    · rename_i s' ag' bb off len cap
      split at he
      case isFalse => cases he
      rename_i hcc
      obtain ⟨rfl, d1⟩ := hcc
      cases hcu : curCells h bb (off + cap * s') with
      | none => simp [hcu] at he
      | some ds =>
        simp only [hcu, Option.bind_some] at he
        cases he
        obtain ⟨hcs, hcl⟩ := cellsAt hcu
        have hdn : dn = len := by simpa [slLen] using h5.symm
        have hmle : Nat.min n dn ≤ dn := Nat.min_le_right _ _
        have hmul : Nat.min n dn * s' ≤ cap * s' := Nat.mul_le_mul_right _ (by omega)
        have htl : (cs.take (Nat.min n dn * s')).length ≤ Nat.min n dn * s' := by
          rw [List.length_take]; exact Nat.min_le_left _ _
        have hle : off + (cs.take (Nat.min n dn * s')).length ≤ ds.length := by omega
        clear htl hmul hmle hdn
        cases hd with
        | sl _ _ _ _ _ _ ad cap' hd hcap hcur =>
          obtain ⟨r1, r2⟩ := hcur ds hcs
          obtain ⟨rfl, r3⟩ := r2 hcl
          obtain ⟨w', q1, q2⟩ := good_store (P := P) (k := k) (off := off) S hcs p2 (stor_sub p3 fun x hx => List.mem_of_mem_take hx) hle
          exact q2 _ _ (.value _) _ _ rfl (fun _ _ => .sc _ rfl) (hrun q1)
    · cases he

end ops
end Go.Xv

namespace Go.Xv

section ops
variable {P : Program} {gl : Nat → Option (List AV)} {g : G} {h : Nat → Blk} {w : World} {k : Nat} {t : Tmps} {a : Act}

theorem bytesOf_ints {cs : List AV} : ∀ {L : List Value} {acc b : ByteArray}, VRL g h w.heap cs L → bytesOf cs acc = some b →
    ∃ ns : List Int, L = ns.map (Value.int .u8) ∧ b = ns.foldl (fun s n => s.push (UInt8.ofNat n.toNat)) acc := by
  induction cs with
  | nil => intro L acc b hL hb; cases hL; simp [bytesOf] at hb; exact ⟨[], rfl, hb.symm⟩
  | cons c cs ih =>
    intro L acc b hL hb
    cases hL with
    | cons _ v _ L hc hl =>
      unfold bytesOf at hb
      split at hb
      · rename_i heq; cases heq
      · rename_i heq
        cases heq
        obtain ⟨ns, h1, h2⟩ := ih hl hb
        have := hc.of_toV (w := .int .u8 _) rfl
        subst this
        exact ⟨_ :: ns, by rw [h1]; rfl, h2⟩
      · cases hb

theorem convA_good (S : Sim g h w.heap) {src dst : TypeId} {x : AV} {v : Value} (hv : VR g h w.heap x v) {e : Eff} (he : convA P h k src dst x = some e) (hk : e.al ≠ [] → ¬ g.dom k) :
    Good g h w k e ((do pure (.value (← convert src dst v)) : Sem Next).run P w) := by
  unfold convA at he
  split at he
  · rename_i el hs hd
    split at he
    · rename_i s
      split at he
      case isFalse => cases he
      rename_i hu8
      cases he
      have := hv.of_toV (w := .string s) rfl
      subst this
      have hel : P.underlying el = some (.int .u8) := by
        unfold isU8 at hu8
        split at hu8
        · assumption
        · cases hu8
      obtain ⟨cap, hcapd⟩ : ∃ c, c = grownCap w s.size 0 el := ⟨_, rfl⟩
      have hcap : s.size ≤ cap := by rw [hcapd]; exact grownCap_ge w s.size 0 el
      obtain ⟨cells, hcells⟩ : ∃ c, c = Lib.bytesCells w el s := ⟨_, rfl⟩
      have hcs : cells.size = cap := by
        have : s.data.size = s.size := rfl
        rw [hcells, hcapd] at *
        simp [Lib.bytesCells, this]; omega
      have hheap : (Lib.bytesWorld w el s).heap = w.heap.push (.cells cells el (cells.size, cells.size + 1)) := by
        apply Array.ext_getElem?
        intro i
        rcases Nat.lt_trichotomy i w.heap.size with h1 | h1 | h1
        · rw [Lib.bytesWorld_at_old w el s i h1, Array.getElem?_push, if_neg (by omega)]
        · subst h1
          rw [Lib.bytesWorld_at_new, hcells]; simp
        · rw [Array.getElem?_eq_none (by rw [Lib.bytesWorld_size]; omega), Array.getElem?_eq_none (by simp; omega)]
      have hworld : Lib.bytesWorld w el s = { w with heap := w.heap.push (.cells cells el (cells.size, cells.size + 1)), drawn := w.drawn + 1 } := by
        rw [← hheap]; rfl
      have hrun : (do pure (.value (← convert src dst (.string s))) : Sem Next).run P w = .ok (.value (.slice (some ⟨w.heap.size, 0, none⟩) s.size cap)) { w with heap := w.heap.push (.cells cells el (cells.size, cells.size + 1)), drawn := w.drawn + 1 } := by
        rw [Sem.run_bind, Lib.run_convert_string_bytes w src dst el s hs hd hel, hworld, hcapd]
        rfl
      refine good_alloc S (hk (by simp)) (bytes_VRL s.data.toList) (bytes_stor _) (c := cells) (ty := el) (fun i hi => ?_) (w.drawn + 1) (fr := (cells.size, cells.size + 1)) (fun i hi => ?_) (v := .slice (some ⟨w.heap.size, 0, none⟩) s.size cap) (fun g' hp' hg' _ => ?_) hrun
      · simp only [List.length_map] at hi
        have hi' : i < (s.data.map fun b => Value.int .u8 b.toNat).size := by simpa using hi
        rw [hcells]
        unfold Lib.bytesCells
        rw [Array.getElem?_append_left hi']
        simp
      · simp; omega
      · obtain ⟨m1, m2, m3, m4⟩ := hg' k rfl
        refine .sl 1 false k 0 s.size s.size _ cap m4 hcap fun cs hcs' => ?_
        rw [upd_same] at hcs'; cases hcs'
        have : s.data.toList.length = s.size := by rw [Array.length_toList]; rfl
        refine ⟨by simp [this], fun _ => ⟨by rw [m1, m2], ?_⟩⟩
        rw [m2, m3, hcs]; omega
    · cases he
  · rename_i el hs hd
    split at he
    case isFalse => cases he
    rename_i hu8
    have hel : P.underlying el = some (.int .u8) := by
      unfold isU8 at hu8
      split at hu8
      · assumption
      · cases hu8
    cases h1 : slLen x with
    | none => simp [h1] at he
    | some n =>
    cases h2 : slCells h x with
    | none => simp [h1, h2] at he
    | some q =>
    obtain ⟨cs, rd⟩ := q
    cases h3 : bytesOf cs .empty with
    | none => simp [h1, h2, h3] at he
    | some b =>
    simp only [h1, h2, h3, Option.bind_some] at he
    split at he
    case isFalse => cases he
    rename_i hn
    cases he
    obtain ⟨ad, cap, rfl, hst, L, hL, hr⟩ := slice_reads S hv h1 h2
    obtain ⟨ns, rfl, hb⟩ := bytesOf_ints hL h3
    have hl := hL.length
    refine good_value S (.sc _ rfl) ?_
    rw [Sem.run_bind]
    have hconv : (convert src dst (.slice ad n cap)).run P w = (Conv.bytesToString (.slice ad n cap)).run P w := by
      unfold convert
      rw [run_andThen (run_underlyingX hs), run_andThen (run_underlyingX hd)]
      simp only []
      rw [run_andThen (run_underlyingX hel)]
    rw [hconv]
    have hload : ∀ a, ad = some a → (loadCells a n).run P w = .ok (ns.map (Value.int .u8)).toArray w := by
      intro a ha
      by_cases hz : cs.length = 0
      · have : ns = [] := by
          have : ns.length = 0 := by simpa [hz] using hl.symm
          exact List.length_eq_zero_iff.1 this
        subst this
        have : n = 0 := by omega
        subst this
        simp [loadCells, loadCellsFrom]
      · obtain ⟨B, o, h5, hcell⟩ := hr hz
        rw [ha] at h5
        cases h5
        exact loadCells_run _ (by omega) hcell
    cases ad with
    | none =>
      have hz : cs.length = 0 := by
        rcases Nat.eq_zero_or_pos cs.length with e | e
        · exact e
        · obtain ⟨B, o, h5, _⟩ := hr (by omega)
          cases h5
      have : ns = [] := by
        have : ns.length = 0 := by simpa [hz] using hl.symm
        exact List.length_eq_zero_iff.1 this
      subst this
      rw [hb]
      rfl
    | some a =>
      rw [run_bytesToString w a n cap ns (hload a rfl), hb]
      rfl
  · cases h1 : toV x with
    | none => simp [h1] at he
    | some u =>
      simp only [h1, Option.bind_some] at he
      have := hv.of_toV h1
      subst this
      exact pureV_good S he fun r hr => by simp only [Sem.run_bind, hr, Result.andThen_ok, Sem.run_pure]

end ops
end Go.Xv

namespace Go.Xv

section ops
variable {P : Program} {gl : Nat → Option (List AV)} {g : G} {h : Nat → Blk} {w : World} {k : Nat} {t : Tmps} {a : Act}

theorem purely_bind {α β : Type} {x : Sem α} {f : α → Sem β} {b : β} (h : purely P (x >>= f) = some b) : ∃ a, purely P x = some a ∧ purely P (f a) = some b := by
  change purely P (x.bind f) = some b at h
  induction x with
  | pure a => exact ⟨a, rfl, h⟩
  | program k ih => simp only [Sem.bind, purely] at h ⊢; exact ih _ h
  | mark m k ih => simp only [Sem.bind, purely] at h ⊢; exact ih h
  | _ => simp [Sem.bind, purely] at h

/-- What was found at a place, and what lies there. -/
def FoundAt (l : List MapEntry) (n : Nat) (r r' : Option (Nat × Value)) : Prop :=
  (r = none ∧ r' = none) ∨ ∃ i v e, r = some (n + i, v) ∧ l[i]? = some e ∧ r' = some (n + i, e.val)

theorem FoundAt.next {l : List MapEntry} {n : Nat} {r r' : Option (Nat × Value)} (e : MapEntry) (h : FoundAt l (n + 1) r r') : FoundAt (e :: l) n r r' := by
  rcases h with h | ⟨i, v, e', h1, h2, h3⟩
  · exact .inl h
  · exact .inr ⟨i + 1, v, e', by rw [h1]; congr 2; omega, by simpa using h2, by rw [h3]; congr 2; omega⟩

theorem findNow_same (d : TypeDesc) (kv : Value) : ∀ (l l' : List MapEntry) (n : Nat), l.map (·.key) = l'.map (·.key) →
    (Instr.findNow d kv l n = none ∧ Instr.findNow d kv l' n = none) ∨ ∃ r r', Instr.findNow d kv l n = some r ∧ Instr.findNow d kv l' n = some r' ∧ FoundAt l' n r r'
  | [], l', n, hk => by
    cases l' with
    | nil => exact .inr ⟨none, none, rfl, rfl, .inl ⟨rfl, rfl⟩⟩
    | cons e l' => simp at hk
  | e :: l, l', n, hk => by
    cases l' with
    | nil => simp at hk
    | cons e' l' =>
      simp only [List.map_cons, List.cons.injEq] at hk
      simp only [Instr.findNow, hk.1]
      cases hs : Instr.sameNow d kv e'.key with
      | none => exact .inl ⟨rfl, rfl⟩
      | some b =>
        cases b with
        | true => exact .inr ⟨_, _, rfl, rfl, .inr ⟨0, e.val, e', rfl, rfl, rfl⟩⟩
        | false =>
          rcases findNow_same d kv l l' (n + 1) hk.2 with ⟨h1, h2⟩ | ⟨r, r', h1, h2, h3⟩
          · exact .inl ⟨h1, h2⟩
          · exact .inr ⟨r, r', h1, h2, h3.next e'⟩

theorem findAsking_same (kT : TypeId) (kv : Value) : ∀ (l l' : List MapEntry) (n : Nat) (r : Option (Nat × Value)), l.map (·.key) = l'.map (·.key) → purely P (Instr.findAsking kT kv l n) = some r →
    ∃ r', (Instr.findAsking kT kv l' n).run P w = .ok r' w ∧ FoundAt l' n r r'
  | [], l', n, r, hk, hr => by
    cases l' with
    | nil => simp [Instr.findAsking, purely, pure] at hr; subst hr; exact ⟨none, rfl, .inl ⟨rfl, rfl⟩⟩
    | cons e l' => simp at hk
  | e :: l, l', n, r, hk, hr => by
    cases l' with
    | nil => simp at hk
    | cons e' l' =>
      simp only [List.map_cons, List.cons.injEq] at hk
      simp only [Instr.findAsking] at hr ⊢
      obtain ⟨b, h1, h2⟩ := purely_bind hr
      rw [hk.1] at h1
      rw [run_andThen h1]
      cases b with
      | true =>
        simp [purely, pure] at h2
        subst h2
        exact ⟨_, rfl, .inr ⟨0, e.val, e', rfl, rfl, rfl⟩⟩
      | false =>
        simp at h2
        obtain ⟨r', q1, q2⟩ := findAsking_same kT kv l l' (n + 1) r hk.2 h2
        exact ⟨r', by simpa using q1, q2.next e'⟩

theorem findKey_same {kT : TypeId} {kv : Value} {l l' : List MapEntry} {r : Option (Nat × Value)} (hk : l.map (·.key) = l'.map (·.key)) (hr : purely P (Instr.findKey kT kv l) = some r) :
    ∃ r', (Instr.findKey kT kv l').run P w = .ok r' w ∧ FoundAt l' 0 r r' := by
  unfold Instr.findKey at hr ⊢
  obtain ⟨d, h1, h2⟩ := purely_bind hr
  rw [run_andThen h1]
  rcases findNow_same d kv l l' 0 hk with ⟨q1, q2⟩ | ⟨r1, r2, q1, q2, q3⟩
  · rw [q1] at h2
    rw [q2]
    exact findAsking_same kT kv l l' 0 r hk h2
  · rw [q1] at h2
    rw [q2]
    simp [purely, pure] at h2
    subst h2
    exact ⟨r2, rfl, q3⟩

/-- What a map holds. -/
structure MapIs (g : G) (h : Nat → Blk) (hp : Array Obj) (es : List (Value × AV × Nat)) (ents : List MapEntry) : Prop where
  keys : es.map (·.1) = ents.map (·.key)
  vals : VRL g h hp (es.map (·.2.1)) (ents.map (·.val))

theorem entriesV_keys (es : List (Value × AV × Nat)) : (entriesV es).map (·.key) = es.map (·.1) := by simp [entriesV]

theorem findA_run {kT : TypeId} {kv : Value} {es : List (Value × AV × Nat)} {ents : List MapEntry} (hm : MapIs g h w.heap es ents) {r : Option Nat} (hr : findA P kT kv es = some r) :
    ∃ r', (Instr.findKey kT kv ents).run P w = .ok r' w ∧ ((r = none ∧ r' = none) ∨ ∃ i e, r = some i ∧ ents[i]? = some e ∧ r' = some (i, e.val)) := by
  unfold findA at hr
  cases h1 : purely P (Instr.findKey kT kv (entriesV es)) with
  | none => simp [h1] at hr
  | some q =>
    simp [h1] at hr
    obtain ⟨r', q1, q2⟩ := findKey_same (w := w) (l' := ents) (by rw [entriesV_keys, hm.keys]) h1
    refine ⟨r', q1, ?_⟩
    rcases q2 with ⟨rfl, rfl⟩ | ⟨i, v, e, rfl, h2, h3⟩
    · exact .inl ⟨by simpa using hr.symm, rfl⟩
    · simp at hr h3
      exact .inr ⟨i, e, hr.symm, h2, h3⟩

theorem MapIs.at {es : List (Value × AV × Nat)} {ents : List MapEntry} (hm : MapIs g h w.heap es ents) {i : Nat} {e : Value × AV × Nat} (he : es[i]? = some e) : ∃ e', ents[i]? = some e' ∧ e'.key = e.1 ∧ VR g h w.heap e.2.1 e'.val := by
  have hv : (es.map (·.2.1))[i]? = some e.2.1 := by simp [he]
  obtain ⟨v, h1, h2⟩ := hm.vals.get hv
  have hk : (es.map (·.1))[i]? = some e.1 := by simp [he]
  rw [hm.keys] at hk
  simp only [List.getElem?_map, Option.map_eq_some_iff] at h1 hk
  obtain ⟨e1, q1, rfl⟩ := h1
  obtain ⟨e2, q2, q3⟩ := hk
  rw [q1] at q2
  cases q2
  exact ⟨e1, q1, q3, h2⟩

theorem MapIs.length {es : List (Value × AV × Nat)} {ents : List MapEntry} (hm : MapIs g h w.heap es ents) : es.length = ents.length := by
  have := congrArg List.length hm.keys
  simpa using this

/-- The map behind a value. -/
theorem mapOf_run (S : Sim g h w.heap) {m : AV} {v : Value} (hv : VR g h w.heap m v) {es : List (Value × AV × Nat)} {rd : List Nat} (hm : mapOf h m = some (es, rd)) :
    (v = .map none ∧ es = []) ∨ ∃ r ents clock, v = .map (some r) ∧ w.heap[r]? = some (.map ents clock) ∧ MapIs g h w.heap es ents.toList := by
  cases hv with
  | sc v hp =>
    cases v with
    | map r =>
      cases r with
      | none => simp [mapOf] at hm; exact .inl ⟨rfl, by first | exact hm.1 | exact hm.1.symm⟩
      | some r => simp [mapOf] at hm
    | _ => simp [mapOf] at hm
  | mp b r hd hc =>
    simp only [mapOf] at hm
    split at hm
    · rename_i es' clock hb
      cases hm
      obtain ⟨_, _, ents, h1, h2, h3⟩ := (show BlkOK g h w.heap b (.map es clock) from hb ▸ S.blk b)
      have := hc (by rw [hb]; rfl)
      subst this
      refine .inr ⟨_, ents, clock, rfl, h1, ?_, h3⟩
      have := congrArg (List.map Prod.fst) h2
      simpa [List.map_map, Function.comp_def] using this.symm
    · cases hm
  | fm own es' r ents clock hF hr hk hL hfr =>
    simp [mapOf] at hm
    obtain ⟨rfl, rfl⟩ := hm
    refine .inr ⟨r, ents, clock, rfl, hr, by simpa [List.map_map, Function.comp_def] using hk.symm, by simpa [List.map_map, Function.comp_def] using hL⟩
  | _ => simp [mapOf] at hm

theorem getObj_map {r : Nat} {ents : Array MapEntry} {clock : Nat} (hr : w.heap[r]? = some (.map ents clock)) : (getObj r).run P w = .ok (.map ents clock) w := by
  simp [getObj, Sem.run, hr]

/-- The map that a value is, as the machine holds it. -/
def MapAt (w : World) (mv : Value) (ents : List MapEntry) : Prop :=
  (mv = .map none ∧ ents = []) ∨ ∃ r E clock, mv = .map (some r) ∧ w.heap[r]? = some (.map E clock) ∧ E.toList = ents

theorem empty_same {es : List (Value × AV × Nat)} {E : Array MapEntry} (hl : es.length = E.toList.length) : E.isEmpty = es.isEmpty := by
  cases es with
  | nil =>
    have : E.size = 0 := by simpa using hl.symm
    simp [Array.isEmpty, this]
  | cons e es =>
    have : E.size ≠ 0 := by intro h; simp [h] at hl
    simp [Array.isEmpty, this]

theorem lookup_some {ty kT eT : TypeId} {mv iv : Value} {ok : Bool} {ents : List MapEntry} {es : List (Value × AV × Nat)} (hu : P.underlying ty = some (.map kT eT)) (hm : MapAt w mv ents) (hl : es.length = ents.length)
    (hck : purely P (Instr.checkKey es.isEmpty 10000 kT iv) = some ()) {i : Nat} {v : Value} (hf : (Instr.findKey kT iv ents).run P w = .ok (some (i, v)) w) :
    (Instr.lookup ty mv iv ok).run P w = .ok (if ok then .tuple #[v, .bool true] else v) w := by
  unfold Instr.lookup
  rw [run_andThen (run_underlyingX hu)]
  rcases hm with ⟨rfl, rfl⟩ | ⟨r, E, clock, rfl, hr, rfl⟩
  · have hck' : purely P (Instr.checkKey (#[] : Array MapEntry).isEmpty 10000 kT iv) = some () := by rw [empty_same (es := es) (by simpa using hl)]; exact hck
    simp only [pure_bind]
    rw [run_andThen hck', Sem.run_bind]
    rw [hf]
    simp
  · have hck' : purely P (Instr.checkKey E.isEmpty 10000 kT iv) = some () := by rw [empty_same (es := es) hl]; exact hck
    simp only [bind_assoc]
    rw [Sem.run_bind, getObj_map hr]
    simp only [Result.andThen_ok, pure_bind]
    rw [run_andThen hck', Sem.run_bind]
    rw [hf]
    simp

theorem lookup_none {ty kT eT : TypeId} {mv iv : Value} {ok : Bool} {ents : List MapEntry} {es : List (Value × AV × Nat)} (hu : P.underlying ty = some (.map kT eT)) (hm : MapAt w mv ents) (hl : es.length = ents.length)
    (hck : purely P (Instr.checkKey es.isEmpty 10000 kT iv) = some ()) {z : Value} (hz : purely P (zeroValue eT) = some z) (hf : (Instr.findKey kT iv ents).run P w = .ok none w) :
    (Instr.lookup ty mv iv ok).run P w = .ok (if ok then .tuple #[z, .bool false] else z) w := by
  have hz' := purely_run hz w
  unfold Instr.lookup
  rw [run_andThen (run_underlyingX hu)]
  rcases hm with ⟨rfl, rfl⟩ | ⟨r, E, clock, rfl, hr, rfl⟩
  · have hck' : purely P (Instr.checkKey (#[] : Array MapEntry).isEmpty 10000 kT iv) = some () := by rw [empty_same (es := es) (by simpa using hl)]; exact hck
    simp only [pure_bind]
    rw [run_andThen hck', Sem.run_bind]
    rw [hf]
    simp [hz']
  · have hck' : purely P (Instr.checkKey E.isEmpty 10000 kT iv) = some () := by rw [empty_same (es := es) hl]; exact hck
    simp only [bind_assoc]
    rw [Sem.run_bind, getObj_map hr]
    simp only [Result.andThen_ok, pure_bind]
    rw [run_andThen hck', Sem.run_bind]
    rw [hf]
    simp [hz']

theorem lookupA_good (S : Sim g h w.heap) {ty : TypeId} {m ix : AV} {mv iv : Value} {ok : Bool} (hm : VR g h w.heap m mv) (hi : VR g h w.heap ix iv) {e : Eff} (he : lookupA P h ty m ix ok = some e) :
    Good g h w k e ((do pure (.value (← Instr.lookup ty mv iv ok)) : Sem Next).run P w) := by
  unfold lookupA at he
  cases hu : P.underlying ty with
  | none => simp [hu] at he
  | some d =>
  simp only [hu, Option.bind_eq_bind, Option.bind_some] at he
  split at he
  case h_2 => cases he
  rename_i kT eT
  cases h1 : toV ix with
  | none => simp [h1] at he
  | some kv =>
  have := hi.of_toV h1
  subst this
  cases h2 : mapOf h m with
  | none => simp [h1, h2] at he
  | some q =>
  obtain ⟨es, rd⟩ := q
  cases h3 : purely P (Instr.checkKey es.isEmpty 10000 kT iv) with
  | none => simp [h1, h2, h3] at he
  | some _ =>
  cases h4 : findA P kT iv es with
  | none => simp [h1, h2, h3, h4] at he
  | some r =>
  simp only [h1, h2, h3, h4, Option.bind_some] at he
  have hmap : ∃ ents, MapIs g h w.heap es ents ∧ MapAt w mv ents := by
    rcases mapOf_run S hm h2 with ⟨rfl, rfl⟩ | ⟨r, E, clock, rfl, hr, hM⟩
    · exact ⟨[], ⟨rfl, .nil⟩, .inl ⟨rfl, rfl⟩⟩
    · exact ⟨_, hM, .inr ⟨r, E, clock, rfl, hr, rfl⟩⟩
  obtain ⟨ents, hM, hA⟩ := hmap
  obtain ⟨r', q1, q2⟩ := findA_run (w := w) hM h4
  rcases q2 with ⟨rfl, rfl⟩ | ⟨i, e', rfl, he', rfl⟩
  · simp only [] at he
    cases hz : zeroA P eT with
    | none => simp [hz] at he
    | some z =>
      simp [hz] at he
      subst he
      obtain ⟨zv, hzp, hzv, hzst⟩ := zeroA_sound (g := g) (h := h) (w := w) hz
      refine good_value S (v := if ok then .tuple #[zv, .bool false] else zv) ?_ ?_
      · cases ok
        · exact hzv
        · exact .tup _ [zv, .bool false] (.cons _ _ _ _ hzv (.cons _ _ _ _ (.sc _ rfl) .nil))
      · rw [Sem.run_bind, lookup_none hu hA hM.length h3 hzp q1]
        rfl
  · simp only [] at he
    cases hei : es[i]? with
    | none => simp [hei] at he
    | some ee =>
      simp [hei] at he
      subst he
      obtain ⟨e2, p1, p2, p3⟩ := hM.at hei
      rw [he'] at p1
      cases p1
      refine good_value S (v := if ok then .tuple #[e'.val, .bool true] else e'.val) ?_ ?_
      · cases ok
        · exact p3
        · exact .tup _ [e'.val, .bool true] (.cons _ _ _ _ p3 (.cons _ _ _ _ (.sc _ rfl) .nil))
      · rw [Sem.run_bind, lookup_some hu hA hM.length h3 q1]
        rfl

end ops
end Go.Xv

namespace Go.Xv

section ops
variable {P : Program} {gl : Nat → Option (List AV)} {g : G} {h : Nat → Blk} {w : World} {k : Nat} {t : Tmps} {a : Act}

theorem setObj_run {r : Nat} {o o' : Obj} (hr : w.heap[r]? = some o) (ho : ∀ c ty fr, o ≠ .cells c ty fr) : (setObj r o').run P w = .ok () { w with heap := w.heap.setIfInBounds r o' } := by
  cases o <;> first | exact absurd rfl (ho _ _ _) | simp [setObj, Sem.run, hr]

theorem heap_set_at {hp : Array Obj} {r : Nat} {o o' : Obj} (hr : hp[r]? = some o) : (hp.setIfInBounds r o')[r]? = some o' := by
  have : r < hp.size := (Array.getElem?_eq_some_iff.1 hr).1
  simp [this]

/-- A live map is written. -/
theorem good_mapWrite (S : Sim g h w.heap) {b : Nat} {es es' : List (Value × AV × Nat)} {clock clock' : Nat} (hb : h b = .map es clock) {ents ents' : Array MapEntry} (hents : w.heap[g.m b]? = some (.map ents clock))
    (hk : ents'.toList.map (fun e => (e.key, e.born)) = es'.map (fun e => (e.1, e.2.2))) (hv : VRL g h w.heap (es'.map (·.2.1)) (ents'.toList.map (·.val)))
    {av : AV} {v : Value} {nx : Next} {rd : List Nat} (hnx : nextV nx = some v) (hav : VR g h w.heap av v) {r : Result Next}
    (hr : (setObj (g.m b) (.map ents' clock')).run P w = .ok () { w with heap := w.heap.setIfInBounds (g.m b) (.map ents' clock') } → r = .ok nx { w with heap := w.heap.setIfInBounds (g.m b) (.map ents' clock') }) :
    Good g h w k { val := av, wr := [(b, .map es' clock')], rd := rd } r := by
  obtain ⟨hd, hnF, _⟩ := (show BlkOK g h w.heap b (.map es clock) from hb ▸ S.blk b)
  have hset := setObj_run (P := P) (o' := .map ents' clock') hents (by intro c ty fr e; cases e)
  refine good_write (w' := { w with heap := w.heap.setIfInBounds (g.m b) (.map ents' clock') }) S b _ (by rw [hb]; rfl) (by simp) (fun i hi => ?_) (.inr ⟨by rw [hb]; rfl, rfl⟩) (fun E => ?_) rfl rfl rfl hnx (fun E => hav.mono E) (hr hset)
  · simp only [Array.getElem?_setIfInBounds]
    rw [if_neg (by omega)]
  · exact ⟨hd, hnF, ents', heap_set_at hents, hk, hv.mono E⟩

theorem map_block (S : Sim g h w.heap) {b : Nat} {es : List (Value × AV × Nat)} {clock : Nat} (hb : h b = .map es clock) :
    ∃ ents, w.heap[g.m b]? = some (.map ents clock) ∧ ents.toList.map (fun e => (e.key, e.born)) = es.map (fun e => (e.1, e.2.2)) ∧ MapIs g h w.heap es ents.toList := by
  obtain ⟨_, _, ents, h1, h2, h3⟩ := (show BlkOK g h w.heap b (.map es clock) from hb ▸ S.blk b)
  refine ⟨ents, h1, h2, ?_, h3⟩
  have := congrArg (List.map Prod.fst) h2
  simpa [List.map_map, Function.comp_def] using this.symm

theorem ents_at {es : List (Value × AV × Nat)} {ents : List MapEntry} (hk : ents.map (fun e => (e.key, e.born)) = es.map (fun e => (e.1, e.2.2))) {i : Nat} {e : Value × AV × Nat} {e' : MapEntry} (he : es[i]? = some e) (he' : ents[i]? = some e') :
    e'.key = e.1 ∧ e'.born = e.2.2 := by
  have h1 : (ents.map (fun e => (e.key, e.born)))[i]? = some (e'.key, e'.born) := by simp [he']
  rw [hk] at h1
  simp [he] at h1
  exact ⟨h1.1.symm, h1.2.symm⟩

/-- An entry's value written. -/
theorem modify_keys {es : List (Value × AV × Nat)} {ents : Array MapEntry} (hk : ents.toList.map (fun e => (e.key, e.born)) = es.map (fun e => (e.1, e.2.2))) {i : Nat} {e : Value × AV × Nat} (he : es[i]? = some e) (kv : Value) (u : Value) (av : AV) :
    (ents.modify i fun x => { x with key := kv, val := u }).toList.map (fun e => (e.key, e.born)) = (es.set i (kv, av, e.2.2)).map (fun e => (e.1, e.2.2)) := by
  apply List.ext_getElem?
  intro j
  have hj : (ents.toList.map (fun e => (e.key, e.born)))[j]? = (es.map (fun e => (e.1, e.2.2)))[j]? := by rw [hk]
  simp only [List.getElem?_map, Array.getElem?_toList] at hj ⊢
  rw [Array.getElem?_modify, List.getElem?_set]
  by_cases hij : i = j
  · subst hij
    have hi : i < es.length := by
      rcases Nat.lt_or_ge i es.length with h | h
      · exact h
      · rw [List.getElem?_eq_none h] at he; cases he
    simp only [he, Option.map_some, if_true, hi] at hj ⊢
    cases hx : ents[i]? with
    | none => rw [hx] at hj; cases hj
    | some x => rw [hx] at hj; simp at hj ⊢; exact hj.2
  · simp only [hij, if_false]
    exact hj

theorem modify_vals {es : List (Value × AV × Nat)} {ents : Array MapEntry} (hv : VRL g h w.heap (es.map (·.2.1)) (ents.toList.map (·.val))) (i : Nat) (kv : Value) {u : Value} {av : AV} {n : Nat} (hu : VR g h w.heap av u) :
    VRL g h w.heap ((es.set i (kv, av, n)).map (·.2.1)) ((ents.modify i fun x => { x with key := kv, val := u }).toList.map (·.val)) := by
  have h1 : (es.set i (kv, av, n)).map (·.2.1) = (es.map (·.2.1)).set i av := by simp [List.map_set]
  have h2 : (ents.modify i fun x => { x with key := kv, val := u }).toList.map (·.val) = (ents.toList.map (·.val)).set i u := by
    apply List.ext_getElem?
    intro j
    simp only [List.getElem?_map, Array.getElem?_toList]
    rw [Array.getElem?_modify, List.getElem?_set]
    simp only [List.getElem?_map, Array.getElem?_toList, List.length_map, Array.length_toList]
    by_cases hij : i = j
    · subst hij
      by_cases hi : i < ents.size
      · simp [hi]
      · simp [hi]
    · simp [hij]
  rw [h1, h2]
  exact hv.set i hu

theorem sameBits_stays {old new : Value} (hs : Instr.sameBits 10000 old new = true) : (Instr.keyThatStays old new).run P w = .ok new w := by
  unfold Instr.keyThatStays
  rw [if_pos hs]
  rfl

theorem updateA_good (S : Sim g h w.heap) {ty : TypeId} {m ix x : AV} {mv iv xv : Value} (hm : VR g h w.heap m mv) (hi : VR g h w.heap ix iv) (hx : VR g h w.heap x xv) {e : Eff} (he : updateA P h ty m ix x = some e) :
    Good g h w k e ((do Instr.mapUpdate ty mv iv xv; pure .skip : Sem Next).run P w) := by
  unfold updateA at he
  cases hu : P.underlying ty with
  | none => simp [hu] at he
  | some d =>
  simp only [hu, Option.bind_eq_bind, Option.bind_some] at he
  split at he
  case h_2 => cases he
  rename_i kT eT
  cases h1 : toV ix with
  | none => simp [h1] at he
  | some kv =>
  have := hi.of_toV h1
  subst this
  simp only [h1, Option.bind_some] at he
  split at he
  case h_2 => cases he
  rename_i b
  split at he
  case h_2 => cases he
  rename_i es clock hb
  cases h3 : purely P (Instr.checkKey false 10000 kT iv) with
  | none => simp [h3] at he
  | some _ =>
  cases h4 : findA P kT iv es with
  | none => simp [h3, h4] at he
  | some r =>
  simp only [h3, h4, Option.bind_some] at he
  obtain ⟨ents, e1, e2, e3⟩ := map_block S hb
  cases hm with
  | mp _ rr hd hc =>
    have := hc (by rw [hb]; rfl)
    subst this
    obtain ⟨r', q1, q2⟩ := findA_run (w := w) e3 h4
    have hstart : ∀ {rr : Result Unit}, ((Instr.findKey kT iv ents.toList >>= fun r => match r with
        | some (i, _) => do
          let key ← Instr.keyThatStays (((ents[i]?).map (·.key)).getD iv) iv
          setObj (g.m b) (.map (ents.modify i fun e => { e with key, val := xv }) clock)
        | none => setObj (g.m b) (.map (ents.push { key := iv, val := xv, born := clock }) (clock + 1))) : Sem Unit).run P w = rr → (Instr.mapUpdate ty (.map (some (g.m b))) iv xv).run P w = rr := by
      intro rr h
      unfold Instr.mapUpdate
      rw [run_andThen (run_underlyingX hu)]
      simp only []
      rw [Sem.run_bind, getObj_map e1]
      simp only [Result.andThen_ok]
      rw [run_andThen h3]
      exact h
    rcases q2 with ⟨rfl, rfl⟩ | ⟨i, e', rfl, he', rfl⟩
    · simp only [] at he
      cases he
      refine good_mapWrite (P := P) S hb (ents' := ents.push { key := iv, val := xv, born := clock }) e1 ?_ ?_ (nx := .skip) rfl undef_VR fun hs => ?_
      · simp [e2]
      · simpa using e3.vals.append (.cons _ _ _ _ hx .nil)
      · have hrun := hstart (rr := .ok () { w with heap := w.heap.setIfInBounds (g.m b) (.map (ents.push { key := iv, val := xv, born := clock }) (clock + 1)) }) (by rw [Sem.run_bind, q1]; exact hs)
        rw [Sem.run_bind, hrun]; rfl
    · simp only [] at he
      cases hei : es[i]? with
      | none => simp [hei] at he
      | some ee =>
        simp only [hei, Option.bind_some] at he
        split at he
        case isFalse => cases he
        rename_i hsb
        cases he
        have hkk := ents_at e2 hei he'
        have hkey : ((ents[i]?).map (·.key)).getD iv = ee.1 := by
          have : ents[i]? = some e' := by simpa using he'
          rw [this]; exact hkk.1
        refine good_mapWrite (P := P) S hb (ents' := ents.modify i fun e => { e with key := iv, val := xv }) e1 (modify_keys e2 hei iv xv x) (modify_vals e3.vals i iv hx) (nx := .skip) rfl undef_VR fun hs => ?_
        have hrun := hstart (rr := .ok () { w with heap := w.heap.setIfInBounds (g.m b) (.map (ents.modify i fun e => { e with key := iv, val := xv }) clock) }) (by
          rw [Sem.run_bind, q1]
          simp only [Result.andThen_ok]
          rw [hkey, Sem.run_bind, sameBits_stays hsb]
          exact hs)
        rw [Sem.run_bind, hrun]; rfl

end ops
end Go.Xv

namespace Go.Xv

section ops
variable {P : Program} {gl : Nat → Option (List AV)} {g : G} {h : Nat → Blk} {w : World} {k : Nat} {t : Tmps} {a : Act}

theorem VR.pair {x y : AV} {u v : Value} {hp : Array Obj} (hx : VR g h hp x u) (hy : VR g h hp y v) : VR g h hp (.tup [x, y]) (.tuple #[u, v]) := .tup _ [u, v] (.cons _ _ _ _ hx (.cons _ _ _ _ hy .nil))

theorem entryA_good (S : Sim g h w.heap) {ty : TypeId} {m ix : AV} {mv iv : Value} (hm : VR g h w.heap m mv) (hi : VR g h w.heap ix iv) {e : Eff} (he : entryA P h ty m ix = some e) :
    Good g h w k e ((do pure (.value (← Instr.mapEntry ty mv iv)) : Sem Next).run P w) := by
  unfold entryA at he
  cases hu : P.underlying ty with
  | none => simp [hu] at he
  | some d =>
  simp only [hu, Option.bind_eq_bind, Option.bind_some] at he
  split at he
  case h_2 => cases he
  rename_i kT eT
  cases h1 : toV ix with
  | none => simp [h1] at he
  | some kv =>
  have := hi.of_toV h1
  subst this
  simp only [h1, Option.bind_some] at he
  split at he
  case h_2 => cases he
  rename_i b
  split at he
  case h_2 => cases he
  rename_i es clock hb
  cases h3 : purely P (Instr.checkKey false 10000 kT iv) with
  | none => simp [h3] at he
  | some _ =>
  cases h4 : findA P kT iv es with
  | none => simp [h3, h4] at he
  | some r =>
  simp only [h3, h4, Option.bind_some] at he
  obtain ⟨ents, e1, e2, e3⟩ := map_block S hb
  cases hm with
  | mp _ rr hd hc =>
    have := hc (by rw [hb]; rfl)
    subst this
    obtain ⟨r', q1, q2⟩ := findA_run (w := w) e3 h4
    have hstart : ∀ {rr : Result Value}, ((Instr.findKey kT iv ents.toList >>= fun r => match r with
        | some (i, v) => do
          let key ← Instr.keyThatStays (((ents[i]?).map (·.key)).getD iv) iv
          setObj (g.m b) (.map (ents.modify i fun e => { e with key }) clock)
          pure (.tuple #[v, goInt (((ents[i]?).map (·.born)).getD 0)])
        | none => do
          let zero ← zeroValue eT
          setObj (g.m b) (.map (ents.push { key := iv, val := zero, born := clock }) (clock + 1))
          pure (.tuple #[zero, goInt clock])) : Sem Value).run P w = rr → (Instr.mapEntry ty (.map (some (g.m b))) iv).run P w = rr := by
      intro rr h
      unfold Instr.mapEntry
      rw [run_andThen (run_underlyingX hu)]
      simp only []
      rw [Sem.run_bind, getObj_map e1]
      simp only [Result.andThen_ok]
      rw [run_andThen h3]
      exact h
    rcases q2 with ⟨rfl, rfl⟩ | ⟨i, e', rfl, he', rfl⟩
    · simp only [] at he
      cases hz : zeroA P eT with
      | none => simp [hz] at he
      | some z =>
        simp [hz] at he
        subst he
        obtain ⟨zv, hzp, hzv, hzst⟩ := zeroA_sound (g := g) (h := h) (w := w) hz
        refine good_mapWrite (P := P) S hb (ents' := ents.push { key := iv, val := zv, born := clock }) e1 ?_ ?_ (nx := .value (.tuple #[zv, goInt clock])) rfl (VR.pair hzv (.sc _ rfl)) fun hs => ?_
        · simp [e2]
        · simpa using e3.vals.append (.cons _ _ _ _ hzv .nil)
        · have hrun := hstart (rr := .ok (.tuple #[zv, goInt clock]) { w with heap := w.heap.setIfInBounds (g.m b) (.map (ents.push { key := iv, val := zv, born := clock }) (clock + 1)) }) (by
            rw [Sem.run_bind, q1]
            simp only [Result.andThen_ok]
            rw [run_andThen hzp, Sem.run_bind, hs]; rfl)
          rw [Sem.run_bind, hrun]; rfl
    · simp only [] at he
      cases hei : es[i]? with
      | none => simp [hei] at he
      | some ee =>
        simp only [hei, Option.bind_some] at he
        split at he
        case isFalse => cases he
        rename_i hsb
        cases he
        have hkk := ents_at e2 hei he'
        have hei' : ents[i]? = some e' := by simpa using he'
        have hkey : ((ents[i]?).map (·.key)).getD iv = ee.1 := by rw [hei']; exact hkk.1
        have hborn : ((ents[i]?).map (fun x => (x.born : Int))).getD 0 = (ee.2.2 : Int) := by rw [hei']; simp [hkk.2]
        obtain ⟨e2', p1, p2, p3⟩ := e3.at hei
        rw [he'] at p1; cases p1
        have hmod : (ents.modify i fun e => { e with key := iv }) = ents.modify i fun e => { e with key := iv, val := e'.val } := by
          apply Array.ext_getElem?
          intro j
          rw [Array.getElem?_modify, Array.getElem?_modify]
          by_cases hij : i = j
          · subst hij; simp [hei']
          · simp [hij]
        refine good_mapWrite (P := P) S hb (ents' := ents.modify i fun e => { e with key := iv }) e1 ?_ ?_ (nx := .value (.tuple #[e'.val, goInt ee.2.2])) rfl (VR.pair p3 (.sc _ rfl)) fun hs => ?_
        · rw [hmod]; exact modify_keys e2 hei iv e'.val ee.2.1
        · rw [hmod]; exact modify_vals e3.vals i iv p3
        · have hrun := hstart (rr := .ok (.tuple #[e'.val, goInt ee.2.2]) { w with heap := w.heap.setIfInBounds (g.m b) (.map (ents.modify i fun e => { e with key := iv }) clock) }) (by
            rw [Sem.run_bind, q1]
            simp only [Result.andThen_ok]
            rw [hkey, hborn, Sem.run_bind, sameBits_stays hsb]
            simp only [Result.andThen_ok]
            rw [Sem.run_bind, hs]; rfl)
          rw [Sem.run_bind, hrun]; rfl

theorem bornAt_spec (n : Int) : ∀ (es : List (Value × AV × Nat)) (j i : Nat), bornAt n es j = some i → ∃ q, i = j + q ∧ (es.map (fun e => e.2.2)).findIdx? (fun x => ((x : Nat) : Int) == n) = some q
  | [], j, i, h => by simp [bornAt] at h
  | e :: es, j, i, h => by
    simp only [bornAt] at h
    split at h
    · rename_i hb
      cases h
      exact ⟨0, rfl, by simp [List.findIdx?_cons, hb]⟩
    · rename_i hb
      obtain ⟨q, h1, h2⟩ := bornAt_spec n es (j + 1) i h
      refine ⟨q + 1, by omega, ?_⟩
      rw [List.map_cons, List.findIdx?_cons]
      have : (((e.2.2 : Nat) : Int) == n) = false := by simpa using hb
      simp [this, h2]

theorem entryStoreA_good (S : Sim g h w.heap) {ty : TypeId} {m st x : AV} {mv sv xv : Value} (hm : VR g h w.heap m mv) (hs : VR g h w.heap st sv) (hx : VR g h w.heap x xv) {e : Eff} (he : entryStoreA h m st x = some e) :
    Good g h w k e ((do Instr.entryStore ty mv sv xv; pure .skip : Sem Next).run P w) := by
  unfold entryStoreA at he
  cases h1 : asN st with
  | none => simp [h1] at he
  | some q =>
  obtain ⟨kk, n⟩ := q
  have := asN_sound hs h1
  subst this
  simp only [h1, Option.bind_eq_bind, Option.bind_some] at he
  split at he
  case h_2 => cases he
  rename_i b
  split at he
  case h_2 => cases he
  rename_i es clock hb
  cases h2 : bornAt n es 0 with
  | none => simp [h2] at he
  | some i =>
  cases h3 : es[i]? with
  | none => simp [h2, h3] at he
  | some ee =>
  simp [h2, h3] at he
  subst he
  obtain ⟨ents, e1, e2, e3⟩ := map_block S hb
  obtain ⟨q, hq, hidx⟩ := bornAt_spec n es 0 i h2
  have hq' : i = q := by omega
  subst hq'
  have hfind : ents.findIdx? (fun e => (e.born : Int) == n) = some i := by
    have hb2 : ents.toList.map (·.born) = es.map (fun e => e.2.2) := by
      have := congrArg (List.map Prod.snd) e2
      simpa [List.map_map, Function.comp_def] using this
    rw [← hb2, List.findIdx?_map] at hidx
    rcases ents with ⟨l⟩
    simpa [Function.comp_def] using hidx
  cases hm with
  | mp _ rr hd hc =>
    have := hc (by rw [hb]; rfl)
    subst this
    have hk : (ents.modify i fun e => { e with val := xv }) = ents.modify i fun e => { e with key := ee.1, val := xv } := by
      obtain ⟨e2', p1, p2, p3⟩ := e3.at h3
      have hp1 : ents[i]? = some e2' := by simpa using p1
      apply Array.ext_getElem?
      intro j
      rw [Array.getElem?_modify, Array.getElem?_modify]
      by_cases hij : i = j
      · subst hij; simp [hp1, p2]
      · simp [hij]
    refine good_mapWrite (P := P) S hb (ents' := ents.modify i fun e => { e with val := xv }) e1 ?_ ?_ (nx := .skip) rfl undef_VR fun hs => ?_
    · rw [hk]; exact modify_keys e2 h3 ee.1 xv x
    · rw [hk]; exact modify_vals e3.vals i ee.1 hx
    · rw [Sem.run_bind]
      have hrun : (Instr.entryStore ty (.map (some (g.m b))) (.int kk n) xv).run P w = .ok () { w with heap := w.heap.setIfInBounds (g.m b) (.map (ents.modify i fun e => { e with val := xv }) clock) } := by
        unfold Instr.entryStore
        simp only []
        rw [Sem.run_bind, getObj_map e1]
        simp only [Result.andThen_ok, asInt, asIntOf, pure_bind, hfind]
        exact hs
      rw [hrun]; rfl

theorem rangeA_good (S : Sim g h w.heap) {ty : TypeId} {x : AV} {v : Value} (hx : VR g h w.heap x v) {e : Eff} (he : rangeA P h k ty x = some e) (hk : e.al ≠ [] → ¬ g.dom k) :
    Good g h w k e ((do pure (.value (← Instr.range ty v)) : Sem Next).run P w) := by
  unfold rangeA at he
  split at he
  · rename_i s hu
    cases he
    have := hx.of_toV (w := .string s) rfl
    subst this
    refine good_newObj (x := .sit s 0) S (hk (by simp)) (o := .stringIter s 0) rfl (fun g' h1 h2 h3 E => ⟨h2, fun o hF => ?_, by rw [h1]; simp⟩) w.drawn (v := .pointer (some ⟨w.heap.size, 0, none⟩)) (fun g' hp' h1 h2 => .it _ _ h2 fun _ => h1.symm) ?_
    · rw [h3, h1] at hF
      have := S.fz o _ hF; omega
    · simp [Instr.range, run_underlying hu, newObj, Sem.run]
  · rename_i hu
    cases he
    have := hx.of_toV (w := .map none) rfl
    subst this
    refine good_newObj (x := .mit none 0 [] 0) S (hk (by simp)) (o := .mapIter none 0 #[] 0) rfl (fun g' h1 h2 h3 E => ⟨h2, fun o hF => ?_, none, by rw [h1]; simp, rfl⟩) w.drawn (v := .pointer (some ⟨w.heap.size, 0, none⟩)) (fun g' hp' h1 h2 => .it _ _ h2 fun _ => h1.symm) ?_
    · rw [h3, h1] at hF
      have := S.fz o _ hF; omega
    · simp [Instr.range, run_underlying hu, newObj, Sem.run]
  · rename_i b hu
    split at he
    case h_2 => cases he
    rename_i es clock hb
    cases he
    cases hx with
    | mp _ rr hd hc =>
      have := hc (by rw [hb]; rfl)
      subst this
      obtain ⟨ents, e1, e2, e3⟩ := map_block S hb
      refine good_newObj (x := .mit (some b) clock [] clock) S (hk (by simp)) (o := .mapIter (some (g.m b)) clock #[] clock) rfl (fun g' h1 h2 h3 E => ⟨h2, fun o hF => ?_, some (g.m b), by rw [h1]; simp, E.dom b hd, _, rfl, fun ho => ?_⟩) w.drawn (v := .pointer (some ⟨w.heap.size, 0, none⟩)) (fun g' hp' h1 h2 => .it _ _ h2 fun _ => h1.symm) ?_
      · rw [h3, h1] at hF
        have := S.fz o _ hF; omega
      · exact (E.obj b hd ho).2.symm
      · simp [Instr.range, run_underlying hu, getObj_map e1, newObj, Sem.run]
  · cases he

end ops
end Go.Xv

namespace Go.Xv

section ops
variable {P : Program} {gl : Nat → Option (List AV)} {g : G} {h : Nat → Blk} {w : World} {k : Nat} {t : Tmps} {a : Act}

theorem filter_rel {hp : Array Obj} (q : Nat → Bool) : ∀ (es : List (Value × AV × Nat)) (ents : List MapEntry), ents.map (fun e => (e.key, e.born)) = es.map (fun e => (e.1, e.2.2)) → VRL g h hp (es.map (·.2.1)) (ents.map (·.val)) →
    (ents.filter fun e => q e.born).map (fun e => (e.key, e.born)) = (es.filter fun e => q e.2.2).map (fun e => (e.1, e.2.2)) ∧ VRL g h hp ((es.filter fun e => q e.2.2).map (·.2.1)) ((ents.filter fun e => q e.born).map (·.val))
  | [], [], _, _ => ⟨rfl, .nil⟩
  | [], x :: l, hk, _ => by simp at hk
  | e :: es, [], hk, _ => by simp at hk
  | e :: es, x :: l, hk, hv => by
    simp only [List.map_cons, List.cons.injEq, Prod.mk.injEq] at hk
    obtain ⟨⟨h1, h2⟩, h3⟩ := hk
    cases hv with
    | cons _ _ _ _ ha hl =>
      obtain ⟨i1, i2⟩ := filter_rel q es l h3 hl
      simp only [List.filter_cons, h2]
      cases q e.2.2 with
      | true =>
        simp only [if_true, List.map_cons]
        exact ⟨by rw [h1, h2, i1], .cons _ _ _ _ ha i2⟩
      | false => simpa using ⟨i1, i2⟩

theorem find_rel {hp : Array Obj} (q : Nat → Bool) : ∀ (es : List (Value × AV × Nat)) (ents : List MapEntry), ents.map (fun e => (e.key, e.born)) = es.map (fun e => (e.1, e.2.2)) → VRL g h hp (es.map (·.2.1)) (ents.map (·.val)) →
    ∀ e, es.find? (fun e => q e.2.2) = some e → ∃ x, ents.find? (fun e => q e.born) = some x ∧ x.key = e.1 ∧ VR g h hp e.2.1 x.val
  | [], _, _, _, e, he => by simp at he
  | e :: es, [], hk, _, _, _ => by simp at hk
  | e :: es, x :: l, hk, hv, e', he => by
    simp only [List.map_cons, List.cons.injEq, Prod.mk.injEq] at hk
    obtain ⟨⟨h1, h2⟩, h3⟩ := hk
    cases hv with
    | cons _ _ _ _ ha hl =>
      rw [List.find?_cons] at he ⊢
      rw [h2]
      cases hq : q e.2.2 with
      | true => simp only [hq] at he; cases he; exact ⟨x, rfl, h1, ha⟩
      | false => simp only [hq] at he; exact find_rel q es l h3 hl e' he

theorem all_rel (q : Nat → Bool) {es : List (Value × AV × Nat)} {ents : List MapEntry} (hk : ents.map (fun e => (e.key, e.born)) = es.map (fun e => (e.1, e.2.2))) : ents.all (fun e => q e.born) = es.all (fun e => q e.2.2) := by
  have h1 : ents.all (fun e => q e.born) = (ents.map (fun e => (e.key, e.born))).all (fun p => q p.2) := by simp [List.all_map, Function.comp_def]
  rw [h1, hk]
  simp [List.all_map, Function.comp_def]

theorem it_block {b r : Nat} (S : Sim g h w.heap) {x : Blk} (hx : isObj x = true) (hb : h b = x) (hc : isObj (h b) = true → r = g.m b) : r = g.m b ∧ g.dom b := by
  refine ⟨hc (by rw [hb]; exact hx), (alive_image S (b := b) ?_).2.2⟩
  rw [hb]; cases x <;> simp_all [isObj, alive]

theorem getObj_at {r : Nat} {o : Obj} (hr : w.heap[r]? = some o) (ho : ∀ c ty fr, o ≠ .cells c ty fr) : (getObj r).run P w = .ok o w := by
  cases o with
  | cells c ty fr => exact absurd rfl (ho c ty fr)
  | _ => simp [getObj, Sem.run, hr]

theorem choose_one {n : Nat} (hn : n ≤ 1) : (choose (Question.mapNext n)).run P w = .ok 0 w := by
  simp [choose, Sem.run, Question.forced, hn]

theorem nextA_good (S : Sim g h w.heap) {ty : TypeId} {x : AV} {v : Value} {isS : Bool} (hx : VR g h w.heap x v) {e : Eff} (he : nextA h x isS = some e) :
    Good g h w k e ((do pure (.value (← Instr.next v isS ty)) : Sem Next).run P w) := by
  unfold nextA at he
  split at he
  case h_2 => cases he
  rename_i r
  cases hx with
  | it _ rr hd hc =>
  have hover : VR g h w.heap (.tup [.sc (.bool false)]) (.tuple #[.bool false]) := .tup _ [_] (.cons _ _ _ _ (.sc _ rfl) .nil)
  split at he
  · rename_i s pos hb
    obtain ⟨h1, h2, h3⟩ := (show BlkOK g h w.heap r (.sit s pos) from hb ▸ S.blk r)
    have := hc (by rw [hb]; rfl)
    subst this
    split at he
    · rename_i hlt
      cases he
      have hset := setObj_run (P := P) (o' := .stringIter s (pos + (Utf8.decode s pos).2)) h3 (by intro c ty fr e; cases e)
      refine good_write (w' := { w with heap := w.heap.setIfInBounds (g.m r) (.stringIter s (pos + (Utf8.decode s pos).2)) }) S r _ (by rw [hb]; rfl) (by simp) (fun i hi => ?_) (.inr ⟨by rw [hb]; rfl, rfl⟩) (fun E => ?_) rfl rfl rfl
        (v := .tuple #[.bool true, goInt pos, .int .i32 (Utf8.decode s pos).1]) (nx := .value _) rfl (fun E => ?_) ?_
      · simp only [Array.getElem?_setIfInBounds]
        rw [if_neg (by omega)]
      · exact ⟨h1, h2, heap_set_at h3⟩
      · exact .tup _ [_, _, _] (.cons _ _ _ _ (.sc _ rfl) (.cons _ _ _ _ (.sc _ rfl) (.cons _ _ _ _ (.sc _ rfl) .nil)))
      · unfold Instr.next
        simp only []
        rw [Sem.run_bind, Sem.run_bind, getObj_at h3 (by intro c ty fr e; cases e)]
        simp only [Result.andThen_ok, hlt, if_true]
        rw [Sem.run_bind, hset]
        rfl
    · rename_i hlt
      cases he
      refine good_value S hover ?_
      unfold Instr.next
      simp only []
      rw [Sem.run_bind, Sem.run_bind, getObj_at h3 (by intro c ty fr e; cases e)]
      simp only [Result.andThen_ok, hlt, if_false]
      rfl
  · rename_i since seen st hb
    obtain ⟨h1, h2, r', h3, h4⟩ := (show BlkOK g h w.heap r (.mit none since seen st) from hb ▸ S.blk r)
    subst h4
    have := hc (by rw [hb]; rfl)
    subst this
    cases he
    refine good_value S hover ?_
    unfold Instr.next
    simp only []
    rw [Sem.run_bind, Sem.run_bind, getObj_at h3 (by intro c ty fr e; cases e)]
    rfl
  · rename_i m since seen last hb
    obtain ⟨h1, h2, r', h3, hmd, rm, h4, h5⟩ := (show BlkOK g h w.heap r (.mit (some m) since seen last) from hb ▸ S.blk r)
    subst h4
    have := hc (by rw [hb]; rfl)
    subst this
    split at he
    case h_2 => cases he
    rename_i es clock hm
    have := h5 (by rw [hm]; rfl)
    subst this
    obtain ⟨ents, e1, e2, e3⟩ := map_block S hm
    split at he
    · cases he
    rename_i htest
    have hemp : ents.isEmpty = es.isEmpty := empty_same e3.length
    have hall : ents.all (fun e => decide (e.born ≥ last)) = es.all (fun e => decide (e.2.2 ≥ last)) := by
      rw [← Array.all_toList]
      exact all_rel (fun n => decide (n ≥ last)) e2
    have htest' : (!(seen.toArray).isEmpty && !ents.isEmpty && ents.all (fun e => decide (e.born ≥ last))) = false := by
      rw [hemp, hall]
      simpa using htest
    obtain ⟨f1, f2⟩ := filter_rel (fun n => !seen.contains n) es ents.toList e2 e3.vals
    have hleft : (ents.filter fun e => !seen.toArray.contains e.born) = ((ents.toList.filter fun e => !seen.contains e.born)).toArray := by
      apply Array.ext'
      simp
    have hstart : ∀ {rr : Result Value}, ((do
          let left := ents.filter fun e => !seen.toArray.contains e.born
          let old := left.filter (·.born < since)
          let new := left.filter (·.born ≥ since)
          let candidates := (if old.isEmpty then #[none] else #[]) ++ (old ++ new).map some
          match candidates[← choose (.mapNext candidates.size)]? with
          | some (some e) =>
            setObj (g.m r) (.mapIter (some (g.m m)) since (seen.toArray.push e.born) clock)
            pure (.tuple #[.bool true, e.key, e.val])
          | some none => pure (.tuple #[.bool false])
          | none => stuck "Next: no such candidate") : Sem Value).run P w = rr → (Instr.next (.pointer (some ⟨g.m r, 0, none⟩)) false ty).run P w = rr := by
      intro rr hh
      unfold Instr.next
      simp only []
      rw [Sem.run_bind, getObj_at h3 (by intro c ty fr e; cases e)]
      simp only [Result.andThen_ok]
      rw [Sem.run_bind, getObj_at e1 (by intro c ty fr e; cases e)]
      simp only [Result.andThen_ok, htest', Bool.false_eq_true, if_false]
      exact hh
    split at he
    · rename_i hf
      cases he
      rw [hf] at f1
      have hnil : (ents.toList.filter fun e => !seen.contains e.born) = [] := by simpa using f1
      refine good_value S hover ?_
      rw [Sem.run_bind, hstart (rr := .ok (.tuple #[.bool false]) w)]
      · rfl
      · rw [hleft, hnil]
        simp only []
        rw [Sem.run_bind, choose_one (by simp)]
        simp
    · rename_i ee hf
      rw [hf] at f1 f2
      split at he
      case isFalse => cases he
      rename_i hold
      cases h6 : ofV1 ee.1 with
      | none => simp [h6] at he
      | some kA =>
      simp [h6] at he
      subst he
      obtain ⟨x, hone, hkey, hborn, hval⟩ : ∃ x, (ents.toList.filter fun e => !seen.contains e.born) = [x] ∧ x.key = ee.1 ∧ x.born = ee.2.2 ∧ VR g h w.heap ee.2.1 x.val := by
        generalize (ents.toList.filter fun e => !seen.contains e.born) = l at f1 f2
        match l, f1, f2 with
        | [x], f1, f2 =>
          simp at f1
          cases f2 with
          | cons _ _ _ _ ha _ => exact ⟨x, rfl, f1.1, f1.2, ha⟩
      have hset := setObj_run (P := P) (o' := .mapIter (some (g.m m)) since (seen.toArray.push x.born) clock) h3 (by intro c ty fr e; cases e)
      refine good_write (w' := { w with heap := w.heap.setIfInBounds (g.m r) (.mapIter (some (g.m m)) since (seen.toArray.push x.born) clock) }) S r _ (by rw [hb]; rfl) (by simp) (fun i hi => ?_) (.inr ⟨by rw [hb]; rfl, rfl⟩) (fun E => ?_) rfl rfl rfl
        (v := .tuple #[.bool true, x.key, x.val]) (nx := .value _) rfl (fun E => ?_) ?_
      · simp only [Array.getElem?_setIfInBounds]
        rw [if_neg (by omega)]
      · refine ⟨h1, h2, _, ?_, E.dom m hmd, g.m m, rfl, fun _ => rfl⟩
        rw [heap_set_at h3, hborn]
        simp
      · rw [hkey]
        exact .tup _ [_, _, _] (.cons _ _ _ _ (.sc _ rfl) (.cons _ _ _ _ (VR.of_ofV1 h6) (.cons _ _ _ _ (hval.mono E) .nil)))
      · rw [Sem.run_bind, hstart (rr := .ok (.tuple #[.bool true, x.key, x.val]) { w with heap := w.heap.setIfInBounds (g.m r) (.mapIter (some (g.m m)) since (seen.toArray.push x.born) clock) })]
        · rfl
        · rw [hleft, hone]
          have hx1 : decide (x.born < since) = true := by simpa [hborn] using hold
          have hx2 : decide (x.born ≥ since) = false := by simp; have := hold; omega
          simp only [List.filter_toArray, List.filter_cons, hx1, hx2, if_true, List.filter_nil, Bool.false_eq_true, if_false]
          rw [Sem.run_bind, choose_one (by simp)]
          simp only [Result.andThen_ok]
          simp
          have := hset
          simp at this
          rw [this]
          rfl
    · cases he
  · cases he

theorem entryIt_good (S : Sim g h w.heap) {x : AV} {v : Value} (hx : VR g h w.heap x v) {e : Eff} (he : entryIt h x = some e) :
    Good g h w k e ((do pure (.value (← Instr.entry v)) : Sem Next).run P w) := by
  unfold entryIt at he
  split at he
  case h_2 => cases he
  rename_i r
  cases hx with
  | it _ rr hd hc =>
  split at he
  case h_2 => cases he
  rename_i m since seen stepped hb
  obtain ⟨h1, h2, r', h3, hmd, rm, h4, h5⟩ := (show BlkOK g h w.heap r (.mit (some m) since seen stepped) from hb ▸ S.blk r)
  subst h4
  have := hc (by rw [hb]; rfl)
  subst this
  cases h6 : seen.getLast? with
  | none => simp [h6] at he
  | some stamp =>
  simp only [h6, Option.bind_eq_bind, Option.bind_some] at he
  split at he
  case h_2 => cases he
  rename_i es clock hm
  have := h5 (by rw [hm]; rfl)
  subst this
  obtain ⟨ents, e1, e2, e3⟩ := map_block S hm
  split at he
  case isFalse => cases he
  rename_i hcl
  subst hcl
  cases h7 : es.find? (fun e => e.2.2 == stamp) with
  | none => simp [h7] at he
  | some ee =>
  simp only [h7, Option.bind_some] at he
  cases h8 : ofV1 ee.1 with
  | none => simp [h8] at he
  | some kA =>
  simp [h8] at he
  subst he
  obtain ⟨x, q1, q2, q3⟩ := find_rel (fun n => n == stamp) es ents.toList e2 e3.vals ee h7
  refine good_value S (VR.pair (VR.of_ofV1 (v := x.key) (by rw [q2]; exact h8)) q3) ?_
  have hback : seen.toArray.back? = some stamp := by rw [← h6]; simp
  have hfind : ents.find? (fun e => e.born == stamp) = some x := by rw [← Array.find?_toList]; exact q1
  unfold Instr.entry
  simp only []
  rw [Sem.run_bind, Sem.run_bind, getObj_at h3 (by intro c ty fr e; cases e)]
  simp only [Result.andThen_ok, hback]
  rw [Sem.run_bind, getObj_at e1 (by intro c ty fr e; cases e)]
  simp only [Result.andThen_ok, bne_self_eq_false, Bool.false_eq_true, if_false, hfind]
  rfl

end ops
end Go.Xv

namespace Go.Xv

section ops
variable {P : Program} {gl : Nat → Option (List AV)} {g : G} {h : Nat → Blk} {w : World} {k : Nat} {t : Tmps} {a : Act}

theorem isSlice_spec {ty : TypeId} (hs : isSlice P ty = true) : ∃ e, P.underlying ty = some (.slice e) := by
  unfold isSlice at hs
  split at hs
  · exact ⟨_, by assumption⟩
  · cases hs

theorem isMapT_spec {ty : TypeId} (hs : isMapT P ty = true) : ∃ d e, P.underlying ty = some (.map d e) := by
  unfold isMapT at hs
  split at hs
  · exact ⟨_, _, by assumption⟩
  · cases hs

theorem lenA_good (S : Sim g h w.heap) {argTypes : Array TypeId} {ty : TypeId} {cb : Array Bool} {x : AV} {v : Value} (hv : VR g h w.heap x v) {e : Eff} (he : lenA P h argTypes ty x = some e) :
    Good g h w k e ((builtin .len argTypes ty cb #[v]).run P w) := by
  have hb : ∀ {u : Value}, (Builtin.len_ argTypes ty #[v]).run P w = .ok u w → (builtin .len argTypes ty cb #[v]).run P w = .ok (.value u) w := fun hr => by
    simp only [builtin, Sem.run_bind, hr, Result.andThen_ok, Sem.run_pure]
  unfold lenA at he
  split at he
  · rename_i b
    cases h0 : argTypes[0]? with
    | none => simp [h0] at he
    | some T =>
    simp only [h0, Option.bind_some] at he
    split at he
    case isFalse => cases he
    rename_i hT
    obtain ⟨d, f, hu⟩ := isMapT_spec hT
    split at he
    case h_2 => cases he
    rename_i es clock hm
    cases he
    obtain ⟨ents, e1, e2, e3⟩ := map_block S hm
    cases hv with
    | mp _ rr hd hc =>
      have := hc (by rw [hm]; rfl)
      subst this
      refine good_value S (.sc (.int .i64 es.length) rfl) (hb ?_)
      have hl : ents.size = es.length := by have := e3.length; simpa using this.symm
      simp [Builtin.len_, h0, run_underlying hu, getObj_map e1, goInt, hl]
  · rename_i u
    have := hv.of_toV (w := u) rfl
    subst this
    exact pureV_good S he fun r hr => hb hr
  · cases h0 : argTypes[0]? with
    | none => simp [h0] at he
    | some T =>
    simp only [h0, Option.bind_some] at he
    split at he
    case isFalse => cases he
    rename_i hT
    obtain ⟨d, hu⟩ := isSlice_spec hT
    cases h1 : slLen x with
    | none => simp [h1] at he
    | some n =>
    simp [h1] at he
    subst he
    obtain ⟨b, c, rfl⟩ := slLen_sound hv h1
    exact good_value S (.sc _ rfl) (hb (len_slice_run h0 hu))

theorem builtinA_good (S : Sim g h w.heap) {b : Builtin} {argTypes : Array TypeId} {ty : TypeId} {cb : Array Bool} {args : List AV} {L : List Value} (hL : VRL g h w.heap args L) {e : Eff}
    (he : builtinA P h k b argTypes ty args = some e) (hk : e.al ≠ [] → ¬ g.dom k) : Good g h w k e ((builtin b argTypes ty cb L.toArray).run P w) := by
  unfold builtinA at he
  split at he
  · exact appendA_good S hL he hk
  · exact copyA_good S hL he
  · obtain ⟨v, rfl, hv⟩ := hL.one rfl
    exact lenA_good S hv he
  · obtain ⟨v, rfl, hv⟩ := hL.one rfl
    cases h0 : argTypes[0]? with
    | none => simp [h0] at he
    | some T =>
    simp only [h0, Option.bind_some] at he
    split at he
    case isFalse => cases he
    rename_i hT
    cases he
    obtain ⟨d, hu⟩ := isSlice_spec hT
    cases hv with
    | e0 ad =>
      refine good_value S (.sc (.int .i64 0) rfl) ?_
      simp [builtin, Builtin.cap_, h0, run_underlying hu, goInt]
  · obtain ⟨v, rfl, hv⟩ := hL.one rfl
    rename_i u
    have := hv.of_toV (w := u) rfl
    subst this
    exact pureV_good S he fun r hr => by simp only [builtin, Sem.run_bind, hr, Result.andThen_ok, Sem.run_pure]
  · rename_i args'
    cases h1 : args.mapM toV with
    | none => simp [h1] at he
    | some vs =>
    simp only [h1, Option.bind_some] at he
    have := toVs_sound hL h1
    subst this
    exact pureV_good S he fun r hr => by simp only [builtin, Sem.run_bind, hr, Result.andThen_ok, Sem.run_pure]
  · cases h1 : args.mapM toV with
    | none => simp [h1] at he
    | some vs =>
    simp only [h1, Option.bind_some] at he
    have := toVs_sound hL h1
    subst this
    exact pureV_good S he fun r hr => by simp only [builtin, Sem.run_bind, hr, Result.andThen_ok, Sem.run_pure]
  · cases he

theorem index_good (S : Sim g h w.heap) {ty : TypeId} {cs : List AV} {ix : AV} {v u : Value} (hv : VR g h w.heap (.agg cs) v) (hu : VR g h w.heap ix u) {kk : IntKind} {i : Int} (hi : asN ix = some (kk, i)) {n s : Nat} {el : TypeId} {ag : Bool}
    (hty : P.underlying ty = some (.array n el)) (h0 : 0 ≤ i) (hn : i < (n : Int)) (hag : agT P el = some ag) (hs : szT P el = some s) {av : AV} (hp : Go.Xv.part ag s (i.toNat * s) cs = some av) :
    Good g h w k { val := av } ((do pure (.value (← Instr.index ty v u)) : Sem Next).run P w) := by
  have := asN_sound hu hi
  subst this
  cases hv with
  | agg _ L hL hst =>
    obtain ⟨r, h1, h2⟩ := part_value hag hs hp hL hst
    refine good_value S h2 ?_
    unfold Instr.index
    simp only [asIntOf, pure_bind]
    rw [Sem.run_bind, run_andThen (run_underlyingX hty)]
    simp only [h0, hn, and_self, if_true]
    rw [run_andThen (show purely P (sizeOf el) = some s from hs), h1]
    rfl

theorem evOp_good (S : Sim g h w.heap) (hgl : GlOK gl g h w.heap) (ht : VRL g h w.heap t a.tmps.toList) {o : Oper} {e : Eff} (he : evOp P gl t h k o = some e) (hk : e.al ≠ [] → ¬ g.dom k) :
    Good g h w k e ((execOp a.eval o).run P w) := by
  unfold evOp at he
  simp only [] at he
  split at he
  · rename_i x ho
    simp only [Option.bind_eq_bind, Option.bind_eq_some_iff, Option.some.injEq] at he
    obtain ⟨v, h1, rfl⟩ := he
    exact good_move S hgl ht (.inl ho) h1
  · rename_i x ho
    simp only [Option.bind_eq_bind, Option.bind_eq_some_iff, Option.some.injEq] at he
    obtain ⟨v, h1, rfl⟩ := he
    exact good_move S hgl ht (.inr ho) h1
  · rename_i c x y ho
    simp only [Option.bind_eq_bind, Option.bind_eq_some_iff] at he
    obtain ⟨c', h1, he⟩ := he
    split at he
    · obtain ⟨v, h2, h3⟩ := Option.bind_eq_some_iff.1 he
      cases h3
      exact good_pick S hgl ht ho (b := true) h1 h2
    · obtain ⟨v, h2, h3⟩ := Option.bind_eq_some_iff.1 he
      cases h3
      exact good_pick S hgl ht ho (b := false) h1 h2
    · cases he
  · rename_i el ho
    simp only [Option.bind_eq_bind, Option.bind_eq_some_iff, Option.some.injEq] at he
    obtain ⟨z, h1, rfl⟩ := he
    exact good_allocOp S (hk (by simp)) ho h1
  · rename_i ty x ho
    simp only [Option.bind_eq_bind, Option.bind_eq_some_iff] at he
    obtain ⟨v, h1, he⟩ := he
    split at he
    · rename_i hst
      cases he
      exact good_box S hgl ht (hk (by simp)) ho h1 hst
    · cases he
  · rename_i ty parts ho
    simp only [Option.bind_eq_bind, Option.bind_eq_some_iff] at he
    obtain ⟨ps, h1, he⟩ := he
    exact good_build S hgl ht ho h1 he
  · rename_i ty len parts ho
    simp only [Option.bind_eq_bind, Option.bind_eq_some_iff] at he
    obtain ⟨ps, h1, he⟩ := he
    exact good_buildSlice S hgl ht ho h1 he hk
  · rename_i ty x ho
    simp only [Option.bind_eq_bind, Option.bind_eq_some_iff] at he
    obtain ⟨p, h1, ⟨v, rd⟩, h2, h3⟩ := he
    cases h3
    exact good_load S hgl ht ho h1 h2
  · rename_i ty x y ho
    simp only [Option.bind_eq_bind, Option.bind_eq_some_iff] at he
    obtain ⟨p, h1, v, h2, he⟩ := he
    split at he
    · obtain ⟨cs, h3, he⟩ := Option.bind_eq_some_iff.1 he
      obtain ⟨s, h4, he⟩ := Option.bind_eq_some_iff.1 he
      split at he
      · rename_i hc
        cases he
        exact good_storeOp S hgl ht ho h1 h2 h3 h4 hc.1 hc.2.1 hc.2.2
      · cases he
    · cases he
  · rename_i x ho
    simp only [Option.bind_eq_bind, Option.bind_eq_some_iff] at he
    obtain ⟨v, h1, he⟩ := he
    split at he
    · cases he; exact good_nilCheck S hgl ht ho h1 (.inl ⟨_, _, _, rfl⟩)
    · cases he; exact good_nilCheck S hgl ht ho h1 (.inr (.inl ⟨_, _, _, rfl⟩))
    · cases he; exact good_nilCheck S hgl ht ho h1 (.inr (.inr ⟨_, _, _, rfl⟩))
    · cases he
  · rename_i op ty x y ty' ho
    simp only [Option.bind_eq_bind, Option.bind_eq_some_iff] at he
    obtain ⟨v, h1, u, h2, he⟩ := he
    exact good_binOp S hgl ht ho h1 h2 he
  · rename_i op ty x ho
    simp only [Option.bind_eq_bind, Option.bind_eq_some_iff] at he
    obtain ⟨v, h1, u, h2, he⟩ := he
    exact good_unOp S hgl ht ho h1 h2 he
  · rename_i src dst x ho
    simp only [Option.bind_eq_bind, Option.bind_eq_some_iff] at he
    obtain ⟨v, h1, he⟩ := he
    have := convA_good S (evO_sound hgl ht h1) he hk
    simpa only [execOp, ho] using this
  · rename_i f xs ys ho
    simp only [Option.bind_eq_bind, Option.bind_eq_some_iff, Option.some.injEq] at he
    obtain ⟨v, h1, u, h2, rfl⟩ := he
    exact good_makeFunc S hgl ht ho h1 h2
  · rename_i ty ho
    cases he
    exact good_makeMap S hgl ht (hk (by simp)) ho (.inl rfl)
  · rename_i ty r ho
    cases hu : P.underlying ty with
    | none => simp [hu] at he
    | some d =>
    simp only [hu, Option.bind_eq_bind, Option.bind_some] at he
    split at he
    case h_2 => cases he
    rename_i kT eT
    simp only [Option.bind_eq_some_iff, Option.some.injEq] at he
    obtain ⟨v, h2, ⟨kk, n⟩, h3, rfl⟩ := he
    exact good_makeMap S hgl ht (hk (by simp)) ho (.inr ⟨r, kk, n, kT, eT, rfl, hu, by simp [h2, h3]⟩)
  · rename_i ty l c ho
    simp only [Option.bind_eq_bind, Option.bind_eq_some_iff] at he
    obtain ⟨v, h1, u, h2, he⟩ := he
    have := makeSliceA_good S (evO_sound hgl ht h1) (evO_sound hgl ht h2) he hk
    simpa only [execOp, ho] using this
  · rename_i ty x lo hi mx ho
    simp only [Option.bind_eq_bind, Option.bind_eq_some_iff] at he
    obtain ⟨v, h1, l, h2, hh, h3, m, h4, he⟩ := he
    exact good_slice S hgl ht ho h1 h2 h3 h4 he
  · rename_i s x f ho
    simp only [Option.bind_eq_bind, Option.bind_eq_some_iff] at he
    obtain ⟨⟨off, ft⟩, h1, n, h2, he⟩ := he
    simp only [] at h2 he
    split at he
    · cases he
    · rename_i hn
      obtain ⟨v, h3, he⟩ := Option.bind_eq_some_iff.1 he
      split at he
      · cases he; exact good_fieldAddr S hgl ht ho h3 h1 h2 hn (.inl ⟨_, _, _, rfl, rfl⟩)
      · cases he; exact good_fieldAddr S hgl ht ho h3 h1 h2 hn (.inr ⟨_, _, _, rfl, rfl⟩)
      · cases he
  · rename_i xT x f ho
    simp only [Option.bind_eq_bind, Option.bind_eq_some_iff] at he
    obtain ⟨⟨off, ft⟩, h1, v, h2, he⟩ := he
    simp only [] at he
    split at he
    · simp only [Option.bind_eq_some_iff, Option.some.injEq] at he
      obtain ⟨ag, h3, n, h4, v', h5, rfl⟩ := he
      exact good_field S hgl ht ho h2 h1 h3 h4 h5
    · cases he
  · rename_i ty x ix ho
    simp only [Option.bind_eq_bind, Option.bind_eq_some_iff] at he
    obtain ⟨v, h1, u, h2, he⟩ := he
    exact good_indexAddr S hgl ht ho h1 h2 he
  · rename_i ty x ix ho
    simp only [Option.bind_eq_bind, Option.bind_eq_some_iff] at he
    obtain ⟨v, h1, he⟩ := he
    split at he
    · simp only [Option.bind_eq_some_iff] at he
      obtain ⟨u, h2, ⟨kk, i⟩, h2', he⟩ := he
      simp only [] at he
      obtain ⟨d, hu, he⟩ := he
      split at he
      case h_2 => cases he
      rename_i n el
      split at he
      case isFalse => cases he
      rename_i hi
      simp only [Option.bind_eq_some_iff, Option.some.injEq] at he
      obtain ⟨ag, h3, s, h4, s', h5, v', h6, rfl⟩ := he
      have : s = s' := by rw [h4] at h5; exact Option.some.inj h5
      subst this
      have := index_good S (evO_sound hgl ht h1) (evO_sound hgl ht h2) h2' hu hi.1 hi.2 h3 h4 h6 (k := k)
      simpa only [execOp, ho] using this
    · simp only [Option.bind_eq_some_iff] at he
      obtain ⟨xv, h2, iv, h3, u, h4, he⟩ := he
      have e1 := (evO_sound hgl ht h1).of_toV h2
      have e2 := (evO_sound hgl ht h3).of_toV h4
      subst e1 e2
      exact pureV_good S he fun r hr => by simp only [execOp, ho, Sem.run_bind, hr, Result.andThen_ok, Sem.run_pure]
  · rename_i ty x ix ok ho
    simp only [Option.bind_eq_bind, Option.bind_eq_some_iff] at he
    obtain ⟨v, h1, u, h2, he⟩ := he
    have := lookupA_good S (evO_sound hgl ht h1) (evO_sound hgl ht h2) he (k := k)
    simpa only [execOp, ho] using this
  · rename_i ty m i x ho
    simp only [Option.bind_eq_bind, Option.bind_eq_some_iff] at he
    obtain ⟨v, h1, he⟩ := he
    split at he
    case isFalse => cases he
    obtain ⟨m', h2, he⟩ := Option.bind_eq_some_iff.1 he
    obtain ⟨i', h3, he⟩ := Option.bind_eq_some_iff.1 he
    have := updateA_good S (evO_sound hgl ht h2) (evO_sound hgl ht h3) (evO_sound hgl ht h1) he (k := k)
    simpa only [execOp, ho] using this
  · rename_i ty m i x ho
    simp only [Option.bind_eq_bind, Option.bind_eq_some_iff] at he
    obtain ⟨v, h1, he⟩ := he
    split at he
    case isFalse => cases he
    obtain ⟨m', h2, he⟩ := Option.bind_eq_some_iff.1 he
    obtain ⟨i', h3, he⟩ := Option.bind_eq_some_iff.1 he
    have := updateA_good S (evO_sound hgl ht h2) (evO_sound hgl ht h3) (evO_sound hgl ht h1) he (k := k)
    simpa only [execOp, ho] using this
  · rename_i ty m i ho
    simp only [Option.bind_eq_bind, Option.bind_eq_some_iff] at he
    obtain ⟨v, h1, u, h2, he⟩ := he
    have := entryA_good S (evO_sound hgl ht h1) (evO_sound hgl ht h2) he (k := k)
    simpa only [execOp, ho] using this
  · rename_i ty m i x ho
    simp only [Option.bind_eq_bind, Option.bind_eq_some_iff] at he
    obtain ⟨v, h1, he⟩ := he
    split at he
    case isFalse => cases he
    obtain ⟨m', h2, he⟩ := Option.bind_eq_some_iff.1 he
    obtain ⟨i', h3, he⟩ := Option.bind_eq_some_iff.1 he
    have := entryStoreA_good (P := P) S (ty := ty) (evO_sound hgl ht h2) (evO_sound hgl ht h3) (evO_sound hgl ht h1) he (k := k)
    simpa only [execOp, ho] using this
  · rename_i ty x ho
    simp only [Option.bind_eq_bind, Option.bind_eq_some_iff] at he
    obtain ⟨v, h1, he⟩ := he
    have := rangeA_good S (evO_sound hgl ht h1) he hk
    simpa only [execOp, ho] using this
  · rename_i it isS ho
    simp only [Option.bind_eq_bind, Option.bind_eq_some_iff] at he
    obtain ⟨v, h1, he⟩ := he
    have := nextA_good (P := P) S (ty := o.type) (evO_sound hgl ht h1) he (k := k)
    simpa only [execOp, ho] using this
  · rename_i it ho
    simp only [Option.bind_eq_bind, Option.bind_eq_some_iff] at he
    obtain ⟨v, h1, he⟩ := he
    have := entryIt_good (P := P) S (evO_sound hgl ht h1) he (k := k)
    simpa only [execOp, ho] using this
  · rename_i x i ho
    simp only [Option.bind_eq_bind, Option.bind_eq_some_iff] at he
    obtain ⟨v, h1, he⟩ := he
    split at he
    · simp only [Option.bind_eq_some_iff, Option.some.injEq] at he
      obtain ⟨v', h2, rfl⟩ := he
      exact good_extract S hgl ht ho h1 h2
    · cases he
  · rename_i c ho
    split at he
    · rename_i b hc
      simp only [Option.bind_eq_bind, Option.bind_eq_some_iff] at he
      obtain ⟨vs, h1, he⟩ := he
      obtain ⟨cb, hrun⟩ := run_builtin (P := P) (w := w) (a := a) ho hc
      have h2 := evOs_sound hgl ht h1
      have := builtinA_good S h2 he hk (cb := cb) (ty := o.type)
      rw [hrun]
      have e1 : (c.args.toList.map a.eval).toArray = c.args.map a.eval := Array.ext' (by rw [Array.toList_map])
      rw [e1] at this
      exact this
    · cases he
  · cases he

end ops
end Go.Xv

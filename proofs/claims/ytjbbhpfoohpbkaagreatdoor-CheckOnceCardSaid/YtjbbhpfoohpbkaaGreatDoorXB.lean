/- Each operation that the interpreter carries out is carried out by the machine with the same result (first part). No condition. -/
import Derived.Test.YtjbbhpfoohpbkaaGreatDoorXA
import Derived.Laws.Append
import Derived.Laws.World
import Derived.IntWalk
set_option linter.all false
namespace Go.Xv

section ops
variable {P : Program} {gl : Nat → Option (List AV)} {g : G} {h : Nat → Blk} {w : World} {k : Nat} {t : Tmps} {a : Act}

theorem good_nilCheck (S : Sim g h w.heap) (hgl : GlOK gl g h w.heap) (ht : VRL g h w.heap t a.tmps.toList) {o : Oper} {x : Operand} (ho : o.op = .nilCheck x) {v : AV}
    (hx : evO gl t x = some v) (hk : (∃ b ver off, v = .ptr b ver off) ∨ (∃ b c off, v = .cp b c off) ∨ (∃ f c d, v = .fn f c d)) : Good g h w k { val := v } ((execOp a.eval o).run P w) := by
  have hv := evO_sound hgl ht hx
  refine good_value S hv ?_
  generalize hpx : a.eval x = px at hv
  rcases hk with ⟨b, ver, off, rfl⟩ | ⟨b, c, off, rfl⟩ | ⟨f, c, d, rfl⟩ <;> cases hv <;> simp [execOp, ho, hpx]

theorem good_unOp (S : Sim g h w.heap) (hgl : GlOK gl g h w.heap) (ht : VRL g h w.heap t a.tmps.toList) {o : Oper} {op : UnOp} {ty : TypeId} {x : Operand} (ho : o.op = .unOp op ty x) {v : AV} {u : Value} {e : Eff}
    (hx : evO gl t x = some v) (hu : toV v = some u) (he : pureV P (Op.unary op u) = some e) : Good g h w k e ((execOp a.eval o).run P w) := by
  have hv := (evO_sound hgl ht hx).of_toV hu
  refine pureV_good S he fun r hr => ?_
  simp only [execOp, ho, hv, Sem.run_bind, hr, Result.andThen_ok, Sem.run_pure]

theorem eqGuard_int {op : BinOp} {ty : TypeId} {x y : Operand} {k1 k2 : IntKind} {m n : Int} (w : World) : (eqGuard op ty x y (.int k1 m) (.int k2 n)).run P w = .ok () w := by
  unfold eqGuard
  cases op <;> simp

theorem fits_slice {e : TypeId} {av : AV} {v : Value} (hf : fits (some (.slice e)) av = true) (hv : VR g h w.heap av v) {r : Bool} (hn : nilOf av = some r) :
    ∃ b len cap, v = .slice b len cap ∧ b.isNone = r := by
  cases hv with
  | sc v hp =>
    cases v with
    | slice b len cap =>
      cases b with
      | some b => simp [fits] at hf
      | none => cases len <;> cases cap <;> simp [fits] at hf; simp [nilOf] at hn; exact ⟨_, _, _, rfl, by simp [← hn]⟩
    | _ => simp [fits] at hf
  | e0 | sl => (simp [nilOf] at hn; exact ⟨_, _, _, rfl, by simp [← hn]⟩)
  | fz own s es => cases es <;> simp [nilOf] at hn; exact ⟨_, _, _, rfl, by simp [← hn]⟩
  | fzn => simp [nilOf] at hn
  | _ => simp [fits] at hf

theorem fits_map {e f : TypeId} {av : AV} {v : Value} (hf : fits (some (.map e f)) av = true) (hv : VR g h w.heap av v) {r : Bool} (hn : nilOf av = some r) :
    ∃ b, v = .map b ∧ b.isNone = r := by
  cases hv with
  | sc v hp =>
    cases v with
    | map b =>
      cases b with
      | some b => simp [fits] at hf
      | none => simp [nilOf] at hn; exact ⟨_, rfl, by simp [← hn]⟩
    | _ => simp [fits] at hf
  | mp | fm => (simp [nilOf] at hn; exact ⟨_, rfl, by simp [← hn]⟩)
  | _ => simp [fits] at hf

theorem fits_pointer {e : TypeId} {av : AV} {v : Value} (hf : fits (some (.pointer e)) av = true) (hv : VR g h w.heap av v) {r : Bool} (hn : nilOf av = some r) :
    ∃ b, v = .pointer b ∧ b.isNone = r := by
  cases hv with
  | sc v hp =>
    cases v with
    | pointer b =>
      cases b with
      | some b => simp [fits] at hf
      | none => simp [nilOf] at hn; exact ⟨_, rfl, by simp [← hn]⟩
    | _ => simp [fits] at hf
  | ptr | cp => (simp [nilOf] at hn; exact ⟨_, rfl, by simp [← hn]⟩)
  | _ => simp [fits] at hf

theorem fits_func {x y : Array TypeId} {z : Bool} {av : AV} {v : Value} (hf : fits (some (.func x y z)) av = true) (hv : VR g h w.heap av v) {r : Bool} (hn : nilOf av = some r) :
    (v = .nilFunc ∧ r = true) ∨ (∃ f p q, v = .func f p q ∧ r = false) := by
  cases hv with
  | sc v hp =>
    cases v with
    | nilFunc => simp [nilOf] at hn; exact .inl ⟨rfl, by simp [← hn]⟩
    | _ => simp [fits] at hf
  | fn => (simp [nilOf] at hn; exact .inr ⟨_, _, _, rfl, by simp [← hn]⟩)
  | _ => simp [fits] at hf

theorem fits_kinds {d : Option TypeDesc} {av : AV} (hf : fits d av = true) : (∃ e, d = some (.slice e)) ∨ (∃ e f, d = some (.map e f)) ∨ (∃ e, d = some (.pointer e)) ∨ (∃ x y z, d = some (.func x y z)) := by
  cases d with
  | none => simp [fits] at hf
  | some d => cases d <;> first | exact .inl ⟨_, rfl⟩ | exact .inr (.inl ⟨_, _, rfl⟩) | exact .inr (.inr (.inl ⟨_, rfl⟩)) | exact .inr (.inr (.inr ⟨_, _, _, rfl⟩)) | (simp [fits] at hf)

theorem eqNil_key {ty : TypeId} {av bv : AV} {v u : Value} (hv : VR g h w.heap av v) (hu : VR g h w.heap bv u) {r : Bool} (he : eqNil P ty av bv = some r) :
    (Op.equal ty v u).run P w = .ok r w ∧ (∀ cs, v ≠ .agg cs) ∧ v ≠ .nilIface ∧ (∀ k n, v ≠ .int k n) ∧ (∀ k n, v ≠ .float k n) ∧ (∀ k n m, v ≠ .complex k n m) ∧ (∀ s, v ≠ .string s) := by
  unfold eqNil at he
  split at he
  case isFalse => cases he
  rename_i hf
  simp only [Bool.and_eq_true] at hf
  obtain ⟨f1, f2⟩ := hf
  have hn : ∃ p q, nilOf av = some p ∧ nilOf bv = some q ∧ ((p = true ∧ q = r) ∨ (p = false ∧ q = true ∧ r = false)) := by
    split at he
    · rename_i y h1 h2; cases he; exact ⟨_, _, h1, h2, .inl ⟨rfl, rfl⟩⟩
    · rename_i h1 h2; cases he; exact ⟨_, _, h1, h2, .inr ⟨rfl, rfl, rfl⟩⟩
    · cases he
  obtain ⟨p, q, n1, n2, hpq⟩ := hn
  unfold Op.equal Op.maxDepth
  rcases fits_kinds f1 with ⟨e, hd⟩ | ⟨e, f, hd⟩ | ⟨e, hd⟩ | ⟨x, y, z, hd⟩ <;> rw [hd] at f1 f2
  · obtain ⟨b, l, c, rfl, hb⟩ := fits_slice f1 hv n1
    obtain ⟨b', l', c', rfl, hb'⟩ := fits_slice f2 hu n2
    refine ⟨?_, by simp⟩
    rw [Op.equalIn, run_andThen (run_underlyingX hd)]
    cases b <;> cases b' <;> simp_all
  · obtain ⟨b, rfl, hb⟩ := fits_map f1 hv n1
    obtain ⟨b', rfl, hb'⟩ := fits_map f2 hu n2
    refine ⟨?_, by simp⟩
    rw [Op.equalIn, run_andThen (run_underlyingX hd)]
    cases b <;> cases b' <;> simp_all
  · obtain ⟨b, rfl, hb⟩ := fits_pointer f1 hv n1
    obtain ⟨b', rfl, hb'⟩ := fits_pointer f2 hu n2
    refine ⟨?_, by simp⟩
    rw [Op.equalIn, run_andThen (run_underlyingX hd)]
    cases b <;> cases b' <;> simp_all
  · rcases fits_func f1 hv n1 with ⟨rfl, hb⟩ | ⟨_, _, _, rfl, hb⟩ <;> rcases fits_func f2 hu n2 with ⟨rfl, hb'⟩ | ⟨_, _, _, rfl, hb'⟩ <;>
      (refine ⟨?_, by simp⟩; rw [Op.equalIn, run_andThen (run_underlyingX hd)]; simp_all)

theorem eqNil_sound {op : BinOp} (hop : op = .eql ∨ op = .neq) {ty : TypeId} {x y : Operand} {av bv : AV} {v u : Value} (hv : VR g h w.heap av v) (hu : VR g h w.heap bv u) {r : Bool} (he : eqNil P ty av bv = some r) :
    (do eqGuard op ty x y v u; Go.binOp op ty v u).run P w = .ok (.bool (if op = .eql then r else !r)) w := by
  obtain ⟨hk, h1, h2, h3, h4, h5, h6⟩ := eqNil_key hv hu he
  have hg : (eqGuard op ty x y v u).run P w = .ok () w := by
    unfold eqGuard
    rcases hop with rfl | rfl <;> cases v <;> simp_all
  rw [Sem.run_bind, hg]
  simp only [Result.andThen_ok]
  rcases hop with rfl | rfl
  · have hb : Go.binOp .eql ty v u = (do pure (.bool (← Op.equal ty v u))) := by
      cases v <;> simp_all [Go.binOp]
    rw [hb]; simp [hk]
  · have hb : Go.binOp .neq ty v u = (do pure (.bool (!(← Op.equal ty v u)))) := by
      cases v <;> simp_all [Go.binOp]
    rw [hb]; simp [hk]

theorem good_binOp (S : Sim g h w.heap) (hgl : GlOK gl g h w.heap) (ht : VRL g h w.heap t a.tmps.toList) {o : Oper} {op : BinOp} {ty ty' : TypeId} {x y : Operand} (ho : o.op = .binOp op ty x y ty') {av bv : AV} {e : Eff}
    (hx : evO gl t x = some av) (hy : evO gl t y = some bv) (he : binA P op ty x y av bv = some e) : Good g h w k e ((execOp a.eval o).run P w) := by
  have hv := evO_sound hgl ht hx
  have hu := evO_sound hgl ht hy
  have main : ∀ r, (do eqGuard op ty x y (a.eval x) (a.eval y); Go.binOp op ty (a.eval x) (a.eval y)).run P w = .ok r w → (execOp a.eval o).run P w = .ok (.value r) w := by
    intro r hr
    simp only [execOp, ho]
    rw [Sem.run_bind, hr]
    rfl
  have ints : ∀ (m n : Int) (r : Value), a.eval x = .int .i64 m → a.eval y = .int .i64 n → Go.binOp op ty (.int .i64 m) (.int .i64 n) = pure r → (execOp a.eval o).run P w = .ok (.value r) w := by
    intro m n r h1 h2 h3
    refine main r ?_
    rw [h1, h2, Sem.run_bind, eqGuard_int, h3]
    rfl
  unfold binA at he
  simp only [ltI_eq, leI_eq, eqI_eq, wrapI_eq] at he
  split at he
  all_goals try (
    rename_i m n
    cases he
    have h1 := hv.of_toV (w := .int .i64 m) rfl
    have h2 := hu.of_toV (w := .int .i64 n) rfl
    exact good_value S (.sc _ rfl) (ints m n _ h1 h2 rfl))
  · split at he
    · rename_i v u hv' hu'
      have h1 := hv.of_toV hv'
      have h2 := hu.of_toV hu'
      refine pureV_good S he fun r hr => main r ?_
      rw [h1, h2]; exact hr
    · split at he
      · cases h1 : eqNil P ty av bv with
        | none => simp [h1] at he
        | some r =>
          simp [h1] at he
          subst he
          exact good_value S (.sc _ rfl) (main _ (by simpa using eqNil_sound (.inl rfl) hv hu h1))
      · cases h1 : eqNil P ty av bv with
        | none => simp [h1] at he
        | some r =>
          simp [h1] at he
          subst he
          exact good_value S (.sc _ rfl) (main _ (by simpa using eqNil_sound (.inr rfl) hv hu h1))
      · cases he

theorem good_makeFunc (S : Sim g h w.heap) (hgl : GlOK gl g h w.heap) (ht : VRL g h w.heap t a.tmps.toList) {o : Oper} {f : FuncId} {xs ys : Array Operand} (ho : o.op = .makeFunc (.func f) xs ys) {av bv : List AV}
    (hx : xs.toList.mapM (evO gl t) = some av) (hy : ys.toList.mapM (evO gl t) = some bv) : Good g h w k { val := .fn f av bv } ((execOp a.eval o).run P w) := by
  have h1 := evOs_sound hgl ht hx
  have h2 := evOs_sound hgl ht hy
  refine good_value S (.fn f av bv _ _ h1 h2) ?_
  have e1 : (List.map a.eval xs.toList).toArray = xs.map a.eval := by rw [← Array.toList_map]
  have e2 : (List.map a.eval ys.toList).toArray = ys.map a.eval := by rw [← Array.toList_map]
  rw [e1, e2]
  simp [execOp, ho, Instr.makeFunc]

theorem good_makeMap (S : Sim g h w.heap) (hgl : GlOK gl g h w.heap) (ht : VRL g h w.heap t a.tmps.toList) (hk : ¬ g.dom k) {o : Oper} {ty : TypeId} {r : Option Operand} (ho : o.op = .makeMap ty r)
    (hr : r = none ∨ ∃ x kk n d e, r = some x ∧ P.underlying ty = some (.map d e) ∧ (evO gl t x).bind asN = some (kk, n)) : Good g h w k { val := .mp k, al := [.map [] 0] } ((execOp a.eval o).run P w) := by
  refine good_newObj S hk (o := .map #[] 0) rfl (fun g' h1 h2 h3 E => ?_) w.drawn (v := .map (some w.heap.size)) (fun g' hp' h1 h2 => .mp _ _ h2 fun _ => h1.symm) ?_
  · refine ⟨h2, fun o hF => ?_, #[], by rw [h1]; simp, rfl, .nil⟩
    rw [h3, h1] at hF
    have := S.fz o _ hF; omega
  · rcases hr with rfl | ⟨x, kk, n, d, e, rfl, hu, hn⟩
    · simp [execOp, ho, Instr.makeMap, newObj, Sem.run]
    · cases h1 : evO gl t x with
      | none => simp [h1] at hn
      | some v =>
        simp [h1] at hn
        have hv := evO_sound hgl ht h1
        cases v <;> simp [asN] at hn
        rename_i v
        cases v <;> simp at hn
        have h2 := hv.of_toV rfl
        simp only [execOp, ho, Option.map_some, Instr.makeMap, bind_assoc]
        rw [run_andThen (run_underlyingX hu)]
        simp [h2, asInt, asIntOf, newObj, Sem.run]

theorem good_fieldAddr (S : Sim g h w.heap) (hgl : GlOK gl g h w.heap) (ht : VRL g h w.heap t a.tmps.toList) {o : Oper} {s : TypeId} {x : Operand} {f off n : Nat} {ft : TypeId} (ho : o.op = .fieldAddr s x f) {v v' : AV}
    (hx : evO gl t x = some v) (hf : fieldOff P s f = some (off, ft)) (hn : szT P ft = some n) (hn0 : n ≠ 0)
    (hv' : (∃ b ver p, v = .ptr b ver p ∧ v' = .ptr b ver (p + off)) ∨ (∃ own cs p, v = .cp own cs p ∧ v' = .cp own cs (p + off))) : Good g h w k { val := v' } ((execOp a.eval o).run P w) := by
  have hv := evO_sound hgl ht hx
  unfold fieldOff at hf
  cases h1 : P.underlying s with
  | none => simp [h1] at hf
  | some d =>
    simp only [h1, Option.bind_eq_bind, Option.bind_some] at hf
    split at hf
    case h_2 => cases hf
    rename_i fields
    cases h2 : fields[f]? with
    | none => simp [h2] at hf
    | some fd =>
      simp [h2] at hf
      obtain ⟨rfl, rfl⟩ := hf
      generalize hpx : a.eval x = px at hv
      have run : ∀ ad : Addr, px = .pointer (some ad) → (execOp a.eval o).run P w = .ok (.value (.pointer (some (ad.add fd.offset)))) w := by
        intro ad hp
        subst hp
        simp only [execOp, ho, hpx, Instr.fieldAt, bind_assoc]
        rw [run_andThen (run_underlyingX h1)]
        simp only [h2, Instr.sureAddr, pure_bind, fieldPlace, bind_assoc]
        rw [run_andThen (show purely P (sizeOf fd.type) = some n from hn)]
        simp [hn0]
      rcases hv' with ⟨b, ver, p, rfl, rfl⟩ | ⟨own, cs, p, rfl, rfl⟩
      · cases hv with
        | ptr _ _ _ ad hd hc =>
          refine good_value S (.ptr b ver (p + fd.offset) (ad.add fd.offset) hd fun cs hcs => ?_) (run ad rfl)
          obtain ⟨q1, q2⟩ := hc cs hcs
          refine ⟨q1, fun e => ?_⟩
          rw [q2 e, addr_add, Nat.add_assoc]
      · cases hv with
        | cp _ _ _ L B o' hL hst hF hr hfr =>
          refine good_value S ?_ (run _ rfl)
          rw [addr_add, Nat.add_assoc]
          exact .cp own cs (p + fd.offset) L B o' hL hst hF hr hfr

theorem part_value {ty : TypeId} {ag : Bool} {s off : Nat} {cs : List AV} {L : List Value} {av : AV} (hag : agT P ty = some ag) (hs : szT P ty = some s) (hp : part ag s off cs = some av) (hL : VRL g h w.heap cs L)
    (hst : cs.all AV.stor = true) : ∃ v, (Go.part ty L.toArray off).run P w = .ok v w ∧ VR g h w.heap av v := by
  unfold Go.part
  rw [run_andThen (show purely P (isAgg ty) = some ag from hag)]
  unfold Go.Xv.part at hp
  split at hp
  · rename_i hag'
    simp only [hag', if_true]
    dsimp only at hp
    split at hp
    · rename_i hlen
      cases hp
      refine ⟨.agg ((L.drop off).take s).toArray, ?_, .agg _ _ ((hL.drop off).take s) ?_⟩
      · rw [run_andThen (show purely P (sizeOf ty) = some s from hs)]
        simp only [Sem.run_pure, Result.ok.injEq, and_true, Value.agg.injEq]
        rw [List.extract_toArray]
        congr 1
        simp [List.extract_eq_take_drop]
      · rw [List.all_eq_true] at hst ⊢
        exact fun x hx => hst x (List.mem_of_mem_drop (List.mem_of_mem_take hx))
    · cases hp
  · rename_i hag'
    simp only [hag']
    obtain ⟨v, hv, hR⟩ := hL.get hp
    exact ⟨v, by simp [hv], hR⟩

theorem good_field (S : Sim g h w.heap) (hgl : GlOK gl g h w.heap) (ht : VRL g h w.heap t a.tmps.toList) {o : Oper} {s : TypeId} {x : Operand} {f off n : Nat} {ag : Bool} {ft : TypeId} (ho : o.op = .field s x f) {cs : List AV} {v' : AV}
    (hx : evO gl t x = some (.agg cs)) (hf : fieldOff P s f = some (off, ft)) (hag : agT P ft = some ag) (hn : szT P ft = some n) (hp : Go.Xv.part ag n off cs = some v') : Good g h w k { val := v' } ((execOp a.eval o).run P w) := by
  have hv := evO_sound hgl ht hx
  unfold fieldOff at hf
  cases h1 : P.underlying s with
  | none => simp [h1] at hf
  | some d =>
    simp only [h1, Option.bind_eq_bind, Option.bind_some] at hf
    split at hf
    case h_2 => cases hf
    rename_i fields
    cases h2 : fields[f]? with
    | none => simp [h2] at hf
    | some fd =>
      simp [h2] at hf
      obtain ⟨rfl, rfl⟩ := hf
      generalize hpx : a.eval x = px at hv
      cases hv with
      | agg _ L hL hst =>
        obtain ⟨u, r1, r2⟩ := part_value hag hn hp hL hst
        refine good_value S r2 ?_
        simp only [execOp, ho, hpx, Instr.field, bind_assoc]
        rw [run_andThen (run_underlyingX h1)]
        simp only [h2, asAgg, pure_bind]
        rw [Sem.run_bind, r1]
        rfl

theorem asN_sound {v : AV} {u : Value} (hv : VR g h w.heap v u) {kk : IntKind} {n : Int} (hn : asN v = some (kk, n)) : u = .int kk n := by
  cases v <;> simp [asN] at hn
  rename_i q
  cases q <;> simp at hn
  obtain ⟨rfl, rfl⟩ := hn
  exact hv.of_toV rfl

theorem good_extract (S : Sim g h w.heap) (hgl : GlOK gl g h w.heap) (ht : VRL g h w.heap t a.tmps.toList) {o : Oper} {x : Operand} {i : Nat} (ho : o.op = .extract x i) {vs : List AV} {v : AV}
    (hx : evO gl t x = some (.tup vs)) (hi : vs[i]? = some v) : Good g h w k { val := v } ((execOp a.eval o).run P w) := by
  have hv := evO_sound hgl ht hx
  generalize hpx : a.eval x = px at hv
  cases hv with
  | tup _ L hL =>
    obtain ⟨u, hu, hR⟩ := hL.get hi
    refine good_value S hR ?_
    simp [execOp, ho, hpx, Instr.extract, hu]

end ops
end Go.Xv

namespace Go.Xv

section ops
variable {P : Program} {gl : Nat → Option (List AV)} {g : G} {h : Nat → Blk} {w : World} {k : Nat} {t : Tmps} {a : Act}

theorem stor_sub {l l' : List AV} (hl : l.all AV.stor = true) (hs : ∀ x ∈ l', x ∈ l) : l'.all AV.stor = true := by
  rw [List.all_eq_true] at hl ⊢
  exact fun x hx => hl x (hs x hx)

/-- The cells of a live block that is seen through its address. -/
theorem live_cells (S : Sim g h w.heap) {b : Nat} {cs : List AV} (hb : h b = .cells cs) : cs.all AV.stor = true ∧ ∃ L, VRL g h w.heap cs L ∧
    (∀ i, i < L.length → w.cell? ⟨g.m b, g.sh b + i, none⟩ = L[i]?) := by
  obtain ⟨_, hst, _, c, ty, fr, L, k1, k2, k3, k4, k5, k6⟩ := (show BlkOK g h w.heap b (.cells cs) from hb ▸ S.blk b)
  exact ⟨hst, L, k3, fun i hi => by rw [cell_of k1]; exact k4 i hi⟩

theorem live_room (S : Sim g h w.heap) {b : Nat} {cs : List AV} (hb : h b = .cells cs) : g.sh b + cs.length ≤ g.sz b := by
  obtain ⟨_, hst, _, c, ty, fr, L, k1, k2, k3, k4, k5, k6⟩ := (show BlkOK g h w.heap b (.cells cs) from hb ▸ S.blk b)
  omega

/-- What a slice holds, and where. -/
theorem slice_reads (S : Sim g h w.heap) {x : AV} {v : Value} (hv : VR g h w.heap x v) {n : Nat} (hn : slLen x = some n) {cs : List AV} {rd : List Nat} (hc : slCells h x = some (cs, rd)) :
    ∃ a cap, v = .slice a n cap ∧ cs.all AV.stor = true ∧ ∃ L, VRL g h w.heap cs L ∧ (cs.length ≠ 0 → ∃ B o, a = some ⟨B, o, none⟩ ∧ ∀ i, i < L.length → w.cell? ⟨B, o + i, none⟩ = L[i]?) := by
  cases hv with
  | sc v hp =>
    cases v with
    | slice b len cap =>
      cases b with
      | some b => simp [slLen] at hn
      | none =>
        cases len <;> cases cap <;> simp [slLen] at hn
        subst hn
        simp [slCells] at hc
        obtain ⟨rfl, rfl⟩ := hc
        exact ⟨none, 0, rfl, rfl, [], .nil, fun hne => absurd rfl hne⟩
    | _ => simp [slLen] at hn
  | e0 ad =>
    simp [slLen] at hn; subst hn
    simp [slCells] at hc
    obtain ⟨rfl, rfl⟩ := hc
    exact ⟨some ad, 0, rfl, rfl, [], .nil, fun hne => absurd rfl hne⟩
  | fz own s es L ad cap' hL hst hs hr hcap hfr =>
    simp [slLen] at hn; subst hn
    simp [slCells] at hc
    obtain ⟨rfl, rfl⟩ := hc
    refine ⟨some ad, cap', rfl, hst, L, hL, fun hne => ?_⟩
    have hes : es ≠ [] := fun e => hne (by simp [e])
    obtain ⟨B, o, rfl, _, c, ty, fr, k1, k2⟩ := hr hes
    exact ⟨B, o, rfl, fun i hi => by rw [cell_of k1]; exact k2 i hi⟩
  | fzn own s =>
    simp [slLen] at hn; subst hn
    simp [slCells] at hc
    obtain ⟨rfl, rfl⟩ := hc
    exact ⟨none, 0, rfl, rfl, [], .nil, fun hne => absurd rfl hne⟩
  | sl s ag b off len cap ad cap' hd hcap hcur =>
    simp [slLen] at hn; subst hn
    simp only [slCells] at hc
    cases h1 : curCells h b (off + cap * s) with
    | none => simp [h1] at hc
    | some ds =>
      simp [h1] at hc
      obtain ⟨rfl, rfl⟩ := hc
      obtain ⟨hb, hlen⟩ := cellsAt h1
      obtain ⟨hst, L, k3, k4⟩ := live_cells S hb
      obtain ⟨_, q⟩ := hcur ds hb
      obtain ⟨q1, q3⟩ := q hlen
      refine ⟨some ad, cap', rfl, stor_sub hst fun x hx => List.mem_of_mem_drop (List.mem_of_mem_take hx), (L.drop off).take (len * s), (k3.drop off).take _, fun _ => ⟨g.m b, g.sh b + off, by rw [q1], fun i hi => ?_⟩⟩
      simp at hi
      rw [show g.sh b + off + i = g.sh b + (off + i) from by omega, k4 (off + i) (by omega), List.getElem?_take, if_pos (by omega), List.getElem?_drop]
  | _ => simp [slLen] at hn

theorem firstCells_run (S : Sim g h w.heap) {x : AV} {v : Value} (hv : VR g h w.heap x v) {n sz : Nat} (hn : slLen x = some n) {cs : List AV} {rd : List Nat} (hc : slCells h x = some (cs, rd)) (hlen : cs.length = n * sz) :
    ∃ L, (Builtin.firstCells sz n v).run P w = .ok L.toArray w ∧ VRL g h w.heap cs L ∧ cs.all AV.stor = true := by
  obtain ⟨ad, cap, rfl, hst, L, hL, hr⟩ := slice_reads S hv hn hc
  have hl := hL.length
  refine ⟨L, ?_, hL, hst⟩
  by_cases hz : cs.length = 0
  · have hL0 : L = [] := List.length_eq_zero_iff.1 (by omega)
    subst hL0
    have : n * sz = 0 := by omega
    cases ad with
    | none => simp [Builtin.firstCells]
    | some ad => simp [Builtin.firstCells, this, loadCells, loadCellsFrom]
  · obtain ⟨B, o, rfl, hcell⟩ := hr hz
    simp only [Builtin.firstCells]
    exact loadCells_run L (by omega) hcell

/-- The bytes of a string, as cells. -/
theorem bytes_VRL (l : List UInt8) {hp : Array Obj} : VRL g h hp (l.map fun c => AV.sc (.int .u8 c.toNat)) (l.map fun c => Value.int .u8 c.toNat) := by
  induction l with
  | nil => exact .nil
  | cons c l ih => exact .cons _ _ _ _ (.sc _ rfl) ih

theorem bytes_stor (l : List UInt8) : (l.map fun c => AV.sc (.int .u8 c.toNat)).all AV.stor = true := by simp [AV.stor]

theorem bound_run {v : AV} {u : Value} (hv : VR g h w.heap v u) {d most most' n : Nat} (hn : bnd (some v) d most = some n) (hm : most ≤ most') (code : BoundsCode) :
    (Instr.sliceBound u most' code).run P w = .ok n w ∧ n ≤ most := by
  simp only [bnd] at hn
  cases h1 : asN v with
  | none => simp [h1] at hn
  | some p =>
    obtain ⟨kk, i⟩ := p
    simp only [h1] at hn
    split at hn
    · rename_i hi
      cases hn
      have := asN_sound hv h1
      subst this
      refine ⟨?_, by omega⟩
      simp only [Instr.sliceBound, asIntOf, pure_bind]
      rw [if_pos (by omega)]
      rfl
    · cases hn

end ops
end Go.Xv

namespace Go.Xv

section ops
variable {P : Program} {gl : Nat → Option (List AV)} {g : G} {h : Nat → Blk} {w : World} {k : Nat} {t : Tmps} {a : Act}

/-- An operand that may be missing. -/
def VRO (g : G) (h : Nat → Blk) (hp : Array Obj) (x : Option AV) (y : Option Value) : Prop :=
  (x = none ∧ y = none) ∨ ∃ v u, x = some v ∧ y = some u ∧ VR g h hp v u

theorem bounds2_run {lo hi : Option AV} {low high : Option Value} (hlo : VRO g h w.heap lo low) (hhi : VRO g h w.heap hi high) {isS : Bool} {len cap most hN l : Nat}
    (h1 : bnd hi len most = some hN) (h2 : bnd lo 0 hN = some l) (hm : most ≤ cap) :
    (Instr.sliceBounds isS len cap low high none).run P w = .ok (l, hN, cap) w ∧ l ≤ hN ∧ (hN ≤ most ∨ (hi = none ∧ hN = len)) := by
  have hl : ∀ code (c : Nat), (match low with | some v => do { let l ← Instr.sliceBound v hN code; pure (l, hN, c) } | none => pure (0, hN, c) : Sem (Nat × Nat × Nat)).run P w = .ok (l, hN, c) w ∧ l ≤ hN := by
    intro code c
    rcases hlo with ⟨rfl, rfl⟩ | ⟨v, u, rfl, rfl, hv⟩
    · simp [bnd] at h2; subst h2; exact ⟨rfl, by omega⟩
    · obtain ⟨q1, q2⟩ := bound_run (P := P) hv h2 (Nat.le_refl _) code
      exact ⟨by simp only [Sem.run_bind, q1, Result.andThen_ok, Sem.run_pure], q2⟩
  rcases hhi with ⟨rfl, rfl⟩ | ⟨v, u, rfl, rfl, hv⟩
  · simp [bnd] at h1
    subst h1
    refine ⟨?_, (hl .sliceB cap).2, .inr ⟨rfl, rfl⟩⟩
    simp only [Instr.sliceBounds, pure_bind, Option.isSome_none, Bool.false_eq_true, if_false]
    exact (hl .sliceB cap).1
  · refine ⟨?_, (hl .sliceB cap).2, .inl (bound_run (P := P) hv h1 hm .sliceB).2⟩
    simp only [Instr.sliceBounds, pure_bind, Option.isSome_none, Bool.false_eq_true, if_false]
    rw [Sem.run_bind, (bound_run hv h1 hm _).1]
    simp only [Result.andThen_ok]
    exact (hl .sliceB cap).1

theorem bounds3_run {lo hi : Option AV} {mv : AV} {mu : Value} {low high : Option Value} (hlo : VRO g h w.heap lo low) (hhi : VRO g h w.heap hi high) (hmv : VR g h w.heap mv mu) {len cap most m hN l dd : Nat}
    (h0 : bnd (some mv) 0 most = some m) (h1 : bnd hi dd m = some hN) (h2 : bnd lo 0 hN = some l) (hm : most ≤ cap) (his : hi.isSome = true) :
    (Instr.sliceBounds true len cap low high (some mu)).run P w = .ok (l, hN, m) w ∧ l ≤ hN ∧ hN ≤ m ∧ m ≤ most := by
  have hl : ∀ code (c : Nat), (match low with | some v => do { let l ← Instr.sliceBound v hN code; pure (l, hN, c) } | none => pure (0, hN, c) : Sem (Nat × Nat × Nat)).run P w = .ok (l, hN, c) w ∧ l ≤ hN := by
    intro code c
    rcases hlo with ⟨rfl, rfl⟩ | ⟨v, u, rfl, rfl, hv⟩
    · simp [bnd] at h2; subst h2; exact ⟨rfl, by omega⟩
    · obtain ⟨q1, q2⟩ := bound_run (P := P) hv h2 (Nat.le_refl _) code
      exact ⟨by simp only [Sem.run_bind, q1, Result.andThen_ok, Sem.run_pure], q2⟩
  rcases hhi with ⟨rfl, rfl⟩ | ⟨v, u, rfl, rfl, hv⟩
  · cases his
  · have hb := bound_run (P := P) hmv h0 hm .slice3Acap
    have hb2 := bound_run (P := P) hv h1 (Nat.le_refl _) .slice3B
    refine ⟨?_, (hl .sliceB m).2, hb2.2, hb.2⟩
    simp only [Instr.sliceBounds, if_true, Option.isSome_some]
    rw [Sem.run_bind, hb.1]
    simp only [Result.andThen_ok]
    rw [Sem.run_bind, hb2.1]
    simp only [Result.andThen_ok]
    exact (hl .slice3C m).1

theorem VRO.optV {x : Option AV} {y : Option Value} (hxy : VRO g h w.heap x y) {z : Option Value} (hz : optV x = some z) : y = z := by
  rcases hxy with ⟨rfl, rfl⟩ | ⟨v, u, rfl, rfl, hv⟩
  · simpa [Go.Xv.optV] using hz
  · simp only [Go.Xv.optV] at hz
    cases h1 : toV v with
    | none => simp [h1] at hz
    | some q => simp [h1] at hz; subst hz; rw [hv.of_toV h1]

theorem sliceTy_spec {ty : TypeId} {s : Nat} (hs : sliceTy P ty s = true) : ∃ e, P.underlying ty = some (.slice e) ∧ szT P e = some s := by
  unfold sliceTy at hs
  split at hs
  · rename_i e he; exact ⟨e, he, by simpa using hs⟩
  · cases hs

theorem sliceTyAny_spec {ty : TypeId} (hs : sliceTyAny P ty = true) : ∃ e s, P.underlying ty = some (.slice e) ∧ szT P e = some s := by
  unfold sliceTyAny at hs
  split at hs
  · rename_i e he
    obtain ⟨s, hs⟩ := Option.isSome_iff_exists.1 hs
    exact ⟨e, s, he, hs⟩
  · cases hs

theorem slice_run {ty e : TypeId} {s : Nat} {b : Option Addr} {len cap l hN m : Nat} {lo hi mx : Option Value} (hu : P.underlying ty = some (.slice e)) (hs : szT P e = some s)
    (hb : (Instr.sliceBounds true len cap lo hi mx).run P w = .ok (l, hN, m) w) :
    (Instr.sliceAt ty (.slice b len cap) lo hi mx).run P w = .ok (.slice (if m = l then b else b.map (·.add (l * s))) (hN - l) (m - l)) w := by
  simp only [Instr.sliceAt]
  rw [run_andThen (run_underlyingX hu)]
  simp only [Instr.slice]
  rw [run_andThen (run_underlyingX hu)]
  simp only []
  rw [Sem.run_bind, hb]
  simp only [Result.andThen_ok]
  rw [run_andThen (show purely P (sizeOf e) = some s from hs)]
  rfl

/-- A list of elements cut. -/
theorem flat_drop_take {s : Nat} (es : List AV) (hs : ∀ e ∈ es, e.cells.length = s) (l n : Nat) :
    ((es.drop l).take n).flatMap AV.cells = ((es.flatMap AV.cells).drop (l * s)).take (n * s) := by
  induction es generalizing l with
  | nil => simp
  | cons e es ih =>
    have he : e.cells.length = s := hs e (by simp)
    have hes : ∀ e ∈ es, e.cells.length = s := fun x hx => hs x (by simp [hx])
    cases l with
    | succ l =>
      simp only [List.drop_succ_cons, List.flatMap_cons]
      rw [ih hes l, show (l + 1) * s = s + l * s from by rw [Nat.succ_mul]; omega, ← List.drop_drop, List.drop_left' he]
    | zero =>
      simp only [List.drop_zero, Nat.zero_mul]
      clear ih
      induction n generalizing e es with
      | zero => simp
      | succ n ihn =>
        simp only [List.take_succ_cons, List.flatMap_cons]
        rw [show (n + 1) * s = s + n * s from by rw [Nat.succ_mul]; omega, List.take_append, he, List.take_of_length_le (by omega : e.cells.length ≤ s + n * s)]
        congr 1
        rw [show s + n * s - s = n * s from by omega]
        cases es with
        | nil => simp
        | cons e' es' => exact ihn e' es' (by simpa using hes) (hes e' (by simp)) (fun x hx => hes x (by simp [hx]))

theorem flat_length {s : Nat} (es : List AV) (hs : ∀ e ∈ es, e.cells.length = s) : (es.flatMap AV.cells).length = es.length * s := by
  induction es with
  | nil => simp
  | cons e es ih =>
    simp only [List.flatMap_cons, List.length_append, List.length_cons]
    rw [ih fun x hx => hs x (by simp [hx]), hs e (by simp), Nat.succ_mul]; omega

theorem row.sub {hp : Array Obj} {B o : Nat} {L : List Value} (hr : row hp B o L) (i n : Nat) : row hp B (o + i) ((L.drop i).take n) := by
  obtain ⟨c, ty, fr, h1, h2⟩ := hr
  refine ⟨c, ty, fr, h1, fun j hj => ?_⟩
  simp at hj
  rw [Nat.add_assoc, h2 (i + j) (by omega), List.getElem?_take, if_pos (by omega), List.getElem?_drop]

/-- A frozen slice cut. -/
theorem fz_cut {own : Bool} {s : Nat} {es : List AV} {L : List Value} {ad : Addr} {cap : Nat} (hL : VRL g h w.heap (es.flatMap AV.cells) L) (hst : (es.flatMap AV.cells).all AV.stor = true)
    (hs : ∀ e ∈ es, e.cells.length = s) (hr : es ≠ [] → ∃ B o, ad = ⟨B, o, none⟩ ∧ g.F own B ∧ row w.heap B o L) (hfr : okVL false own (es.flatMap AV.cells) = true) {l hN : Nat} (hle : l ≤ hN) (hh : hN ≤ es.length) (hcap : es.length ≤ cap) :
    VR g h w.heap (.fz own s ((es.drop l).take (hN - l))) (.slice (if cap = l then some ad else some (ad.add (l * s))) (hN - l) (cap - l)) := by
  have hlen : ((es.drop l).take (hN - l)).length = hN - l := by simp; omega
  have hflat := flat_drop_take es hs l (hN - l)
  have hL' : VRL g h w.heap (((es.drop l).take (hN - l)).flatMap AV.cells) ((L.drop (l * s)).take ((hN - l) * s)) := by rw [hflat]; exact (hL.drop _).take _
  have hst' : (((es.drop l).take (hN - l)).flatMap AV.cells).all AV.stor = true := by
    rw [hflat]; exact stor_sub hst fun x hx => List.mem_of_mem_drop (List.mem_of_mem_take hx)
  have hfr' : okVL false own (((es.drop l).take (hN - l)).flatMap AV.cells) = true := by
    rw [hflat]; exact okVL_sub hfr fun x hx => List.mem_of_mem_drop (List.mem_of_mem_take hx)
  have hs' : ∀ e ∈ (es.drop l).take (hN - l), e.cells.length = s := fun e he => hs e (List.mem_of_mem_drop (List.mem_of_mem_take he))
  by_cases hc : cap = l
  · rw [if_pos hc]
    have hnil : (es.drop l).take (hN - l) = [] := List.length_eq_zero_iff.1 (by omega)
    rw [hnil] at hL' ⊢
    have h0 : hN - l = 0 := by omega
    rw [h0]
    exact .fz own s [] _ ad (cap - l) hL' rfl (by simp) (fun hne => absurd rfl hne) (by simp) rfl
  · rw [if_neg hc]
    have := VR.fz (g := g) (h := h) (hp := w.heap) own s _ _ (ad.add (l * s)) (cap - l) hL' hst' hs' (fun hne => ?_) (by omega) hfr'
    · rwa [hlen] at this
    · have hes : es ≠ [] := fun e => hne (by simp [e])
      obtain ⟨B, o, rfl, h1, h2⟩ := hr hes
      exact ⟨B, o + l * s, addr_add _ _ _, h1, h2.sub _ _⟩

theorem bnd_le {x : Option AV} {d m n : Nat} (hn : bnd x d m = some n) : n ≤ m ∨ (x = none ∧ n = d) := by
  cases x with
  | none => simp [bnd] at hn; exact .inr ⟨rfl, hn.symm⟩
  | some v =>
    simp only [bnd] at hn
    split at hn
    · split at hn
      · cases hn; left; omega
      · cases hn
    · cases hn

theorem array_run {ty e : TypeId} {n s l hN : Nat} {ad : Addr} {lo hi : Option Value} (hu : arrayTy P ty = some (n, e)) (hs : szT P e = some s)
    (hb : (Instr.sliceBounds false n n lo hi none).run P w = .ok (l, hN, n) w) :
    (Instr.sliceAt ty (.pointer (some ad)) lo hi none).run P w = .ok (.slice (some (if n = l then ad else ad.add (l * s))) (hN - l) (n - l)) w := by
  unfold arrayTy at hu
  split at hu
  · rename_i h1
    cases hu
    simp only [Instr.sliceAt]
    rw [run_andThen (run_underlyingX h1)]
    simp only [Instr.sureAddr, pure_bind]
    rw [Sem.run_bind, hb]
    simp only [Result.andThen_ok]
    rw [run_andThen (show purely P (sizeOf e) = some s from hs)]
    rfl
  · cases hu

theorem sliceA_run (S : Sim g h w.heap) {ty : TypeId} {x : AV} {v : Value} (hv : VR g h w.heap x v) {lo hi mx : Option AV} {low high max : Option Value} (hlo : VRO g h w.heap lo low) (hhi : VRO g h w.heap hi high) (hmx : VRO g h w.heap mx max)
    {e : Eff} (he : sliceA P ty x lo hi mx = some e) : ∃ u av rd, e = { val := av, rd := rd } ∧ (Instr.sliceAt ty v low high max).run P w = .ok u w ∧ VR g h w.heap av u := by
  unfold sliceA at he
  split at he
  · -- e0
    split at he
    case isFalse => cases he
    rename_i hty
    obtain ⟨el, s, hu, hs⟩ := sliceTyAny_spec hty
    cases h1 : bnd hi 0 0 with
    | none => simp [h1] at he
    | some hN =>
      cases h2 : bnd lo 0 hN with
      | none => simp [h1, h2] at he
      | some l =>
        simp [h1, h2] at he
        subst he
        rcases hmx with ⟨_, rfl⟩ | ⟨_, _, hx, _⟩
        case inr => cases hx
        cases hv with
        | e0 ad =>
          obtain ⟨q1, q2, q3⟩ := bounds2_run (P := P) (isS := true) (cap := 0) hlo hhi h1 h2 (Nat.le_refl _)
          have hz : hN = 0 := by rcases q3 with q | ⟨_, q⟩ <;> omega
          subst hz
          have hl0 : l = 0 := by omega
          subst hl0
          exact ⟨_, _, _, rfl, slice_run hu hs q1, .e0 ad⟩
  · -- fz
    split at he
    case isFalse => cases he
    rename_i own s es hty
    obtain ⟨el, hu, hsz⟩ := sliceTy_spec hty
    cases h1 : bnd hi es.length es.length with
    | none => simp [h1] at he
    | some hN =>
      cases h2 : bnd lo 0 hN with
      | none => simp [h1, h2] at he
      | some l =>
        simp [h1, h2] at he
        subst he
        rcases hmx with ⟨_, rfl⟩ | ⟨_, _, hx, _⟩
        case inr => cases hx
        cases hv with
        | fz _ _ _ L ad cap' hL hst hs hr hcap hfr =>
          obtain ⟨q1, q2, q3⟩ := bounds2_run (P := P) (isS := true) (cap := cap') hlo hhi h1 h2 hcap
          have hle : hN ≤ es.length := by rcases q3 with q | ⟨_, q⟩ <;> omega
          refine ⟨_, _, _, rfl, slice_run hu hsz q1, ?_⟩
          have := fz_cut (own := own) hL hst hs hr hfr q2 hle hcap
          by_cases hc : cap' = l
          · simpa [hc] using this
          · simpa [hc] using this
        | fzn _ _ =>
          obtain ⟨q1, q2, q3⟩ := bounds2_run (P := P) (isS := true) (cap := 0) hlo hhi h1 h2 (Nat.le_refl _)
          have hz : hN = 0 := by rcases q3 with q | ⟨_, q⟩ <;> simp at * <;> omega
          subst hz
          have hl0 : l = 0 := by omega
          subst hl0
          refine ⟨_, _, _, rfl, slice_run hu hsz q1, ?_⟩
          simpa using VR.fzn own s
  · -- fz, three indices
    split at he
    case isFalse => cases he
    rename_i own s es mv hty
    simp only [Bool.and_eq_true] at hty
    obtain ⟨el, hu, hsz⟩ := sliceTy_spec hty.1
    cases h0 : bnd (some mv) 0 es.length with
    | none => simp [h0] at he
    | some m =>
      cases h1 : bnd hi 0 m with
      | none => simp [h0, h1] at he
      | some hN =>
        cases h2 : bnd lo 0 hN with
        | none => simp [h0, h1, h2] at he
        | some l =>
          simp only [h0, h1, h2, Option.bind_some] at he
          split at he
          case isFalse => cases he
          rename_i hlm
          rcases hmx with ⟨hx, _⟩ | ⟨mv', mu, hx, rfl, hmv⟩
          · cases hx
          cases hx
          cases hv with
          | fz _ _ _ L ad cap' hL hst hs hr hcap hfr =>
            cases es with
            | nil =>
              obtain ⟨q1, q2, q3, q4⟩ := bounds3_run (P := P) hlo hhi hmv h0 h1 h2 hcap hty.2
              cases he
              refine ⟨_, _, _, rfl, slice_run hu hsz q1, ?_⟩
              rw [if_pos hlm.symm, show hN - l = 0 from by omega, show m - l = 0 from by omega]
              exact .fz true s [] [] _ 0 .nil rfl (by simp) (fun hne => absurd rfl hne) (by simp) rfl
            | cons e es =>
              obtain ⟨q1, q2, q3, q4⟩ := bounds3_run (P := P) hlo hhi hmv h0 h1 h2 hcap hty.2
              cases he
              refine ⟨_, _, _, rfl, slice_run hu hsz q1, ?_⟩
              rw [if_pos hlm.symm, show hN - l = 0 from by omega, show m - l = 0 from by omega]
              exact .e0 _
          | fzn _ _ =>
            cases he
            obtain ⟨q1, q2, q3, q4⟩ := bounds3_run (P := P) (cap := 0) hlo hhi hmv h0 h1 h2 (Nat.le_refl _) hty.2
            refine ⟨_, _, _, rfl, slice_run hu hsz q1, ?_⟩
            have : m = 0 := by simp at *; omega
            rw [if_pos (by omega), show hN - l = 0 from by omega, show m - l = 0 from by omega]
            exact .fzn true s
  · -- live
    split at he
    case isFalse => cases he
    rename_i s ag b off len cap hty
    obtain ⟨el, hu, hsz⟩ := sliceTy_spec hty
    cases h1 : bnd hi len cap with
    | none => simp [h1] at he
    | some hN =>
      cases h2 : bnd lo 0 hN with
      | none => simp [h1, h2] at he
      | some l =>
        simp only [h1, h2, Option.bind_some] at he
        split at he
        case isFalse => cases he
        rename_i hlc
        rcases hmx with ⟨_, rfl⟩ | ⟨_, _, hx, _⟩
        case inr => cases hx
        cases hv with
        | sl _ _ _ _ _ _ ad cap' hd hcap hcur =>
          obtain ⟨q1, q2, q3⟩ := bounds2_run (P := P) (isS := true) (cap := cap') hlo hhi h1 h2 hcap
          have hhc : hN ≤ cap := by rcases q3 with q | ⟨_, q⟩ <;> omega
          split at he
          · rename_i hl
            cases he
            refine ⟨_, _, _, rfl, slice_run hu hsz q1, ?_⟩
            have hne : (if cap' = l then some ad else Option.map (fun x => x.add (l * s)) (some ad)) = some (ad.add (l * s)) := by
              split
              · rename_i e
                have : l = 0 := by omega
                subst this; simp [Addr.add]
              · rfl
            rw [hne]
            refine .sl s ag b (off + l * s) (hN - l) (cap - l) _ (cap' - l) hd (by omega) fun cs hcs => ?_
            obtain ⟨p1, p2⟩ := hcur cs hcs
            have e1 : off + l * s + (cap - l) * s = off + cap * s := by rw [Nat.add_assoc, ← Nat.add_mul]; congr 2; omega
            have e2 : g.sh b + (off + l * s) + (cap' - l) * s = g.sh b + off + cap' * s := by rw [show g.sh b + (off + l * s) = g.sh b + off + l * s from by omega, Nat.add_assoc, ← Nat.add_mul]; congr 2; omega
            rw [e1, e2]
            refine ⟨p1, fun e => ?_⟩
            obtain ⟨p3, p4⟩ := p2 e
            exact ⟨by rw [p3, addr_add, Nat.add_assoc], p4⟩
          · rename_i hl
            cases he
            refine ⟨_, _, _, rfl, slice_run hu hsz q1, ?_⟩
            have h0 : hN - l = 0 := by omega
            rw [h0]
            have : ∃ a', (if cap' = l then some ad else Option.map (fun x => x.add (l * s)) (some ad)) = some a' := by split <;> exact ⟨_, rfl⟩
            obtain ⟨a', ha'⟩ := this
            rw [ha']
            exact .fz true s [] [] a' (cap' - l) .nil rfl (by simp) (fun hne => absurd rfl hne) (by simp) rfl
  · -- live, three indices
    split at he
    case isFalse => cases he
    rename_i s ag b off len cap mv hty
    simp only [Bool.and_eq_true] at hty
    obtain ⟨el, hu, hsz⟩ := sliceTy_spec hty.1
    cases h0 : bnd (some mv) 0 cap with
    | none => simp [h0] at he
    | some m =>
      cases h1 : bnd hi 0 m with
      | none => simp [h0, h1] at he
      | some hN =>
        cases h2 : bnd lo 0 hN with
        | none => simp [h0, h1, h2] at he
        | some l =>
          simp only [h0, h1, h2, Option.bind_some] at he
          split at he
          case isFalse => cases he
          rename_i hlm
          cases he
          rcases hmx with ⟨hx, _⟩ | ⟨mv', mu, hx, rfl, hmv⟩
          · cases hx
          cases hx
          cases hv with
          | sl _ _ _ _ _ _ ad cap' hd hcap hcur =>
            obtain ⟨q1, q2, q3, q4⟩ := bounds3_run (P := P) hlo hhi hmv h0 h1 h2 hcap hty.2
            refine ⟨_, _, _, rfl, slice_run hu hsz q1, ?_⟩
            rw [if_pos hlm.1.symm, show hN - l = 0 from by omega, show m - l = 0 from by omega]
            exact .e0 _
  · -- an array
    rename_i b ver off
    cases hu : arrayTy P ty with
    | none => simp [hu] at he
    | some ne =>
      obtain ⟨n, el⟩ := ne
      cases hsz : szT P el with
      | none => simp [hu, hsz] at he
      | some s =>
        cases hag : agT P el with
        | none => simp [hu, hsz, hag] at he
        | some ag =>
          cases h1 : bnd hi n n with
          | none => simp [hu, hsz, hag, h1] at he
          | some hN =>
            cases h2 : bnd lo 0 hN with
            | none => simp [hu, hsz, hag, h1, h2] at he
            | some l =>
              simp only [hu, hsz, hag, h1, h2, Option.bind_some] at he
              split at he
              case isFalse => cases he
              rename_i hc
              cases he
              rcases hmx with ⟨_, rfl⟩ | ⟨_, _, hx, _⟩
              case inr => cases hx
              cases hv with
              | ptr _ _ _ ad hd hcur =>
                obtain ⟨q1, q2, q3⟩ := bounds2_run (P := P) (isS := false) (cap := n) hlo hhi h1 h2 (Nat.le_refl _)
                refine ⟨_, _, _, rfl, array_run hu hsz q1, ?_⟩
                rw [if_neg (by omega)]
                have e1 : off + l * s + (n - l) * s = off + n * s := by rw [Nat.add_assoc, ← Nat.add_mul]; congr 2; omega
                refine .sl s ag b (off + l * s) (hN - l) (n - l) _ (n - l) hd (Nat.le_refl _) fun cs hcs => ?_
                obtain ⟨p1, p2⟩ := hcur cs hcs
                rw [e1]
                refine ⟨by omega, fun e => ⟨by rw [p2 (by omega), addr_add, Nat.add_assoc], ?_⟩⟩
                have := live_room S hcs
                have e2 : g.sh b + (off + l * s) + (n - l) * s = g.sh b + (off + n * s) := by omega
                omega
  · -- plain
    rename_i hv1 hv2
    cases h0 : toV x with
    | none => simp [h0] at he
    | some v0 =>
      cases h1 : optV lo with
      | none => simp [h0, h1] at he
      | some lo' =>
        cases h2 : optV hi with
        | none => simp [h0, h1, h2] at he
        | some hi' =>
          cases h3 : optV mx with
          | none => simp [h0, h1, h2, h3] at he
          | some mx' =>
            simp only [h0, h1, h2, h3, Option.bind_some] at he
            have := hv.of_toV h0
            subst this
            rw [hlo.optV h1, hhi.optV h2, hmx.optV h3]
            unfold pureV at he
            cases h4 : purely P (Instr.sliceAt ty v lo' hi' mx') with
            | none => simp [h4] at he
            | some u =>
              cases h5 : ofV u with
              | none => simp [h4, h5] at he
              | some av =>
                simp [h4, h5] at he
                subst he
                exact ⟨u, av, [], rfl, purely_run h4 w, VR.of_ofV h5⟩

end ops
end Go.Xv

namespace Go.Xv

section ops
variable {P : Program} {gl : Nat → Option (List AV)} {g : G} {h : Nat → Blk} {w : World} {k : Nat} {t : Tmps} {a : Act}

theorem VRO.of_optO (hgl : GlOK gl g h w.heap) (ht : VRL g h w.heap t a.tmps.toList) {x : Option Operand} {v : Option AV} (hx : optO (evO gl t) x = some v) : VRO g h w.heap v (x.map a.eval) := by
  cases x with
  | none => simp [optO] at hx; subst hx; exact .inl ⟨rfl, rfl⟩
  | some x =>
    simp only [optO] at hx
    cases h1 : evO gl t x with
    | none => simp [h1] at hx
    | some u => simp [h1] at hx; subst hx; exact .inr ⟨u, _, rfl, rfl, evO_sound hgl ht h1⟩

theorem good_slice (S : Sim g h w.heap) (hgl : GlOK gl g h w.heap) (ht : VRL g h w.heap t a.tmps.toList) {o : Oper} {ty : TypeId} {x : Operand} {lo hi mx : Option Operand} (ho : o.op = .slice ty x lo hi mx) {v : AV} {l' h' m' : Option AV} {e : Eff}
    (hx : evO gl t x = some v) (hl : optO (evO gl t) lo = some l') (hh : optO (evO gl t) hi = some h') (hm : optO (evO gl t) mx = some m') (he : sliceA P ty v l' h' m' = some e) :
    Good g h w k e ((execOp a.eval o).run P w) := by
  obtain ⟨u, av, rd, rfl, h1, h2⟩ := sliceA_run S (evO_sound hgl ht hx) (VRO.of_optO hgl ht hl) (VRO.of_optO hgl ht hh) (VRO.of_optO hgl ht hm) he
  refine good_value S h2 ?_
  simp only [execOp, ho, Sem.run_bind, h1, Result.andThen_ok, Sem.run_pure]

theorem fz_elem {s : Nat} (es : List AV) (hs : ∀ e ∈ es, e.cells.length = s) (i : Nat) {e : AV} (he : es[i]? = some e) :
    ((es.flatMap AV.cells).drop (i * s)).take s = e.cells := by
  have h1 := flat_drop_take es hs i 1
  have hi : i < es.length := by
    rcases Nat.lt_or_ge i es.length with h | h
    · exact h
    · rw [List.getElem?_eq_none h] at he; cases he
  have h2 : (es.drop i).take 1 = [e] := by
    rw [List.getElem?_eq_getElem hi] at he; cases he
    rw [List.drop_eq_getElem_cons hi, List.take_succ_cons]; simp
  rw [h2] at h1
  simpa using h1.symm

theorem index_slice_run {ty el : TypeId} {s n cap i : Nat} {kk : IntKind} {ad : Addr} (hu : P.underlying ty = some (.slice el)) (hs : szT P el = some s) (hi : (i : Int) < n) :
    (Instr.indexAt ty (.slice (some ad) n cap) (.int kk i)).run P w = .ok (.pointer (some (ad.add (i * s)))) w := by
  simp only [Instr.indexAt, asIntOf, pure_bind]
  rw [run_andThen (run_underlyingX hu)]
  simp only [pure_bind]
  rw [run_andThen (run_underlyingX hu)]
  simp only []
  rw [if_pos ⟨by omega, hi⟩, run_andThen (show purely P (sizeOf el) = some s from hs)]
  simp

theorem index_array_run {ty el : TypeId} {s n i : Nat} {kk : IntKind} {ad : Addr} (hu : arrayTy P ty = some (n, el)) (hs : szT P el = some s) (hi : (i : Int) < n) :
    (Instr.indexAt ty (.pointer (some ad)) (.int kk i)).run P w = .ok (.pointer (some (ad.add (i * s)))) w := by
  unfold arrayTy at hu
  split at hu
  · rename_i h1
    cases hu
    simp only [Instr.indexAt, asIntOf, pure_bind]
    rw [run_andThen (run_underlyingX h1)]
    simp only [Instr.sureAddr, pure_bind]
    rw [run_andThen (run_underlyingX h1)]
    simp only []
    rw [if_pos ⟨by omega, hi⟩, run_andThen (show purely P (sizeOf el) = some s from hs)]
    simp
  · cases hu

theorem indexA_run {ty : TypeId} {x ix : AV} {v u : Value} (hv : VR g h w.heap x v) (hu : VR g h w.heap ix u) {e : Eff} (he : indexA P ty x ix = some e) :
    ∃ r av, e = { val := av } ∧ (Instr.indexAt ty v u).run P w = .ok r w ∧ VR g h w.heap av r := by
  unfold indexA at he
  cases h1 : asN ix with
  | none => simp [h1] at he
  | some p =>
    obtain ⟨kk, i⟩ := p
    have := asN_sound hu h1
    subst this
    simp only [h1, Option.bind_some] at he
    split at he
    case isFalse => cases he
    rename_i hi0
    obtain ⟨j, rfl⟩ := Int.eq_ofNat_of_zero_le hi0
    simp only [Int.toNat_natCast] at he
    split at he
    · rename_i own s es
      split at he
      case isFalse => cases he
      rename_i hty
      obtain ⟨el, hel, hsz⟩ := sliceTy_spec hty
      cases h2 : es[j]? with
      | none => simp [h2] at he
      | some x =>
        simp [h2] at he
        subst he
        cases hv with
        | fz _ _ _ L ad cap' hL hst hs hr hcap hfr =>
          have hj : j < es.length := by
            rcases Nat.lt_or_ge j es.length with h | h
            · exact h
            · rw [List.getElem?_eq_none h] at h2; cases h2
          have hes : es ≠ [] := fun e => by subst e; simp at hj
          obtain ⟨B, o, rfl, hF, hrow⟩ := hr hes
          refine ⟨_, _, rfl, index_slice_run hel hsz (by omega), ?_⟩
          have hx := fz_elem es hs j h2
          have hL' := (hL.drop (j * s)).take s
          rw [hx] at hL'
          have hst' : x.cells.all AV.stor = true := by
            rw [← hx]; exact stor_sub hst fun y hy => List.mem_of_mem_drop (List.mem_of_mem_take hy)
          rw [addr_add]
          exact .cp own x.cells 0 _ B (o + j * s) hL' hst' hF (hrow.sub _ _) (okVL_sub hfr fun y hy => List.mem_flatMap.2 ⟨x, List.mem_of_getElem? h2, hy⟩)
        | fzn => simp at h2
    · rename_i s ag b off len cap
      split at he
      case isFalse => cases he
      rename_i hty
      cases he
      obtain ⟨el, hel, hsz⟩ := sliceTy_spec hty.1
      cases hv with
      | sl _ _ _ _ _ _ ad cap' hd hcap hcur =>
        refine ⟨_, _, rfl, index_slice_run hel hsz hty.2, .ptr _ _ _ _ hd fun cs hcs => ?_⟩
        obtain ⟨p1, p2⟩ := hcur cs hcs
        refine ⟨p1, fun e => ?_⟩
        rw [(p2 e).1, addr_add, Nat.add_assoc]
    · rename_i b ver off
      cases h2 : arrayTy P ty with
      | none => simp [h2] at he
      | some q =>
        obtain ⟨n, el⟩ := q
        cases hsz : szT P el with
        | none => simp [h2, hsz] at he
        | some s =>
          simp only [h2, hsz, Option.bind_some] at he
          split at he
          case isFalse => cases he
          rename_i hlt
          cases he
          cases hv with
          | ptr _ _ _ ad hd hcur =>
            refine ⟨_, _, rfl, index_array_run h2 hsz hlt, .ptr _ _ _ _ hd fun cs hcs => ?_⟩
            obtain ⟨p1, p2⟩ := hcur cs hcs
            exact ⟨p1, fun e => by rw [p2 e, addr_add, Nat.add_assoc]⟩
    · rename_i own cs off
      cases h2 : arrayTy P ty with
      | none => simp [h2] at he
      | some q =>
        obtain ⟨n, el⟩ := q
        cases hsz : szT P el with
        | none => simp [h2, hsz] at he
        | some s =>
          simp only [h2, hsz, Option.bind_some] at he
          split at he
          case isFalse => cases he
          rename_i hlt
          cases he
          cases hv with
          | cp _ _ _ L B o hL hst hF hr hfr =>
            refine ⟨_, _, rfl, index_array_run h2 hsz hlt, ?_⟩
            rw [addr_add, Nat.add_assoc]
            exact .cp own cs (off + j * s) L B o hL hst hF hr hfr
    · cases he

theorem good_indexAddr (S : Sim g h w.heap) (hgl : GlOK gl g h w.heap) (ht : VRL g h w.heap t a.tmps.toList) {o : Oper} {ty : TypeId} {x ix : Operand} (ho : o.op = .indexAddr ty x ix) {v u : AV} {e : Eff}
    (hx : evO gl t x = some v) (hix : evO gl t ix = some u) (he : indexA P ty v u = some e) : Good g h w k e ((execOp a.eval o).run P w) := by
  obtain ⟨r, av, rfl, h1, h2⟩ := indexA_run (evO_sound hgl ht hx) (evO_sound hgl ht hix) he
  refine good_value S h2 ?_
  simp only [execOp, ho, Sem.run_bind, h1, Result.andThen_ok, Sem.run_pure]

theorem elemTy_spec {ty e : TypeId} {s : Nat} {ag : Bool} (hs : elemTy P ty = some (e, s, ag)) : P.underlying ty = some (.slice e) ∧ szT P e = some s ∧ agT P e = some ag := by
  unfold elemTy at hs
  split at hs
  · rename_i e' he
    cases h1 : szT P e' with
    | none => simp [h1] at hs
    | some s' =>
      cases h2 : agT P e' with
      | none => simp [h1, h2] at hs
      | some ag' =>
        simp [h1, h2] at hs
        obtain ⟨rfl, rfl, rfl⟩ := hs
        exact ⟨he, h1, h2⟩
  · cases hs

theorem fitsB_spec {e : TypeId} {i : TypeInfo} {m : Nat} (hi : P.info? e = some i) (h : fitsB P e m = true) : (2 * m + 1000) * i.bytes ≤ 140737488355328 := by
  unfold fitsB at h
  rw [hi] at h
  exact Nat.le_of_ble_eq_true h

theorem bytesOk_spec {e : TypeId} (hb : bytesOk P e = true) : ∃ i, P.info? e = some i ∧ 0 < i.bytes ∧ i.bytes ≤ 1048576 := by
  unfold bytesOk at hb
  split at hb
  · rename_i i hi; simp at hb; exact ⟨i, hi, hb.1, hb.2⟩
  · cases hb

theorem flatten_replicate_length {l : List AV} (n : Nat) : (List.replicate n l).flatten.length = n * l.length := by simp

theorem zeroCells_eq (z : Array Value) (n : Nat) : (Builtin.zeroCells z n).toList = (List.replicate n z.toList).flatten := by
  unfold Builtin.zeroCells
  apply List.ext_getElem?
  intro i
  simp only [Array.toList_map, Array.toList_range, List.getElem?_map]
  by_cases hi : i < n * z.size
  · have hz : 0 < z.size := by
      rcases Nat.eq_zero_or_pos z.size with e | e
      · rw [e] at hi; simp at hi
      · exact e
    have hm : i % z.size < z.size := Nat.mod_lt _ hz
    rw [List.getElem?_range hi]
    simp only [Option.map_some]
    rw [getElem!_pos z (i % z.size) hm]
    have : (List.replicate n z.toList).flatten[i]? = z.toList[i % z.size]? := by
      clear hm
      induction n generalizing i with
      | zero => simp at hi
      | succ n ih =>
        simp only [List.replicate_succ, List.flatten_cons]
        by_cases h2 : i < z.size
        · rw [List.getElem?_append_left (by simpa using h2), Nat.mod_eq_of_lt h2]
        · rw [List.getElem?_append_right (by simp; omega)]
          simp only [Array.length_toList]
          rw [ih (i - z.size) (by rw [Nat.succ_mul] at hi; omega), Nat.mod_eq_sub_mod (by omega : i ≥ z.size)]
    rw [this]
    simp [hm]
  · rw [List.getElem?_eq_none (by simpa using hi), List.getElem?_eq_none (by simp; omega)]
    rfl

theorem VRL.flat_replicate {l : List AV} {L : List Value} {hp : Array Obj} (hl : VRL g h hp l L) (n : Nat) : VRL g h hp (List.replicate n l).flatten (List.replicate n L).flatten := by
  induction n with
  | zero => exact .nil
  | succ n ih => simp only [List.replicate_succ, List.flatten_cons]; exact hl.append ih

theorem stor_flat {l : List AV} (hl : l.all AV.stor = true) (n : Nat) : (List.replicate n l).flatten.all AV.stor = true := by
  rw [List.all_eq_true] at hl ⊢
  intro x hx
  simp at hx
  obtain ⟨l', ⟨_, rfl⟩, hx⟩ := hx
  exact hl x hx

end ops
end Go.Xv

namespace Go.Xv

section ops
variable {P : Program} {gl : Nat → Option (List AV)} {g : G} {h : Nat → Blk} {w : World} {k : Nat} {t : Tmps} {a : Act}

/-- What comes to be appended. -/
theorem src_run (S : Sim g h w.heap) {x : AV} {v : Value} (hv : VR g h w.heap x v) {n sz : Nat} {cs : List AV} {rd : List Nat} (hx : srcA h x = some (n, cs, rd)) (hlen : cs.length = n * sz) :
    (Builtin.lenOf v).run P w = .ok n w ∧ ∃ L, VRL g h w.heap cs L ∧ cs.all AV.stor = true ∧ ∀ w', w'.heap = w.heap → (Builtin.firstCells sz n v).run P w' = .ok L.toArray w' := by
  unfold srcA at hx
  split at hx
  · rename_i b
    cases hx
    have := hv.of_toV (w := .string b) rfl
    subst this
    refine ⟨rfl, _, bytes_VRL _, bytes_stor _, fun w' _ => ?_⟩
    simp only [Builtin.firstCells]
    have : (b.extract 0 b.size).data = b.data := by
      rw [ByteArray.data_extract]; exact Array.extract_size
    rw [this]
    simp only [Sem.run_pure, Result.ok.injEq, and_true]
    rw [← Array.toList_map]
  · cases h1 : slLen x with
    | none => simp [h1] at hx
    | some n' =>
      cases h2 : slCells h x with
      | none => simp [h1, h2] at hx
      | some p =>
        obtain ⟨cs', rd'⟩ := p
        simp [h1, h2] at hx
        obtain ⟨rfl, rfl, rfl⟩ := hx
        obtain ⟨ad, cap, rfl, hst, L, hL, hr⟩ := slice_reads S hv h1 h2
        refine ⟨rfl, L, hL, hst, fun w' hw => ?_⟩
        have hl := hL.length
        by_cases hz : cs'.length = 0
        · have hL0 : L = [] := List.length_eq_zero_iff.1 (by omega)
          subst hL0
          have : n' * sz = 0 := by omega
          cases ad with
          | none => simp [Builtin.firstCells]
          | some ad => simp [Builtin.firstCells, this, loadCells, loadCellsFrom]
        · obtain ⟨B, o, rfl, hcell⟩ := hr hz
          simp only [Builtin.firstCells]
          exact loadCells_run L (by omega) fun j hj => by
            have := hcell j hj
            simpa [World.cell?, hw] using this

theorem zeros_run {e : TypeId} {x : AV} {v : Value} (hv : VR g h w.heap x v) {n : Nat} {cs : List AV} {rd : List Nat} (hx : zerosA P e x = some (n, cs, rd)) :
    (∃ kk, v = .int kk n) ∧ 0 < n ∧ n ≤ 100000 ∧ ∃ z zv, zeroA P e = some z ∧ purely P (zeroValue e) = some zv ∧ VR g h w.heap z zv ∧ cs = (List.replicate n z.cells).flatten ∧ cs.all AV.stor = true ∧
      VRL g h w.heap cs (Builtin.zeroCells zv.cells n).toList := by
  unfold zerosA at hx
  cases h1 : asN x with
  | none => simp [h1] at hx
  | some p =>
    obtain ⟨kk, i⟩ := p
    cases h2 : zeroA P e with
    | none => simp [h1, h2] at hx
    | some z =>
      simp only [h1, h2, Option.bind_some] at hx
      split at hx
      case isFalse => cases hx
      rename_i hi
      cases hx
      have := asN_sound hv h1
      subst this
      obtain ⟨zv, hp, hz, hst⟩ := zeroA_sound (g := g) (h := h) (w := w) h2
      refine ⟨⟨kk, by congr 1; omega⟩, by omega, by omega, z, zv, rfl, hp, hz, rfl, stor_flat hst _, ?_⟩
      rw [zeroCells_eq]
      exact (hz.cells (ne_top hst)).flat_replicate _

theorem growBy_le (m : Nat) : ∀ r c, c ≤ m + (m + 768) / 4 → Builtin.growBy m r c ≤ m + (m + 768) / 4
  | 0, c, h => h
  | r + 1, c, h => by
    simp only [Builtin.growBy]
    split
    · exact h
    · exact growBy_le m r _ (by omega)
theorem nextslicecap_le (n c : Nat) : Builtin.nextslicecap n c ≤ 2 * n + 1000 ∨ n ≤ c := by
  rcases Nat.lt_or_ge c n with h | h
  case inr => exact .inr h
  left
  unfold Builtin.nextslicecap
  split
  · omega
  · split
    · omega
    · have := growBy_le n 4 c (by omega)
      omega

/-- The slice that is appended to, and its elements. -/
theorem old_run {ad : Option Addr} {L : List Value} {n sz cap : Nat} (hL : L.length = n * sz) (hr : L.length ≠ 0 → ∃ B o, ad = some ⟨B, o, none⟩ ∧ ∀ i, i < L.length → w.cell? ⟨B, o + i, none⟩ = L[i]?) :
    ∀ w', w'.heap = w.heap → (Builtin.firstCells sz n (.slice ad n cap)).run P w' = .ok L.toArray w' := by
  intro w' hw
  by_cases hz : L.length = 0
  · have hL0 : L = [] := List.length_eq_zero_iff.1 hz
    subst hL0
    have : n * sz = 0 := by simpa using hL.symm
    cases ad with
    | none => simp [Builtin.firstCells]
    | some ad => simp [Builtin.firstCells, this, loadCells, loadCellsFrom]
  · obtain ⟨B, o, rfl, hcell⟩ := hr hz
    simp only [Builtin.firstCells]
    exact loadCells_run L (by omega) fun j hj => by simpa [World.cell?, hw] using hcell j hj

theorem isInt_spec {t : TypeId} (hi : isInt P t = true) : ∃ k, P.underlying t = some (.int k) := by
  unfold isInt at hi
  split at hi
  · rename_i k hk; exact ⟨k, hk⟩
  · cases hi

theorem isSrc_spec {t : TypeId} (hi : isSrc P t = true) : (∃ e, P.underlying t = some (.slice e)) ∨ P.underlying t = some .string := by
  unfold isSrc at hi
  split at hi
  · rename_i e he; exact .inl ⟨e, he⟩
  · rename_i he; exact .inr he
  · cases hi

theorem info_of_sz {t : TypeId} {i : TypeInfo} {s : Nat} (hi : P.info? t = some i) (hs : szT P t = some s) : i.size = s := by
  have h1 : purely P (sizeOf t) = some s := hs
  simpa [sizeOf, typeInfo, program, bind, Sem.bind, purely, hi, pure] using h1

theorem zero_of {t : TypeId} {i : TypeInfo} {v : Value} (hi : P.info? t = some i) (hz : purely P (zeroValue t) = some v) : i.zero = some v := by
  cases h1 : i.zero with
  | none => simp [zeroValue, typeInfo, program, bind, Sem.bind, purely, hi, h1, pure, unsupported] at hz
  | some u =>
    simp [zeroValue, typeInfo, program, bind, Sem.bind, purely, hi, h1, pure] at hz
    rw [hz]

theorem wrap_nat {n : Nat} (h : n < 9223372036854775808) : IntKind.i64.wrap (n : Int) = n := IntWalk.i64_in _ (by omega)

/-- 'append', its operands told, and there is room. -/
theorem append_room {sT xT e : TypeId} {sz n sLen sCap : Nat} {base : Option Addr} {x zv : Value} {i : TypeInfo} (hs : P.underlying sT = some (.slice e)) (hi : P.info? e = some i) (hsz : i.size = sz) (hb : i.bytes ≤ 1048576)
    (hz : i.zero = some zv) {ty : TypeId} {argTypes : Array TypeId} (ha0 : argTypes[0]? = some sT) (ha1 : argTypes[1]? = some xT) {N : List Value} (hroom : sLen + n ≤ sCap)
    (hx : (((∃ e, P.underlying xT = some (.slice e)) ∨ P.underlying xT = some .string) ∧ (Builtin.lenOf x).run P w = .ok n w ∧ (Builtin.firstCells sz n x).run P w = .ok N.toArray w) ∨
      ((∃ k, P.underlying xT = some (.int k)) ∧ 0 < n ∧ n ≤ 100000 ∧ (∃ kk, x = .int kk n) ∧ N = (Builtin.zeroCells zv.cells n).toList ∧ sz ≠ 0)) :
    (Builtin.append_ argTypes ty #[.slice base sLen sCap, x]).run P w =
      (match base with
       | some ad => ((storeCells (ad.add (sLen * sz)) N).run P w).andThen fun _ w' => .ok (.slice base (sLen + n) sCap) w'
       | none => .ok (.slice base (sLen + n) sCap) w) := by
  subst hsz
  rcases hx with ⟨h1, h2, h3⟩ | ⟨⟨kd, h1⟩, hpos, h2, ⟨kk, rfl⟩, rfl, h5⟩
  · rcases h1 with ⟨e', h1⟩ | h1 <;> cases base <;>
      simp [Builtin.append_, ha0, ha1, run_underlying hs, run_underlying h1, sizeOf, typeInfo, hi, h2, hroom, h3]
  · have hw : IntKind.i64.wrap (n : Int) = n := by unfold IntKind.wrap IntKind.bits IntKind.signed; simp; omega
    have h0 : ¬ ((n : Int) < 0) := by omega
    have hbig' : ¬ (281474976710656 < (n : Int) * i.bytes) := by
      have h6 : n * i.bytes ≤ 100000 * 1048576 := Nat.mul_le_mul h2 hb
      have h7 : (n : Int) * i.bytes = ((n * i.bytes : Nat) : Int) := by simp
      rw [h7]; omega
    have hns : ¬ (n * i.size = 0) := fun h => by
      rcases Nat.mul_eq_zero.1 h with h | h
      · omega
      · exact h5 h
    cases base <;> simp [Builtin.append_, ha0, ha1, run_underlying hs, run_underlying h1, sizeOf, typeInfo, zeroValue, hi, hz, asInt, asIntOf, hw, h0, hbig', hroom, hns]

/-- 'append', and there is no room: a new row. -/
theorem append_grow {sT xT e : TypeId} {sz n sLen sCap : Nat} {base : Option Addr} {x zv : Value} {i : TypeInfo} (hs : P.underlying sT = some (.slice e)) (hi : P.info? e = some i) (hsz : i.size = sz) (hb0 : 0 < i.bytes) (hb : i.bytes ≤ 1048576)
    (hz : i.zero = some zv) {ty : TypeId} {argTypes : Array TypeId} (ha0 : argTypes[0]? = some sT) (ha1 : argTypes[1]? = some xT) {N : List Value} (hroom : sCap < sLen + n) (hfb : (2 * (sLen + n) + 1000) * i.bytes ≤ 140737488355328)
    (hx : (((∃ e, P.underlying xT = some (.slice e)) ∨ P.underlying xT = some .string) ∧ (Builtin.lenOf x).run P w = .ok n w ∧ (∀ w', w'.heap = w.heap → (Builtin.firstCells sz n x).run P w' = .ok N.toArray w')) ∨
      ((∃ k, P.underlying xT = some (.int k)) ∧ 0 < n ∧ n ≤ 100000 ∧ (∃ kk, x = .int kk n) ∧ N = (Builtin.zeroCells zv.cells n).toList ∧ sz ≠ 0)) {O : List Value}
    (ho : ∀ w', w'.heap = w.heap → (Builtin.firstCells sz sLen (.slice base sLen sCap)).run P w' = .ok O.toArray w') :
    ∃ cap, sLen + n ≤ cap ∧ (Builtin.append_ argTypes ty #[.slice base sLen sCap, x]).run P w = .ok (.slice (some ⟨w.heap.size, 0, none⟩) (sLen + n) cap)
      (w.drew.alloc (.cells (O.toArray ++ N.toArray ++ Builtin.zeroCells zv.cells (cap - (sLen + n))) e)) := by
  subst hsz
  have hno : ¬ (sLen + n ≤ sCap) := by omega
  have hsum : 2 * (sLen + n) + 1000 ≤ 140737488355328 := Nat.le_trans (Nat.le_mul_of_pos_right _ hb0) hfb
  have h63' : ¬ (9223372036854775807 < ((sLen : Int) + (n : Int))) := by omega
  have hcap : Builtin.nextslicecap (sLen + n) sCap * i.bytes ≤ 140737488355328 := by
    rcases nextslicecap_le (sLen + n) sCap with h | h
    · exact Nat.le_trans (Nat.mul_le_mul_right _ h) hfb
    · omega
  have h48' : ¬ (281474976710656 < Builtin.nextslicecap (sLen + n) sCap * i.bytes) := by omega
  let cap := (Question.appendCap (sLen + n) sCap e).cut (w.tape w.drawn (.appendCap (sLen + n) sCap e))
  have hge : sLen + n ≤ cap := Nat.le_add_right _ _
  refine ⟨cap, hge, ?_⟩
  have hO := ho w.drew rfl
  rcases hx with ⟨h1, h2, h3⟩ | ⟨⟨kd, h1⟩, hpos, h2, ⟨kk, rfl⟩, rfl, h5⟩
  · have hN := h3 w.drew rfl
    rcases h1 with ⟨e', h1⟩ | h1 <;>
      simp [Builtin.append_, ha0, ha1, run_underlying hs, run_underlying h1, sizeOf, typeInfo, zeroValue, hi, hz, h2, hno, h63', h48', Question.forced, hO, hN, newRow, cap] <;>
      (congr 2; apply Array.ext'; simp)
  · have hw : IntKind.i64.wrap (n : Int) = n := wrap_nat (by omega)
    have h0 : ¬ ((n : Int) < 0) := by omega
    have hbig' : ¬ (281474976710656 < (n : Int) * i.bytes) := by
      have h6 : n * i.bytes ≤ 100000 * 1048576 := Nat.mul_le_mul h2 hb
      have h7 : (n : Int) * i.bytes = ((n * i.bytes : Nat) : Int) := by simp
      rw [h7]; omega
    have hb0' : ¬ (i.bytes = 0) := by omega
    have hns : ¬ (n * i.size = 0) := fun h => by
      rcases Nat.mul_eq_zero.1 h with h | h
      · omega
      · exact h5 h
    simp [Builtin.append_, ha0, ha1, run_underlying hs, run_underlying h1, sizeOf, typeInfo, zeroValue, hi, hz, asInt, asIntOf, hw, h0, hbig', hns, hno, h63', h48', Question.forced, hO, newRow, cap]
    try (congr 2; apply Array.ext'; simp)

end ops
end Go.Xv

namespace Go.Xv

section ops
variable {P : Program} {gl : Nat → Option (List AV)} {g : G} {h : Nat → Blk} {w : World} {k : Nat} {t : Tmps} {a : Act}

theorem run_builtin {o : Oper} {c : Call} {b : Builtin} (ho : o.op = .call c) (hc : c.callee = .builtin b) :
    ∃ cs, (execOp a.eval o).run P w = (builtin b c.argTypes o.type cs (c.args.map a.eval)).run P w := by
  simp only [execOp, ho, resolve, hc, pure_bind, invoke]
  exact ⟨_, rfl⟩

theorem VRL.get2 {l : List AV} {L : List Value} (hl : VRL g h w.heap l L) {x y : AV} (hx : l[0]? = some x) (hy : l[1]? = some y) : ∃ u v R, L = u :: v :: R ∧ VR g h w.heap x u ∧ VR g h w.heap y v := by
  cases hl with
  | nil => simp at hx
  | cons a v l L ha hl =>
    cases hl with
    | nil => simp at hy
    | cons b u l L hb hl =>
      simp at hx hy
      subst hx; subst hy
      exact ⟨v, u, L, rfl, ha, hb⟩

/-- The two operands of append as the run lemmas want them. -/
structure Src (P : Program) (w : World) (sz : Nat) (zv : Value) (xT : TypeId) (x : Value) (n : Nat) (N : List Value) : Prop where
  grow : (((∃ e, P.underlying xT = some (.slice e)) ∨ P.underlying xT = some .string) ∧ (Builtin.lenOf x).run P w = .ok n w ∧ (∀ w', w'.heap = w.heap → (Builtin.firstCells sz n x).run P w' = .ok N.toArray w')) ∨
      ((∃ k, P.underlying xT = some (.int k)) ∧ 0 < n ∧ n ≤ 100000 ∧ (∃ kk, x = .int kk n) ∧ N = (Builtin.zeroCells zv.cells n).toList ∧ sz ≠ 0)

theorem Src.room {sz : Nat} {zv : Value} {xT : TypeId} {x : Value} {n : Nat} {N : List Value} (s : Src P w sz zv xT x n N) :
    (((∃ e, P.underlying xT = some (.slice e)) ∨ P.underlying xT = some .string) ∧ (Builtin.lenOf x).run P w = .ok n w ∧ (Builtin.firstCells sz n x).run P w = .ok N.toArray w) ∨
      ((∃ k, P.underlying xT = some (.int k)) ∧ 0 < n ∧ n ≤ 100000 ∧ (∃ kk, x = .int kk n) ∧ N = (Builtin.zeroCells zv.cells n).toList ∧ sz ≠ 0) := by
  rcases s.grow with ⟨h1, h2, h3⟩ | h
  · exact .inl ⟨h1, h2, h3 w rfl⟩
  · exact .inr h

/-- A grown slice of a live block. -/
theorem good_append_live (S : Sim g h w.heap) {sT xT e : TypeId} {sz n len cap cap' : Nat} {ag : Bool} {b : Nat} {x zv : Value} {i : TypeInfo} (hs : P.underlying sT = some (.slice e)) (hi : P.info? e = some i) (hsz : i.size = sz) (hsz0 : sz ≠ 0)
    (hb0 : 0 < i.bytes) (hb : i.bytes ≤ 1048576) (hz : i.zero = some zv) (hzs : zv.cells.size = sz) {ty : TypeId} {argTypes : Array TypeId} (ha0 : argTypes[0]? = some sT) (ha1 : argTypes[1]? = some xT) {new : List AV} {N : List Value}
    (hN : VRL g h w.heap new N) (hst : new.all AV.stor = true) (hnl : new.length = n * sz) (hfb : (2 * (len + n) + 1000) * i.bytes ≤ 140737488355328) (src : Src P w sz zv xT x n N) {cs : List AV} (hcs : h b = .cells cs) (hcl : cs.length = cap * sz) (hlc : len ≤ cap)
    (hgrow : cap < len + n) (hroom : g.sh b + 0 + cap' * sz ≤ g.sz b) {rd : List Nat} {r : Result Next} (hr : ∀ v w', (Builtin.append_ argTypes ty #[.slice (some ⟨g.m b, g.sh b, none⟩) len cap', x]).run P w = .ok v w' → r = .ok (.value v) w') :
    Good g h w k { val := .sl sz ag b 0 (len + n) (len + n), wr := [(b, .cells (cs.take (len * sz) ++ new))], rd := rd } r := by
  obtain ⟨hd, hcst, hnF, c, tyc, fr, L, k1, k2, k3, k4, k5, k6⟩ := (show BlkOK g h w.heap b (.cells cs) from hcs ▸ S.blk b)
  have hLl := k3.length
  have hNl := hN.length
  have hle1 : len * sz ≤ cap * sz := Nat.mul_le_mul_right _ hlc
  have hnew : cs.length < (cs.take (len * sz) ++ new).length := by
    simp only [List.length_append, List.length_take]
    have : cap * sz < (len + n) * sz := Nat.mul_lt_mul_of_pos_right hgrow (by omega)
    rw [Nat.add_mul] at this
    omega
  have hst' : (cs.take (len * sz) ++ new).all AV.stor = true := by
    rw [List.all_append, hst, Bool.and_true]
    exact stor_sub hcst fun x hx => List.mem_of_mem_take hx
  have htl : (cs.take (len * sz) ++ new).length = (len + n) * sz := by
    simp only [List.length_append, List.length_take]
    rw [Nat.add_mul]; omega
  by_cases hfit : len + n ≤ cap'
  · -- in its place
    have hmul : (len + n) * sz ≤ cap' * sz := Nat.mul_le_mul_right _ hfit
    rw [Nat.add_mul] at hmul
    obtain ⟨w', q1, q2⟩ := storeCells_run (P := P) (o := g.sh b + len * sz) N 0 w c k1 (by omega) k5 (plain_all hN hst)
    have hrun := append_room (w := w) hs hi hsz hb hz (ty := ty) (base := some ⟨g.m b, g.sh b, none⟩) ha0 ha1 hfit src.room
    simp only [addr_add] at hrun
    rw [q1] at hrun
    obtain ⟨c', p1, p2, p3⟩ := q2.here
    refine good_write S b _ (by rw [hcs]; rfl) q2.size (fun i hi => q2.oth i hi) (.inl ⟨cs, _, hcs, rfl, by omega⟩) (fun E => ?_) q2.os q2.tape q2.output rfl (fun E => ?_) (hr _ _ hrun)
    · refine ⟨hd, hst', hnF, c', tyc, fr, L.take (len * sz) ++ N, p1, by rw [p2, k2], ((k3.take _).append hN).mono E, fun j hj => ?_, by rw [p2]; exact k5, by rw [p2, htl, Nat.add_mul]; omega⟩
      simp only [List.length_append, List.length_take] at hj
      rw [p3]
      by_cases hj2 : j < len * sz
      · rw [if_neg (by omega), List.getElem?_append_left (by simp; omega), List.getElem?_take, if_pos hj2]
        exact k4 j (by omega)
      · rw [if_pos (by omega), List.getElem?_append_right (by simp; omega)]
        congr 1; simp; omega
    · refine .sl sz ag b 0 (len + n) (len + n) _ cap' hd hfit fun cs' hcs' => ?_
      rw [upd_same] at hcs'; cases hcs'
      rw [htl]
      exact ⟨by omega, fun _ => ⟨rfl, hroom⟩⟩
  · -- made anew
    have hold : ∀ w', w'.heap = w.heap → (Builtin.firstCells sz len (.slice (some ⟨g.m b, g.sh b, none⟩) len cap')).run P w' = .ok (L.take (len * sz)).toArray w' := by
      refine old_run (by simp; omega) fun _ => ⟨_, _, rfl, fun j hj => ?_⟩
      simp at hj
      rw [cell_of k1, k4 j (by omega), List.getElem?_take, if_pos (by omega)]
    obtain ⟨capN, q1, q2⟩ := append_grow (w := w) hs hi hsz hb0 hb hz (ty := ty) (base := some ⟨g.m b, g.sh b, none⟩) ha0 ha1 (by omega) hfb src.grow hold
    have hcell : ∀ j, j < (L.take (len * sz) ++ N).length → ((L.take (len * sz)).toArray ++ N.toArray ++ Builtin.zeroCells zv.cells (capN - (len + n)))[j]? = (L.take (len * sz) ++ N)[j]? := by
      intro j hj
      have : ((L.take (len * sz)).toArray ++ N.toArray ++ Builtin.zeroCells zv.cells (capN - (len + n))) = (L.take (len * sz) ++ N ++ (Builtin.zeroCells zv.cells (capN - (len + n))).toList).toArray := by
        apply Array.ext'; simp
      rw [this]
      simp only [List.getElem?_toArray]
      rw [List.getElem?_append_left hj]
    obtain ⟨g', m1, m2, m3, m4, m5, m8, m6, m7⟩ := S.move b cs (cs.take (len * sz) ++ new) ((L.take (len * sz)).toArray ++ N.toArray ++ Builtin.zeroCells zv.cells (capN - (len + n))) e hcs hnew hst' (L.take (len * sz) ++ N) ((k3.take _).append hN) hcell
    have hH : newH h k { val := .sl sz ag b 0 (len + n) (len + n), wr := [(b, .cells (cs.take (len * sz) ++ new))], rd := rd } = upd h b (.cells (cs.take (len * sz) ++ new)) := rfl
    refine ⟨_, _, w.drew.alloc (.cells ((L.take (len * sz)).toArray ++ N.toArray ++ Builtin.zeroCells zv.cells (capN - (len + n))) e), g', hr _ _ q2, rfl, ?_, ?_⟩
    · refine ⟨m6, m7, by simp, fun c' hc' _ => ?_, fun b' hb' => ?_, fun o B hB => ?_, fun b' hb' => ?_, rfl, rfl, rfl⟩
      · show (w.heap.push _)[c']? = _
        rw [Array.getElem?_push, if_neg (by omega)]
      · rw [hH] at hb'
        by_cases hbb : b' = b
        · subst hbb; right; rw [m1]; exact Nat.le_refl _
        · left
          rw [upd_ne _ _ hbb] at hb'
          exact ⟨hb', m8 b' hbb⟩
      · rw [m5] at hB; exact .inl hB
      · rw [m4] at hb'; exact .inl hb'
    · rw [hH]
      refine .sl sz ag b 0 (len + n) (len + n) _ capN (by rw [m4]; exact hd) q1 fun cs' hcs' => ?_
      rw [upd_same] at hcs'; cases hcs'
      rw [htl]
      refine ⟨by omega, fun _ => ⟨by rw [m1, m2], ?_⟩⟩
      rw [m2, m3]
      have hzl : (Builtin.zeroCells zv.cells (capN - (len + n))).size = (capN - (len + n)) * sz := by simp [Builtin.zeroCells, hzs]
      simp only [Array.size_append, List.size_toArray, List.length_take, hzl]
      have e1 : capN * sz = (len + n) * sz + (capN - (len + n)) * sz := by rw [← Nat.add_mul]; congr 1; omega
      rw [e1, Nat.add_mul]
      omega

theorem builtin_append_run {argTypes : Array TypeId} {ty : TypeId} {cs : Array Bool} {args : Array Value} {u : Value} {w' : World} (hr : (Builtin.append_ argTypes ty args).run P w = .ok u w') :
    (builtin .append argTypes ty cs args).run P w = .ok (.value u) w' := by
  simp only [builtin, Sem.run_bind, hr, Result.andThen_ok, Sem.run_pure]

theorem args2 {L : List Value} {u v : Value} {R : List Value} {argTypes : Array TypeId} {ty : TypeId} (hL : L = u :: v :: R) : Builtin.append_ argTypes ty L.toArray = Builtin.append_ argTypes ty #[u, v] := by
  subst hL
  unfold Builtin.append_
  rfl

theorem appendA_good (S : Sim g h w.heap) {argTypes : Array TypeId} {ty : TypeId} {cb : Array Bool} {args : List AV} {L : List Value} (hL : VRL g h w.heap args L) {e : Eff} (he : appendA P h k argTypes args = some e) (hk : e.al ≠ [] → ¬ g.dom k) :
    Good g h w k e ((builtin .append argTypes ty cb L.toArray).run P w) := by
  unfold appendA at he
  cases h0 : argTypes[0]? with
  | none => simp [h0] at he
  | some sT =>
  cases h1 : argTypes[1]? with
  | none => simp [h0, h1] at he
  | some xT =>
  cases h2 : args[0]? with
  | none => simp [h0, h1, h2] at he
  | some s =>
  cases h3 : args[1]? with
  | none => simp [h0, h1, h2, h3] at he
  | some x =>
  cases h4 : elemTy P sT with
  | none => simp [h0, h1, h2, h3, h4] at he
  | some q =>
  obtain ⟨el, sz, ag⟩ := q
  cases h5 : (if isInt P xT then zerosA P el x else if isSrc P xT then srcA h x else none) with
  | none => simp [h0, h1, h2, h3, h4, h5] at he
  | some q =>
  obtain ⟨n, new, rd⟩ := q
  cases h6 : zeroA P el with
  | none => simp [h0, h1, h2, h3, h4, h5, h6] at he
  | some z =>
  simp only [h0, h1, h2, h3, h4, h5, h6, Option.bind_some] at he
  split at he
  case isFalse => cases he
  rename_i hc
  obtain ⟨c1, c2, c3, c4, c5⟩ := hc
  obtain ⟨u, v, R, rfl, hs, hx⟩ := hL.get2 h2 h3
  obtain ⟨hu, hsz, hag⟩ := elemTy_spec h4
  obtain ⟨i, hi, hb0, hb⟩ := bytesOk_spec c4
  have hisz := info_of_sz hi hsz
  obtain ⟨zv, hzp, hzv, hzst⟩ := zeroA_sound (g := g) (h := h) (w := w) h6
  have hiz := zero_of hi hzp
  have hzs : zv.cells.size = sz := by
    have := (hzv.cells (ne_top hzst)).length
    rw [c5] at this
    simpa using this.symm
  -- the source
  have src : ∃ N, VRL g h w.heap new N ∧ new.all AV.stor = true ∧ Src P w sz zv xT v n N := by
    by_cases hint : isInt P xT = true
    · simp only [hint, if_true] at h5
      obtain ⟨⟨kk, hv⟩, p1, p2, z', zv', q1, q2, q3, q4, q5, q6⟩ := zeros_run hx h5
      rw [h6] at q1; cases q1
      rw [hzp] at q2; cases q2
      exact ⟨_, q6, q5, ⟨.inr ⟨isInt_spec hint, p1, p2, ⟨kk, hv⟩, rfl, c3⟩⟩⟩
    · simp only [hint, if_false, Bool.false_eq_true] at h5
      split at h5
      case isFalse => cases h5
      rename_i hsrc
      obtain ⟨p1, N, p2, p3, p4⟩ := src_run (P := P) S hx h5 c1
      exact ⟨N, p2, p3, ⟨.inl ⟨isSrc_spec hsrc, p1, p4⟩⟩⟩
  obtain ⟨N, hN, hst, src⟩ := src
  have hNl := hN.length
  have hargs : ∀ {u' : Value} {w' : World}, (Builtin.append_ argTypes ty #[u, v]).run P w = .ok u' w' → (builtin .append argTypes ty cb (u :: v :: R).toArray).run P w = .ok (.value u') w' := by
    intro u' w' hr
    refine builtin_append_run ?_
    rw [args2 rfl]; exact hr
  -- nothing appended: the slice stands
  have hnone : n = 0 → ∀ b len cap, u = .slice b len cap → len ≤ cap → (builtin .append argTypes ty cb (u :: v :: R).toArray).run P w = .ok (.value u) w := by
    intro hn b len cap hu' hle
    subst hu'
    refine hargs ?_
    have hN0 : N = [] := List.length_eq_zero_iff.1 (by rw [← hNl, c1, hn]; simp)
    subst hN0
    subst hn
    have := append_room (w := w) hu hi hisz hb hiz (ty := ty) (base := b) (sLen := len) (sCap := cap) h0 h1 (by omega) src.room
    rw [this]
    cases b <;> simp [storeCells]
  -- a new row out of nothing
  have hfresh : ¬ g.dom k → n ≠ 0 → ∀ b, u = .slice b 0 0 → Good g h w k { val := .sl sz ag k 0 n n, al := [.cells new], rd := rd } ((builtin .append argTypes ty cb (u :: v :: R).toArray).run P w) := by
    intro hkk hn b hu'
    subst hu'
    have hold : ∀ w', w'.heap = w.heap → (Builtin.firstCells sz 0 (.slice b 0 0)).run P w' = .ok ([] : List Value).toArray w' := by
      intro w' _
      cases b <;> simp [Builtin.firstCells, loadCells, loadCellsFrom]
    obtain ⟨cap, q1, q2⟩ := append_grow (w := w) hu hi hisz hb0 hb hiz (ty := ty) (base := b) h0 h1 (by omega) (by rw [Nat.zero_add]; exact fitsB_spec hi c2) src.grow hold
    simp only [Nat.zero_add] at q1 q2
    have hrun := hargs q2
    have hcell : ∀ j, j < N.length → (([] : List Value).toArray ++ N.toArray ++ Builtin.zeroCells zv.cells (cap - n))[j]? = N[j]? := by
      intro j hj
      have : (([] : List Value).toArray ++ N.toArray ++ Builtin.zeroCells zv.cells (cap - n)) = (N ++ (Builtin.zeroCells zv.cells (cap - n)).toList).toArray := by
        apply Array.ext'; simp
      rw [this]
      simp only [List.getElem?_toArray]
      rw [List.getElem?_append_left hj]
    refine good_alloc S hkk hN hst (c := ([] : List Value).toArray ++ N.toArray ++ Builtin.zeroCells zv.cells (cap - n)) (ty := el) hcell (w.drawn + 1) (unfrozen_zero _) (v := .slice (some ⟨w.heap.size, 0, none⟩) n cap) (fun g' hp' hg' _ => ?_) ?_
    · obtain ⟨m1, m2, m3, m4⟩ := hg' k rfl
      refine .sl sz ag k 0 n n _ cap m4 (by omega) fun cs hcs => ?_
      rw [upd_same] at hcs; cases hcs
      refine ⟨by omega, fun _ => ⟨by rw [m1, m2], ?_⟩⟩
      rw [m2, m3]
      have hzl : (Builtin.zeroCells zv.cells (cap - n)).size = (cap - n) * sz := by simp [Builtin.zeroCells, hzs]
      simp only [Array.size_append, List.size_toArray, hzl, List.length_nil]
      have e1 : cap * sz = n * sz + (cap - n) * sz := by rw [← Nat.add_mul]; congr 1; omega
      omega
    · exact hrun
  split at he
  · -- nil
    have hu0 : u = .slice none 0 0 := hs.of_toV (w := .slice none 0 0) rfl
    subst hu0
    split at he
    · rename_i hn; cases he
      exact good_value S hs (hnone hn _ _ _ rfl (by omega))
    · rename_i hn; cases he
      exact hfresh (hk (by simp)) hn _ rfl
  · -- e0
    cases hs with
    | e0 ad =>
      split at he
      · rename_i hn; cases he
        exact good_value S (.e0 ad) (hnone hn _ _ _ rfl (by omega))
      · rename_i hn; cases he
        exact hfresh (hk (by simp)) hn _ rfl
  · -- frozen
    split at he
    · rename_i hn; cases he
      refine good_value S hs ?_
      cases hs with
      | fz _ _ _ L ad cap' _ _ _ _ hcap _ => exact hnone hn _ _ _ rfl hcap
      | fzn => exact hnone hn _ _ _ rfl (Nat.le_refl _)
    · cases he
  · -- live
    rename_i s' ag' b off len cap
    split at he
    case isFalse => cases he
    rename_i hc2
    obtain ⟨rfl, rfl, d1, d2⟩ := hc2
    cases hcu : curCells h b (off + cap * s') with
    | none => simp [hcu] at he
    | some cs =>
      simp only [hcu, Option.bind_some] at he
      obtain ⟨hcs, hcl⟩ := cellsAt hcu
      cases hs with
      | sl _ _ _ _ _ _ ad cap' hd hcap hcur =>
        obtain ⟨r1, r2⟩ := hcur cs hcs
        obtain ⟨rfl, r3⟩ := r2 hcl
        split at he
        · -- room
          rename_i hroom
          cases he
          have hm : (len + n) * s' ≤ cap * s' := Nat.mul_le_mul_right _ hroom
          rw [Nat.add_mul] at hm
          obtain ⟨w', q1, q2⟩ := good_store (P := P) (k := k) (off := off + len * s') S hcs hN hst (by omega)
          have hrun := append_room (w := w) hu hi hisz hb hiz (ty := ty) (base := some ⟨g.m b, g.sh b + off, none⟩) (sLen := len) (sCap := cap') h0 h1 (by omega) src.room
          simp only [addr_add] at hrun
          rw [show g.sh b + off + len * s' = g.sh b + (off + len * s') from by omega, q1] at hrun
          refine q2 _ _ (.value _) _ _ rfl (fun hp' E => ?_) (hargs hrun)
          refine .sl s' ag' b off (len + n) cap _ cap' hd hcap fun cs' hcs' => ?_
          rw [upd_same] at hcs'; cases hcs'
          rw [splice_length _ _ _ (by omega)]
          exact ⟨r1, fun _ => ⟨rfl, r3⟩⟩
        · rename_i hroom
          split at he
          · rename_i hoff
            subst hoff
            cases he
            exact good_append_live S hu hi hisz c3 hb0 hb hiz hzs h0 h1 hN hst c1 (fitsB_spec hi d2) src hcs (by omega) d1 (by omega) r3 fun v' w' hr => hargs hr
          · cases he
  · cases he

end ops
end Go.Xv

/- The interpreter over open terms: code run with hints that hold their proofs; loops whose rounds may forget. No condition. -/
import Derived.Test.YtjbbhpfoohpbkaaGreatDoorXF
set_option linter.all false
namespace Go.Xv

-- A value under new block numbers; none, where it points to a block that is dropped.
mutual
def ren (ρ : Nat → Option Nat) : AV → Option AV
  | .ptr b ver off => (ρ b).map fun b => .ptr b ver off
  | .sl s ag b off len cap => (ρ b).map fun b => .sl s ag b off len cap
  | .mp b => (ρ b).map .mp
  | .it b => (ρ b).map .it
  | .agg cs => (renL ρ cs).map .agg
  | .tup vs => (renL ρ vs).map .tup
  | .fn f a b => (renL ρ a).bind fun a => (renL ρ b).map fun b => .fn f a b
  | .sc v => some (.sc v)
  | .e0 => some .e0
  | .fz o s es => some (.fz o s es)
  | .cp o cs off => some (.cp o cs off)
  | .fm o es => some (.fm o es)
  | .yl => some .yl
  | .top => some .top
def renL (ρ : Nat → Option Nat) : List AV → Option (List AV)
  | [] => some []
  | a :: l => (ren ρ a).bind fun a => (renL ρ l).map fun l => a :: l
end

def renE (ρ : Nat → Option Nat) : List (Value × AV × Nat) → Option (List (Value × AV × Nat))
  | [] => some []
  | (k, v, c) :: l => (ren ρ v).bind fun v => (renE ρ l).map fun l => (k, v, c) :: l

def renB (ρ : Nat → Option Nat) : Blk → Option Blk
  | .cells cs => (renL ρ cs).map .cells
  | .map es c => (renE ρ es).map fun es => .map es c
  | .mit (some m) s seen st => (ρ m).map fun m => .mit (some m) s seen st
  | b => some b

def posOf (b : Nat) : Nat → List Nat → Option Nat
  | _, [] => none
  | i, k :: r => if Nat.beq k b then some i else posOf b (i + 1) r

def rho (n : Nat) (keep : List Nat) (b : Nat) : Option Nat := if Nat.blt b n then some b else posOf b n keep
def sigma (n : Nat) (keep : List Nat) (c : Nat) : Nat := if c < n then c else keep.getD (c - n) 0

/-- The temporaries that are named stay, the others may be anything. -/
def topT : Nat → List Nat → Tmps → Tmps
  | _, _, [] => []
  | i, [], _ :: t => .top :: topT (i + 1) [] t
  | i, k :: ks, a :: t => if Nat.beq i k then a :: topT (i + 1) ks t else .top :: topT (i + 1) (k :: ks) t

def gcA (ρ : Nat → Option Nat) (a : AV) : AV := (ren ρ a).getD .top

def distinct : List Nat → Bool
  | [] => true
  | a :: l => !l.contains a && distinct l

/-- The blocks that stay: the first n, and those that are named, in this order. -/
def gcSel (n : Nat) (keep : List Nat) (L : List Blk) : List Blk := L.take n ++ keep.map (hget L)

def gcFit (n : Nat) (keep : List Nat) (L : List Blk) : Bool := Nat.ble n L.length && keep.all (fun b => Nat.ble n b) && distinct keep

/-- The blocks under new numbers; one may be given up. -/
def gcOK (ρ : Nat → Option Nat) : List Blk → List Blk → Prop
  | [], [] => True
  | x :: l, y :: m => (y = .dead ∨ renB ρ x = some y) ∧ gcOK ρ l m
  | _, _ => False

structure GcRel (n : Nat) (keep ks : List Nat) (t : Tmps) (L : List Blk) (t2 : Tmps) (L2 : List Blk) : Prop where
  fit : gcFit n keep L = true
  t : t2 = (topT 0 ks t).map (gcA (rho n keep))
  L : gcOK (rho n keep) (gcSel n keep L) L2

theorem renL_length {ρ : Nat → Option Nat} : ∀ {l l' : List AV}, renL ρ l = some l' → l'.length = l.length
  | [], l', h => by simp only [renL, Option.some.injEq] at h; subst h; rfl
  | a :: l, l', h => by
    simp only [renL, Option.bind_eq_some_iff, Option.map_eq_some_iff] at h
    obtain ⟨a', _, l1, h2, rfl⟩ := h
    simp [renL_length h2]

theorem ren_stor {ρ : Nat → Option Nat} {a a' : AV} (h : ren ρ a = some a') : a'.stor = a.stor := by
  cases a <;> simp only [ren, Option.map_eq_some_iff, Option.bind_eq_some_iff, Option.some.injEq] at h
  case fn => obtain ⟨_, _, _, _, rfl⟩ := h; rfl
  all_goals first | (obtain ⟨_, _, rfl⟩ := h; rfl) | (subst h; rfl)

theorem renL_stor {ρ : Nat → Option Nat} : ∀ {l l' : List AV}, renL ρ l = some l' → l'.all AV.stor = l.all AV.stor
  | [], l', h => by simp only [renL, Option.some.injEq] at h; subst h; rfl
  | a :: l, l', h => by
    simp only [renL, Option.bind_eq_some_iff, Option.map_eq_some_iff] at h
    obtain ⟨a', h1, l1, h2, rfl⟩ := h
    simp [ren_stor h1, renL_stor h2]

theorem renE_keys {ρ : Nat → Option Nat} : ∀ {l l' : List (Value × AV × Nat)}, renE ρ l = some l' → l'.map (fun e => (e.1, e.2.2)) = l.map fun e => (e.1, e.2.2)
  | [], l', h => by simp only [renE, Option.some.injEq] at h; subst h; rfl
  | (k, v, c) :: l, l', h => by
    simp only [renE, Option.bind_eq_some_iff, Option.map_eq_some_iff] at h
    obtain ⟨a', h1, l1, h2, rfl⟩ := h
    simp [renE_keys h2]
theorem renE_vals {ρ : Nat → Option Nat} : ∀ {l l' : List (Value × AV × Nat)}, renE ρ l = some l' → renL ρ (l.map (·.2.1)) = some (l'.map (·.2.1))
  | [], l', h => by simp only [renE, Option.some.injEq] at h; subst h; rfl
  | (k, v, c) :: l, l', h => by
    simp only [renE, Option.bind_eq_some_iff, Option.map_eq_some_iff] at h
    obtain ⟨a', h1, l1, h2, rfl⟩ := h
    simp [renL, h1, renE_vals h2]

def gcG (g : G) (σ : Nat → Nat) (N : Nat) : G := { g with m := fun c => g.m (σ c), sh := fun c => g.sh (σ c), sz := fun c => g.sz (σ c), dom := fun c => c < N ∧ g.dom (σ c) }

structure Gc (h h2 : Nat → Blk) (n N : Nat) (ρ : Nat → Option Nat) (σ : Nat → Nat) : Prop where
  out : ∀ c, N ≤ c → h2 c = .dead
  kin : ∀ c, h2 c = .dead ∨ renB ρ (h (σ c)) = some (h2 c)
  inv : ∀ b c, ρ b = some c → c < N ∧ σ c = b
  inj : ∀ c c', c < N → c' < N → σ c = σ c' → c = c'
  low : ∀ c, c < n → σ c = c
  high : ∀ c, n ≤ c → c < N → n ≤ σ c
  le : n ≤ N

section gc
variable {g : G} {h h2 : Nat → Blk} {hp : Array Obj} {n N : Nat} {ρ : Nat → Option Nat} {σ : Nat → Nat}

theorem Gc.cells (C : Gc h h2 n N ρ σ) {c : Nat} {cs' : List AV} (hb : h2 c = .cells cs') : ∃ cs, h (σ c) = .cells cs ∧ renL ρ cs = some cs' ∧ cs.length = cs'.length := by
  rcases C.kin c with e | e
  · rw [hb] at e; cases e
  · rw [hb] at e
    cases hx : h (σ c) with
    | cells cs =>
      rw [hx] at e
      simp only [renB, Option.map_eq_some_iff, Blk.cells.injEq] at e
      obtain ⟨l, e, rfl⟩ := e
      exact ⟨cs, rfl, e, (renL_length e).symm⟩
    | mit m s seen st =>
      rw [hx] at e
      cases m <;> simp [renB] at e
    | _ => rw [hx] at e; simp [renB] at e

theorem Gc.obj (C : Gc h h2 n N ρ σ) {c : Nat} (hb : isObj (h2 c) = true) : isObj (h (σ c)) = true := by
  rcases C.kin c with e | e
  · rw [e] at hb; cases hb
  · cases hx : h (σ c) with
    | cells cs =>
      rw [hx] at e
      simp only [renB, Option.map_eq_some_iff] at e
      obtain ⟨l, _, e⟩ := e
      rw [← e] at hb; cases hb
    | dead =>
      rw [hx] at e
      simp only [renB, Option.some.injEq] at e
      rw [← e] at hb; cases hb
    | _ => rfl

theorem Gc.alive (C : Gc h h2 n N ρ σ) {c : Nat} (hb : alive (h2 c) = true) : Go.Xv.alive (h (σ c)) = true ∧ c < N := by
  refine ⟨?_, ?_⟩
  · rcases C.kin c with e | e
    · rw [e] at hb; cases hb
    · cases hx : h (σ c) with
      | dead =>
        rw [hx] at e
        simp only [renB, Option.some.injEq] at e
        rw [← e] at hb; cases hb
      | _ => rfl
  · rcases Nat.lt_or_ge c N with h1 | h1
    · exact h1
    · rw [C.out c h1] at hb; cases hb

theorem VR.gc (C : Gc h h2 n N ρ σ) {a : AV} {v : Value} (hv : VR g h hp a v) : ∀ a', ren ρ a = some a' → VR (gcG g σ N) h2 hp a' v := by
  have hFK : ∀ p, FK g (gcG g σ N) hp hp p := fun p o B _ hF => ⟨hF, rfl⟩
  refine VR.rec (motive_1 := fun a v _ => ∀ a', ren ρ a = some a' → VR (gcG g σ N) h2 hp a' v)
    (motive_2 := fun l L _ => ∀ l', renL ρ l = some l' → VRL (gcG g σ N) h2 hp l' L) ?_ ?_ ?_ ?_ ?_ ?_ ?_ ?_ ?_ ?_ ?_ ?_ ?_ ?_ ?_ ?_ ?_ hv
  · intro v hv a' e; simp only [ren, Option.some.injEq] at e; subst e; exact .sc v hv
  · intro a a' e; simp only [ren, Option.some.injEq] at e; subst e; exact .e0 a
  · intro b ver off a hd hc a' e
    simp only [ren, Option.map_eq_some_iff] at e
    obtain ⟨c, e1, rfl⟩ := e
    obtain ⟨k1, k2⟩ := C.inv b c e1
    refine .ptr c ver off a ⟨k1, by rw [k2]; exact hd⟩ fun cs' hcs' => ?_
    obtain ⟨cs, h0, _, hl⟩ := C.cells hcs'
    rw [k2] at h0
    obtain ⟨p, q⟩ := hc cs h0
    exact ⟨by omega, fun he => by simp only [gcG, k2]; exact q (by omega)⟩
  · intro s ag b off len cap a cap' hd hcap hc a' e
    simp only [ren, Option.map_eq_some_iff] at e
    obtain ⟨c, e1, rfl⟩ := e
    obtain ⟨k1, k2⟩ := C.inv b c e1
    refine .sl s ag c off len cap a cap' ⟨k1, by rw [k2]; exact hd⟩ hcap fun cs' hcs' => ?_
    obtain ⟨cs, h0, _, hl⟩ := C.cells hcs'
    rw [k2] at h0
    obtain ⟨p, q⟩ := hc cs h0
    exact ⟨by omega, fun he => by simp only [gcG, k2]; exact q (by omega)⟩
  · intro b r hd hc a' e
    simp only [ren, Option.map_eq_some_iff] at e
    obtain ⟨c, e1, rfl⟩ := e
    obtain ⟨k1, k2⟩ := C.inv b c e1
    exact .mp c r ⟨k1, by rw [k2]; exact hd⟩ fun ho => by have := C.obj ho; rw [k2] at this; simp only [gcG, k2]; exact hc this
  · intro b r hd hc a' e
    simp only [ren, Option.map_eq_some_iff] at e
    obtain ⟨c, e1, rfl⟩ := e
    obtain ⟨k1, k2⟩ := C.inv b c e1
    exact .it c r ⟨k1, by rw [k2]; exact hd⟩ fun ho => by have := C.obj ho; rw [k2] at this; simp only [gcG, k2]; exact hc this
  · intro own s es L a cap' hL hst hs hr hcap hfr _ a' e
    simp only [ren, Option.some.injEq] at e; subst e
    exact .fz own s es L a cap' (hL.carry false own hfr (hFK own) (fun e => by cases e)) hst hs hr hcap hfr
  · intro own cs off L B o hL hst hF hr hfr _ a' e
    simp only [ren, Option.some.injEq] at e; subst e
    exact .cp own cs off L B o (hL.carry false own hfr (hFK own) (fun e => by cases e)) hst hF hr hfr
  · intro own es r ents clock hF hr hke hL hfr _ a' e
    simp only [ren, Option.some.injEq] at e; subst e
    exact .fm own es r ents clock hF hr hke (hL.carry false own hfr (hFK own) (fun e => by cases e)) hfr
  · intro cs L _ hs ih a' e
    simp only [ren, Option.map_eq_some_iff] at e
    obtain ⟨l, e1, rfl⟩ := e
    exact .agg _ L (ih l e1) (by rw [renL_stor e1]; exact hs)
  · intro vs L _ ih a' e
    simp only [ren, Option.map_eq_some_iff] at e
    obtain ⟨l, e1, rfl⟩ := e
    exact .tup _ L (ih l e1)
  · intro f a b A B _ _ ihA ihB a' e
    simp only [ren, Option.bind_eq_some_iff, Option.map_eq_some_iff] at e
    obtain ⟨l, e1, l2, e2, rfl⟩ := e
    exact .fn f _ _ A B (ihA l e1) (ihB l2 e2)
  · intro hv a' e; simp only [ren, Option.some.injEq] at e; subst e; exact .yl (g := gcG g σ N) hv
  · intro v a' e; simp only [ren, Option.some.injEq] at e; subst e; exact .top v
  · intro own s a' e; simp only [ren, Option.some.injEq] at e; subst e; exact .fzn own s
  · intro l' e; simp only [renL, Option.some.injEq] at e; subst e; exact .nil
  · intro a v l L _ _ iha ihl l' e
    simp only [renL, Option.bind_eq_some_iff, Option.map_eq_some_iff] at e
    obtain ⟨a', e1, l1, e2, rfl⟩ := e
    exact .cons _ v _ L (iha a' e1) (ihl l1 e2)

theorem VRL.gc (C : Gc h h2 n N ρ σ) {l : List AV} {L : List Value} (hl : VRL g h hp l L) : ∀ {l'}, renL ρ l = some l' → VRL (gcG g σ N) h2 hp l' L := by
  induction l generalizing L with
  | nil => intro l' e; cases hl; simp only [renL, Option.some.injEq] at e; subst e; exact .nil
  | cons a l ih =>
    intro l' e
    simp only [renL, Option.bind_eq_some_iff, Option.map_eq_some_iff] at e
    obtain ⟨a', e1, l1, e2, rfl⟩ := e
    cases hl with | cons _ v _ L ha hl => exact .cons _ v _ L (ha.gc C a' e1) (ih hl e2)

theorem VRL.gcT (C : Gc h h2 n N ρ σ) {l : List AV} {L : List Value} (hl : VRL g h hp l L) : VRL (gcG g σ N) h2 hp (l.map (gcA ρ)) L := by
  induction l generalizing L with
  | nil => cases hl; exact .nil
  | cons a l ih =>
    cases hl with
    | cons _ v _ L ha hl =>
      refine .cons _ v _ L ?_ (ih hl)
      unfold gcA
      cases e : ren ρ a with
      | none => exact .top v
      | some a' => exact ha.gc C a' e

theorem VRL.topT {l : List AV} {L : List Value} (hl : VRL g h hp l L) : ∀ (i : Nat) (ks : List Nat), VRL g h hp (topT i ks l) L := by
  induction l generalizing L with
  | nil => intro i ks; cases hl; cases ks <;> exact .nil
  | cons a l ih =>
    intro i ks
    cases hl with
    | cons _ v _ L ha hl =>
      cases ks with
      | nil => exact .cons _ v _ L (.top v) (ih hl _ _)
      | cons k ks =>
        simp only [Go.Xv.topT]
        split
        · exact .cons _ v _ L ha (ih hl _ _)
        · exact .cons _ v _ L (.top v) (ih hl _ _)

theorem BlkOK.gc (C : Gc h h2 n N ρ σ) {c : Nat} (hc : c < N) {x x' : Blk} (hx : BlkOK g h hp (σ c) x) (e : renB ρ x = some x') : BlkOK (gcG g σ N) h2 hp c x' := by
  cases x with
  | dead => simp only [renB, Option.some.injEq] at e; subst e; trivial
  | cells cs =>
    simp only [renB, Option.map_eq_some_iff] at e
    obtain ⟨l, e1, rfl⟩ := e
    obtain ⟨h1, hs, h3, c0, ty, fr, L, h4, h5, h6, h7, h8, h9⟩ := hx
    exact ⟨⟨hc, h1⟩, by rw [renL_stor e1]; exact hs, h3, c0, ty, fr, L, h4, h5, h6.gc C e1, h7, h8, by rw [renL_length e1]; exact h9⟩
  | map es clock =>
    simp only [renB, Option.map_eq_some_iff] at e
    obtain ⟨l, e1, rfl⟩ := e
    obtain ⟨h1, h3, ents, h4, h5, h6⟩ := hx
    exact ⟨⟨hc, h1⟩, h3, ents, h4, by rw [renE_keys e1]; exact h5, h6.gc C (renE_vals e1)⟩
  | sit s pos =>
    simp only [renB, Option.some.injEq] at e; subst e
    exact ⟨⟨hc, hx.1⟩, hx.2⟩
  | mit m since seen st =>
    obtain ⟨h1, h3, r, h4, h5⟩ := hx
    cases m with
    | none =>
      simp only [renB, Option.some.injEq] at e; subst e
      exact ⟨⟨hc, h1⟩, h3, r, h4, h5⟩
    | some mb =>
      simp only [renB, Option.map_eq_some_iff] at e
      obtain ⟨mc, e1, rfl⟩ := e
      obtain ⟨d, r', hr', hi⟩ := h5
      obtain ⟨k1, k2⟩ := C.inv mb mc e1
      exact ⟨⟨hc, h1⟩, h3, r, h4, ⟨k1, by rw [k2]; exact d⟩, r', hr', fun ho => by have := C.obj ho; rw [k2] at this; simp only [gcG, k2]; exact hi this⟩

theorem Sim.gc (S : Sim g h hp) (C : Gc h h2 n N ρ σ) : Sim (gcG g σ N) h2 hp where
  blk c := by
    rcases C.kin c with e | e
    · rw [e]; trivial
    · rcases Nat.lt_or_ge c N with hb | hb
      · exact (S.blk (σ c)).gc C hb e
      · rw [C.out c hb]; trivial
  inj b b' hb hb' he := by
    obtain ⟨a1, a2⟩ := C.alive hb
    obtain ⟨b1, b2⟩ := C.alive hb'
    exact C.inj b b' a2 b2 (S.inj _ _ a1 b1 he)
  fz := S.fz
  sub := S.sub

theorem GlOK.gc {gl : Nat → Option (List AV)} (H : GlOK gl g h hp) : GlOK gl (gcG g σ N) h2 hp := fun i cs hi =>
  ⟨(H i cs hi).1.carry false false rfl (fun o B _ hF => ⟨hF, rfl⟩) (fun e => by cases e), (H i cs hi).2⟩

theorem Post.gc {w w1 w2 : World} {h0 h1 h3 : Nat → Blk} {g0 g1 g3 : G} {k k1 k3 : Nat} (C : Gc h1 h2 n N ρ σ) (p : Post g0 h0 w k k1 g1 h1 w1) (q : Post (gcG g1 σ N) h2 w1 N k3 g3 h3 w2) (hk : k ≤ n) (hk3 : N ≤ k3)
    (hd : ∀ b, g0.dom b → b < k) (hout : ∀ b, k ≤ b → h0 b = .dead) : Post g0 h0 w k k3 g3 h3 w2 := by
  have hle := C.le
  have hdom : ∀ b, g0.dom b → (gcG g1 σ N).dom b ∧ σ b = b := fun b hb => by
    have := hd b hb
    have e := C.low b (by omega)
    exact ⟨⟨by omega, by rw [e]; exact p.ext.dom b hb⟩, e⟩
  have img : ∀ c, alive (h2 c) = true → (alive (h0 (σ c)) = true ∧ σ c = c ∧ g1.m (σ c) = g0.m c) ∨ w.heap.size ≤ g1.m (σ c) := fun c hc => by
    obtain ⟨a1, a2⟩ := C.alive hc
    rcases p.img _ a1 with ⟨b1, b2⟩ | b1
    · rcases Nat.lt_or_ge c n with hn | hn
      · have e := C.low c hn
        exact .inl ⟨b1, e, by rw [e] at b2 ⊢; exact b2⟩
      · have := C.high c hn a2
        rw [hout (σ c) (by omega)] at b1; cases b1
    · exact .inr b1
  exact {
    sim := q.sim
    ext := {
      dom := fun b hb => q.ext.dom b (hdom b hb).1
      cells := fun b cs' hb hcs' => by
        obtain ⟨d1, d2⟩ := hdom b hb
        obtain ⟨cs2, e2, l2, k2⟩ := q.ext.cells b cs' d1 hcs'
        obtain ⟨cs1, e1, _, l1⟩ := C.cells e2
        rw [d2] at e1
        obtain ⟨cs, e0, l0, k0⟩ := p.ext.cells b cs1 hb e1
        refine ⟨cs, e0, by omega, fun he => ?_⟩
        obtain ⟨a1, a2, a3⟩ := k0 (by omega)
        obtain ⟨b1, b2, b3⟩ := k2 (by omega)
        simp only [gcG, d2] at b1 b2 b3
        exact ⟨b1.trans a1, b2.trans a2, b3.trans a3⟩
      obj := fun b hb ho => by
        obtain ⟨d1, d2⟩ := hdom b hb
        obtain ⟨e2, m2⟩ := q.ext.obj b d1 ho
        have e3 := C.obj e2
        rw [d2] at e3
        obtain ⟨e0, m0⟩ := p.ext.obj b hb e3
        simp only [gcG, d2] at m2
        exact ⟨e0, m2.trans m0⟩
      F := fun o B hB => q.ext.F o B (p.ext.F o B hB)
      keep := fun o B hB => (q.ext.keep o B (p.ext.F o B hB)).trans (p.ext.keep o B hB)
      yv := q.ext.yv.trans p.ext.yv }
    size := Nat.le_trans p.size q.size
    frame := fun c hc hb => by
      rw [q.frame c (by have := p.size; omega) fun b hb1 e => ?_, p.frame c hc hb]
      have e' : g1.m (σ b) = c := e
      rcases img b hb1 with ⟨ha, hs, he⟩ | hle
      · rw [hs] at ha
        exact hb b ha (by rw [← he]; exact e')
      · omega
    img := fun b hb => by
      rcases q.img b hb with ⟨ha, he⟩ | hle
      · rcases img b ha with ⟨a1, a2, a3⟩ | a1
        · rw [a2] at a1
          exact .inl ⟨a1, he.trans a3⟩
        · exact .inr (by rw [he]; exact a1)
      · exact .inr (Nat.le_trans p.size hle)
    F := fun o B hB => by
      rcases q.F o B hB with h1 | h1
      · exact p.F o B h1
      · exact .inr (Nat.le_trans p.size h1)
    dom := fun b hb => by
      rcases q.dom b hb with h1 | h1
      · obtain ⟨c1, c2⟩ := h1
        rcases Nat.lt_or_ge b n with hn | hn
        · rw [C.low b hn] at c2
          rcases p.dom b c2 with h0 | h0
          · exact .inl h0
          · exact .inr ⟨h0.1, by omega⟩
        · exact .inr ⟨by omega, by omega⟩
      · exact .inr ⟨by omega, h1.2⟩
    os := q.os.trans p.os
    tape := q.tape.trans p.tape
    output := q.output.trans p.output }
end gc

theorem posOf_spec {b : Nat} : ∀ {l : List Nat} {i c : Nat}, posOf b i l = some c → i ≤ c ∧ c < i + l.length ∧ l[c - i]? = some b
  | [], i, c, h => by simp [posOf] at h
  | k :: r, i, c, h => by
    simp only [posOf] at h
    split at h
    · rename_i hb
      cases h
      exact ⟨Nat.le_refl _, by simp, by simp [Nat.eq_of_beq_eq_true hb]⟩
    · obtain ⟨h1, h2, h3⟩ := posOf_spec h
      refine ⟨by omega, by simp; omega, ?_⟩
      rw [show c - i = (c - (i + 1)) + 1 from by omega]
      simpa using h3

theorem distinct_inj : ∀ {l : List Nat}, distinct l = true → ∀ {i j : Nat} {b : Nat}, l[i]? = some b → l[j]? = some b → i = j
  | [], _, i, j, b, h, _ => by simp at h
  | a :: l, hd, i, j, b, hi, hj => by
    simp only [distinct, Bool.and_eq_true, Bool.not_eq_true'] at hd
    have hno : ∀ {k : Nat}, l[k]? = some a → False := fun hk => by
      have : l.contains a = true := by rw [List.contains_iff_mem]; exact List.mem_of_getElem? hk
      rw [hd.1] at this; cases this
    cases i with
    | zero =>
      simp at hi; subst hi
      cases j with
      | zero => rfl
      | succ j => simp at hj; exact (hno hj).elim
    | succ i =>
      simp at hi
      cases j with
      | zero => simp at hj; subst hj; exact (hno hi).elim
      | succ j => simp at hj; rw [distinct_inj hd.2 hi hj]

theorem gcOK_get {ρ : Nat → Option Nat} : ∀ {l m : List Blk}, gcOK ρ l m → m.length = l.length ∧ ∀ c, c < l.length → hget m c = .dead ∨ renB ρ (hget l c) = some (hget m c)
  | [], [], _ => ⟨rfl, fun c hc => by simp at hc⟩
  | x :: l, y :: m, h => by
    obtain ⟨i1, i2⟩ := gcOK_get h.2
    refine ⟨by simp [i1], fun c hc => ?_⟩
    cases c with
    | zero => exact h.1
    | succ c => simpa [hget] using i2 c (by simpa using hc)
  | [], _ :: _, h => h.elim
  | _ :: _, [], h => h.elim

theorem gcH_spec {n : Nat} {keep ks : List Nat} {t t2 : Tmps} {L L2 : List Blk} (hw : GcRel n keep ks t L t2 L2) :
    t2 = (topT 0 ks t).map (gcA (rho n keep)) ∧ L2.length = n + keep.length ∧ n ≤ L.length ∧ Gc (hget L) (hget L2) n (n + keep.length) (rho n keep) (sigma n keep) := by
  obtain ⟨hc, rfl, hL⟩ := hw
  simp only [gcFit, Bool.and_eq_true, Nat.ble_eq, List.all_eq_true] at hc
  obtain ⟨⟨h1, h2⟩, h3⟩ := hc
  have hlen : (L.take n).length = n := by simp; omega
  obtain ⟨g1, g2⟩ := gcOK_get hL
  have hsl : (gcSel n keep L).length = n + keep.length := by simp [gcSel]; omega
  have hkeep : ∀ {i : Nat}, i < keep.length → keep[i]? = some (keep.getD i 0) := fun hi => by
    simp [List.getD_eq_getElem?_getD, List.getElem?_eq_getElem hi]
  refine ⟨rfl, by omega, h1, ?_⟩
  have hg : ∀ c, c < n + keep.length → hget (gcSel n keep L) c = hget L (sigma n keep c) := fun c hc => by
    unfold sigma gcSel
    simp only [hget, List.getD_eq_getElem?_getD]
    split
    · rename_i hn
      rw [List.getElem?_append_left (by simp; omega), List.getElem?_take_of_lt hn]
    · rename_i hn
      rw [List.getElem?_append_right (by simp; omega)]
      simp only [hlen, List.getElem?_map]
      have := hkeep (i := c - n) (by omega)
      rw [this]
      simp only [List.getD_eq_getElem?_getD, Option.map_some, Option.getD_some, hget]
  refine ⟨fun c hc => ?_, fun c => ?_, fun b c hb => ?_, fun c c' hc hc' he => ?_, fun c hc => by simp [sigma, hc], fun c hn hc => ?_, by omega⟩
  · simp only [hget, List.getD_eq_getElem?_getD]
    rw [List.getElem?_eq_none (by omega)]; rfl
  · rcases Nat.lt_or_ge c (n + keep.length) with hc | hc
    · rw [← hg c hc]
      exact g2 c (by omega)
    · left
      simp only [hget, List.getD_eq_getElem?_getD]
      rw [List.getElem?_eq_none (by omega)]; rfl
  · unfold rho at hb
    split at hb
    · rename_i hn
      rw [Nat.blt_eq] at hn
      cases hb
      exact ⟨by omega, by simp [sigma, hn]⟩
    · obtain ⟨k1, k2, k3⟩ := posOf_spec hb
      refine ⟨k2, ?_⟩
      simp only [sigma]
      rw [if_neg (by omega), List.getD_eq_getElem?_getD, k3]; rfl
  · unfold sigma at he
    split at he
    · rename_i hn
      split at he
      · exact he
      · rename_i hn'
        have := h2 _ (List.mem_of_getElem? (hkeep (i := c' - n) (by omega)))
        omega
    · rename_i hn
      split at he
      · have := h2 _ (List.mem_of_getElem? (hkeep (i := c - n) (by omega)))
        omega
      · have e1 := hkeep (i := c - n) (by omega)
        have e2 := hkeep (i := c' - n) (by omega)
        rw [he] at e1
        have := distinct_inj h3 e1 e2
        omega
  · unfold sigma
    rw [if_neg (by omega)]
    exact h2 _ (List.mem_of_getElem? (hkeep (i := c - n) (by omega)))

section at_
variable {gl : Nat → Option (List AV)} {g : G} {w : World} {a : Act} {n : Nat} {keep ks : List Nat} {t t2 : Tmps} {L L2 : List Blk}

theorem At.top (s : At gl g L w t a) (ks : List Nat) : At gl g L w (topT 0 ks t) a := ⟨s.sim, s.gl, s.tmps.topT 0 ks, s.bd⟩

theorem At.gc (s : At gl g L w t a) (hw : GcRel n keep ks t L t2 L2) : At gl (gcG g (sigma n keep) (n + keep.length)) L2 w t2 a := by
  obtain ⟨rfl, hl, hn, C⟩ := gcH_spec hw
  exact ⟨s.sim.gc C, s.gl.gc, (s.tmps.topT 0 ks).gcT C, fun b hb => by rw [hl]; exact hb.1⟩
end at_

section rounds
variable {P : Program} {gl : Nat → Option (List AV)} {c : Code}

theorem hget_out {L : List Blk} {b : Nat} (h : L.length ≤ b) : hget L b = .dead := by
  simp only [hget, List.getD_eq_getElem?_getD]
  rw [List.getElem?_eq_none h]; rfl

theorem code_top {t t' : Tmps} {L L' : List Blk} {x : Ex} (ks : List Nat) (h : CodeOK P gl c (topT 0 ks t) L x t' L') : CodeOK P gl c t L x t' L' :=
  ⟨h.1, fun Q g w a s hq => h.2 Q g w a (s.top ks) hq⟩

/-- The rounds of a loop; between two of them the state may forget. -/
inductive Rounds (P : Program) (gl : Nat → Option (List AV)) (c : Code) : Tmps → List Blk → Ex → Tmps → List Blk → Prop
  | out {t L x t' L'} (h : CodeOK P gl c t L x t' L') (hx : x ≠ .normal) : Rounds P gl c t L x t' L'
  | next {t L t1 L1 t2 L2 x t' L'} {n : Nat} {keep ks : List Nat} (h : CodeOK P gl c t L .normal t1 L1) (hw : GcRel n keep ks t1 L1 t2 L2) (hn : L.length ≤ n) (r : Rounds P gl c t2 L2 x t' L') : Rounds P gl c t L x t' L'

theorem Rounds.ok_n {t t' : Tmps} {L L' : List Blk} {x : Ex} (r : Rounds P gl c t L x t' L') : ∃ m, L.length ≤ L'.length ∧ ∀ (Q : Exit → Act → World → Prop) (g : G) (w : World) (a : Act), At gl g L w t a →
    (∀ g' w' a', At gl g' L' w' t' a' → Post g (hget L) w L.length L'.length g' (hget L') w' → a'.defers = a.defers → Q (exOf x) a' w') → Code.rounds P c Q m a w := by
  induction r with
  | @out t L x t' L' h hx =>
    obtain ⟨i1, i2⟩ := h
    refine ⟨1, i1, fun Q g w a s hq => ?_⟩
    refine i2 _ g w a s fun g1 w1 a1 s1 p1 d1 => ?_
    cases x with
    | normal => exact absurd rfl hx
    | ret => exact hq g1 w1 a1 s1 p1 d1
    | exit id => exact hq g1 w1 a1 s1 p1 d1
  | next h hw hn _ ih =>
    obtain ⟨m, j1, j2⟩ := ih
    obtain ⟨i1, i2⟩ := h
    obtain ⟨_, hl, hl1, C⟩ := gcH_spec hw
    refine ⟨m + 1, by omega, fun Q g w a s hq => ?_⟩
    refine i2 _ g w a s fun g1 w1 a1 s1 p1 d1 => ?_
    refine j2 Q _ w1 a1 (s1.gc hw) fun g3 w3 a3 s3 p3 d3 => hq g3 w3 a3 s3 ?_ (d3.trans d1)
    rw [hl] at p3
    exact Post.gc C p1 p3 hn (by omega) s.bd fun b hb => hget_out hb

theorem Rounds.ok {t t' : Tmps} {L L' : List Blk} {x : Ex} (r : Rounds P gl c t L x t' L') : CodeOK P gl (.loop c) t L x t' L' := by
  obtain ⟨m, i1, i2⟩ := r.ok_n
  exact ⟨i1, fun Q g w a s hq => wp_loop_rounds m (i2 Q g w a s hq)⟩
end rounds
end Go.Xv

namespace Go.Xv

/-- What a hint was asked for. -/
inductive Ent where
  | call (f : FuncId) (args : List AV)
  | callS (f : FuncId) (args : List AV) (L : List Blk)
  | callF (f : FuncId) (args : List AV)
  | val (a : AV)
  | pure (op : Op) (ty : TypeId) (vals : List AV)
  | eff (op : Op) (ty : TypeId) (vals : List AV) (L : List Blk)
  | loop (c : Code) (t : Tmps) (L : List Blk)

def opVals (gl : Nat → Option (List AV)) (t : Tmps) (op : Op) : Option (List AV) := op.operands.toList.mapM (evO gl t)

structure Bodied (P : Program) (f : FuncId) : Prop where
  b : ∃ fn, P.funcs[f]? = some fn ∧ fn.body.isNone = false

structure ToldOK (P : Program) (gl : Nat → Option (List AV)) (f : FuncId) (A : List AV) (v : AV) : Prop where
  body : Bodied P f
  own : okV false true v = true
  ok : CallOK P gl f A [] v []
structure SharedOK (P : Program) (gl : Nat → Option (List AV)) (f : FuncId) (A : List AV) (L : List Blk) (v : AV) (L' : List Blk) : Prop where
  body : Bodied P f
  ok : CallOK P gl f A L v L'
def PureOK (P : Program) (gl : Nat → Option (List AV)) (op : Op) (ty : TypeId) (vals : List AV) (v : AV) : Prop :=
  ∀ (t : Tmps) (o : Oper) (h : Nat → Blk) (k : Nat), o.op = op → o.type = ty → opVals gl t op = some vals → callee gl t o = some none ∧ evOp P gl t h k o = some { val := v }
def EffOK (P : Program) (gl : Nat → Option (List AV)) (op : Op) (ty : TypeId) (vals : List AV) (L : List Blk) (e : Eff) : Prop :=
  ∀ (t : Tmps) (o : Oper), o.op = op → o.type = ty → opVals gl t op = some vals → callee gl t o = some none ∧ evOp P gl t (hget L) L.length o = some e

/-- Nothing of it is live: it stays as it is when it is handed to a call. -/
def Frozen (A : List AV) : Prop := ∀ h : Nat → Blk, deepL false h dpt A = some (A, [])

inductive Hint (P : Program) (gl : Nat → Option (List AV)) where
  | call (f : FuncId) (A : List AV) (v : AV) (pf : ToldOK P gl f A v)
  | callS (f : FuncId) (A : List AV) (L : List Blk) (v : AV) (L' : List Blk) (pf : SharedOK P gl f A L v L')
  | callF (f : FuncId) (A : List AV) (v : AV) (pf : ToldOK P gl f A v) (pd : Frozen A)
  | as (a b : AV) (pf : a = b)
  | pure (op : Op) (ty : TypeId) (vals : List AV) (v : AV) (pf : PureOK P gl op ty vals v)
  | eff (op : Op) (ty : TypeId) (vals : List AV) (L : List Blk) (e : Eff) (pf : EffOK P gl op ty vals L e)
  | loop (ks : List Nat) (c : Code) (t : Tmps) (L : List Blk) (x : Ex) (t' : Tmps) (L' : List Blk) (pf : CodeOK P gl (.loop c) t L x t' L')

section defs
variable {P : Program} {gl : Nat → Option (List AV)}

def Hint.ent : Hint P gl → Ent
  | .call f A _ _ => .call f A
  | .callS f A L _ _ _ => .callS f A L
  | .callF f A _ _ _ => .callF f A
  | .as a _ _ => .val a
  | .pure op ty vals _ _ => .pure op ty vals
  | .eff op ty vals L _ _ => .eff op ty vals L
  | .loop _ c t L _ _ _ _ => .loop c t L

abbrev Hints (P : Program) (gl : Nat → Option (List AV)) := List (Nat × Hint P gl)

def ents (hs : Hints P gl) : List Ent := hs.map fun p => p.2.ent

/-- The hint for an operation, if the next one is for it: by its destination. -/
def hintFor (o : Oper) : Hints P gl → Option (Hint P gl × Hints P gl)
  | [] => none
  | (k, h) :: r => if Nat.beq (o.dst.getD 1000000) k then some (h, r) else none

structure SR (P : Program) (gl : Nat → Option (List AV)) where
  v : AV
  L : List Blk
  rc : Rec
  as : List Ent
  hs : Hints P gl

def recOf (i : Nat) (L : List Blk) (e : Eff) : Rec :=
  { i := i, loud := !(e.rd.isEmpty && e.al.isEmpty), big := false, rd := e.rd, wr := e.wr.map (·.1), al := (List.range e.al.length).map (· + L.length) }

def noExt : ExtF := fun _ _ => none
def noCall : CallF := fun _ _ _ => none

variable (P gl) in
def hinted (t : Tmps) (L : List Blk) (i : Nat) (o : Oper) (hs : Hints P gl) : Hint P gl → Option (SR P gl)
  | .call _ _ v _ => (callee gl t o).bind fun c => match c with
    | some (f, args) => (deepL false (hget L) dpt args).bind fun a =>
      some { v := v, L := L, rc := { i := i, loud := !a.2.isEmpty, big := false, rd := a.2, wr := [], al := [] }, as := [.call f a.1], hs := hs }
    | none => none
  | .callS _ _ _ v L' _ => (callee gl t o).bind fun c => match c with
    | some (f, args) => some { v := v, L := L', rc := { i := i, loud := true, big := true, rd := [], wr := [], al := [] }, as := [.callS f args L], hs := hs }
    | none => none
  | .callF _ _ v _ _ => (callee gl t o).bind fun c => match c with
    | some (f, args) => some { v := v, L := L, rc := { i := i, loud := false, big := false, rd := [], wr := [], al := [] }, as := [.callF f args], hs := hs }
    | none => none
  | .as _ b _ => (stepOp P gl noExt (fun _ => 3) noCall t L i o).bind fun p => some { v := b, L := p.2.1, rc := p.2.2, as := [.val p.1], hs := hs }
  | .pure _ _ _ v _ => (opVals gl t o.op).bind fun vs => some { v := v, L := L, rc := recOf i L { val := v }, as := [.pure o.op o.type vs], hs := hs }
  | .eff _ _ _ _ e _ => (opVals gl t o.op).bind fun vs =>
    if e.wr.all (fun p => Nat.blt p.1 L.length && e.rd.contains p.1) then some { v := e.val, L := wrAll L e.wr ++ e.al, rc := recOf i L e, as := [.eff o.op o.type vs L], hs := hs } else none
  | .loop .. => none

variable (P gl) in
def stepH (t : Tmps) (L : List Blk) (i : Nat) (o : Oper) (hs : Hints P gl) : Option (SR P gl) :=
  match hintFor o hs with
  | some (h, r) => hinted P gl t L i o r h
  | none => (stepOp P gl noExt (fun _ => 3) noCall t L i o).map fun p => { v := p.1, L := p.2.1, rc := p.2.2, as := [], hs := hs }

structure QR (P : Program) (gl : Nat → Option (List AV)) where
  t : Tmps
  L : List Blk
  as : List Ent
  hs : Hints P gl

def QR.pre (as : List Ent) (r : QR P gl) : QR P gl := { r with as := as ++ r.as }

variable (P gl) in
def seqH (ops : Array Oper) : List Oper → Tmps → List Blk → Hints P gl → Option (QR P gl)
  | [], t, L, hs => some { t := t, L := L, as := [], hs := hs }
  | o :: r, t, L, hs => (wantedA ops t o).bind fun w =>
    if w then (stepH P gl t L 0 o hs).bind fun p => (seqH ops r (putA t o.dst p.v) p.L p.hs).map (QR.pre p.as)
    else seqH ops r (putA t o.dst undefA) L hs

variable (P gl) in
def drawH (ops : Array Oper) : List Oper → Nat → List Nat → List Past → Tmps → List Blk → Hints P gl → Option (QR P gl)
  | [], _, _, _, t, L, hs => some { t := t, L := L, as := [], hs := hs }
  | o :: r, i, ms, past, t, L, hs =>
    if (edgesOf o).all (Nat.blt · i) then
      (wantedA ops t o).bind fun w =>
      if w then
        (stepH P gl t L i o hs).bind fun p =>
        if past.all (fun x => (maskOf ms (edgesOf o)).testBit x.i || freely ops x o (some p.rc)) then
          (drawH ops r (i + 1) (ms ++ [maskOf ms (edgesOf o)]) (⟨i, o, some p.rc⟩ :: past) (putA t o.dst p.v) p.L p.hs).map (QR.pre p.as)
        else none
      else if past.all (fun x => (maskOf ms (edgesOf o)).testBit x.i || freely ops x o none) then
        drawH ops r (i + 1) (ms ++ [maskOf ms (edgesOf o)]) (⟨i, o, none⟩ :: past) (putA t o.dst undefA) L hs
      else none
    else none

structure HR (P : Program) (gl : Nat → Option (List AV)) where
  x : Ex
  t : Tmps
  L : List Blk
  as : List Ent
  hs : Hints P gl

def HR.pre (as : List Ent) (r : HR P gl) : HR P gl := { r with as := as ++ r.as }
def QR.hr (r : QR P gl) : HR P gl := { x := .normal, t := r.t, L := r.L, as := r.as, hs := r.hs }
def HR.leave (id : Nat) (r : HR P gl) : HR P gl :=
  match r.x with
  | .exit id' => if Nat.beq id' id then { r with x := .normal } else r
  | _ => r

variable (P gl) in
def codeH : Code → Tmps → List Blk → Hints P gl → Option (HR P gl)
  | .skip, t, L, hs => some ⟨.normal, t, L, [], hs⟩
  | .label _, t, L, hs => some ⟨.normal, t, L, [], hs⟩
  | .ret, t, L, hs => some ⟨.ret, t, L, [], hs⟩
  | .exit id, t, L, hs => some ⟨.exit id, t, L, [], hs⟩
  | .region _ ops false, t, L, hs => (seqH P gl ops ops.toList t L hs).map QR.hr
  | .region _ ops true, t, L, hs => if Region.noSelect ops then (drawH P gl ops ops.toList 0 [] [] t L hs).map QR.hr else none
  | .seq a b, t, L, hs => (codeH a t L hs).bind fun r => match r.x with
    | .normal => (codeH b r.t r.L r.hs).map (HR.pre r.as)
    | _ => some r
  | .cond c a b, t, L, hs => match evO gl t c with
    | some (.sc (.bool true)) => codeH a t L hs
    | some (.sc (.bool false)) => codeH b t L hs
    | _ => none
  | .block id c, t, L, hs => (codeH c t L hs).map (HR.leave id)
  | .scope c, t, L, hs => codeH c t L hs
  | .loop c, t, L, hs => match hs with
    | (_, .loop ks _ _ _ x t' L' _) :: r => some ⟨x, t', L', [.loop c (topT 0 ks t) L], r⟩
    | _ => none
  | _, _, _, _ => none

/-- One operation, the hints ahead of it, what was asked, the hints behind it. -/
def Used (hs : Hints P gl) (as : List Ent) (hs' : Hints P gl) (R : Prop) : Prop := ∃ pre, hs = pre ++ hs' ∧ as.length = pre.length ∧ (as = ents pre → R)

theorem Used.none {hs : Hints P gl} {R : Prop} (h : R) : Used hs [] hs R := ⟨[], rfl, rfl, fun _ => h⟩
theorem Used.imp {hs hs' : Hints P gl} {as : List Ent} {R R' : Prop} (u : Used hs as hs' R) (h : R → R') : Used hs as hs' R' := by
  obtain ⟨pre, h1, h2, h3⟩ := u
  exact ⟨pre, h1, h2, fun e => h (h3 e)⟩
theorem Used.trans {hs hs1 hs2 : Hints P gl} {as as1 : List Ent} {R R1 R2 : Prop} (u : Used hs as hs1 R) (u1 : Used hs1 as1 hs2 R1) (h : R → R1 → R2) : Used hs (as ++ as1) hs2 R2 := by
  obtain ⟨pre, rfl, h2, h3⟩ := u
  obtain ⟨pre1, rfl, h5, h6⟩ := u1
  refine ⟨pre ++ pre1, by simp, by simp [h2, h5], fun e => ?_⟩
  simp only [ents, List.map_append] at e
  obtain ⟨e1, e2⟩ := List.append_inj e (by simp [h2])
  exact h (h3 e1) (h6 e2)
theorem Used.end {hs : Hints P gl} {R : Prop} (u : Used hs (ents hs) [] R) : R := by
  obtain ⟨pre, h1, _, h3⟩ := u
  rw [List.append_nil] at h1
  subst h1
  exact h3 rfl

theorem stepH_sound {t : Tmps} {L : List Blk} {i : Nat} {o : Oper} {hs : Hints P gl} {r : SR P gl} (h : stepH P gl t L i o hs = some r) : Used hs r.as r.hs (Step1 P gl t L i o r.v r.L r.rc) := by
  have plain : ∀ {p : AV × List Blk × Rec}, stepOp P gl noExt (fun _ => 3) noCall t L i o = some p → Step1 P gl t L i o p.1 p.2.1 p.2.2 := fun h =>
    ⟨noExt, _, noCall, fun _ _ _ e => (by cases e), fun _ _ _ _ _ e => (by cases e), h⟩
  unfold stepH at h
  split at h
  · rename_i hh r0 hfor
    have hcons : ∃ k, hs = (k, hh) :: r0 := by
      cases hs with
      | nil => cases hfor
      | cons p l =>
        obtain ⟨k, h0⟩ := p
        simp only [hintFor] at hfor
        split at hfor
        · cases hfor; exact ⟨k, rfl⟩
        · cases hfor
    obtain ⟨k, rfl⟩ := hcons
    have one : ∀ {a : Ent} {R : Prop}, (a = hh.ent → R) → Used ((k, hh) :: r0) [a] r0 R := fun f => ⟨[(k, hh)], rfl, rfl, fun e => f (by simpa [ents] using e)⟩
    cases hh with
    | call f A v pf =>
      simp only [hinted, Option.bind_eq_some_iff] at h
      obtain ⟨c, h1, h⟩ := h
      cases c with
      | none => cases h
      | some fa =>
        obtain ⟨f', args⟩ := fa
        simp only [Option.bind_eq_some_iff, Option.some.injEq] at h
        obtain ⟨a, h2, rfl⟩ := h
        refine one fun e => ?_
        simp only [Hint.ent, Ent.call.injEq] at e
        obtain ⟨rfl, e2⟩ := e
        obtain ⟨fn, hfn, hb⟩ := pf.body.b
        classical
        refine ⟨fun g B => if g = f' ∧ B = A then some v else none, fun _ => 3, noCall, fun g B u hu => ?_, fun _ _ _ _ _ e => (by cases e), ?_⟩
        · dsimp only at hu
          split at hu
          · rename_i hg
            cases hu
            rw [hg.1, hg.2]; exact pf.ok
          · cases hu
        · unfold stepOp
          rw [h1, Option.bind_some]
          simp only [hfn, Option.bind_some, hb, Bool.false_eq_true, if_false, h2, e2, and_self, if_true, pf.own]
    | callS f A L0 v L' pf =>
      simp only [hinted, Option.bind_eq_some_iff] at h
      obtain ⟨c, h1, h⟩ := h
      cases c with
      | none => cases h
      | some fa =>
        obtain ⟨f', args⟩ := fa
        simp only [Option.some.injEq] at h
        subst h
        refine one fun e => ?_
        simp only [Hint.ent, Ent.callS.injEq] at e
        obtain ⟨rfl, rfl, rfl⟩ := e
        obtain ⟨fn, hfn, hb⟩ := pf.body.b
        classical
        refine ⟨noExt, fun _ => 1, fun g B M => if g = f' ∧ B = args ∧ M = L then some (v, L') else none, fun _ _ _ e => (by cases e), fun g B M u M' hu => ?_, ?_⟩
        · dsimp only at hu
          split at hu
          · rename_i hg
            cases hu
            rw [hg.1, hg.2.1, hg.2.2]; exact pf.ok
          · cases hu
        · unfold stepOp
          rw [h1, Option.bind_some]
          simp only [hfn, Option.bind_some, hb, Bool.false_eq_true, if_false, and_self, if_true]
    | callF f A v pf pd =>
      simp only [hinted, Option.bind_eq_some_iff] at h
      obtain ⟨c, h1, h⟩ := h
      cases c with
      | none => cases h
      | some fa =>
        obtain ⟨f', args⟩ := fa
        simp only [Option.some.injEq] at h
        subst h
        refine one fun e => ?_
        simp only [Hint.ent, Ent.callF.injEq] at e
        obtain ⟨rfl, rfl⟩ := e
        obtain ⟨fn, hfn, hb⟩ := pf.body.b
        classical
        refine ⟨fun g B => if g = f' ∧ B = args then some v else none, fun _ => 3, noCall, fun g B u hu => ?_, fun _ _ _ _ _ e => (by cases e), ?_⟩
        · dsimp only at hu
          split at hu
          · rename_i hg
            cases hu
            rw [hg.1, hg.2]; exact pf.ok
          · cases hu
        · unfold stepOp
          rw [h1, Option.bind_some]
          simp only [hfn, Option.bind_some, hb, Bool.false_eq_true, if_false, pd (hget L), and_self, if_true, pf.own]
          rfl
    | as a b pf =>
      simp only [hinted, Option.bind_eq_some_iff, Option.some.injEq] at h
      obtain ⟨p, h1, rfl⟩ := h
      refine one fun e => ?_
      simp only [Hint.ent, Ent.val.injEq] at e
      have := plain h1
      rw [e, pf] at this
      exact this
    | pure op ty vals v pf =>
      simp only [hinted, Option.bind_eq_some_iff, Option.some.injEq] at h
      obtain ⟨vs, h1, rfl⟩ := h
      refine one fun e => ?_
      simp only [Hint.ent, Ent.pure.injEq] at e
      obtain ⟨rfl, rfl, rfl⟩ := e
      obtain ⟨hc, he⟩ := pf t o (hget L) L.length rfl rfl h1
      refine ⟨noExt, fun _ => 3, noCall, fun _ _ _ e => (by cases e), fun _ _ _ _ _ e => (by cases e), ?_⟩
      unfold stepOp
      rw [hc, Option.bind_some]
      simp [he, wrAll, recOf]
    | eff op ty vals L0 e pf =>
      simp only [hinted, Option.bind_eq_some_iff] at h
      obtain ⟨vs, h1, h⟩ := h
      split at h
      case isFalse => cases h
      rename_i hwr
      simp only [Option.some.injEq] at h
      subst h
      refine one fun q => ?_
      simp only [Hint.ent, Ent.eff.injEq] at q
      obtain ⟨rfl, rfl, rfl, rfl⟩ := q
      obtain ⟨hc, he⟩ := pf t o rfl rfl h1
      refine ⟨noExt, fun _ => 3, noCall, fun _ _ _ e => (by cases e), fun _ _ _ _ _ e => (by cases e), ?_⟩
      unfold stepOp
      rw [hc, Option.bind_some]
      simp only [he, Option.bind_some]
      rw [if_pos hwr]
      rfl
    | loop => cases h
  · simp only [Option.map_eq_some_iff] at h
    obtain ⟨p, h1, rfl⟩ := h
    exact .none (plain h1)
end defs
end Go.Xv

namespace Go.Xv

/-- What the program has to be like. -/
structure Fit (P : Program) : Prop where
  ng : ∀ (f : FuncId) (fn : Func), P.funcs[f]? = some fn → fn.body.isNone = false → (fn.name == "runtime.NumGoroutine") = false
  mo : P.follows .mixedOrders = true

section code
variable {P : Program} {gl : Nat → Option (List AV)}

/-- Operations in the order of the text, each as it may be. -/
inductive SeqRun (P : Program) (gl : Nat → Option (List AV)) (ops : Array Oper) : List Oper → Tmps → List Blk → Tmps → List Blk → Prop
  | nil {t L} : SeqRun P gl ops [] t L t L
  | step {o r t L v L1 rc t' L'} (hw : wantedA ops t o = some true) (h : Step1 P gl t L 0 o v L1 rc) (s : SeqRun P gl ops r (putA t o.dst v) L1 t' L') : SeqRun P gl ops (o :: r) t L t' L'
  | skip {o r t L t' L'} (hw : wantedA ops t o = some false) (s : SeqRun P gl ops r (putA t o.dst undefA) L t' L') : SeqRun P gl ops (o :: r) t L t' L'

theorem SeqRun.sound (F : Fit P) {ops : Array Oper} {Q : Exit → Act → World → Prop} : ∀ (l : List Oper) (n : Nat) (t : Tmps) (L : List Blk) (t' : Tmps) (L' : List Blk), ops.toList.drop n = l → SeqRun P gl ops l t L t' L' →
    L.length ≤ L'.length ∧ ∀ (g : G) (w : World) (a : Act), At gl g L w t a →
      (∀ g' w' a', At gl g' L' w' t' a' → Post g (hget L) w L.length L'.length g' (hget L') w' → a'.defers = a.defers → Q .normal a' w') → wpOps P ops Q (List.range' n l.length) a w
  | [], n, t, L, t', L', _, he => by
    cases he
    exact ⟨Nat.le_refl _, fun g w a s hq => hq g w a s (Post.refl s.sim _ _) rfl⟩
  | o :: r, n, t, L, t', L', hl, he => by
    have hlt : n < ops.size := by
      rcases Nat.lt_or_ge n ops.toList.length with h | h
      · simpa using h
      · rw [List.drop_eq_nil_of_le h] at hl; cases hl
    have hcons := List.drop_eq_getElem_cons (l := ops.toList) (i := n) (by simpa using hlt)
    rw [hl] at hcons
    obtain ⟨ho, hr⟩ := List.cons.inj hcons
    have ho' : ops[n]? = some o := by rw [Array.getElem?_eq_getElem hlt, ho]; rfl
    cases he with
    | @step _ _ _ _ v L1 rc _ _ hw hs he =>
      have hsh := hs.shape
      obtain ⟨i1, i2⟩ := SeqRun.sound F r (n + 1) _ L1 t' L' hr.symm he
      refine ⟨Nat.le_trans hsh.len i1, fun g w a s hq => ?_⟩
      rw [List.length_cons, List.range'_succ]
      simp only [wpOps, ho', wantedA_sound hw s.tmps, if_true]
      left
      refine hs.sound F.ng (fun _ _ => rfl) (fun _ => rfl) (fun _ _ => rfl) s.sim s.gl s.tmps (fun b hb => by have := s.bd b hb; omega) (fun _ => s.bd) fun u g' w' hu hp => ?_
      rw [hsh.after] at hu hp
      exact i2 g' w' _ (s.next hp hsh.len hu) fun g2 w2 a2 s2 p2 hd => hq g2 w2 a2 s2 (hp.trans p2 hsh.len i1) (hd.trans (put_defers _ _ _))
    | skip hw he =>
      obtain ⟨i1, i2⟩ := SeqRun.sound F r (n + 1) _ L t' L' hr.symm he
      refine ⟨i1, fun g w a s hq => ?_⟩
      rw [List.length_cons, List.range'_succ]
      simp only [wpOps, ho', wantedA_sound hw s.tmps, Bool.false_eq_true, if_false]
      exact i2 g w _ (s.skip o.dst) fun g2 w2 a2 s2 p2 hd => hq g2 w2 a2 s2 p2 (hd.trans (put_defers _ _ _))

theorem seqH_sound {ops : Array Oper} : ∀ {l : List Oper} {t : Tmps} {L : List Blk} {hs : Hints P gl} {r : QR P gl}, seqH P gl ops l t L hs = some r → Used hs r.as r.hs (SeqRun P gl ops l t L r.t r.L)
  | [], t, L, hs, r, h => by
    simp only [seqH, Option.some.injEq] at h
    subst h
    exact .none .nil
  | o :: l, t, L, hs, r, h => by
    simp only [seqH, Option.bind_eq_some_iff] at h
    obtain ⟨b, hw, h⟩ := h
    cases b with
    | true =>
      simp only [if_true, Option.bind_eq_some_iff, Option.map_eq_some_iff] at h
      obtain ⟨p, h1, q, h2, rfl⟩ := h
      exact (stepH_sound h1).trans (seqH_sound h2) fun a b => .step hw a b
    | false =>
      simp only [Bool.false_eq_true, if_false] at h
      exact (seqH_sound h).imp fun a => .skip hw a

/-- The same in any order that the region's text allows. -/
inductive DrawRun (P : Program) (gl : Nat → Option (List AV)) (ops : Array Oper) : List Oper → Nat → List Nat → List Past → Tmps → List Blk → Tmps → List Blk → Prop
  | nil {i ms past t L} : DrawRun P gl ops [] i ms past t L t L
  | cons {o r i ms past t L v L1 t' L'} {rc : Option Rec} (hes : (edgesOf o).all (Nat.blt · i) = true)
      (h : (∃ r', rc = some r' ∧ wantedA ops t o = some true ∧ Step1 P gl t L i o v L1 r') ∨ (rc = none ∧ wantedA ops t o = some false ∧ v = undefA ∧ L1 = L))
      (hp : past.all (fun x => (maskOf ms (edgesOf o)).testBit x.i || freely ops x o rc) = true)
      (s : DrawRun P gl ops r (i + 1) (ms ++ [maskOf ms (edgesOf o)]) (⟨i, o, rc⟩ :: past) (putA t o.dst v) L1 t' L') : DrawRun P gl ops (o :: r) i ms past t L t' L'

theorem DrawRun.trace {ops : Array Oper} : ∀ (l : List Oper) (i : Nat) (ms : List Nat) (past : List Past) (t : Tmps) (L : List Blk) (tN : Tmps) (LN : List Blk), ops.toList.drop i = l → ms.length = i →
    DrawRun P gl ops l i ms past t L tN LN →
    ∃ (X : Nat → Pt) (mm : Nat → Nat), (X i).t = t ∧ (X i).L = L ∧ (X (i + l.length)).t = tN ∧ (X (i + l.length)).L = LN ∧ (∀ e, e < i → mm e = ms.getD e 0) ∧
      (∀ q o, i ≤ q → ops[q]? = some o → StepAt P gl ops X mm q o) ∧
      (∀ p q op oq, i ≤ p → p < q → ops[p]? = some op → ops[q]? = some oq → (mm q).testBit p = true ∨ freely ops ⟨p, op, (X p).rc⟩ oq (X q).rc = true) ∧
      (∀ x ∈ past, ∀ q o, i ≤ q → ops[q]? = some o → (mm q).testBit x.i = true ∨ freely ops x o (X q).rc = true)
  | [], i, ms, past, t, L, tN, LN, hl, hms, he => by
    cases he
    have hsz : ops.size ≤ i := by
      rcases Nat.lt_or_ge i ops.toList.length with h | h
      · rw [List.drop_eq_getElem_cons h] at hl; cases hl
      · simpa using h
    have hno : ∀ {q : Nat} {o : Oper}, i ≤ q → ops[q]? = some o → False := fun hq ho => by
      have := (Array.getElem?_eq_some_iff.1 ho).1; omega
    exact ⟨fun _ => ⟨t, L, undefA, none⟩, fun e => ms.getD e 0, rfl, rfl, rfl, rfl, fun _ _ => rfl, fun q o hq ho => (hno hq ho).elim, fun p q op oq hp hpq hop hoq => (hno hp hop).elim, fun x _ q o hq ho => (hno hq ho).elim⟩
  | o :: r, i, ms, past, t, L, tN, LN, hl, hms, he => by
    have hlt : i < ops.size := by
      rcases Nat.lt_or_ge i ops.toList.length with h | h
      · simpa using h
      · rw [List.drop_eq_nil_of_le h] at hl; cases hl
    have hcons := List.drop_eq_getElem_cons (l := ops.toList) (i := i) (by simpa using hlt)
    rw [hl] at hcons
    obtain ⟨ho, hr⟩ := List.cons.inj hcons
    have ho' : ops[i]? = some o := by rw [Array.getElem?_eq_getElem hlt, ho]; rfl
    cases he with
    | @cons _ _ _ _ _ _ _ v L1 _ _ rc hes hrun hpast hrest =>
      have hlts : ∀ e ∈ edgesOf o, e < i := fun e hm => by
        have := List.all_eq_true.1 hes e hm
        simpa using this
      obtain ⟨X, mm, x1, x2, x3, x4, x5, x6, x7, x8⟩ := DrawRun.trace r (i + 1) _ _ _ _ _ _ hr.symm (by simp [hms]) hrest
      have hmi : mm i = maskOf ms (edgesOf o) := by
        rw [x5 i (by omega)]
        simp only [List.getD_eq_getElem?_getD]
        rw [List.getElem?_append_right (by omega)]
        simp [hms]
      have hml : ∀ e, e < i → mm e = ms.getD e 0 := fun e h => by rw [x5 e (by omega), getD_snoc (by omega)]
      let X' : Nat → Pt := fun q => if q = i then ⟨t, L, v, rc⟩ else X q
      have hXi : X' i = ⟨t, L, v, rc⟩ := if_pos rfl
      have hXn : ∀ q, q ≠ i → X' q = X q := fun q hq => if_neg hq
      have hend : i + (o :: r).length = (i + 1) + r.length := by simp; omega
      refine ⟨X', mm, by rw [hXi], by rw [hXi], by rw [hend, hXn _ (by omega)]; exact x3, by rw [hend, hXn _ (by omega)]; exact x4, hml, fun q oq hq hoq => ?_, fun p q op oq hp hpq hop hoq => ?_, fun x hx q oq hq hoq => ?_⟩
      · by_cases hqi : q = i
        · subst hqi
          rw [ho'] at hoq
          cases hoq
          refine ⟨hlts, fun p hp => ?_, by rw [hXi, hXn _ (by omega)]; exact x1, ?_⟩
          · rw [hmi] at hp
            obtain ⟨e, h1, h2⟩ := maskOf_bit hp
            exact ⟨e, h1, by rw [hml e (hlts e h1)]; exact h2⟩
          · rw [hXi, hXn (q + 1) (by omega), x2]
            exact hrun
        · have s := x6 q oq (by omega) hoq
          refine ⟨s.lt, s.mask, by rw [hXn q hqi, hXn (q + 1) (by omega)]; exact s.tmps, by rw [hXn q hqi, hXn (q + 1) (by omega)]; exact s.run⟩
      · by_cases hpi : p = i
        · subst hpi
          rw [ho'] at hop
          cases hop
          rw [hXi, hXn q (by omega)]
          exact x8 ⟨p, o, rc⟩ (by simp) q oq (by omega) hoq
        · rw [hXn p hpi, hXn q (by omega)]
          exact x7 p q op oq (by omega) hpq hop hoq
      · by_cases hqi : q = i
        · subst hqi
          rw [ho'] at hoq
          cases hoq
          rw [hXi, hmi]
          have := List.all_eq_true.1 hpast x hx
          simpa using this
        · rw [hXn q hqi]
          exact x8 x (by simp [hx]) q oq (by omega) hoq

theorem drawH_sound {ops : Array Oper} : ∀ {l : List Oper} {i : Nat} {ms : List Nat} {past : List Past} {t : Tmps} {L : List Blk} {hs : Hints P gl} {r : QR P gl}, drawH P gl ops l i ms past t L hs = some r →
    Used hs r.as r.hs (DrawRun P gl ops l i ms past t L r.t r.L)
  | [], _, _, _, t, L, hs, r, h => by
    simp only [drawH, Option.some.injEq] at h
    subst h
    exact .none .nil
  | o :: l, i, ms, past, t, L, hs, r, h => by
    simp only [drawH] at h
    split at h
    case isFalse => cases h
    rename_i hes
    obtain ⟨b, hw, h⟩ := Option.bind_eq_some_iff.1 h
    cases b with
    | true =>
      simp only [if_true] at h
      obtain ⟨p, h1, h⟩ := Option.bind_eq_some_iff.1 h
      split at h
      case isFalse => cases h
      rename_i hp
      obtain ⟨q, h2, rfl⟩ := Option.map_eq_some_iff.1 h
      exact (stepH_sound h1).trans (drawH_sound h2) fun a b => .cons hes (.inl ⟨_, rfl, hw, a⟩) hp b
    | false =>
      simp only [Bool.false_eq_true, if_false] at h
      split at h
      case isFalse => cases h
      rename_i hp
      exact (drawH_sound h).imp fun a => .cons hes (.inr ⟨rfl, hw, rfl, rfl⟩) hp a

theorem region_seq (F : Fit P) {id : Nat} {ops : Array Oper} {t t' : Tmps} {L L' : List Blk} (h : SeqRun P gl ops ops.toList t L t' L') : CodeOK P gl (.region id ops false) t L .normal t' L' := by
  obtain ⟨i1, _⟩ := SeqRun.sound (Q := fun _ _ _ => True) F ops.toList 0 t L t' L' rfl h
  refine ⟨i1, fun Q g w a s hq => wp_region ?_⟩
  obtain ⟨_, j2⟩ := SeqRun.sound (Q := Q) F ops.toList 0 t L t' L' rfl h
  have := j2 g w a s hq
  rw [Array.length_toList, ← List.range_eq_range'] at this
  exact this

theorem region_draw (F : Fit P) {id : Nat} {ops : Array Oper} {t t' : Tmps} {L L' : List Blk} (h : DrawRun P gl ops ops.toList 0 [] [] t L t' L') : CodeOK P gl (.region id ops true) t L .normal t' L' := by
  obtain ⟨X, mm, x1, x2, x3, x4, _, x6, x7, _⟩ := DrawRun.trace ops.toList 0 [] [] t L t' L' rfl rfl h
  have hN : 0 + ops.toList.length = ops.size := by simp
  rw [hN] at x3 x4
  obtain ⟨i1, i2⟩ := trace_sound F.ng x1 x2 x3 x4 (fun q o ho => x6 q o (Nat.zero_le _) ho) (fun p q op oq h1 h2 h3 => x7 p q op oq (Nat.zero_le _) h1 h2 h3)
  refine ⟨i1, fun Q g w a s hq => wp_region_any F.mo ?_⟩
  exact i2 Q g _ a (s.drew (w.drawn + 1)) fun g1 w1 a1 s1 p1 d1 => hq g1 w1 a1 s1 p1.of_drawn d1

theorem ok_seq {c1 c2 : Code} {t t1 t' : Tmps} {L L1 L' : List Blk} {x : Ex} (h1 : CodeOK P gl c1 t L .normal t1 L1) (h2 : CodeOK P gl c2 t1 L1 x t' L') : CodeOK P gl (.seq c1 c2) t L x t' L' := by
  obtain ⟨i1, i2⟩ := h1
  obtain ⟨j1, j2⟩ := h2
  refine ⟨Nat.le_trans i1 j1, fun Q g w a s hq => wp_seq ?_⟩
  exact i2 _ g w a s fun g1 w1 a1 s1 p1 d1 => j2 Q g1 w1 a1 s1 fun g2 w2 a2 s2 p2 d2 => hq g2 w2 a2 s2 (p1.trans p2 i1 j1) (d2.trans d1)

theorem ok_seq_out {c1 c2 : Code} {t t' : Tmps} {L L' : List Blk} {x : Ex} (h1 : CodeOK P gl c1 t L x t' L') (hx : x ≠ .normal) : CodeOK P gl (.seq c1 c2) t L x t' L' := by
  obtain ⟨i1, i2⟩ := h1
  refine ⟨i1, fun Q g w a s hq => wp_seq ?_⟩
  refine i2 _ g w a s fun g1 w1 a1 s1 p1 d1 => ?_
  cases x with
  | normal => exact absurd rfl hx
  | ret => exact hq g1 w1 a1 s1 p1 d1
  | exit id => exact hq g1 w1 a1 s1 p1 d1

theorem ok_block {id : Nat} {c : Code} {r : HR P gl} {t : Tmps} {L : List Blk} (h : CodeOK P gl c t L r.x r.t r.L) : CodeOK P gl (.block id c) t L (r.leave id).x (r.leave id).t (r.leave id).L := by
  obtain ⟨x, t', L', as, hs⟩ := r
  obtain ⟨i1, i2⟩ := h
  have hsame : (HR.leave id (⟨x, t', L', as, hs⟩ : HR P gl)).t = t' ∧ (HR.leave id (⟨x, t', L', as, hs⟩ : HR P gl)).L = L' := by
    unfold HR.leave
    dsimp only
    split
    · split <;> exact ⟨rfl, rfl⟩
    · exact ⟨rfl, rfl⟩
  rw [hsame.1, hsame.2]
  refine ⟨i1, fun Q g w a s hq => wp_block (i2 _ g w a s fun g1 w1 a1 s1 p1 d1 => ?_)⟩
  have := hq g1 w1 a1 s1 p1 d1
  cases x with
  | normal => exact this
  | ret => exact this
  | exit id' =>
    simp only [HR.leave] at this
    simp only [exOf, Exit.inBlock]
    by_cases hid : id' = id
    · subst hid
      simp only [Nat.beq_refl, if_true] at this
      simp only [if_true]
      exact this
    · have hb : Nat.beq id' id = false := by
        cases hb : Nat.beq id' id with
        | true => exact absurd (Nat.eq_of_beq_eq_true hb) hid
        | false => rfl
      rw [hb] at this
      simp only [Bool.false_eq_true, if_false] at this
      simp only [hid, if_false]
      exact this

theorem codeH_sound (F : Fit P) : ∀ {c : Code} {t : Tmps} {L : List Blk} {hs : Hints P gl} {r : HR P gl}, codeH P gl c t L hs = some r → Used hs r.as r.hs (CodeOK P gl c t L r.x r.t r.L) := by
  intro c
  induction c with
  | skip =>
    intro t L hs r h
    simp only [codeH, Option.some.injEq] at h
    subst h
    exact .none ⟨Nat.le_refl _, fun Q g w a s hq => wp_skip (hq g w a s (Post.refl s.sim _ _) rfl)⟩
  | label l =>
    intro t L hs r h
    simp only [codeH, Option.some.injEq] at h
    subst h
    exact .none ⟨Nat.le_refl _, fun Q g w a s hq => wp_label (hq g w a s (Post.refl s.sim _ _) rfl)⟩
  | ret =>
    intro t L hs r h
    simp only [codeH, Option.some.injEq] at h
    subst h
    exact .none ⟨Nat.le_refl _, fun Q g w a s hq => wp_ret (hq g w a s (Post.refl s.sim _ _) rfl)⟩
  | exit id =>
    intro t L hs r h
    simp only [codeH, Option.some.injEq] at h
    subst h
    exact .none ⟨Nat.le_refl _, fun Q g w a s hq => wp_exit (hq g w a s (Post.refl s.sim _ _) rfl)⟩
  | region id ops draw =>
    intro t L hs r h
    cases draw with
    | false =>
      simp only [codeH, Option.map_eq_some_iff] at h
      obtain ⟨q, h1, rfl⟩ := h
      exact (seqH_sound h1).imp (region_seq F)
    | true =>
      simp only [codeH] at h
      split at h
      case isFalse => cases h
      obtain ⟨q, h1, rfl⟩ := Option.map_eq_some_iff.1 h
      exact (drawH_sound h1).imp (region_draw F)
  | seq c1 c2 ih1 ih2 =>
    intro t L hs r h
    simp only [codeH, Option.bind_eq_some_iff] at h
    obtain ⟨q, h1, h⟩ := h
    have u := ih1 h1
    obtain ⟨x, t1, L1, as, hs1⟩ := q
    cases x with
    | normal =>
      simp only [Option.map_eq_some_iff] at h
      obtain ⟨q2, h2, rfl⟩ := h
      exact u.trans (ih2 h2) ok_seq
    | ret => simp only [Option.some.injEq] at h; subst h; exact u.imp fun h => ok_seq_out h (by simp)
    | exit id => simp only [Option.some.injEq] at h; subst h; exact u.imp fun h => ok_seq_out h (by simp)
  | cond b c1 c2 ih1 ih2 =>
    intro t L hs r h
    simp only [codeH] at h
    split at h
    · rename_i hb
      refine (ih1 h).imp fun ⟨i1, i2⟩ => ⟨i1, fun Q g w a s hq => wp_cond_true ((evO_sound s.gl s.tmps hb).of_toV (w := .bool true) rfl) (i2 Q g w a s hq)⟩
    · rename_i hb
      refine (ih2 h).imp fun ⟨i1, i2⟩ => ⟨i1, fun Q g w a s hq => wp_cond_false ((evO_sound s.gl s.tmps hb).of_toV (w := .bool false) rfl) (i2 Q g w a s hq)⟩
    · cases h
  | block id c ih =>
    intro t L hs r h
    simp only [codeH, Option.map_eq_some_iff] at h
    obtain ⟨q, h1, rfl⟩ := h
    have u := ih h1
    have e : (q.leave id).as = q.as ∧ (q.leave id).hs = q.hs := by
      unfold HR.leave
      split
      · split <;> exact ⟨rfl, rfl⟩
      · exact ⟨rfl, rfl⟩
    rw [e.1, e.2]
    exact u.imp ok_block
  | scope c ih =>
    intro t L hs r h
    simp only [codeH] at h
    refine (ih h).imp fun ⟨i1, i2⟩ => ⟨i1, fun Q g w a s hq => wp_scope_straight (i2 _ g w a s fun g1 w1 a1 s1 p1 d1 => ?_)⟩
    have := hq g1 w1 a1 s1 p1 d1
    cases hx : r.x with
    | normal => rw [hx] at this; exact this
    | ret => rw [hx] at this; exact this
    | exit id => rw [hx] at this; exact this
  | loop c ih =>
    intro t L hs r h
    simp only [codeH] at h
    split at h
    · rename_i k ks c0 t0 L0 x t' L' pf l
      simp only [Option.some.injEq] at h
      subst h
      refine ⟨[(k, .loop ks c0 t0 L0 x t' L' pf)], rfl, rfl, fun e => code_top ks ?_⟩
      simp only [ents, List.map_cons, List.map_nil, Hint.ent, List.cons.injEq, Ent.loop.injEq, and_true] at e
      obtain ⟨rfl, rfl, rfl⟩ := e
      exact pf
    · cases h
  | _ =>
    intro t L hs r h
    simp [codeH] at h

theorem code_hint (F : Fit P) {c : Code} {t t' : Tmps} {L L' : List Blk} {x : Ex} {hs : Hints P gl} (h : codeH P gl c t L hs = some ⟨x, t', L', ents hs, []⟩) : CodeOK P gl c t L x t' L' :=
  (codeH_sound F h).end

structure RR where
  t : Tmps
  S : List Blk
  as : List Ent

/-- A round of a loop, and what is then forgotten. -/
def roundH (P : Program) (gl : Nat → Option (List AV)) (c : Code) (n : Nat) (keep ks : List Nat) (t : Tmps) (L : List Blk) (hs : Hints P gl) : Option RR :=
  (codeH P gl c t L hs).bind fun r => match r.x, r.hs with
  | .normal, [] => if gcFit n keep r.L && Nat.ble L.length n then some ⟨(topT 0 ks r.t).map (gcA (rho n keep)), gcSel n keep r.L, r.as⟩ else none
  | _, _ => none

theorem round_next (F : Fit P) {c : Code} {n : Nat} {keep ks : List Nat} {t t2 t' : Tmps} {L S L2 L' : List Blk} {x : Ex} (hs : Hints P gl) (h : roundH P gl c n keep ks t L hs = some ⟨t2, S, ents hs⟩) (hS : gcOK (rho n keep) S L2)
    (r : Rounds P gl c t2 L2 x t' L') : Rounds P gl c t L x t' L' := by
  simp only [roundH, Option.bind_eq_some_iff] at h
  obtain ⟨⟨x1, t1, L1, as, hs1⟩, h1, h⟩ := h
  cases x1 with
  | normal =>
    cases hs1 with
    | cons p l => cases h
    | nil =>
      simp only [] at h
      split at h
      case isFalse => cases h
      rename_i hf
      simp only [Bool.and_eq_true] at hf
      simp only [Option.some.injEq, RR.mk.injEq] at h
      obtain ⟨rfl, rfl, rfl⟩ := h
      exact .next (code_hint F h1) ⟨hf.1, rfl, hS⟩ (Nat.le_of_ble_eq_true hf.2) r
  | ret => cases h
  | exit id => cases h

theorem round_out (F : Fit P) {c : Code} {t t' : Tmps} {L L' : List Blk} {x : Ex} {hs : Hints P gl} (h : codeH P gl c t L hs = some ⟨x, t', L', ents hs, []⟩) (hx : x ≠ .normal) : Rounds P gl c t L x t' L' :=
  .out (code_hint F h) hx

/-- A function, out of its body. -/
theorem body_ok {f : FuncId} {fn : Func} {c : Code} {args : List AV} {L L1 : List Blk} {x : Ex} {t1 : Tmps} {v : AV} {vs : List AV} (hf : P.funcs[f]? = some fn) (hb : fn.body = some c)
    (hc : CodeOK P gl c (args ++ List.replicate (fn.ntmps - args.length) undefA) L x t1 L1) (hx : ∀ id, x ≠ .exit id) (hr : retA P L1 t1 fn.results.toList = some vs)
    (hv : (∃ u, vs = [u] ∧ v = u) ∨ (vs.length ≠ 1 ∧ v = .tup vs)) : CallOK P gl f args L v L1 := by
  obtain ⟨i1, i2⟩ := hc
  refine ⟨i1, fun g w A S hgl hA hbd => calls_of_wp hf hb ?_⟩
  have hlen := hA.length
  have hat : At gl g L w (args ++ List.replicate (fn.ntmps - args.length) undefA) { tmps := A.toArray ++ Array.replicate (fn.ntmps - A.toArray.size) undef, defers := [] } :=
    ⟨S, hgl, by
      have : (A.toArray ++ Array.replicate (fn.ntmps - A.toArray.size) undef).toList = A ++ List.replicate (fn.ntmps - args.length) undef := by simp [hlen]
      rw [this]
      exact hA.append (VRL.replicate undef_VR _), hbd⟩
  refine i2 _ g w _ hat fun g1 w1 a1 s1 p1 d1 => ?_
  have hres := results_sound s1.sim s1.tmps hr hv
  obtain ⟨u, r1, r2⟩ := hres
  cases x with
  | exit id => exact absurd rfl (hx id)
  | normal => exact ⟨d1, u, r1, u, g1, rfl, r2, p1⟩
  | ret => exact ⟨d1, u, r1, u, g1, rfl, r2, p1⟩

/-- A call on its own: the result is a tree. -/
theorem own_ok {f : FuncId} {args : List AV} {v1 v2 : AV} {L1 : List Blk} {r2 : List Nat} (h : CallOK P gl f args [] v1 L1) (hd : deep true (hget L1) dpt v1 = some (v2, r2)) : CallOK P gl f args [] v2 [] := by
  refine ⟨Nat.le_refl _, fun g w A S hgl hA hbd => ?_⟩
  refine Calls.mono (h.2 (borrow g (hget [])) w A (by rw [hget_nil] at *; exact borrow_sim S) (by rw [hget_nil] at *; exact borrow_gl hgl) ?_ (fun b hb => hb.elim)) fun e w' he => ?_
  · rw [hget_nil] at *
    exact hA.carry true false (okVL_any args) (fun o B _ hF => ⟨.inl hF, rfl⟩) fun _ =>
      ⟨fun b hb => absurd (hbd b hb) (by simp), fun b _ hb => absurd (hbd b hb) (by simp), fun b hb => absurd (hbd b hb) (by simp), rfl⟩
  · obtain ⟨u, g2, rfl, hu, hp⟩ := he
    rw [hget_nil] at hp
    obtain ⟨g3, p3, q1, q2⟩ := iso_post (by rw [hget_nil] at S; exact S) hp 0 0
    exact ⟨u, g3, rfl, by
      rw [hget_nil]
      exact (deep_sound hp.sim (own := true) (g1 := g3) (h1 := deadH) q1 (fun o B hoo hF => by
        have : o = true := by simpa using hoo
        subst this; exact q2 B hF) dpt v1 v2 r2 u hd hu).vr, by rw [hget_nil]; exact p3⟩

def packA : List AV → AV
  | [v] => v
  | vs => .tup vs

structure VRes where
  v : AV
  L : List Blk
  as : List Ent

/-- A call, its body with hints. -/
def bodyH (P : Program) (gl : Nat → Option (List AV)) (fn : Func) (c : Code) (args : List AV) (L : List Blk) (hs : Hints P gl) : Option VRes :=
  (codeH P gl c (args ++ List.replicate (fn.ntmps - args.length) undefA) L hs).bind fun r =>
  match r.x, r.hs with
  | .exit _, _ => none
  | _, [] => (retA P r.L r.t fn.results.toList).map fun vs => ⟨packA vs, r.L, r.as⟩
  | _, _ => none

theorem bodyH_sound (F : Fit P) {f : FuncId} {fn : Func} {c : Code} {args : List AV} {L L' : List Blk} {v : AV} {hs : Hints P gl} (hf : P.funcs[f]? = some fn) (hb : fn.body = some c)
    (h : bodyH P gl fn c args L hs = some ⟨v, L', ents hs⟩) : CallOK P gl f args L v L' := by
  simp only [bodyH, Option.bind_eq_some_iff] at h
  obtain ⟨⟨x, t, L1, as, hs1⟩, h1, h⟩ := h
  have key : (∀ id, x ≠ .exit id) ∧ hs1 = [] ∧ ∃ vs, retA P L1 t fn.results.toList = some vs ∧ (⟨packA vs, L1, as⟩ : VRes) = ⟨v, L', ents hs⟩ := by
    cases x with
    | exit id => cases h
    | normal =>
      cases hs1 with
      | cons p l => cases h
      | nil =>
        obtain ⟨vs, h2, h3⟩ := Option.map_eq_some_iff.1 h
        exact ⟨fun id e => (by cases e), rfl, vs, h2, h3⟩
    | ret =>
      cases hs1 with
      | cons p l => cases h
      | nil =>
        obtain ⟨vs, h2, h3⟩ := Option.map_eq_some_iff.1 h
        exact ⟨fun id e => (by cases e), rfl, vs, h2, h3⟩
  obtain ⟨hx, rfl, vs, h2, h3⟩ := key
  simp only [VRes.mk.injEq] at h3
  obtain ⟨rfl, rfl, rfl⟩ := h3
  refine body_ok hf hb (code_hint F h1) hx h2 ?_
  unfold packA
  split
  · exact .inl ⟨_, rfl, rfl⟩
  · rename_i hne
    exact .inr ⟨fun hl => by
      obtain ⟨u, hu⟩ := List.length_eq_one_iff.1 hl
      exact hne u hu, rfl⟩

structure ORes where
  v : AV
  as : List Ent
  ok : Bool

def ownH (P : Program) (gl : Nat → Option (List AV)) (fn : Func) (c : Code) (args : List AV) (hs : Hints P gl) : Option ORes :=
  (bodyH P gl fn c args [] hs).bind fun r => (deep true (hget r.L) dpt r.v).map fun p => ⟨p.1, r.as, okV false true p.1⟩

theorem told_hint (F : Fit P) {f : FuncId} {fn : Func} {c : Code} {args : List AV} {v : AV} (hs : Hints P gl) (hf : P.funcs[f]? = some fn) (hb : fn.body = some c)
    (h : ownH P gl fn c args hs = some ⟨v, ents hs, true⟩) : ToldOK P gl f args v := by
  simp only [ownH, Option.bind_eq_some_iff, Option.map_eq_some_iff] at h
  obtain ⟨⟨v1, L1, as⟩, h1, ⟨v2, r2⟩, h2, h3⟩ := h
  simp only [ORes.mk.injEq] at h3
  obtain ⟨rfl, rfl, hok⟩ := h3
  exact ⟨⟨fn, hf, by rw [hb]; rfl⟩, hok, own_ok (bodyH_sound F hf hb h1) h2⟩

theorem shared_hint (F : Fit P) {f : FuncId} {fn : Func} {c : Code} {args : List AV} {v : AV} {L L' : List Blk} (hs : Hints P gl) (hf : P.funcs[f]? = some fn) (hb : fn.body = some c)
    (h : bodyH P gl fn c args L hs = some ⟨v, L', ents hs⟩) : SharedOK P gl f args L v L' :=
  ⟨⟨fn, hf, by rw [hb]; rfl⟩, bodyH_sound F hf hb h⟩
end code
end Go.Xv

namespace Go.Xv
variable {P : Program} {gl : Nat → Option (List AV)}

theorem opVals2 {t : Tmps} {op : Op} {x y : Operand} {a b : AV} (ho : op.operands = #[x, y]) (h : opVals gl t op = some [a, b]) : evO gl t x = some a ∧ evO gl t y = some b := by
  unfold opVals at h
  rw [ho] at h
  cases h1 : evO gl t x with
  | none => simp [h1] at h
  | some a' =>
    cases h2 : evO gl t y with
    | none => simp [h1, h2] at h
    | some b' =>
      simp [h1, h2] at h
      exact ⟨by rw [h.1], by rw [h.2]⟩

/-- Into a frozen slice. -/
theorem pure_index {ty ty' : TypeId} {x y : Operand} {own : Bool} {s n : Nat} {k : IntKind} {es : List AV} {v : AV} (hs : sliceTy P ty s = true) (hi : es[n]? = some v) :
    PureOK P gl (.indexAddr ty x y) ty' [.fz own s es, .sc (.int k (n : Int))] (.cp own v.cells 0) := fun t o h kk ho _ hv => by
  obtain ⟨h1, h2⟩ := opVals2 rfl hv
  exact ⟨by simp [callee, ho], by simp [evOp, ho, h1, h2, indexA, asN, hs, hi]⟩

/-- A counter's step. -/
theorem step_i {n : Nat} (h : n < 4611686018427387904) : AV.sc (.int .i64 (wrapI ((n : Int) + 1))) = .sc (.int .i64 ((n + 1 : Nat) : Int)) := by
  have : inI ((n : Int) + 1) = true := by
    have e : (n : Int) + 1 = Int.ofNat (n + 1) := rfl
    rw [e]
    simp only [inI, two63, Nat.blt_eq]
    omega
  unfold wrapI
  rw [this]
  rfl
theorem lt_t {m n : Nat} (h : m < n) : AV.sc (.bool (ltI (m : Int) (n : Int))) = .sc (.bool true) := by rw [ltI_eq]; simp [h]
theorem lt_f {m n : Nat} (h : n ≤ m) : AV.sc (.bool (ltI (m : Int) (n : Int))) = .sc (.bool false) := by rw [ltI_eq]; simp; omega

/-- Blocks of plain data stay as they are. -/
theorem renL_sc {α : Type} (ρ : Nat → Option Nat) (f : α → Value) : ∀ l : List α, renL ρ (l.map fun x => AV.sc (f x)) = some (l.map fun x => AV.sc (f x))
  | [] => rfl
  | a :: l => by simp [renL, ren, renL_sc ρ f l]

/-- 'append' of one live slice's elements to another that is full. -/
theorem eff_append {sT e : TypeId} {sz m n b b2 : Nat} {ag : Bool} {x y : Operand} {ty : TypeId} {L : List Blk} {cs new : List AV} {z : AV} (he : elemTy P sT = some (e, sz, ag)) (hsrc : isInt P sT = false ∧ isSrc P sT = true) (hz : zeroA P e = some z)
    (hzl : z.cells.length = sz) (h0 : sz ≠ 0) (hb : bytesOk P e = true) (hL : hget L b = .cells cs) (hl : cs.length = m * sz) (hL2 : hget L b2 = .cells new) (hl2 : new.length = n * sz) (hn : 0 < n) (hf : fitsB P e n = true) (hf2 : fitsB P e (m + n) = true) :
    EffOK P gl (.call { callee := .builtin .append, args := #[x, y], argTypes := #[sT, sT] }) ty [.sl sz ag b 0 m m, .sl sz ag b2 0 n n] L
      { val := .sl sz ag b 0 (m + n) (m + n), wr := [(b, .cells (cs ++ new))], rd := [b, b2] } := fun t o ho _ hv => by
  have hv' : evO gl t x = some (.sl sz ag b 0 m m) ∧ evO gl t y = some (.sl sz ag b2 0 n n) := opVals2 (by rfl) hv
  obtain ⟨h1, h2⟩ := hv'
  refine ⟨by simp [callee, ho], ?_⟩
  have e1 : cs.take (m * sz) = cs := by rw [← hl]; exact List.take_length
  have e2 : new.take (n * sz) = new := by rw [← hl2]; exact List.take_length
  have hne : ¬ (n = 0) := by omega
  simp [evOp, ho, h1, h2, builtinA, appendA, he, hsrc.1, hsrc.2, srcA, slLen, slCells, curCells, hL, hL2, hl, hl2, hz, hzl, h0, hb, hf, hf2, e1, e2, hne, hn]
end Go.Xv

namespace Go.Xv
variable {P : Program} {gl : Nat → Option (List AV)}

theorem mapW_sc {α : Type} (own : Bool) (h : Nat → Blk) (n : Nat) (f : α → Value) : ∀ l : List α, mapW (deep own h (n + 1)) (l.map fun x => AV.sc (f x)) = some (l.map fun x => AV.sc (f x), [])
  | [] => rfl
  | a :: l => by
    have := mapW_sc own h n f l
    have e : deep own h (n + 1) (.sc (f a)) = some (.sc (f a), []) := rfl
    rw [List.map_cons, mapW, e, Option.bind_some, this]
    rfl

theorem grp_one : ∀ l : List AV, grp false 1 l.length l = l
  | [] => rfl
  | a :: l => by simp [grp, grp_one l]

theorem deep_sl {α : Type} {own : Bool} {h : Nat → Blk} {b m : Nat} (f : α → Value) (l : List α) (n : Nat) (hb : h b = .cells (l.map fun x => AV.sc (f x))) (hm : m = l.length) :
    deep own h (n + 2) (.sl 1 false b 0 m m) = some (.fz own 1 (l.map fun x => AV.sc (f x)), [b]) := by
  subst hm
  have e1 : ((l.map fun x => AV.sc (f x)).drop 0).take (l.length * 1) = l.map fun x => AV.sc (f x) := by
    rw [List.drop_zero, Nat.mul_one]; exact List.take_of_length_le (by simp)
  have e2 : curCells h b (0 + l.length * 1) = some (l.map fun x => AV.sc (f x)) := by simp [curCells, hb]
  rw [deep, e2, Option.bind_some, if_pos ⟨Nat.le_refl _, .inr rfl⟩, e1, mapW_sc own h n f l, Option.bind_some]
  have := grp_one (l.map fun x => AV.sc (f x))
  rw [List.length_map] at this
  rw [this]

theorem ToldOK.nil {f : FuncId} {A : List AV} (s : Nat) (h : ToldOK P gl f A (.sc (.slice none 0 0))) : ToldOK P gl f A (.fz true s []) := by
  refine ⟨h.body, by simp [okV], h.ok.1, fun g w B S hg hA hb => Calls.mono (h.ok.2 g w B S hg hA hb) fun e w' he => ?_⟩
  obtain ⟨u, g', rfl, hu, hp⟩ := he
  have := hu.of_toV (w := .slice none 0 0) rfl
  subst this
  exact ⟨_, g', rfl, .fzn true s, hp⟩

/-- A call on its own, its result's tree told. -/
theorem told_deep (F : Fit P) {f : FuncId} {fn : Func} {c : Code} {args : List AV} {v1 v : AV} {L1 : List Blk} {r : List Nat} (hs : Hints P gl) (hf : P.funcs[f]? = some fn) (hb : fn.body = some c)
    (h : bodyH P gl fn c args [] hs = some ⟨v1, L1, ents hs⟩) (hd : deep true (hget L1) dpt v1 = some (v, r)) (hv : okV false true v = true) : ToldOK P gl f args v :=
  ⟨⟨fn, hf, by rw [hb]; rfl⟩, hv, own_ok (bodyH_sound F hf hb h) hd⟩

theorem mapW_cons0 {f : AV → Option (AV × List Nat)} {a : AV} {l l' : List AV} (h1 : f a = some (a, [])) (h2 : mapW f l = some (l', [])) : mapW f (a :: l) = some (a :: l', []) := by
  rw [mapW, h1, Option.bind_some, h2]; rfl

theorem frozen_nil : Frozen [] := fun _ => rfl
theorem frozen_fz {own : Bool} {s : Nat} {es : List AV} {A : List AV} (h : Frozen A) : Frozen (.fz own s es :: A) := fun hh =>
  mapW_cons0 (by cases own <;> rfl) (h hh)
theorem frozen_cp {own : Bool} {o : Nat} {es : List AV} {A : List AV} (h : Frozen A) : Frozen (.cp own es o :: A) := fun hh =>
  mapW_cons0 (by cases own <;> rfl) (h hh)
theorem frozen_sc {v : Value} {A : List AV} (h : Frozen A) : Frozen (.sc v :: A) := fun hh =>
  mapW_cons0 rfl (h hh)
end Go.Xv
namespace Go.Xv
section out
variable {P : Program} {gl : Nat → Option (List AV)} {c : Code}

/-- Behind a piece of code the state may forget. -/
theorem code_gc {t t1 t2 : Tmps} {L L1 L2 : List Blk} {x : Ex} {n : Nat} {keep ks : List Nat} (h : CodeOK P gl c t L x t1 L1) (hw : GcRel n keep ks t1 L1 t2 L2) (hn : L.length ≤ n) : CodeOK P gl c t L x t2 L2 := by
  obtain ⟨i1, i2⟩ := h
  obtain ⟨_, hl, hl1, C⟩ := gcH_spec hw
  refine ⟨by omega, fun Q g w a s hq => ?_⟩
  refine i2 Q g w a s fun g1 w1 a1 s1 p1 d1 => ?_
  have s2 := s1.gc hw
  refine hq _ w1 a1 s2 ?_ d1
  rw [hl]
  exact Post.gc C p1 (Post.refl s2.sim _ _) hn (Nat.le_refl _) s.bd fun b hb => hget_out hb

/-- The last round of a loop, and what is then forgotten. -/
def outH (P : Program) (gl : Nat → Option (List AV)) (c : Code) (n : Nat) (keep ks : List Nat) (t : Tmps) (L : List Blk) (hs : Hints P gl) : Option (Ex × RR) :=
  (codeH P gl c t L hs).bind fun r => match r.hs with
  | [] => if gcFit n keep r.L && Nat.ble L.length n then some (r.x, ⟨(topT 0 ks r.t).map (gcA (rho n keep)), gcSel n keep r.L, r.as⟩) else none
  | _ => none

theorem code_out (F : Fit P) {n : Nat} {keep ks : List Nat} {t t2 : Tmps} {L S L2 : List Blk} {x : Ex} (hs : Hints P gl) (h : outH P gl c n keep ks t L hs = some (x, ⟨t2, S, ents hs⟩)) (hS : gcOK (rho n keep) S L2) : CodeOK P gl c t L x t2 L2 := by
  simp only [outH, Option.bind_eq_some_iff] at h
  obtain ⟨⟨x1, t1, L1, as, hs1⟩, h1, h⟩ := h
  cases hs1 with
  | cons p l => cases h
  | nil =>
    simp only [] at h
    split at h
    case isFalse => cases h
    rename_i hf
    simp only [Bool.and_eq_true] at hf
    simp only [Option.some.injEq, Prod.mk.injEq, RR.mk.injEq] at h
    obtain ⟨rfl, rfl, rfl, rfl⟩ := h
    exact code_gc (code_hint F h1) ⟨hf.1, rfl, hS⟩ (Nat.le_of_ble_eq_true hf.2)

theorem round_exit (F : Fit P) {n : Nat} {keep ks : List Nat} {t t2 : Tmps} {L S L2 : List Blk} {x : Ex} (hs : Hints P gl) (h : outH P gl c n keep ks t L hs = some (x, ⟨t2, S, ents hs⟩)) (hx : x ≠ .normal) (hS : gcOK (rho n keep) S L2) : Rounds P gl c t L x t2 L2 :=
  .out (code_out F hs h hS) hx
end out

section pures
variable {P : Program} {gl : Nat → Option (List AV)}
/-- Two strings put together. -/
theorem pure_cat {ty ty' : TypeId} {x y : Operand} {z} {a b : ByteArray} (h : a.size + b.size < 9223372036854775808) :
    PureOK P gl (.binOp .add ty x y z) ty' [.sc (.string a), .sc (.string b)] (.sc (.string (a ++ b))) := fun t o hh kk ho _ hv => by
  obtain ⟨h1, h2⟩ := opVals2 rfl hv
  refine ⟨by simp [callee, ho], ?_⟩
  have hm : IntKind.i64.max = 9223372036854775807 := by decide
  have hle : ¬ (((a.size + b.size : Nat) : Int) > IntKind.i64.max) := by rw [hm]; omega
  have hs : Op.stringOp .add a b = Sem.pure (.string (a ++ b)) := by
    unfold Op.stringOp
    rw [if_neg hle]; rfl
  have hb : binA P .add ty x y (.sc (.string a)) (.sc (.string b)) = some { val := .sc (.string (a ++ b)) } := by
    show pureV P (do eqGuard .add ty x y (.string a) (.string b); binOp .add ty (.string a) (.string b)) = _
    have : (do eqGuard .add ty x y (.string a) (.string b); binOp .add ty (.string a) (.string b)) = Op.stringOp .add a b := rfl
    rw [this, hs]; rfl
  simp only [evOp, ho, h1, h2, Option.bind_eq_bind, Option.bind_some, hb]
end pures
end Go.Xv
namespace Go.Xv
section pures2
variable {P : Program} {gl : Nat → Option (List AV)}
theorem opVals3 {t : Tmps} {op : Op} {x y z : Operand} {a b c : AV} (ho : op.operands = #[x, y, z]) (h : opVals gl t op = some [a, b, c]) : evO gl t x = some a ∧ evO gl t y = some b ∧ evO gl t z = some c := by
  unfold opVals at h
  rw [ho] at h
  cases h1 : evO gl t x with
  | none => simp [h1] at h
  | some a' =>
    cases h2 : evO gl t y with
    | none => simp [h1, h2] at h
    | some b' =>
      cases h3 : evO gl t z with
      | none => simp [h1, h2, h3] at h
      | some c' =>
        simp [h1, h2, h3] at h
        exact ⟨by rw [h.1], by rw [h.2.1], by rw [h.2.2]⟩

theorem bnd_ok {k : IntKind} {n most : Nat} (d : Nat) (h : n ≤ most) : bnd (some (.sc (.int k (n : Int)))) d most = some n := by
  have h2 : 0 ≤ (n : Int) ∧ (n : Int) ≤ (most : Int) := ⟨by omega, by omega⟩
  simp only [bnd, asN]
  rw [if_pos h2]
  simp

/-- A part of a frozen slice, from its start. -/
theorem pure_to {ty ty' : TypeId} {x y : Operand} {own : Bool} {s n : Nat} {k : IntKind} {es : List AV} (hs : sliceTy P ty s = true) (hn : n ≤ es.length) :
    PureOK P gl (.slice ty x none (some y) none) ty' [.fz own s es, .sc (.int k (n : Int))] (.fz own s (es.take n)) := fun t o h kk ho _ hv => by
  obtain ⟨h1, h2⟩ := opVals2 (x := x) (y := y) (by rfl) hv
  refine ⟨by simp [callee, ho], ?_⟩
  simp only [evOp, ho, h1, optO, h2, Option.map_some, Option.bind_eq_bind, Option.bind_some, sliceA, hs, if_true]
  rw [bnd_ok es.length hn]
  simp [bnd]
/-- A part of a frozen slice, to its end. -/
theorem pure_from {ty ty' : TypeId} {x y : Operand} {own : Bool} {s n : Nat} {k : IntKind} {es : List AV} (hs : sliceTy P ty s = true) (hn : n ≤ es.length) :
    PureOK P gl (.slice ty x (some y) none none) ty' [.fz own s es, .sc (.int k (n : Int))] (.fz own s (es.drop n)) := fun t o h kk ho _ hv => by
  obtain ⟨h1, h2⟩ := opVals2 (x := x) (y := y) (by rfl) hv
  refine ⟨by simp [callee, ho], ?_⟩
  have hb : bnd none es.length es.length = some es.length := rfl
  simp only [evOp, ho, h1, optO, h2, Option.map_some, Option.bind_eq_bind, Option.bind_some, sliceA, hs, if_true, hb]
  rw [bnd_ok 0 hn]
  have : (es.drop n).take (es.length - n) = es.drop n := List.take_of_length_le (by simp)
  simp [this]

/-- A part of a string. -/
theorem pure_sub {ty ty' : TypeId} {x y z : Operand} {b : ByteArray} {l h : Nat} (ht : P.underlying ty = some .string) (h1 : l ≤ h) (h2 : h ≤ b.size) :
    PureOK P gl (.slice ty x (some y) (some z) none) ty' [.sc (.string b), .sc (.int .i64 (l : Int)), .sc (.int .i64 (h : Int))] (.sc (.string (b.extract l h))) := fun t o hh kk ho _ hv => by
  obtain ⟨e1, e2, e3⟩ := opVals3 (x := x) (y := y) (z := z) (by rfl) hv
  refine ⟨by simp [callee, ho], ?_⟩
  have c1 : 0 ≤ (l : Int) ∧ (l : Int) ≤ (h : Nat) := ⟨by omega, by omega⟩
  have c2 : 0 ≤ (h : Int) ∧ (h : Int) ≤ (b.size : Nat) := ⟨by omega, by omega⟩
  have hv : pureV P (Instr.sliceAt ty (.string b) (some (.int .i64 (l : Int))) (some (.int .i64 (h : Int))) none) = some { val := .sc (.string (b.extract l h)) } := by
    simp [pureV, Instr.sliceAt, Instr.slice, Instr.sliceBounds, Instr.sliceBound, asIntOf, underlying, program, bind, Sem.bind, purely, ht, pure, c1, c2, h1, h2, ofV, ofV1]
  simp only [evOp, ho, e1, optO, e2, e3, Option.map_some, Option.bind_eq_bind, Option.bind_some, sliceA, toV, optV, leafV, hv]
end pures2
end Go.Xv
namespace Go.Xv
/-- The one list of temporaries says less than the other. -/
def WeakT (t t0 : Tmps) : Prop := ∀ (g : G) (h : Nat → Blk) (hp : Array Obj) (L : List Value), VRL g h hp t L → VRL g h hp t0 L
theorem WeakT.nil : WeakT [] [] := fun _ _ _ _ h => h
theorem WeakT.refl (t : Tmps) : WeakT t t := fun _ _ _ _ h => h
theorem WeakT.same {a : AV} {t t0 : Tmps} (w : WeakT t t0) : WeakT (a :: t) (a :: t0) := fun g h hp L hl => by
  cases hl with | cons _ v _ L ha hl => exact .cons _ v _ L ha (w g h hp L hl)
theorem WeakT.e0 {own : Bool} {s : Nat} {t t0 : Tmps} (w : WeakT t t0) : WeakT (.e0 :: t) (.fz own s [] :: t0) := fun g h hp L hl => by
  cases hl with
  | cons _ v _ L ha hl =>
    cases ha with
    | e0 a => exact .cons _ _ _ L (.fz own s [] [] a 0 .nil rfl (by simp) (by simp) (by simp) rfl) (w g h hp L hl)
theorem WeakT.nil_slice {own : Bool} {s : Nat} {t t0 : Tmps} (w : WeakT t t0) : WeakT (.sc (.slice none 0 0) :: t) (.fz own s [] :: t0) := fun g h hp L hl => by
  cases hl with
  | cons _ v _ L ha hl =>
    have := ha.of_toV (w := .slice none 0 0) rfl
    subst this
    exact .cons _ _ _ L (.fzn own s) (w g h hp L hl)
theorem code_weak {P : Program} {gl : Nat → Option (List AV)} {c : Code} {t t0 t' : Tmps} {L L' : List Blk} {x : Ex} (w : WeakT t t0) (h : CodeOK P gl c t0 L x t' L') : CodeOK P gl c t L x t' L' :=
  ⟨h.1, fun Q g wd a s hq => h.2 Q g wd a ⟨s.sim, s.gl, w _ _ _ _ s.tmps, s.bd⟩ hq⟩
/-- Temporaries by their numbers; nothing is known of the others. -/
def tm (n : Nat) : List (Nat × AV) → Tmps
  | [] => List.replicate n .top
  | (k, v) :: r => (tm n r).set k v
end Go.Xv

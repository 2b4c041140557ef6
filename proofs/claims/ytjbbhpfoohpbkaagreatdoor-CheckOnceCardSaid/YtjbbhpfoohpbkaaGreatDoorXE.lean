/- Regions of open order, code, functions, a table of calls and ranges over a function: the interpreter is sound. No condition. -/
import Derived.Test.YtjbbhpfoohpbkaaGreatDoorXD
import Derived.LoopN
import Derived.Scope
import Derived.RangeFuncRecord
import Derived.TacticsIn
import Derived.RangeFuncLeaves
set_option linter.all false
namespace Go.Xv

theorem Post.within {g g1 g2 : G} {h h1 h2 : Nat → Blk} {w w1 w2 : World} {k k' k1 k2 : Nat} (p : Post g h w k k' g1 h1 w1) (q : Post g1 h1 w1 k1 k2 g2 h2 w2) (hk : k ≤ k1) (hk2 : k2 ≤ k') :
    Post g h w k k' g2 h2 w2 where
  sim := q.sim
  ext := p.ext.trans q.ext
  size := Nat.le_trans p.size q.size
  frame c hc hb := by
    rw [q.frame c (by have := p.size; omega) fun b hb1 e => ?_, p.frame c hc hb]
    rcases p.img b hb1 with ⟨ha, he⟩ | hle
    · exact hb b ha (by rw [← he]; exact e)
    · omega
  img b hb := by
    rcases q.img b hb with ⟨ha, he⟩ | hle
    · rcases p.img b ha with ⟨ha0, he0⟩ | hle0
      · exact .inl ⟨ha0, he.trans he0⟩
      · exact .inr (by rw [he]; exact hle0)
    · exact .inr (Nat.le_trans p.size hle)
  F o B hB := by
    rcases q.F o B hB with h1 | h1
    · exact p.F o B h1
    · exact .inr (Nat.le_trans p.size h1)
  dom b hb := by
    rcases q.dom b hb with h1 | h1
    · exact p.dom b h1
    · exact .inr ⟨by omega, by omega⟩
  os := q.os.trans p.os
  tape := q.tape.trans p.tape
  output := q.output.trans p.output

section any
variable {P : Program} {gl : Nat → Option (List AV)} {ext : ExtF} {md : FuncId → Nat} {call : CallF} {ops : Array Oper}

def dstOf (ops : Array Oper) (q : Nat) : Option Tmp := (ops[q]?).bind (·.dst)

def TS (ops : Array Oper) (X : Nat → Pt) (S : Nat → Bool) : Nat → Tmps
  | 0 => (X 0).t
  | q + 1 => if S q then putA (TS ops X S q) (dstOf ops q) (X q).v else TS ops X S q

def eff (X : Nat → Pt) (q : Nat) (h : Nat → Blk) : Nat → Blk :=
  match (X q).rc with
  | some rc => after rc (X (q + 1)).L h
  | none => h

def HS (X : Nat → Pt) (S : Nat → Bool) : Nat → (Nat → Blk)
  | 0 => hget (X 0).L
  | q + 1 => if S q then eff X q (HS X S q) else HS X S q

theorem putA_get {t1 t2 : Tmps} {d : Nat} (h : t1[d]? = t2[d]?) (ds : Option Tmp) (v : AV) : (putA t1 ds v)[d]? = (putA t2 ds v)[d]? := by
  cases ds with
  | none => exact h
  | some e =>
    simp only [putA, List.getElem?_set']
    rw [h]

theorem putA_other {t : Tmps} {d : Nat} {ds : Option Tmp} (v : AV) (h : ds ≠ some d) : (putA t ds v)[d]? = t[d]? := by
  cases ds with
  | none => rfl
  | some e =>
    have : e ≠ d := fun he => h (by rw [he])
    simp only [putA, List.getElem?_set', if_neg this]

theorem putA_comm {t : Tmps} {x y : Option Tmp} (u v : AV) (h : ∀ d, x = some d → y ≠ some d) : putA (putA t x u) y v = putA (putA t y v) x u := by
  cases x with
  | none => rfl
  | some d =>
    cases y with
    | none => rfl
    | some e =>
      have hne : d ≠ e := fun he => h d rfl (by rw [he])
      simp only [putA]
      exact List.set_comm _ _ hne

/-- Neither sees what the other touches. -/
def Indep (x y : Rec) : Prop := ∀ b, (b ∈ x.rd ∨ x.big = true) → touched y b = false

theorem meets_false {a b : List Nat} (h : meets a b = false) {x : Nat} (hx : x ∈ a) : x ∉ b := by
  intro hb
  simp only [meets, List.any_eq_false] at h
  have := h x hx
  simp [hb] at this

theorem indep_of {x y : Rec} {L L' M M' : List Blk} (sx : Shape L L' x) (sy : Shape M M' y) (h : (!x.loud || !y.loud || Rec.calm x y) = true) : Indep x y ∧ Indep y x := by
  have hq : ∀ {r : Rec} {N N' : List Blk}, Shape N N' r → r.loud = false → ∀ b, touched r b = false := fun s hl b => by
    obtain ⟨h1, h2, h3, h4⟩ := s.quiet hl
    simp [touched, h2, h3, h4]
  have hn : ∀ {r : Rec} {N N' : List Blk}, Shape N N' r → ∀ b, (b ∈ r.rd ∨ r.big = true) → r.loud = true := fun {r} {N} {N'} s b hb => by
    cases hl : r.loud with
    | true => rfl
    | false =>
      obtain ⟨h1, h2, h3, h4⟩ := s.quiet hl
      rw [h1, h4] at hb
      rcases hb with hb | hb <;> cases hb
  simp only [Bool.or_eq_true, Bool.not_eq_true'] at h
  constructor
  · intro b hb
    rcases h with (h | h) | h
    · rw [hn sx b hb] at h; cases h
    · exact hq sy h b
    · cases hly : y.loud with
      | false => exact hq sy hly b
      | true =>
        have hlx := hn sx b hb
        simp only [Rec.calm, Bool.and_eq_true, Bool.not_eq_true', Bool.and_eq_false_iff, hlx, hly, Bool.true_eq_false, or_false] at h
        obtain ⟨⟨⟨⟨⟨h1, h2⟩, h3⟩, h4⟩, h5⟩, h6⟩ := h
        have hbr : b ∈ x.rd := by
          rcases hb with hb | hb
          · exact hb
          · rw [h1] at hb; cases hb
        simp [touched, h2, meets_false h4 hbr, meets_false h6 hbr]
  · intro b hb
    rcases h with (h | h) | h
    · exact hq sx h b
    · rw [hn sy b hb] at h; cases h
    · cases hlx : x.loud with
      | false => exact hq sx hlx b
      | true =>
        have hly := hn sy b hb
        simp only [Rec.calm, Bool.and_eq_true, Bool.not_eq_true', Bool.and_eq_false_iff, hlx, hly, Bool.true_eq_false, or_false] at h
        obtain ⟨⟨⟨⟨⟨h1, h2⟩, h3⟩, h4⟩, h5⟩, h6⟩ := h
        have hbr : b ∈ y.rd := by
          rcases hb with hb | hb
          · exact hb
          · rw [h2] at hb; cases hb
        have e1 : b ∉ x.wr := fun hx => meets_false h3 hx hbr
        have e2 : b ∉ x.al := fun hx => meets_false h5 hx hbr
        simp [touched, h1, e1, e2]

variable {X : Nat → Pt} {mm : Nat → Nat} (hstep : ∀ q o, ops[q]? = some o → StepAt P gl ops X mm q o)
  (hpair : ∀ p q op oq, p < q → ops[p]? = some op → ops[q]? = some oq → (mm q).testBit p = true ∨ freely ops ⟨p, op, (X p).rc⟩ oq (X q).rc = true)

def Closed (ops : Array Oper) (S : Nat → Bool) : Prop := ∀ q o, S q = true → ops[q]? = some o → ∀ e ∈ edgesOf o, S e = true

include hstep in
theorem mask_in {S : Nat → Bool} (hc : Closed ops S) : ∀ (q : Nat) (o : Oper), ops[q]? = some o → (∀ e ∈ edgesOf o, S e = true) → ∀ p, (mm q).testBit p = true → S p = true := by
  intro q
  induction q using Nat.strongRecOn with
  | _ q ih =>
    intro o ho he p hp
    have s := hstep q o ho
    obtain ⟨e, h1, h2⟩ := s.mask p hp
    rcases h2 with rfl | h2
    · exact he _ h1
    · have hlt := s.lt e h1
      have hsz := (Array.getElem?_eq_some_iff.1 ho).1
      have hoe : ops[e]? = some ops[e] := Array.getElem?_eq_getElem (by omega)
      exact ih e hlt _ hoe (hc e _ (he e h1) hoe) p h2

include hstep in
theorem shape_at {q : Nat} {o : Oper} (ho : ops[q]? = some o) {rc : Rec} (hr : (X q).rc = some rc) : Shape (X q).L (X (q + 1)).L rc := by
  rcases (hstep q o ho).run with ⟨rc', h1, h2, h3⟩ | ⟨h1, _⟩
  · rw [hr] at h1; cases h1
    exact Step1.shape h3
  · rw [hr] at h1; cases h1

include hstep in
/-- What an operation does not touch. -/
theorem same_at {q : Nat} {o : Oper} (ho : ops[q]? = some o) {b : Nat} (hb : ∀ rc, (X q).rc = some rc → touched rc b = false) : hget (X (q + 1)).L b = hget (X q).L b ∧ ∀ h, eff X q h b = h b := by
  rcases (hstep q o ho).run with ⟨rc', h1, h2, h3⟩ | ⟨h1, _, _, h4⟩
  · refine ⟨(Step1.shape h3).out b (hb rc' h1), fun h => ?_⟩
    simp [eff, h1, after, hb rc' h1]
  · exact ⟨by rw [h4], fun h => by simp [eff, h1]⟩

include hstep in
theorem touched_at {q : Nat} {o : Oper} (ho : ops[q]? = some o) {b : Nat} (hb : ¬ ∀ rc, (X q).rc = some rc → touched rc b = false) : ∀ h, eff X q h b = hget (X (q + 1)).L b := by
  intro h
  rcases (hstep q o ho).run with ⟨rc', h1, h2, h3⟩ | ⟨h1, _⟩
  · have : touched rc' b = true := by
      cases ht : touched rc' b with
      | true => rfl
      | false => exact absurd (fun rc hr => by rw [h1] at hr; cases hr; exact ht) hb
    simp [eff, h1, after, this]
  · exact absurd (fun rc hr => by rw [h1] at hr; cases hr) hb

include hstep in
theorem len_at {q : Nat} {o : Oper} (ho : ops[q]? = some o) : (X q).L.length ≤ (X (q + 1)).L.length := by
  rcases (hstep q o ho).run with ⟨rc', h1, h2, h3⟩ | ⟨h1, _, _, h4⟩
  · exact (Step1.shape h3).len
  · rw [h4]; exact Nat.le_refl _

include hstep in
theorem len_mono : ∀ (d p : Nat), p + d ≤ ops.size → (X p).L.length ≤ (X (p + d)).L.length
  | 0, p, _ => Nat.le_refl _
  | d + 1, p, h => by
    have h1 := len_mono d p (by omega)
    have h2 := len_at hstep (q := p + d) (Array.getElem?_eq_getElem (by omega))
    exact Nat.le_trans h1 h2

/-- Two operations that may change places. -/
structure Free (ops : Array Oper) (X : Nat → Pt) (p q : Nat) (op oq : Oper) : Prop where
  look : ∀ d, op.dst = some d → d ∉ oq.looksAt ops
  dst : ∀ d, op.dst = some d → oq.dst ≠ some d
  ind : ∀ rp rq, (X p).rc = some rp → (X q).rc = some rq → Indep rp rq

include hstep in
theorem free_of {p q : Nat} {op oq : Oper} (hop : ops[p]? = some op) (hoq : ops[q]? = some oq) (h : freely ops ⟨p, op, (X p).rc⟩ oq (X q).rc = true) : Free ops X p q op oq ∧ Free ops X q p oq op := by
  unfold freely at h
  simp only [Bool.and_eq_true] at h
  obtain ⟨h1, h2⟩ := h
  obtain ⟨a1, a2, a3⟩ := Oper.apart_spec h1
  have hind : ∀ rp rq, (X p).rc = some rp → (X q).rc = some rq → Indep rp rq ∧ Indep rq rp := fun rp rq e1 e2 => by
    rw [e1, e2] at h2
    exact indep_of (shape_at hstep hop e1) (shape_at hstep hoq e2) h2
  exact ⟨⟨a1, a2, fun rp rq e1 e2 => (hind rp rq e1 e2).1⟩, ⟨a3, fun d hd e => a2 d e hd, fun rq rp e1 e2 => (hind rp rq e2 e1).2⟩⟩

/-- A set of operations already done, and one that may come next. -/
structure Next (ops : Array Oper) (S : Nat → Bool) (j : Nat) (o : Oper) : Prop where
  cl : Closed ops S
  op : ops[j]? = some o
  new : S j = false
  edges : ∀ e ∈ edgesOf o, S e = true

include hstep hpair in
theorem free_early {S : Nat → Bool} {j : Nat} {o : Oper} (n : Next ops S j o) {q : Nat} {oq : Oper} (hq : q < j) (hoq : ops[q]? = some oq) (hs : S q = false) : Free ops X q j oq o ∧ Free ops X j q o oq := by
  rcases hpair q j oq o hq hoq n.op with h | h
  · have := mask_in hstep n.cl j o n.op n.edges q h
    rw [hs] at this; cases this
  · exact free_of hstep hoq n.op h

include hstep hpair in
theorem free_late {S : Nat → Bool} {j : Nat} {o : Oper} (n : Next ops S j o) {q : Nat} {oq : Oper} (hq : j < q) (hoq : ops[q]? = some oq) (hs : S q = true) : Free ops X j q o oq ∧ Free ops X q j oq o := by
  rcases hpair j q o oq hq n.op hoq with h | h
  · have := mask_in hstep n.cl q oq hoq (n.cl q oq hs hoq) j h
    rw [n.new] at this; cases this
  · exact free_of hstep n.op hoq h

include hstep hpair in
/-- What the next one sees of the heap is what it saw in the order of the text. -/
theorem heap_seen {S : Nat → Bool} {j : Nat} {o : Oper} (n : Next ops S j o) {rj : Rec} (hr : (X j).rc = some rj) {b : Nat} (hb : b ∈ rj.rd ∨ rj.big = true) :
    ∀ q, q ≤ ops.size → HS X S q b = hget (X (min q j)).L b
  | 0, _ => by simp [HS]
  | q + 1, hq => by
    have ih := heap_seen n hr hb q (by omega)
    have hoq : ops[q]? = some ops[q] := Array.getElem?_eq_getElem (by omega)
    rcases Nat.lt_trichotomy q j with h | h | h
    · rw [Nat.min_eq_left (by omega)] at ih ⊢
      cases hs : S q with
      | true =>
        simp only [HS, hs, if_true]
        by_cases ht : ∀ rc, (X q).rc = some rc → touched rc b = false
        · obtain ⟨e1, e2⟩ := same_at hstep hoq ht
          rw [e2, e1, ih]
        · exact touched_at hstep hoq ht _
      | false =>
        simp only [HS, hs, Bool.false_eq_true, if_false]
        obtain ⟨f1, f2⟩ := free_early hstep hpair n h hoq hs
        obtain ⟨e1, e2⟩ := same_at hstep hoq (b := b) fun rc hrc => f2.ind rj rc hr hrc b hb
        rw [e1, ih]
    · subst h
      rw [Nat.min_eq_left (Nat.le_refl _)] at ih
      rw [Nat.min_eq_right (by omega)]
      simp only [HS, n.new, Bool.false_eq_true, if_false]
      exact ih
    · rw [Nat.min_eq_right (by omega)] at ih ⊢
      cases hs : S q with
      | true =>
        simp only [HS, hs, if_true]
        obtain ⟨f1, f2⟩ := free_late hstep hpair n h hoq hs
        obtain ⟨e1, e2⟩ := same_at hstep hoq (b := b) fun rc hrc => f1.ind rj rc hr hrc b hb
        rw [e2, ih]
      | false =>
        simp only [HS, hs, Bool.false_eq_true, if_false]
        exact ih

include hstep hpair in
theorem tmps_seen {S : Nat → Bool} {j : Nat} {o : Oper} (n : Next ops S j o) {d : Tmp} (hd : d ∈ o.looksAt ops) :
    ∀ q, q ≤ ops.size → (TS ops X S q)[d]? = (X (min q j)).t[d]?
  | 0, _ => by simp [TS]
  | q + 1, hq => by
    have ih := tmps_seen n hd q (by omega)
    have hoq : ops[q]? = some ops[q] := Array.getElem?_eq_getElem (by omega)
    have hdq : dstOf ops q = ops[q].dst := by simp [dstOf, hoq]
    rcases Nat.lt_trichotomy q j with h | h | h
    · rw [Nat.min_eq_left (by omega)] at ih ⊢
      rw [(hstep q _ hoq).tmps]
      cases hs : S q with
      | true =>
        simp only [TS, hs, if_true, hdq]
        exact putA_get ih _ _
      | false =>
        simp only [TS, hs, Bool.false_eq_true, if_false]
        obtain ⟨f1, f2⟩ := free_early hstep hpair n h hoq hs
        rw [putA_other _ fun e => f1.look d e hd]
        exact ih
    · subst h
      rw [Nat.min_eq_left (Nat.le_refl _)] at ih
      rw [Nat.min_eq_right (by omega)]
      simp only [TS, n.new, Bool.false_eq_true, if_false]
      exact ih
    · rw [Nat.min_eq_right (by omega)] at ih ⊢
      cases hs : S q with
      | true =>
        simp only [TS, hs, if_true, hdq]
        obtain ⟨f1, f2⟩ := free_late hstep hpair n h hoq hs
        rw [putA_other _ fun e => f2.look d e hd]
        exact ih
      | false =>
        simp only [TS, hs, Bool.false_eq_true, if_false]
        exact ih

def with_ (S : Nat → Bool) (j : Nat) : Nat → Bool := fun q => S q || q == j

include hstep hpair in
theorem tmps_after {S : Nat → Bool} {j : Nat} {o : Oper} (n : Next ops S j o) :
    ∀ q, q ≤ ops.size → TS ops X (with_ S j) q = if j < q then putA (TS ops X S q) o.dst (X j).v else TS ops X S q
  | 0, _ => by simp [TS]
  | q + 1, hq => by
    have ih := tmps_after n q (by omega)
    have hoq : ops[q]? = some ops[q] := Array.getElem?_eq_getElem (by omega)
    have hdq : dstOf ops q = ops[q].dst := by simp [dstOf, hoq]
    rcases Nat.lt_trichotomy q j with h | h | h
    · rw [if_neg (by omega)] at ih ⊢
      have : with_ S j q = S q := by simp [with_, Nat.ne_of_lt h]
      simp only [TS, this, ih]
    · subst h
      rw [if_neg (Nat.lt_irrefl _)] at ih
      rw [if_pos (by omega)]
      have : with_ S q q = true := by simp [with_]
      have hdo : dstOf ops q = o.dst := by simp [dstOf, n.op]
      simp only [TS, this, if_true, n.new, Bool.false_eq_true, if_false, ih, hdo]
    · rw [if_pos h] at ih
      rw [if_pos (by omega)]
      have : with_ S j q = S q := by simp [with_, Nat.ne_of_gt h]
      cases hs : S q with
      | true =>
        obtain ⟨f1, f2⟩ := free_late hstep hpair n h hoq hs
        simp only [TS, this, hs, if_true, ih, hdq]
        exact putA_comm _ _ f1.dst
      | false => simp only [TS, this, hs, Bool.false_eq_true, if_false, ih]

include hstep hpair in
theorem heap_after {S : Nat → Bool} {j : Nat} {o : Oper} (n : Next ops S j o) :
    ∀ q, q ≤ ops.size → HS X (with_ S j) q = if j < q then eff X j (HS X S q) else HS X S q
  | 0, _ => by simp [HS]
  | q + 1, hq => by
    have ih := heap_after n q (by omega)
    have hoq : ops[q]? = some ops[q] := Array.getElem?_eq_getElem (by omega)
    rcases Nat.lt_trichotomy q j with h | h | h
    · rw [if_neg (by omega)] at ih ⊢
      have : with_ S j q = S q := by simp [with_, Nat.ne_of_lt h]
      simp only [HS, this, ih]
    · subst h
      rw [if_neg (Nat.lt_irrefl _)] at ih
      rw [if_pos (by omega)]
      have : with_ S q q = true := by simp [with_]
      simp only [HS, this, if_true, n.new, Bool.false_eq_true, if_false, ih]
    · rw [if_pos h] at ih
      rw [if_pos (by omega)]
      have : with_ S j q = S q := by simp [with_, Nat.ne_of_gt h]
      cases hs : S q with
      | true =>
        obtain ⟨f1, f2⟩ := free_late hstep hpair n h hoq hs
        simp only [HS, this, hs, if_true, ih]
        funext b
        by_cases hq1 : ∀ rc, (X q).rc = some rc → touched rc b = false
        · obtain ⟨e1, e2⟩ := same_at hstep hoq hq1
          rw [e2]
          by_cases hj1 : ∀ rc, (X j).rc = some rc → touched rc b = false
          · obtain ⟨e3, e4⟩ := same_at hstep n.op hj1
            rw [e4, e4, e2]
          · rw [touched_at hstep n.op hj1, touched_at hstep n.op hj1]
        · by_cases hj1 : ∀ rc, (X j).rc = some rc → touched rc b = false
          · obtain ⟨e3, e4⟩ := same_at hstep n.op hj1
            rw [e4, touched_at hstep hoq hq1, touched_at hstep hoq hq1]
          · exfalso
            -- both touch b
            obtain ⟨rq, hrq⟩ : ∃ rq, (X q).rc = some rq := by
              cases hx : (X q).rc with
              | none => exact absurd (fun rc hr => by rw [hx] at hr; cases hr) hq1
              | some r => exact ⟨r, rfl⟩
            obtain ⟨rj, hrj⟩ : ∃ rj, (X j).rc = some rj := by
              cases hx : (X j).rc with
              | none => exact absurd (fun rc hr => by rw [hx] at hr; cases hr) hj1
              | some r => exact ⟨r, rfl⟩
            have tq : touched rq b = true := by
              cases ht : touched rq b with
              | true => rfl
              | false => exact absurd (fun rc hr => by rw [hrq] at hr; cases hr; exact ht) hq1
            have tj : touched rj b = true := by
              cases ht : touched rj b with
              | true => rfl
              | false => exact absurd (fun rc hr => by rw [hrj] at hr; cases hr; exact ht) hj1
            have sq := shape_at hstep hoq hrq
            have sj := shape_at hstep n.op hrj
            have i1 := f1.ind rj rq hrj hrq b
            have i2 := f2.ind rq rj hrq hrj b
            have nj : ¬ (b ∈ rj.rd ∨ rj.big = true) := fun h => by rw [i1 h] at tq; cases tq
            have nq : ¬ (b ∈ rq.rd ∨ rq.big = true) := fun h => by rw [i2 h] at tj; cases tj
            simp only [touched, Bool.or_eq_true, List.contains_iff_mem] at tq tj
            have aq : b ∈ rq.al := by
              rcases tq with (h | h) | h
              · exact absurd (.inr h) nq
              · exact absurd (.inl (sq.wr b h)) nq
              · exact h
            have aj : b ∈ rj.al := by
              rcases tj with (h | h) | h
              · exact absurd (.inr h) nj
              · exact absurd (.inl (sj.wr b h)) nj
              · exact h
            have b1 := (sq.al b).1 aq
            have b2 := (sj.al b).1 aj
            have := len_mono hstep (q - (j + 1)) (j + 1) (by omega)
            rw [show j + 1 + (q - (j + 1)) = q from by omega] at this
            omega
      | false => simp only [HS, this, hs, Bool.false_eq_true, if_false, ih]

include hstep in
/-- When all is done. -/
theorem all_done {S : Nat → Bool} (hS : ∀ q, q < ops.size → S q = true) : ∀ q, q ≤ ops.size → TS ops X S q = (X q).t ∧ HS X S q = hget (X q).L
  | 0, _ => ⟨rfl, rfl⟩
  | q + 1, hq => by
    obtain ⟨i1, i2⟩ := all_done hS q (by omega)
    have hoq : ops[q]? = some ops[q] := Array.getElem?_eq_getElem (by omega)
    have hdq : dstOf ops q = ops[q].dst := by simp [dstOf, hoq]
    refine ⟨by simp only [TS, hS q (by omega), if_true, hdq, i1]; exact (hstep q _ hoq).tmps.symm, ?_⟩
    simp only [HS, hS q (by omega), if_true, i2]
    funext b
    by_cases ht : ∀ rc, (X q).rc = some rc → touched rc b = false
    · obtain ⟨e1, e2⟩ := same_at hstep hoq ht
      rw [e2, e1]
    · exact touched_at hstep hoq ht _
end any
end Go.Xv

namespace Go.Xv

theorem filter_less {p p' : Nat → Bool} : ∀ (l : List Nat), (∀ x ∈ l, p' x = true → p x = true) → (∃ j ∈ l, p j = true ∧ p' j = false) → (l.filter p').length < (l.filter p).length
  | [], _, ⟨j, hj, _⟩ => by cases hj
  | x :: l, hm, ⟨j, hj, h1, h2⟩ => by
    have hle : ∀ l : List Nat, (∀ x ∈ l, p' x = true → p x = true) → (l.filter p').length ≤ (l.filter p).length := by
      intro l
      induction l with
      | nil => intro _; exact Nat.le_refl _
      | cons y l ih =>
        intro h
        have i := ih fun x hx => h x (by simp [hx])
        simp only [List.filter_cons]
        cases hy : p' y with
        | true => rw [h y (by simp) hy]; simp; omega
        | false => cases p y <;> simp <;> omega
    by_cases hxj : x = j
    · subst hxj
      simp only [List.filter_cons, h1, h2, Bool.false_eq_true, if_true, if_false, List.length_cons]
      have := hle l fun x hx => hm x (by simp [hx])
      omega
    · have hj' : j ∈ l := by
        rcases List.mem_cons.1 hj with e | e
        · exact absurd e.symm hxj
        · exact e
      have i := filter_less l (fun x hx => hm x (by simp [hx])) ⟨j, hj', h1, h2⟩
      simp only [List.filter_cons]
      cases hy : p' x with
      | true => rw [hm x (by simp) hy]; simp; omega
      | false => cases p x <;> simp <;> omega

section any
variable {P : Program} {gl : Nat → Option (List AV)} {ext : ExtF} {md : FuncId → Nat} {call : CallF} {ops : Array Oper}

theorem evO_seen {gl : Nat → Option (List AV)} {t t' : Tmps} {x : Operand} (h : ∀ d, x = .tmp d → t'[d]? = t[d]?) : evO gl t' x = evO gl t x := by
  cases x with
  | tmp d => simp only [evO, List.getD_eq_getElem?_getD, h d rfl]
  | _ => rfl

theorem wantedA_seen {t t' : Tmps} {o : Oper} (h : ∀ d ∈ o.looksAt ops, t'[d]? = t[d]?) : wantedA ops t' o = wantedA ops t o := by
  unfold wantedA
  cases hg : o.guard with
  | none => rfl
  | some jw =>
    obtain ⟨j, want⟩ := jw
    have : yieldedA ops t' j = yieldedA ops t j := by
      unfold yieldedA
      cases hd : (ops[j]?).bind (·.dst) with
      | none => rfl
      | some d =>
        simp only []
        rw [h d (by simp [Oper.looksAt, hg, hd])]
    simp only [this]

def inS (listed : Array Bool) : Nat → Bool := fun q => listed.getD q false

theorem inS_set {listed : Array Bool} {j : Nat} (hj : j < listed.size) : inS (listed.setIfInBounds j true) = with_ (inS listed) j := by
  funext q
  simp only [inS, with_]
  by_cases h : q = j
  · subst h; simp [hj]
  · have h1 : (listed.setIfInBounds j true).getD q false = listed.getD q false := getD_set_ne false (Ne.symm h)
    rw [h1]
    simp [h]

/-- The state in the midst of a region. -/
structure Mid (gl : Nat → Option (List AV)) (ops : Array Oper) (X : Nat → Pt) (g0 : G) (w0 : World) (a0 : Act) (listed : Array Bool) (g : G) (w : World) (a : Act) : Prop where
  size : listed.size = ops.size
  cl : Closed ops (inS listed)
  sim : Sim g (HS X (inS listed) ops.size) w.heap
  gl : GlOK gl g (HS X (inS listed) ops.size) w.heap
  tmps : VRL g (HS X (inS listed) ops.size) w.heap (TS ops X (inS listed) ops.size) a.tmps.toList
  dom : ∀ b, g.dom b → b < (X 0).L.length ∨ ∃ q, q < ops.size ∧ inS listed q = true ∧ (X q).L.length ≤ b ∧ b < (X (q + 1)).L.length
  post : Post g0 (hget (X 0).L) w0 (X 0).L.length (X ops.size).L.length g (HS X (inS listed) ops.size) w
  defers : a.defers = a0.defers

variable {X : Nat → Pt} {mm : Nat → Nat} (hNG : ∀ (f : FuncId) (fn : Func), P.funcs[f]? = some fn → fn.body.isNone = false → (fn.name == "runtime.NumGoroutine") = false)
  (hstep : ∀ q o, ops[q]? = some o → StepAt P gl ops X mm q o)
  (hpair : ∀ p q op oq, p < q → ops[p]? = some op → ops[q]? = some oq → (mm q).testBit p = true ∨ freely ops ⟨p, op, (X p).rc⟩ oq (X q).rc = true)
include hNG hstep hpair

theorem any_sound {Q : Exit → Act → World → Prop} {g0 : G} {w0 : World} {a0 : Act}
    (hq : ∀ g w a, At gl g (X ops.size).L w (X ops.size).t a → Post g0 (hget (X 0).L) w0 (X 0).L.length (X ops.size).L.length g (hget (X ops.size).L) w → a.defers = a0.defers → Q .normal a w) :
    ∀ (fuel : Nat) (listed : Array Bool) (g : G) (w : World) (a : Act), ((List.range ops.size).filter fun q => !inS listed q).length ≤ fuel → Mid gl ops X g0 w0 a0 listed g w a →
      wpAny P .any ops Q fuel listed a w := by
  -- nothing is ready: all is done
  have hend : ∀ (listed : Array Bool) (g : G) (w : World) (a : Act), Mid gl ops X g0 w0 a0 listed g w a → Region.ready .any ops listed = [] → Q .normal a w := by
    intro listed g w a m hr
    have hall : ∀ q, q < ops.size → inS listed q = true := by
      intro q
      induction q using Nat.strongRecOn with
      | _ q ih =>
        intro hlt
        cases hs : inS listed q with
        | true => rfl
        | false =>
          exfalso
          have hoq : ops[q]? = some ops[q] := Array.getElem?_eq_getElem hlt
          have : q ∈ Region.ready .any ops listed := by
            rw [mem_ready]
            refine ⟨?_, ops[q], hoq, fun e he hb => ?_⟩
            · have hlt' : q < listed.size := by rw [m.size]; exact hlt
              simp only [inS] at hs
              simp only [Array.getD, hlt', dif_pos] at hs ⊢
              exact hs
            · have hlt' := (hstep q _ hoq).lt e.on (List.mem_filterMap.2 ⟨e, by simpa using he, by simp [hb]⟩)
              exact ih e.on hlt' (by omega)
          rw [hr] at this; cases this
    obtain ⟨e1, e2⟩ := all_done hstep hall ops.size (Nat.le_refl _)
    have ms := m.sim
    have mg := m.gl
    have mt := m.tmps
    have mp := m.post
    rw [e2] at ms mg mt mp
    rw [e1] at mt
    refine hq g w a ⟨ms, mg, mt, fun b hb => ?_⟩ mp m.defers
    rcases m.dom b hb with h | ⟨q, h1, _, _, h4⟩
    · have := len_mono hstep ops.size 0 (by omega)
      rw [Nat.zero_add] at this; omega
    · have := len_mono hstep (ops.size - (q + 1)) (q + 1) (by omega)
      rw [show q + 1 + (ops.size - (q + 1)) = ops.size from by omega] at this
      omega
  intro fuel
  induction fuel with
  | zero =>
    intro listed g w a hf m
    have hr : Region.ready .any ops listed = [] := by
      cases hr : Region.ready .any ops listed with
      | nil => rfl
      | cons j r =>
        exfalso
        have hj : j ∈ Region.ready .any ops listed := by rw [hr]; simp
        obtain ⟨h0, o, ho, _⟩ := mem_ready.1 hj
        have hlt := (Array.getElem?_eq_some_iff.1 ho).1
        have hlt' : j < listed.size := by rw [m.size]; exact hlt
        have hs : inS listed j = false := by
          simp only [inS]
          simp only [Array.getD, hlt', dif_pos] at h0 ⊢
          exact h0
        have : j ∈ (List.range ops.size).filter fun q => !inS listed q := by simp [hlt, hs]
        have := List.length_pos_of_mem this
        omega
    exact ⟨hr, hend listed g w a m hr⟩
  | succ fuel ih =>
    intro listed g w a hf m
    refine ⟨hend listed g w a m, fun j hj => ?_⟩
    obtain ⟨h0, o, ho, hed⟩ := mem_ready.1 hj
    have hlt := (Array.getElem?_eq_some_iff.1 ho).1
    have hlt' : j < listed.size := by rw [m.size]; exact hlt
    have hs : inS listed j = false := by
      simp only [inS]
      simp only [Array.getD, hlt', dif_pos] at h0 ⊢
      exact h0
    have hedges : ∀ e ∈ edgesOf o, inS listed e = true := fun e he => by
      obtain ⟨x, hx, hxe⟩ := List.mem_filterMap.1 he
      split at hxe
      · rename_i hb
        cases hxe
        exact hed x (by simpa using hx) hb
      · cases hxe
    have n : Next ops (inS listed) j o := ⟨m.cl, ho, hs, hedges⟩
    have hseen : ∀ d ∈ o.looksAt ops, (TS ops X (inS listed) ops.size)[d]? = (X j).t[d]? := fun d hd => by
      have := tmps_seen hstep hpair n hd ops.size (Nat.le_refl _)
      rwa [Nat.min_eq_right (by omega)] at this
    have hlist : inS (listed.setIfInBounds j true) = with_ (inS listed) j := inS_set hlt'
    have hcount : ((List.range ops.size).filter fun q => !inS (listed.setIfInBounds j true) q).length ≤ fuel := by
      have : ((List.range ops.size).filter fun q => !inS (listed.setIfInBounds j true) q).length < ((List.range ops.size).filter fun q => !inS listed q).length := by
        refine filter_less _ (fun x _ hx => ?_) ⟨j, by simp [hlt], by simp [hs], ?_⟩
        · rw [hlist] at hx
          simp only [with_, Bool.not_eq_true', Bool.or_eq_false_iff] at hx
          simp [hx.1]
        · rw [hlist]; simp [with_]
      omega
    have hcl' : Closed ops (inS (listed.setIfInBounds j true)) := by
      rw [hlist]
      intro q oq hqs hoq e he
      simp only [with_, Bool.or_eq_true, beq_iff_eq] at hqs ⊢
      rcases hqs with h | h
      · exact .inl (m.cl q oq h hoq e he)
      · subst h
        rw [ho] at hoq; cases hoq
        exact .inl (hedges e he)
    have hT : TS ops X (inS (listed.setIfInBounds j true)) ops.size = putA (TS ops X (inS listed) ops.size) o.dst (X j).v := by
      rw [hlist, tmps_after hstep hpair n ops.size (Nat.le_refl _), if_pos hlt]
    have hH : HS X (inS (listed.setIfInBounds j true)) ops.size = eff X j (HS X (inS listed) ops.size) := by
      rw [hlist, heap_after hstep hpair n ops.size (Nat.le_refl _), if_pos hlt]
    have hl0 : (X 0).L.length ≤ (X j).L.length := by
      have := len_mono hstep j 0 (by omega)
      rwa [Nat.zero_add] at this
    have hlN : (X (j + 1)).L.length ≤ (X ops.size).L.length := by
      have := len_mono hstep (ops.size - (j + 1)) (j + 1) (by omega)
      rwa [show j + 1 + (ops.size - (j + 1)) = ops.size from by omega] at this
    have hdisj : ∀ b, g.dom b → ¬ ((X j).L.length ≤ b ∧ b < (X (j + 1)).L.length) := by
      intro b hb hin
      rcases m.dom b hb with h | ⟨q, h1, h2, h3, h4⟩
      · omega
      · rcases Nat.lt_trichotomy q j with h | h | h
        · have := len_mono hstep (j - (q + 1)) (q + 1) (by omega)
          rw [show q + 1 + (j - (q + 1)) = j from by omega] at this
          omega
        · subst h; rw [hs] at h2; cases h2
        · have := len_mono hstep (q - (j + 1)) (j + 1) (by omega)
          rw [show j + 1 + (q - (j + 1)) = q from by omega] at this
          omega
    unfold wpOp
    simp only [ho]
    have hwant : wantedA ops (TS ops X (inS listed) ops.size) o = wantedA ops (X j).t o := wantedA_seen hseen
    rcases (hstep j o ho).run with ⟨rc, r1, r2, r3⟩ | ⟨r1, r2, r3, r4⟩
    · rw [r2] at hwant
      rw [if_pos (wantedA_sound hwant m.tmps)]
      left
      have haf : ∀ h, eff X j h = after rc (X (j + 1)).L h := fun h => by simp [eff, r1]
      refine Step1.sound hNG r3 (h' := HS X (inS listed) ops.size) (t' := TS ops X (inS listed) ops.size) (fun x hx => evO_seen fun d hd => ?_) (fun hb => ?_) (fun b hb => ?_) m.sim m.gl m.tmps hdisj (fun hb b hd => ?_) fun u g' w' hu hp => ?_
      · refine hseen d ?_
        subst hd
        exact List.mem_append_left _ (List.mem_filterMap.2 ⟨.tmp d, by simpa using hx, rfl⟩)
      · funext b
        have := heap_seen hstep hpair n r1 (b := b) (.inr hb) ops.size (Nat.le_refl _)
        rwa [Nat.min_eq_right (by omega)] at this
      · have := heap_seen hstep hpair n r1 (b := b) (.inl hb) ops.size (Nat.le_refl _)
        rwa [Nat.min_eq_right (by omega)] at this
      · rcases m.dom b hd with h | ⟨q, h1, h2, h3, h4⟩
        · omega
        · rcases Nat.lt_trichotomy q j with h | h | h
          · have := len_mono hstep (j - (q + 1)) (q + 1) (by omega)
            rw [show q + 1 + (j - (q + 1)) = j from by omega] at this
            omega
          · subst h; rw [hs] at h2; cases h2
          · exfalso
            have hoq : ops[q]? = some ops[q] := Array.getElem?_eq_getElem h1
            obtain ⟨f1, f2⟩ := free_late hstep hpair n h hoq h2
            rcases (hstep q _ hoq).run with ⟨rq, q1, _, q3⟩ | ⟨_, _, _, q4⟩
            · have sq := Step1.shape q3
              have ht := f1.ind rc rq r1 q1 b (.inr hb)
              simp only [touched, Bool.or_eq_false_iff] at ht
              have : b ∈ rq.al := (sq.al b).2 ⟨ht.1.1, h3, h4⟩
              have h5 := ht.2
              rw [← List.contains_iff_mem] at this
              rw [this] at h5; cases h5
            · rw [q4] at h4; omega
      · rw [← haf, ← hH] at hu hp
        refine ih _ g' w' _ hcount ⟨by simp [m.size], hcl', hp.sim, m.gl.mono hp.ext, by rw [hT]; exact put_VRL (m.tmps.mono hp.ext) hu, fun b hb => ?_, m.post.within hp hl0 hlN, (put_defers _ _ _).trans m.defers⟩
        rcases hp.dom b hb with h | h
        · rcases m.dom b h with h | ⟨q, h1, h2, h3⟩
          · exact .inl h
          · exact .inr ⟨q, h1, by rw [hlist]; simp [with_, h2], h3⟩
        · exact .inr ⟨j, hlt, by rw [hlist]; simp [with_], h⟩
    · rw [r2] at hwant
      rw [if_neg (by rw [wantedA_sound hwant m.tmps]; simp)]
      have haf : ∀ h, eff X j h = h := fun h => by simp [eff, r1]
      rw [haf] at hH
      refine ih _ g w _ hcount ⟨by simp [m.size], hcl', by rw [hH]; exact m.sim, by rw [hH]; exact m.gl, by rw [hT, hH, r3]; exact put_VRL m.tmps undef_VR, fun b hb => ?_, by rw [hH]; exact m.post, (put_defers _ _ _).trans m.defers⟩
      rcases m.dom b hb with h | ⟨q, h1, h2, h3⟩
      · exact .inl h
      · exact .inr ⟨q, h1, by rw [hlist]; simp [with_, h2], h3⟩
end any

section draw
variable {P : Program} {gl : Nat → Option (List AV)} {ext : ExtF} {md : FuncId → Nat} {call : CallF} {ops : Array Oper}

/-- A region whose order is open, from its steps in the order of the text. -/
theorem trace_sound (hNG : ∀ (f : FuncId) (fn : Func), P.funcs[f]? = some fn → fn.body.isNone = false → (fn.name == "runtime.NumGoroutine") = false)
    {t t' : Tmps} {L L' : List Blk} {X : Nat → Pt} {mm : Nat → Nat} (x1 : (X 0).t = t) (x2 : (X 0).L = L) (x3 : (X ops.size).t = t') (x4 : (X ops.size).L = L')
    (hstep : ∀ q o, ops[q]? = some o → StepAt P gl ops X mm q o)
    (hpair : ∀ p q op oq, p < q → ops[p]? = some op → ops[q]? = some oq → (mm q).testBit p = true ∨ freely ops ⟨p, op, (X p).rc⟩ oq (X q).rc = true) :
    L.length ≤ L'.length ∧ ∀ (Q : Exit → Act → World → Prop) (g : G) (w : World) (a : Act), At gl g L w t a →
      (∀ g' w' a', At gl g' L' w' t' a' → Post g (hget L) w L.length L'.length g' (hget L') w' → a'.defers = a.defers → Q .normal a' w') → wpAny P .any ops Q ops.size (Array.replicate ops.size false) a w := by
  have hle : L.length ≤ L'.length := by
    have := len_mono hstep ops.size 0 (by omega)
    rwa [Nat.zero_add, x2, x4] at this
  refine ⟨hle, fun Q g w a s hq => ?_⟩
  have hno : inS (Array.replicate ops.size false) = fun _ => false := by
    funext q
    simp only [inS, Array.getD]
    split <;> simp
  have hT : ∀ q, TS ops X (fun _ => false) q = t := fun q => by
    induction q with
    | zero => exact x1
    | succ q ih => simp only [TS, Bool.false_eq_true, if_false]; exact ih
  have hH : ∀ q, HS X (fun _ => false) q = hget L := fun q => by
    induction q with
    | zero => simp only [HS, x2]
    | succ q ih => simp only [HS, Bool.false_eq_true, if_false]; exact ih
  refine any_sound hNG hstep hpair (g0 := g) (w0 := w) (a0 := a) (fun g' w' a' s' p' hd => ?_) ops.size _ g w a ?_ ⟨by simp, ?_, ?_, ?_, ?_, fun b hb => .inl ?_, ?_, rfl⟩
  · rw [x3, x4] at s'
    rw [x2, x4] at p'
    exact hq g' w' a' s' p' hd
  · exact Nat.le_trans (List.length_filter_le _ _) (by simp)
  · rw [hno]; intro q o h; cases h
  · rw [hno, hH]; exact s.sim
  · rw [hno, hH]; exact s.gl
  · rw [hno, hH, hT]; exact s.tmps
  · rw [x2]; exact s.bd b hb
  · rw [hno, hH, x2]; exact Post.refl s.sim _ _

theorem evDraw_sound (hcall : CallsOK P gl call) (hext : ExtOK P gl ext) (hNG : ∀ (f : FuncId) (fn : Func), P.funcs[f]? = some fn → fn.body.isNone = false → (fn.name == "runtime.NumGoroutine") = false)
    {t t' : Tmps} {L L' : List Blk} (he : evDraw P gl ext md call ops ops.toList 0 [] [] t L = some (t', L')) :
    L.length ≤ L'.length ∧ ∀ (Q : Exit → Act → World → Prop) (g : G) (w : World) (a : Act), At gl g L w t a →
      (∀ g' w' a', At gl g' L' w' t' a' → Post g (hget L) w L.length L'.length g' (hget L') w' → a'.defers = a.defers → Q .normal a' w') → wpAny P .any ops Q ops.size (Array.replicate ops.size false) a w := by
  obtain ⟨X, mm, x1, x2, x3, x4, _, x6, x7, _⟩ := evDraw_trace hcall hext ops.toList 0 [] [] t L t' L' rfl rfl he
  have hN : 0 + ops.toList.length = ops.size := by simp
  rw [hN] at x3 x4
  exact trace_sound hNG x1 x2 x3 x4 (fun q o ho => x6 q o (Nat.zero_le _) ho) (fun p q op oq h1 h2 h3 => x7 p q op oq (Nat.zero_le _) h1 h2 h3)
end draw
end Go.Xv

namespace Go.Xv

def exOf : Ex → Exit
  | .normal => .normal
  | .ret => .ret
  | .exit id => .exit id

section code
variable {P : Program} {gl : Nat → Option (List AV)} {ext : ExtF} {md : FuncId → Nat} {call : CallF} {N : Nat}

/-- What is known of a piece of code. -/
def CodeOK (P : Program) (gl : Nat → Option (List AV)) (c : Code) (t : Tmps) (L : List Blk) (x : Ex) (t' : Tmps) (L' : List Blk) : Prop :=
  L.length ≤ L'.length ∧ ∀ (Q : Exit → Act → World → Prop) (g : G) (w : World) (a : Act), At gl g L w t a →
    (∀ g' w' a', At gl g' L' w' t' a' → Post g (hget L) w L.length L'.length g' (hget L') w' → a'.defers = a.defers → Q (exOf x) a' w') → c.wp P Q a w

theorem At.drew {g : G} {L : List Blk} {w : World} {t : Tmps} {a : Act} (s : At gl g L w t a) (n : Nat) : At gl g L { w with drawn := n } t a := ⟨s.sim, s.gl, s.tmps, s.bd⟩

theorem loop_sound {c : Code} (hc : ∀ t L x t' L', evCode P gl ext md call N c t L = some (x, t', L') → CodeOK P gl c t L x t' L') :
    ∀ (n : Nat) (t : Tmps) (L : List Blk) (x : Ex) (t' : Tmps) (L' : List Blk), iter (evCode P gl ext md call N c) n t L = some (x, t', L') →
      L.length ≤ L'.length ∧ ∀ (Q : Exit → Act → World → Prop) (g : G) (w : World) (a : Act), At gl g L w t a →
        (∀ g' w' a', At gl g' L' w' t' a' → Post g (hget L) w L.length L'.length g' (hget L') w' → a'.defers = a.defers → Q (exOf x) a' w') → Code.rounds P c Q n a w
  | 0, t, L, x, t', L', he => by simp [iter] at he
  | n + 1, t, L, x, t', L', he => by
    simp only [iter] at he
    split at he
    · rename_i t1 L1 h1
      obtain ⟨i1, i2⟩ := hc _ _ _ _ _ h1
      obtain ⟨j1, j2⟩ := loop_sound hc n t1 L1 x t' L' he
      refine ⟨Nat.le_trans i1 j1, fun Q g w a s hq => ?_⟩
      exact i2 _ g w a s fun g1 w1 a1 s1 p1 d1 => j2 Q g1 w1 a1 s1 fun g2 w2 a2 s2 p2 d2 => hq g2 w2 a2 s2 (p1.trans p2 i1 j1) (d2.trans d1)
    · rename_i hne
      obtain ⟨i1, i2⟩ := hc _ _ _ _ _ he
      refine ⟨i1, fun Q g w a s hq => ?_⟩
      refine i2 _ g w a s fun g1 w1 a1 s1 p1 d1 => ?_
      cases x with
      | normal => exact absurd he (hne t' L')
      | ret => exact hq g1 w1 a1 s1 p1 d1
      | exit id => exact hq g1 w1 a1 s1 p1 d1

theorem evCode_sound (hcall : CallsOK P gl call) (hext : ExtOK P gl ext) (hNG : ∀ (f : FuncId) (fn : Func), P.funcs[f]? = some fn → fn.body.isNone = false → (fn.name == "runtime.NumGoroutine") = false)
    (hm : P.follows .mixedOrders = true) : ∀ (c : Code) (t : Tmps) (L : List Blk) (x : Ex) (t' : Tmps) (L' : List Blk), evCode P gl ext md call N c t L = some (x, t', L') → CodeOK P gl c t L x t' L' := by
  intro c
  induction c with
  | skip =>
    intro t L x t' L' he
    simp only [evCode, Option.some.injEq, Prod.mk.injEq] at he
    obtain ⟨rfl, rfl, rfl⟩ := he
    exact ⟨Nat.le_refl _, fun Q g w a s hq => wp_skip (hq g w a s (Post.refl s.sim _ _) rfl)⟩
  | label l =>
    intro t L x t' L' he
    simp only [evCode, Option.some.injEq, Prod.mk.injEq] at he
    obtain ⟨rfl, rfl, rfl⟩ := he
    exact ⟨Nat.le_refl _, fun Q g w a s hq => wp_label (hq g w a s (Post.refl s.sim _ _) rfl)⟩
  | ret =>
    intro t L x t' L' he
    simp only [evCode, Option.some.injEq, Prod.mk.injEq] at he
    obtain ⟨rfl, rfl, rfl⟩ := he
    exact ⟨Nat.le_refl _, fun Q g w a s hq => wp_ret (hq g w a s (Post.refl s.sim _ _) rfl)⟩
  | exit id =>
    intro t L x t' L' he
    simp only [evCode, Option.some.injEq, Prod.mk.injEq] at he
    obtain ⟨rfl, rfl, rfl⟩ := he
    exact ⟨Nat.le_refl _, fun Q g w a s hq => wp_exit (hq g w a s (Post.refl s.sim _ _) rfl)⟩
  | region id ops draw =>
    intro t L x t' L' he
    cases draw with
    | false =>
      simp only [evCode, Option.map_eq_some_iff, Prod.mk.injEq] at he
      obtain ⟨⟨t1, L1⟩, h1, rfl, rfl, rfl⟩ := he
      obtain ⟨i1, i2⟩ := evSeq_sound (Q := fun _ _ _ => True) hcall hext hNG ops.toList 0 t L t1 L1 rfl h1
      refine ⟨i1, fun Q g w a s hq => wp_region ?_⟩
      obtain ⟨_, j2⟩ := evSeq_sound (Q := Q) hcall hext hNG ops.toList 0 t L t1 L1 rfl h1
      have := j2 g w a s hq
      rw [Array.length_toList, ← List.range_eq_range'] at this
      exact this
    | true =>
      simp only [evCode] at he
      split at he
      case isFalse => cases he
      simp only [Option.map_eq_some_iff, Prod.mk.injEq] at he
      obtain ⟨⟨t1, L1⟩, h1, rfl, rfl, rfl⟩ := he
      obtain ⟨i1, i2⟩ := evDraw_sound hcall hext hNG h1
      refine ⟨i1, fun Q g w a s hq => wp_region_any hm ?_⟩
      exact i2 Q g _ a (s.drew (w.drawn + 1)) fun g1 w1 a1 s1 p1 d1 => hq g1 w1 a1 s1 p1.of_drawn d1
  | seq c1 c2 ih1 ih2 =>
    intro t L x t' L' he
    simp only [evCode] at he
    split at he
    · rename_i t1 L1 h1
      obtain ⟨i1, i2⟩ := ih1 _ _ _ _ _ h1
      obtain ⟨j1, j2⟩ := ih2 _ _ _ _ _ he
      refine ⟨Nat.le_trans i1 j1, fun Q g w a s hq => wp_seq ?_⟩
      exact i2 _ g w a s fun g1 w1 a1 s1 p1 d1 => j2 Q g1 w1 a1 s1 fun g2 w2 a2 s2 p2 d2 => hq g2 w2 a2 s2 (p1.trans p2 i1 j1) (d2.trans d1)
    · rename_i hne
      obtain ⟨i1, i2⟩ := ih1 _ _ _ _ _ he
      refine ⟨i1, fun Q g w a s hq => wp_seq ?_⟩
      refine i2 _ g w a s fun g1 w1 a1 s1 p1 d1 => ?_
      cases x with
      | normal => exact absurd he (hne t' L')
      | ret => exact hq g1 w1 a1 s1 p1 d1
      | exit id => exact hq g1 w1 a1 s1 p1 d1
  | cond b c1 c2 ih1 ih2 =>
    intro t L x t' L' he
    simp only [evCode] at he
    split at he
    · rename_i hb
      obtain ⟨i1, i2⟩ := ih1 _ _ _ _ _ he
      refine ⟨i1, fun Q g w a s hq => wp_cond_true ((evO_sound s.gl s.tmps hb).of_toV (w := .bool true) rfl) (i2 Q g w a s hq)⟩
    · rename_i hb
      obtain ⟨i1, i2⟩ := ih2 _ _ _ _ _ he
      refine ⟨i1, fun Q g w a s hq => wp_cond_false ((evO_sound s.gl s.tmps hb).of_toV (w := .bool false) rfl) (i2 Q g w a s hq)⟩
    · cases he
  | block id c ih =>
    intro t L x t' L' he
    simp only [evCode] at he
    split at he
    · rename_i id' t1 L1 h1
      obtain ⟨i1, i2⟩ := ih _ _ _ _ _ h1
      split at he
      · rename_i hid
        simp only [Option.some.injEq, Prod.mk.injEq] at he
        obtain ⟨rfl, rfl, rfl⟩ := he
        refine ⟨i1, fun Q g w a s hq => wp_block (i2 _ g w a s fun g1 w1 a1 s1 p1 d1 => ?_)⟩
        simp only [exOf, Exit.inBlock, hid, if_true]
        exact hq g1 w1 a1 s1 p1 d1
      · rename_i hid
        simp only [Option.some.injEq, Prod.mk.injEq] at he
        obtain ⟨rfl, rfl, rfl⟩ := he
        refine ⟨i1, fun Q g w a s hq => wp_block (i2 _ g w a s fun g1 w1 a1 s1 p1 d1 => ?_)⟩
        simp only [exOf, Exit.inBlock, hid, if_false]
        exact hq g1 w1 a1 s1 p1 d1
    · rename_i hne
      obtain ⟨i1, i2⟩ := ih _ _ _ _ _ he
      refine ⟨i1, fun Q g w a s hq => wp_block (i2 _ g w a s fun g1 w1 a1 s1 p1 d1 => ?_)⟩
      cases x with
      | normal => exact hq g1 w1 a1 s1 p1 d1
      | ret => exact hq g1 w1 a1 s1 p1 d1
      | exit id' => exact absurd he (hne id' t' L')
  | scope c ih =>
    intro t L x t' L' he
    simp only [evCode] at he
    obtain ⟨i1, i2⟩ := ih _ _ _ _ _ he
    refine ⟨i1, fun Q g w a s hq => wp_scope_straight (i2 _ g w a s fun g1 w1 a1 s1 p1 d1 => ?_)⟩
    have := hq g1 w1 a1 s1 p1 d1
    cases x with
    | normal => exact this
    | ret => exact this
    | exit id => exact this
  | loop c ih =>
    intro t L x t' L' he
    simp only [evCode] at he
    obtain ⟨i1, i2⟩ := loop_sound ih N t L x t' L' he
    exact ⟨i1, fun Q g w a s hq => wp_loop_rounds N (i2 Q g w a s hq)⟩
  | _ =>
    intro t L x t' L' he
    simp [evCode] at he

theorem retA_sound {L : List Blk} {g : G} {w : World} {tmps : Array Value} {t : Tmps} (S : Sim g (hget L) w.heap) (ht : VRL g (hget L) w.heap t tmps.toList) :
    ∀ (rs : List ResultVar) (vs : List AV), retA P L t rs = some vs → ∃ V : List Value, (rs.mapM fun r => (match r with
      | .tmp t => pure (tmps.getD t undef)
      | .cell a t => do loadVar t (← asAddr (tmps.getD a undef)) : Sem Value)).run P w = .ok V w ∧ VRL g (hget L) w.heap vs V
  | [], vs, he => by
    simp only [retA, Option.some.injEq] at he
    subst he
    exact ⟨[], rfl, .nil⟩
  | .tmp i :: r, vs, he => by
    simp only [retA, Option.bind_eq_bind, Option.bind_eq_some_iff, Option.some.injEq] at he
    obtain ⟨l, h1, rfl⟩ := he
    obtain ⟨V, q1, q2⟩ := retA_sound S ht r l h1
    have hv : VR g (hget L) w.heap (t.getD i undefA) (tmps.getD i undef) := evO_sound (gl := fun _ => none) (a := ⟨tmps, []⟩) (x := .tmp i) (fun _ _ h => by cases h) ht rfl
    refine ⟨tmps.getD i undef :: V, ?_, .cons _ _ _ _ hv q2⟩
    rw [List.mapM_cons, Sem.run_bind]
    simp only [Sem.run_pure, Result.andThen_ok]
    rw [Sem.run_bind, q1]; rfl
  | .cell a ty :: r, vs, he => by
    simp only [retA, Option.bind_eq_bind, Option.bind_eq_some_iff, Option.some.injEq] at he
    obtain ⟨⟨v, rd⟩, h0, l, h1, rfl⟩ := he
    obtain ⟨V, q1, q2⟩ := retA_sound S ht r l h1
    have hv : VR g (hget L) w.heap (t.getD a undefA) (tmps.getD a undef) := evO_sound (gl := fun _ => none) (a := ⟨tmps, []⟩) (x := .tmp a) (fun _ _ h => by cases h) ht rfl
    obtain ⟨u, r1, r2⟩ := ldPtr_run S h0 hv
    have hrun : ((do loadVar ty (← asAddr (tmps.getD a undef))) : Sem Value).run P w = .ok u w := by
      generalize tmps.getD a undef = p at hv r1
      generalize t.getD a undefA = q at hv h0
      cases hv with
      | ptr => exact r1
      | cp => exact r1
      | _ => simp [ldPtr] at h0
    refine ⟨u :: V, ?_, .cons _ _ _ _ r2 q2⟩
    rw [List.mapM_cons, Sem.run_bind]
    simp only [hrun, Result.andThen_ok]
    rw [Sem.run_bind, q1]; rfl

theorem results_runs {fn : Func} {tmps : Array Value} {w : World} {V : List Value} (q1 : (fn.results.toList.mapM fun r => (match r with
      | .tmp t => pure (tmps.getD t undef)
      | .cell a t => do loadVar t (← asAddr (tmps.getD a undef)) : Sem Value)).run P w = .ok V w) : ∃ u, (results fn tmps).run P w = .ok u w := by
  have hmap : (fn.results.mapM fun r => (match r with
      | .tmp t => pure (tmps.getD t undef)
      | .cell a t => do loadVar t (← asAddr (tmps.getD a undef)) : Sem Value)).run P w = .ok V.toArray w := by
    rw [Array.mapM_eq_mapM_toList]
    simp only [map_eq_pure_bind]
    rw [Sem.run_bind, q1]; rfl
  have hfun : results fn tmps = ((fn.results.mapM fun r => (match r with
      | .tmp t => pure (tmps.getD t undef)
      | .cell a t => do loadVar t (← asAddr (tmps.getD a undef)) : Sem Value)) >>= fun vs => pure (if h : vs.size = 1 then vs[0] else .tuple vs)) := by
    unfold results
    congr 1
  rw [hfun, Sem.run_bind, hmap]
  exact ⟨_, rfl⟩

/-- What a function hands back, out of its temporaries. -/
theorem results_sound {fn : Func} {L : List Blk} {g : G} {w : World} {tmps : Array Value} {t : Tmps} (S : Sim g (hget L) w.heap) (ht : VRL g (hget L) w.heap t tmps.toList) {vs : List AV} (hr : retA P L t fn.results.toList = some vs)
    {v : AV} (hv : (∃ u, vs = [u] ∧ v = u) ∨ (vs.length ≠ 1 ∧ v = .tup vs)) : ∃ u, (results fn tmps).run P w = .ok u w ∧ VR g (hget L) w.heap v u := by
  obtain ⟨V, q1, q2⟩ := retA_sound S ht fn.results.toList vs hr
  have hV := q2.length
  have hmap : (fn.results.mapM fun r => (match r with
      | .tmp t => pure (tmps.getD t undef)
      | .cell a t => do loadVar t (← asAddr (tmps.getD a undef)) : Sem Value)).run P w = .ok V.toArray w := by
    rw [Array.mapM_eq_mapM_toList]
    simp only [map_eq_pure_bind]
    rw [Sem.run_bind, q1]; rfl
  have hfun : results fn tmps = ((fn.results.mapM fun r => (match r with
      | .tmp t => pure (tmps.getD t undef)
      | .cell a t => do loadVar t (← asAddr (tmps.getD a undef)) : Sem Value)) >>= fun vs => pure (if h : vs.size = 1 then vs[0] else .tuple vs)) := by
    unfold results
    congr 1
  rw [hfun, Sem.run_bind, hmap]
  simp only [Result.andThen_ok, Sem.run_pure]
  rcases hv with ⟨u, rfl, rfl⟩ | ⟨hne, rfl⟩
  · cases q2 with
    | cons _ y _ _ ha hl =>
      cases hl
      exact ⟨y, rfl, ha⟩
  · have hsz : ¬ V.toArray.size = 1 := by simp; omega
    refine ⟨.tuple V.toArray, ?_, .tup _ _ q2⟩
    rw [dif_neg hsz]

theorem bodyC_sound (hcall : CallsOK P gl call) (hext : ExtOK P gl ext) (hNG : ∀ (f : FuncId) (fn : Func), P.funcs[f]? = some fn → fn.body.isNone = false → (fn.name == "runtime.NumGoroutine") = false)
    (hm : P.follows .mixedOrders = true) : CallsOK P gl (bodyC P gl ext md N call) := fun f args L v L' h => by
    simp only [bodyC, Option.bind_eq_bind, Option.bind_eq_some_iff] at h
    obtain ⟨fn, hf, c, hb, ⟨x, t1, L1⟩, he, h⟩ := h
    obtain ⟨i1, i2⟩ := evCode_sound hcall hext hNG hm c _ _ _ _ _ he
    have hret : ∃ vs, retA P L1 t1 fn.results.toList = some vs ∧ L' = L1 ∧ ((∃ u, vs = [u] ∧ v = u) ∨ (vs.length ≠ 1 ∧ v = .tup vs)) ∧ ∀ id, x ≠ .exit id := by
      cases x with
      | exit id => simp at h
      | normal =>
        simp only [Option.bind_eq_some_iff] at h
        obtain ⟨vs, h1, h2⟩ := h
        refine ⟨vs, h1, ?_⟩
        split at h2
        · cases h2; exact ⟨rfl, .inl ⟨_, rfl, rfl⟩, fun id e => by cases e⟩
        · rename_i hne
          cases h2; exact ⟨rfl, .inr ⟨fun hl => by
            obtain ⟨u, hu⟩ := List.length_eq_one_iff.1 hl
            exact hne u hu, rfl⟩, fun id e => by cases e⟩
      | ret =>
        simp only [Option.bind_eq_some_iff] at h
        obtain ⟨vs, h1, h2⟩ := h
        refine ⟨vs, h1, ?_⟩
        split at h2
        · cases h2; exact ⟨rfl, .inl ⟨_, rfl, rfl⟩, fun id e => by cases e⟩
        · rename_i hne
          cases h2; exact ⟨rfl, .inr ⟨fun hl => by
            obtain ⟨u, hu⟩ := List.length_eq_one_iff.1 hl
            exact hne u hu, rfl⟩, fun id e => by cases e⟩
    obtain ⟨vs, hr, rfl, hv, hx⟩ := hret
    refine ⟨i1, fun g w A S hgl hA hbd => calls_of_wp hf hb ?_⟩
    have hlen := hA.length
    have hat : At gl g L w (args ++ List.replicate (fn.ntmps - args.length) undefA) { tmps := A.toArray ++ Array.replicate (fn.ntmps - A.toArray.size) undef, defers := [] } :=
      ⟨S, hgl, by
        have : (A.toArray ++ Array.replicate (fn.ntmps - A.toArray.size) undef).toList = A ++ List.replicate (fn.ntmps - args.length) undef := by simp [hlen]
        rw [this]
        exact hA.append (VRL.replicate undef_VR _), hbd⟩
    refine i2 _ g w _ hat fun g1 w1 a1 s1 p1 d1 => ?_
    obtain ⟨V, q1, q2⟩ := retA_sound s1.sim s1.tmps fn.results.toList vs hr
    have hres : ∃ u, (results fn a1.tmps).run P w1 = .ok u w1 ∧ VR g1 (hget L') w1.heap v u := by
      have hV := q2.length
      have hmap : (fn.results.mapM fun r => (match r with
          | .tmp t => pure (a1.tmps.getD t undef)
          | .cell a t => do loadVar t (← asAddr (a1.tmps.getD a undef)) : Sem Value)).run P w1 = .ok V.toArray w1 := by
        rw [Array.mapM_eq_mapM_toList]
        simp only [map_eq_pure_bind]
        rw [Sem.run_bind, q1]; rfl
      have hfun : results fn a1.tmps = ((fn.results.mapM fun r => (match r with
          | .tmp t => pure (a1.tmps.getD t undef)
          | .cell a t => do loadVar t (← asAddr (a1.tmps.getD a undef)) : Sem Value)) >>= fun vs => pure (if h : vs.size = 1 then vs[0] else .tuple vs)) := by
        unfold results
        congr 1
      rw [hfun, Sem.run_bind, hmap]
      simp only [Result.andThen_ok, Sem.run_pure]
      rcases hv with ⟨u, rfl, rfl⟩ | ⟨hne, rfl⟩
      · cases q2 with
        | cons _ y _ _ ha hl =>
          cases hl
          exact ⟨y, rfl, ha⟩
      · have hsz : ¬ V.toArray.size = 1 := by simp; omega
        refine ⟨.tuple V.toArray, ?_, .tup _ _ q2⟩
        rw [dif_neg hsz]
    obtain ⟨u, r1, r2⟩ := hres
    cases x with
    | exit id => exact absurd rfl (hx id)
    | normal => exact ⟨d1, u, r1, u, g1, rfl, r2, p1⟩
    | ret => exact ⟨d1, u, r1, u, g1, rfl, r2, p1⟩

theorem callN_sound (hext : ExtOK P gl ext) (hNG : ∀ (f : FuncId) (fn : Func), P.funcs[f]? = some fn → fn.body.isNone = false → (fn.name == "runtime.NumGoroutine") = false)
    (hm : P.follows .mixedOrders = true) : ∀ d, CallsOK P gl (callN P gl ext md N d)
  | 0 => fun f args L v L' h => by simp [callN] at h
  | d + 1 => bodyC_sound (callN_sound hext hNG hm d) hext hNG hm
end code
end Go.Xv

namespace Go.Xv

section top
variable {P : Program} {gl : Nat → Option (List AV)} {ext : ExtF} {md : FuncId → Nat} {N : Nat}

/-- The tables that the run looks at lie in the world as they were laid. -/
def Laid (gl : Nat → Option (List AV)) (w : World) : Prop :=
  ∀ i cs, gl i = some cs → ∃ L : List Value, cs = L.map .sc ∧ (∀ v ∈ L, plainV v = true) ∧ row w.heap i 0 L ∧ i < w.heap.size ∧ wideAt w.heap i L.length

def topG (gl : Nat → Option (List AV)) : G := ⟨fun _ => 0, fun _ => 0, fun _ => 0, fun _ => False, fun _ B => ∃ cs, gl B = some cs, .bool false⟩

theorem okVL_sc (lv p : Bool) (L : List Value) : okVL lv p (L.map AV.sc) = true := by
  rw [okVL_iff]
  intro x hx
  obtain ⟨v, _, rfl⟩ := List.mem_map.1 hx
  rfl

theorem top_sim {w : World} (hl : Laid gl w) : Sim (topG gl) deadH w.heap := by
  refine ⟨fun _ => trivial, fun b b' hb _ _ => (by cases hb), fun o B hF => ?_, fun B hF => hF⟩
  obtain ⟨cs, hcs⟩ := hF
  obtain ⟨L, _, _, _, h, _⟩ := hl B cs hcs
  exact h

theorem top_gl {w : World} (hl : Laid gl w) : GlOK gl (topG gl) deadH w.heap := by
  intro i cs hi
  obtain ⟨L, rfl, hp, hr, _, hw⟩ := hl i cs hi
  exact ⟨.cp true _ 0 L i 0 (VRL.of_sc L hp) (stor_map_sc L) ⟨_, hi⟩ hr (okVL_sc _ _ L), by rw [List.length_map]; exact hw⟩

/-- Nothing that was there ahead of the call has changed. -/
structure Kept (w w' : World) : Prop where
  size : w.heap.size ≤ w'.heap.size
  heap : ∀ c, c < w.heap.size → w'.heap[c]? = w.heap[c]?
  os : w'.os = w.os
  tape : w'.tape = w.tape
  output : w'.output = w.output

theorem plain_sound (hext : ExtOK P gl ext) (hNG : ∀ (f : FuncId) (fn : Func), P.funcs[f]? = some fn → fn.body.isNone = false → (fn.name == "runtime.NumGoroutine") = false)
    (hm : P.follows .mixedOrders = true) {d : Nat} {f : FuncId} {A : List Value} (hA : ∀ v ∈ A, plainV v = true) {v : Value} {L' : List Blk} (h : callN P gl ext md N d f (A.map .sc) [] = some (.sc v, L'))
    {w : World} (hl : Laid gl w) : Calls P f A.toArray w fun e w' => e = .returned v ∧ Kept w w' := by
  obtain ⟨_, h2⟩ := callN_sound (md := md) (N := N) hext hNG hm d f _ _ _ _ h
  rw [hget_nil] at h2
  refine Calls.mono (h2 (topG gl) w A (top_sim hl) (top_gl hl) (VRL.of_sc A hA) (fun b hb => hb.elim)) fun e w' he => ?_
  obtain ⟨u, g', rfl, hu, p⟩ := he
  have := hu.of_toV (w := v) rfl
  subst this
  exact ⟨rfl, p.size, fun c hc => p.frame c hc fun b hb => (by cases hb), p.os, p.tape, p.output⟩
end top
end Go.Xv

namespace Go.Xv

def kindN : IntKind → Nat
  | .i8 => 0 | .i16 => 1 | .i32 => 2 | .i64 => 3 | .u8 => 4 | .u16 => 5 | .u32 => 6 | .u64 => 7

theorem kindN_inj {a b : IntKind} (h : kindN a = kindN b) : a = b := by cases a <;> cases b <;> first | rfl | (simp [kindN] at h)

def eqBs : List UInt8 → List UInt8 → Bool
  | [], [] => true
  | a :: l, b :: m => cond (Nat.beq a.toNat b.toNat) (eqBs l m) false
  | _, _ => false

theorem eqBs_sound : ∀ {l m : List UInt8}, eqBs l m = true → l = m
  | [], [], _ => rfl
  | [], _ :: _, h => by simp [eqBs] at h
  | _ :: _, [], h => by simp [eqBs] at h
  | a :: l, b :: m, h => by
    rw [eqBs] at h
    cases hb : Nat.beq a.toNat b.toNat with
    | false => rw [hb] at h; cases h
    | true =>
      rw [hb] at h
      rw [UInt8.toNat.inj (Nat.eq_of_beq_eq_true hb), eqBs_sound h]

def eqV : Value → Value → Bool
  | .bool a, .bool b => cond a b (!b)
  | .int k m, .int k' n => cond (Nat.beq (kindN k) (kindN k')) (eqI m n) false
  | .string s, .string t => eqBs s.data.toList t.data.toList
  | .pointer none, .pointer none => true
  | .slice none 0 0, .slice none 0 0 => true
  | .map none, .map none => true
  | .nilFunc, .nilFunc => true
  | _, _ => false

theorem eqV_sound {a b : Value} (h : eqV a b = true) : a = b := by
  unfold eqV at h
  split at h
  · rename_i a b
    cases a <;> cases b <;> first | rfl | cases h
  · rename_i k m k' n
    cases hb : Nat.beq (kindN k) (kindN k') with
    | false => rw [hb] at h; cases h
    | true =>
      rw [hb] at h
      rw [kindN_inj (Nat.eq_of_beq_eq_true hb), eqI_sound h]
  · rename_i s t
    have := eqBs_sound h
    cases s with | mk s => cases t with | mk t =>
    congr 2
    exact Array.toList_inj.1 this
  · rfl
  · rfl
  · rfl
  · rfl
  · cases h

-- equality that the kernel can reckon
mutual
def eqA : AV → AV → Bool
  | .sc a, .sc b => eqV a b
  | .e0, .e0 => true
  | .fz o s es, .fz o' s' es' => cond (cond o o' (!o')) (cond (Nat.beq s s') (eqL es es') false) false
  | .cp o es k, .cp o' es' k' => cond (cond o o' (!o')) (cond (Nat.beq k k') (eqL es es') false) false
  | .fm o es, .fm o' es' => cond (cond o o' (!o')) (eqE es es') false
  | .agg a, .agg b => eqL a b
  | .tup a, .tup b => eqL a b
  | .fn f a b, .fn f' a' b' => cond (Nat.beq f f') (cond (eqL a a') (eqL b b') false) false
  | _, _ => false
def eqL : List AV → List AV → Bool
  | [], [] => true
  | a :: l, b :: m => cond (eqA a b) (eqL l m) false
  | _, _ => false
def eqE : List (Value × AV) → List (Value × AV) → Bool
  | [], [] => true
  | a :: l, b :: m => cond (eqV a.1 b.1) (cond (eqA a.2 b.2) (eqE l m) false) false
  | _, _ => false
end

theorem cond_t {c b : Bool} (h : cond c b false = true) : c = true ∧ b = true := by cases c <;> simp_all
theorem eqb_t {a b : Bool} (h : cond a b (!b) = true) : a = b := by cases a <;> cases b <;> simp_all

mutual
theorem eqA_sound : ∀ {a b : AV}, eqA a b = true → a = b
  | .sc a, b, h => by
    cases b <;> first | (simp only [eqA] at h; rw [eqV_sound h]) | (simp [eqA] at h)
  | .e0, b, h => by cases b <;> first | rfl | (simp [eqA] at h)
  | .fz o s es, b, h => by
    cases b <;> first | (simp only [eqA] at h; obtain ⟨h1, h2⟩ := cond_t h; obtain ⟨h3, h4⟩ := cond_t h2; rw [eqb_t h1, Nat.eq_of_beq_eq_true h3, eqL_sound h4]) | (simp [eqA] at h)
  | .cp o es k, b, h => by
    cases b <;> first | (simp only [eqA] at h; obtain ⟨h1, h2⟩ := cond_t h; obtain ⟨h3, h4⟩ := cond_t h2; rw [eqb_t h1, Nat.eq_of_beq_eq_true h3, eqL_sound h4]) | (simp [eqA] at h)
  | .fm o es, b, h => by
    cases b <;> first | (simp only [eqA] at h; obtain ⟨h1, h2⟩ := cond_t h; rw [eqb_t h1, eqE_sound h2]) | (simp [eqA] at h)
  | .agg a, b, h => by
    cases b <;> first | (simp only [eqA] at h; rw [eqL_sound h]) | (simp [eqA] at h)
  | .tup a, b, h => by
    cases b <;> first | (simp only [eqA] at h; rw [eqL_sound h]) | (simp [eqA] at h)
  | .fn f a c, b, h => by
    cases b <;> first | (simp only [eqA] at h; obtain ⟨h1, h2⟩ := cond_t h; obtain ⟨h3, h4⟩ := cond_t h2; rw [Nat.eq_of_beq_eq_true h1, eqL_sound h3, eqL_sound h4]) | (simp [eqA] at h)
  | .ptr .., b, h => by cases b <;> simp [eqA] at h
  | .sl .., b, h => by cases b <;> simp [eqA] at h
  | .mp .., b, h => by cases b <;> simp [eqA] at h
  | .it .., b, h => by cases b <;> simp [eqA] at h
  | .yl, b, h => by cases b <;> simp [eqA] at h
  | .top, b, h => by cases b <;> simp [eqA] at h
theorem eqL_sound : ∀ {a b : List AV}, eqL a b = true → a = b
  | [], [], _ => rfl
  | [], _ :: _, h => by simp [eqL] at h
  | _ :: _, [], h => by simp [eqL] at h
  | a :: l, b :: m, h => by
    simp only [eqL] at h
    obtain ⟨h1, h2⟩ := cond_t h
    rw [eqA_sound h1, eqL_sound h2]
theorem eqE_sound : ∀ {a b : List (Value × AV)}, eqE a b = true → a = b
  | [], [], _ => rfl
  | [], _ :: _, h => by simp [eqE] at h
  | _ :: _, [], h => by simp [eqE] at h
  | (a, x) :: l, (b, y) :: m, h => by
    simp only [eqE] at h
    obtain ⟨h1, h2⟩ := cond_t h
    obtain ⟨h3, h4⟩ := cond_t h2
    rw [eqV_sound h1, eqA_sound h3, eqE_sound h4]
end

/-- A row of the table: a function, its arguments, its result. -/
structure Row where
  f : Nat
  args : List AV
  v : AV

abbrev Tab := List Row

def lookT : Tab → ExtF
  | [], _, _ => none
  | r :: T, f, args => cond (Nat.beq r.f f) (cond (eqL r.args args) (some r.v) (lookT T f args)) (lookT T f args)

/-- The table first. -/
def withT (T : Tab) (call : CallF) : CallF := fun f args L =>
  match L with
  | [] => match lookT T f args with
    | some v => some (v, [])
    | none => call f args []
  | L => call f args L

/-- Calls over a table, to the depth d. -/
def callT (P : Program) (gl : Nat → Option (List AV)) (ext : ExtF) (T : Tab) (md : FuncId → Nat) (N : Nat) : Nat → CallF
  | 0 => fun _ _ _ => none
  | d + 1 => withT T (bodyC P gl ext md N (callT P gl ext T md N d))

def valT (P : Program) (gl : Nat → Option (List AV)) (ext : ExtF) (T : Tab) (md : FuncId → Nat) (N d : Nat) (f : FuncId) (args : List AV) : Option AV :=
  (callT P gl ext T md N d f args []).bind fun r => (deep true (hget r.2) dpt r.1).map (·.1)

def eqO (x : Option AV) (v : AV) : Bool :=
  match x with
  | some a => eqA a v
  | none => false

-- nothing is barred where live memory is seen and borrowed trees may stand
mutual
theorem okV_any : ∀ a : AV, okV true false a = true
  | .sc _ | .e0 | .ptr .. | .sl .. | .mp _ | .it _ | .yl | .top => rfl
  | .fz own _ _ => by cases own <;> rfl
  | .cp own _ _ => by cases own <;> rfl
  | .fm own _ => by cases own <;> rfl
  | .agg cs => by rw [okV]; exact okVL_any cs
  | .tup vs => by rw [okV]; exact okVL_any vs
  | .fn _ a b => by rw [okV, okVL_any a, okVL_any b]; rfl
theorem okVL_any : ∀ l : List AV, okVL true false l = true
  | [] => rfl
  | a :: l => by rw [okVL, okV_any a, okVL_any l]; rfl
end

section tab
variable {P : Program} {gl : Nat → Option (List AV)} {ext : ExtF} {T : Tab} {md : FuncId → Nat} {N : Nat} {call : CallF}

theorem withT_sound (hT : ExtOK P gl (lookT T)) (hcall : CallsOK P gl call) : CallsOK P gl (withT T call) := by
  intro f args L v L' h
  cases L with
  | cons b L => exact hcall f args _ v L' h
  | nil =>
    simp only [withT] at h
    split at h
    · rename_i u hu
      simp only [Option.some.injEq, Prod.mk.injEq] at h
      obtain ⟨rfl, rfl⟩ := h
      exact hT f args _ hu
    · exact hcall f args _ v L' h

theorem callT_sound (hT : ExtOK P gl (lookT T)) (hext : ExtOK P gl ext) (hNG : ∀ (f : FuncId) (fn : Func), P.funcs[f]? = some fn → fn.body.isNone = false → (fn.name == "runtime.NumGoroutine") = false)
    (hm : P.follows .mixedOrders = true) : ∀ d, CallsOK P gl (callT P gl ext T md N d)
  | 0 => fun f args L v L' h => by simp [callT] at h
  | d + 1 => withT_sound hT (bodyC_sound (callT_sound hT hext hNG hm d) hext hNG hm)

theorem valT_sound (hT : ExtOK P gl (lookT T)) (hext : ExtOK P gl ext) (hNG : ∀ (f : FuncId) (fn : Func), P.funcs[f]? = some fn → fn.body.isNone = false → (fn.name == "runtime.NumGoroutine") = false)
    (hm : P.follows .mixedOrders = true) {d : Nat} {f : FuncId} {args : List AV} {v : AV} (h : valT P gl ext T md N d f args = some v) : CallOK P gl f args [] v [] := by
  simp only [valT, Option.bind_eq_some_iff, Option.map_eq_some_iff] at h
  obtain ⟨⟨v1, L1⟩, h1, ⟨v2, r2⟩, h3, rfl⟩ := h
  simp only [] at h1 h3
  refine ⟨Nat.le_refl _, fun g w A S hgl hA hbd => ?_⟩
  refine Calls.mono ((callT_sound hT hext hNG hm d f args [] v1 L1 h1).2 (borrow g (hget [])) w A (by rw [hget_nil] at *; exact borrow_sim S) (by rw [hget_nil] at *; exact borrow_gl hgl) ?_ (fun b hb => hb.elim)) fun e w' he => ?_
  · rw [hget_nil] at *
    exact hA.carry true false (okVL_any args) (fun o B _ hF => ⟨.inl hF, rfl⟩) fun _ =>
      ⟨fun b hb => absurd (hbd b hb) (by simp), fun b _ hb => absurd (hbd b hb) (by simp), fun b hb => absurd (hbd b hb) (by simp), rfl⟩
  · obtain ⟨u, g2, rfl, hu, hp⟩ := he
    rw [hget_nil] at hp
    obtain ⟨g3, p3, q1, q2⟩ := iso_post (by rw [hget_nil] at S; exact S) hp 0 0
    exact ⟨u, g3, rfl, by
      rw [hget_nil]
      exact (deep_sound hp.sim (own := true) (g1 := g3) (h1 := deadH) q1 (fun o B hoo hF => by
        have : o = true := by simpa using hoo
        subst this; exact q2 B hF) dpt v1 v2 r2 u h3 hu).vr, by rw [hget_nil]; exact p3⟩
theorem tab_nil : ExtOK P gl (lookT []) := fun f args v h => by simp [lookT] at h

theorem tab_cons (hT : ExtOK P gl (lookT T)) (hext : ExtOK P gl ext) (hNG : ∀ (f : FuncId) (fn : Func), P.funcs[f]? = some fn → fn.body.isNone = false → (fn.name == "runtime.NumGoroutine") = false)
    (hm : P.follows .mixedOrders = true) {d : Nat} {r : Row} (h : eqO (valT P gl ext T md N d r.f r.args) r.v = true) : ExtOK P gl (lookT (r :: T)) := fun f args v hl => by
  have key : CallOK P gl r.f r.args [] r.v [] := by
    unfold eqO at h
    split at h
    · rename_i a ha
      rw [← eqA_sound h]
      exact valT_sound hT hext hNG hm ha
    · cases h
  simp only [lookT] at hl
  cases hf : Nat.beq r.f f with
  | false => rw [hf] at hl; exact hT f args v hl
  | true =>
    rw [hf] at hl
    cases ha : eqL r.args args with
    | false => rw [ha] at hl; exact hT f args v hl
    | true =>
      rw [ha] at hl
      simp only [cond_true, Option.some.injEq] at hl
      rw [← Nat.eq_of_beq_eq_true hf, ← eqL_sound ha, ← hl]
      exact key
end tab
end Go.Xv

namespace Go.Xv

section conv
variable {P : Program}

theorem rowsIn_of {n : Nat} {row : String} {args : Array Value} {w : World} {R : Value → World → Prop} (h : Rows P row args w R) : RowsIn Fence.wide n P row args w R :=
  fun c cs _ => let ⟨v, w', r, s⟩ := h c cs; ⟨v, w', r, stepsIn_wide.2 s⟩

/-- An operation's law inside the wide fence, in a round too. -/
theorem wp_upon {F : Fence} (hF : F = Fence.wide ∨ ∃ l, F = Fence.wide.inRound l) {n : Nat} {o : Oper} {a : Act} {w : World} {next : Act → World → Prop} {Q : Exit → Act → World → Prop}
    (hd : ∀ c, o.op ≠ .defer c) (h : o.wp P a w next Q) : o.wpIn F n P a w next Q := by
  have hdep : F.depth.isSome = true → 1 ≤ n := by rcases hF with rfl | ⟨l, rfl⟩ <;> (intro e; cases e)
  have hfn : ∀ f, F.fn f := by rcases hF with rfl | ⟨l, rfl⟩ <;> (intro f; trivial)
  refine ⟨fun f _ => hfn f, ?_⟩
  rw [Oper.semAt_eq _ _ _ hd]
  unfold Oper.wp at h
  generalize (execOp a.eval o).run P w = R at h ⊢
  cases R with
  | ok nx w' =>
    cases nx with
    | value v => exact h
    | skip => exact h
    | defer d => exact h
    | enter f args =>
      refine ⟨hdep, ?_⟩
      rcases hF with rfl | ⟨l, rfl⟩
      · exact callsIn_wide.2 h
      · exact callsIn_wide.2 h
    | row row args =>
      refine ⟨hdep, ?_⟩
      rcases hF with rfl | ⟨l, rfl⟩
      · exact rowsIn_of h
      · exact rowsIn_of h
    | _ => exact h.elim
  | halt s w' =>
    cases s with
    | panic v => exact h
    | _ => exact h.elim
end conv

section steps
variable {P : Program} {gl : Nat → Option (List AV)} {ext : ExtF} {md : FuncId → Nat} {call : CallF} {N : Nat}

theorem step_no_defer {t : Tmps} {L L' : List Blk} {i : Nat} {o : Oper} {v : AV} {rc : Rec} (hs : stepOp P gl ext md call t L i o = some (v, L', rc)) : ∀ c, o.op ≠ .defer c := by
  intro c hc
  unfold stepOp at hs
  obtain ⟨d, hd, hs⟩ := Option.bind_eq_some_iff.1 hs
  have : callee gl t o = some none := by simp [callee, hc]
  rw [this] at hd
  cases hd
  simp [evOp, hc] at hs

/-- Code of a round: no way out but its end. -/
def evR (P : Program) (gl : Nat → Option (List AV)) (ext : ExtF) (md : FuncId → Nat) (call : CallF) : Code → Tmps → List Blk → Option (Tmps × List Blk)
  | .skip, t, L => some (t, L)
  | .seq a b, t, L => (evR P gl ext md call a t L).bind fun p => evR P gl ext md call b p.1 p.2
  | .block _ c, t, L => evR P gl ext md call c t L
  | .region _ ops false, t, L => evSeq P gl ext md call ops ops.toList t L
  | _, _, _ => none

variable (hcall : CallsOK P gl call) (hext : ExtOK P gl ext) (hNG : ∀ (f : FuncId) (fn : Func), P.funcs[f]? = some fn → fn.body.isNone = false → (fn.name == "runtime.NumGoroutine") = false)
include hcall hext hNG

theorem evSeq_soundR {F : Fence} (hF : F = Fence.wide ∨ ∃ l, F = Fence.wide.inRound l) {m : Nat} {ops : Array Oper} {Q : Exit → Act → World → Prop} : ∀ (l : List Oper) (n : Nat) (t : Tmps) (L : List Blk) (t' : Tmps) (L' : List Blk), ops.toList.drop n = l → evSeq P gl ext md call ops l t L = some (t', L') →
    L.length ≤ L'.length ∧ ∀ (g : G) (w : World) (a : Act), At gl g L w t a →
      (∀ g' w' a', At gl g' L' w' t' a' → Post g (hget L) w L.length L'.length g' (hget L') w' → a'.defers = a.defers → Q .normal a' w') → wpOpsIn F m P ops Q (List.range' n l.length) a w
  | [], n, t, L, t', L', _, he => by
    simp only [evSeq, Option.some.injEq, Prod.mk.injEq] at he
    obtain ⟨rfl, rfl⟩ := he
    exact ⟨Nat.le_refl _, fun g w a s hq => hq g w a s (Post.refl s.sim _ _) rfl⟩
  | o :: r, n, t, L, t', L', hl, he => by
    have hlt : n < ops.size := by
      rcases Nat.lt_or_ge n ops.toList.length with h | h
      · simpa using h
      · rw [List.drop_eq_nil_of_le h] at hl; cases hl
    have hcons := List.drop_eq_getElem_cons (l := ops.toList) (i := n) (by simpa using hlt)
    rw [hl] at hcons
    obtain ⟨ho, hr⟩ := List.cons.inj hcons
    have ho' : ops[n]? = some o := by rw [Array.getElem?_eq_getElem hlt, ho]; rfl
    simp only [evSeq] at he
    obtain ⟨b, hw, he⟩ := Option.bind_eq_some_iff.1 he
    cases b with
    | true =>
      simp only [if_true] at he
      obtain ⟨⟨v, L1, rc⟩, hs, he⟩ := Option.bind_eq_some_iff.1 he
      have hsh := step_shape hcall hs
      obtain ⟨i1, i2⟩ := evSeq_soundR hF r (n + 1) _ L1 t' L' hr.symm he
      refine ⟨Nat.le_trans hsh.len i1, fun g w a s hq => ?_⟩
      rw [List.length_cons, List.range'_succ]
      simp only [wpOpsIn, ho', wantedA_sound hw s.tmps, if_true]
      refine wp_upon hF (step_no_defer hs) ?_
      refine step_sound hcall hext hNG hs (fun _ _ => rfl) (fun _ => rfl) (fun _ _ => rfl) s.sim s.gl s.tmps (fun b hb => by have := s.bd b hb; omega) (fun _ => s.bd) fun u g' w' hu hp => ?_
      rw [hsh.after] at hu hp
      exact i2 g' w' _ (s.next hp hsh.len hu) fun g2 w2 a2 s2 p2 hd => hq g2 w2 a2 s2 (hp.trans p2 hsh.len i1) (hd.trans (put_defers _ _ _))
    | false =>
      simp only [Bool.false_eq_true, if_false] at he
      obtain ⟨i1, i2⟩ := evSeq_soundR hF r (n + 1) _ L t' L' hr.symm he
      refine ⟨i1, fun g w a s hq => ?_⟩
      rw [List.length_cons, List.range'_succ]
      simp only [wpOpsIn, ho', wantedA_sound hw s.tmps, Bool.false_eq_true, if_false]
      exact ⟨fun f _ => by rcases hF with rfl | ⟨l, rfl⟩ <;> trivial, i2 g w _ (s.skip o.dst) fun g2 w2 a2 s2 p2 hd => hq g2 w2 a2 s2 p2 (hd.trans (put_defers _ _ _))⟩

theorem evR_sound {F : Fence} (hF : F = Fence.wide ∨ ∃ l, F = Fence.wide.inRound l) {m : Nat} : ∀ (c : Code) (t : Tmps) (L : List Blk) (t' : Tmps) (L' : List Blk), evR P gl ext md call c t L = some (t', L') →
    L.length ≤ L'.length ∧ ∀ (Q : Exit → Act → World → Prop) (g : G) (w : World) (a : Act), At gl g L w t a →
      (∀ g' w' a', At gl g' L' w' t' a' → Post g (hget L) w L.length L'.length g' (hget L') w' → a'.defers = a.defers → Q .normal a' w') → c.wpIn F m P Q a w := by
  intro c
  induction c with
  | skip =>
    intro t L t' L' he
    simp only [evR, Option.some.injEq, Prod.mk.injEq] at he
    obtain ⟨rfl, rfl⟩ := he
    exact ⟨Nat.le_refl _, fun Q g w a s hq => wpIn_skip (hq g w a s (Post.refl s.sim _ _) rfl)⟩
  | seq c1 c2 ih1 ih2 =>
    intro t L t' L' he
    simp only [evR] at he
    obtain ⟨⟨t1, L1⟩, h1, h2⟩ := Option.bind_eq_some_iff.1 he
    obtain ⟨i1, i2⟩ := ih1 _ _ _ _ h1
    obtain ⟨j1, j2⟩ := ih2 _ _ _ _ h2
    exact ⟨Nat.le_trans i1 j1, fun Q g w a s hq => wpIn_seq (i2 _ g w a s fun g1 w1 a1 s1 p1 d1 => j2 Q g1 w1 a1 s1 fun g2 w2 a2 s2 p2 d2 => hq g2 w2 a2 s2 (p1.trans p2 i1 j1) (d2.trans d1))⟩
  | block id c ih =>
    intro t L t' L' he
    simp only [evR] at he
    obtain ⟨i1, i2⟩ := ih _ _ _ _ he
    exact ⟨i1, fun Q g w a s hq => wpIn_block (i2 _ g w a s fun g1 w1 a1 s1 p1 d1 => hq g1 w1 a1 s1 p1 d1)⟩
  | region id ops draw =>
    intro t L t' L' he
    cases draw with
    | true => simp [evR] at he
    | false =>
      simp only [evR] at he
      obtain ⟨i1, i2⟩ := evSeq_soundR hcall hext hNG hF (m := m) (Q := fun _ _ _ => True) ops.toList 0 t L t' L' rfl he
      refine ⟨i1, fun Q g w a s hq => wpIn_region ?_⟩
      obtain ⟨_, j2⟩ := evSeq_soundR hcall hext hNG hF (m := m) (Q := Q) ops.toList 0 t L t' L' rfl he
      have := j2 g w a s hq
      simpa [List.range_eq_range'] using this
  | _ =>
    intro t L t' L' he
    simp [evR] at he
end steps


theorem Sim.poke {g : G} {h : Nat → Blk} {w : World} {l : Nat} (o : Obj) (S : Sim g h w.heap) (hm : ∀ b, alive (h b) = true → g.m b ≠ l) (hF : ∀ o, ¬ g.F o l) :
    Sim g h (w.putObj l o).heap ∧ Ext g h w.heap g h (w.putObj l o).heap := by
  have hE : Ext g h w.heap g h (w.putObj l o).heap :=
    ⟨fun _ h => h, fun _ cs' _ h => ⟨cs', h, Nat.le_refl _, fun _ => ⟨rfl, rfl, rfl⟩⟩, fun _ _ h => ⟨h, rfl⟩, fun _ _ h => h,
      fun o' B hB => World.putObj_heap_other (fun e => hF o' (e ▸ hB)), rfl⟩
  refine ⟨⟨fun b => ?_, S.inj, fun o' B hB => by rw [World.putObj_size]; exact S.fz o' B hB, S.sub⟩, hE⟩
  exact (S.blk b).mono hE rfl rfl rfl (fun _ hn => hn) fun ha => World.putObj_heap_other (hm b ha)

theorem Post.poke {g g' : G} {h h' : Nat → Blk} {w w' : World} {k k' l : Nat} (o : Obj) (p : Post g h w k k' g' h' w') (hl : w.heap.size ≤ l) (hm : ∀ b, alive (h' b) = true → g'.m b ≠ l) (hF : ∀ o, ¬ g'.F o l) :
    Post g h w k k' g' h' (w'.putObj l o) := by
  obtain ⟨S, E⟩ := p.sim.poke o hm hF
  exact ⟨S, p.ext.trans E, by rw [World.putObj_size]; exact p.size, fun c hc hb => (World.putObj_heap_other (by omega)).trans (p.frame c hc hb), p.img, p.F, p.dom, p.os, p.tape, p.output⟩

theorem At.poke {gl : Nat → Option (List AV)} {g : G} {L : List Blk} {w : World} {t : Tmps} {a : Act} {l : Nat} (o : Obj) (s : At gl g L w t a) (hm : ∀ b, alive (hget L b) = true → g.m b ≠ l) (hF : ∀ o, ¬ g.F o l) :
    At gl g L (w.putObj l o) t a := by
  obtain ⟨S, E⟩ := s.sim.poke o hm hF
  exact ⟨S, s.gl.mono E, s.tmps.mono E, s.bd⟩

theorem Post.push {g g' : G} {h h' : Nat → Blk} {w w' : World} {k k' : Nat} (o : Obj) (p : Post g h w k k' g' h' w') : Post g h w k k' g' h' (w'.alloc o) := by
  have hE : Ext g' h' w'.heap g' h' (w'.alloc o).heap :=
    ⟨fun _ h => h, fun _ cs' _ h => ⟨cs', h, Nat.le_refl _, fun _ => ⟨rfl, rfl, rfl⟩⟩, fun _ _ h => ⟨h, rfl⟩, fun _ _ h => h,
      fun o' B hB => by have := p.sim.fz o' B hB; show (w'.heap.push o)[B]? = _; rw [Array.getElem?_push, if_neg (by omega)], rfl⟩
  refine ⟨⟨fun b => ?_, p.sim.inj, fun o' B hB => by have := p.sim.fz o' B hB; simp; omega, p.sim.sub⟩, p.ext.trans hE, by have := p.size; simp; omega, fun c hc hb => ?_, p.img, p.F, p.dom, p.os, p.tape, p.output⟩
  · refine (p.sim.blk b).mono hE rfl rfl rfl (fun _ hn => hn) fun ha => ?_
    have := (alive_image p.sim ha).1
    show (w'.heap.push o)[g'.m b]? = _
    rw [Array.getElem?_push, if_neg (by omega)]
  · have := p.size
    show (w'.heap.push o)[c]? = _
    rw [Array.getElem?_push, if_neg (by omega)]
    exact p.frame c hc hb

/-- A block that is nothing of the interpreter's. -/
structure Apart (l : Nat) (o : Obj) (g : G) (h : Nat → Blk) (w : World) : Prop where
  at_ : w.heap[l]? = some o
  m : ∀ b, alive (h b) = true → g.m b ≠ l
  F : ∀ o, ¬ g.F o l

theorem Apart.lt {l : Nat} {o : Obj} {g : G} {h : Nat → Blk} {w : World} (s : Apart l o g h w) : l < w.heap.size := (Array.getElem?_eq_some_iff.1 s.at_).1

theorem Apart.post {l : Nat} {o : Obj} {g g' : G} {h h' : Nat → Blk} {w w' : World} {k k' : Nat} (s : Apart l o g h w) (p : Post g h w k k' g' h' w') : Apart l o g' h' w' := by
  have hlt := s.lt
  refine ⟨(p.frame l hlt s.m).trans s.at_, fun b hb e => ?_, fun o' hF => ?_⟩
  · rcases p.img b hb with ⟨h1, h2⟩ | h1
    · exact s.m b h1 (h2 ▸ e)
    · omega
  · rcases p.F o' l hF with h1 | h1
    · exact s.F o' h1
    · omega

theorem Apart.poke {l : Nat} {o o' : Obj} {g : G} {h : Nat → Blk} {w : World} (s : Apart l o g h w) : Apart l o' g h (w.putObj l o') :=
  ⟨World.putObj_heap_same s.lt, s.m, s.F⟩

theorem Apart.poke_other {l k : Nat} {o o' : Obj} {g : G} {h : Nat → Blk} {w : World} (s : Apart l o g h w) (hk : l ≠ k) : Apart l o g h (w.putObj k o') :=
  ⟨(World.putObj_heap_other hk).trans s.at_, s.m, s.F⟩

theorem Apart.new {o : Obj} {g : G} {h : Nat → Blk} {w : World} (S : Sim g h w.heap) : Apart w.heap.size o g h (w.alloc o) :=
  ⟨World.alloc_heap_new w o, fun b hb => by have := (alive_image S hb).1; omega, fun o' hF => by have := S.fz o' _ hF; omega⟩

theorem Apart.push {l : Nat} {o o' : Obj} {g : G} {h : Nat → Blk} {w : World} (s : Apart l o g h w) : Apart l o g h (w.alloc o') :=
  ⟨by have := s.lt; show (w.heap.push o')[l]? = _; rw [Array.getElem?_push, if_neg (by omega)]; exact s.at_, s.m, s.F⟩

end Go.Xv

namespace Go.Xv

/-- A call of yield: what it is handed. -/
def yieldOf (gl : Nat → Option (List AV)) (t : Tmps) (o : Oper) : Option (List AV) :=
  match o.op with
  | .call c => match c.callee with
    | .value f => match evO gl t f with
      | some .yl => c.args.toList.mapM (evO gl t)
      | _ => none
    | _ => none
  | _ => none

abbrev YieldF := List AV → List Blk → Option (List Blk)

def evSeqY (P : Program) (gl : Nat → Option (List AV)) (ext : ExtF) (md : FuncId → Nat) (call : CallF) (yh : YieldF) (ops : Array Oper) : List Oper → Tmps → List Blk → Option (Tmps × List Blk)
  | [], t, h => some (t, h)
  | o :: r, t, h => (wantedA ops t o).bind fun w =>
    if w then
      match yieldOf gl t o with
      | some args => (yh args h).bind fun h' => evSeqY P gl ext md call yh ops r (putA t o.dst (.sc (.bool true))) h'
      | none => (stepOp P gl ext md call t h 0 o).bind fun p => evSeqY P gl ext md call yh ops r (putA t o.dst p.1) p.2.1
    else evSeqY P gl ext md call yh ops r (putA t o.dst undefA) h

def evY (P : Program) (gl : Nat → Option (List AV)) (ext : ExtF) (md : FuncId → Nat) (call : CallF) (yh : YieldF) (N : Nat) : Code → Tmps → List Blk → Option (Ex × Tmps × List Blk)
  | .region _ ops false, t, h => (evSeqY P gl ext md call yh ops ops.toList t h).map fun p => (.normal, p.1, p.2)
  | .seq a b, t, h => match evY P gl ext md call yh N a t h with
    | some (.normal, t', h') => evY P gl ext md call yh N b t' h'
    | r => r
  | .cond c a b, t, h => match evO gl t c with
    | some (.sc (.bool true)) => evY P gl ext md call yh N a t h
    | some (.sc (.bool false)) => evY P gl ext md call yh N b t h
    | _ => none
  | .block id c, t, h => match evY P gl ext md call yh N c t h with
    | some (.exit id', t', h') => if id' = id then some (.normal, t', h') else some (.exit id', t', h')
    | r => r
  | .scope c, t, h => evY P gl ext md call yh N c t h
  | .loop c, t, h => iter (evY P gl ext md call yh N c) N t h
  | c, t, h => evCode P gl ext md call N c t h

section iter
variable {P : Program} {gl : Nat → Option (List AV)} {ext : ExtF} {md : FuncId → Nat} {call : CallF} {N : Nat} {yh : YieldF}

/-- A state's word that steps of the interpreter keep. -/
def KeptBy (B : G → List Blk → World → Prop) : Prop :=
  ∀ g L w g' L' w', B g L w → L.length ≤ L'.length → Post g (hget L) w L.length L'.length g' (hget L') w' → B g' L' w'

/-- What is asked of the handler. -/
def HandOK (P : Program) (gl : Nat → Option (List AV)) (l : Nat) (r : Loop) (B : G → List Blk → World → Prop) (yh : YieldF) : Prop :=
  ∀ args L L', yh args L = some L' → L.length ≤ L'.length ∧ ∀ (g : G) (w : World) (A : List Value), Sim g (hget L) w.heap → GlOK gl g (hget L) w.heap → (∀ b, g.dom b → b < L.length) → VRL g (hget L) w.heap args A → B g L w →
    w.heap[l]? = some (.loop r) ∧ A.length = r.params.size ∧ g.yv = .func (.yield l) #[] #[] ∧
    ∀ n, RoundIn Fence.wide n P l r.fn ((r.params.zip A.toArray).foldl (fun t p => t.setIfInBounds p.1 p.2) r.tmps) r.assign r.body w fun e w' => e = .returned (.bool true) ∧
      ∃ g', Ext g (hget L) w.heap g' (hget L') w'.heap ∧ Sim g' (hget L') w'.heap ∧ (∀ b, g'.dom b → b < L'.length) ∧ B g' L' w'

/-- What is known of a piece of the iterator's code. -/
def YOK (P : Program) (gl : Nat → Option (List AV)) (B : G → List Blk → World → Prop) (c : Code) (t : Tmps) (L : List Blk) (x : Ex) (t' : Tmps) (L' : List Blk) : Prop :=
  L.length ≤ L'.length ∧ ∀ (Q : Exit → Act → World → Prop) (g : G) (w : World) (a : Act), At gl g L w t a → B g L w →
    (∀ g' w' a', At gl g' L' w' t' a' → B g' L' w' → a'.defers = a.defers → Q (exOf x) a' w') → c.wp P Q a w

theorem yieldOf_sound {t : Tmps} {o : Oper} {args : List AV} (hy : yieldOf gl t o = some args) {g : G} {h : Nat → Blk} {w : World} {a : Act} (hgl : GlOK gl g h w.heap) (ht : VRL g h w.heap t a.tmps.toList)
    {l : Nat} (hyv : g.yv = .func (.yield l) #[] #[]) :
    ∃ V : List Value, VRL g h w.heap args V ∧ execOp a.eval o = Instr.yield l V.toArray ∧ ∀ c, o.op ≠ .defer c := by
  unfold yieldOf at hy
  split at hy
  case h_2 => cases hy
  rename_i c ho
  split at hy
  case h_2 => cases hy
  rename_i fo hcal
  split at hy
  case h_2 => cases hy
  rename_i hf
  have h1 := evO_sound hgl ht hf
  have h2 := evOs_sound hgl ht hy
  generalize hfv : a.eval fo = fv at h1
  cases h1 with
  | yl _ =>
    refine ⟨c.args.toList.map a.eval, h2, ?_, fun c' e => by rw [ho] at e; cases e⟩
    simp only [execOp, ho, resolve, hcal, hfv, hyv, Deferred.ofValue, invoke, pure_bind]
    congr 1
    apply Array.ext'
    simp

variable (hcall : CallsOK P gl call) (hext : ExtOK P gl ext) (hNG : ∀ (f : FuncId) (fn : Func), P.funcs[f]? = some fn → fn.body.isNone = false → (fn.name == "runtime.NumGoroutine") = false)
  {l : Nat} {r : Loop} {B : G → List Blk → World → Prop} (hB : KeptBy B) (hY : HandOK P gl l r B yh)
include hcall hext hNG hB hY

theorem evSeqY_sound {m : Nat} {ops : Array Oper} {Q : Exit → Act → World → Prop} : ∀ (ol : List Oper) (n : Nat) (t : Tmps) (L : List Blk) (t' : Tmps) (L' : List Blk), ops.toList.drop n = ol → evSeqY P gl ext md call yh ops ol t L = some (t', L') →
    L.length ≤ L'.length ∧ ∀ (g : G) (w : World) (a : Act), At gl g L w t a → B g L w →
      (∀ g' w' a', At gl g' L' w' t' a' → B g' L' w' → a'.defers = a.defers → Q .normal a' w') → wpOpsIn Fence.wide m P ops Q (List.range' n ol.length) a w
  | [], n, t, L, t', L', _, he => by
    simp only [evSeqY, Option.some.injEq, Prod.mk.injEq] at he
    obtain ⟨rfl, rfl⟩ := he
    exact ⟨Nat.le_refl _, fun g w a s b hq => hq g w a s b rfl⟩
  | o :: rs, n, t, L, t', L', hl, he => by
    have hlt : n < ops.size := by
      rcases Nat.lt_or_ge n ops.toList.length with h | h
      · simpa using h
      · rw [List.drop_eq_nil_of_le h] at hl; cases hl
    have hcons := List.drop_eq_getElem_cons (l := ops.toList) (i := n) (by simpa using hlt)
    rw [hl] at hcons
    obtain ⟨ho, hr⟩ := List.cons.inj hcons
    have ho' : ops[n]? = some o := by rw [Array.getElem?_eq_getElem hlt, ho]; rfl
    simp only [evSeqY] at he
    obtain ⟨b, hw, he⟩ := Option.bind_eq_some_iff.1 he
    cases b with
    | true =>
      simp only [if_true] at he
      split at he
      · rename_i args hy
        obtain ⟨L1, h1, he⟩ := Option.bind_eq_some_iff.1 he
        obtain ⟨k1, k2⟩ := hY args L L1 h1
        obtain ⟨i1, i2⟩ := evSeqY_sound rs (n + 1) _ L1 t' L' hr.symm he
        refine ⟨Nat.le_trans k1 i1, fun g w a s b hq => ?_⟩
        rw [List.length_cons, List.range'_succ]
        simp only [wpOpsIn, ho', wantedA_sound hw s.tmps, if_true]
        obtain ⟨V0, hV0⟩ : ∃ V : List Value, VRL g (hget L) w.heap args V := by
          unfold yieldOf at hy
          split at hy
          case h_2 => cases hy
          rename_i c ho
          split at hy
          case h_2 => cases hy
          split at hy
          case h_2 => cases hy
          exact ⟨_, evOs_sound s.gl s.tmps hy⟩
        obtain ⟨_, _, hyv, _⟩ := k2 g w V0 s.sim s.gl s.bd hV0 b
        obtain ⟨V, hV, hex, hd⟩ := yieldOf_sound hy s.gl s.tmps hyv
        obtain ⟨q1, q2, _, q4⟩ := k2 g w V s.sim s.gl s.bd hV b
        refine ⟨fun f _ => trivial, ?_⟩
        rw [Oper.semAt_eq _ _ _ hd, hex, run_yield q1 (by simpa using q2), Oper.uponIn_round]
        refine ⟨fun e => (by cases e), (q4 _).mono ?_⟩
        rintro e w' ⟨rfl, g', E, S', bd', b'⟩
        exact i2 g' w' _ ⟨S', s.gl.mono E, put_VRL (s.tmps.mono E) (.sc _ rfl), bd'⟩ b' fun g2 w2 a2 s2 b2 hd => hq g2 w2 a2 s2 b2 (hd.trans (put_defers _ _ _))
      · obtain ⟨⟨v, L1, rc⟩, hs, he⟩ := Option.bind_eq_some_iff.1 he
        have hsh := step_shape hcall hs
        obtain ⟨i1, i2⟩ := evSeqY_sound rs (n + 1) _ L1 t' L' hr.symm he
        refine ⟨Nat.le_trans hsh.len i1, fun g w a s b hq => ?_⟩
        rw [List.length_cons, List.range'_succ]
        simp only [wpOpsIn, ho', wantedA_sound hw s.tmps, if_true]
        refine wp_upon (.inl rfl) (step_no_defer hs) ?_
        refine step_sound hcall hext hNG hs (fun _ _ => rfl) (fun _ => rfl) (fun _ _ => rfl) s.sim s.gl s.tmps (fun b hb => by have := s.bd b hb; omega) (fun _ => s.bd) fun u g' w' hu hp => ?_
        rw [hsh.after] at hu hp
        exact i2 g' w' _ (s.next hp hsh.len hu) (hB _ _ _ _ _ _ b hsh.len hp) fun g2 w2 a2 s2 b2 hd => hq g2 w2 a2 s2 b2 (hd.trans (put_defers _ _ _))
    | false =>
      simp only [Bool.false_eq_true, if_false] at he
      obtain ⟨i1, i2⟩ := evSeqY_sound rs (n + 1) _ L t' L' hr.symm he
      refine ⟨i1, fun g w a s b hq => ?_⟩
      rw [List.length_cons, List.range'_succ]
      simp only [wpOpsIn, ho', wantedA_sound hw s.tmps, Bool.false_eq_true, if_false]
      exact ⟨fun f _ => trivial, i2 g w _ (s.skip o.dst) b fun g2 w2 a2 s2 b2 hd => hq g2 w2 a2 s2 b2 (hd.trans (put_defers _ _ _))⟩

theorem loopY_sound {c : Code} (hc : ∀ t L x t' L', evY P gl ext md call yh N c t L = some (x, t', L') → YOK P gl B c t L x t' L') :
    ∀ (n : Nat) (t : Tmps) (L : List Blk) (x : Ex) (t' : Tmps) (L' : List Blk), iter (evY P gl ext md call yh N c) n t L = some (x, t', L') →
      L.length ≤ L'.length ∧ ∀ (Q : Exit → Act → World → Prop) (g : G) (w : World) (a : Act), At gl g L w t a → B g L w →
        (∀ g' w' a', At gl g' L' w' t' a' → B g' L' w' → a'.defers = a.defers → Q (exOf x) a' w') → Code.rounds P c Q n a w
  | 0, t, L, x, t', L', he => by simp [iter] at he
  | n + 1, t, L, x, t', L', he => by
    simp only [iter] at he
    split at he
    · rename_i t1 L1 h1
      obtain ⟨i1, i2⟩ := hc _ _ _ _ _ h1
      obtain ⟨j1, j2⟩ := loopY_sound hc n t1 L1 x t' L' he
      refine ⟨Nat.le_trans i1 j1, fun Q g w a s b hq => ?_⟩
      exact i2 _ g w a s b fun g1 w1 a1 s1 b1 d1 => j2 Q g1 w1 a1 s1 b1 fun g2 w2 a2 s2 b2 d2 => hq g2 w2 a2 s2 b2 (d2.trans d1)
    · rename_i hne
      obtain ⟨i1, i2⟩ := hc _ _ _ _ _ he
      refine ⟨i1, fun Q g w a s b hq => ?_⟩
      refine i2 _ g w a s b fun g1 w1 a1 s1 b1 d1 => ?_
      cases x with
      | normal => exact absurd he (hne t' L')
      | ret => exact hq g1 w1 a1 s1 b1 d1
      | exit id => exact hq g1 w1 a1 s1 b1 d1

theorem evY_sound (hm : P.follows .mixedOrders = true) : ∀ (c : Code) (t : Tmps) (L : List Blk) (x : Ex) (t' : Tmps) (L' : List Blk), evY P gl ext md call yh N c t L = some (x, t', L') → YOK P gl B c t L x t' L' := by
  have hleaf : ∀ (c : Code) (t : Tmps) (L : List Blk) (x : Ex) (t' : Tmps) (L' : List Blk), evCode P gl ext md call N c t L = some (x, t', L') → YOK P gl B c t L x t' L' := fun c t L x t' L' he => by
    obtain ⟨i1, i2⟩ := evCode_sound hcall hext hNG hm c t L x t' L' he
    exact ⟨i1, fun Q g w a s b hq => i2 Q g w a s fun g1 w1 a1 s1 p1 d1 => hq g1 w1 a1 s1 (hB _ _ _ _ _ _ b i1 p1) d1⟩
  intro c
  induction c with
  | region id ops draw =>
    intro t L x t' L' he
    cases draw with
    | true => exact hleaf _ _ _ _ _ _ he
    | false =>
      simp only [evY, Option.map_eq_some_iff, Prod.mk.injEq] at he
      obtain ⟨⟨t1, L1⟩, h1, rfl, rfl, rfl⟩ := he
      obtain ⟨i1, i2⟩ := evSeqY_sound hcall hext hNG hB hY (m := 0) (Q := fun _ _ _ => True) ops.toList 0 t L t1 L1 rfl h1
      refine ⟨i1, fun Q g w a s b hq => wpIn_wide (n := 0).1 (wpIn_region ?_)⟩
      obtain ⟨_, j2⟩ := evSeqY_sound hcall hext hNG hB hY (m := 0) (Q := Q) ops.toList 0 t L t1 L1 rfl h1
      have := j2 g w a s b hq
      simpa [List.range_eq_range'] using this
  | seq c1 c2 ih1 ih2 =>
    intro t L x t' L' he
    simp only [evY] at he
    split at he
    · rename_i t1 L1 h1
      obtain ⟨i1, i2⟩ := ih1 _ _ _ _ _ h1
      obtain ⟨j1, j2⟩ := ih2 _ _ _ _ _ he
      refine ⟨Nat.le_trans i1 j1, fun Q g w a s b hq => wp_seq ?_⟩
      exact i2 _ g w a s b fun g1 w1 a1 s1 b1 d1 => j2 Q g1 w1 a1 s1 b1 fun g2 w2 a2 s2 b2 d2 => hq g2 w2 a2 s2 b2 (d2.trans d1)
    · rename_i hne
      obtain ⟨i1, i2⟩ := ih1 _ _ _ _ _ he
      refine ⟨i1, fun Q g w a s b hq => wp_seq ?_⟩
      refine i2 _ g w a s b fun g1 w1 a1 s1 b1 d1 => ?_
      cases x with
      | normal => exact absurd he (hne t' L')
      | ret => exact hq g1 w1 a1 s1 b1 d1
      | exit id => exact hq g1 w1 a1 s1 b1 d1
  | cond b c1 c2 ih1 ih2 =>
    intro t L x t' L' he
    simp only [evY] at he
    split at he
    · rename_i hb
      obtain ⟨i1, i2⟩ := ih1 _ _ _ _ _ he
      refine ⟨i1, fun Q g w a s b hq => wp_cond_true ((evO_sound s.gl s.tmps hb).of_toV (w := .bool true) rfl) (i2 Q g w a s b hq)⟩
    · rename_i hb
      obtain ⟨i1, i2⟩ := ih2 _ _ _ _ _ he
      refine ⟨i1, fun Q g w a s b hq => wp_cond_false ((evO_sound s.gl s.tmps hb).of_toV (w := .bool false) rfl) (i2 Q g w a s b hq)⟩
    · cases he
  | block id c ih =>
    intro t L x t' L' he
    simp only [evY] at he
    split at he
    · rename_i id' t1 L1 h1
      obtain ⟨i1, i2⟩ := ih _ _ _ _ _ h1
      split at he
      · rename_i hid
        simp only [Option.some.injEq, Prod.mk.injEq] at he
        obtain ⟨rfl, rfl, rfl⟩ := he
        refine ⟨i1, fun Q g w a s b hq => wp_block (i2 _ g w a s b fun g1 w1 a1 s1 b1 d1 => ?_)⟩
        simp only [exOf, Exit.inBlock, hid, if_true]
        exact hq g1 w1 a1 s1 b1 d1
      · rename_i hid
        simp only [Option.some.injEq, Prod.mk.injEq] at he
        obtain ⟨rfl, rfl, rfl⟩ := he
        refine ⟨i1, fun Q g w a s b hq => wp_block (i2 _ g w a s b fun g1 w1 a1 s1 b1 d1 => ?_)⟩
        simp only [exOf, Exit.inBlock, hid, if_false]
        exact hq g1 w1 a1 s1 b1 d1
    · rename_i hne
      obtain ⟨i1, i2⟩ := ih _ _ _ _ _ he
      refine ⟨i1, fun Q g w a s b hq => wp_block (i2 _ g w a s b fun g1 w1 a1 s1 b1 d1 => ?_)⟩
      cases x with
      | normal => exact hq g1 w1 a1 s1 b1 d1
      | ret => exact hq g1 w1 a1 s1 b1 d1
      | exit id' => exact absurd he (hne id' t' L')
  | scope c ih =>
    intro t L x t' L' he
    simp only [evY] at he
    obtain ⟨i1, i2⟩ := ih _ _ _ _ _ he
    refine ⟨i1, fun Q g w a s b hq => wp_scope_straight (i2 _ g w a s b fun g1 w1 a1 s1 b1 d1 => ?_)⟩
    have := hq g1 w1 a1 s1 b1 d1
    cases x with
    | normal => exact this
    | ret => exact this
    | exit id => exact this
  | loop c ih =>
    intro t L x t' L' he
    simp only [evY] at he
    obtain ⟨i1, i2⟩ := loopY_sound hcall hext hNG hB hY ih N t L x t' L' he
    exact ⟨i1, fun Q g w a s b hq => wp_loop_rounds N (i2 Q g w a s b hq)⟩
  | _ =>
    intro t L x t' L' he
    simp only [evY] at he
    exact hleaf _ _ _ _ _ _ he
end iter
end Go.Xv

namespace Go.Xv

-- no yield value within what is live
mutual
def noY : AV → Bool
  | .yl => false
  | .agg cs => noYL cs
  | .tup vs => noYL vs
  | .fn _ a b => noYL a && noYL b
  | _ => true
def noYL : List AV → Bool
  | [] => true
  | a :: l => noY a && noYL l
end

def noYB : Blk → Bool
  | .cells cs => noYL cs
  | .map es _ => noYL (es.map fun e => e.2.1)
  | _ => true

mutual
theorem noY_of_okV {p : Bool} : ∀ a : AV, okV false p a = true → noY a = true
  | .sc _, _ | .e0, _ | .top, _ | .fz .., _ | .cp .., _ | .fm .., _ => rfl
  | .ptr .., h | .sl .., h | .mp _, h | .it _, h | .yl, h => by cases h
  | .agg cs, h => by rw [okV] at h; rw [noY]; exact noYL_of_okVL cs h
  | .tup vs, h => by rw [okV] at h; rw [noY]; exact noYL_of_okVL vs h
  | .fn _ a b, h => by
    rw [okV, Bool.and_eq_true] at h
    rw [noY, noYL_of_okVL a h.1, noYL_of_okVL b h.2]; rfl
theorem noYL_of_okVL {p : Bool} : ∀ l : List AV, okVL false p l = true → noYL l = true
  | [], _ => rfl
  | a :: l, h => by
    rw [okVL, Bool.and_eq_true] at h
    rw [noYL, noY_of_okV a h.1, noYL_of_okVL l h.2]; rfl
end

/-- Another yield value: nothing turns where none is held. -/
theorem VR.revalue {g : G} {h : Nat → Blk} {hp : Array Obj} (y : Value) {a : AV} {v : Value} (hv : VR g h hp a v) : noY a = true → VR { g with yv := y } h hp a v := by
  refine VR.rec (motive_1 := fun a v _ => noY a = true → VR { g with yv := y } h hp a v)
    (motive_2 := fun l L _ => noYL l = true → VRL { g with yv := y } h hp l L) ?_ ?_ ?_ ?_ ?_ ?_ ?_ ?_ ?_ ?_ ?_ ?_ ?_ ?_ ?_ ?_ ?_ hv
  · intro v hv _; exact .sc v hv
  · intro a _; exact .e0 a
  · intro b ver off a hd hc _; exact .ptr b ver off a hd hc
  · intro s ag b off len cap a cap' hd hcap hc _; exact .sl s ag b off len cap a cap' hd hcap hc
  · intro b r hd hc _; exact .mp b r hd hc
  · intro b r hd hc _; exact .it b r hd hc
  · intro own s es L a cap' _ hst hs hr hcap hfr ih _; exact .fz own s es L a cap' (ih (noYL_of_okVL _ hfr)) hst hs hr hcap hfr
  · intro own cs off L B o _ hst hF hr hfr ih _; exact .cp own cs off L B o (ih (noYL_of_okVL _ hfr)) hst hF hr hfr
  · intro own es r ents clock hF hr hk _ hfr ih _; exact .fm own es r ents clock hF hr hk (ih (noYL_of_okVL _ hfr)) hfr
  · intro cs L _ hs ih hn; rw [noY] at hn; exact .agg cs L (ih hn) hs
  · intro vs L _ ih hn; rw [noY] at hn; exact .tup vs L (ih hn)
  · intro f a b A B _ _ ihA ihB hn
    rw [noY, Bool.and_eq_true] at hn
    exact .fn f a b A B (ihA hn.1) (ihB hn.2)
  · intro hv hn; cases hn
  · intro v _; exact .top v
  · intro own s _; exact .fzn own s
  · intro _; exact .nil
  · intro a v l L _ _ iha ihl hn
    rw [noYL, Bool.and_eq_true] at hn
    exact .cons a v l L (iha hn.1) (ihl hn.2)

theorem VRL.revalue {g : G} {h : Nat → Blk} {hp : Array Obj} (y : Value) : ∀ {l : List AV} {L : List Value}, VRL g h hp l L → noYL l = true → VRL { g with yv := y } h hp l L
  | _, _, .nil, _ => .nil
  | _, _, .cons a v l L ha hl, hn => by
    rw [noYL, Bool.and_eq_true] at hn
    exact .cons _ _ _ _ (ha.revalue y hn.1) (hl.revalue y hn.2)

theorem Sim.revalue {g : G} {h : Nat → Blk} {hp : Array Obj} (y : Value) (S : Sim g h hp) (hn : ∀ b, noYB (h b) = true) : Sim { g with yv := y } h hp := by
  refine ⟨fun b => ?_, S.inj, S.fz, S.sub⟩
  have hb := S.blk b
  have hnb := hn b
  cases hx : h b with
  | dead => trivial
  | cells cs =>
    rw [hx] at hb hnb
    obtain ⟨h1, h2, h3, c, ty, fr, L, h4, h5, h6, h7⟩ := hb
    exact ⟨h1, h2, h3, c, ty, fr, L, h4, h5, h6.revalue y hnb, h7⟩
  | map es clock =>
    rw [hx] at hb hnb
    obtain ⟨h1, h3, ents, h4, h5, h6⟩ := hb
    exact ⟨h1, h3, ents, h4, h5, h6.revalue y hnb⟩
  | sit s pos => rw [hx] at hb; exact hb
  | mit m since seen st => rw [hx] at hb; exact hb

theorem GlOK.revalue {gl : Nat → Option (List AV)} {g : G} {h : Nat → Blk} {hp : Array Obj} (y : Value) (H : GlOK gl g h hp) : GlOK gl { g with yv := y } h hp :=
  fun i cs hi => ⟨(H i cs hi).1.revalue y rfl, (H i cs hi).2⟩

theorem noYB_hget {L : List Blk} (h : L.all noYB = true) (b : Nat) : noYB (hget L b) = true := by
  unfold hget
  rw [List.getD_eq_getElem?_getD]
  cases hb : L[b]? with
  | none => rfl
  | some x => exact List.all_eq_true.1 h x (List.mem_of_getElem? hb)

/-- One round: the loop's entry temporaries with yield's arguments; the assignment; the body. -/
def handY (P : Program) (gl : Nat → Option (List AV)) (ext : ExtF) (md : FuncId → Nat) (call : CallF) (ps : Array Tmp) (assign body : Code) (t : Tmps) : YieldF := fun args L =>
  if args.length = ps.size then
    (evR P gl ext md call assign ((ps.toList.zip args).foldl (fun t p => t.set p.1 p.2) t) L).bind fun p => (evR P gl ext md call body p.1 p.2).map (·.2)
  else none

/-- The statement: the heap behind it. -/
def rangeF (P : Program) (gl : Nat → Option (List AV)) (ext : ExtF) (md : FuncId → Nat) (call : CallF) (N : Nat) (g : Operand) (ps : Array Tmp) (assign body : Code) (t : Tmps) (L : List Blk) : Option (List Blk) :=
  match evO gl t g with
  | some (.fn gf [] cap) => (P.funcs[gf]?).bind fun fn => fn.body.bind fun c =>
    (evY P gl ext md call (handY P gl ext md call ps assign body t) N c ((.yl :: cap) ++ List.replicate (fn.ntmps - (cap.length + 1)) undefA) L).bind fun p =>
    match p with
    | (.exit _, _, _) => none
    | (_, t', L') => if noYL t && noYL cap && L.all noYB && L'.all noYB then (retA P L' t' fn.results.toList).map fun _ => L' else none
  | _ => none

/-- Code that holds one such statement; the word tells whether it was come to. -/
def evF (P : Program) (gl : Nat → Option (List AV)) (ext : ExtF) (md : FuncId → Nat) (call : CallF) (N : Nat) : Code → Tmps → List Blk → Option (Ex × Tmps × List Blk × Bool)
  | .rangeFunc g ps assign body, t, L => (rangeF P gl ext md call N g ps assign body t L).map fun L' => (.normal, t, L', true)
  | .seq a b, t, L => match evF P gl ext md call N a t L with
    | some (.normal, t', L', false) => evF P gl ext md call N b t' L'
    | some (.normal, t', L', true) => (evCode P gl ext md call N b t' L').map fun p => (p.1, p.2.1, p.2.2, true)
    | r => r
  | .block id c, t, L => match evF P gl ext md call N c t L with
    | some (.exit id', t', L', u) => if id' = id then some (.normal, t', L', u) else some (.exit id', t', L', u)
    | r => r
  | c, t, L => (evCode P gl ext md call N c t L).map fun p => (p.1, p.2.1, p.2.2, false)

/-- One call of such a function. -/
def bodyF (P : Program) (gl : Nat → Option (List AV)) (ext : ExtF) (md : FuncId → Nat) (N : Nat) (call : CallF) : CallF := fun f args h => do
  let fn ← P.funcs[f]?
  let c ← fn.body
  match ← evF P gl ext md call N c (args ++ List.replicate (fn.ntmps - args.length) undefA) h with
  | (.exit _, _, _, _) => none
  | (_, t, h', _) => do
    match ← retA P h' t fn.results.toList with
    | [v] => some (v, h')
    | vs => some (.tup vs, h')

section fn
variable {P : Program} {gl : Nat → Option (List AV)} {ext : ExtF} {md : FuncId → Nat} {call : CallF} {N : Nat}
variable (hcall : CallsOK P gl call) (hext : ExtOK P gl ext) (hNG : ∀ (f : FuncId) (fn : Func), P.funcs[f]? = some fn → fn.body.isNone = false → (fn.name == "runtime.NumGoroutine") = false)

theorem zip_fold {g : G} {h : Nat → Blk} {hp : Array Obj} : ∀ (ps : List Tmp) (args : List AV) (A : List Value), VRL g h hp args A → ∀ (t : Tmps) (T : Array Value), VRL g h hp t T.toList →
    VRL g h hp ((ps.zip args).foldl (fun t p => t.set p.1 p.2) t) ((ps.zip A).foldl (fun t p => t.setIfInBounds p.1 p.2) T).toList
  | [], _, _, _, _, _, ht => by simpa using ht
  | _ :: _, [], _, hA, _, _, ht => by cases hA; simpa using ht
  | p :: ps, a :: args, _, hA, t, T, ht => by
    cases hA with
    | cons _ v _ A ha hl =>
      simp only [List.zip_cons_cons, List.foldl_cons]
      exact zip_fold ps args A hl _ _ (by rw [Array.toList_setIfInBounds]; exact ht.set p ha)

/-- What the code of a function with such a loop is known to do. -/
def FOK (P : Program) (gl : Nat → Option (List AV)) (c : Code) (t : Tmps) (L : List Blk) (x : Ex) (t' : Tmps) (L' : List Blk) (u : Bool) : Prop :=
  L.length ≤ L'.length ∧ ∀ (n : Nat) (Q : Exit → Act → World → Prop) (g : G) (w : World) (a : Act), At gl g L w t a →
    (∀ g' w' a', At gl g' L' w' t' a' → Post g (hget L) w L.length L'.length g' (hget L') w' →
      (match u with
       | false => a'.defers = a.defers
       | true => ∃ D, a'.defers = { target := .collected D, args := #[] } :: a.defers ∧ w.heap.size ≤ D ∧ Apart D (.deferred (some [])) g' (hget L') w') → Q (exOf x) a' w') → c.wpIn Fence.wide n P Q a w

include hcall hext hNG

theorem rangeF_sound (hm : P.follows .mixedOrders = true) {g : Operand} {ps : Array Tmp} {assign body : Code} {t : Tmps} {L L' : List Blk} (he : rangeF P gl ext md call N g ps assign body t L = some L') :
    FOK P gl (.rangeFunc g ps assign body) t L .normal t L' true := by
  unfold rangeF at he
  split at he
  case h_2 => cases he
  rename_i gf cap hg
  simp only [Option.bind_eq_some_iff] at he
  obtain ⟨fn, hf, c, hb, ⟨x, t1, L1⟩, h1, he⟩ := he
  have hret : ∃ vs, retA P L1 t1 fn.results.toList = some vs ∧ L' = L1 ∧ (∀ id, x ≠ .exit id) ∧ noYL t = true ∧ noYL cap = true ∧ L.all noYB = true ∧ L1.all noYB = true := by
    cases x with
    | exit id => simp at he
    | normal =>
      simp only [] at he
      split at he
      case isFalse => cases he
      rename_i hn
      simp only [Bool.and_eq_true] at hn
      simp only [Option.map_eq_some_iff] at he; obtain ⟨vs, q1, rfl⟩ := he; exact ⟨vs, q1, rfl, fun id e => (by cases e), hn.1.1.1, hn.1.1.2, hn.1.2, hn.2⟩
    | ret =>
      simp only [] at he
      split at he
      case isFalse => cases he
      rename_i hn
      simp only [Bool.and_eq_true] at hn
      simp only [Option.map_eq_some_iff] at he; obtain ⟨vs, q1, rfl⟩ := he; exact ⟨vs, q1, rfl, fun id e => (by cases e), hn.1.1.1, hn.1.1.2, hn.1.2, hn.2⟩
  obtain ⟨vs, hr, rfl, hx, hnt, hnc, hnL, hnL'⟩ := hret
  have hnb : fn.body.isNone = false := by rw [hb]; rfl
  -- the length, by a run whose base says nothing
  have hlen : L.length ≤ L'.length := by
    have hY0 : HandOK P gl 0 default (fun _ _ _ => False) (handY P gl ext md call ps assign body t) := fun args L L' hh => by
      unfold handY at hh
      split at hh
      case isFalse => cases hh
      simp only [Option.bind_eq_some_iff, Option.map_eq_some_iff] at hh
      obtain ⟨⟨t2, L2⟩, q1, ⟨t3, L3⟩, q2, rfl⟩ := hh
      exact ⟨Nat.le_trans (evR_sound hcall hext hNG (.inl rfl) (m := 0) _ _ _ _ _ q1).1 (evR_sound hcall hext hNG (.inl rfl) (m := 0) _ _ _ _ _ q2).1, fun _ _ _ _ _ _ _ b => b.elim⟩
    exact (evY_sound hcall hext hNG (fun _ _ _ _ _ _ b _ _ => b) hY0 hm c _ _ _ _ _ h1).1
  refine ⟨hlen, fun n Q g0 w0 a s hq => wpIn_rangeFunc fun fnF _ => ?_⟩
  have hgv := evO_sound s.gl s.tmps hg
  generalize hfv : a.eval g = fv at hgv
  cases hgv with
  | fn _ _ _ A0 C hA0 hC =>
  cases hA0
  obtain ⟨rec, hrec⟩ : ∃ rec : LoopState → Loop, rec = fun st => { state := st, pending := none, fn := fnF, tmps := a.tmps, params := ps, assign, body, defers := w0.heap.size } := ⟨_, rfl⟩
  obtain ⟨l, hl⟩ : ∃ l, l = w0.heap.size + 1 := ⟨_, rfl⟩
  obtain ⟨g1, hg1⟩ : ∃ g1 : G, g1 = { g0 with yv := .func (.yield l) #[] #[] } := ⟨_, rfl⟩
  have S1 : Sim g1 (hget L) w0.heap := by rw [hg1]; exact s.sim.revalue _ (noYB_hget hnL)
  have ht1 : VRL g1 (hget L) w0.heap t a.tmps.toList := by rw [hg1]; exact s.tmps.revalue _ hnt
  have hgl1 : GlOK gl g1 (hget L) w0.heap := by rw [hg1]; exact s.gl.revalue _
  -- what stands while the iterator runs
  let B : G → List Blk → World → Prop := fun g L2 w => Apart l (.loop (rec .ready)) g (hget L2) w ∧ Apart w0.heap.size (.deferred (some [])) g (hget L2) w ∧
    Post g1 (hget L) w0 L.length L2.length g (hget L2) w ∧ g.yv = .func (.yield l) #[] #[] ∧ L.length ≤ L2.length
  have hBk : KeptBy B := by
    rintro g L2 w g' L3 w' ⟨b1, b2, b3, b4, b5⟩ hle p
    exact ⟨b1.post p, b2.post p, b3.trans p b5 hle, p.ext.yv.trans b4, Nat.le_trans b5 hle⟩
  have hY : HandOK P gl l (rec .ready) B (handY P gl ext md call ps assign body t) := fun args L2 L3 hh => by
    unfold handY at hh
    split at hh
    case isFalse => cases hh
    rename_i hal
    simp only [Option.bind_eq_some_iff, Option.map_eq_some_iff] at hh
    obtain ⟨⟨t2, L2'⟩, q1, ⟨t3, L3'⟩, q2, hh⟩ := hh
    simp only [] at q1 q2 hh
    subst hh
    obtain ⟨i1, i2⟩ := evR_sound hcall hext hNG (.inr ⟨l, rfl⟩) (m := 0) _ _ _ _ _ q1
    obtain ⟨j1, j2⟩ := evR_sound hcall hext hNG (.inr ⟨l, rfl⟩) (m := 0) _ _ _ _ _ q2
    refine ⟨Nat.le_trans i1 j1, fun g w A S hgl hbd hA hB => ?_⟩
    have hB' := hB
    obtain ⟨b1, b2, b3, b4, b5⟩ := hB'
    refine ⟨b1.at_, by rw [← hA.length, hal, hrec], b4, fun n => ?_⟩
    obtain ⟨_, i2⟩ := evR_sound hcall hext hNG (.inr ⟨l, rfl⟩) (m := n) _ _ _ _ _ q1
    obtain ⟨_, j2⟩ := evR_sound hcall hext hNG (.inr ⟨l, rfl⟩) (m := n) _ _ _ _ _ q2
    have htz : VRL g (hget L2) w.heap ((ps.toList.zip args).foldl (fun t p => t.set p.1 p.2) t) ((ps.zip A.toArray).foldl (fun t p => t.setIfInBounds p.1 p.2) a.tmps).toList := by
      have := zip_fold ps.toList args A hA t a.tmps (ht1.mono b3.ext)
      rw [← Array.foldl_toList]
      simpa using this
    have hpr : (rec .ready).params = ps := by rw [hrec]
    have htm : (rec .ready).tmps = a.tmps := by rw [hrec]
    have has : (rec .ready).assign = assign := by rw [hrec]
    have hbo : (rec .ready).body = body := by rw [hrec]
    rw [hpr, htm, has, hbo]
    refine roundIn_of_wpIn trivial (i2 _ g w _ ⟨S, hgl, htz, hbd⟩ fun g2 w2 a2 s2 p2 d2 => ?_)
    obtain ⟨c1, c2, c3, c4, c5⟩ := hBk _ _ _ _ _ _ hB i1 p2
    refine ⟨_, run_beginRound c1.at_ (by rw [hrec]), ?_⟩
    have hbusy : { rec .ready with state := .busy } = rec .busy := by rw [hrec]
    rw [hbusy]
    have s3 := s2.poke (.loop (rec .busy)) c1.m c1.F
    obtain ⟨_, E3⟩ := s2.sim.poke (.loop (rec .busy)) c1.m c1.F
    have e1 : Apart l (.loop (rec .busy)) g2 (hget L2') (w2.putObj l (.loop (rec .busy))) := c1.poke
    have e2 : Apart w0.heap.size (.deferred (some [])) g2 (hget L2') (w2.putObj l (.loop (rec .busy))) := c2.poke_other (by omega)
    have e3 : Post g1 (hget L) w0 L.length L2'.length g2 (hget L2') (w2.putObj l (.loop (rec .busy))) := c3.poke _ (by omega) c1.m c1.F
    refine j2 _ g2 _ a2 s3 fun g4 w4 a4 s4 p4 d4 => ?_
    have f1 := e1.post p4
    have f2 := e2.post p4
    have f3 := e3.trans p4 c5 j1
    refine ⟨_, _, run_endRound none f1.at_, ?_⟩
    have hready : { rec .busy with state := if (none : Option Code).isNone then .ready else .done, pending := none } = rec .ready := by rw [hrec]; rfl
    rw [hready]
    obtain ⟨S5, E5⟩ := s4.sim.poke (.loop (rec .ready)) f1.m f1.F
    refine ⟨rfl, g4, (p2.ext.trans E3).trans (p4.ext.trans E5), S5, s4.bd, f1.poke, f2.poke_other (by omega), f3.poke _ (by omega) f1.m f1.F, ?_, Nat.le_trans c5 j1⟩
    exact p4.ext.yv.trans c4
  obtain ⟨_, i2⟩ := evY_sound hcall hext hNG hBk hY hm c _ _ _ _ _ h1
  -- the loop is entered
  have p0 : Post g1 (hget L) w0 L.length L.length g1 (hget L) ((w0.alloc (.deferred (some []))).alloc (.loop (rec .ready))) := ((Post.refl S1 _ _).push _).push _
  obtain ⟨W1, hW1⟩ : ∃ W1, (w0.alloc (.deferred (some []))).alloc (.loop (rec .ready)) = W1 := ⟨_, rfl⟩
  have hB1 : B g1 L W1 := by
    rw [← hW1]
    refine ⟨?_, (Apart.new S1).push, p0, by rw [hg1], Nat.le_refl _⟩
    have := Apart.new (o := .loop (rec .ready)) (((Post.refl S1 L.length L.length).push (.deferred (some []))).sim)
    rw [World.size_alloc] at this
    rw [hl]; exact this
  rw [hW1] at p0
  refine ⟨l, [{ target := .collected w0.heap.size, args := #[] }], W1, { target := .fn (.func gf) C.toArray, args := #[.func (.yield l) #[] #[]] }, W1, gf,
    #[.func (.yield l) #[] #[]] ++ C.toArray, W1, ?_, ?_, fun _ _ => trivial, ?_, fun e => (by cases e), ?_⟩
  · rw [← hW1, hrec, hl]; exact run_enterLoop_outer _ _ _ _ _
  · simp only [resolve, hfv]
    simp [go_sem]
  · simp only [invoke]
    exact callFunc_enter hf hnb (hNG gf fn hf hnb)
  · refine callsIn_wide.2 (calls_of_wp hf hb ?_)
    have hcl := hC.length
    have hC1 : VRL g1 (hget L) W1.heap cap C := by
      have h0 : VRL g1 (hget L) w0.heap cap C := by rw [hg1]; exact hC.revalue _ hnc
      exact h0.mono p0.ext
    have hat : At gl g1 L W1 ((.yl :: cap) ++ List.replicate (fn.ntmps - (cap.length + 1)) undefA)
        { tmps := (#[.func (.yield l) #[] #[]] ++ C.toArray) ++ Array.replicate (fn.ntmps - (#[Value.func (.yield l) #[] #[]] ++ C.toArray).size) undef, defers := [] } := by
      refine ⟨p0.sim, hgl1.mono p0.ext, ?_, fun b hb => s.bd b (by rw [hg1] at hb; exact hb)⟩
      have hyv : VR g1 (hget L) W1.heap .yl (.func (.yield l) #[] #[]) := by
        have := VR.yl (g := g1) (h := hget L) (hp := W1.heap) (by rw [hg1]; rfl)
        rw [show g1.yv = .func (.yield l) #[] #[] by rw [hg1]] at this
        exact this
      have he : ((#[Value.func (.yield l) #[] #[]] ++ C.toArray) ++ Array.replicate (fn.ntmps - (#[Value.func (.yield l) #[] #[]] ++ C.toArray).size) undef).toList = (Value.func (.yield l) #[] #[] :: C) ++ List.replicate (fn.ntmps - (cap.length + 1)) undef := by
        simp [hcl]
      rw [he]
      exact VRL.append (.cons _ _ _ _ hyv hC1) (VRL.replicate undef_VR _)
    refine i2 _ g1 W1 _ hat hB1 fun g2 w2 a2 s2 b2 d2 => ?_
    obtain ⟨c1, c2, c3, c4, c5⟩ := b2
    obtain ⟨V, q1, q2⟩ := retA_sound s2.sim s2.tmps fn.results.toList vs hr
    have hres : ∃ u, (results fn a2.tmps).run P w2 = .ok u w2 := results_runs q1
    obtain ⟨u, hu⟩ := hres
    -- behind the iterator
    have hfin : rangePost Fence.wide n P l Q { a with defers := [{ target := .collected w0.heap.size, args := #[] }] ++ a.defers } (.returned u) w2 := by
      refine ⟨none, _, by have := run_endLoop (P := P) c1.at_ (by rw [hrec]; simp); rw [hrec] at this; exact this, ?_⟩
      have f3 := c3.poke (.loop { rec .ready with state := .exhausted }) (by omega : w0.heap.size ≤ l) c1.m c1.F
      have f2 := c2.poke_other (k := l) (o' := .loop { rec .ready with state := .exhausted }) (by omega)
      rw [hrec] at f3 f2
      -- the old yield value
      have hS : Sim { g2 with yv := g0.yv } (hget L') (w2.putObj l (.loop { rec .ready with state := .exhausted })).heap := by rw [hrec]; exact f3.sim.revalue _ (noYB_hget hnL')
      rw [hrec] at hS
      have hE : Ext g0 (hget L) w0.heap { g2 with yv := g0.yv } (hget L') (w2.putObj l (.loop { rec .ready with state := .exhausted })).heap := by
        rw [hrec]
        have E := f3.ext
        rw [hg1] at E
        exact ⟨E.dom, E.cells, E.obj, E.F, E.keep, rfl⟩
      rw [hrec] at hE
      have hP : Post g0 (hget L) w0 L.length L'.length { g2 with yv := g0.yv } (hget L') (w2.putObj l (.loop { rec .ready with state := .exhausted })) := by
        rw [hrec]
        rw [hg1] at f3
        exact ⟨hS, hE, f3.size, f3.frame, f3.img, f3.F, f3.dom, f3.os, f3.tape, f3.output⟩
      rw [hrec] at hP
      refine hq { g2 with yv := g0.yv } _ _ ⟨hP.sim, s.gl.mono hP.ext, s.tmps.mono hP.ext, fun b hb => s2.bd b hb⟩ hP ⟨w0.heap.size, rfl, Nat.le_refl _, ⟨f2.at_, f2.m, f2.F⟩⟩
    cases x with
    | exit id => exact absurd rfl (hx id)
    | normal => exact ⟨d2, u, hu, hfin⟩
    | ret => exact ⟨d2, u, hu, hfin⟩

end fn
end Go.Xv

namespace Go.Xv

section fn
variable {P : Program} {gl : Nat → Option (List AV)} {ext : ExtF} {md : FuncId → Nat} {call : CallF} {N : Nat} {T : Tab}
variable (hcall : CallsOK P gl call) (hext : ExtOK P gl ext) (hNG : ∀ (f : FuncId) (fn : Func), P.funcs[f]? = some fn → fn.body.isNone = false → (fn.name == "runtime.NumGoroutine") = false)
include hcall hext hNG

theorem evF_sound (hm : P.follows .mixedOrders = true) : ∀ (c : Code) (t : Tmps) (L : List Blk) (x : Ex) (t' : Tmps) (L' : List Blk) (u : Bool), evF P gl ext md call N c t L = some (x, t', L', u) → FOK P gl c t L x t' L' u := by
  have hleaf : ∀ (c : Code) (t : Tmps) (L : List Blk) (x : Ex) (t' : Tmps) (L' : List Blk), evCode P gl ext md call N c t L = some (x, t', L') → FOK P gl c t L x t' L' false := fun c t L x t' L' he => by
    obtain ⟨i1, i2⟩ := evCode_sound hcall hext hNG hm c t L x t' L' he
    exact ⟨i1, fun n Q g w a s hq => wpIn_wide.2 (i2 Q g w a s fun g1 w1 a1 s1 p1 d1 => hq g1 w1 a1 s1 p1 d1)⟩
  have hdef : ∀ (c : Code) (t : Tmps) (L : List Blk) (x : Ex) (t' : Tmps) (L' : List Blk) (u : Bool), (evCode P gl ext md call N c t L).map (fun p => (p.1, p.2.1, p.2.2, false)) = some (x, t', L', u) → FOK P gl c t L x t' L' u := fun c t L x t' L' u he => by
    simp only [Option.map_eq_some_iff, Prod.mk.injEq] at he
    obtain ⟨⟨x1, t1, L1⟩, h1, rfl, rfl, rfl, rfl⟩ := he
    exact hleaf _ _ _ _ _ _ h1
  intro c
  induction c with
  | rangeFunc g ps assign body =>
    intro t L x t' L' u he
    simp only [evF, Option.map_eq_some_iff, Prod.mk.injEq] at he
    obtain ⟨L1, h1, rfl, rfl, rfl, rfl⟩ := he
    exact rangeF_sound hcall hext hNG hm h1
  | seq c1 c2 ih1 ih2 =>
    intro t L x t' L' u he
    simp only [evF] at he
    split at he
    · rename_i t1 L1 h1
      obtain ⟨i1, i2⟩ := ih1 _ _ _ _ _ _ h1
      obtain ⟨j1, j2⟩ := ih2 _ _ _ _ _ _ he
      refine ⟨Nat.le_trans i1 j1, fun n Q g w a s hq => wpIn_seq ?_⟩
      refine i2 n _ g w a s fun g1 w1 a1 s1 p1 d1 => j2 n Q g1 w1 a1 s1 fun g2 w2 a2 s2 p2 d2 => hq g2 w2 a2 s2 (p1.trans p2 i1 j1) ?_
      cases u with
      | false => exact d2.trans d1
      | true =>
        obtain ⟨D, e1, e2, e3⟩ := d2
        exact ⟨D, by rw [e1, d1], Nat.le_trans p1.size e2, e3⟩
    · rename_i t1 L1 h1
      obtain ⟨i1, i2⟩ := ih1 _ _ _ _ _ _ h1
      simp only [Option.map_eq_some_iff, Prod.mk.injEq] at he
      obtain ⟨⟨x2, t2, L2⟩, h2, rfl, rfl, rfl, rfl⟩ := he
      obtain ⟨j1, j2⟩ := evCode_sound hcall hext hNG hm _ _ _ _ _ _ h2
      refine ⟨Nat.le_trans i1 j1, fun n Q g w a s hq => wpIn_seq ?_⟩
      refine i2 n _ g w a s fun g1 w1 a1 s1 p1 d1 => wpIn_wide.2 (j2 Q g1 w1 a1 s1 fun g2 w2 a2 s2 p2 d2 => hq g2 w2 a2 s2 (p1.trans p2 i1 j1) ?_)
      obtain ⟨D, e1, e2, e3⟩ := d1
      exact ⟨D, d2.trans e1, e2, e3.post p2⟩
    · rename_i h1 h2
      obtain ⟨i1, i2⟩ := ih1 _ _ _ _ _ _ he
      refine ⟨i1, fun n Q g w a s hq => wpIn_seq ?_⟩
      refine i2 n _ g w a s fun g1 w1 a1 s1 p1 d1 => ?_
      cases x with
      | normal =>
        cases u with
        | false => exact absurd he (h1 t' L')
        | true => exact absurd he (h2 t' L')
      | ret => exact hq g1 w1 a1 s1 p1 d1
      | exit id => exact hq g1 w1 a1 s1 p1 d1
  | block id c ih =>
    intro t L x t' L' u he
    simp only [evF] at he
    split at he
    · rename_i id' t1 L1 u1 h1
      obtain ⟨i1, i2⟩ := ih _ _ _ _ _ _ h1
      split at he
      · rename_i hid
        simp only [Option.some.injEq, Prod.mk.injEq] at he
        obtain ⟨rfl, rfl, rfl, rfl⟩ := he
        refine ⟨i1, fun n Q g w a s hq => wpIn_block (i2 n _ g w a s fun g1 w1 a1 s1 p1 d1 => ?_)⟩
        simp only [exOf, Exit.inBlock, hid, if_true]
        exact hq g1 w1 a1 s1 p1 d1
      · rename_i hid
        simp only [Option.some.injEq, Prod.mk.injEq] at he
        obtain ⟨rfl, rfl, rfl, rfl⟩ := he
        refine ⟨i1, fun n Q g w a s hq => wpIn_block (i2 n _ g w a s fun g1 w1 a1 s1 p1 d1 => ?_)⟩
        simp only [exOf, Exit.inBlock, hid, if_false]
        exact hq g1 w1 a1 s1 p1 d1
    · rename_i hne
      obtain ⟨i1, i2⟩ := ih _ _ _ _ _ _ he
      refine ⟨i1, fun n Q g w a s hq => wpIn_block (i2 n _ g w a s fun g1 w1 a1 s1 p1 d1 => ?_)⟩
      cases x with
      | normal => exact hq g1 w1 a1 s1 p1 d1
      | ret => exact hq g1 w1 a1 s1 p1 d1
      | exit id' => exact absurd he (hne id' t' L' u)
  | _ =>
    intro t L x t' L' u he
    simp only [evF] at he
    exact hdef _ _ _ _ _ _ _ he

theorem bodyF_sound (hm : P.follows .mixedOrders = true) : CallsOK P gl (bodyF P gl ext md N call) := fun f args L v L' h => by
  simp only [bodyF, Option.bind_eq_bind, Option.bind_eq_some_iff] at h
  obtain ⟨fn, hf, c, hb, ⟨x, t1, L1, u⟩, he, h⟩ := h
  obtain ⟨i1, i2⟩ := evF_sound hcall hext hNG hm c _ _ _ _ _ _ he
  have hret : ∃ vs, retA P L1 t1 fn.results.toList = some vs ∧ L' = L1 ∧ ((∃ u, vs = [u] ∧ v = u) ∨ (vs.length ≠ 1 ∧ v = .tup vs)) ∧ ∀ id, x ≠ .exit id := by
    have hgen : ∀ (h : ((retA P L1 t1 fn.results.toList).bind fun vs => (match vs with | [v] => some (v, L1) | vs => some (.tup vs, L1) : Option (AV × List Blk))) = some (v, L')), ∃ vs, retA P L1 t1 fn.results.toList = some vs ∧ L' = L1 ∧ ((∃ u, vs = [u] ∧ v = u) ∨ (vs.length ≠ 1 ∧ v = .tup vs)) := fun h => by
      obtain ⟨vs, h1, h2⟩ := Option.bind_eq_some_iff.1 h
      refine ⟨vs, h1, ?_⟩
      split at h2
      · cases h2; exact ⟨rfl, .inl ⟨_, rfl, rfl⟩⟩
      · rename_i hne
        cases h2; exact ⟨rfl, .inr ⟨fun hl => by
          obtain ⟨u, hu⟩ := List.length_eq_one_iff.1 hl
          exact hne u hu, rfl⟩⟩
    cases x with
    | exit id => simp at h
    | normal => obtain ⟨vs, a, b, c⟩ := hgen h; exact ⟨vs, a, b, c, fun id e => by cases e⟩
    | ret => obtain ⟨vs, a, b, c⟩ := hgen h; exact ⟨vs, a, b, c, fun id e => by cases e⟩
  obtain ⟨vs, hr, rfl, hv, hx⟩ := hret
  refine ⟨i1, fun g w A S hgl hA hbd => callsIn_wide (n := 0).1 (callsIn_of_wp_marks hf hb trivial ?_)⟩
  have hlen := hA.length
  have hat : At gl g L w (args ++ List.replicate (fn.ntmps - args.length) undefA) { tmps := A.toArray ++ Array.replicate (fn.ntmps - A.toArray.size) undef, defers := [] } :=
    ⟨S, hgl, by
      have : (A.toArray ++ Array.replicate (fn.ntmps - A.toArray.size) undef).toList = A ++ List.replicate (fn.ntmps - args.length) undef := by simp [hlen]
      rw [this]
      exact hA.append (VRL.replicate undef_VR _), hbd⟩
  refine i2 0 _ g w _ hat fun g1 w1 a1 s1 p1 d1 => ?_
  have hleave : LeavesInM Fence.wide 0 P fn a1.tmps (fun e w' => ∃ u g', e = .returned u ∧ VR g' (hget L') w'.heap v u ∧ Post g (hget L) w L.length L'.length g' (hget L') w') a1.defers .returning w1 := by
    cases u with
    | false =>
      obtain ⟨u, r1, r2⟩ := results_sound s1.sim s1.tmps hr hv
      rw [show a1.defers = [] from d1]
      exact ⟨u, r1, u, g1, rfl, r2, p1⟩
    | true =>
      obtain ⟨D, e1, e2, e3⟩ := d1
      rw [show a1.defers = [{ target := .collected D, args := #[] }] from e1]
      have s2 := s1.poke (.deferred none) e3.m e3.F
      obtain ⟨u, r1, r2⟩ := results_sound s2.sim s2.tmps hr hv
      exact ⟨by simp, .inl ⟨D, _, rfl, run_takeDeferred e3.at_, u, r1, u, g1, rfl, r2, p1.poke _ e2 e3.m e3.F⟩⟩
  cases x with
  | exit id => exact absurd rfl (hx id)
  | normal => exact hleave
  | ret => exact hleave
end fn

def valF (P : Program) (gl : Nat → Option (List AV)) (ext : ExtF) (T : Tab) (md : FuncId → Nat) (N d : Nat) (f : FuncId) (args : List AV) : Option AV :=
  (bodyF P gl ext md N (callT P gl ext T md N d) f args []).bind fun r => (deep true (hget r.2) dpt r.1).map (·.1)

section tab
variable {P : Program} {gl : Nat → Option (List AV)} {ext : ExtF} {T : Tab} {md : FuncId → Nat} {N : Nat}

theorem callOK_deep {call : CallF} (hc : CallsOK P gl call) {f : FuncId} {args : List AV} {v : AV} (h : ((call f args []).bind fun r => (deep true (hget r.2) dpt r.1).map (·.1)) = some v) : CallOK P gl f args [] v [] := by
  simp only [Option.bind_eq_some_iff, Option.map_eq_some_iff] at h
  obtain ⟨⟨v1, L1⟩, h1, ⟨v2, r2⟩, h3, rfl⟩ := h
  simp only [] at h1 h3
  refine ⟨Nat.le_refl _, fun g w A S hgl hA hbd => ?_⟩
  refine Calls.mono ((hc f args [] v1 L1 h1).2 (borrow g (hget [])) w A (by rw [hget_nil] at *; exact borrow_sim S) (by rw [hget_nil] at *; exact borrow_gl hgl) ?_ (fun b hb => hb.elim)) fun e w' he => ?_
  · rw [hget_nil] at *
    exact hA.carry true false (okVL_any args) (fun o B _ hF => ⟨.inl hF, rfl⟩) fun _ =>
      ⟨fun b hb => absurd (hbd b hb) (by simp), fun b _ hb => absurd (hbd b hb) (by simp), fun b hb => absurd (hbd b hb) (by simp), rfl⟩
  · obtain ⟨u, g2, rfl, hu, hp⟩ := he
    rw [hget_nil] at hp
    obtain ⟨g3, p3, q1, q2⟩ := iso_post (by rw [hget_nil] at S; exact S) hp 0 0
    exact ⟨u, g3, rfl, by
      rw [hget_nil]
      exact (deep_sound hp.sim (own := true) (g1 := g3) (h1 := deadH) q1 (fun o B hoo hF => by
        have : o = true := by simpa using hoo
        subst this; exact q2 B hF) dpt v1 v2 r2 u h3 hu).vr, by rw [hget_nil]; exact p3⟩

theorem tab_row (hT : ExtOK P gl (lookT T)) {r : Row} (key : CallOK P gl r.f r.args [] r.v []) : ExtOK P gl (lookT (r :: T)) := fun f args v hl => by
  simp only [lookT] at hl
  cases hf : Nat.beq r.f f with
  | false => rw [hf] at hl; exact hT f args v hl
  | true =>
    rw [hf] at hl
    cases ha : eqL r.args args with
    | false => rw [ha] at hl; exact hT f args v hl
    | true =>
      rw [ha] at hl
      simp only [cond_true, Option.some.injEq] at hl
      rw [← Nat.eq_of_beq_eq_true hf, ← eqL_sound ha, ← hl]
      exact key

/-- A row of a function that holds a range over a function. -/
theorem tab_consF (hT : ExtOK P gl (lookT T)) (hext : ExtOK P gl ext) (hNG : ∀ (f : FuncId) (fn : Func), P.funcs[f]? = some fn → fn.body.isNone = false → (fn.name == "runtime.NumGoroutine") = false)
    (hm : P.follows .mixedOrders = true) {d : Nat} {r : Row} (h : eqO (valF P gl ext T md N d r.f r.args) r.v = true) : ExtOK P gl (lookT (r :: T)) := by
  refine tab_row hT ?_
  unfold eqO at h
  split at h
  · rename_i a ha
    rw [← eqA_sound h]
    exact callOK_deep (bodyF_sound (callT_sound hT hext hNG hm d) hext hNG hm) ha
  · cases h
end tab
end Go.Xv

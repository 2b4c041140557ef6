/- The interpreter over the code of the model: abstract values, one operation, regions, code, calls; how its state stands to the memory of the machine. No condition. -/
import Derived.Orders
import Derived.IntWalk
import Derived.Laws.Sem
set_option linter.all false
namespace Go.Xv

/-- Values as the interpreter holds them. 'sc': a value without memory behind it · 'ptr', 'sl', 'mp', 'it': into a live block · 'fz', 'cp', 'fm': memory that nobody writes any more, held as a tree. -/
inductive AV where
  | sc (v : Value)
  | e0
  | ptr (b ver off : Nat)
  | sl (s : Nat) (ag : Bool) (b off len cap : Nat)
  | mp (b : Nat)
  | it (b : Nat)
  | fz (own : Bool) (s : Nat) (es : List AV)
  | cp (own : Bool) (cells : List AV) (off : Nat)
  | fm (own : Bool) (es : List (Value × AV))
  | agg (cs : List AV)
  | tup (vs : List AV)
  | fn (f : FuncId) (first cap : List AV)
  | yl
  | top
  deriving Inhabited

inductive Blk where
  | dead
  | cells (cs : List AV)
  | map (es : List (Value × AV × Nat)) (clock : Nat)
  | sit (s : ByteArray) (pos : Nat)
  | mit (m : Option Nat) (since : Nat) (seen : List Nat) (stepped : Nat)
  deriving Inhabited

def undefA : AV := .tup []

/-- What an operation came to: its value, blocks written anew, new blocks, blocks that it looked at. -/
structure Eff where
  val : AV
  wr : List (Nat × Blk) := []
  al : List Blk := []
  rd : List Nat := []

def AV.cells : AV → List AV
  | .agg cs => cs
  | v => [v]

/-- May lie in one cell. -/
def AV.stor : AV → Bool
  | .agg _ | .tup _ | .top => false
  | _ => true

def AV.noTup : AV → Bool
  | .tup _ => false
  | _ => true

def leafV : AV → Option Value
  | .sc v => some v
  | _ => none

def toV : AV → Option Value
  | .sc v => some v
  | .agg cs => (cs.mapM leafV).map fun l => .agg l.toArray
  | _ => none

def leafA (v : Value) : AV := .sc v

def ofV1 : Value → Option AV
  | .agg cs => if cs.all (fun v => match v with | .agg _ | .tuple _ => false | _ => true) then some (.agg (cs.toList.map .sc)) else none
  | .tuple vs => if vs.isEmpty then some undefA else none
  | v => some (.sc v)

def ofV : Value → Option AV
  | .tuple vs => (vs.toList.mapM ofV1).map .tup
  | v => ofV1 v

/-- What a computation without memory gives. -/
def purely (P : Program) {α : Type} : Sem α → Option α
  | .pure a => some a
  | .program k => purely P (k P)
  | .mark _ k => purely P k
  | _ => none

def pureV (P : Program) (s : Sem Value) : Option Eff := do
  let v ← purely P s
  let a ← ofV v
  some { val := a }

abbrev Tmps := List AV

def evO (gl : Nat → Option (List AV)) (t : Tmps) : Operand → Option AV
  | .tmp i => some (t.getD i undefA)
  | .const v => ofV v
  | .global g => match gl g with
    | some cs => some (.cp true cs 0)
    | none => none
  | .func f => some (.fn f [] [])

def szT (P : Program) (t : TypeId) : Option Nat := purely P (sizeOf t)
def agT (P : Program) (t : TypeId) : Option Bool := purely P (isAgg t)
def zeroA (P : Program) (t : TypeId) : Option AV := do
  match ← purely P (zeroValue t) with
  | .tuple _ => none
  | v => ofV1 v

def curCells (h : Nat → Blk) (b ver : Nat) : Option (List AV) :=
  match h b with
  | .cells cs => if cs.length = ver then some cs else none
  | _ => none

def part (ag : Bool) (s off : Nat) (cs : List AV) : Option AV :=
  if ag then
    let p := (cs.drop off).take s
    if p.length = s then some (.agg p) else none
  else cs[off]?

def grp (ag : Bool) (s : Nat) : Nat → List AV → List AV
  | 0, _ => []
  | n + 1, cs => (if ag then .agg (cs.take s) else cs.headD undefA) :: grp ag s n (cs.drop s)

/-- A load through a pointer. -/
def ldPtr (P : Program) (h : Nat → Blk) (t : TypeId) : AV → Option (AV × List Nat)
  | .ptr b ver off => do
    let cs ← curCells h b ver
    let v ← part (← agT P t) (← szT P t) off cs
    some (v, [b])
  | .cp _ cs off => do
    let v ← part (← agT P t) (← szT P t) off cs
    some (v, [])
  | _ => none

def splice (cs vs : List AV) (off : Nat) : List AV := cs.take off ++ vs ++ cs.drop (off + vs.length)

def fieldOff (P : Program) (s : TypeId) (i : Nat) : Option (Nat × TypeId) := do
  let .struct fields ← P.underlying s | none
  let f ← fields[i]?
  some (f.offset, f.type)

def asN : AV → Option (IntKind × Int)
  | .sc (.int k n) => some (k, n)
  | _ => none

/-- The cells of a slice that is read; the blocks that it looked at. -/
def slCells (h : Nat → Blk) : AV → Option (List AV × List Nat)
  | .sc (.slice none 0 0) => some ([], [])
  | .e0 => some ([], [])
  | .fz _ _ es => some (es.flatMap AV.cells, [])
  | .sl s _ b off len cap => do
    let cs ← curCells h b (off + cap * s)
    some ((cs.drop off).take (len * s), [b])
  | _ => none

def slLen : AV → Option Nat
  | .sc (.slice none 0 0) => some 0
  | .e0 => some 0
  | .fz _ _ es => some es.length
  | .sl _ _ _ _ len _ => some len
  | _ => none

def bnd (x : Option AV) (dflt most : Nat) : Option Nat :=
  match x with
  | none => some dflt
  | some v => match asN v with
    | some (_, i) => if 0 ≤ i ∧ i ≤ (most : Int) then some i.toNat else none
    | none => none

/-- A slice type whose elements take s cells. -/
def sliceTy (P : Program) (t : TypeId) (s : Nat) : Bool :=
  match P.underlying t with
  | some (.slice e) => szT P e == some s
  | _ => false

def sliceTyAny (P : Program) (t : TypeId) : Bool :=
  match P.underlying t with
  | some (.slice e) => (szT P e).isSome
  | _ => false

/-- An array type, or a pointer to one: length and element type. -/
def arrayTy (P : Program) (t : TypeId) : Option (Nat × TypeId) :=
  match P.underlying t with
  | some (.array n e) => some (n, e)
  | _ => none

def optV : Option AV → Option (Option Value)
  | none => some none
  | some a => (toV a).map some

def sliceA (P : Program) (t : TypeId) (x : AV) (lo hi mx : Option AV) : Option Eff :=
  match x, mx with
  | .e0, none => if sliceTyAny P t then (bnd hi 0 0).bind fun h => (bnd lo 0 h).bind fun _ => some { val := .e0 } else none
  | .fz own s es, none =>
    if sliceTy P t s then (bnd hi es.length es.length).bind fun h => (bnd lo 0 h).bind fun l => some { val := .fz own s ((es.drop l).take (h - l)) } else none
  | .fz _ s es, some m =>
    if sliceTy P t s && hi.isSome then (bnd (some m) 0 es.length).bind fun m => (bnd hi 0 m).bind fun h => (bnd lo 0 h).bind fun l =>
      if l = m then (match es with | [] => some { val := .fz true s [] } | _ :: _ => some { val := .e0 }) else none
    else none
  | .sl s ag b off len cap, none =>
    if sliceTy P t s then (bnd hi len cap).bind fun h => (bnd lo 0 h).bind fun l =>
      if len ≤ cap then (if l = 0 ∨ l < cap then some { val := .sl s ag b (off + l * s) (h - l) (cap - l) } else some { val := .fz true s [] }) else none
    else none
  | .sl s _ _ _ len cap, some m =>
    if sliceTy P t s && hi.isSome then (bnd (some m) 0 cap).bind fun m => (bnd hi 0 m).bind fun h => (bnd lo 0 h).bind fun l =>
      if l = m ∧ len ≤ cap then some { val := .e0 } else none
    else none
  | .ptr b ver off, none =>
    (arrayTy P t).bind fun (n, e) => (szT P e).bind fun s => (agT P e).bind fun ag => (bnd hi n n).bind fun h => (bnd lo 0 h).bind fun l =>
      if off + n * s = ver ∧ l < n then some { val := .sl s ag b (off + l * s) (h - l) (n - l) } else none
  | x, mx => (toV x).bind fun v => (optV lo).bind fun lo => (optV hi).bind fun hi => (optV mx).bind fun mx => pureV P (Instr.sliceAt t v lo hi mx)

/-- An element type: its cells and whether it is an aggregate. -/
def elemTy (P : Program) (t : TypeId) : Option (TypeId × Nat × Bool) :=
  match P.underlying t with
  | some (.slice e) => (szT P e).bind fun s => (agT P e).map fun ag => (e, s, ag)
  | _ => none

/-- What is appended or copied: how many elements, their cells. -/
def srcA (h : Nat → Blk) (x : AV) : Option (Nat × List AV × List Nat) :=
  match x with
  | .sc (.string b) => some (b.size, b.data.toList.map (fun c => AV.sc (.int .u8 c.toNat)), [])
  | x => (slLen x).bind fun n => (slCells h x).bind fun (cs, rd) => some (n, cs, rd)

def isInt (P : Program) (t : TypeId) : Bool :=
  match P.underlying t with
  | some (.int _) => true
  | _ => false

def isSrc (P : Program) (t : TypeId) : Bool :=
  match P.underlying t with
  | some (.slice _) | some .string => true
  | _ => false

def zerosA (P : Program) (e : TypeId) (x : AV) : Option (Nat × List AV × List Nat) :=
  (asN x).bind fun (_, i) => (zeroA P e).bind fun z =>
    if 1 ≤ i ∧ i ≤ 100000 then some (i.toNat, (List.replicate i.toNat z.cells).flatten, []) else none

def bytesOk (P : Program) (e : TypeId) : Bool :=
  match P.info? e with
  | some i => 0 < i.bytes && i.bytes ≤ 1048576
  | none => false

/-- So many elements may be grown to. -/
def fitsB (P : Program) (e : TypeId) (m : Nat) : Bool :=
  match P.info? e with
  | some i => Nat.ble ((2 * m + 1000) * i.bytes) 140737488355328
  | none => false

/-- 'append': s has room, or it is made anew. -/
def appendA (P : Program) (h : Nat → Blk) (k : Nat) (argTypes : Array TypeId) (args : List AV) : Option Eff :=
  (argTypes[0]?).bind fun sT => (argTypes[1]?).bind fun xT => (args[0]?).bind fun s => (args[1]?).bind fun x =>
  (elemTy P sT).bind fun (e, sz, ag) =>
  (if isInt P xT then zerosA P e x else if isSrc P xT then srcA h x else none).bind fun (n, new, rd) => (zeroA P e).bind fun z =>
  if new.length = n * sz ∧ fitsB P e n = true ∧ sz ≠ 0 ∧ bytesOk P e = true ∧ z.cells.length = sz then
    match s with
    | .sc (.slice none 0 0) => if n = 0 then some { val := s, rd := rd } else some { val := .sl sz ag k 0 n n, al := [.cells new], rd := rd }
    | .e0 => if n = 0 then some { val := s, rd := rd } else some { val := .sl sz ag k 0 n n, al := [.cells new], rd := rd }
    | .fz _ _ _ => if n = 0 then some { val := s, rd := rd } else none
    | .sl s' ag' b off len cap =>
      if s' = sz ∧ ag' = ag ∧ len ≤ cap ∧ fitsB P e (len + n) = true then
        (curCells h b (off + cap * sz)).bind fun cs =>
        if len + n ≤ cap then some { val := .sl sz ag b off (len + n) cap, wr := [(b, .cells (splice cs new (off + len * sz)))], rd := b :: rd }
        else if off = 0 then some { val := .sl sz ag b 0 (len + n) (len + n), wr := [(b, .cells (cs.take (len * sz) ++ new))], rd := b :: rd }
        else none
      else none
    | _ => none
  else none

def copyA (P : Program) (h : Nat → Blk) (argTypes : Array TypeId) (args : List AV) : Option Eff :=
  (argTypes[0]?).bind fun dT => (args[0]?).bind fun d => (args[1]?).bind fun x =>
  (elemTy P dT).bind fun (_, sz, _) => (slLen d).bind fun dn => (srcA h x).bind fun (n, cs, rd) =>
  if cs.length = n * sz ∧ sz ≠ 0 then
    if Nat.min n dn = 0 then some { val := .sc (.int .i64 0), rd := rd } else
    match d with
    | .sl s' _ b off len cap =>
      if s' = sz ∧ len ≤ cap then
        (curCells h b (off + cap * sz)).bind fun ds =>
        some { val := .sc (.int .i64 (Nat.min n dn)), wr := [(b, .cells (splice ds (cs.take (Nat.min n dn * sz)) off))], rd := b :: rd }
      else none
    | _ => none
  else none

def entriesV (es : List (Value × AV × Nat)) : List MapEntry := es.map fun e => { key := e.1, val := .tuple #[], born := e.2.2 }

/-- The place of a key. -/
def findA (P : Program) (kT : TypeId) (k : Value) (es : List (Value × AV × Nat)) : Option (Option Nat) := do
  let r ← purely P (Instr.findKey kT k (entriesV es))
  some (r.map (·.1))

def mapOf (h : Nat → Blk) : AV → Option (List (Value × AV × Nat) × List Nat)
  | .sc (.map none) => some ([], [])
  | .mp b => match h b with
    | .map es _ => some (es, [b])
    | _ => none
  | .fm _ es => some (es.map (fun e => (e.1, e.2, 0)), [])
  | _ => none

def lookupA (P : Program) (h : Nat → Blk) (t : TypeId) (m ix : AV) (ok : Bool) : Option Eff := do
  let .map kT eT ← P.underlying t | none
  let k ← toV ix
  let (es, rd) ← mapOf h m
  let _ ← purely P (Instr.checkKey es.isEmpty 10000 kT k)
  match ← findA P kT k es with
  | some i => do
    let e ← es[i]?
    some { val := if ok then .tup [e.2.1, .sc (.bool true)] else e.2.1, rd := rd }
  | none => do
    let z ← zeroA P eT
    some { val := if ok then .tup [z, .sc (.bool false)] else z, rd := rd }

def updateA (P : Program) (h : Nat → Blk) (t : TypeId) (m ix x : AV) : Option Eff := do
  let .map kT _ ← P.underlying t | none
  let k ← toV ix
  match m with
  | .mp b => match h b with
    | .map es clock => do
      let _ ← purely P (Instr.checkKey false 10000 kT k)
      match ← findA P kT k es with
      | some i => do
        let e ← es[i]?
        if Instr.sameBits 10000 e.1 k then some { val := undefA, wr := [(b, .map (es.set i (k, x, e.2.2)) clock)], rd := [b] } else none
      | none => some { val := undefA, wr := [(b, .map (es ++ [(k, x, clock)]) (clock + 1))], rd := [b] }
    | _ => none
  | _ => none

/-- 'm[k] op= v': the entry is made ready. -/
def entryA (P : Program) (h : Nat → Blk) (t : TypeId) (m ix : AV) : Option Eff := do
  let .map kT eT ← P.underlying t | none
  let k ← toV ix
  match m with
  | .mp b => match h b with
    | .map es clock => do
      let _ ← purely P (Instr.checkKey false 10000 kT k)
      match ← findA P kT k es with
      | some i => do
        let e ← es[i]?
        if Instr.sameBits 10000 e.1 k then some { val := .tup [e.2.1, .sc (.int .i64 e.2.2)], wr := [(b, .map (es.set i (k, e.2.1, e.2.2)) clock)], rd := [b] } else none
      | none => do
        let z ← zeroA P eT
        some { val := .tup [z, .sc (.int .i64 clock)], wr := [(b, .map (es ++ [(k, z, clock)]) (clock + 1))], rd := [b] }
    | _ => none
  | _ => none

def bornAt (n : Int) : List (Value × AV × Nat) → Nat → Option Nat
  | [], _ => none
  | e :: es, i => if (e.2.2 : Int) = n then some i else bornAt n es (i + 1)

def entryStoreA (h : Nat → Blk) (m st x : AV) : Option Eff := do
  let (_, n) ← asN st
  match m with
  | .mp b => match h b with
    | .map es clock => do
      let i ← bornAt n es 0
      let e ← es[i]?
      some { val := undefA, wr := [(b, .map (es.set i (e.1, x, e.2.2)) clock)], rd := [b] }
    | _ => none
  | _ => none

def rangeA (P : Program) (h : Nat → Blk) (k : Nat) (t : TypeId) (x : AV) : Option Eff := do
  match P.underlying t, x with
  | some .string, .sc (.string s) => some { val := .it k, al := [.sit s 0] }
  | some (.map _ _), .sc (.map none) => some { val := .it k, al := [.mit none 0 [] 0] }
  | some (.map _ _), .mp b => match h b with
    | .map _ clock => some { val := .it k, al := [.mit (some b) clock [] clock], rd := [b] }
    | _ => none
  | _, _ => none

def nextA (h : Nat → Blk) (x : AV) (isString : Bool) : Option Eff := do
  let .it r := x | none
  match h r, isString with
  | .sit s pos, true =>
    if pos < s.size then
      some { val := .tup [.sc (.bool true), .sc (.int .i64 pos), .sc (.int .i32 (Utf8.decode s pos).1)], wr := [(r, .sit s (pos + (Utf8.decode s pos).2))], rd := [r] }
    else some { val := .tup [.sc (.bool false)], rd := [r] }
  | .mit none _ _ _, false => some { val := .tup [.sc (.bool false)], rd := [r] }
  | .mit (some m) since seen last, false => match h m with
    | .map es clock =>
      if !seen.isEmpty && !es.isEmpty && es.all (fun e => decide (e.2.2 ≥ last)) then none else
      match es.filter (fun e => !seen.contains e.2.2) with
      | [] => some { val := .tup [.sc (.bool false)], rd := [r, m] }
      | [e] => if e.2.2 < since then (ofV1 e.1).bind fun kA => some { val := .tup [.sc (.bool true), kA, e.2.1], wr := [(r, .mit (some m) since (seen ++ [e.2.2]) clock)], rd := [r, m] } else none
      | _ => none
    | _ => none
  | _, _ => none

def entryIt (h : Nat → Blk) (x : AV) : Option Eff := do
  let .it r := x | none
  match h r with
  | .mit (some m) _ seen stepped => do
    let stamp ← seen.getLast?
    match h m with
    | .map es clock =>
      if clock = stepped then (es.find? (fun e => e.2.2 == stamp)).bind fun e => (ofV1 e.1).bind fun kA => some { val := .tup [kA, e.2.1], rd := [r, m] } else none
    | _ => none
  | _ => none

def nilOf : AV → Option Bool
  | .sc (.slice none 0 0) | .sc (.map none) | .sc .nilFunc | .sc (.pointer none) => some true
  | .fz _ _ (_ :: _) => some false
  | .e0 | .sl .. | .ptr .. | .cp .. | .mp .. | .fm .. | .fn .. => some false
  | _ => none

def fits : Option TypeDesc → AV → Bool
  | some (.slice _), .sc (.slice none 0 0) | some (.slice _), .e0 | some (.slice _), .sl .. | some (.slice _), .fz .. => true
  | some (.map _ _), .sc (.map none) | some (.map _ _), .mp _ | some (.map _ _), .fm .. => true
  | some (.func ..), .sc .nilFunc | some (.func ..), .fn .. => true
  | some (.pointer _), .sc (.pointer none) | some (.pointer _), .ptr .. | some (.pointer _), .cp .. => true
  | _, _ => false

/-- '==' against nil. -/
def eqNil (P : Program) (t : TypeId) (a b : AV) : Option Bool :=
  if fits (P.underlying t) a && fits (P.underlying t) b then
    match nilOf a, nilOf b with
    | some true, some y => some y
    | some false, some true => some false
    | _, _ => none
  else none

/-- Tests on integers that the kernel reckons in a step or two. -/
def ltI : Int → Int → Bool
  | .ofNat a, .ofNat b => Nat.blt a b
  | .ofNat _, .negSucc _ => false
  | .negSucc _, .ofNat _ => true
  | .negSucc a, .negSucc b => Nat.blt b a

def eqI : Int → Int → Bool
  | .ofNat a, .ofNat b => Nat.beq a b
  | .negSucc a, .negSucc b => Nat.beq a b
  | _, _ => false

def leI (m n : Int) : Bool := !ltI n m

def two63 : Nat := 9223372036854775808

def inI : Int → Bool
  | .ofNat a => Nat.blt a two63
  | .negSucc a => Nat.blt a two63

def wrapI (n : Int) : Int := cond (inI n) n (IntKind.i64.wrap n)

theorem ltI_eq (m n : Int) : ltI m n = decide (m < n) := by
  cases m <;> cases n <;> simp only [ltI] <;> rw [Bool.eq_iff_iff] <;> simp [Nat.blt_eq] <;> omega

theorem eqI_eq (m n : Int) : eqI m n = (m == n) := by
  cases m <;> cases n <;> simp only [eqI] <;> rw [Bool.eq_iff_iff] <;> simp [Nat.beq_eq] <;> omega

theorem eqI_sound {a b : Int} (h : eqI a b = true) : a = b := by
  rw [eqI_eq] at h; simpa using h

theorem leI_eq (m n : Int) : leI m n = decide (m ≤ n) := by
  unfold leI; rw [ltI_eq, Bool.eq_iff_iff]; simp

theorem inI_le {n : Int} (h : inI n = true) : -9223372036854775808 ≤ n ∧ n ≤ 9223372036854775807 := by
  cases n with
  | ofNat a =>
    have h' : Nat.blt a two63 = true := h
    rw [Nat.blt_eq] at h'; unfold two63 at h'
    have e : (Int.ofNat a) = (a : Int) := rfl
    rw [e]
    omega
  | negSucc a =>
    have h' : Nat.blt a two63 = true := h
    rw [Nat.blt_eq] at h'; unfold two63 at h'
    exact ⟨by omega, by omega⟩

theorem wrapI_eq (n : Int) : wrapI n = IntKind.i64.wrap n := by
  unfold wrapI
  cases hb : inI n with
  | false => rfl
  | true => exact (IntWalk.i64_in _ (inI_le hb)).symm

def binA (P : Program) (op : BinOp) (t : TypeId) (x y : Operand) (a b : AV) : Option Eff :=
  match op, a, b with
  | .add, .sc (.int .i64 m), .sc (.int .i64 n) => some { val := .sc (.int .i64 (wrapI (m + n))) }
  | .sub, .sc (.int .i64 m), .sc (.int .i64 n) => some { val := .sc (.int .i64 (wrapI (m - n))) }
  | .lss, .sc (.int .i64 m), .sc (.int .i64 n) => some { val := .sc (.bool (ltI m n)) }
  | .leq, .sc (.int .i64 m), .sc (.int .i64 n) => some { val := .sc (.bool (leI m n)) }
  | .gtr, .sc (.int .i64 m), .sc (.int .i64 n) => some { val := .sc (.bool (ltI n m)) }
  | .geq, .sc (.int .i64 m), .sc (.int .i64 n) => some { val := .sc (.bool (leI n m)) }
  | .eql, .sc (.int .i64 m), .sc (.int .i64 n) => some { val := .sc (.bool (eqI m n)) }
  | .neq, .sc (.int .i64 m), .sc (.int .i64 n) => some { val := .sc (.bool (!eqI m n)) }
  | op, a, b =>
    match toV a, toV b with
    | some v, some w => pureV P (do eqGuard op t x y v w; binOp op t v w)
    | _, _ => match op with
      | .eql => (eqNil P t a b).map fun r => { val := .sc (.bool r) }
      | .neq => (eqNil P t a b).map fun r => { val := .sc (.bool (!r)) }
      | _ => none

def bytesOf : List AV → ByteArray → Option ByteArray
  | [], acc => some acc
  | .sc (.int .u8 n) :: r, acc => bytesOf r (acc.push (UInt8.ofNat n.toNat))
  | _, _ => none

def isU8 (P : Program) (t : TypeId) : Bool :=
  match P.underlying t with
  | some (.int .u8) => true
  | _ => false

def convA (P : Program) (h : Nat → Blk) (k : Nat) (src dst : TypeId) (x : AV) : Option Eff :=
  match P.underlying src, P.underlying dst with
  | some .string, some (.slice e) =>
    match x with
    | .sc (.string s) => if isU8 P e then some { val := .sl 1 false k 0 s.size s.size, al := [.cells (s.data.toList.map fun c => AV.sc (.int .u8 c.toNat))] } else none
    | _ => none
  | some (.slice e), some .string =>
    if isU8 P e then (slLen x).bind fun n => (slCells h x).bind fun (cs, rd) => (bytesOf cs .empty).bind fun b => if cs.length = n then some { val := .sc (.string b), rd := rd } else none else none
  | _, _ => (toV x).bind fun v => pureV P (convert src dst v)

def buildCells (P : Program) (place : Nat → Option (Nat × Nat)) (cells : List AV) : List (Nat × AV) → Option (List AV)
  | [] => some cells
  | (i, v) :: rest => do
    let (off, size) ← place i
    if v.cells.length = size ∧ off + size ≤ cells.length ∧ v.cells.all AV.stor then buildCells P place (splice cells v.cells off) rest else none

def placesOf (P : Program) (fs : Array Field) : Option (List (Nat × Nat)) := fs.toList.mapM fun f => (szT P f.type).map fun s => (f.offset, s)

def buildA (P : Program) (t : TypeId) (parts : List (Nat × AV)) : Option Eff :=
  (zeroA P t).bind fun z =>
  match P.underlying t with
  | some (.struct fields) => (placesOf P fields).bind fun places => (buildCells P (places[·]?) z.cells parts).bind fun cells => some { val := .agg cells }
  | some (.array _ elem) => (szT P elem).bind fun size => (buildCells P (fun i => some (i * size, size)) z.cells parts).bind fun cells => some { val := .agg cells }
  | _ => none

def buildSliceA (P : Program) (k : Nat) (t : TypeId) (len : Nat) (parts : List (Nat × AV)) : Option Eff :=
  (elemTy P t).bind fun (elem, size, ag) => (zeroA P elem).bind fun z =>
  if z.cells.length = size ∧ size ≠ 0 ∧ len * size ≤ 100000 then
    (buildCells P (fun i => some (i * size, size)) (List.replicate len z.cells).flatten parts).bind fun cells =>
    if len = 0 then some { val := .e0 } else some { val := .sl size ag k 0 len len, al := [.cells cells] }
  else none

def makeSliceA (P : Program) (k : Nat) (t : TypeId) (l c : AV) : Option Eff :=
  (elemTy P t).bind fun (elem, s, ag) => (asN l).bind fun (_, n) => (asN c).bind fun (_, m) => (zeroA P elem).bind fun z =>
  if 0 ≤ n ∧ n ≤ m ∧ m ≤ 100000 ∧ z.cells.length = s ∧ s ≠ 0 ∧ bytesOk P elem = true then
    if m = 0 then some { val := .e0 } else
    some { val := .sl s ag k 0 n.toNat m.toNat, al := [.cells (List.replicate m.toNat z.cells).flatten] }
  else none

def indexA (P : Program) (t : TypeId) (x ix : AV) : Option Eff :=
  (asN ix).bind fun (_, i) =>
  if 0 ≤ i then
    match x with
    | .fz own s es =>
      if sliceTy P t s then (es[i.toNat]?).bind fun v => some { val := .cp own v.cells 0 } else none
    | .sl s _ b off len cap =>
      if sliceTy P t s ∧ i < (len : Int) then some { val := .ptr b (off + cap * s) (off + i.toNat * s) } else none
    | .ptr b ver off =>
      (arrayTy P t).bind fun (n, e) => (szT P e).bind fun s => if i < (n : Int) then some { val := .ptr b ver (off + i.toNat * s) } else none
    | .cp own cs off =>
      (arrayTy P t).bind fun (n, e) => (szT P e).bind fun s => if i < (n : Int) then some { val := .cp own cs (off + i.toNat * s) } else none
    | _ => none
  else none

def isSlice (P : Program) (t : TypeId) : Bool :=
  match P.underlying t with
  | some (.slice _) => true
  | _ => false

def isMapT (P : Program) (t : TypeId) : Bool :=
  match P.underlying t with
  | some (.map _ _) => true
  | _ => false

def lenA (P : Program) (h : Nat → Blk) (argTypes : Array TypeId) (ty : TypeId) (x : AV) : Option Eff :=
  match x with
  | .mp b => (argTypes[0]?).bind fun T => if isMapT P T then (match h b with | .map es _ => some { val := .sc (.int .i64 es.length), rd := [b] } | _ => none) else none
  | .sc v => pureV P (Builtin.len_ argTypes ty #[v])
  | x => (argTypes[0]?).bind fun T => if isSlice P T then (slLen x).bind fun n => some { val := .sc (.int .i64 n) } else none

def builtinA (P : Program) (h : Nat → Blk) (k : Nat) (b : Builtin) (argTypes : Array TypeId) (ty : TypeId) (args : List AV) : Option Eff :=
  match b, args with
  | .append, args => appendA P h k argTypes args
  | .copy, args => copyA P h argTypes args
  | .len, [x] => lenA P h argTypes ty x
  | .cap, [.e0] => (argTypes[0]?).bind fun T => if isSlice P T then some { val := .sc (.int .i64 0) } else none
  | .cap, [.sc v] => pureV P (Builtin.cap_ argTypes ty #[v])
  | .min, args => (args.mapM toV).bind fun vs => pureV P (Builtin.min_ argTypes ty vs.toArray)
  | .max, args => (args.mapM toV).bind fun vs => pureV P (Builtin.max_ argTypes ty vs.toArray)
  | _, _ => none

def optO (ρ : Operand → Option AV) : Option Operand → Option (Option AV)
  | none => some none
  | some x => (ρ x).map some

/-- What one operation does that calls no function with a body. -/
def evOp (P : Program) (gl : Nat → Option (List AV)) (t : Tmps) (h : Nat → Blk) (k : Nat) (o : Oper) : Option Eff :=
  let ρ := evO gl t
  match o.op with
  | .move x | .assign x => do some { val := ← ρ x }
  | .pick c a b => do
    match ← ρ c with
    | .sc (.bool true) => some { val := ← ρ a }
    | .sc (.bool false) => some { val := ← ρ b }
    | _ => none
  | .alloc elem => do
    let z ← zeroA P elem
    some { val := .ptr k z.cells.length 0, al := [.cells z.cells] }
  | .box _ x => do
    let v ← ρ x
    if v.cells.all AV.stor then some { val := .ptr k v.cells.length 0, al := [.cells v.cells] } else none
  | .build ty parts => do
    let ps ← parts.toList.mapM fun p => (ρ p.2).map fun v => (p.1, v)
    buildA P ty ps
  | .buildSlice ty len parts => do
    let ps ← parts.toList.mapM fun p => (ρ p.2).map fun v => (p.1, v)
    buildSliceA P k ty len ps
  | .load ty a => do
    let (v, rd) ← ldPtr P h ty (← ρ a)
    some { val := v, rd := rd }
  | .store ty a x => do
    let p ← ρ a
    let v ← ρ x
    match p with
    | .ptr b ver off => do
      let cs ← curCells h b ver
      if v.cells.length = (← szT P ty) ∧ off + v.cells.length ≤ cs.length ∧ v.cells.all AV.stor then
        some { val := undefA, wr := [(b, .cells (splice cs v.cells off))], rd := [b] }
      else none
    | _ => none
  | .nilCheck x => do
    let v ← ρ x
    match v with
    | .ptr .. | .cp .. => some { val := v }
    | .fn .. => some { val := v }
    | _ => none
  | .binOp op ty x y _ => do binA P op ty x y (← ρ x) (← ρ y)
  | .unOp op _ x => do pureV P (Op.unary op (← toV (← ρ x)))
  | .convert src dst x => do convA P h k src dst (← ρ x)
  | .makeFunc (.func f) first captured => do
    let a ← first.toList.mapM ρ
    let b ← captured.toList.mapM ρ
    some { val := .fn f a b }
  | .makeMap _ none => some { val := .mp k, al := [.map [] 0] }
  | .makeMap ty (some r) => do
    let .map _ _ ← P.underlying ty | none
    let _ ← asN (← ρ r)
    some { val := .mp k, al := [.map [] 0] }
  | .makeSlice ty l c => do makeSliceA P k ty (← ρ l) (← ρ c)
  | .slice ty x lo hi mx => do sliceA P ty (← ρ x) (← optO ρ lo) (← optO ρ hi) (← optO ρ mx)
  | .fieldAddr s x f => do
    let (off, ft) ← fieldOff P s f
    if (← szT P ft) = 0 then none else
    match ← ρ x with
    | .ptr b ver o => some { val := .ptr b ver (o + off) }
    | .cp own cs o => some { val := .cp own cs (o + off) }
    | _ => none
  | .field xT x f => do
    let (off, ft) ← fieldOff P xT f
    match ← ρ x with
    | .agg cs => do some { val := ← part (← agT P ft) (← szT P ft) off cs }
    | _ => none
  | .indexAddr ty x ix => do indexA P ty (← ρ x) (← ρ ix)
  | .index ty x ix => do
    match ← ρ x with
    | .agg cs => do
      let (_, i) ← asN (← ρ ix)
      let .array n e ← P.underlying ty | none
      if 0 ≤ i ∧ i < (n : Int) then do some { val := ← part (← agT P e) (← szT P e) (i.toNat * (← szT P e)) cs } else none
    | x => do pureV P (Instr.index ty (← toV x) (← toV (← ρ ix)))
  | .lookup ty x ix ok => do lookupA P h ty (← ρ x) (← ρ ix) ok
  | .mapUpdate ty m i x | .insert ty m i x => do
    let v ← ρ x
    if v.noTup then updateA P h ty (← ρ m) (← ρ i) v else none
  | .mapEntry ty m i => do entryA P h ty (← ρ m) (← ρ i)
  | .entryStore _ m s x => do
    let v ← ρ x
    if v.noTup then entryStoreA h (← ρ m) (← ρ s) v else none
  | .range ty x => do rangeA P h k ty (← ρ x)
  | .next it isString => do nextA h (← ρ it) isString
  | .entry it => do entryIt h (← ρ it)
  | .extract x i => do
    match ← ρ x with
    | .tup vs => do some { val := ← vs[i]? }
    | _ => none
  | .call c => match c.callee with
    | .builtin b => do builtinA P h k b c.argTypes o.type (← c.args.toList.mapM ρ)
    | _ => none
  | _ => none

end Go.Xv

namespace Go.Xv

def hget (h : List Blk) (b : Nat) : Blk := h.getD b .dead

def wrAll (h : List Blk) : List (Nat × Blk) → List Blk
  | [] => h
  | (b, x) :: r => wrAll (h.set b x) r

-- May it stand where live memory is not seen (lv: it may be live; p: no borrowed tree)?
mutual
def okV (lv p : Bool) : AV → Bool
  | .sc _ | .e0 | .top => true
  | .ptr .. | .sl .. | .mp _ | .it _ | .yl => lv
  | .fz own _ _ => own || !p
  | .cp own _ _ => own || !p
  | .fm own _ => own || !p
  | .agg cs => okVL lv p cs
  | .tup vs => okVL lv p vs
  | .fn _ a b => okVL lv p a && okVL lv p b
def okVL (lv p : Bool) : List AV → Bool
  | [] => true
  | a :: l => okV lv p a && okVL lv p l
end

/-- A block that holds nothing borrowed. -/
def okB : Blk → Bool
  | .cells cs => okVL true true cs
  | .map es _ => okVL true true (es.map fun e => e.2.1)
  | _ => true

def mapW (f : AV → Option (AV × List Nat)) : List AV → Option (List AV × List Nat)
  | [] => some ([], [])
  | a :: l => (f a).bind fun p => (mapW f l).bind fun q => some (p.1 :: q.1, p.2 ++ q.2)

/-- Live memory turned into trees: for good (own), or for the time of a call. -/
def deep (own : Bool) (h : Nat → Blk) : Nat → AV → Option (AV × List Nat)
  | 0, _ => none
  | n + 1, v =>
    match v with
    | .sc v => some (.sc v, [])
    | .e0 => some (.e0, [])
    | .ptr b ver off => (curCells h b ver).bind fun cs => (mapW (deep own h n) cs).bind fun p => some (.cp own p.1 off, b :: p.2)
    | .sl s ag b off len cap => (curCells h b (off + cap * s)).bind fun cs =>
      if len ≤ cap ∧ (ag = true ∨ s = 1) then (mapW (deep own h n) ((cs.drop off).take (len * s))).bind fun p => some (.fz own s (grp ag s len p.1), b :: p.2) else none
    | .mp b => match h b with
      | .map es _ => (mapW (deep own h n) (es.map fun e => e.2.1)).bind fun p => some (.fm own ((es.map fun e => e.1).zip p.1), b :: p.2)
      | _ => none
    | .it _ => none
    | .yl => none
    | .top => none
    | .fz o s es => if o || !own then some (.fz o s es, []) else none
    | .cp o cs off => if o || !own then some (.cp o cs off, []) else none
    | .fm o es => if o || !own then some (.fm o es, []) else none
    | .agg cs => (mapW (deep own h n) cs).bind fun p => some (.agg p.1, p.2)
    | .tup vs => (mapW (deep own h n) vs).bind fun p => some (.tup p.1, p.2)
    | .fn f a b => (mapW (deep own h n) a).bind fun p => (mapW (deep own h n) b).bind fun q => some (.fn f p.1 q.1, p.2 ++ q.2)

def deepL (own : Bool) (h : Nat → Blk) (n : Nat) : List AV → Option (List AV × List Nat) := mapW (deep own h n)

def dpt : Nat := 24

/-- A call's meaning handed in: function, arguments, heap; its value and the heap behind it. -/
abbrev CallF := FuncId → List AV → List Blk → Option (AV × List Blk)

def retA (P : Program) (h : List Blk) (t : Tmps) : List ResultVar → Option (List AV)
  | [] => some []
  | .tmp i :: r => do
    let l ← retA P h t r
    some (t.getD i undefA :: l)
  | .cell a ty :: r => do
    let (v, _) ← ldPtr P (hget h) ty (t.getD a undefA)
    let l ← retA P h t r
    some (v :: l)

/-- A function without a body. -/
def externA (P : Program) (f : FuncId) (args : List AV) : Option AV := do
  let vs ← args.mapM toV
  match ← purely P (callFunc f vs.toArray) with
  | .value v => ofV v
  | _ => none

/-- Operations that call. 'md f': the function shares the caller's heap. -/
def callee (gl : Nat → Option (List AV)) (t : Tmps) (o : Oper) : Option (Option (FuncId × List AV)) :=
  match o.op with
  | .call c => match c.callee with
    | .value f => match evO gl t f with
      | some (.fn g first cap) => (c.args.toList.mapM (evO gl t)).map fun l => some (g, first ++ l ++ cap)
      | _ => none
    | _ => some none
  | _ => some none

structure Rec where
  i : Nat
  loud : Bool
  big : Bool
  rd : List Nat
  wr : List Nat
  al : List Nat

def meets (a b : List Nat) : Bool := a.any fun x => b.contains x

/-- Two operations of one region that may come in either order do not touch one another's memory. -/
def Rec.calm (x y : Rec) : Bool :=
  !(x.big && y.loud) && !(y.big && x.loud) && !meets x.wr y.rd && !meets x.rd y.wr && !meets x.al y.rd && !meets x.rd y.al

def yieldedA (ops : Array Oper) (t : Tmps) (j : Nat) : Option (Option Bool) :=
  match (ops[j]?).bind (·.dst) with
  | some d => match t[d]? with
    | some (.sc (.bool b)) => some (some b)
    | some (.tup _) => some none
    | none => some none
    | _ => none
  | none => some none

def wantedA (ops : Array Oper) (t : Tmps) (o : Oper) : Option Bool :=
  match o.guard with
  | none => some true
  | some (j, want) => (yieldedA ops t j).map fun y => y == some want

def putA (t : Tmps) (d : Option Tmp) (v : AV) : Tmps :=
  match d with
  | some d => t.set d v
  | none => t

/-- Calls whose meaning is told from outside. -/
abbrev ExtF := FuncId → List AV → Option AV

/-- One operation, calls too. -/
def stepOp (P : Program) (gl : Nat → Option (List AV)) (ext : ExtF) (md : FuncId → Nat) (call : CallF) (t : Tmps) (h : List Blk) (i : Nat) (o : Oper) : Option (AV × List Blk × Rec) :=
  (callee gl t o).bind fun c => match c with
  | some (f, args) =>
    (P.funcs[f]?).bind fun fn =>
      if fn.body.isNone then
        (externA P f args).bind fun v => some (v, h, { i := i, loud := false, big := false, rd := [], wr := [], al := [] })
      else match md f with
      | 3 =>
        (deepL false (hget h) dpt args).bind fun a => (ext f a.1).bind fun v =>
        if okV false true v then some (v, h, { i := i, loud := !a.2.isEmpty, big := false, rd := a.2, wr := [], al := [] }) else none
      | 1 =>
        (call f args h).bind fun r => some (r.1, r.2, { i := i, loud := true, big := true, rd := [], wr := [], al := [] })
      | 2 =>
        (deepL false (hget h) dpt args).bind fun a => (call f a.1 (h.map fun _ => .dead)).bind fun r =>
        if okV true true r.1 && (r.2.drop h.length).all okB then
          some (r.1, h ++ r.2.drop h.length, { i := i, loud := !(a.2.isEmpty && (r.2.drop h.length).isEmpty), big := false, rd := a.2, wr := [], al := (List.range (r.2.drop h.length).length).map (· + h.length) })
        else none
      | _ =>
        (deepL false (hget h) dpt args).bind fun a => (call f a.1 []).bind fun r => (deep true (hget r.2) dpt r.1).bind fun v =>
        some (v.1, h, { i := i, loud := !a.2.isEmpty, big := false, rd := a.2, wr := [], al := [] })
  | none =>
    (evOp P gl t (hget h) h.length o).bind fun e =>
    if e.wr.all (fun p => Nat.blt p.1 h.length && e.rd.contains p.1) then
      some (e.val, wrAll h e.wr ++ e.al, { i := i, loud := !(e.rd.isEmpty && e.al.isEmpty), big := false, rd := e.rd, wr := e.wr.map (·.1), al := (List.range e.al.length).map (· + h.length) })
    else none

def evSeq (P : Program) (gl : Nat → Option (List AV)) (ext : ExtF) (md : FuncId → Nat) (call : CallF) (ops : Array Oper) : List Oper → Tmps → List Blk → Option (Tmps × List Blk)
  | [], t, h => some (t, h)
  | o :: r, t, h => (wantedA ops t o).bind fun w =>
    if w then (stepOp P gl ext md call t h 0 o).bind fun p => evSeq P gl ext md call ops r (putA t o.dst p.1) p.2.1
    else evSeq P gl ext md call ops r (putA t o.dst undefA) h

/-- What an operation has to wait for. -/
def edgesOf (o : Oper) : List Nat := o.after.toList.filterMap fun e => if Region.binds .any e then some e.on else none

def maskOf (ms : List Nat) : List Nat → Nat
  | [] => 0
  | e :: r => (2 ^ e ||| ms.getD e 0) ||| maskOf ms r

structure Past where
  i : Nat
  o : Oper
  rc : Option Rec

/-- x came ahead in the text; the order of the two is open. -/
def freely (ops : Array Oper) (x : Past) (o : Oper) (rc : Option Rec) : Bool :=
  x.o.apart ops o && (match x.rc, rc with
  | some r, some r' => !r.loud || !r'.loud || Rec.calm r r'
  | _, _ => true)

/-- A region whose order is open: in the order of the text, with a look at what may change places. 'ms': the masks of the operations so far. -/
def evDraw (P : Program) (gl : Nat → Option (List AV)) (ext : ExtF) (md : FuncId → Nat) (call : CallF) (ops : Array Oper) : List Oper → Nat → List Nat → List Past → Tmps → List Blk → Option (Tmps × List Blk)
  | [], _, _, _, t, h => some (t, h)
  | o :: r, i, ms, past, t, h =>
    let es := edgesOf o
    if es.all (Nat.blt · i) then
      let m := maskOf ms es
      (wantedA ops t o).bind fun w =>
      if w then
        (stepOp P gl ext md call t h i o).bind fun p =>
        if past.all (fun x => m.testBit x.i || freely ops x o (some p.2.2)) then
          evDraw P gl ext md call ops r (i + 1) (ms ++ [m]) (⟨i, o, some p.2.2⟩ :: past) (putA t o.dst p.1) p.2.1
        else none
      else if past.all (fun x => m.testBit x.i || freely ops x o none) then
        evDraw P gl ext md call ops r (i + 1) (ms ++ [m]) (⟨i, o, none⟩ :: past) (putA t o.dst undefA) h
      else none
    else none

inductive Ex where
  | normal | ret | exit (id : Nat)

def iter (f : Tmps → List Blk → Option (Ex × Tmps × List Blk)) : Nat → Tmps → List Blk → Option (Ex × Tmps × List Blk)
  | 0, _, _ => none
  | n + 1, t, h => match f t h with
    | some (.normal, t', h') => iter f n t' h'
    | r => r

def evCode (P : Program) (gl : Nat → Option (List AV)) (ext : ExtF) (md : FuncId → Nat) (call : CallF) (N : Nat) : Code → Tmps → List Blk → Option (Ex × Tmps × List Blk)
  | .skip, t, h => some (.normal, t, h)
  | .label _, t, h => some (.normal, t, h)
  | .ret, t, h => some (.ret, t, h)
  | .exit id, t, h => some (.exit id, t, h)
  | .region _ ops false, t, h => (evSeq P gl ext md call ops ops.toList t h).map fun (t', h') => (.normal, t', h')
  | .region _ ops true, t, h =>
    if Region.noSelect ops then (evDraw P gl ext md call ops ops.toList 0 [] [] t h).map fun (t', h') => (.normal, t', h') else none
  | .seq a b, t, h => match evCode P gl ext md call N a t h with
    | some (.normal, t', h') => evCode P gl ext md call N b t' h'
    | r => r
  | .cond c a b, t, h => match evO gl t c with
    | some (.sc (.bool true)) => evCode P gl ext md call N a t h
    | some (.sc (.bool false)) => evCode P gl ext md call N b t h
    | _ => none
  | .block id c, t, h => match evCode P gl ext md call N c t h with
    | some (.exit id', t', h') => if id' = id then some (.normal, t', h') else some (.exit id', t', h')
    | r => r
  | .scope c, t, h => evCode P gl ext md call N c t h
  | .loop c, t, h => iter (evCode P gl ext md call N c) N t h
  | _, _, _ => none

/-- One call, its calls handed in. -/
def bodyC (P : Program) (gl : Nat → Option (List AV)) (ext : ExtF) (md : FuncId → Nat) (N : Nat) (call : CallF) : CallF := fun f args h => do
  let fn ← P.funcs[f]?
  let c ← fn.body
  match ← evCode P gl ext md call N c (args ++ List.replicate (fn.ntmps - args.length) undefA) h with
  | (.exit _, _, _) => none
  | (_, t, h') => do
    match ← retA P h' t fn.results.toList with
    | [v] => some (v, h')
    | vs => some (.tup vs, h')

/-- Calls, to the depth d. -/
def callN (P : Program) (gl : Nat → Option (List AV)) (ext : ExtF) (md : FuncId → Nat) (N : Nat) : Nat → CallF
  | 0 => fun _ _ _ => none
  | d + 1 => bodyC P gl ext md N (callN P gl ext md N d)

/-- A call on its own: the result is a tree. -/
def run (P : Program) (gl : Nat → Option (List AV)) (ext : ExtF) (md : FuncId → Nat) (N d : Nat) (f : FuncId) (args : List AV) : Option AV := do
  let (v, h) ← callN P gl ext md N d f args []
  let (v', _) ← deep true (hget h) dpt v
  some v'

end Go.Xv

namespace Go.Xv

structure G where
  m : Nat → Nat
  sh : Nat → Nat
  sz : Nat → Nat
  dom : Nat → Prop
  F : Bool → Nat → Prop
  yv : Value

def row (hp : Array Obj) (B o : Nat) (L : List Value) : Prop :=
  ∃ c ty fr, hp[B]? = some (.cells c ty fr) ∧ ∀ i, i < L.length → c[o + i]? = L[i]?

def plainV : Value → Bool
  | .agg _ | .tuple _ => false
  | _ => true

def isObj : Blk → Bool
  | .map .. | .sit .. | .mit .. => true
  | _ => false

def alive : Blk → Bool
  | .dead => false
  | _ => true

mutual
inductive VR (g : G) (h : Nat → Blk) (hp : Array Obj) : AV → Value → Prop
  | sc (v : Value) (hv : plainV v = true) : VR g h hp (.sc v) v
  | e0 (a : Addr) : VR g h hp .e0 (.slice (some a) 0 0)
  | ptr (b ver off : Nat) (a : Addr) (hd : g.dom b)
      (hc : ∀ cs, h b = .cells cs → ver ≤ cs.length ∧ (cs.length = ver → a = ⟨g.m b, g.sh b + off, none⟩)) :
      VR g h hp (.ptr b ver off) (.pointer (some a))
  | sl (s : Nat) (ag : Bool) (b off len cap : Nat) (a : Addr) (cap' : Nat) (hd : g.dom b) (hcap : cap ≤ cap')
      (hc : ∀ cs, h b = .cells cs → off + cap * s ≤ cs.length ∧
        (cs.length = off + cap * s → a = ⟨g.m b, g.sh b + off, none⟩ ∧ g.sh b + off + cap' * s ≤ g.sz b)) :
      VR g h hp (.sl s ag b off len cap) (.slice (some a) len cap')
  | mp (b r : Nat) (hd : g.dom b) (hc : isObj (h b) = true → r = g.m b) : VR g h hp (.mp b) (.map (some r))
  | it (b r : Nat) (hd : g.dom b) (hc : isObj (h b) = true → r = g.m b) : VR g h hp (.it b) (.pointer (some ⟨r, 0, none⟩))
  | fz (own : Bool) (s : Nat) (es : List AV) (L : List Value) (a : Addr) (cap' : Nat) (hL : VRL g h hp (es.flatMap AV.cells) L)
      (hst : (es.flatMap AV.cells).all AV.stor = true)
      (hs : ∀ e ∈ es, e.cells.length = s) (hr : es ≠ [] → ∃ B o, a = ⟨B, o, none⟩ ∧ g.F own B ∧ row hp B o L) (hcap : es.length ≤ cap') (hfr : okVL false own (es.flatMap AV.cells) = true) :
      VR g h hp (.fz own s es) (.slice (some a) es.length cap')
  | cp (own : Bool) (cs : List AV) (off : Nat) (L : List Value) (B o : Nat) (hL : VRL g h hp cs L) (hst : cs.all AV.stor = true) (hF : g.F own B) (hr : row hp B o L) (hfr : okVL false own cs = true) :
      VR g h hp (.cp own cs off) (.pointer (some ⟨B, o + off, none⟩))
  | fm (own : Bool) (es : List (Value × AV)) (r : Nat) (ents : Array MapEntry) (clock : Nat) (hF : g.F own r) (hr : hp[r]? = some (.map ents clock))
      (hk : ents.toList.map (·.key) = es.map (·.1)) (hL : VRL g h hp (es.map (·.2)) (ents.toList.map (·.val))) (hfr : okVL false own (es.map (·.2)) = true) :
      VR g h hp (.fm own es) (.map (some r))
  | agg (cs : List AV) (L : List Value) (hL : VRL g h hp cs L) (hs : cs.all AV.stor = true) : VR g h hp (.agg cs) (.agg L.toArray)
  | tup (vs : List AV) (L : List Value) (hL : VRL g h hp vs L) : VR g h hp (.tup vs) (.tuple L.toArray)
  | fn (f : FuncId) (a b : List AV) (A B : List Value) (hA : VRL g h hp a A) (hB : VRL g h hp b B) :
      VR g h hp (.fn f a b) (.func (.func f) A.toArray B.toArray)
  | yl (hv : plainV g.yv = true) : VR g h hp .yl g.yv
  | top (v : Value) : VR g h hp .top v
  | fzn (own : Bool) (s : Nat) : VR g h hp (.fz own s []) (.slice none 0 0)
inductive VRL (g : G) (h : Nat → Blk) (hp : Array Obj) : List AV → List Value → Prop
  | nil : VRL g h hp [] []
  | cons (a : AV) (v : Value) (l : List AV) (L : List Value) (ha : VR g h hp a v) (hl : VRL g h hp l L) : VRL g h hp (a :: l) (v :: L)
end

/-- The second state knows of old things no more than the first. -/
structure Ext (g : G) (h : Nat → Blk) (hp : Array Obj) (g' : G) (h' : Nat → Blk) (hp' : Array Obj) : Prop where
  dom : ∀ b, g.dom b → g'.dom b
  cells : ∀ b cs', g.dom b → h' b = .cells cs' → ∃ cs, h b = .cells cs ∧ cs.length ≤ cs'.length ∧
    (cs.length = cs'.length → g'.m b = g.m b ∧ g'.sh b = g.sh b ∧ g'.sz b = g.sz b)
  obj : ∀ b, g.dom b → isObj (h' b) = true → isObj (h b) = true ∧ g'.m b = g.m b
  F : ∀ o B, g.F o B → g'.F o B
  keep : ∀ o B, g.F o B → hp'[B]? = hp[B]?
  yv : g'.yv = g.yv

theorem Ext.refl (g : G) (h : Nat → Blk) (hp : Array Obj) : Ext g h hp g h hp :=
  ⟨fun _ h => h, fun _ cs' _ h => ⟨cs', h, Nat.le_refl _, fun _ => ⟨rfl, rfl, rfl⟩⟩, fun _ _ h => ⟨h, rfl⟩, fun _ _ h => h, fun _ _ _ => rfl, rfl⟩

theorem Ext.trans {g g1 g2 : G} {h h1 h2 : Nat → Blk} {hp hp1 hp2 : Array Obj} (e : Ext g h hp g1 h1 hp1) (f : Ext g1 h1 hp1 g2 h2 hp2) : Ext g h hp g2 h2 hp2 where
  dom b hb := f.dom b (e.dom b hb)
  cells b cs2 hb h2 := by
    obtain ⟨cs1, h1, l1, k1⟩ := f.cells b cs2 (e.dom b hb) h2
    obtain ⟨cs, h0, l0, k0⟩ := e.cells b cs1 hb h1
    refine ⟨cs, h0, Nat.le_trans l0 l1, fun he => ?_⟩
    have ha : cs.length = cs1.length := by omega
    have hb' : cs1.length = cs2.length := by omega
    obtain ⟨a1, a2, a3⟩ := k0 ha
    obtain ⟨b1, b2, b3⟩ := k1 hb'
    exact ⟨b1.trans a1, b2.trans a2, b3.trans a3⟩
  obj b hb h2 := by
    obtain ⟨h1, k1⟩ := f.obj b (e.dom b hb) h2
    obtain ⟨h0, k0⟩ := e.obj b hb h1
    exact ⟨h0, k1.trans k0⟩
  F o B hB := f.F o B (e.F o B hB)
  keep o B hB := (f.keep o B (e.F o B hB)).trans (e.keep o B hB)
  yv := f.yv.trans e.yv

theorem row.keep {hp hp' : Array Obj} {B o : Nat} {L : List Value} (h : row hp B o L) (k : hp'[B]? = hp[B]?) : row hp' B o L := by
  obtain ⟨c, ty, fr, hc, hL⟩ := h
  exact ⟨c, ty, fr, k.trans hc, hL⟩

section mono
variable {g g' : G} {h h' : Nat → Blk} {hp hp' : Array Obj} (E : Ext g h hp g' h' hp')
include E
theorem mono_both : (∀ a v, VR g h hp a v → VR g' h' hp' a v) ∧ (∀ l L, VRL g h hp l L → VRL g' h' hp' l L) := by
  constructor
  · intro a v hv
    refine VR.rec (motive_1 := fun a v _ => VR g' h' hp' a v) (motive_2 := fun l L _ => VRL g' h' hp' l L) ?_ ?_ ?_ ?_ ?_ ?_ ?_ ?_ ?_ ?_ ?_ ?_ ?_ ?_ ?_ ?_ ?_ hv
    · intro v hv; exact .sc v hv
    · intro a; exact .e0 a
    · intro b ver off a hd hc
      refine .ptr b ver off a (E.dom b hd) fun cs' hcs' => ?_
      obtain ⟨cs, h0, l0, k0⟩ := E.cells b cs' hd hcs'
      obtain ⟨p, q⟩ := hc cs h0
      refine ⟨by omega, fun he => ?_⟩
      obtain ⟨k1, k2, _⟩ := k0 (by omega)
      rw [q (by omega), k1, k2]
    · intro s ag b off len cap a cap' hd hcap hc
      refine .sl s ag b off len cap a cap' (E.dom b hd) hcap fun cs' hcs' => ?_
      obtain ⟨cs, h0, l0, k0⟩ := E.cells b cs' hd hcs'
      obtain ⟨p, q⟩ := hc cs h0
      refine ⟨by omega, fun he => ?_⟩
      obtain ⟨k1, k2, k3⟩ := k0 (by omega)
      obtain ⟨q1, q3⟩ := q (by omega)
      exact ⟨by rw [q1, k1, k2], by rw [k2, k3]; exact q3⟩
    · intro b r hd hc
      exact .mp b r (E.dom b hd) fun ho => by obtain ⟨p, q⟩ := E.obj b hd ho; rw [q]; exact hc p
    · intro b r hd hc
      exact .it b r (E.dom b hd) fun ho => by obtain ⟨p, q⟩ := E.obj b hd ho; rw [q]; exact hc p
    · intro own s es L a cap' _ hst hs hr hcap hfr ih
      exact .fz own s es L a cap' ih hst hs (fun hne => let ⟨B, o, ha, hF, hw⟩ := hr hne; ⟨B, o, ha, E.F _ _ hF, hw.keep (E.keep _ _ hF)⟩) hcap hfr
    · intro own cs off L B o _ hst hF hr hfr ih
      exact .cp own cs off L B o ih hst (E.F _ _ hF) (hr.keep (E.keep _ _ hF)) hfr
    · intro own es r ents clock hF hr hk _ hfr ih
      exact .fm own es r ents clock (E.F _ _ hF) ((E.keep _ _ hF).trans hr) hk ih hfr
    · intro cs L _ hs ih; exact .agg cs L ih hs
    · intro vs L _ ih; exact .tup vs L ih
    · intro f a b A B _ _ ihA ihB; exact .fn f a b A B ihA ihB
    · intro hv; rw [← E.yv]; exact .yl (by rw [E.yv]; exact hv)
    · intro v; exact .top v
    · intro own s; exact .fzn own s
    · exact .nil
    · intro a v l L _ _ iha ihl; exact .cons a v l L iha ihl
  · intro l L hl
    refine VRL.rec (motive_1 := fun a v _ => VR g' h' hp' a v) (motive_2 := fun l L _ => VRL g' h' hp' l L) ?_ ?_ ?_ ?_ ?_ ?_ ?_ ?_ ?_ ?_ ?_ ?_ ?_ ?_ ?_ ?_ ?_ hl
    · intro v hv; exact .sc v hv
    · intro a; exact .e0 a
    · intro b ver off a hd hc
      refine .ptr b ver off a (E.dom b hd) fun cs' hcs' => ?_
      obtain ⟨cs, h0, l0, k0⟩ := E.cells b cs' hd hcs'
      obtain ⟨p, q⟩ := hc cs h0
      refine ⟨by omega, fun he => ?_⟩
      obtain ⟨k1, k2, _⟩ := k0 (by omega)
      rw [q (by omega), k1, k2]
    · intro s ag b off len cap a cap' hd hcap hc
      refine .sl s ag b off len cap a cap' (E.dom b hd) hcap fun cs' hcs' => ?_
      obtain ⟨cs, h0, l0, k0⟩ := E.cells b cs' hd hcs'
      obtain ⟨p, q⟩ := hc cs h0
      refine ⟨by omega, fun he => ?_⟩
      obtain ⟨k1, k2, k3⟩ := k0 (by omega)
      obtain ⟨q1, q3⟩ := q (by omega)
      exact ⟨by rw [q1, k1, k2], by rw [k2, k3]; exact q3⟩
    · intro b r hd hc
      exact .mp b r (E.dom b hd) fun ho => by obtain ⟨p, q⟩ := E.obj b hd ho; rw [q]; exact hc p
    · intro b r hd hc
      exact .it b r (E.dom b hd) fun ho => by obtain ⟨p, q⟩ := E.obj b hd ho; rw [q]; exact hc p
    · intro own s es L a cap' _ hst hs hr hcap hfr ih
      exact .fz own s es L a cap' ih hst hs (fun hne => let ⟨B, o, ha, hF, hw⟩ := hr hne; ⟨B, o, ha, E.F _ _ hF, hw.keep (E.keep _ _ hF)⟩) hcap hfr
    · intro own cs off L B o _ hst hF hr hfr ih
      exact .cp own cs off L B o ih hst (E.F _ _ hF) (hr.keep (E.keep _ _ hF)) hfr
    · intro own es r ents clock hF hr hk _ hfr ih
      exact .fm own es r ents clock (E.F _ _ hF) ((E.keep _ _ hF).trans hr) hk ih hfr
    · intro cs L _ hs ih; exact .agg cs L ih hs
    · intro vs L _ ih; exact .tup vs L ih
    · intro f a b A B _ _ ihA ihB; exact .fn f a b A B ihA ihB
    · intro hv; rw [← E.yv]; exact .yl (by rw [E.yv]; exact hv)
    · intro v; exact .top v
    · intro own s; exact .fzn own s
    · exact .nil
    · intro a v l L _ _ iha ihl; exact .cons a v l L iha ihl
theorem VR.mono {a : AV} {v : Value} (hv : VR g h hp a v) : VR g' h' hp' a v := (mono_both E).1 a v hv
theorem VRL.mono {l : List AV} {L : List Value} (hl : VRL g h hp l L) : VRL g' h' hp' l L := (mono_both E).2 l L hl
end mono

theorem okVL_iff (lv p : Bool) : ∀ l : List AV, okVL lv p l = true ↔ ∀ x ∈ l, okV lv p x = true
  | [] => by simp [okVL]
  | a :: l => by simp [okVL, okVL_iff lv p l]

theorem okVL_sub {lv p : Bool} {l l' : List AV} (hl : okVL lv p l = true) (hs : ∀ x ∈ l', x ∈ l) : okVL lv p l' = true :=
  (okVL_iff lv p l').2 fun x hx => (okVL_iff lv p l).1 hl x (hs x hx)

section lists
variable {g : G} {h : Nat → Blk} {hp : Array Obj}
theorem VRL.length {l : List AV} {L : List Value} (hl : VRL g h hp l L) : l.length = L.length := by
  induction l generalizing L with
  | nil => cases hl; rfl
  | cons a l ih => cases hl with | cons _ v _ L ha hl => simp [ih hl]

theorem VRL.get {l : List AV} {L : List Value} (hl : VRL g h hp l L) {i : Nat} {a : AV} (hi : l[i]? = some a) : ∃ v, L[i]? = some v ∧ VR g h hp a v := by
  induction l generalizing L i with
  | nil => simp at hi
  | cons b l ih =>
    cases hl with
    | cons _ v _ L ha hl =>
      cases i with
      | zero => simp at hi; subst hi; exact ⟨v, rfl, ha⟩
      | succ i => simp at hi; simpa using ih hl hi

theorem VRL.append {l l' : List AV} {L L' : List Value} (hl : VRL g h hp l L) (hl' : VRL g h hp l' L') : VRL g h hp (l ++ l') (L ++ L') := by
  induction l generalizing L with
  | nil => cases hl; exact hl'
  | cons a l ih => cases hl with | cons _ v _ L ha hl => exact .cons _ _ _ _ ha (ih hl)

theorem VRL.take {l : List AV} {L : List Value} (hl : VRL g h hp l L) (n : Nat) : VRL g h hp (l.take n) (L.take n) := by
  induction l generalizing L n with
  | nil => cases hl; simp; exact .nil
  | cons a l ih =>
    cases hl with
    | cons _ v _ L ha hl =>
      cases n with
      | zero => simp; exact .nil
      | succ n => simp; exact .cons _ _ _ _ ha (ih hl n)

theorem VRL.drop {l : List AV} {L : List Value} (hl : VRL g h hp l L) (n : Nat) : VRL g h hp (l.drop n) (L.drop n) := by
  induction l generalizing L n with
  | nil => cases hl; simp; exact .nil
  | cons a l ih =>
    cases hl with
    | cons _ v _ L ha hl =>
      cases n with
      | zero => simp; exact .cons _ _ _ _ ha hl
      | succ n => simp; exact ih hl n

theorem VRL.set {l : List AV} {L : List Value} (hl : VRL g h hp l L) (i : Nat) {a : AV} {v : Value} (ha : VR g h hp a v) : VRL g h hp (l.set i a) (L.set i v) := by
  induction l generalizing L i with
  | nil => cases hl; simp; exact .nil
  | cons b l ih =>
    cases hl with
    | cons _ w _ L hb hl =>
      cases i with
      | zero => simp; exact .cons _ _ _ _ ha hl
      | succ i => simp; exact .cons _ _ _ _ hb (ih hl i)

theorem VRL.replicate {a : AV} {v : Value} (ha : VR g h hp a v) (n : Nat) : VRL g h hp (List.replicate n a) (List.replicate n v) := by
  induction n with
  | zero => exact .nil
  | succ n ih => simp [List.replicate_succ]; exact .cons _ _ _ _ ha ih

theorem VRL.split {l l' : List AV} {L : List Value} (hl : VRL g h hp (l ++ l') L) : ∃ L1 L2, L = L1 ++ L2 ∧ VRL g h hp l L1 ∧ VRL g h hp l' L2 := by
  induction l generalizing L with
  | nil => exact ⟨[], L, rfl, .nil, hl⟩
  | cons a l ih =>
    cases hl with
    | cons _ v _ L ha hl =>
      obtain ⟨L1, L2, rfl, h1, h2⟩ := ih hl
      exact ⟨v :: L1, L2, rfl, .cons _ _ _ _ ha h1, h2⟩

/-- What lies in one cell is no aggregate. -/
theorem VR.plain {a : AV} {v : Value} (hv : VR g h hp a v) (hs : a.stor = true) : plainV v = true := by
  cases hv <;> first | assumption | rfl | (simp [AV.stor] at hs)

theorem ne_top {a : AV} (h : a.cells.all AV.stor = true) : a ≠ .top := fun e => by subst e; simp [AV.cells, AV.stor] at h

/-- A value's cells. -/
theorem VR.cells {a : AV} {v : Value} (hv : VR g h hp a v) (ht : a ≠ .top) : VRL g h hp a.cells v.cells.toList := by
  cases hv with
  | sc v hp' => cases v <;> simp [plainV] at hp' <;> (simp [AV.cells, Value.cells]; exact .cons _ _ _ _ (.sc _ rfl) .nil)
  | e0 a => exact .cons _ _ _ _ (.e0 a) .nil
  | ptr b ver off a hd hc => exact .cons _ _ _ _ (.ptr b ver off a hd hc) .nil
  | sl s ag b off len cap a cap' hd hcap hc => exact .cons _ _ _ _ (.sl s ag b off len cap a cap' hd hcap hc) .nil
  | mp b r hd hc => exact .cons _ _ _ _ (.mp b r hd hc) .nil
  | it b r hd hc => exact .cons _ _ _ _ (.it b r hd hc) .nil
  | fz own s es L a cap' hL hst hs hr hcap hfr => exact .cons _ _ _ _ (.fz own s es L a cap' hL hst hs hr hcap hfr) .nil
  | cp own cs off L B o hL hst hF hr hfr => exact .cons _ _ _ _ (.cp own cs off L B o hL hst hF hr hfr) .nil
  | fm own es r ents clock hF hr hk hL hfr => exact .cons _ _ _ _ (.fm own es r ents clock hF hr hk hL hfr) .nil
  | agg cs L hL hs => simpa [AV.cells, Value.cells] using hL
  | tup vs L hL => exact .cons _ _ _ _ (.tup vs L hL) .nil
  | fn f a b A B hA hB => exact .cons _ _ _ _ (.fn f a b A B hA hB) .nil
  | top v => exact absurd rfl ht
  | fzn own s => exact .cons _ _ _ _ (.fzn own s) .nil
  | yl hv => rw [show g.yv.cells.toList = [g.yv] from by cases hx : g.yv <;> simp [plainV, hx] at hv <;> rfl]; exact .cons _ _ _ _ (.yl hv) .nil

theorem VR.of_leaf {a : AV} {v w : Value} (hv : VR g h hp a v) (hl : leafV a = some w) : v = w := by
  cases hv <;> simp [leafV] at hl
  exact hl

theorem VRL.of_leaves {l : List AV} {L W : List Value} (hl : VRL g h hp l L) (hm : l.mapM leafV = some W) : L = W := by
  induction l generalizing L W with
  | nil => cases hl; simp at hm; exact hm.symm ▸ rfl
  | cons a l ih =>
    cases hl with
    | cons _ v _ L ha hl =>
      simp only [List.mapM_cons] at hm
      cases h1 : leafV a with
      | none => simp [h1] at hm
      | some w =>
        cases h2 : l.mapM leafV with
        | none => simp [h1, h2] at hm
        | some W' =>
          simp [h1, h2] at hm
          subst hm
          rw [ha.of_leaf h1, ih hl h2]

theorem VR.of_toV {a : AV} {v w : Value} (hv : VR g h hp a v) (ht : toV a = some w) : v = w := by
  cases hv with
  | sc v hv => simpa [toV] using ht
  | agg cs L hL hs =>
    simp only [toV] at ht
    cases h1 : cs.mapM leafV with
    | none => simp [h1] at ht
    | some W =>
      simp [h1] at ht
      subst ht
      rw [hL.of_leaves h1]
  | _ => simp [toV] at ht

theorem VRL.of_sc (L : List Value) (hL : ∀ v ∈ L, plainV v = true) : VRL g h hp (L.map .sc) L := by
  induction L with
  | nil => exact .nil
  | cons v L ih => exact .cons _ _ _ _ (.sc v (hL v (by simp))) (ih fun w hw => hL w (by simp [hw]))

theorem stor_map_sc (L : List Value) : (L.map AV.sc).all AV.stor = true := by simp [AV.stor]

theorem VR.of_ofV1 {v : Value} {a : AV} (ha : ofV1 v = some a) : VR g h hp a v := by
  unfold ofV1 at ha
  split at ha
  · rename_i cs
    split at ha
    · rename_i hall
      cases ha
      have : (Value.agg cs) = .agg cs.toList.toArray := by simp
      rw [this]
      refine .agg _ _ (VRL.of_sc _ fun v hv => ?_) (stor_map_sc _)
      have := (Array.all_eq_true'.1 hall) v (by simpa using hv)
      cases v <;> simp_all [plainV]
    · cases ha
  · rename_i vs
    split at ha
    · rename_i he
      cases ha
      have : vs = #[] := by simpa using he
      subst this
      exact .tup [] [] .nil
    · cases ha
  · rename_i h1 h2
    cases ha
    exact .sc _ (by cases v <;> simp_all [plainV])

theorem VRL.of_ofV1s {L : List Value} {l : List AV} (hl : L.mapM ofV1 = some l) : VRL g h hp l L := by
  induction L generalizing l with
  | nil => simp at hl; subst hl; exact .nil
  | cons v L ih =>
    simp only [List.mapM_cons] at hl
    cases h1 : ofV1 v with
    | none => simp [h1] at hl
    | some a =>
      cases h2 : L.mapM ofV1 with
      | none => simp [h1, h2] at hl
      | some l' =>
        simp [h1, h2] at hl
        subst hl
        exact .cons _ _ _ _ (VR.of_ofV1 h1) (ih h2)

theorem VR.of_ofV {v : Value} {a : AV} (ha : ofV v = some a) : VR g h hp a v := by
  unfold ofV at ha
  split at ha
  · rename_i vs
    cases h1 : vs.toList.mapM ofV1 with
    | none => simp [h1] at ha
    | some l =>
      simp [h1] at ha
      subst ha
      have : (Value.tuple vs) = .tuple vs.toList.toArray := by simp
      rw [this]
      exact .tup _ _ (VRL.of_ofV1s h1)
  · exact VR.of_ofV1 ha
end lists

def unfrozen (fr : Nat × Nat) (n : Nat) : Prop := ∀ i, i < n → (fr.1 ≤ i && i < fr.2) = false

def BlkOK (g : G) (h : Nat → Blk) (hp : Array Obj) (b : Nat) : Blk → Prop
  | .dead => True
  | .cells cs => g.dom b ∧ cs.all AV.stor = true ∧ (∀ o, ¬ g.F o (g.m b)) ∧ ∃ c ty fr L, hp[g.m b]? = some (.cells c ty fr) ∧ c.size = g.sz b ∧
      VRL g h hp cs L ∧ (∀ i, i < L.length → c[g.sh b + i]? = L[i]?) ∧ unfrozen fr c.size ∧ g.sh b + cs.length ≤ c.size
  | .map es clock => g.dom b ∧ (∀ o, ¬ g.F o (g.m b)) ∧ ∃ ents, hp[g.m b]? = some (.map ents clock) ∧
      ents.toList.map (fun e => (e.key, e.born)) = es.map (fun e => (e.1, e.2.2)) ∧ VRL g h hp (es.map (·.2.1)) (ents.toList.map (·.val))
  | .sit s pos => g.dom b ∧ (∀ o, ¬ g.F o (g.m b)) ∧ hp[g.m b]? = some (.stringIter s pos)
  | .mit m since seen st => g.dom b ∧ (∀ o, ¬ g.F o (g.m b)) ∧ ∃ r, hp[g.m b]? = some (.mapIter r since seen.toArray st) ∧
      (match m with | none => r = none | some mb => g.dom mb ∧ ∃ r', r = some r' ∧ (isObj (h mb) = true → r' = g.m mb))

structure Sim (g : G) (h : Nat → Blk) (hp : Array Obj) : Prop where
  blk : ∀ b, BlkOK g h hp b (h b)
  inj : ∀ b b', alive (h b) = true → alive (h b') = true → g.m b = g.m b' → b = b'
  fz : ∀ o B, g.F o B → B < hp.size
  sub : ∀ B, g.F true B → g.F false B

theorem room_of {c : Array Value} {L : List Value} (hc : ∀ i, i < L.length → c[i]? = L[i]?) : L.length ≤ c.size := by
  rcases Nat.eq_zero_or_pos L.length with e | e
  · omega
  · have := hc (L.length - 1) (by omega)
    rcases Nat.lt_or_ge (L.length - 1) c.size with h1 | h1
    · omega
    · rw [Array.getElem?_eq_none h1, List.getElem?_eq_getElem (by omega)] at this; cases this

theorem BlkOK.mono {g g' : G} {h h' : Nat → Blk} {hp hp' : Array Obj} (E : Ext g h hp g' h' hp') {b : Nat} {x : Blk} (hx : BlkOK g h hp b x)
    (hm : g'.m b = g.m b) (hsh : g'.sh b = g.sh b) (hsz : g'.sz b = g.sz b) (hF : ∀ o, ¬ g.F o (g.m b) → ¬ g'.F o (g.m b)) (hk : alive x = true → hp'[g.m b]? = hp[g.m b]?) : BlkOK g' h' hp' b x := by
  cases x with
  | dead => trivial
  | cells cs =>
    obtain ⟨h1, h2, h3, c, ty, fr, L, h4, h5, h6, h7, h8, h9⟩ := hx
    exact ⟨E.dom b h1, h2, fun o => by rw [hm]; exact hF o (h3 o), c, ty, fr, L, by rw [hm, hk rfl]; exact h4, by rw [hsz]; exact h5, h6.mono E, by rw [hsh]; exact h7, h8, by rw [hsh]; exact h9⟩
  | map es clock =>
    obtain ⟨h1, h3, ents, h4, h5, h6⟩ := hx
    exact ⟨E.dom b h1, fun o => by rw [hm]; exact hF o (h3 o), ents, by rw [hm, hk rfl]; exact h4, h5, h6.mono E⟩
  | sit s pos =>
    obtain ⟨h1, h3, h4⟩ := hx
    exact ⟨E.dom b h1, fun o => by rw [hm]; exact hF o (h3 o), by rw [hm, hk rfl]; exact h4⟩
  | mit m since seen st =>
    obtain ⟨h1, h3, r, h4, h5⟩ := hx
    refine ⟨E.dom b h1, fun o => by rw [hm]; exact hF o (h3 o), r, by rw [hm, hk rfl]; exact h4, ?_⟩
    cases m with
    | none => exact h5
    | some mb =>
      obtain ⟨d, r', hr', hi⟩ := h5
      exact ⟨E.dom mb d, r', hr', fun ho => by obtain ⟨p, q⟩ := E.obj mb d ho; rw [q]; exact hi p⟩


def upd (h : Nat → Blk) (b : Nat) (x : Blk) : Nat → Blk := fun i => if i = b then x else h i

@[simp] theorem upd_same (h : Nat → Blk) (b : Nat) (x : Blk) : upd h b x b = x := by simp [upd]
theorem upd_ne (h : Nat → Blk) {b i : Nat} (x : Blk) (hi : i ≠ b) : upd h b x i = h i := by simp [upd, hi]

/-- A new block at a fresh number. -/
theorem Sim.fresh {g : G} {h : Nat → Blk} {hp : Array Obj} (S : Sim g h hp) (k : Nat) (hk : ¬ g.dom k) (o : Obj) (sz : Nat) :
    ∃ g' : G, g'.m k = hp.size ∧ g'.sh k = 0 ∧ g'.sz k = sz ∧ g'.dom k ∧ g'.F = g.F ∧ (∀ b, g'.dom b ↔ g.dom b ∨ b = k) ∧ (∀ b, b ≠ k → g'.m b = g.m b ∧ g'.sh b = g.sh b ∧ g'.sz b = g.sz b) ∧
      (∀ x : Blk, (isObj x = true ∨ ∃ cs, x = .cells cs) → BlkOK g' (upd h k x) (hp.push o) k x → Ext g h hp g' (upd h k x) (hp.push o) → Sim g' (upd h k x) (hp.push o)) ∧
      (∀ x : Blk, Ext g h hp g' (upd h k x) (hp.push o)) := by
  let g' : G := { m := fun b => if b = k then hp.size else g.m b, sh := fun b => if b = k then 0 else g.sh b, sz := fun b => if b = k then sz else g.sz b, dom := fun b => g.dom b ∨ b = k, F := g.F, yv := g.yv }
  have hne : ∀ b, b ≠ k → g'.m b = g.m b ∧ g'.sh b = g.sh b ∧ g'.sz b = g.sz b := fun b hb => by simp [g', hb]
  have hdead : h k = .dead := by
    have := S.blk k
    cases hx : h k with
    | dead => rfl
    | _ => rw [hx] at this; exact absurd this.1 hk
  have hE : ∀ x : Blk, Ext g h hp g' (upd h k x) (hp.push o) := fun x => by
    refine ⟨fun b hb => .inl hb, fun b cs' hb hc => ?_, fun b hb ho => ?_, fun _ _ hB => hB, fun o' B hB => ?_, rfl⟩
    · have hbk : b ≠ k := fun e => hk (e ▸ hb)
      rw [upd_ne h x hbk] at hc
      exact ⟨cs', hc, Nat.le_refl _, fun _ => hne b hbk⟩
    · have hbk : b ≠ k := fun e => hk (e ▸ hb)
      rw [upd_ne h x hbk] at ho
      exact ⟨ho, (hne b hbk).1⟩
    · have := S.fz o' B hB
      rw [Array.getElem?_push, if_neg (by omega)]
  have hlive : ∀ b, alive (h b) = true → g.m b < hp.size := fun b hb => by
    have := S.blk b
    cases hx : h b with
    | dead => rw [hx] at hb; cases hb
    | cells cs => rw [hx] at this; obtain ⟨_, _, _, c, ty, fr, L, h4, _⟩ := this; exact (Array.getElem?_eq_some_iff.1 h4).1
    | map es clock => rw [hx] at this; obtain ⟨_, _, ents, h4, _⟩ := this; exact (Array.getElem?_eq_some_iff.1 h4).1
    | sit s pos => rw [hx] at this; obtain ⟨_, _, h4⟩ := this; exact (Array.getElem?_eq_some_iff.1 h4).1
    | mit m since seen st => rw [hx] at this; obtain ⟨_, _, r, h4, _⟩ := this; exact (Array.getElem?_eq_some_iff.1 h4).1
  refine ⟨g', by simp [g'], by simp [g'], by simp [g'], .inr rfl, rfl, fun b => Iff.rfl, hne, fun x hx hB hE' => ?_, hE⟩
  refine ⟨fun b => ?_, fun b b' hb hb' e => ?_, fun o' B hB => ?_, S.sub⟩
  · by_cases hbk : b = k
    · subst hbk; rw [upd_same]; exact hB
    · rw [upd_ne h x hbk]
      refine (S.blk b).mono hE' (hne b hbk).1 (hne b hbk).2.1 (hne b hbk).2.2 (fun _ hn => hn) fun hal => ?_
      have := hlive b hal
      rw [Array.getElem?_push, if_neg (by omega)]
  · by_cases h1 : b = k
    · by_cases h2 : b' = k
      · rw [h1, h2]
      · rw [upd_ne h x h2] at hb'
        have := hlive b' hb'
        rw [(hne b' h2).1, h1] at e
        simp [g'] at e
        omega
    · by_cases h2 : b' = k
      · rw [upd_ne h x h1] at hb
        have := hlive b hb
        rw [(hne b h1).1, h2] at e
        simp [g'] at e
        omega
      · rw [upd_ne h x h1] at hb
        rw [upd_ne h x h2] at hb'
        rw [(hne b h1).1, (hne b' h2).1] at e
        exact S.inj b b' hb hb' e
  · have := S.fz o' B hB
    simp; omega

theorem alive_image {g : G} {h : Nat → Blk} {hp : Array Obj} (S : Sim g h hp) {b : Nat} (hb : alive (h b) = true) : g.m b < hp.size ∧ (∀ o, ¬ g.F o (g.m b)) ∧ g.dom b := by
  have := S.blk b
  cases hx : h b with
  | dead => rw [hx] at hb; cases hb
  | cells cs => rw [hx] at this; obtain ⟨h1, _, h3, c, ty, fr, L, h4, _⟩ := this; exact ⟨(Array.getElem?_eq_some_iff.1 h4).1, h3, h1⟩
  | map es clock => rw [hx] at this; obtain ⟨h1, h3, ents, h4, _⟩ := this; exact ⟨(Array.getElem?_eq_some_iff.1 h4).1, h3, h1⟩
  | sit s pos => rw [hx] at this; obtain ⟨h1, h3, h4⟩ := this; exact ⟨(Array.getElem?_eq_some_iff.1 h4).1, h3, h1⟩
  | mit m since seen st => rw [hx] at this; obtain ⟨h1, h3, r, h4, _⟩ := this; exact ⟨(Array.getElem?_eq_some_iff.1 h4).1, h3, h1⟩

/-- A live block is written in its place. -/
theorem Sim.write {g : G} {h : Nat → Blk} {hp hp' : Array Obj} (S : Sim g h hp) (b : Nat) (x : Blk) (hal : alive (h b) = true)
    (hsz : hp'.size = hp.size) (hoth : ∀ i, i ≠ g.m b → hp'[i]? = hp[i]?)
    (hx : (∃ cs cs', h b = .cells cs ∧ x = .cells cs' ∧ cs.length ≤ cs'.length) ∨ (isObj (h b) = true ∧ isObj x = true))
    (hB : Ext g h hp g (upd h b x) hp' → BlkOK g (upd h b x) hp' b x) : Sim g (upd h b x) hp' ∧ Ext g h hp g (upd h b x) hp' := by
  obtain ⟨him, hnF, hdom⟩ := alive_image S hal
  have hE : Ext g h hp g (upd h b x) hp' := by
    refine ⟨fun _ h => h, fun i cs' hi hc => ?_, fun i hi ho => ?_, fun _ _ h => h, fun o B hF => hoth B fun e => hnF o (e ▸ hF), rfl⟩
    · by_cases hib : i = b
      · subst hib
        rw [upd_same] at hc
        rcases hx with ⟨cs, cs2, h1, h2, h3⟩ | ⟨h1, h2⟩
        · rw [hc] at h2; cases h2
          exact ⟨cs, h1, h3, fun _ => ⟨rfl, rfl, rfl⟩⟩
        · rw [hc] at h2; cases h2
      · rw [upd_ne h x hib] at hc
        exact ⟨cs', hc, Nat.le_refl _, fun _ => ⟨rfl, rfl, rfl⟩⟩
    · by_cases hib : i = b
      · subst hib
        rw [upd_same] at ho
        rcases hx with ⟨cs, cs2, h1, h2, h3⟩ | ⟨h1, h2⟩
        · rw [h2] at ho; cases ho
        · exact ⟨h1, rfl⟩
      · rw [upd_ne h x hib] at ho; exact ⟨ho, rfl⟩
  have hax : alive x = true := by
    rcases hx with ⟨cs, cs2, h1, h2, h3⟩ | ⟨h1, h2⟩
    · subst h2; rfl
    · cases x <;> simp_all [isObj, alive]
  have hal' : ∀ i, alive (upd h b x i) = true → alive (h i) = true := fun i hi => by
    by_cases hib : i = b
    · subst hib; exact hal
    · rwa [upd_ne h x hib] at hi
  refine ⟨⟨fun i => ?_, fun i j hi hj e => S.inj i j (hal' i hi) (hal' j hj) e, fun o B hF => by rw [hsz]; exact S.fz o B hF, S.sub⟩, hE⟩
  by_cases hib : i = b
  · subst hib; rw [upd_same]; exact hB hE
  · rw [upd_ne h x hib]
    refine (S.blk i).mono hE rfl rfl rfl (fun _ hn => hn) fun ha => hoth _ fun e => hib (S.inj i b ha hal e)

/-- A live block of cells has moved to a new place, and grown. -/
theorem Sim.move {g : G} {h : Nat → Blk} {hp : Array Obj} (S : Sim g h hp) (b : Nat) (cs cs' : List AV) (c' : Array Value) (ty : TypeId) (hcs : h b = .cells cs) (hlen : cs.length < cs'.length)
    (hst : cs'.all AV.stor = true) (L : List Value) (hL : VRL g h hp cs' L) (hc : ∀ i, i < L.length → c'[i]? = L[i]?) :
    ∃ g' : G, g'.m b = hp.size ∧ g'.sh b = 0 ∧ g'.sz b = c'.size ∧ g'.dom = g.dom ∧ g'.F = g.F ∧ (∀ i, i ≠ b → g'.m i = g.m i) ∧ Sim g' (upd h b (.cells cs')) (hp.push (.cells c' ty)) ∧ Ext g h hp g' (upd h b (.cells cs')) (hp.push (.cells c' ty)) := by
  have hal : alive (h b) = true := by rw [hcs]; rfl
  obtain ⟨him, hnF, hdom⟩ := alive_image S hal
  let g' : G := { m := fun i => if i = b then hp.size else g.m i, sh := fun i => if i = b then 0 else g.sh i, sz := fun i => if i = b then c'.size else g.sz i, dom := g.dom, F := g.F, yv := g.yv }
  have hne : ∀ i, i ≠ b → g'.m i = g.m i ∧ g'.sh i = g.sh i ∧ g'.sz i = g.sz i := fun i hi => by simp [g', hi]
  have hE : Ext g h hp g' (upd h b (.cells cs')) (hp.push (.cells c' ty)) := by
    refine ⟨fun _ h => h, fun i cs2 hi h2 => ?_, fun i hi ho => ?_, fun _ _ h => h, fun o B hF => ?_, rfl⟩
    · by_cases hib : i = b
      · subst hib
        rw [upd_same] at h2; cases h2
        exact ⟨cs, hcs, by omega, fun e => by omega⟩
      · rw [upd_ne h _ hib] at h2
        exact ⟨cs2, h2, Nat.le_refl _, fun _ => hne i hib⟩
    · by_cases hib : i = b
      · subst hib; rw [upd_same] at ho; cases ho
      · rw [upd_ne h _ hib] at ho; exact ⟨ho, (hne i hib).1⟩
    · have := S.fz o B hF
      rw [Array.getElem?_push, if_neg (by omega)]
  refine ⟨g', by simp [g'], by simp [g'], by simp [g'], rfl, rfl, fun i hi => (hne i hi).1, ⟨fun i => ?_, fun i j hi hj e => ?_, fun o B hF => ?_, S.sub⟩, hE⟩
  · by_cases hib : i = b
    · subst hib
      rw [upd_same]
      refine ⟨hdom, hst, fun o hF => ?_, c', ty, (0, 0), L, ?_, ?_, hL.mono hE, ?_, ?_, by have := room_of hc; have := hL.length; simp [g']; omega⟩
      · have := S.fz o _ hF; simp [g'] at this
      · simp [g']
      · simp [g']
      · simpa [g'] using hc
      · intro i _; simp
    · rw [upd_ne h _ hib]
      refine (S.blk i).mono hE (hne i hib).1 (hne i hib).2.1 (hne i hib).2.2 (fun _ hn => hn) fun ha => ?_
      have := (alive_image S ha).1
      rw [Array.getElem?_push, if_neg (by omega)]
  · have himg : ∀ i, i ≠ b → alive (upd h b (.cells cs') i) = true → g'.m i < hp.size := fun i hib ha => by
      rw [upd_ne h _ hib] at ha
      rw [(hne i hib).1]; exact (alive_image S ha).1
    by_cases h1 : i = b
    · by_cases h2 : j = b
      · rw [h1, h2]
      · have := himg j h2 hj
        rw [← e, h1] at this; simp [g'] at this
    · by_cases h2 : j = b
      · have := himg i h1 hi
        rw [e, h2] at this; simp [g'] at this
      · rw [upd_ne h _ h1] at hi
        rw [upd_ne h _ h2] at hj
        rw [(hne i h1).1, (hne j h2).1] at e
        exact S.inj i j hi hj e
  · have := S.fz o B hF
    simp; omega

end Go.Xv

namespace Go.Xv

theorem purely_run {P : Program} {α : Type} {s : Sem α} {a : α} (h : purely P s = some a) (w : World) : s.run P w = .ok a w := by
  induction s generalizing w with
  | pure b => simp [purely] at h; subst h; rfl
  | program k ih => simp only [purely] at h; simp only [Sem.run]; exact ih _ h w
  | mark m k ih => simp only [purely] at h; simp only [Sem.run]; exact ih h w
  | _ => simp [purely] at h

theorem run_andThen {P : Program} {α β : Type} {s : Sem α} {f : α → Sem β} {a : α} {w : World} (h : purely P s = some a) : (s >>= f).run P w = (f a).run P w := by
  rw [Sem.run_bind, purely_run h w]; rfl

theorem run_underlyingX {P : Program} {t : TypeId} {d : TypeDesc} (h : P.underlying t = some d) : purely P (underlying t) = some d := by
  simp [underlying, program, bind, Sem.bind, purely, h, pure]

theorem run_info {P : Program} {t : TypeId} {i : TypeInfo} (h : P.info? t = some i) : purely P (typeInfo t) = some i := by
  simp [typeInfo, program, bind, Sem.bind, purely, h, pure]

structure Post (g : G) (h : Nat → Blk) (w : World) (k k' : Nat) (g' : G) (h' : Nat → Blk) (w' : World) : Prop where
  sim : Sim g' h' w'.heap
  ext : Ext g h w.heap g' h' w'.heap
  size : w.heap.size ≤ w'.heap.size
  frame : ∀ c, c < w.heap.size → (∀ b, alive (h b) = true → g.m b ≠ c) → w'.heap[c]? = w.heap[c]?
  img : ∀ b, alive (h' b) = true → (alive (h b) = true ∧ g'.m b = g.m b) ∨ w.heap.size ≤ g'.m b
  F : ∀ o B, g'.F o B → g.F o B ∨ w.heap.size ≤ B
  dom : ∀ b, g'.dom b → g.dom b ∨ (k ≤ b ∧ b < k')
  os : w'.os = w.os
  tape : w'.tape = w.tape
  output : w'.output = w.output

theorem Post.refl {g : G} {h : Nat → Blk} {w : World} (S : Sim g h w.heap) (k k' : Nat) : Post g h w k k' g h w :=
  ⟨S, Ext.refl _ _ _, Nat.le_refl _, fun _ _ _ => rfl, fun _ hb => .inl ⟨hb, rfl⟩, fun _ _ hB => .inl hB, fun _ hb => .inl hb, rfl, rfl, rfl⟩

/-- The draw of a region's order, or another count of draws. -/
theorem Post.drawn {g g' : G} {h h' : Nat → Blk} {w w' : World} {k k' : Nat} (p : Post g h w k k' g' h' w') (n : Nat) : Post g h w k k' g' h' { w' with drawn := n } :=
  ⟨p.sim, p.ext, p.size, p.frame, p.img, p.F, p.dom, p.os, p.tape, p.output⟩

theorem Post.of_drawn {g g' : G} {h h' : Nat → Blk} {w w' : World} {k k' n : Nat} (p : Post g h { w with drawn := n } k k' g' h' w') : Post g h w k k' g' h' w' :=
  ⟨p.sim, p.ext, p.size, p.frame, p.img, p.F, p.dom, p.os, p.tape, p.output⟩

theorem Post.trans {g g1 g2 : G} {h h1 h2 : Nat → Blk} {w w1 w2 : World} {k k1 k2 : Nat} (p : Post g h w k k1 g1 h1 w1) (q : Post g1 h1 w1 k1 k2 g2 h2 w2) (hk : k ≤ k1) (hk2 : k1 ≤ k2) :
    Post g h w k k2 g2 h2 w2 where
  sim := q.sim
  ext := p.ext.trans q.ext
  size := Nat.le_trans p.size q.size
  frame c hc hb := by
    rw [q.frame c (by have := p.size; omega) fun b hb1 e => ?_, p.frame c hc hb]
    rcases p.img b hb1 with ⟨ha, he⟩ | hle
    · exact hb b ha (by rw [← he]; exact e)
    · omega
  img b hb := by
    rcases q.img b hb with ⟨ha, he⟩ | hle
    · rcases p.img b ha with ⟨ha0, he0⟩ | hle0
      · exact .inl ⟨ha0, he.trans he0⟩
      · exact .inr (by rw [he]; exact hle0)
    · exact .inr (Nat.le_trans p.size hle)
  F o B hB := by
    rcases q.F o B hB with h1 | h1
    · exact p.F o B h1
    · exact .inr (Nat.le_trans p.size h1)
  dom b hb := by
    rcases q.dom b hb with h1 | h1
    · rcases p.dom b h1 with h0 | h0
      · exact .inl h0
      · exact .inr ⟨h0.1, by omega⟩
    · exact .inr ⟨by omega, h1.2⟩
  os := q.os.trans p.os
  tape := q.tape.trans p.tape
  output := q.output.trans p.output

def updAll (h : Nat → Blk) : List (Nat × Blk) → (Nat → Blk)
  | [] => h
  | (b, x) :: r => updAll (upd h b x) r

def allocs (h : Nat → Blk) (k : Nat) : List Blk → (Nat → Blk)
  | [] => h
  | x :: r => allocs (upd h k x) (k + 1) r

def newH (h : Nat → Blk) (k : Nat) (e : Eff) : Nat → Blk := allocs (updAll h e.wr) k e.al

def nextV : Next → Option Value
  | .value v => some v
  | .skip => some undef
  | _ => none

/-- The machine's operation goes through, and what it leaves is what the interpreter says. -/
def Good (g : G) (h : Nat → Blk) (w : World) (k : Nat) (e : Eff) (r : Result Next) : Prop :=
  ∃ nx v w' g', r = .ok nx w' ∧ nextV nx = some v ∧ Post g h w k (k + e.al.length) g' (newH h k e) w' ∧ VR g' (newH h k e) w'.heap e.val v

section good
variable {g : G} {h : Nat → Blk} {w : World} {k : Nat}

theorem good_value (S : Sim g h w.heap) {a : AV} {rd : List Nat} {v : Value} (hv : VR g h w.heap a v) {r : Result Next} (hr : r = .ok (.value v) w) : Good g h w k { val := a, rd := rd } r :=
  ⟨.value v, v, w, g, hr, rfl, Post.refl S _ _, hv⟩

theorem undef_VR {g : G} {h : Nat → Blk} {hp : Array Obj} : VR g h hp undefA undef := .tup [] [] .nil

/-- A new block of cells. -/
theorem good_alloc (S : Sim g h w.heap) (hk : ¬ g.dom k) {cs : List AV} {c : Array Value} {ty : TypeId} {L : List Value} (hL : VRL g h w.heap cs L) (hst : cs.all AV.stor = true)
    (hc : ∀ i, i < L.length → c[i]? = L[i]?) {a : AV} {v : Value} {rd : List Nat} (n : Nat) {fr : Nat × Nat} (hfr : unfrozen fr c.size)
    (hv : ∀ g' hp', (∀ b, b = k → g'.m b = w.heap.size ∧ g'.sh b = 0 ∧ g'.sz b = c.size ∧ g'.dom b) → Ext g h w.heap g' (upd h k (.cells cs)) hp' → VR g' (upd h k (.cells cs)) hp' a v)
    {r : Result Next} (hr : r = .ok (.value v) { w with heap := w.heap.push (.cells c ty fr), drawn := n }) : Good g h w k { val := a, al := [.cells cs], rd := rd } r := by
  obtain ⟨g', hm, hsh, hsz, hd, hF, hdom, hne, hS, hE⟩ := S.fresh k hk (.cells c ty fr) c.size
  have E := hE (.cells cs)
  have hB : BlkOK g' (upd h k (.cells cs)) (w.heap.push (.cells c ty fr)) k (.cells cs) := by
    refine ⟨hd, hst, fun o hFo => ?_, c, ty, fr, L, by rw [hm]; simp, hsz.symm, hL.mono E, fun i hi => by rw [hsh]; simpa using hc i hi, hfr, by rw [hsh]; have := room_of hc; have := hL.length; omega⟩
    rw [hF, hm] at hFo
    have := S.fz o _ hFo; omega
  have S' := hS (.cells cs) (.inr ⟨cs, rfl⟩) hB E
  refine ⟨.value v, v, _, g', hr, rfl, ⟨S', E, by simp, fun c' hc' _ => ?_, fun b hb => ?_, fun o B hB => ?_, fun b hb => ?_, rfl, rfl, rfl⟩, hv g' _ (fun b hb => by subst hb; exact ⟨hm, hsh, hsz, hd⟩) E⟩
  · rw [Array.getElem?_push, if_neg (by omega)]
  · by_cases hbk : b = k
    · subst hbk; right; rw [hm]; exact Nat.le_refl _
    · left
      have : newH h k { val := a, al := [.cells cs], rd := rd } b = h b := by simp [newH, updAll, allocs, upd_ne _ _ hbk]
      rw [this] at hb
      exact ⟨hb, (hne b hbk).1⟩
  · left; rw [hF] at hB; exact hB
  · rcases (hdom b).1 hb with h1 | h1
    · exact .inl h1
    · exact .inr ⟨by omega, by simp; omega⟩

theorem unfrozen_zero (n : Nat) : unfrozen (0, 0) n := fun i _ => by simp

/-- A new block that is no cells. -/
theorem good_newObj (S : Sim g h w.heap) (hk : ¬ g.dom k) {x : Blk} {o : Obj} (hx : isObj x = true)
    (hB : ∀ g', g'.m k = w.heap.size → g'.dom k → g'.F = g.F → Ext g h w.heap g' (upd h k x) (w.heap.push o) → BlkOK g' (upd h k x) (w.heap.push o) k x)
    {a : AV} {v : Value} {rd : List Nat} (n : Nat)
    (hv : ∀ g' hp', g'.m k = w.heap.size → g'.dom k → VR g' (upd h k x) hp' a v)
    {r : Result Next} (hr : r = .ok (.value v) { w with heap := w.heap.push o, drawn := n }) : Good g h w k { val := a, al := [x], rd := rd } r := by
  obtain ⟨g', hm, hsh, hsz, hd, hF, hdom, hne, hS, hE⟩ := S.fresh k hk o 0
  have E := hE x
  have S' := hS x (.inl hx) (hB g' hm hd hF E) E
  refine ⟨.value v, v, _, g', hr, rfl, ⟨S', E, by simp, fun c' hc' _ => ?_, fun b hb => ?_, fun o B hB => ?_, fun b hb => ?_, rfl, rfl, rfl⟩, hv g' _ hm hd⟩
  · rw [Array.getElem?_push, if_neg (by omega)]
  · by_cases hbk : b = k
    · subst hbk; right; rw [hm]; exact Nat.le_refl _
    · left
      have : newH h k { val := a, al := [x], rd := rd } b = h b := by simp [newH, updAll, allocs, upd_ne _ _ hbk]
      rw [this] at hb
      exact ⟨hb, (hne b hbk).1⟩
  · left; rw [hF] at hB; exact hB
  · rcases (hdom b).1 hb with h1 | h1
    · exact .inl h1
    · exact .inr ⟨by omega, by simp; omega⟩

/-- A live block is written. -/
theorem good_write (S : Sim g h w.heap) (b : Nat) (x : Blk) (hal : alive (h b) = true) {w' : World}
    (hsz : w'.heap.size = w.heap.size) (hoth : ∀ i, i ≠ g.m b → w'.heap[i]? = w.heap[i]?)
    (hx : (∃ cs cs', h b = .cells cs ∧ x = .cells cs' ∧ cs.length ≤ cs'.length) ∨ (isObj (h b) = true ∧ isObj x = true))
    (hB : Ext g h w.heap g (upd h b x) w'.heap → BlkOK g (upd h b x) w'.heap b x)
    (hos : w'.os = w.os) (htp : w'.tape = w.tape) (hout : w'.output = w.output)
    {a : AV} {v : Value} {nx : Next} {rd : List Nat} (hnx : nextV nx = some v) (hv : Ext g h w.heap g (upd h b x) w'.heap → VR g (upd h b x) w'.heap a v)
    {r : Result Next} (hr : r = .ok nx w') : Good g h w k { val := a, wr := [(b, x)], rd := rd } r := by
  obtain ⟨S', E⟩ := S.write b x hal hsz hoth hx hB
  refine ⟨nx, v, w', g, hr, hnx, ⟨S', E, by omega, fun c hc hb => hoth c fun e => hb b hal e.symm, fun b' hb' => ?_, fun _ _ hB => .inl hB, fun _ hb => .inl hb, hos, htp, hout⟩, hv E⟩
  left
  refine ⟨?_, rfl⟩
  by_cases hbb : b' = b
  · subst hbb; exact hal
  · have : newH h k { val := a, wr := [(b, x)], rd := rd } b' = h b' := by simp [newH, updAll, allocs, upd_ne _ _ hbb]
    rwa [this] at hb'
end good


theorem addr_add (B o i : Nat) : (Addr.add ⟨B, o, none⟩ i) = ⟨B, o + i, none⟩ := by
  unfold Addr.add; split
  · rename_i h; subst h; rfl
  · rfl

theorem cell_of {w : World} {B o : Nat} {c : Array Value} {ty : TypeId} {fr : Nat × Nat} (h : w.heap[B]? = some (.cells c ty fr)) : w.cell? ⟨B, o, none⟩ = c[o]? := by
  simp [World.cell?, h]

theorem run_loadX {P : Program} {w : World} {a : Addr} {v : Value} (h : w.cell? a = some v) : (load a).run P w = .ok v w := by
  simp [load, Sem.run, h]

theorem loadCellsFrom_run {P : Program} {w : World} {B o : Nat} (vs : List Value) : ∀ (i : Nat) (acc : Array Value), (∀ j, j < vs.length → w.cell? ⟨B, o + i + j, none⟩ = vs[j]?) →
    (loadCellsFrom ⟨B, o, none⟩ i vs.length acc).run P w = .ok (acc ++ vs.toArray) w := by
  induction vs with
  | nil => intro i acc _; simp [loadCellsFrom]
  | cons v vs ih =>
    intro i acc h
    have h0 := h 0 (by simp)
    simp at h0
    simp only [List.length_cons, loadCellsFrom, Sem.run_bind, addr_add]
    rw [run_loadX h0]
    simp only [Result.andThen_ok]
    rw [ih (i + 1) (acc.push v) fun j hj => by
      have := h (j + 1) (by simp; omega)
      rw [show o + (i + 1) + j = o + i + (j + 1) from by omega, this]; simp]
    congr 1
    simp

theorem loadCells_run {P : Program} {w : World} {B o n : Nat} (vs : List Value) (hn : vs.length = n) (h : ∀ j, j < vs.length → w.cell? ⟨B, o + j, none⟩ = vs[j]?) :
    (loadCells ⟨B, o, none⟩ n).run P w = .ok vs.toArray w := by
  subst hn
  unfold loadCells
  rw [loadCellsFrom_run vs 0 #[] (by simpa using h)]
  simp

/-- A part of a row of cells, as the machine reads it. -/
theorem part_run {P : Program} {g : G} {h : Nat → Blk} {w : World} {t : TypeId} {ag : Bool} {s off B o : Nat} {cs : List AV} {L : List Value} {a : AV}
    (hag : agT P t = some ag) (hs : szT P t = some s) (hp : part ag s off cs = some a) (hL : VRL g h w.heap cs L)
    (hst : cs.all AV.stor = true) (hc : ∀ i, i < L.length → w.cell? ⟨B, o + i, none⟩ = L[i]?) :
    ∃ v, (loadVar t ⟨B, o + off, none⟩).run P w = .ok v w ∧ VR g h w.heap a v := by
  unfold loadVar
  rw [run_andThen (show purely P (isAgg t) = some ag from hag)]
  unfold part at hp
  split at hp
  · rename_i ht
    simp only [ht, if_true]
    dsimp only at hp
    split at hp
    · rename_i hlen
      cases hp
      have hL' := (hL.drop off).take s
      have hl' : ((L.drop off).take s).length = s := by rw [← hL'.length]; exact hlen
      refine ⟨.agg ((L.drop off).take s).toArray, ?_, .agg _ _ hL' ?_⟩
      · rw [run_andThen (show purely P (sizeOf t) = some s from hs), Sem.run_bind]
        rw [loadCells_run ((L.drop off).take s) hl' fun j hj => ?_]
        · rfl
        · rw [hl'] at hj
          have hlt : off + j < L.length := by
            have := hl'; simp at this; omega
          rw [show o + off + j = o + (off + j) from by omega, hc (off + j) hlt]
          rw [List.getElem?_take, if_pos hj, List.getElem?_drop]
      · rw [List.all_eq_true] at hst ⊢
        intro x hx
        exact hst x (List.mem_of_mem_drop (List.mem_of_mem_take hx))
    · cases hp
  · rename_i ht
    simp only [ht]
    obtain ⟨v, hv, hR⟩ := hL.get hp
    refine ⟨v, ?_, hR⟩
    have hlt : off < L.length := by
      rcases Nat.lt_or_ge off L.length with h1 | h1
      · exact h1
      · rw [List.getElem?_eq_none h1] at hv; cases hv
    have := hc off hlt
    rw [hv] at this
    exact run_loadX this

theorem cellsAt {h : Nat → Blk} {b ver : Nat} {cs : List AV} (hc : curCells h b ver = some cs) :
    h b = .cells cs ∧ cs.length = ver := by
  unfold curCells at hc
  split at hc
  · rename_i cs' hb
    split at hc
    · rename_i hl; cases hc; exact ⟨hb, hl⟩
    · cases hc
  · cases hc

theorem ldPtr_run {P : Program} {g : G} {h : Nat → Blk} {w : World} (S : Sim g h w.heap) {t : TypeId} {p a : AV} {rd : List Nat} {v : Value}
    (hl : ldPtr P h t p = some (a, rd)) (hv : VR g h w.heap p v) : ∃ u, (Instr.loadAt t v).run P w = .ok u w ∧ VR g h w.heap a u := by
  cases hv with
  | ptr b ver off ad hd hc =>
    simp only [ldPtr] at hl
    cases h1 : curCells h b ver with
    | none => simp [h1] at hl
    | some cs =>
      cases h2 : agT P t with
      | none => simp [h1, h2] at hl
      | some ag =>
        cases h3 : szT P t with
        | none => simp [h1, h2, h3] at hl
        | some s =>
          cases h4 : part ag s off cs with
          | none => simp [h1, h2, h3, h4] at hl
          | some a' =>
            simp [h1, h2, h3, h4] at hl
            obtain ⟨rfl, _⟩ := hl
            obtain ⟨hb, hlen⟩ := cellsAt h1
            obtain ⟨_, hst, _, c, ty, fr, L, k1, k2, k3, k4, k5, k6⟩ := (show BlkOK g h w.heap b (.cells cs) from hb ▸ S.blk b)
            obtain ⟨_, q⟩ := hc cs hb
            have hq := q hlen
            subst hq
            obtain ⟨u, r1, r2⟩ := part_run (B := g.m b) (o := g.sh b) h2 h3 h4 k3 hst fun i hi => by rw [cell_of k1]; exact k4 i hi
            exact ⟨u, by simpa [Instr.loadAt, Instr.sureAddr] using r1, r2⟩
  | cp own cs off L B o hL hst hF hr hfr =>
    simp only [ldPtr] at hl
    cases h2 : agT P t with
    | none => simp [h2] at hl
    | some ag =>
      cases h3 : szT P t with
      | none => simp [h2, h3] at hl
      | some s =>
        cases h4 : part ag s off cs with
        | none => simp [h2, h3, h4] at hl
        | some a' =>
          simp [h2, h3, h4] at hl
          obtain ⟨rfl, _⟩ := hl
          obtain ⟨c, ty, fr, k1, k4⟩ := hr
          obtain ⟨u, r1, r2⟩ := part_run (B := B) (o := o) h2 h3 h4 hL hst fun i hi => by rw [cell_of k1]; exact k4 i hi
          exact ⟨u, by simpa [Instr.loadAt, Instr.sureAddr] using r1, r2⟩
  | _ => simp [ldPtr] at hl


/-- After a row of stores. -/
structure Stored (w : World) (B o : Nat) (c : Array Value) (ty : TypeId) (fr : Nat × Nat) (vs : List Value) (w' : World) : Prop where
  size : w'.heap.size = w.heap.size
  oth : ∀ i, i ≠ B → w'.heap[i]? = w.heap[i]?
  here : ∃ c', w'.heap[B]? = some (.cells c' ty fr) ∧ c'.size = c.size ∧ ∀ i, c'[i]? = if o ≤ i ∧ i < o + vs.length then vs[i - o]? else c[i]?
  os : w'.os = w.os
  tape : w'.tape = w.tape
  output : w'.output = w.output

theorem run_storeX {P : Program} {w : World} {B o : Nat} {c : Array Value} {ty : TypeId} {fr : Nat × Nat} {v : Value} (h : w.heap[B]? = some (.cells c ty fr)) (ho : o < c.size)
    (hfr : unfrozen fr c.size) (hv : plainV v = true) : (store ⟨B, o, none⟩ v).run P w = .ok () (w.setCell ⟨B, o, none⟩ v) := by
  have hc : w.cell? ⟨B, o, none⟩ = some c[o] := by rw [cell_of h]; simp [ho]
  have hf : w.frozen? ⟨B, o, none⟩ = false := by
    have := hfr o ho
    simp only [World.frozen?, h]
    exact this
  cases v <;> simp [plainV] at hv <;> simp [store, Sem.run, hc, hf]

theorem setCell_heap {w : World} {B o : Nat} {c : Array Value} {ty : TypeId} {fr : Nat × Nat} {v : Value} (h : w.heap[B]? = some (.cells c ty fr)) :
    (w.setCell ⟨B, o, none⟩ v).heap[B]? = some (.cells (c.setIfInBounds o v) ty fr) := by
  simp [World.setCell, Array.getElem?_modify, h]

theorem setCell_oth {w : World} {B o i : Nat} {v : Value} (h : i ≠ B) : (w.setCell ⟨B, o, none⟩ v).heap[i]? = w.heap[i]? := by
  simp only [World.setCell, Array.getElem?_modify]
  rw [if_neg (by omega)]

theorem storeCells_run {P : Program} {B o : Nat} {ty : TypeId} {fr : Nat × Nat} (vs : List Value) : ∀ (j : Nat) (w : World) (c : Array Value), w.heap[B]? = some (.cells c ty fr) → o + j + vs.length ≤ c.size →
    unfrozen fr c.size → (∀ v ∈ vs, plainV v = true) → ∃ w', (storeCells ⟨B, o, none⟩ vs j).run P w = .ok () w' ∧ Stored w B (o + j) c ty fr vs w' := by
  induction vs with
  | nil =>
    intro j w c h _ _ _
    exact ⟨w, by simp [storeCells], rfl, fun _ _ => rfl, ⟨c, h, rfl, fun i => by rw [if_neg (by simp)]⟩, rfl, rfl, rfl⟩
  | cons v vs ih =>
    intro j w c h hle hfr hpl
    simp only [List.length_cons] at hle
    have h1 := setCell_heap (o := o + j) (v := v) h
    obtain ⟨w', hr, hS⟩ := ih (j + 1) (w.setCell ⟨B, o + j, none⟩ v) (c.setIfInBounds (o + j) v) h1 (by simp; omega) (by simpa using hfr) fun u hu => hpl u (by simp [hu])
    refine ⟨w', ?_, ?_⟩
    · simp only [storeCells, Sem.run_bind, addr_add]
      rw [run_storeX h (by omega) hfr (hpl v (by simp))]
      exact hr
    · obtain ⟨c', k1, k2, k3⟩ := hS.here
      refine ⟨by rw [hS.size]; simp [World.setCell], fun i hi => by rw [hS.oth i hi, setCell_oth hi], ⟨c', k1, by rw [k2]; simp, fun i => ?_⟩, hS.os, hS.tape, hS.output⟩
      rw [k3 i]
      simp only [List.length_cons]
      by_cases e : i = o + j
      · subst e
        rw [if_neg (by omega), if_pos (by omega)]
        simp [show o + j < c.size by omega]
      · by_cases e2 : o + (j + 1) ≤ i ∧ i < o + (j + 1) + vs.length
        · rw [if_pos e2, if_pos (by omega)]
          rw [show i - (o + j) = (i - (o + (j + 1))) + 1 from by omega]
          simp
        · rw [if_neg e2, if_neg (by omega)]
          rw [Array.getElem?_setIfInBounds]
          rw [if_neg (by omega)]

theorem plain_all {g : G} {h : Nat → Blk} {hp : Array Obj} {l : List AV} {L : List Value} (hl : VRL g h hp l L) (hs : l.all AV.stor = true) : ∀ v ∈ L, plainV v = true := by
  induction l generalizing L with
  | nil => cases hl; simp
  | cons a l ih =>
    cases hl with
    | cons _ v _ L ha hl =>
      simp at hs
      intro u hu
      simp at hu
      rcases hu with rfl | hu
      · exact ha.plain hs.1
      · exact ih hl (by simpa using hs.2) u hu

/-- A list after a row of stores. -/
theorem splice_get {α : Type} (cs vs : List α) (off i : Nat) (h : off + vs.length ≤ cs.length) :
    (cs.take off ++ vs ++ cs.drop (off + vs.length))[i]? = if off ≤ i ∧ i < off + vs.length then vs[i - off]? else cs[i]? := by
  by_cases h1 : i < off
  · rw [if_neg (by omega), List.append_assoc, List.getElem?_append_left (by simp; omega), List.getElem?_take, if_pos h1]
  · by_cases h2 : i < off + vs.length
    · rw [if_pos (by omega), List.append_assoc, List.getElem?_append_right (by simp; omega), List.getElem?_append_left (by simp; omega)]
      congr 1; simp; omega
    · rw [if_neg (by omega), List.getElem?_append_right (by simp; omega), List.getElem?_drop]
      congr 1; simp; omega

theorem splice_length (cs vs : List AV) (off : Nat) (h : off + vs.length ≤ cs.length) : (splice cs vs off).length = cs.length := by
  unfold splice; simp; omega

theorem splice_stor {cs vs : List AV} {off : Nat} (h1 : cs.all AV.stor = true) (h2 : vs.all AV.stor = true) : (splice cs vs off).all AV.stor = true := by
  unfold splice
  simp only [List.all_append, Bool.and_eq_true]
  refine ⟨⟨?_, h2⟩, ?_⟩
  · rw [List.all_eq_true] at h1 ⊢
    exact fun x hx => h1 x (List.mem_of_mem_take hx)
  · rw [List.all_eq_true] at h1 ⊢
    exact fun x hx => h1 x (List.mem_of_mem_drop hx)

/-- A row of stores into a live block. -/
theorem good_store {P : Program} {g : G} {h : Nat → Blk} {w : World} {k : Nat} (S : Sim g h w.heap) {b off : Nat} {cs vs : List AV} {V : List Value} (hb : h b = .cells cs) (hV : VRL g h w.heap vs V)
    (hst : vs.all AV.stor = true) (hle : off + vs.length ≤ cs.length) :
    ∃ w', (storeCells ⟨g.m b, g.sh b + off, none⟩ V).run P w = .ok () w' ∧
      (∀ (a : AV) (v : Value) (nx : Next) (rd : List Nat) (r : Result Next), nextV nx = some v → (∀ hp', Ext g h w.heap g (upd h b (.cells (splice cs vs off))) hp' → VR g (upd h b (.cells (splice cs vs off))) hp' a v) →
        r = .ok nx w' → Good g h w k { val := a, wr := [(b, .cells (splice cs vs off))], rd := rd } r) := by
  obtain ⟨hd, hcst, hnF, c, ty, fr, L, k1, k2, k3, k4, k5, k6⟩ := (show BlkOK g h w.heap b (.cells cs) from hb ▸ S.blk b)
  have hLlen := k3.length
  have hVlen := hV.length
  have hcsz : ∀ i, i < L.length → g.sh b + i < c.size := fun i hi => by
    have := k4 i hi
    rcases Nat.lt_or_ge (g.sh b + i) c.size with h1 | h1
    · exact h1
    · rw [Array.getElem?_eq_none h1, List.getElem?_eq_getElem hi] at this; cases this
  have hroom : g.sh b + off + 0 + V.length ≤ c.size ∨ V.length = 0 := by
    rcases Nat.eq_zero_or_pos V.length with e | e
    · exact .inr e
    · left
      have := hcsz (off + V.length - 1) (by omega)
      omega
  rcases hroom with hroom | hz
  · obtain ⟨w', hr, hS⟩ := storeCells_run (P := P) V 0 w c k1 hroom k5 (plain_all hV hst)
    refine ⟨w', hr, fun a v nx rd r hnx hv hr' => ?_⟩
    obtain ⟨c', q1, q2, q3⟩ := hS.here
    refine good_write S b (.cells (splice cs vs off)) (by rw [hb]; rfl) hS.size (fun i hi => hS.oth i hi) (.inl ⟨cs, _, hb, rfl, by rw [splice_length _ _ _ hle]; exact Nat.le_refl _⟩) (fun E => ?_) hS.os hS.tape hS.output hnx (fun E => hv _ E) hr'
    refine ⟨hd, splice_stor hcst hst, hnF, c', ty, fr, L.take off ++ V ++ L.drop (off + V.length), q1, by rw [q2, k2], ?_, fun i hi => ?_, by rw [q2]; exact k5, by rw [q2, splice_length _ _ _ hle]; exact k6⟩
    · have := (((k3.take off).append hV).append (k3.drop (off + V.length))).mono E
      rw [← hVlen] at this ⊢
      exact this
    · rw [q3, splice_get _ _ _ _ (by omega)]
      simp at hi
      by_cases e : off ≤ i ∧ i < off + V.length
      · rw [if_pos e, if_pos (by omega)]; congr 1; omega
      · rw [if_neg e, if_neg (by omega)]; exact k4 i (by omega)
  · have hV0 : V = [] := List.length_eq_zero_iff.1 hz
    subst hV0
    cases hV
    refine ⟨w, by simp [storeCells], fun a v nx rd r hnx hv hr' => ?_⟩
    have hsp : splice cs [] off = cs := by simp [splice]
    rw [hsp] at hv ⊢
    refine good_write S b (.cells cs) (by rw [hb]; rfl) rfl (fun i _ => rfl) (.inl ⟨cs, _, hb, rfl, Nat.le_refl _⟩) (fun E => ?_) rfl rfl rfl hnx (fun E => hv _ E) hr'
    exact ⟨hd, hcst, hnF, c, ty, fr, L, k1, k2, k3.mono E, k4, k5, k6⟩

end Go.Xv

namespace Go.Xv

section ops
variable {P : Program} {gl : Nat → Option (List AV)} {g : G} {h : Nat → Blk} {w : World} {k : Nat} {t : Tmps} {a : Act}

/-- A block of just so many cells. -/
def wideAt (hp : Array Obj) (i n : Nat) : Prop := ∃ c ty fr, hp[i]? = some (.cells c ty fr) ∧ c.size = n

def GlOK (gl : Nat → Option (List AV)) (g : G) (h : Nat → Blk) (hp : Array Obj) : Prop :=
  ∀ i cs, gl i = some cs → VR g h hp (.cp true cs 0) (.pointer (some ⟨i, 0, none⟩)) ∧ wideAt hp i cs.length

theorem cp_F {g : G} {h : Nat → Blk} {hp : Array Obj} {cs : List AV} {i : Nat} (h1 : VR g h hp (.cp true cs 0) (.pointer (some ⟨i, 0, none⟩))) : g.F true i := by
  cases h1 with
  | cp _ _ _ L B o hL hst hF hr hfr => exact hF
theorem wideAt.keep {hp hp' : Array Obj} {i n : Nat} (h : wideAt hp i n) (e : hp'[i]? = hp[i]?) : wideAt hp' i n := by
  obtain ⟨c, ty, fr, h1, h2⟩ := h
  exact ⟨c, ty, fr, e.trans h1, h2⟩
theorem GlOK.mono {g' : G} {h' : Nat → Blk} {hp hp' : Array Obj} (H : GlOK gl g h hp) (E : Ext g h hp g' h' hp') : GlOK gl g' h' hp' := fun i cs hi =>
  ⟨(H i cs hi).1.mono E, (H i cs hi).2.keep (E.keep _ _ (cp_F (H i cs hi).1))⟩

theorem evO_sound (hgl : GlOK gl g h w.heap) (ht : VRL g h w.heap t a.tmps.toList) {x : Operand} {v : AV} (hx : evO gl t x = some v) : VR g h w.heap v (a.eval x) := by
  cases x with
  | tmp i =>
    simp only [evO, Option.some.injEq] at hx
    subst hx
    simp only [Act.eval]
    rcases Nat.lt_or_ge i t.length with hi | hi
    · have h1 : t[i]? = some t[i] := List.getElem?_eq_getElem hi
      obtain ⟨v, hv, hR⟩ := ht.get h1
      have : a.tmps.getD i undef = v := by
        simp [Array.getD_eq_getD_getElem?, ← Array.getElem?_toList, hv]
      rw [this]
      have : t.getD i undefA = t[i] := by simp [List.getD_eq_getElem?_getD, h1]
      rw [this]; exact hR
    · have h2 : a.tmps.size ≤ i := by have := ht.length; simp at this; omega
      have : a.tmps.getD i undef = undef := by simp [Array.getD_eq_getD_getElem?, h2]
      rw [this]
      have : t.getD i undefA = undefA := by simp [List.getD_eq_getElem?_getD, hi]
      rw [this]; exact undef_VR
  | const v => exact VR.of_ofV hx
  | global i =>
    simp only [evO] at hx
    cases h1 : gl i with
    | none => simp [h1] at hx
    | some cs => simp [h1] at hx; subst hx; exact (hgl i cs h1).1
  | func f =>
    simp only [evO, Option.some.injEq] at hx
    subst hx
    exact .fn f [] [] [] [] .nil .nil

theorem evOs_sound (hgl : GlOK gl g h w.heap) (ht : VRL g h w.heap t a.tmps.toList) {xs : List Operand} {vs : List AV} (hx : xs.mapM (evO gl t) = some vs) :
    VRL g h w.heap vs (xs.map a.eval) := by
  induction xs generalizing vs with
  | nil => simp at hx; subst hx; exact .nil
  | cons x xs ih =>
    simp only [List.mapM_cons] at hx
    cases h1 : evO gl t x with
    | none => simp [h1] at hx
    | some v =>
      cases h2 : xs.mapM (evO gl t) with
      | none => simp [h1, h2] at hx
      | some vs' =>
        simp [h1, h2] at hx
        subst hx
        exact .cons _ _ _ _ (evO_sound hgl ht h1) (ih h2)

theorem zeroA_sound {ty : TypeId} {z : AV} (hz : zeroA P ty = some z) : ∃ v, purely P (zeroValue ty) = some v ∧ VR g h w.heap z v ∧ z.cells.all AV.stor = true := by
  unfold zeroA at hz
  cases h1 : purely P (zeroValue ty) with
  | none => simp [h1] at hz
  | some v =>
    simp only [h1, Option.bind_eq_bind, Option.bind_some] at hz
    split at hz
    · cases hz
    · refine ⟨_, rfl, VR.of_ofV1 hz, ?_⟩
      rename_i v hnt
      unfold ofV1 at hz
      split at hz
      · split at hz
        · cases hz; exact stor_map_sc _
        · cases hz
      · exact absurd rfl (hnt _)
      · cases hz; rfl

theorem pureV_good (S : Sim g h w.heap) {s : Sem Value} {e : Eff} (he : pureV P s = some e) {r : Result Next}
    (hr : ∀ v, s.run P w = .ok v w → r = .ok (.value v) w) : Good g h w k e r := by
  unfold pureV at he
  cases h1 : purely P s with
  | none => simp [h1] at he
  | some v =>
    cases h2 : ofV v with
    | none => simp [h1, h2] at he
    | some a =>
      simp [h1, h2] at he
      subst he
      exact good_value S (VR.of_ofV h2) (hr v (purely_run h1 w))

theorem good_move (S : Sim g h w.heap) (hgl : GlOK gl g h w.heap) (ht : VRL g h w.heap t a.tmps.toList) {o : Oper} {x : Operand} (ho : o.op = .move x ∨ o.op = .assign x) {v : AV}
    (hx : evO gl t x = some v) : Good g h w k { val := v } ((execOp a.eval o).run P w) :=
  good_value S (evO_sound hgl ht hx) (by rcases ho with ho | ho <;> simp [execOp, ho])

theorem cellsOfValue {v : Value} (hv : plainV v = true) : v.cells = #[v] := by cases v <;> simp [plainV] at hv <;> rfl

theorem good_box (S : Sim g h w.heap) (hgl : GlOK gl g h w.heap) (ht : VRL g h w.heap t a.tmps.toList) (hk : ¬ g.dom k) {o : Oper} {ty : TypeId} {x : Operand} (ho : o.op = .box ty x) {v : AV}
    (hx : evO gl t x = some v) (hst : v.cells.all AV.stor = true) : Good g h w k { val := .ptr k v.cells.length 0, al := [.cells v.cells] } ((execOp a.eval o).run P w) := by
  have hv := evO_sound hgl ht hx
  refine good_alloc S hk (hv.cells (ne_top hst)) hst (c := (a.eval x).cells) (ty := ty) (fun i hi => by simp) w.drawn (unfrozen_zero _) (v := .pointer (some ⟨w.heap.size, 0, none⟩)) (fun g' hp' hg' _ => ?_) ?_
  · obtain ⟨h1, h2, h3, h4⟩ := hg' k rfl
    exact .ptr _ _ _ _ h4 fun cs hcs => by
      rw [upd_same] at hcs; cases hcs
      exact ⟨Nat.le_refl _, fun _ => by rw [h1, h2]⟩
  · simp [execOp, ho, Instr.box, newVar, newRow, newObj, Sem.run]

theorem good_allocOp (S : Sim g h w.heap) (hk : ¬ g.dom k) {o : Oper} {ty : TypeId} (ho : o.op = .alloc ty) {z : AV} (hz : zeroA P ty = some z) :
    Good g h w k { val := .ptr k z.cells.length 0, al := [.cells z.cells] } ((execOp a.eval o).run P w) := by
  obtain ⟨v, hp, hv, hst⟩ := zeroA_sound (g := g) (h := h) (w := w) hz
  refine good_alloc S hk (hv.cells (ne_top hst)) hst (c := v.cells) (ty := ty) (fun i hi => by simp) w.drawn (unfrozen_zero _) (v := .pointer (some ⟨w.heap.size, 0, none⟩)) (fun g' hp' hg' _ => ?_) ?_
  · obtain ⟨h1, h2, h3, h4⟩ := hg' k rfl
    exact .ptr _ _ _ _ h4 fun cs hcs => by
      rw [upd_same] at hcs; cases hcs
      exact ⟨Nat.le_refl _, fun _ => by rw [h1, h2]⟩
  · simp only [execOp, ho, Instr.alloc, Sem.run_bind]
    rw [purely_run hp]
    simp [newVar, newRow, newObj, Sem.run]

theorem good_pick (S : Sim g h w.heap) (hgl : GlOK gl g h w.heap) (ht : VRL g h w.heap t a.tmps.toList) {o : Oper} {c x y : Operand} (ho : o.op = .pick c x y) {b : Bool} {v : AV}
    (hc : evO gl t c = some (.sc (.bool b))) (hx : evO gl t (if b then x else y) = some v) : Good g h w k { val := v } ((execOp a.eval o).run P w) := by
  have h1 := (evO_sound hgl ht hc).of_toV (w := .bool b) rfl
  refine good_value S (evO_sound hgl ht hx) ?_
  simp only [execOp, ho, h1, asBool, pure_bind, Sem.run_pure]
  cases b <;> simp

theorem good_load (S : Sim g h w.heap) (hgl : GlOK gl g h w.heap) (ht : VRL g h w.heap t a.tmps.toList) {o : Oper} {ty : TypeId} {x : Operand} (ho : o.op = .load ty x) {p v : AV} {rd : List Nat}
    (hx : evO gl t x = some p) (hl : ldPtr P h ty p = some (v, rd)) : Good g h w k { val := v, rd := rd } ((execOp a.eval o).run P w) := by
  obtain ⟨u, h1, h2⟩ := ldPtr_run S hl (evO_sound hgl ht hx)
  refine good_value S h2 ?_
  simp only [execOp, ho, Sem.run_bind, h1, Result.andThen_ok, Sem.run_pure]

theorem good_storeOp (S : Sim g h w.heap) (hgl : GlOK gl g h w.heap) (ht : VRL g h w.heap t a.tmps.toList) {o : Oper} {ty : TypeId} {x y : Operand} (ho : o.op = .store ty x y) {b ver off s : Nat} {v : AV} {cs : List AV}
    (hx : evO gl t x = some (.ptr b ver off)) (hy : evO gl t y = some v) (hc : curCells h b ver = some cs) (hs : szT P ty = some s) (hlen : v.cells.length = s) (hle : off + v.cells.length ≤ cs.length)
    (hst : v.cells.all AV.stor = true) : Good g h w k { val := undefA, wr := [(b, .cells (splice cs v.cells off))], rd := [b] } ((execOp a.eval o).run P w) := by
  obtain ⟨hb, hcl⟩ := cellsAt hc
  have hp := evO_sound hgl ht hx
  have hv := evO_sound hgl ht hy
  obtain ⟨w', h1, h2⟩ := good_store (P := P) (k := k) S hb (hv.cells (ne_top hst)) hst hle
  generalize hpx : a.eval x = px at hp
  cases hp with
  | ptr _ _ _ ad hd hcur =>
    obtain ⟨_, q⟩ := hcur cs hb
    have hq := q hcl
    subst hq
    refine h2 undefA undef .skip [b] _ rfl (fun _ _ => undef_VR) ?_
    have hsz : (a.eval y).cells.size = s := by
      have := (hv.cells (ne_top hst)).length
      rw [← hlen, this]; simp
    simp only [execOp, ho, hpx, Instr.storeAt, Instr.sureAddr, storeVar, bind_assoc, pure_bind]
    rw [run_andThen (show purely P (sizeOf ty) = some s from hs), Sem.run_bind]
    rw [if_neg (by simp [hsz]), h1]
    simp
end ops
end Go.Xv

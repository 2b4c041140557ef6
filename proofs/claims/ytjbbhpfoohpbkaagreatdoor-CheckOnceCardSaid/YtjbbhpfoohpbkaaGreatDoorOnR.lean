/- The argument of CheckOnce read as a tree. No condition. -/
import Derived.Test.YtjbbhpfoohpbkaaGreatDoorOnE
import Derived.Test.YtjbbhpfoohpbkaaGreatDoorXR
set_option linter.all false
open Go Go.Xv
namespace Go.Proofs.YtjbbhpfoohpbkaaGreatDoor
section
variable {H : Type} {enc : TypeId × Value → H} {W : World}
abbrev Rd {H : Type} (enc : TypeId × Value → H) (W : World) (t : TypeId) {α : Type} (cells : α → List AV) (good : α → Prop) : Prop := Reads enc PR glT W t cells good
theorem rd9 : Rd enc W 9 (fun s : ByteArray => [AV.sc (.string s)]) (fun s => s.size ≤ reachBytes) := reads_string Tryz.underlying9 (by kernel_rfl)
theorem rd3 : Rd enc W 3 (fun n : Int => [AV.sc (.int .i64 n)]) (fun n => (Lit.int .i64 n).wf = true) := reads_int Tryz.underlying3 (by kernel_rfl)
theorem rd164 : Rd enc W 164 (fun l : Leg => [sb l.a, i l.t, sb l.p]) (fun _ => True) :=
  (reads_struct (n := 3) Tryz.underlying164 (by kernel_rfl) (readsF_cons (s := 1) rd9 rfl (by kernel_rfl) (readsF_cons (s := 1) rd3 rfl (by kernel_rfl) (readsF_cons (s := 1) rd9 rfl (by kernel_rfl) readsF_nil)))).map (fun p => ⟨p.1, p.2.1, p.2.2.1⟩) (fun _ => rfl) (fun _ _ => trivial)
theorem rd119 : Rd enc W 119 (fun l : List Leg => [AV.fz false 3 (l.map Leg.av)]) (fun l => l.length * 40 ≤ reachBytes) :=
  (reads_slice (s := 3) Tryz.underlying119 (by kernel_rfl) (by kernel_rfl) (by decide) Leg.av (fun _ => rfl) rd164).map id (fun _ => rfl) (fun l h => by
    have e : Tryz.prog.bytesOf 164 = 40 := by kernel_rfl
    rw [e] at h; exact h.2)
def Trip.good (r : Trip) : Prop := r.legs.length ≤ 4000000000000 ∧ r.id.size ≤ 9000000000000000
theorem rd121 : Rd enc W 121 Trip.cells Trip.good :=
  (reads_struct (n := 5) Tryz.underlying121 (by kernel_rfl) (readsF_cons (s := 1) rd9 rfl (by kernel_rfl) (readsF_cons (s := 1) rd9 rfl (by kernel_rfl) (readsF_cons (s := 1) rd9 rfl (by kernel_rfl)
    (readsF_cons (s := 1) rd3 rfl (by kernel_rfl) (readsF_cons (s := 1) rd119 rfl (by kernel_rfl) readsF_nil)))))).map (fun p => ⟨p.1, p.2.1, p.2.2.1, p.2.2.2.1, p.2.2.2.2.1⟩) (fun _ => rfl)
    (fun p h => ⟨by have := h.2.2.2.2.1; unfold reachBytes at this; show p.2.2.2.2.1.length ≤ _; omega, by have := h.1; unfold reachBytes at this; show p.1.size ≤ _; omega⟩)
/-- Elements of which nothing is asked. -/
abbrev elP {α : Type} (cells : α → List AV) (a : α) : AV := .agg (cells a)
abbrev c211 (p : ByteArray × Int × Unit) : List AV := [AV.sc (.string p.1)] ++ ([AV.sc (.int .i64 p.2.1)] ++ [])
theorem rd211 : Rd enc W 211 c211 (fun _ => True) :=
  (reads_struct (n := 2) Tryz.underlying211 (by kernel_rfl) (readsF_cons (s := 1) rd9 rfl (by kernel_rfl) (readsF_cons (s := 1) rd3 rfl (by kernel_rfl) readsF_nil))).map id (fun _ => rfl) (fun _ _ => trivial)
theorem rd217 : Rd enc W 217 c211 (fun _ => True) :=
  (reads_struct (n := 2) Tryz.underlying217 (by kernel_rfl) (readsF_cons (s := 1) rd9 rfl (by kernel_rfl) (readsF_cons (s := 1) rd3 rfl (by kernel_rfl) readsF_nil))).map id (fun _ => rfl) (fun _ _ => trivial)
theorem rd83 : Rd enc W 83 (fun l : List AV => [AV.fz false 2 l]) (fun _ => True) :=
  (reads_slice (s := 2) Tryz.underlying83 (by kernel_rfl) (by kernel_rfl) (by decide) (elP c211) (fun _ => rfl) rd211).map (fun l => l.map (elP c211)) (fun _ => rfl) (fun _ _ => trivial)
theorem rd106 : Rd enc W 106 (fun l : List AV => [AV.fz false 2 l]) (fun _ => True) :=
  (reads_slice (s := 2) Tryz.underlying106 (by kernel_rfl) (by kernel_rfl) (by decide) (elP c211) (fun _ => rfl) rd217).map (fun l => l.map (elP c211)) (fun _ => rfl) (fun _ _ => trivial)
theorem rd85 : Rd enc W 85 Pas.cells (fun _ => True) :=
  (reads_struct (n := 8) Tryz.underlying85 (by kernel_rfl) (readsF_cons (s := 1) rd9 rfl (by kernel_rfl) (readsF_cons (s := 1) rd9 rfl (by kernel_rfl) (readsF_cons (s := 1) rd3 rfl (by kernel_rfl) (readsF_cons (s := 1) rd9 rfl (by kernel_rfl) (readsF_cons (s := 1) rd9 rfl (by kernel_rfl)
    (readsF_cons (s := 1) rd3 rfl (by kernel_rfl) (readsF_cons (s := 1) rd3 rfl (by kernel_rfl) (readsF_cons (s := 1) rd83 rfl (by kernel_rfl) readsF_nil))))))))).map
    (fun p => ⟨p.1, p.2.1, p.2.2.1, p.2.2.2.1, p.2.2.2.2.1, p.2.2.2.2.2.1, p.2.2.2.2.2.2.1, p.2.2.2.2.2.2.2.1⟩) (fun _ => rfl) (fun _ _ => trivial)
theorem rd108 : Rd enc W 108 Chg.cells (fun _ => True) :=
  (reads_struct (n := 7) Tryz.underlying108 (by kernel_rfl) (readsF_cons (s := 1) rd9 rfl (by kernel_rfl) (readsF_cons (s := 1) rd9 rfl (by kernel_rfl) (readsF_cons (s := 1) rd9 rfl (by kernel_rfl) (readsF_cons (s := 1) rd3 rfl (by kernel_rfl) (readsF_cons (s := 1) rd3 rfl (by kernel_rfl)
    (readsF_cons (s := 1) rd106 rfl (by kernel_rfl) (readsF_cons (s := 1) rd3 rfl (by kernel_rfl) readsF_nil)))))))).map
    (fun p => { key := p.1, ve := p.2.1, sy := p.2.2.1, cl := p.2.2.2.1, tm := p.2.2.2.2.1, ls := 2, ln := p.2.2.2.2.2.1, ce := p.2.2.2.2.2.2.1 }) (fun _ => rfl) (fun _ _ => trivial)
def Exc.good (x : Exc) : Prop := -9223372036854775808 ≤ x.why ∧ x.why ≤ 9223372036854775807
theorem wf_i64 {n : Int} (h : (Lit.int .i64 n).wf = true) : -9223372036854775808 ≤ n ∧ n ≤ 9223372036854775807 := by
  simp [Lit.wf] at h
  first | exact h | (have h1 : IntKind.i64.min = -9223372036854775808 := by decide
                     have h2 : IntKind.i64.max = 9223372036854775807 := by decide
                     omega)
theorem rd126 : Rd enc W 126 Exc.cells Exc.good :=
  (reads_struct (n := 2) Tryz.underlying126 (by kernel_rfl) (readsF_cons (s := 1) rd9 rfl (by kernel_rfl) (readsF_cons (s := 1) rd3 rfl (by kernel_rfl) readsF_nil))).map (fun p => ⟨p.1, p.2.1⟩) (fun _ => rfl) (fun p h => wf_i64 h.2.1)
abbrev c77 (p : ByteArray × Int × Int × ByteArray × ByteArray × Int × Int × Unit) : List AV :=
  [AV.sc (.string p.1)] ++ ([AV.sc (.int .i64 p.2.1)] ++ ([AV.sc (.int .i64 p.2.2.1)] ++ ([AV.sc (.string p.2.2.2.1)] ++ ([AV.sc (.string p.2.2.2.2.1)] ++ ([AV.sc (.int .i64 p.2.2.2.2.2.1)] ++ ([AV.sc (.int .i64 p.2.2.2.2.2.2.1)] ++ []))))))
theorem rd77 : Rd enc W 77 c77 (fun _ => True) :=
  (reads_struct (n := 7) Tryz.underlying77 (by kernel_rfl) (readsF_cons (s := 1) rd9 rfl (by kernel_rfl) (readsF_cons (s := 1) rd3 rfl (by kernel_rfl) (readsF_cons (s := 1) rd3 rfl (by kernel_rfl) (readsF_cons (s := 1) rd9 rfl (by kernel_rfl) (readsF_cons (s := 1) rd9 rfl (by kernel_rfl)
    (readsF_cons (s := 1) rd3 rfl (by kernel_rfl) (readsF_cons (s := 1) rd3 rfl (by kernel_rfl) readsF_nil)))))))).map id (fun _ => rfl) (fun _ _ => trivial)
abbrev c222 (p : (ByteArray × Int × Int × ByteArray × ByteArray × Int × Int × Unit) × Int × Unit) : List AV := c77 p.1 ++ ([AV.sc (.int .i64 p.2.1)] ++ [])
theorem rd222 : Rd enc W 222 c222 (fun _ => True) :=
  (reads_struct (n := 8) Tryz.underlying222 (by kernel_rfl) (readsF_cons (s := 7) rd77 rfl (by kernel_rfl) (readsF_cons (s := 1) rd3 rfl (by kernel_rfl) readsF_nil))).map id (fun _ => rfl) (fun _ _ => trivial)
abbrev c99 (p : Int × Int × Unit) : List AV := [AV.sc (.int .i64 p.1)] ++ ([AV.sc (.int .i64 p.2.1)] ++ [])
theorem rd99 : Rd enc W 99 c99 (fun _ => True) :=
  (reads_struct (n := 2) Tryz.underlying99 (by kernel_rfl) (readsF_cons (s := 1) rd3 rfl (by kernel_rfl) (readsF_cons (s := 1) rd3 rfl (by kernel_rfl) readsF_nil))).map id (fun _ => rfl) (fun _ _ => trivial)
abbrev c226 (p : ByteArray × ByteArray × ByteArray × (Int × Int × Unit) × Unit) : List AV := [AV.sc (.string p.1)] ++ ([AV.sc (.string p.2.1)] ++ ([AV.sc (.string p.2.2.1)] ++ (c99 p.2.2.2.1 ++ [])))
theorem rd226 : Rd enc W 226 c226 (fun _ => True) :=
  (reads_struct (n := 5) Tryz.underlying226 (by kernel_rfl) (readsF_cons (s := 1) rd9 rfl (by kernel_rfl) (readsF_cons (s := 1) rd9 rfl (by kernel_rfl) (readsF_cons (s := 1) rd9 rfl (by kernel_rfl) (readsF_cons (s := 2) rd99 rfl (by kernel_rfl) readsF_nil))))).map id (fun _ => rfl) (fun _ _ => trivial)
theorem rd25 : Rd enc W 25 (fun l : List Pas => [AV.fz false 8 (l.map Pas.av)]) (fun _ => True) :=
  (reads_slice (s := 8) Tryz.underlying25 (by kernel_rfl) (by kernel_rfl) (by decide) Pas.av (fun _ => rfl) rd85).map id (fun _ => rfl) (fun _ _ => trivial)
theorem rd26 : Rd enc W 26 (fun l : List AV => [AV.fz false 8 l]) (fun _ => True) :=
  (reads_slice (s := 8) Tryz.underlying26 (by kernel_rfl) (by kernel_rfl) (by decide) (elP c222) (fun _ => rfl) rd222).map (fun l => l.map (elP c222)) (fun _ => rfl) (fun _ _ => trivial)
theorem rd27 : Rd enc W 27 (fun l : List Trip => [AV.fz false 5 (l.map Trip.av)]) TsOK :=
  (reads_slice (s := 5) Tryz.underlying27 (by kernel_rfl) (by kernel_rfl) (by decide) Trip.av (fun _ => rfl) rd121).map id (fun _ => rfl) (fun _ h => ⟨fun t ht => h.1 t ht⟩)
theorem rd28 : Rd enc W 28 (fun l : List AV => [AV.fz false 5 l]) (fun _ => True) :=
  (reads_slice (s := 5) Tryz.underlying28 (by kernel_rfl) (by kernel_rfl) (by decide) (elP c226) (fun _ => rfl) rd226).map (fun l => l.map (elP c226)) (fun _ => rfl) (fun _ _ => trivial)
theorem rd29 : Rd enc W 29 (fun l : List Chg => [AV.fz false 7 (l.map Chg.av)]) (fun _ => True) :=
  (reads_slice (s := 7) Tryz.underlying29 (by kernel_rfl) (by kernel_rfl) (by decide) Chg.av (fun _ => rfl) rd108).map id (fun _ => rfl) (fun _ _ => trivial)
theorem rd30 : Rd enc W 30 (fun l : List Exc => [AV.fz false 2 (l.map Exc.av)]) (fun l => ∀ x ∈ l, x.good) :=
  (reads_slice (s := 2) Tryz.underlying30 (by kernel_rfl) (by kernel_rfl) (by decide) Exc.av (fun _ => rfl) rd126).map id (fun _ => rfl) (fun _ h => h.1)
def Res.good (r : Res) : Prop := TsOK r.ts ∧ ∀ x ∈ r.xs, x.good
theorem rd32 : Rd enc W 32 Res.cells Res.good :=
  (reads_struct (n := 6) Tryz.underlying32 (by kernel_rfl) (readsF_cons (s := 1) rd25 rfl (by kernel_rfl) (readsF_cons (s := 1) rd26 rfl (by kernel_rfl) (readsF_cons (s := 1) rd27 rfl (by kernel_rfl) (readsF_cons (s := 1) rd28 rfl (by kernel_rfl)
    (readsF_cons (s := 1) rd29 rfl (by kernel_rfl) (readsF_cons (s := 1) rd30 rfl (by kernel_rfl) readsF_nil))))))).map
    (fun p => { ps := p.1, rs := 8, rj := p.2.1, ts := p.2.2.1, ss := 5, st := p.2.2.2.1, cs := p.2.2.2.2.1, xs := p.2.2.2.2.2.1 }) (fun _ => rfl) (fun p h => ⟨h.2.2.1, h.2.2.2.2.2.1⟩)
end
end Go.Proofs.YtjbbhpfoohpbkaaGreatDoor

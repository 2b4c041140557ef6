/- Arguments with memory behind them read as trees of the interpreter, type by type. No condition. -/
import Derived.Test.YtjbbhpfoohpbkaaGreatDoorXF
import Derived.SizedLaws
import Derived.Handed
set_option linter.all false
namespace Go.Xv
open Go.RowKit Go.WideShapes Go.ChangeShapes

section reads
variable {H : Type} {enc : TypeId × Value → H} {P : Program} {gl : Nat → Option (List AV)} {w : World}

/-- Cells of the machine's memory, and what they are to the interpreter. -/
structure RdOK (gl : Nat → Option (List AV)) (w : World) (cs : List Value) (avs : List AV) : Prop where
  vr : VRL (oldG gl w) deadH w.heap avs cs
  st : avs.all AV.stor = true
  ok : okVL false false avs = true

theorem RdOK.append {cs cs' : List Value} {l l' : List AV} (h : RdOK gl w cs l) (h' : RdOK gl w cs' l') : RdOK gl w (cs ++ cs') (l ++ l') where
  vr := h.vr.append h'.vr
  st := by rw [List.all_append, h.st, h'.st]; rfl
  ok := by
    rw [okVL_iff]
    intro x hx
    rcases List.mem_append.1 hx with hx | hx
    · exact (okVL_iff _ _ _).1 h.ok x hx
    · exact (okVL_iff _ _ _).1 h'.ok x hx
theorem RdOK.nil : RdOK gl w [] [] := ⟨.nil, rfl, rfl⟩
theorem RdOK.length {cs : List Value} {l : List AV} (h : RdOK gl w cs l) : l.length = cs.length := h.vr.length

variable (enc P gl w) in
/-- Data of a type can be read so. -/
def Reads (t : TypeId) {α : Type} (cells : α → List AV) (good : α → Prop) : Prop :=
  ∀ (sp : Nat → Bool) (fuel : Nat) (cs : List Value) (x : DataW H × List MemPlace), DataW.trod enc P w 0 sp true fuel t cs = some x → (∀ n ∈ x.1.weights P t, n ≤ reachBytes) →
    cs.length = P.cellsOf t ∧ ∃ a, RdOK gl w cs (cells a) ∧ good a

theorem reads_string {t : TypeId} (ht : P.underlying t = some .string) (hc : P.cellsOf t = 1) : Reads enc P gl w t (fun s : ByteArray => [AV.sc (.string s)]) (fun s => s.size ≤ reachBytes) := fun sp fuel cs x h hw => by
  obtain ⟨s, rfl, rfl, _⟩ := DataW.trod_string ht h
  refine ⟨by rw [hc]; rfl, s, ⟨.cons _ _ _ _ (.sc _ rfl) .nil, rfl, rfl⟩, ?_⟩
  have := hw s.data.toList.length (List.mem_cons_self ..)
  have e : s.data.toList.length = s.size := Array.length_toList
  rwa [e] at this

theorem reads_int {t : TypeId} {k : IntKind} (ht : P.underlying t = some (.int k)) (hc : P.cellsOf t = 1) : Reads enc P gl w t (fun n : Int => [AV.sc (.int k n)]) (fun n => (Lit.int k n).wf = true) := fun sp fuel cs x h hw => by
  obtain ⟨n, rfl, rfl, hn⟩ := DataW.trod_int ht h
  exact ⟨by rw [hc]; rfl, n, ⟨.cons _ _ _ _ (.sc _ rfl) .nil, rfl, rfl⟩, hn⟩

theorem reads_bool {t : TypeId} (ht : P.underlying t = some .bool) (hc : P.cellsOf t = 1) : Reads enc P gl w t (fun b : Bool => [AV.sc (.bool b)]) (fun _ => True) := fun sp fuel cs x h hw => by
  obtain ⟨b, rfl, rfl⟩ := DataW.trod_bool ht h
  exact ⟨by rw [hc]; rfl, b, ⟨.cons _ _ _ _ (.sc _ rfl) .nil, rfl, rfl⟩, trivial⟩

theorem Reads.map {t : TypeId} {α β : Type} {cells : α → List AV} {good : α → Prop} {cells' : β → List AV} {good' : β → Prop} (h : Reads enc P gl w t cells good) (f : α → β) (hc : ∀ a, cells' (f a) = cells a) (hg : ∀ a, good a → good' (f a)) :
    Reads enc P gl w t cells' good' := fun sp fuel cs x hx hw => by
  obtain ⟨h1, a, h2, h3⟩ := h sp fuel cs x hx hw
  exact ⟨h1, f a, by rw [hc]; exact h2, hg a h3⟩

variable (enc P gl w) in
def ReadsF (fs : List Field) (off fin : Nat) {α : Type} (cells : α → List AV) (good : α → Prop) : Prop :=
  ∀ (sp : Nat → Bool) (fuel : Nat) (cs : List Value) (xs : List (DataW H × List MemPlace)), (∀ (i : Nat) (f : Field), fs[i]? = some f → DataW.trod enc P w 0 sp true fuel f.type ((cs.drop f.offset).take (P.cellsOf f.type)) = xs[i]?) → xs.length = fs.length →
    (∀ n ∈ DataW.weightsEach P (fs.map (·.type)) (xs.map (·.1)), n ≤ reachBytes) → cs.length = fin → ∃ a, RdOK gl w (cs.drop off) (cells a) ∧ good a

theorem readsF_nil {off : Nat} : ReadsF enc P gl w [] off off (fun _ : Unit => []) (fun _ => True) := fun sp fuel cs xs h hl hw hf =>
  ⟨(), by rw [List.drop_of_length_le (by omega)]; exact .nil, trivial⟩

theorem readsF_cons {f : Field} {fs : List Field} {off fin s : Nat} {α β : Type} {c1 : α → List AV} {g1 : α → Prop} {c2 : β → List AV} {g2 : β → Prop} (h1 : Reads enc P gl w f.type c1 g1) (ho : f.offset = off) (hs : P.cellsOf f.type = s)
    (h2 : ReadsF enc P gl w fs (off + s) fin c2 g2) : ReadsF enc P gl w (f :: fs) off fin (fun p : α × β => c1 p.1 ++ c2 p.2) (fun p => g1 p.1 ∧ g2 p.2) := fun sp fuel cs xs h hl hw hf => by
  cases xs with
  | nil => simp at hl
  | cons y ys =>
    have hy := h 0 f rfl
    simp only [List.getElem?_cons_zero] at hy
    rw [ho, hs] at hy
    obtain ⟨_, a, ra, ga⟩ := h1 sp fuel _ y hy fun n hn => hw n (by simp only [List.map_cons, DataW.weightsEach, List.mem_append]; exact .inl hn)
    obtain ⟨b, rb, gb⟩ := h2 sp fuel cs ys (fun i f hf => by have := h (i + 1) f (by simpa using hf); simpa using this) (by simpa using hl)
      (fun n hn => hw n (by simp only [List.map_cons, DataW.weightsEach, List.mem_append]; exact .inr hn)) hf
    refine ⟨(a, b), ?_, ga, gb⟩
    have e : cs.drop off = (cs.drop off).take s ++ cs.drop (off + s) := by
      rw [← List.drop_drop]; exact (List.take_append_drop s (cs.drop off)).symm
    rw [e]
    exact ra.append rb

theorem reads_struct {t : TypeId} {fs : Array Field} {n : Nat} {α : Type} {cells : α → List AV} {good : α → Prop} (ht : P.underlying t = some (.struct fs)) (hc : P.cellsOf t = n) (h : ReadsF enc P gl w fs.toList 0 n cells good) : Reads enc P gl w t cells good :=
  fun sp fuel cs x hx hw => by
    obtain ⟨xs, m, rfl, rfl, hl, hlen, hf⟩ := DataW.trod_struct ht hx
    have hw' : ∀ n ∈ DataW.weightsEach P (fs.toList.map (·.type)) (xs.map (·.1)), n ≤ reachBytes := fun n hn => hw n (by
      unfold DataW.weights
      simp only [ht]
      exact hn)
    obtain ⟨a, ra, ga⟩ := h sp m cs xs (fun i f hi => hf i f (by simpa using hi)) (by simpa using hlen) hw' (by rw [hl, hc])
    exact ⟨hl, a, by simpa using ra, ga⟩

theorem weightsAll_mem {e : TypeId} : ∀ {l : List (DataW H)} {i : Nat} {d : DataW H}, l[i]? = some d → ∀ n ∈ d.weights P e, n ∈ DataW.weightsAll P e l
  | [], i, d, h, _, _ => by simp at h
  | x :: l, 0, d, h, n, hn => by
    simp at h; subst h
    simp only [DataW.weightsAll, List.mem_append]; exact .inl hn
  | x :: l, i + 1, d, h, n, hn => by
    simp at h
    simp only [DataW.weightsAll, List.mem_append]
    exact .inr (weightsAll_mem h n hn)

theorem add_zero' (a : Addr) : a.add 0 = a := by simp [Addr.add]

theorem reads_slice {t e : TypeId} {s : Nat} {α : Type} {cells : α → List AV} {good : α → Prop} (ht : P.underlying t = some (.slice e)) (hc : P.cellsOf t = 1) (hs : P.cellsOf e = s) (hs0 : 0 < s) (el : α → AV) (hel : ∀ a, (el a).cells = cells a)
    (he : Reads enc P gl w e cells good) : Reads enc P gl w t (fun l : List α => [AV.fz false s (l.map el)]) (fun l => (∀ a ∈ l, good a) ∧ l.length * P.bytesOf e ≤ reachBytes) := fun sp fuel cs x hx hw => by
  rcases DataW.trod_slice ht hx with ⟨rfl, rfl⟩ | ⟨a, len, cap, elems, rest, m, rfl, rfl, rfl, hb, hle, _, hlen, hel', _, _⟩
  · exact ⟨by rw [hc]; rfl, [], ⟨.cons _ _ _ _ (.fzn false s) .nil, rfl, rfl⟩, by simp, by simp⟩
  · refine ⟨by rw [hc]; rfl, ?_⟩
    simp only at hw
    have hw2 : ∀ n, n ∈ (((elems.map (·.1)).length * P.bytesOf e + (rest.map (·.1)).length * P.bytesOf e) :: (DataW.weightsAll P e (elems.map (·.1)) ++ DataW.weightsAll P e (rest.map (·.1)))) → n ≤ reachBytes := fun n hn => hw n (by
      unfold DataW.weights
      simp only [ht]
      rw [← Nat.add_mul] at hn
      exact hn)
    -- the elements
    have one : ∀ i, i < len → ∃ (v : List Value) (b : α), v.length = s ∧ RdOK gl w v (cells b) ∧ good b ∧ ∀ j, j < s → w.cell? ((a.add (i * s)).add j) = v[j]? := fun i hi => by
      have h1 := hel' i hi
      have hei : elems[i]? = some elems[i] := List.getElem?_eq_getElem (by omega)
      rw [hei, hs] at h1
      obtain ⟨v, hv, htr⟩ := Option.bind_eq_some_iff.1 h1
      obtain ⟨_, hvl, hvc⟩ := World.cells?_some hv
      obtain ⟨_, b, hb1, hb2⟩ := he sp m v elems[i] htr fun n hn => hw2 n (by
        simp only [List.mem_cons, List.mem_append]
        exact .inr (.inl (weightsAll_mem (i := i) (by rw [List.getElem?_map, hei]; rfl) n hn)))
      exact ⟨v, b, hvl, hb1, hb2, hvc⟩
    have all : ∀ k, k ≤ len → ∃ (l : List α) (V : List Value), l.length = k ∧ V.length = k * s ∧ RdOK gl w V (l.flatMap cells) ∧ (∀ b ∈ l, good b ∧ (cells b).length = s) ∧ ∀ j, j < k * s → w.cell? (a.add j) = V[j]? := by
      intro k
      induction k with
      | zero => exact fun _ => ⟨[], [], rfl, by simp, .nil, by simp, by simp⟩
      | succ k ih =>
        intro hk
        obtain ⟨l, V, h1, h2, h3, h4, h5⟩ := ih (by omega)
        obtain ⟨v, b, e1, e2, e3, e4⟩ := one k (by omega)
        refine ⟨l ++ [b], V ++ v, by simp [h1], by rw [List.length_append, h2, e1, Nat.succ_mul], ?_, ?_, ?_⟩
        · rw [List.flatMap_append, List.flatMap_cons, List.flatMap_nil, List.append_nil]
          exact h3.append e2
        · intro x hx
          rcases List.mem_append.1 hx with hx | hx
          · exact h4 x hx
          · simp at hx; subst hx; exact ⟨e3, by rw [e2.length, e1]⟩
        · intro j hj
          rw [Nat.succ_mul] at hj
          by_cases hj2 : j < k * s
          · rw [List.getElem?_append_left (by omega)]; exact h5 j hj2
          · rw [List.getElem?_append_right (by omega), h2]
            have := e4 (j - k * s) (by omega)
            rw [← this]
            congr 1
            unfold Addr.add
            by_cases hz : k * s = 0
            · rw [hz]; simp
            · by_cases hz2 : j - k * s = 0
              · have : j = k * s := by omega
                rw [hz2, this]; simp [hz]
              · have : j ≠ 0 := by omega
                simp [hz, hz2, this]; omega
    obtain ⟨l, V, h1, h2, h3, h4, h5⟩ := all len (Nat.le_refl _)
    have hflat : (l.map el).flatMap AV.cells = l.flatMap cells := by
      rw [List.flatMap_map]
      congr 1
      funext b
      exact hel b
    have hadd : ∀ j, (a.add j).block = a.block ∧ (a.add j).off = a.off + j := fun j => by
      unfold Addr.add
      split
      · rename_i h; subst h; exact ⟨rfl, rfl⟩
      · exact ⟨rfl, rfl⟩
    refine ⟨l, ⟨.cons _ _ _ _ ?_ .nil, rfl, rfl⟩, fun b hb => (h4 b hb).1, ?_⟩
    · have := VR.fz (g := oldG gl w) (h := deadH) (hp := w.heap) false s (l.map el) V a cap (by rw [hflat]; exact h3.vr) (by rw [hflat]; exact h3.st) (fun x hx => by
        obtain ⟨b, hb, rfl⟩ := List.mem_map.1 hx
        rw [hel]; exact (h4 b hb).2) (fun hne => by
        have hl0 : 0 < len := by
          rcases Nat.eq_zero_or_pos len with e | e
          · rw [e] at h1
            exact absurd (by rw [List.length_eq_zero_iff.1 h1]; rfl) hne
          · exact e
        have hV0 : 0 < len * s := Nat.mul_pos hl0 hs0
        have hc0 := h5 0 hV0
        rw [add_zero', List.getElem?_eq_getElem (by omega)] at hc0
        obtain ⟨B, o, spot⟩ := a
        have hcell : ∀ j, j < len * s → w.cell? (⟨B, o, spot⟩ : Addr) ≠ none := fun j _ => by rw [hc0]; simp
        unfold World.cell? at hc0
        simp only at hc0
        split at hc0
        · rename_i c ty fr hheap
          split at hc0
          · cases hc0
          · rename_i hsp
            have hspn : spot = none := by cases spot with | none => rfl | some x => simp at hsp
            subst hspn
            refine ⟨B, o, rfl, .inr ⟨rfl, (Array.getElem?_eq_some_iff.1 hheap).1⟩, c, ty, fr, hheap, fun j hj => ?_⟩
            have := h5 j (by omega)
            unfold World.cell? at this
            obtain ⟨e1, e2⟩ := hadd j
            simp only at e1 e2
            rw [e1, e2, hheap] at this
            simp only at this
            split at this
            · rename_i hsp2
              exfalso
              unfold Addr.add at hsp2
              split at hsp2 <;> simp at hsp2
            · exact this
        · cases hc0) (by rw [List.length_map, h1]; exact hle) (by rw [hflat]; exact h3.ok)
      rw [List.length_map, h1] at this
      exact this
    · have := hw2 _ (List.mem_cons_self ..)
      rw [List.length_map, hlen] at this
      rw [h1]
      omega
end reads
end Go.Xv

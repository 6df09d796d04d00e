/- A text of the proof of JournalTorn: AvMk -/
import Derived.Test.YtjalgcjllddmhaaAvApp
/- Aggregates and slices that are written out; make; bytes and strings. -/
namespace Go.Av

/-- Cells with those of 'new' from 'off' on. -/
def putAt {α : Type} (l : List α) (off : Nat) (new : List α) : List α := l.take off ++ new ++ l.drop (off + new.length)

theorem putAt_set {α : Type} (l : List α) (k : Nat) (v : α) (r : List α) (h : k + 1 + r.length ≤ l.length) : putAt (l.set k v) (k + 1) r = putAt l k (v :: r) := by
  have hk : k < (l.set k v).length := by simp; omega
  unfold putAt
  rw [List.take_succ_eq_append_getElem hk, List.drop_set_of_lt (by omega), List.getElem_set_self]
  have : (l.set k v).take k = l.take k := by
    rw [List.take_set]
    exact List.set_eq_of_length_le (by simp; omega)
  rw [this]
  simp [Nat.add_assoc, Nat.add_comm 1]

theorem fold_set (off : Nat) : ∀ (vs : List Value) (n : Nat) (cs : Array Value), off + n + vs.length ≤ cs.size →
    ((vs.zipIdx n).foldl (fun cs (p : Value × Nat) => cs.setIfInBounds (off + p.2) p.1) cs).toList = putAt cs.toList (off + n) vs
  | [], n, cs, _ => by simp [putAt]
  | v :: r, n, cs, h => by
    simp only [List.zipIdx_cons, List.foldl_cons, List.length_cons] at h ⊢
    rw [fold_set off r (n + 1) _ (by simp; omega), Array.toList_setIfInBounds]
    exact putAt_set _ _ _ _ (by simp; omega)

def fillAV (place : Nat → Option (Nat × Nat)) : List AV → List (Nat × AV) → Option (List AV)
  | cs, [] => some cs
  | cs, (i, x) :: r => match place i with
    | none => none
    | some (off, size) => bif Nat.beq x.cells.length size && Nat.ble (off + size) cs.length && x.ok then forceL (putAt cs off x.cells) fun cs' => fillAV place cs' r else none

/-- Parts, as they are and as they read. -/
inductive Parts (Z : Nat → Prop) (w : World) (ρ : Loc) : List (Nat × AV) → List (Nat × Value) → Prop
  | nil : Parts Z w ρ [] []
  | cons {i : Nat} {x : AV} {v : Value} {xs : List (Nat × AV)} {vs : List (Nat × Value)} : VR Z w ρ x v → Parts Z w ρ xs vs → Parts Z w ρ ((i, x) :: xs) ((i, v) :: vs)

theorem VRs.putAt {Z : Nat → Prop} {w : World} {ρ : Loc} {xs ys : List AV} {vs us : List Value} (h : VRs Z w ρ xs vs) (k : VRs Z w ρ ys us) (off : Nat) : VRs Z w ρ (Av.putAt xs off ys) (Av.putAt vs off us) := by
  unfold Av.putAt
  rw [k.length]
  exact ((h.take _).append k).append (h.drop _)

theorem fill_rel {Z : Nat → Prop} {w : World} {ρ : Loc} {place : Nat → Option (Nat × Nat)} {ps : List (Nat × AV)} {us : List (Nat × Value)} (h : Parts Z w ρ ps us) :
    ∀ {cs cs' : List AV} {vs : Array Value}, VRs Z w ρ cs vs.toList → fillAV place cs ps = some cs' → ∃ vs', Instr.fill place vs us = some vs' ∧ VRs Z w ρ cs' vs'.toList := by
  induction h with
  | nil => intro cs cs' vs hv hf; simp [fillAV] at hf; subst hf; exact ⟨vs, by simp [Instr.fill], hv⟩
  | @cons i x v xs vs0 hx _ ih =>
    intro cs cs' vs hv hf
    unfold fillAV at hf
    cases hp : place i with
    | none => simp [hp] at hf
    | some os =>
      obtain ⟨off, size⟩ := os
      simp only [hp] at hf
      cases hc : (Nat.beq x.cells.length size && Nat.ble (off + size) cs.length && x.ok) with
      | false => simp [hc] at hf
      | true =>
        rw [hc] at hf
        simp only [cond_true, forceL_eq] at hf
        simp only [Bool.and_eq_true] at hc
        obtain ⟨⟨h1, h2⟩, h3⟩ := hc
        have h1 := Nat.eq_of_beq_eq_true h1
        have h2 := Nat.le_of_ble_eq_true h2
        have hxc := hx.cellsOf h3
        have hl1 := hxc.length
        have hl2 := hv.length
        simp only [Array.length_toList] at hl1 hl2
        have hfold := fold_set off v.cells.toList 0 vs (by simp; omega)
        simp only [Nat.add_zero] at hfold
        have hz : (v.cells.zipIdx.foldl (fun cs (p : Value × Nat) => cs.setIfInBounds (off + p.2) p.1) vs).toList = Av.putAt vs.toList off v.cells.toList := by
          rw [← hfold, ← Array.foldl_toList, Array.toList_zipIdx]
        obtain ⟨vs', hv1, hv2⟩ := ih (vs := v.cells.zipIdx.foldl (fun cs (p : Value × Nat) => cs.setIfInBounds (off + p.2) p.1) vs) (by rw [hz]; exact hv.putAt hxc off) hf
        refine ⟨vs', ?_, hv2⟩
        have hne : (decide (v.cells.size ≠ size) || decide (off + v.cells.size > vs.size)) = false := by
          simp; omega
        simp only [Instr.fill, hp]
        rw [hne]
        simpa using hv1

section
variable {P : Program} {K : St → Prop} {st : St} {ty : TypeId} {pos : String} {aft : Array Edge} {g : Option (Nat × Bool)} {d : Nat}

def partsAV (st : St) (ps : Array (Nat × Operand)) : List (Nat × AV) := ps.toList.map fun p => (p.1, st.ev p.2)

theorem parts_rel {Z : Nat → Prop} {w : World} {ρ : Loc} {a : Act} {ρ0 : Loc} (hs : SR ρ0 Z w ρ a st) (ps : Array (Nat × Operand)) (hn : ps.toList.all (fun p => opIn st.n p.2) = true) : Parts Z w ρ (partsAV st ps) ((ps.map fun (i, x) => (i, a.eval x)).toList) := by
  unfold partsAV
  rw [Array.toList_map]
  generalize ps.toList = l at hn
  induction l with
  | nil => exact .nil
  | cons p r ih =>
    simp only [List.all_cons, Bool.and_eq_true] at hn
    exact .cons (hs.ev hn.1) (ih hn.2)

/-- The places of a struct's fields: offset and size. -/
def placesOf (P : Program) (fs : Array Field) : Option (List (Nat × Nat)) := fs.toList.mapM fun f => (szT P f.type).map fun n => (f.offset, n)

theorem mapM_places {w : World} : ∀ {fs : List Field} {pl : List (Nat × Nat)}, fs.mapM (fun f => (szT P f.type).map fun n => (f.offset, n)) = some pl →
    (fs.mapM (m := Sem) fun f => Prod.mk f.offset <$> sizeOf f.type).run P w = .ok pl w
  | [], pl, h => by simp at h; subst h; rfl
  | f :: r, pl, h => by
    simp only [List.mapM_cons, Option.bind_eq_bind, Option.bind_eq_some_iff, Option.map_eq_some_iff] at h
    obtain ⟨p, ⟨n, hn, hp⟩, ps, hps, h⟩ := h
    simp at h; subst h; subst hp
    have ih := mapM_places (w := w) hps
    rw [List.mapM_cons]
    simp [run_sizeOf hn, ih]

theorem op_build {t : Nat} {ps : Array (Nat × Operand)} {fs : Array Field} {i : TypeInfo} {z : Value} {pl : List (Nat × Nat)} {cs : List AV} {L : List (Nat × AV)} (ht : P.underlying t = some (.struct fs)) (hi : P.info? t = some i) (hz : i.zero = some z)
    (hpl : placesOf P fs = some pl) (hL : partsAV st ps = L) (hf : fillAV (fun k => pl[k]?) (z.cells.toList.map .val) L = some cs) (hn : ps.toList.all (fun p => opIn st.n p.2) = true) (hd : Nat.blt d st.n = true) (hk : K (st.put d (.agg cs))) :
    OpTri P ⟨some d, .build t ps, ty, pos, aft, g⟩ K st :=
  op_pure rfl hd (fun ρ0 Z w ρ a hs => by
    have hp := parts_rel hs ps hn
    rw [hL] at hp
    have aux : ∀ l : List Value, VRs Z w ρ (l.map .val) l := by
      intro l; induction l with
      | nil => exact .nil
      | cons v r ih => exact .cons (.val v) ih
    obtain ⟨vs', h1, h2⟩ := fill_rel hp (aux z.cells.toList) hf
    have hm : (fs.mapM (m := Sem) fun f => Prod.mk f.offset <$> sizeOf f.type).run P w = .ok pl.toArray w := by
      have := mapM_places (P := P) (w := w) hpl
      rw [← Array.toArray_toList (xs := fs)]
      rw [List.mapM_toArray]
      simp [this]
    refine ⟨.agg vs', ?_, .agg (l := vs'.toList) (by simp) h2⟩
    have h1' : Instr.fill (fun k => pl.toArray[k]?) z.cells (ps.map fun (i, x) => (i, a.eval x)).toList = some vs' := by
      rw [← h1]; congr 1; funext k; simp
    simp [execOp, Instr.build, zeroValue, typeInfo, hi, hz, run_underlying ht, hm]
    simp at h1'
    rw [h1']
    simp) hk
end
end Go.Av

/- A text of the proof of JournalTorn: AvMem -/
import Derived.Test.YtjalgcjllddmhaaAvOps
import Derived.Laws.CopyRow
import Derived.Laws.AppendOwn
/- Steps of memory: a new object, a store into an own object. -/
namespace Go.Av

def Loc.upd (ρ : Loc) (id : Nat) (q : Option Nat) : Loc := fun i => if i = id then some q else ρ i

theorem Loc.upd_self (ρ : Loc) (id : Nat) (q : Option Nat) : (ρ.upd id q) id = some q := by simp [Loc.upd]
theorem Loc.upd_ne (ρ : Loc) {id i : Nat} (q : Option Nat) (h : i ≠ id) : (ρ.upd id q) i = ρ i := by simp [Loc.upd, h]

/-- A new block, or none but the draw. -/
structure Pushed (w w' : World) (o : Obj) : Prop where
  os : w'.os = w.os
  tape : w'.tape = w.tape
  output : w'.output = w.output
  heap : w'.heap = w.heap.push o

theorem Pushed.alloc (w : World) (o : Obj) : Pushed w (w.alloc o) o := ⟨rfl, rfl, rfl, rfl⟩
theorem Pushed.drew_alloc (w : World) (o : Obj) : Pushed w (w.drew.alloc o) o := ⟨rfl, rfl, rfl, rfl⟩

section
variable {ρ0 : Loc} {Z : Nat → Prop} {w w' : World} {ρ : Loc} {a : Act} {st : St}

theorem Pushed.old {o : Obj} (h : Pushed w w' o) {b : Nat} (hb : b < w.heap.size) : w'.heap[b]? = w.heap[b]? := by
  rw [h.heap, Array.getElem?_push_lt hb, Array.getElem?_eq_getElem hb]
theorem Pushed.new {o : Obj} (h : Pushed w w' o) : w'.heap[w.heap.size]? = some o := by rw [h.heap]; simp
theorem Pushed.size {o : Obj} (h : Pushed w w' o) : w'.heap.size = w.heap.size + 1 := by rw [h.heap]; simp

theorem shape_lt {b : Nat} {s : TypeId × Nat} (h : w.shape? b = some s) : b < w.heap.size := by
  unfold World.shape? at h
  rcases Nat.lt_or_ge b w.heap.size with hh | hh
  · exact hh
  · simp [Array.getElem?_eq_none hh] at h
theorem shape_same {b : Nat} (h : w'.heap[b]? = w.heap[b]?) : w'.shape? b = w.shape? b := by unfold World.shape?; rw [h]

theorem Pushed.keeps {o : Obj} (h : Pushed w w' o) (hz : ∀ b, Z b → b < w.heap.size) : Keeps Z w Z w' :=
  ⟨fun _ h => h, fun b hb => h.old (hz b hb), fun b s hs => by rw [shape_same (h.old (shape_lt hs))]; exact hs⟩

theorem OR.mono {Z' : Nat → Prop} {ρ ρ' : Loc} {o : AObj} {q : Option Nat} (hk : Keeps Z w Z' w') (hl : ρ.le ρ') (hq : ∀ b, q = some b → w'.heap[b]? = w.heap[b]? ∧ (Z' b ↔ Z b)) (h : OR Z w ρ o q) : OR Z' w' ρ' o q := by
  cases h with
  | virt he => exact .virt he
  | real b vs extra hh hv hs h1 hf =>
    obtain ⟨h2, h3⟩ := hq b rfl
    refine .real b vs extra (by rw [h2]; exact hh) (hv.mono hk ?_) hs h1 ?_
    · cases o.refs
      · exact Loc.le_refl _
      · exact hl
    · cases hfz : o.fz <;> simp only [hfz, if_true, if_false, Bool.false_eq_true] at hf ⊢
      · exact fun hz => hf (h3.1 hz)
      · exact h3.2 hf

theorem HR.own_lt {H : List AObj} (h : HR Z w ρ H) {id b : Nat} (hb : ρ id = some (some b)) : b < w.heap.size := h.lt ⟨id, hb⟩

/-- One object more. -/
def St.push (st : St) (o : AObj) : St := { st with H := st.H ++ [o] }
def St.setO (st : St) (id : Nat) (o : AObj) : St := { st with H := st.H.set id o }

/-- A new own object. -/
theorem SR.push {o : AObj} {vs extra : List Value} (hs : SR ρ0 Z w ρ a st) (hp : Pushed w w' (.cells (vs ++ extra).toArray o.ty (0, 0)))
    (hrel : VRs Z w (if o.refs then ρ else noLoc) (flat o.es) vs) (hsz : ∀ e ∈ o.es, e.cells.length = o.sz) (h1 : ∀ v ∈ vs, v.oneCell' = true) (hfz : o.fz = false) :
    SR ρ0 Z w' (ρ.upd st.H.length (some w.heap.size)) a (st.push o) ∧ Ext Z (Own ρ) w Z (Own (ρ.upd st.H.length (some w.heap.size))) w' ∧ ρ.le (ρ.upd st.H.length (some w.heap.size)) ∧ Keeps Z w Z w' := by
  have hk := hp.keeps hs.zs
  have hle : ρ.le (ρ.upd st.H.length (some w.heap.size)) := by
    intro id q hq
    have := hs.H.dom id q hq
    rw [Loc.upd_ne _ _ (by omega)]; exact hq
  refine ⟨⟨hs.rn.le hle, hs.defers, hs.size, fun t ht => (hs.fr t ht).mono hk hle, ⟨?_, ?_, ?_⟩, fun b hb => by have := hs.zs b hb; rw [hp.size]; omega⟩, ?_, hle, hk⟩
  · intro id q hq
    by_cases e : id = st.H.length
    · subst e; simp [St.push]
    · rw [Loc.upd_ne _ _ e] at hq
      have := hs.H.dom id q hq
      simp [St.push]; omega
  · intro id o' ho'
    by_cases e : id = st.H.length
    · subst e
      simp [St.push] at ho'
      subst ho'
      refine ⟨some w.heap.size, Loc.upd_self _ _ _, .real _ vs extra hp.new (hrel.mono hk ?_) hsz h1 ?_⟩
      · cases o.refs
        · exact Loc.le_refl _
        · exact hle
      · rw [hfz]
        intro hz
        exact absurd (hs.zs _ hz) (Nat.lt_irrefl _)
    · have hlt : id < st.H.length := by
        have := (List.getElem?_eq_some_iff.1 ho').1
        simp [St.push] at this; omega
      have ho2 : st.H[id]? = some o' := by simp only [St.push] at ho'; rw [List.getElem?_append_left hlt] at ho'; exact ho'
      obtain ⟨q, hq, hor⟩ := hs.H.obj id o' ho2
      exact ⟨q, by rw [Loc.upd_ne _ _ e]; exact hq, hor.mono hk hle fun b hb => ⟨hp.old (hs.H.own_lt (hb ▸ hq)), Iff.rfl⟩⟩
  · intro i j b hi hj
    by_cases e : i = st.H.length
    · by_cases e' : j = st.H.length
      · omega
      · subst e
        rw [Loc.upd_self] at hi
        rw [Loc.upd_ne _ _ e'] at hj
        have := hs.H.own_lt hj
        simp at hi; omega
    · by_cases e' : j = st.H.length
      · subst e'
        rw [Loc.upd_self] at hj
        rw [Loc.upd_ne _ _ e] at hi
        have := hs.H.own_lt hi
        simp at hj; omega
      · rw [Loc.upd_ne _ _ e] at hi
        rw [Loc.upd_ne _ _ e'] at hj
        exact hs.H.inj i j b hi hj
  · exact { toKeeps := hk, os := hp.os, tape := hp.tape, output := hp.output, size := by rw [hp.size]; omega, keep := fun b hb _ => hp.old hb, zn := fun _ h => .inl h,
            on := fun b ⟨id, hid⟩ => by
              by_cases e : id = st.H.length
              · subst e; rw [Loc.upd_self] at hid; simp at hid; right; omega
              · rw [Loc.upd_ne _ _ e] at hid; exact .inl ⟨id, hid⟩ }

/-- The world behind a store into one block of cells. -/
structure Rewrote (w w' : World) (g : Nat) (cur nw : Array Value) (t : TypeId) : Prop where
  os : w'.os = w.os
  tape : w'.tape = w.tape
  output : w'.output = w.output
  size : w'.heap.size = w.heap.size
  old : w.heap[g]? = some (.cells cur t (0, 0))
  new : w'.heap[g]? = some (.cells nw t (0, 0))
  len : nw.size = cur.size
  other : ∀ b, b ≠ g → w'.heap[b]? = w.heap[b]?

theorem Rewrote.setRow {g : Nat} {cur new : Array Value} {t : TypeId} (h : w.heap[g]? = some (.cells cur t (0, 0))) (hl : new.size = cur.size) : Rewrote w (w.setRow g new) g cur new t :=
  ⟨rfl, rfl, rfl, by simp, h, setRow_heap w g cur new t _ h, hl, fun b hb => setRow_other w g b new hb⟩

theorem Rewrote.shp {g : Nat} {cur new : Array Value} {t : TypeId} (h : Rewrote w w' g cur new t) : ∀ b s, w.shape? b = some s → w'.shape? b = some s := by
  intro b s hs
  by_cases e : b = g
  · subst e
    simp only [World.shape?, h.old] at hs
    simp only [World.shape?, h.new, h.len]; exact hs
  · rw [shape_same (h.other b e)]; exact hs

theorem Rewrote.keeps {g : Nat} {cur new : Array Value} {t : TypeId} (h : Rewrote w w' g cur new t) (hz : ¬ Z g) : Keeps Z w Z w' :=
  ⟨fun _ h => h, fun b hb => h.other b (fun e => hz (e ▸ hb)), h.shp⟩

/-- A store into an own object: its cells turn from 'vs' to 'us'. -/
theorem SR.rewrite {id g : Nat} {o o' : AObj} {cur : Array Value} {us extra : List Value} (hs : SR ρ0 Z w ρ a st) (hid : ρ id = some (some g)) (ho : st.H[id]? = some o) (hfz : o.fz = false) (hfz' : o'.fz = false) (hty : o'.ty = o.ty)
    (hw : Rewrote w w' g cur (us ++ extra).toArray o.ty) (hrel : VRs Z w (if o'.refs then ρ else noLoc) (flat o'.es) us) (hsz : ∀ e ∈ o'.es, e.cells.length = o'.sz) (h1 : ∀ v ∈ us, v.oneCell' = true) :
    SR ρ0 Z w' ρ a (st.setO id o') ∧ Ext Z (Own ρ) w Z (Own ρ) w' := by
  have hnz : ¬ Z g := by
    obtain ⟨q, hq, hor⟩ := hs.H.obj id o ho
    rw [hid] at hq; cases hq
    cases hor with
    | real _ _ _ _ _ _ _ hf => simpa [hfz] using hf
  have hk := hw.keeps hnz
  have hlt := (List.getElem?_eq_some_iff.1 ho).1
  refine ⟨⟨hs.rn, hs.defers, hs.size, fun t ht => (hs.fr t ht).mono hk (Loc.le_refl _), ⟨fun i q hq => by simpa [St.setO] using hs.H.dom i q hq, ?_, hs.H.inj⟩, fun b hb => by rw [hw.size]; exact hs.zs b hb⟩, ?_⟩
  · intro i x hx
    by_cases e : i = id
    · subst e
      simp [St.setO, hlt] at hx
      subst hx
      refine ⟨some g, hid, .real g us extra (by rw [hw.new, hty]) (hrel.mono hk (Loc.le_refl _)) hsz h1 ?_⟩
      rw [hfz']; exact hnz
    · simp only [St.setO] at hx
      rw [List.getElem?_set_ne (Ne.symm e)] at hx
      obtain ⟨q, hq, hor⟩ := hs.H.obj i x hx
      refine ⟨q, hq, hor.mono hk (Loc.le_refl _) fun b hb => ⟨hw.other b fun hbg => e (hs.H.inj i id g (by rw [hq, hb, hbg]) hid), Iff.rfl⟩⟩
  · exact { toKeeps := hk, os := hw.os, tape := hw.tape, output := hw.output, size := by rw [hw.size]; exact Nat.le_refl _,
            keep := fun b _ hn => hw.other b (fun e => hn (e ▸ ⟨id, hid⟩)), zn := fun _ h => .inl h, on := fun _ h => .inl h }

/- ### what an abstract value's cells are -/

/-- Its value is one cell, or it is an aggregate. -/
def AV.ok : AV → Bool
  | .val v => v.oneCell'
  | .dead | .tup _ => false
  | _ => true
def AV.one : AV → Bool
  | .agg _ => false
  | x => x.ok

theorem VR.one {x : AV} {v : Value} (h : VR Z w ρ x v) (hx : x.one = true) : v.oneCell' = true ∧ x.cells = [x] ∧ v.cells = #[v] := by
  cases h with
  | val v => cases v <;> simp_all [AV.one, AV.ok, AV.cells, Value.oneCell', Value.cells]
  | _ => simp_all [AV.one, AV.ok, AV.cells, Value.oneCell', Value.cells]

/-- Of cells: each is one cell. -/
theorem VRs.ones {cs : List AV} {vs : List Value} (h : VRs Z w ρ cs vs) : cs.all AV.one = true → ∀ v ∈ vs, v.oneCell' = true := by
  intro hc
  induction cs generalizing vs with
  | nil => cases h; simp
  | cons x xs ih =>
    cases h with
    | cons hv hvs =>
      simp only [List.all_cons, Bool.and_eq_true] at hc
      intro u hu
      simp only [List.mem_cons] at hu
      rcases hu with rfl | hu
      · exact (hv.one hc.1).1
      · exact ih hvs hc.2 u hu

theorem VR.cellsOf {x : AV} {v : Value} (h : VR Z w ρ x v) (hx : x.ok = true) : VRs Z w ρ x.cells v.cells.toList := by
  by_cases e : x.one = true
  · obtain ⟨_, h2, h3⟩ := h.one e
    rw [h2, h3]; exact .cons h .nil
  · cases h with
    | agg he hl => subst he; simpa [AV.cells, Value.cells] using hl
    | _ => simp_all [AV.one, AV.ok]

/-- No references to own objects in it. -/
def AV.pureB : AV → Bool
  | .val _ | .sl _ _ | .rp _ _ => true
  | .agg cs => pureL cs
  | _ => false
where
  pureL : List AV → Bool
    | [] => true
    | .val _ :: r | .sl _ _ :: r | .rp _ _ :: r => pureL r
    | _ :: _ => false

theorem VRs.pure {cs : List AV} {vs : List Value} (h : VRs Z w ρ cs vs) : AV.pureB.pureL cs = true → VRs Z w noLoc cs vs := by
  intro hc
  induction cs generalizing vs with
  | nil => cases h; exact .nil
  | cons x xs ih =>
    cases h with
    | cons hv hvs =>
      cases hv with
      | val => exact .cons (.val _) (ih hvs (by simpa [AV.pureB.pureL] using hc))
      | slnil => exact .cons .slnil (ih hvs (by simpa [AV.pureB.pureL] using hc))
      | sl a b c d e f g => exact .cons (.sl a b c d e f g) (ih hvs (by simpa [AV.pureB.pureL] using hc))
      | rp a b c => exact .cons (.rp a b c) (ih hvs (by simpa [AV.pureB.pureL] using hc))
      | _ => simp [AV.pureB.pureL] at hc

theorem VR.pure {x : AV} {v : Value} (h : VR Z w ρ x v) (hx : x.pureB = true) : VR Z w noLoc x v := by
  cases h with
  | val v => exact .val v
  | slnil => exact .slnil
  | sl a b c d e f g => exact .sl a b c d e f g
  | rp a b c => exact .rp a b c
  | agg he hl => exact .agg he (hl.pure (by simpa [AV.pureB] using hx))
  | _ => simp [AV.pureB] at hx

end

section
variable {P : Program} {K : St → Prop} {st : St} {ty : TypeId} {pos : String} {aft : Array Edge} {g : Option (Nat × Bool)} {d : Nat}

/- ### variables in memory -/

def ofVal : Value → AV
  | .agg cs => .agg (cs.toList.map .val)
  | v => .val v

theorem VR.ofVal {Z : Nat → Prop} {w : World} {ρ : Loc} (v : Value) : VR Z w ρ (Av.ofVal v) v := by
  have aux : ∀ l : List Value, VRs Z w ρ (l.map .val) l := by
    intro l; induction l with
    | nil => exact .nil
    | cons v r ih => exact .cons (.val v) ih
  cases v with
  | agg cs => exact .agg (l := cs.toList) (by simp) (aux _)
  | _ => exact .val _

theorem op_new {o : Oper} {x : AV} {t : TypeId} (ho : o.dst = some d) (hd : Nat.blt d st.n = true) (hx : x.ok = true) (h1 : x.cells.all AV.one = true)
    (h : ∀ ρ0 Z w ρ a, SR ρ0 Z w ρ a st → ∃ v, (execOp a.eval o).run P w = .ok (.value (.pointer (some ⟨w.heap.size, 0, none⟩))) (w.alloc (.cells v.cells t)) ∧ VR Z w ρ x v)
    (hk : K ((st.push (.mk t true false x.cells.length [x])).put d (.ptr st.H.length x.cells.length 0 0))) : OpTri P o K st := by
  intro ρ0 Z w ρ a hs
  obtain ⟨v, hr, hv⟩ := h ρ0 Z w ρ a hs
  have hc := hv.cellsOf hx
  obtain ⟨h2, h3, _, _⟩ := hs.push (o := .mk t true false x.cells.length [x]) (vs := v.cells.toList) (extra := []) (w' := w.alloc (.cells v.cells t)) (by simpa using Pushed.alloc w _)
    (by simpa [flat] using hc) (by simp) (hc.ones h1) rfl
  unfold Oper.wp
  rw [hr]
  refine ⟨_, Z, _, hk, ?_, h3⟩
  rw [ho]
  refine h2.put hd ?_
  have := VR.ptr (Z := Z) (w := w.alloc (.cells v.cells t)) (ρ := ρ.upd st.H.length (some w.heap.size)) (id := st.H.length) (sz := x.cells.length) (i := 0) (j := 0) (Loc.upd_self _ _ _)
  simpa using this

theorem op_box {t : TypeId} {x : Operand} {y : AV} (hx : st.ev x = y) (hn : opIn st.n x = true) (hd : Nat.blt d st.n = true) (ho : y.ok = true) (h1 : y.cells.all AV.one = true)
    (hk : K ((st.push (.mk t true false y.cells.length [y])).put d (.ptr st.H.length y.cells.length 0 0))) : OpTri P ⟨some d, .box t x, ty, pos, aft, g⟩ K st :=
  op_new rfl hd ho h1 (fun ρ0 Z w ρ a hs => ⟨a.eval x, by simp [execOp, Instr.box, newVar, newRow], hs.eva hx hn⟩) hk

theorem op_alloc {t : TypeId} {i : TypeInfo} {z : Value} {y : AV} (hi : P.info? t = some i) (hz : i.zero = some z) (hy : ofVal z = y) (hd : Nat.blt d st.n = true) (ho : y.ok = true) (h1 : y.cells.all AV.one = true)
    (hk : K ((st.push (.mk t true false y.cells.length [y])).put d (.ptr st.H.length y.cells.length 0 0))) : OpTri P ⟨some d, .alloc t, ty, pos, aft, g⟩ K st :=
  op_new rfl hd ho h1 (fun ρ0 Z w ρ a hs => ⟨z, by simp [execOp, Instr.alloc, zeroValue, typeInfo, hi, hz, newVar, newRow], hy ▸ VR.ofVal z⟩) hk

end
end Go.Av

/- A text of the proof of JournalTorn: AvCore -/
import Derived.WalkKit
import Derived.Below
/- A program logic over 'Code.wp': slots and the call's own memory hold abstract values. -/
namespace Go.Av

/-- An abstract value. 'sl': a slice that is only read, by value. 'osl', 'ptr': into an own object. 'rp': a pointer to cells that are only read. -/
inductive AV where
  | val (v : Value)
  | ptr (id sz i j : Nat)
  | osl (id sz i len : Nat)
  | sl (sz : Nat) (es : List AV)
  | agg (cs : List AV)
  | tup (vs : List AV)
  | fn (f : Fn) (first cap : List AV)
  | rp (cs : List AV) (j : Nat)
  | dead
  deriving Inhabited

def AV.cells : AV → List AV
  | .agg cs => cs
  | x => [x]

/-- The cells of elements, one after the other. -/
def flat : List AV → List AV
  | [] => []
  | e :: r => e.cells ++ flat r

/-- An own object: a row of elements, each of 'sz' cells. 'refs': its cells may refer to own objects. 'fz': it is never written again. -/
structure AObj where
  ty : TypeId
  refs : Bool
  fz : Bool
  sz : Nat
  es : List AV
  deriving Inhabited

abbrev Loc := Nat → Option (Option Nat)
def noLoc : Loc := fun _ => none

mutual
inductive VR (Z : Nat → Prop) (w : World) : Loc → AV → Value → Prop
  | val {ρ} (v : Value) : VR Z w ρ (.val v) v
  | dead {ρ} (v : Value) : VR Z w ρ .dead v
  | ptr {ρ : Loc} {id b sz i j : Nat} : ρ id = some (some b) → VR Z w ρ (.ptr id sz i j) (.pointer (some ⟨b, i * sz + j, none⟩))
  | osl {ρ : Loc} {id sz i len cap : Nat} {q : Option Nat} {a : Option Addr} : ρ id = some q → len ≤ cap →
      (cap = 0 ∨ ∃ b n t, q = some b ∧ a = some ⟨b, i * sz, none⟩ ∧ w.shape? b = some (t, n) ∧ i * sz + cap * sz ≤ n) →
      VR Z w ρ (.osl id sz i len) (.slice a len cap)
  | slnil {ρ} {sz cap : Nat} {a : Option Addr} : VR Z w ρ (.sl sz []) (.slice a 0 cap)
  | sl {ρ} {sz n cap b off : Nat} {es : List AV} {vs : List Value} : es ≠ [] → n = es.length → Z b → (∀ e ∈ es, e.cells.length = sz) → n ≤ cap →
      (∀ (k : Nat) (v : Value), vs[k]? = some v → v.oneCell' = true ∧ w.cell? ⟨b, off + k, none⟩ = some v) → VRs Z w noLoc (flat es) vs →
      VR Z w ρ (.sl sz es) (.slice (some ⟨b, off, none⟩) n cap)
  | agg {ρ} {cs : List AV} {vs : Array Value} {l : List Value} : vs = l.toArray → VRs Z w ρ cs l → VR Z w ρ (.agg cs) (.agg vs)
  | tup {ρ} {cs : List AV} {vs : Array Value} {l : List Value} : vs = l.toArray → VRs Z w ρ cs l → VR Z w ρ (.tup cs) (.tuple vs)
  | fn {ρ} {f : Fn} {xs ys : List AV} {vs us : Array Value} {l m : List Value} : vs = l.toArray → us = m.toArray → VRs Z w ρ xs l → VRs Z w ρ ys m → VR Z w ρ (.fn f xs ys) (.func f vs us)
  | rp {ρ} {b off j : Nat} {cs : List AV} {vs : List Value} : Z b →
      (∀ (k : Nat) (v : Value), vs[k]? = some v → v.oneCell' = true ∧ w.cell? ⟨b, off + k, none⟩ = some v) → VRs Z w noLoc cs vs →
      VR Z w ρ (.rp cs j) (.pointer (some ⟨b, off + j, none⟩))
inductive VRs (Z : Nat → Prop) (w : World) : Loc → List AV → List Value → Prop
  | nil {ρ} : VRs Z w ρ [] []
  | cons {ρ} {x : AV} {v : Value} {xs : List AV} {vs : List Value} : VR Z w ρ x v → VRs Z w ρ xs vs → VRs Z w ρ (x :: xs) (v :: vs)
end

def Loc.le (ρ ρ' : Loc) : Prop := ∀ id q, ρ id = some q → ρ' id = some q
theorem Loc.le_refl (ρ : Loc) : ρ.le ρ := fun _ _ h => h
theorem noLoc_le (ρ : Loc) : noLoc.le ρ := fun _ _ h => by simp [noLoc] at h

/-- What later steps keep of memory. -/
structure Keeps (Z : Nat → Prop) (w : World) (Z' : Nat → Prop) (w' : World) : Prop where
  zz : ∀ b, Z b → Z' b
  zk : ∀ b, Z b → w'.heap[b]? = w.heap[b]?
  shp : ∀ b s, w.shape? b = some s → w'.shape? b = some s

theorem Keeps.refl (Z : Nat → Prop) (w : World) : Keeps Z w Z w := ⟨fun _ h => h, fun _ _ => rfl, fun _ _ h => h⟩
theorem Keeps.trans {Z Z1 Z2 : Nat → Prop} {w w1 w2 : World} (h : Keeps Z w Z1 w1) (k : Keeps Z1 w1 Z2 w2) : Keeps Z w Z2 w2 :=
  ⟨fun b hb => k.zz b (h.zz b hb), fun b hb => (k.zk b (h.zz b hb)).trans (h.zk b hb), fun b s hs => k.shp b s (h.shp b s hs)⟩

theorem cell_keep {w w' : World} {b o : Nat} (h : w'.heap[b]? = w.heap[b]?) : w'.cell? ⟨b, o, none⟩ = w.cell? ⟨b, o, none⟩ := by
  simp [World.cell?, h]

mutual
theorem VR.mono {Z : Nat → Prop} {w : World} {Z' : Nat → Prop} {w' : World} (hk : Keeps Z w Z' w') {ρ : Loc} {x : AV} {v : Value} :
    VR Z w ρ x v → ∀ {ρ' : Loc}, ρ.le ρ' → VR Z' w' ρ' x v
  | .val v => fun _ => .val v
  | .dead v => fun _ => .dead v
  | .ptr h => fun hl => .ptr (hl _ _ h)
  | .osl h hc hr => fun hl => .osl (hl _ _ h) hc (hr.imp id fun ⟨b, n, t, h1, h2, h3, h4⟩ => ⟨b, n, t, h1, h2, hk.shp _ _ h3, h4⟩)
  | .slnil => fun _ => .slnil
  | .sl h0 hn hz hs hc hm hv => fun _ => .sl h0 hn (hk.zz _ hz) hs hc (fun k v hkv => ⟨(hm k v hkv).1, by rw [cell_keep (hk.zk _ hz)]; exact (hm k v hkv).2⟩) (VRs.mono hk hv (Loc.le_refl _))
  | .agg he hv => fun hl => .agg he (VRs.mono hk hv hl)
  | .tup he hv => fun hl => .tup he (VRs.mono hk hv hl)
  | .fn he hf hv hu => fun hl => .fn he hf (VRs.mono hk hv hl) (VRs.mono hk hu hl)
  | .rp hz hm hv => fun _ => .rp (hk.zz _ hz) (fun k v hkv => ⟨(hm k v hkv).1, by rw [cell_keep (hk.zk _ hz)]; exact (hm k v hkv).2⟩) (VRs.mono hk hv (Loc.le_refl _))
theorem VRs.mono {Z : Nat → Prop} {w : World} {Z' : Nat → Prop} {w' : World} (hk : Keeps Z w Z' w') {ρ : Loc} {xs : List AV} {vs : List Value} :
    VRs Z w ρ xs vs → ∀ {ρ' : Loc}, ρ.le ρ' → VRs Z' w' ρ' xs vs
  | .nil => fun _ => .nil
  | .cons h hs => fun hl => .cons (VR.mono hk h hl) (VRs.mono hk hs hl)
end

/- References turned by a partial map of ids. -/
mutual
def AV.ren (m : Nat → Option Nat) : AV → AV
  | .ptr id sz i j => match m id with | some k => .ptr k sz i j | none => .dead
  | .osl id sz i len => match m id with | some k => .osl k sz i len | none => .dead
  | .agg cs => .agg (AV.renL m cs)
  | .tup cs => .tup (AV.renL m cs)
  | .fn f xs ys => .fn f (AV.renL m xs) (AV.renL m ys)
  | x => x
def AV.renL (m : Nat → Option Nat) : List AV → List AV
  | [] => []
  | x :: r => x.ren m :: AV.renL m r
end

/-- 'σ' is 'ρ' behind the map: where m takes id to k, σ k is ρ id. -/
def Renames (m : Nat → Option Nat) (ρ σ : Loc) : Prop := ∀ id k q, m id = some k → ρ id = some q → σ k = some q

theorem Renames.comp {m k : Nat → Option Nat} {ρ σ τ : Loc} (h : Renames m ρ σ) (h2 : Renames k σ τ) : Renames (fun i => (m i).bind k) ρ τ := by
  intro i j q hm hq
  cases hi : m i with
  | none => simp [hi] at hm
  | some x => simp [hi] at hm; exact h2 x j q hm (h i x q hi hq)
theorem Renames.le {m : Nat → Option Nat} {ρ σ τ : Loc} (h : Renames m ρ σ) (h2 : σ.le τ) : Renames m ρ τ := fun i j q hm hq => h2 _ _ (h i j q hm hq)
theorem Renames.id (ρ : Loc) : Renames some ρ ρ := fun i j q hm hq => by cases hm; exact hq

mutual
theorem VR.ren {Z : Nat → Prop} {w : World} {m : Nat → Option Nat} {ρ : Loc} {x : AV} {v : Value} : VR Z w ρ x v → ∀ {σ : Loc}, Renames m ρ σ → VR Z w σ (x.ren m) v
  | .val v => fun _ => .val v
  | .dead v => fun _ => .dead v
  | .ptr (id := id) h => fun hr => by
    unfold AV.ren; cases hm : m id with
    | none => exact .dead _
    | some k => exact .ptr (hr _ _ _ hm h)
  | .osl (id := id) h hc hq => fun hr => by
    unfold AV.ren; cases hm : m id with
    | none => exact .dead _
    | some k => exact .osl (hr _ _ _ hm h) hc hq
  | .slnil => fun _ => .slnil
  | .sl h0 hn hz hs hc hm hv => fun _ => .sl h0 hn hz hs hc hm hv
  | .agg he hv => fun hr => by unfold AV.ren; exact .agg he (VRs.ren hv hr)
  | .tup he hv => fun hr => by unfold AV.ren; exact .tup he (VRs.ren hv hr)
  | .fn he hf hv hu => fun hr => by unfold AV.ren; exact .fn he hf (VRs.ren hv hr) (VRs.ren hu hr)
  | .rp hz hm hv => fun _ => .rp hz hm hv
theorem VRs.ren {Z : Nat → Prop} {w : World} {m : Nat → Option Nat} {ρ : Loc} {xs : List AV} {vs : List Value} : VRs Z w ρ xs vs → ∀ {σ : Loc}, Renames m ρ σ → VRs Z w σ (AV.renL m xs) vs
  | .nil => fun _ => by unfold AV.renL; exact .nil
  | .cons h hs => fun hr => by unfold AV.renL; exact .cons (VR.ren h hr) (VRs.ren hs hr)
end

theorem VRs.length {Z : Nat → Prop} {w : World} {ρ : Loc} : ∀ {xs : List AV} {vs : List Value}, VRs Z w ρ xs vs → vs.length = xs.length
  | _, _, .nil => rfl
  | _, _, .cons _ h => by simp [h.length]
theorem VRs.get {Z : Nat → Prop} {w : World} {ρ : Loc} : ∀ {xs : List AV} {vs : List Value}, VRs Z w ρ xs vs → ∀ (i : Nat) (x : AV), xs[i]? = some x → ∃ v, vs[i]? = some v ∧ VR Z w ρ x v
  | _, _, .nil, i, x, h => by simp at h
  | _, _, .cons hv h, 0, x, hx => by simp at hx; exact ⟨_, rfl, hx ▸ hv⟩
  | _, _, .cons hv h, i + 1, x, hx => by simpa using h.get i x (by simpa using hx)
theorem VRs.append {Z : Nat → Prop} {w : World} {ρ : Loc} : ∀ {xs : List AV} {vs : List Value}, VRs Z w ρ xs vs → ∀ {ys us}, VRs Z w ρ ys us → VRs Z w ρ (xs ++ ys) (vs ++ us)
  | _, _, .nil, _, _, h => h
  | _, _, .cons hv h, _, _, k => .cons hv (h.append k)
theorem VRs.split {Z : Nat → Prop} {w : World} {ρ : Loc} : ∀ {xs ys : List AV} {vs : List Value}, VRs Z w ρ (xs ++ ys) vs → VRs Z w ρ xs (vs.take xs.length) ∧ VRs Z w ρ ys (vs.drop xs.length)
  | [], _, _, h => ⟨.nil, h⟩
  | x :: xs, ys, _, .cons hv h => ⟨.cons hv h.split.1, h.split.2⟩
theorem VRs.set {Z : Nat → Prop} {w : World} {ρ : Loc} : ∀ {xs : List AV} {vs : List Value}, VRs Z w ρ xs vs → ∀ (i : Nat) {x : AV} {v : Value}, VR Z w ρ x v → VRs Z w ρ (xs.set i x) (vs.set i v)
  | _, _, .nil, i, x, v, h => by simpa using VRs.nil
  | _, _, .cons _ h, 0, x, v, hx => .cons hx h
  | _, _, .cons hv h, i + 1, x, v, hx => .cons hv (h.set i hx)
theorem VRs.take {Z : Nat → Prop} {w : World} {ρ : Loc} : ∀ {xs : List AV} {vs : List Value}, VRs Z w ρ xs vs → ∀ (n : Nat), VRs Z w ρ (xs.take n) (vs.take n)
  | _, _, _, 0 => .nil
  | _, _, .nil, n + 1 => .nil
  | _, _, .cons hv h, n + 1 => .cons hv (h.take n)
theorem VRs.drop {Z : Nat → Prop} {w : World} {ρ : Loc} : ∀ {xs : List AV} {vs : List Value}, VRs Z w ρ xs vs → ∀ (n : Nat), VRs Z w ρ (xs.drop n) (vs.drop n)
  | _, _, h, 0 => h
  | _, _, .nil, n + 1 => .nil
  | _, _, .cons hv h, n + 1 => h.drop n

/- ### Own objects -/

/-- The cells of an object, at the place 'q'. 'extra': the spare room of a slice. -/
inductive OR (Z : Nat → Prop) (w : World) (ρ : Loc) (o : AObj) : Option Nat → Prop
  | virt : o.es = [] → OR Z w ρ o none
  | real (b : Nat) (vs extra : List Value) : w.heap[b]? = some (.cells (vs ++ extra).toArray o.ty (0, 0)) →
      VRs Z w (if o.refs then ρ else noLoc) (flat o.es) vs → (∀ e ∈ o.es, e.cells.length = o.sz) → (∀ v ∈ vs, v.oneCell' = true) → (if o.fz then Z b else ¬ Z b) → OR Z w ρ o (some b)

structure HR (Z : Nat → Prop) (w : World) (ρ : Loc) (H : List AObj) : Prop where
  dom : ∀ id q, ρ id = some q → id < H.length
  obj : ∀ id o, H[id]? = some o → ∃ q, ρ id = some q ∧ OR Z w ρ o q
  inj : ∀ i j b, ρ i = some (some b) → ρ j = some (some b) → i = j

def Own (ρ : Loc) (b : Nat) : Prop := ∃ id, ρ id = some (some b)

theorem HR.lt {Z : Nat → Prop} {w : World} {ρ : Loc} {H : List AObj} (h : HR Z w ρ H) {b : Nat} (hb : Own ρ b) : b < w.heap.size := by
  obtain ⟨id, hid⟩ := hb
  have hl := h.dom _ _ hid
  obtain ⟨q, hq, ho⟩ := h.obj id H[id] (by simp [hl])
  rw [hid] at hq; cases hq
  cases ho with
  | real _ vs extra hh => exact (Array.getElem?_eq_some_iff.1 hh).1

/-- What a stretch of the run leaves of the world. -/
structure Ext (Z O : Nat → Prop) (w : World) (Z' O' : Nat → Prop) (w' : World) : Prop extends Keeps Z w Z' w' where
  os : w'.os = w.os
  tape : w'.tape = w.tape
  output : w'.output = w.output
  size : w.heap.size ≤ w'.heap.size
  keep : ∀ b, b < w.heap.size → ¬ O b → w'.heap[b]? = w.heap[b]?
  zn : ∀ b, Z' b → Z b ∨ O b ∨ w.heap.size ≤ b
  on : ∀ b, O' b → O b ∨ w.heap.size ≤ b

theorem Ext.refl (Z O : Nat → Prop) (w : World) : Ext Z O w Z O w :=
  { toKeeps := Keeps.refl Z w, os := rfl, tape := rfl, output := rfl, size := Nat.le_refl _, keep := fun _ _ _ => rfl, zn := fun _ h => .inl h, on := fun _ h => .inl h }

theorem Ext.trans {Z O Z1 O1 Z2 O2 : Nat → Prop} {w w1 w2 : World} (h : Ext Z O w Z1 O1 w1) (k : Ext Z1 O1 w1 Z2 O2 w2) : Ext Z O w Z2 O2 w2 where
  toKeeps := h.toKeeps.trans k.toKeeps
  os := k.os.trans h.os
  tape := k.tape.trans h.tape
  output := k.output.trans h.output
  size := Nat.le_trans h.size k.size
  keep := fun b hb hn => (k.keep b (Nat.lt_of_lt_of_le hb h.size) (fun h1 => (h.on b h1).elim hn (fun hh => by omega))).trans (h.keep b hb hn)
  zn := fun b hb => (k.zn b hb).elim (fun h1 => h.zn b h1) (fun h1 => h1.elim (fun h2 => .inr (h.on b h2)) (fun h2 => .inr (.inr (Nat.le_trans h.size h2))))
  on := fun b hb => (k.on b hb).elim (fun h1 => h.on b h1) (fun h1 => .inr (Nat.le_trans h.size h1))

theorem beq_no {a b : Nat} (h : ¬ a = b) : Nat.beq a b = false := by
  cases e : Nat.beq a b with
  | false => rfl
  | true => exact absurd (Nat.eq_of_beq_eq_true e) h
theorem VR.val_eq {Z : Nat → Prop} {w : World} {ρ : Loc} {v u : Value} (h : VR Z w ρ (.val v) u) : u = v := by cases h; rfl

/- ### States -/

def get : List (Nat × AV) → Nat → AV
  | [], _ => .dead
  | (k, x) :: r, t => bif Nat.beq k t then x else get r t

structure St where
  n : Nat
  m : Nat → Option Nat
  fr : List (Nat × AV)
  H : List AObj

def St.put (st : St) (d : Nat) (x : AV) : St := { st with fr := (d, x) :: st.fr }

def St.ev (st : St) : Operand → AV
  | .tmp t => get st.fr t
  | .const v => .val v
  | .global g => .val (.pointer (some ⟨g, 0, none⟩))
  | .func f => .fn (.func f) [] []

structure SR (ρ0 : Loc) (Z : Nat → Prop) (w : World) (ρ : Loc) (a : Act) (st : St) : Prop where
  rn : Renames st.m ρ0 ρ
  defers : a.defers = []
  size : a.tmps.size = st.n
  fr : ∀ t, t < st.n → VR Z w ρ (get st.fr t) (a.tmps.getD t undef)
  H : HR Z w ρ st.H
  zs : ∀ b, Z b → b < w.heap.size

/-- Operands whose slots are in range. -/
def opIn (n : Nat) : Operand → Bool
  | .tmp t => Nat.blt t n
  | _ => true

theorem SR.ev {ρ0 : Loc} {Z : Nat → Prop} {w : World} {ρ : Loc} {a : Act} {st : St} (h : SR ρ0 Z w ρ a st) {x : Operand} (hx : opIn st.n x = true) : VR Z w ρ (st.ev x) (a.eval x) := by
  cases x with
  | tmp t => exact h.fr t (by simpa [opIn, Nat.blt_eq] using hx)
  | const v => exact .val v
  | global g => exact .val _
  | func f => exact .fn (l := []) (m := []) rfl rfl .nil .nil

theorem SR.put {ρ0 : Loc} {Z : Nat → Prop} {w : World} {ρ : Loc} {a : Act} {st : St} (h : SR ρ0 Z w ρ a st) {d : Nat} {x : AV} {v : Value} (hd : Nat.blt d st.n = true) (hv : VR Z w ρ x v) : SR ρ0 Z w ρ (a.put (some d) v) (st.put d x) where
  rn := h.rn
  defers := h.defers
  size := by simp [Act.put, h.size, St.put]
  fr := by
    intro t ht
    have hd' : d < a.tmps.size := by rw [h.size]; simpa [Nat.blt_eq] using hd
    by_cases e : d = t
    · subst e; simpa [St.put, get, Act.put, hd'] using hv
    · have : Nat.beq d t = false := beq_no e
      simpa [St.put, get, this, Act.put, Array.getElem?_setIfInBounds_ne e] using h.fr t ht
  H := h.H
  zs := h.zs

/- ### The judgements -/

def QL (ρ0 : Loc) (Z : Nat → Prop) (w : World) (ρ : Loc) (Q : Exit → St → Prop) (e : Exit) (a' : Act) (w' : World) : Prop :=
  ∃ st' Z' ρ', Q e st' ∧ SR ρ0 Z' w' ρ' a' st' ∧ Ext Z (Own ρ) w Z' (Own ρ') w'

def Tri (P : Program) (c : Code) (Q : Exit → St → Prop) (st : St) : Prop :=
  ∀ ρ0 Z w ρ a, SR ρ0 Z w ρ a st → c.wp P (QL ρ0 Z w ρ Q) a w

def TriOps (P : Program) (ops : Array Oper) (Q : Exit → St → Prop) (l : List Oper) (st : St) : Prop :=
  ∀ ρ0 Z w ρ a, SR ρ0 Z w ρ a st → wpList P ops (QL ρ0 Z w ρ Q) l a w

def OpTri (P : Program) (o : Oper) (K : St → Prop) (st : St) : Prop :=
  ∀ ρ0 Z w ρ a, SR ρ0 Z w ρ a st → o.wp P a w (fun a' w' => ∃ st' Z' ρ', K st' ∧ SR ρ0 Z' w' ρ' a' st' ∧ Ext Z (Own ρ) w Z' (Own ρ') w') (fun _ _ _ => False)

theorem QL.ext {ρ0 : Loc} {Z : Nat → Prop} {w : World} {ρ : Loc} {Z1 : Nat → Prop} {w1 : World} {ρ1 : Loc} (he : Ext Z (Own ρ) w Z1 (Own ρ1) w1) {Q : Exit → St → Prop} {e : Exit} {a : Act} {w' : World} (h : QL ρ0 Z1 w1 ρ1 Q e a w') : QL ρ0 Z w ρ Q e a w' :=
  let ⟨st', Z', ρ', hq, hs, hx⟩ := h; ⟨st', Z', ρ', hq, hs, he.trans hx⟩

theorem Oper.wp_post {P : Program} {o : Oper} {a : Act} {w : World} {K K' : Act → World → Prop} {Q Q' : Exit → Act → World → Prop} (h : o.wp P a w K Q)
    (hk : ∀ a w, K a w → K' a w) (hq : ∀ e a w, Q e a w → Q' e a w) : o.wp P a w K' Q' := by
  unfold Oper.wp at *
  generalize (execOp a.eval o).run P w = r at *
  cases r with
  | ok n w' =>
    cases n <;> simp only [Oper.upon] at h ⊢ <;>
      first
        | exact hk _ _ h
        | exact Calls.mono h (fun e w'' he => by cases e <;> first | exact hk _ _ he | exact hq _ _ _ he | exact (let ⟨a, w, hh⟩ := he; ⟨a, w, hq _ _ _ hh⟩))
        | exact Rows.mono h (fun _ _ he => hk _ _ he)
  | halt x w' => cases x <;> simp only [Oper.upon] at h ⊢ <;> first | exact hq _ _ _ h | exact h

theorem wpList_post {P : Program} {ops : Array Oper} {Q Q' : Exit → Act → World → Prop} (hq : ∀ e a w, Q e a w → Q' e a w) : ∀ (l : List Oper) (a : Act) (w : World), wpList P ops Q l a w → wpList P ops Q' l a w
  | [], a, w, h => hq _ _ _ h
  | o :: rest, a, w, h => by
    unfold wpList at *
    split
    · rename_i hw; rw [if_pos hw] at h
      exact h.imp (fun h => Oper.wp_post h (fun a w => wpList_post hq rest a w) hq) (fun ⟨h1, a, w, h2⟩ => ⟨h1, a, w, hq _ _ _ h2⟩)
    · rename_i hw; rw [if_neg hw] at h
      exact wpList_post hq rest _ _ h

section
variable {P : Program} {Q : Exit → St → Prop} {st : St}

theorem Tri.post {c : Code} {Q' : Exit → St → Prop} (h : Tri P c Q st) (hq : ∀ e s, Q e s → Q' e s) : Tri P c Q' st :=
  fun ρ0 Z w ρ a hs => wp_mono (h ρ0 Z w ρ a hs) fun _ _ _ ⟨st', Z', ρ', q, r⟩ => ⟨st', Z', ρ', hq _ _ q, r⟩

def seqQ (K : St → Prop) (Q : Exit → St → Prop) : Exit → St → Prop
  | .normal, s => K s
  | e, s => Q e s

theorem tri_seq {x y : Code} (h : Tri P x (seqQ (Tri P y Q) Q) st) : Tri P (.seq x y) Q st := by
  intro ρ0 Z w ρ a hs
  refine wp_seq (wp_mono (h ρ0 Z w ρ a hs) ?_)
  rintro e a' w' ⟨st', Z', ρ', q, hs', he⟩
  cases e with
  | normal => exact wp_mono (q ρ0 Z' w' ρ' a' hs') fun _ _ _ h => QL.ext he h
  | _ => exact ⟨st', Z', ρ', q, hs', he⟩

theorem tri_skip (h : Q .normal st) : Tri P .skip Q st := fun ρ0 Z w ρ _ hs => wp_skip ⟨st, Z, ρ, h, hs, Ext.refl _ _ _⟩
theorem tri_label {l : Nat} (h : Q .normal st) : Tri P (.label l) Q st := fun ρ0 Z w ρ _ hs => wp_label ⟨st, Z, ρ, h, hs, Ext.refl _ _ _⟩
theorem tri_exit {id : Nat} (h : Q (.exit id) st) : Tri P (.exit id) Q st := fun ρ0 Z w ρ _ hs => wp_exit ⟨st, Z, ρ, h, hs, Ext.refl _ _ _⟩
theorem tri_ret (h : Q .ret st) : Tri P .ret Q st := fun ρ0 Z w ρ _ hs => wp_ret ⟨st, Z, ρ, h, hs, Ext.refl _ _ _⟩

theorem tri_cond {c : Operand} {x y : Code} {t : Bool} (hc : st.ev c = .val (.bool t)) (hn : opIn st.n c = true) (ht : t = true → Tri P x Q st) (hf : t = false → Tri P y Q st) : Tri P (.cond c x y) Q st := by
  intro ρ0 Z w ρ a hs
  have hv := hs.ev hn
  rw [hc] at hv
  have hv' : a.eval c = .bool t := hv.val_eq
  exact wp_cond_split hv' (fun h => ht h ρ0 Z w ρ a hs) (fun h => hf h ρ0 Z w ρ a hs)

def blockQ (id : Nat) (Q : Exit → St → Prop) : Exit → St → Prop
  | .exit id', s => bif Nat.beq id' id then Q .normal s else Q (.exit id') s
  | e, s => Q e s

theorem tri_block {id : Nat} {c : Code} (h : Tri P c (blockQ id Q) st) : Tri P (.block id c) Q st := by
  intro ρ0 Z w ρ a hs
  refine wp_block (wp_mono (h ρ0 Z w ρ a hs) ?_)
  rintro e a' w' ⟨st', Z', ρ', q, r⟩
  cases e with
  | exit id' =>
    by_cases e : id' = id
    · subst e; simp only [blockQ, Nat.beq_refl, cond_true] at q; simp only [Exit.inBlock, if_true]; exact ⟨st', Z', ρ', q, r⟩
    · have : Nat.beq id' id = false := beq_no e
      simp only [blockQ, this, cond_false] at q; simp only [Exit.inBlock, e, if_false]; exact ⟨st', Z', ρ', q, r⟩
  | _ => exact ⟨st', Z', ρ', q, r⟩

/-- The state 's' tells no more than 'st' (a step of the proof alone: memory is as it was). -/
def Le (st s : St) : Prop := ∀ ρ0 Z w ρ a, SR ρ0 Z w ρ a st → ∃ Z' ρ', SR ρ0 Z' w ρ' a s ∧ Ext Z (Own ρ) w Z' (Own ρ') w

theorem Le.refl (st : St) : Le st st := fun ρ0 Z w ρ _ h => ⟨Z, ρ, h, Ext.refl _ _ _⟩
theorem Le.of_eq {s t : St} (h : s = t) : Le s t := h ▸ Le.refl s
theorem Le.trans {a b c : St} (h : Le a b) (k : Le b c) : Le a c := fun ρ0 Z w ρ ac hs =>
  let ⟨Z1, ρ1, h1, e1⟩ := h ρ0 Z w ρ ac hs; let ⟨Z2, ρ2, h2, e2⟩ := k ρ0 Z1 w ρ1 ac h1; ⟨Z2, ρ2, h2, e1.trans e2⟩

theorem tri_le {c : Code} {s : St} (hl : Le st s) (h : Tri P c Q s) : Tri P c Q st := fun ρ0 Z w ρ a hs =>
  let ⟨Z1, ρ1, h1, e1⟩ := hl ρ0 Z w ρ a hs; wp_mono (h ρ0 Z1 w ρ1 a h1) fun _ _ _ q => QL.ext e1 q

theorem ops_le {ops : Array Oper} {l : List Oper} {s : St} (hl : Le st s) (h : TriOps P ops Q l s) : TriOps P ops Q l st := fun ρ0 Z w ρ a hs =>
  let ⟨Z1, ρ1, h1, e1⟩ := hl ρ0 Z w ρ a hs; wpList_post (fun _ _ _ q => QL.ext e1 q) _ _ _ (h ρ0 Z1 w ρ1 a h1)

/-- A loop: at its head the state is 'S x' for some x; each round lowers μ. -/
theorem tri_loop {X : Type} (S : X → St) (μ : X → Nat) {c : Code} (x : X) (hst : Le st (S x))
    (round : ∀ x, Tri P c (seqQ (fun s => ∃ x', μ x' < μ x ∧ Le s (S x')) Q) (S x)) : Tri P (.loop c) Q st := by
  refine tri_le hst ?_
  intro ρ0 Z w ρ a hs b k cs
  have key : ∀ n x Z1 w1 ρ1 a1, μ x = n → SR ρ0 Z1 w1 ρ1 a1 (S x) → Ext Z (Own ρ) w Z1 (Own ρ1) w1 →
      ∃ e a' w', QL ρ0 Z w ρ Q e a' w' ∧ Arrives P (lone (b.at a1 (.code c :: .inLoop c :: k)) cs w1) b k cs e a' w' := by
    intro n
    induction n using Nat.strongRecOn with
    | _ n ih =>
      intro x Z1 w1 ρ1 a1 hn hs1 hx
      obtain ⟨e, a2, w2, ⟨st2, Z2, ρ2, hq, hs2, hx2⟩, harr⟩ := round x ρ0 Z1 w1 ρ1 a1 hs1 b (.inLoop c :: k) cs
      cases e with
      | normal =>
        obtain ⟨x', hlt, hle⟩ := hq
        obtain ⟨Z4, ρ4, hs4, hx4⟩ := hle ρ0 Z2 w2 ρ2 a2 hs2
        obtain ⟨e3, a3, w3, hq3, harr3⟩ := ih (μ x') (hn ▸ hlt) x' Z4 w2 ρ4 a2 rfl hs4 ((hx.trans hx2).trans hx4)
        exact ⟨e3, a3, w3, hq3, .of_steps (Steps.trans harr (.one step_inLoop)) harr3⟩
      | exit id => exact ⟨_, a2, w2, ⟨st2, Z2, ρ2, hq, hs2, hx.trans hx2⟩, .pass (x := .inLoop c) rfl (fun _ _ => .inl (by simp)) harr⟩
      | goto l => exact ⟨_, a2, w2, ⟨st2, Z2, ρ2, hq, hs2, hx.trans hx2⟩, .pass (x := .inLoop c) rfl (fun _ _ => .inl (by simp)) harr⟩
      | ret => exact ⟨_, a2, w2, ⟨st2, Z2, ρ2, hq, hs2, hx.trans hx2⟩, .pass (x := .inLoop c) rfl (fun _ _ => .inl (by simp)) harr⟩
      | panic ch => exact ⟨_, a2, w2, ⟨st2, Z2, ρ2, hq, hs2, hx.trans hx2⟩, .pass (x := .inLoop c) rfl (fun _ _ => .inl (by simp)) harr⟩
      | outgrown => exact ⟨_, a2, w2, ⟨st2, Z2, ρ2, hq, hs2, hx.trans hx2⟩, .pass (x := .inLoop c) rfl (fun _ _ => .inl (by simp)) harr⟩
  obtain ⟨e, a', w', hq, harr⟩ := key _ x Z w ρ a rfl hs (Ext.refl _ _ _)
  exact ⟨e, a', w', hq, .of_steps (.one step_loop) harr⟩

theorem tri_region {id : Nat} {ops : Array Oper} (h : TriOps P ops Q ops.toList st) : Tri P (.region id ops false) Q st :=
  fun ρ0 Z w ρ a hs => wp_region_list (h ρ0 Z w ρ a hs)

theorem ops_nil {ops : Array Oper} (h : Q .normal st) : TriOps P ops Q [] st := fun ρ0 Z w ρ _ hs => ⟨st, Z, ρ, h, hs, Ext.refl _ _ _⟩

theorem opTri_wp {o : Oper} {ops : Array Oper} {rest : List Oper} (h : OpTri P o (TriOps P ops Q rest) st) {ρ0 : Loc} {Z : Nat → Prop} {w : World} {ρ : Loc} {a : Act} (hs : SR ρ0 Z w ρ a st) : o.wp P a w (wpList P ops (QL ρ0 Z w ρ Q) rest) (QL ρ0 Z w ρ Q) :=
  Oper.wp_post (h ρ0 Z w ρ a hs) (fun a' w' ⟨st', Z', ρ', hk, hs', he⟩ => wpList_post (fun _ _ _ q => QL.ext he q) _ _ _ (hk ρ0 Z' w' ρ' a' hs')) (fun _ _ _ h => h.elim)

theorem ops_cons {o : Oper} {ops : Array Oper} {rest : List Oper} (hg : o.guard = none) (h : OpTri P o (TriOps P ops Q rest) st) : TriOps P ops Q (o :: rest) st := by
  intro ρ0 Z w ρ a hs
  unfold wpList
  rw [if_pos (by simp [Region.wanted, hg])]
  exact .inl (opTri_wp h hs)

/-- A guarded operation. -/
theorem ops_guard {o : Oper} {ops : Array Oper} {rest : List Oper} {j t : Nat} {want b : Bool} (hg : o.guard = some (j, want)) (hj : (ops[j]?).bind (·.dst) = some t)
    (hb : get st.fr t = .val (.bool b)) (ht : Nat.blt t st.n = true) (h1 : b = want → OpTri P o (TriOps P ops Q rest) st)
    (h2 : b ≠ want → ∀ d, o.dst = some d → Nat.blt d st.n = true ∧ TriOps P ops Q rest (st.put d (.val (.tuple #[])))) (h3 : b ≠ want → o.dst = none → TriOps P ops Q rest st) : TriOps P ops Q (o :: rest) st := by
  intro ρ0 Z w ρ a hs
  have hlt : t < st.n := by simpa [Nat.blt_eq] using ht
  have hv := hs.fr t hlt
  rw [hb] at hv
  have hv' : a.tmps.getD t undef = .bool b := hv.val_eq
  have hsz : t < a.tmps.size := by rw [hs.size]; exact hlt
  have hy : yielded ops a.tmps j = some b := by
    unfold yielded
    rw [hj]
    have : a.tmps[t]? = some (.bool b) := by
      rw [Array.getElem?_eq_getElem hsz]
      simp [hsz] at hv'
      simp [hv']
    simp [this]
  unfold wpList
  by_cases hw : b = want
  · rw [if_pos (by simp [Region.wanted, hg, hy, hw])]
    exact .inl (opTri_wp (h1 hw) hs)
  · rw [if_neg (by simp [Region.wanted, hg, hy, hw])]
    cases hd : o.dst with
    | none => exact h3 hw hd ρ0 Z w ρ _ (by simpa [Act.put] using hs)
    | some d =>
      obtain ⟨hn, h⟩ := h2 hw d hd
      exact h ρ0 Z w ρ _ (hs.put hn (.val _))

/-- An operation whose guard was not come to. -/
theorem ops_guardU {o : Oper} {ops : Array Oper} {rest : List Oper} {j t d : Nat} {want : Bool} (hg : o.guard = some (j, want)) (hj : (ops[j]?).bind (·.dst) = some t)
    (hb : get st.fr t = .val (.tuple #[])) (ht : Nat.blt t st.n = true) (hd : o.dst = some d) (hn : Nat.blt d st.n = true) (h : TriOps P ops Q rest (st.put d (.val (.tuple #[])))) : TriOps P ops Q (o :: rest) st := by
  intro ρ0 Z w ρ a hs
  have hlt : t < st.n := by simpa [Nat.blt_eq] using ht
  have hv := hs.fr t hlt
  rw [hb] at hv
  have hv' : a.tmps.getD t undef = .tuple #[] := hv.val_eq
  have hsz : t < a.tmps.size := by rw [hs.size]; exact hlt
  have hy : yielded ops a.tmps j = none := by
    unfold yielded
    rw [hj]
    have : a.tmps[t]? = some (.tuple #[]) := by
      rw [Array.getElem?_eq_getElem hsz]
      simp [hsz] at hv'
      simp [hv']
    simp [this]
  unfold wpList
  rw [if_neg (by simp [Region.wanted, hg, hy])]
  rw [hd]
  exact h ρ0 Z w ρ _ (hs.put hn (.val _))

end

/- ### Fewer slots, objects forgotten or put in another order -/

def keepMap (ids : List Nat) (id : Nat) : Option Nat := go ids 0
where
  go : List Nat → Nat → Option Nat
    | [], _ => none
    | x :: r, k => bif Nat.beq x id then some k else go r (k + 1)

def AObj.ren (m : Nat → Option Nat) (o : AObj) : AObj := match o with
  | ⟨ty, true, fz, sz, es⟩ => ⟨ty, true, fz, sz, AV.renL m es⟩
  | ⟨ty, false, fz, sz, es⟩ => ⟨ty, false, fz, sz, es⟩

def pick (H : List AObj) (ids : List Nat) : List AObj := ids.map fun id => ((H[id]?).getD default).ren (keepMap ids)
def pickFr (fr : List (Nat × AV)) (ids : List Nat) (ts : List Nat) : List (Nat × AV) := ts.map fun t => (t, (get fr t).ren (keepMap ids))

def St.keep (st : St) (ts ids : List Nat) : St := ⟨st.n, fun i => (st.m i).bind (keepMap ids), pickFr st.fr ids ts, pick st.H ids⟩

theorem keepMap_go (id : Nat) : ∀ (ids : List Nat) (n k : Nat), keepMap.go id ids n = some k → n ≤ k ∧ ids[k - n]? = some id
  | [], n, k, h => by simp [keepMap.go] at h
  | x :: r, n, k, h => by
    unfold keepMap.go at h
    cases hb : Nat.beq x id with
    | true => rw [hb] at h; simp at h; subst h; simp [Nat.eq_of_beq_eq_true hb]
    | false =>
      rw [hb] at h
      have := keepMap_go id r (n + 1) k (by simpa using h)
      refine ⟨by omega, ?_⟩
      rw [show k - n = (k - (n + 1)) + 1 by omega]
      simpa using this.2

theorem keepMap_get {ids : List Nat} {id k : Nat} (h : keepMap ids id = some k) : ids[k]? = some id := by
  have := (keepMap_go id ids 0 k h).2; simpa using this

theorem cells_ren (m : Nat → Option Nat) (e : AV) : (e.ren m).cells = AV.renL m e.cells := by
  cases e with
  | ptr id sz i j => simp only [AV.ren, AV.cells, AV.renL]; cases m id <;> rfl
  | osl id sz i len => simp only [AV.ren, AV.cells, AV.renL]; cases m id <;> rfl
  | _ => simp [AV.ren, AV.cells, AV.renL]
theorem renL_append (m : Nat → Option Nat) : ∀ (a b : List AV), AV.renL m (a ++ b) = AV.renL m a ++ AV.renL m b
  | [], b => by simp [AV.renL]
  | x :: a, b => by simp [AV.renL, renL_append m a b]
theorem flat_renL (m : Nat → Option Nat) : ∀ es, flat (AV.renL m es) = AV.renL m (flat es)
  | [] => by simp [AV.renL, flat]
  | e :: r => by simp [AV.renL, flat, cells_ren, renL_append, flat_renL m r]
theorem renL_length (m : Nat → Option Nat) : ∀ (a : List AV), (AV.renL m a).length = a.length
  | [] => by simp [AV.renL]
  | x :: a => by simp [AV.renL, renL_length m a]
theorem mem_renL (m : Nat → Option Nat) : ∀ (es : List AV) (e : AV), e ∈ AV.renL m es → ∃ x ∈ es, e = x.ren m
  | [], e, h => by simp [AV.renL] at h
  | x :: r, e, h => by
    simp only [AV.renL, List.mem_cons] at h
    rcases h with h | h
    · exact ⟨x, by simp, h⟩
    · obtain ⟨y, hy, he⟩ := mem_renL m r e h; exact ⟨y, by simp [hy], he⟩

theorem OR.ren {Z : Nat → Prop} {w : World} {ρ σ : Loc} {m : Nat → Option Nat} {o : AObj} {q : Option Nat} (hr : Renames m ρ σ) (h : OR Z w ρ o q) : OR Z w σ (o.ren m) q := by
  obtain ⟨ty, refs, fz, sz, es⟩ := o
  cases refs
  · cases h with
    | virt he => exact .virt he
    | real b vs extra hh hv hs h1 hf => exact .real b vs extra hh (by simp only [AObj.ren] at hv ⊢; exact hv) hs h1 hf
  · cases h with
    | virt he => simp only at he; subst he; exact .virt (by simp [AObj.ren, AV.renL])
    | real b vs extra hh hv hs h1 hf =>
      refine .real b vs extra hh ?_ ?_ h1 hf
      · simp only [AObj.ren, if_true] at hv ⊢
        rw [flat_renL]; exact hv.ren hr
      · intro e he
        obtain ⟨x, hx, rfl⟩ := mem_renL m es e he
        rw [cells_ren, renL_length]; exact hs x hx

theorem Renames_keep {ids : List Nat} {ρ : Loc} : Renames (keepMap ids) ρ (fun k => (ids[k]?).bind ρ) := by
  intro id k q hm hq; simp [keepMap_get hm, hq]

def nodupB : List Nat → Bool
  | [] => true
  | x :: r => !(r.any fun y => Nat.beq y x) && nodupB r
theorem nodupB_spec : ∀ {l : List Nat}, nodupB l = true → l.Nodup
  | [], _ => by simp
  | x :: r, h => by
    simp only [nodupB, Bool.and_eq_true, Bool.not_eq_true'] at h
    refine List.nodup_cons.2 ⟨fun hx => ?_, nodupB_spec h.2⟩
    have := List.any_eq_false.1 h.1 x hx
    simp at this

theorem HR.keep {Z : Nat → Prop} {w : World} {ρ : Loc} {H : List AObj} (h : HR Z w ρ H) {ids : List Nat} (hn : nodupB ids = true) (hlt : ids.all (fun id => Nat.blt id H.length) = true) :
    HR Z w (fun k => (ids[k]?).bind ρ) (pick H ids) where
  dom := by
    intro k q hq
    cases hk : ids[k]? with
    | none => simp [hk] at hq
    | some id => have := (List.getElem?_eq_some_iff.1 hk).1; simpa [pick] using this
  obj := by
    intro k o ho
    simp only [pick, List.getElem?_map] at ho
    cases hk : ids[k]? with
    | none => simp [hk] at ho
    | some id =>
      simp only [hk, Option.map_some, Option.some.injEq] at ho
      have hl : id < H.length := by
        have := List.all_eq_true.1 hlt id (List.mem_of_getElem? hk)
        simpa [Nat.blt_eq] using this
      obtain ⟨q, hq, hor⟩ := h.obj id H[id] (by simp [hl])
      refine ⟨q, by simp [hq], ?_⟩
      subst ho
      simp only [List.getElem?_eq_getElem hl, Option.getD_some]
      exact hor.ren Renames_keep
  inj := by
    intro i j b hi hj
    cases h1 : ids[i]? with
    | none => simp [h1] at hi
    | some x =>
      cases h2 : ids[j]? with
      | none => simp [h2] at hj
      | some y =>
        simp only [h1, h2, Option.bind_some] at hi hj
        have hxy := h.inj x y b hi hj
        subst hxy
        exact (List.getElem?_inj (List.getElem?_eq_some_iff.1 h1).1 (nodupB_spec hn)).1 (h1.trans h2.symm)

theorem Own_keep {ids : List Nat} {ρ : Loc} {b : Nat} (h : Own (fun k => (ids[k]?).bind ρ) b) : Own ρ b := by
  obtain ⟨k, hk⟩ := h
  cases h1 : ids[k]? with
  | none => simp [h1] at hk
  | some x => simp only [h1, Option.bind_some] at hk; exact ⟨x, hk⟩

theorem Ext.own_sub {Z O O' : Nat → Prop} {w : World} (h : ∀ b, O' b → O b) : Ext Z O w Z O' w :=
  { Ext.refl Z O w with on := fun b hb => .inl (h b hb) }

theorem get_map (f : Nat → AV) (t : Nat) : ∀ ts : List Nat, get (ts.map fun t => (t, f t)) t = f t ∨ get (ts.map fun t => (t, f t)) t = .dead
  | [] => .inr rfl
  | x :: r => by
    simp only [List.map_cons, get]
    cases hb : Nat.beq x t with
    | true => left; simp [Nat.eq_of_beq_eq_true hb]
    | false => simpa using get_map f t r

theorem le_keep {st : St} (ts ids : List Nat) (hn : nodupB ids = true) (hlt : ids.all (fun id => Nat.blt id st.H.length) = true) : Le st (st.keep ts ids) := by
  intro ρ0 Z w ρ a hs
  refine ⟨Z, fun k => (ids[k]?).bind ρ, ⟨hs.rn.comp Renames_keep, hs.defers, hs.size, ?_, hs.H.keep hn hlt, hs.zs⟩, Ext.own_sub fun b hb => Own_keep hb⟩
  intro t ht
  rcases get_map (fun t => (get st.fr t).ren (keepMap ids)) t ts with h | h
  · show VR _ _ _ (get (pickFr st.fr ids ts) t) _
    unfold pickFr
    rw [h]; exact (hs.fr t ht).ren Renames_keep
  · show VR _ _ _ (get (pickFr st.fr ids ts) t) _
    unfold pickFr
    rw [h]; exact .dead _

/- ### Functions -/

def HSpec (P : Program) (f : FuncId) (args : List AV) (H : List AObj) (Post : AV → List AObj → (Nat → Option Nat) → Prop) : Prop :=
  ∀ Z w ρ vs, VRs Z w ρ args vs → HR Z w ρ H → (∀ b, Z b → b < w.heap.size) →
    Calls P f vs.toArray w fun e w' => ∃ v r H' m Z' ρ', e = .returned v ∧ Post r H' m ∧ VR Z' w' ρ' r v ∧ HR Z' w' ρ' H' ∧ Renames m ρ ρ' ∧ (∀ b, Z' b → b < w'.heap.size) ∧ Ext Z (Own ρ) w Z' (Own ρ') w'

theorem HSpec.post {P : Program} {f : FuncId} {args : List AV} {H : List AObj} {Post Post' : AV → List AObj → (Nat → Option Nat) → Prop} (h : HSpec P f args H Post) (hp : ∀ r H' m, Post r H' m → Post' r H' m) : HSpec P f args H Post' :=
  fun Z w ρ vs hv hh hz => (h Z w ρ vs hv hh hz).mono fun _ _ ⟨v, r, H', m, Z', ρ', he, hq, rest⟩ => ⟨v, r, H', m, Z', ρ', he, hp _ _ _ hq, rest⟩

end Go.Av

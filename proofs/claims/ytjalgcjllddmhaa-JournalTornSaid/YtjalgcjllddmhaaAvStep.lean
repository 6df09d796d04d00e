/- A text of the proof of JournalTorn: AvStep -/
import Derived.Test.YtjalgcjllddmhaaAvMk2
import Derived.Scope
/- Guards, and what the walks' steps need besides. -/
namespace Go.Av
section
variable {P : Program} {Q : Exit → St → Prop} {st : St} {o : Oper} {ops : Array Oper} {rest : List Oper} {j t d : Nat} {b : Bool}

theorem SR.know {ρ0 : Loc} {Z : Nat → Prop} {w : World} {ρ : Loc} {a : Act} (h : SR ρ0 Z w ρ a st) {t : Nat} {x : AV} (hx : get st.fr t = x) : SR ρ0 Z w ρ a (st.put t x) where
  rn := h.rn
  defers := h.defers
  size := h.size
  fr := by
    intro i hi
    by_cases e : t = i
    · subst e; simpa [St.put, get, hx] using h.fr t hi
    · simpa [St.put, get, beq_no e] using h.fr i hi
  H := h.H
  zs := h.zs
theorem le_know {t : Nat} {x : AV} (hx : get st.fr t = x) : Le st (st.put t x) := fun _ Z _ ρ _ hs => ⟨Z, ρ, hs.know hx, Ext.refl _ _ _⟩

theorem ops_guardT (hg : o.guard = some (j, true)) (hj : (ops[j]?).bind (·.dst) = some t) (hb : get st.fr t = .val (.bool b)) (ht : Nat.blt t st.n = true) (hd : o.dst = some d) (hn : Nat.blt d st.n = true)
    (h1 : b = true → OpTri P o (TriOps P ops Q rest) (st.put t (.val (.bool true)))) (h2 : b = false → TriOps P ops Q rest ((st.put t (.val (.bool false))).put d (.val (.tuple #[])))) : TriOps P ops Q (o :: rest) st := by
  cases b with
  | true => exact ops_le (le_know hb) (ops_guard (b := true) hg hj (by simp [St.put, get]) ht (fun _ => h1 rfl) (fun h => absurd rfl h) (fun h => absurd rfl h))
  | false => exact ops_le (le_know hb) (ops_guard (b := false) hg hj (by simp [St.put, get]) ht (fun h => by cases h) (fun _ d' hd' => by rw [hd] at hd'; cases hd'; exact ⟨hn, h2 rfl⟩) (fun _ h => by rw [hd] at h; cases h))
theorem ops_guardF (hg : o.guard = some (j, false)) (hj : (ops[j]?).bind (·.dst) = some t) (hb : get st.fr t = .val (.bool b)) (ht : Nat.blt t st.n = true) (hd : o.dst = some d) (hn : Nat.blt d st.n = true)
    (h1 : b = false → OpTri P o (TriOps P ops Q rest) (st.put t (.val (.bool false)))) (h2 : b = true → TriOps P ops Q rest ((st.put t (.val (.bool true))).put d (.val (.tuple #[])))) : TriOps P ops Q (o :: rest) st := by
  cases b with
  | false => exact ops_le (le_know hb) (ops_guard (b := false) hg hj (by simp [St.put, get]) ht (fun _ => h1 rfl) (fun h => absurd rfl h) (fun h => absurd rfl h))
  | true => exact ops_le (le_know hb) (ops_guard (b := true) hg hj (by simp [St.put, get]) ht (fun h => by cases h) (fun _ d' hd' => by rw [hd] at hd'; cases hd'; exact ⟨hn, h2 rfl⟩) (fun _ h => by rw [hd] at h; cases h))
/-- The guard is known to let it by, or not to. -/
theorem ops_guardY {want : Bool} (hg : o.guard = some (j, want)) (hj : (ops[j]?).bind (·.dst) = some t) (hb : get st.fr t = .val (.bool want)) (ht : Nat.blt t st.n = true) (h1 : OpTri P o (TriOps P ops Q rest) st) : TriOps P ops Q (o :: rest) st :=
  ops_guard hg hj hb ht (fun _ => h1) (fun h => absurd rfl h) (fun h => absurd rfl h)
theorem ops_guardN {want : Bool} (hg : o.guard = some (j, want)) (hj : (ops[j]?).bind (·.dst) = some t) (hb : get st.fr t = .val (.bool (!want))) (ht : Nat.blt t st.n = true) (hd : o.dst = some d) (hn : Nat.blt d st.n = true)
    (h1 : TriOps P ops Q rest (st.put d (.val (.tuple #[])))) : TriOps P ops Q (o :: rest) st :=
  ops_guard hg hj hb ht (fun h => by cases want <;> cases h) (fun _ d' hd' => by rw [hd] at hd'; cases hd'; exact ⟨hn, h1⟩) (fun _ h => by rw [hd] at h; cases h)
end

section
variable {P : Program} {Q : Exit → St → Prop} {st : St} {o : Oper} {ops : Array Oper} {rest : List Oper} {j t d : Nat} {p : Prop} [Decidable p]
theorem ops_guardTd (hg : o.guard = some (j, true)) (hj : (ops[j]?).bind (·.dst) = some t) (hb : get st.fr t = .val (.bool (decide p))) (ht : Nat.blt t st.n = true) (hd : o.dst = some d) (hn : Nat.blt d st.n = true)
    (h1 : p → OpTri P o (TriOps P ops Q rest) (st.put t (.val (.bool true)))) (h2 : ¬ p → TriOps P ops Q rest ((st.put t (.val (.bool false))).put d (.val (.tuple #[])))) : TriOps P ops Q (o :: rest) st :=
  ops_guardT hg hj hb ht hd hn (fun h => h1 (of_decide_eq_true h)) (fun h => h2 (of_decide_eq_false h))
theorem ops_guardFd (hg : o.guard = some (j, false)) (hj : (ops[j]?).bind (·.dst) = some t) (hb : get st.fr t = .val (.bool (decide p))) (ht : Nat.blt t st.n = true) (hd : o.dst = some d) (hn : Nat.blt d st.n = true)
    (h1 : ¬ p → OpTri P o (TriOps P ops Q rest) (st.put t (.val (.bool false)))) (h2 : p → TriOps P ops Q rest ((st.put t (.val (.bool true))).put d (.val (.tuple #[])))) : TriOps P ops Q (o :: rest) st :=
  ops_guardF hg hj hb ht hd hn (fun h => h1 (of_decide_eq_false h)) (fun h => h2 (of_decide_eq_true h))
theorem tri_cond_d {c : Operand} {x y : Code} (hc : st.ev c = .val (.bool (decide p))) (hn : opIn st.n c = true) (ht : p → Tri P x Q st) (hf : ¬ p → Tri P y Q st) : Tri P (.cond c x y) Q st :=
  tri_cond hc hn (fun h => ht (of_decide_eq_true h)) (fun h => hf (of_decide_eq_false h))
end
theorem tri_cond_t {P : Program} {Q : Exit → St → Prop} {st : St} {c : Operand} {x y : Code} (hc : st.ev c = .val (.bool true)) (hn : opIn st.n c = true) (ht : True → Tri P x Q st) (_ : False → Tri P y Q st) : Tri P (.cond c x y) Q st :=
  tri_cond hc hn (fun _ => ht trivial) (fun h => by cases h)
theorem tri_cond_f {P : Program} {Q : Exit → St → Prop} {st : St} {c : Operand} {x y : Code} (hc : st.ev c = .val (.bool false)) (hn : opIn st.n c = true) (_ : False → Tri P x Q st) (hf : True → Tri P y Q st) : Tri P (.cond c x y) Q st :=
  tri_cond hc hn (fun h => by cases h) (fun _ => hf trivial)

section
variable {P : Program} {K : St → Prop} {st : St} {ty : TypeId} {pos : String} {aft : Array Edge} {g : Option (Nat × Bool)} {d : Nat}
theorem op_pick_true {c x y : Operand} {z : AV} (hc : st.ev c = .val (.bool true)) (hz : st.ev x = z) (nc : opIn st.n c = true) (nz : opIn st.n x = true) (hd : Nat.blt d st.n = true) (hk : K (st.put d z)) :
    OpTri P ⟨some d, .pick c x y, ty, pos, aft, g⟩ K st := op_pick_lit (b := true) hc hz nc nz hd hk
theorem op_pick_false {c x y : Operand} {z : AV} (hc : st.ev c = .val (.bool false)) (hz : st.ev y = z) (nc : opIn st.n c = true) (nz : opIn st.n y = true) (hd : Nat.blt d st.n = true) (hk : K (st.put d z)) :
    OpTri P ⟨some d, .pick c x y, ty, pos, aft, g⟩ K st := op_pick_lit (b := false) hc hz nc nz hd hk
end

section
variable {P : Program} {K : St → Prop} {Q : Exit → St → Prop} {s st : St}
theorem seqQ_n (h : K s) : seqQ K Q .normal s := h
theorem seqQ_x {id : Nat} (h : Q (.exit id) s) : seqQ K Q (.exit id) s := h
theorem seqQ_r (h : Q .ret s) : seqQ K Q .ret s := h
theorem blockQ_n {id : Nat} (h : Q .normal s) : blockQ id Q .normal s := h
theorem blockQ_r {id : Nat} (h : Q .ret s) : blockQ id Q .ret s := h
theorem blockQ_x {id : Nat} (h : Q .normal s) : blockQ id Q (.exit id) s := by simpa [blockQ] using h
theorem blockQ_o {id id' : Nat} (hn : Nat.beq id' id = false) (h : Q (.exit id') s) : blockQ id Q (.exit id') s := by simpa [blockQ, hn] using h
theorem ops_here {ops : Array Oper} {l : List Oper} (h : TriOps P ops Q l st) : TriOps P ops Q l st := h
theorem opTri_here {o : Oper} (h : OpTri P o K st) : OpTri P o K st := h

theorem retQ_r {fn : Func} {Post : AV → List AObj → (Nat → Option Nat) → Prop} (xs : List AV) (ids : List Nat) (hr : ResL P st fn.results.toList xs) (hn : nodupB ids = true) (hl : ids.all (fun id => Nat.blt id st.H.length) = true)
    (hp : Post ((retAV xs).ren (keepMap ids)) (pick st.H ids) (fun i => (st.m i).bind (keepMap ids))) : RetQ P fn Post .ret st := ⟨xs, ids, hr, hn, hl, hp⟩
theorem retQ_n {fn : Func} {Post : AV → List AObj → (Nat → Option Nat) → Prop} (xs : List AV) (ids : List Nat) (hr : ResL P st fn.results.toList xs) (hn : nodupB ids = true) (hl : ids.all (fun id => Nat.blt id st.H.length) = true)
    (hp : Post ((retAV xs).ren (keepMap ids)) (pick st.H ids) (fun i => (st.m i).bind (keepMap ids))) : RetQ P fn Post .normal st := ⟨xs, ids, hr, hn, hl, hp⟩

/-- Back at the loop's head, or at its head for the first time: slots and objects that are kept. -/
theorem le_keep' {s : St} (ts ids : List Nat) (hn : nodupB ids = true) (hlt : ids.all (fun id => Nat.blt id st.H.length) = true) (h : st.keep ts ids = s) : Le st s := h ▸ le_keep ts ids hn hlt

theorem op_fieldAddr0 {s f n k : Nat} {x : Operand} {id sz i d : Nat} {ty : TypeId} {pos : String} {aft : Array Edge} {g : Option (Nat × Bool)} {fs : Array Field} {fd : Field} (hx : st.ev x = .ptr id sz i 0) (hn : opIn st.n x = true) (hd : Nat.blt d st.n = true) (hs : P.underlying s = some (.struct fs)) (hf : fs[f]? = some fd)
    (hz : szT P fd.type = some (n + 1)) (ho : fd.offset = k) (hk : K (st.put d (.ptr id sz i k))) : OpTri P ⟨some d, .fieldAddr s x f, ty, pos, aft, g⟩ K st :=
  op_fieldAddr hx hn hd hs hf hz (by subst ho; simpa using hk)
theorem op_fieldAddr_rp0 {s f n k : Nat} {x : Operand} {d : Nat} {cs : List AV} {ty : TypeId} {pos : String} {aft : Array Edge} {g : Option (Nat × Bool)} {fs : Array Field} {fd : Field} (hx : st.ev x = .rp cs 0) (hn : opIn st.n x = true) (hd : Nat.blt d st.n = true) (hs : P.underlying s = some (.struct fs)) (hf : fs[f]? = some fd)
    (hz : szT P fd.type = some (n + 1)) (ho : fd.offset = k) (hk : K (st.put d (.rp cs k))) : OpTri P ⟨some d, .fieldAddr s x f, ty, pos, aft, g⟩ K st :=
  op_fieldAddr_rp hx hn hd hs hf hz (by subst ho; simpa using hk)
end

section
variable {P : Program} {Q : Exit → St → Prop} {s st : St}
def scopeQ (Q : Exit → St → Prop) : Exit → St → Prop
  | .goto _, _ => False
  | e, s => Q e s
theorem tri_scope {c : Code} (h : Tri P c (scopeQ Q) st) : Tri P (.scope c) Q st := by
  intro ρ0 Z w ρ a hs
  refine wp_scope_straight (wp_mono (h ρ0 Z w ρ a hs) ?_)
  rintro e a' w' ⟨st', Z', ρ', q, r⟩
  cases e with
  | goto l => exact q.elim
  | _ => exact ⟨st', Z', ρ', q, r⟩
theorem scopeQ_n (h : Q .normal s) : scopeQ Q .normal s := h
theorem scopeQ_x {id : Nat} (h : Q (.exit id) s) : scopeQ Q (.exit id) s := h
theorem scopeQ_r (h : Q .ret s) : scopeQ Q .ret s := h
end

section
variable {P : Program} {K : St → Prop} {st s : St} {o : Oper}
theorem opTri_le (hl : Le st s) (h : OpTri P o K s) : OpTri P o K st := fun ρ0 Z w ρ a hs =>
  let ⟨Z1, ρ1, h1, e1⟩ := hl ρ0 Z w ρ a hs
  Oper.wp_post (h ρ0 Z1 w ρ1 a h1) (fun _ _ ⟨st', Z', ρ', hk, hs', he⟩ => ⟨st', Z', ρ', hk, hs', e1.trans he⟩) (fun _ _ _ h => h)

/-- A nil slice, as one that the call owns. -/
theorem le_own (t e sz : Nat) (ht : get st.fr t = .val (.slice none 0 0)) : Le st ((st.push (.mk e false false sz [])).put t (.osl st.H.length sz 0 0)) := by
  intro ρ0 Z w ρ a hs
  have hle : ρ.le (ρ.upd st.H.length none) := by
    intro id q hq
    have := hs.H.dom id q hq
    rw [Loc.upd_ne _ _ (by omega)]; exact hq
  have hown : ∀ b, Own (ρ.upd st.H.length none) b → Own ρ b := by
    intro b ⟨i, hi⟩
    by_cases e : i = st.H.length
    · subst e; rw [Loc.upd_self] at hi; cases hi
    · rw [Loc.upd_ne _ _ e] at hi; exact ⟨i, hi⟩
  refine ⟨Z, ρ.upd st.H.length none, ⟨hs.rn.le hle, hs.defers, hs.size, ?_, ⟨?_, ?_, ?_⟩, hs.zs⟩, Ext.own_sub hown⟩
  · intro i hi
    by_cases e' : t = i
    · subst e'
      have h1 := hs.fr t hi
      rw [ht] at h1
      have h2 := h1.val_eq
      simp only [St.put, get, Nat.beq_refl, cond_true]
      rw [h2]
      exact .osl (Loc.upd_self _ _ _) (Nat.le_refl _) (.inl rfl)
    · simp only [St.put, get, beq_no e', cond_false]
      exact (hs.fr i hi).mono (Keeps.refl _ _) hle
  · intro id q hq
    simp only [St.put, St.push, List.length_append, List.length_singleton]
    by_cases e' : id = st.H.length
    · omega
    · rw [Loc.upd_ne _ _ e'] at hq; have := hs.H.dom id q hq; omega
  · intro id o' ho'
    simp only [St.put, St.push] at ho'
    by_cases e' : id = st.H.length
    · subst e'
      simp at ho'
      subst ho'
      exact ⟨none, Loc.upd_self _ _ _, .virt rfl⟩
    · have hlt : id < st.H.length := by
        have := (List.getElem?_eq_some_iff.1 ho').1
        simp at this; omega
      rw [List.getElem?_append_left hlt] at ho'
      obtain ⟨q, hq, hor⟩ := hs.H.obj id o' ho'
      exact ⟨q, by rw [Loc.upd_ne _ _ e']; exact hq, hor.mono (Keeps.refl _ _) hle fun b hb => ⟨rfl, Iff.rfl⟩⟩
  · intro i j b hi hj
    by_cases e1 : i = st.H.length
    · subst e1; rw [Loc.upd_self] at hi; cases hi
    · by_cases e2 : j = st.H.length
      · subst e2; rw [Loc.upd_self] at hj; cases hj
      · rw [Loc.upd_ne _ _ e1] at hi; rw [Loc.upd_ne _ _ e2] at hj
        exact hs.H.inj i j b hi hj
end

section
variable {P : Program} {K : St → Prop} {st : St} {ty : TypeId} {pos : String} {aft : Array Edge} {g : Option (Nat × Bool)} {d : Nat}
theorem nat_of {i : Int} {n : Nat} (h0 : 0 ≤ i) (hi : i.toNat = n) : i = (n : Int) := by omega
theorem step_index_str {t : Nat} {x y : Operand} {s : ByteArray} {k : IntKind} {i : Int} {n : Nat} (hx : st.ev x = .val (.string s)) (hy : st.ev y = .val (.int k i)) (nx : opIn st.n x = true) (ny : opIn st.n y = true) (hd : Nat.blt d st.n = true)
    (ht : P.underlying t = some .string) (hi : i.toNat = n) (h0 : 0 ≤ i) (hlt : n < s.size) (hk : K (st.put d (.val (.int .u8 (s.data.toList.getD n 0).toNat)))) : OpTri P ⟨some d, .index t x y, ty, pos, aft, g⟩ K st :=
  op_index_str2 hx hy nx ny hd ht (nat_of h0 hi) hlt hk
theorem step_indexAddr_sl {t e : Nat} {x y : Operand} {sz : Nat} {es : List AV} {k : IntKind} {i : Int} {n : Nat} {c : AV} {cs : List AV} (hx : st.ev x = .sl sz es) (hy : st.ev y = .val (.int k i)) (nx : opIn st.n x = true) (ny : opIn st.n y = true) (hd : Nat.blt d st.n = true)
    (ht : P.underlying t = some (.slice e)) (hz : szT P e = some sz) (hi : i.toNat = n) (h0 : 0 ≤ i) (he : es[n]? = some c) (hcs : c.cells = cs) (hk : K (st.put d (.rp cs 0))) :
    OpTri P ⟨some d, .indexAddr t x y, ty, pos, aft, g⟩ K st := op_indexAddr_sl hx hy nx ny hd ht hz (nat_of h0 hi) he (by rw [hcs]; exact hk)
theorem step_indexAddr_osl {t e : Nat} {x y : Operand} {id sz i0 len : Nat} {k : IntKind} {i : Int} {n : Nat} (hx : st.ev x = .osl id sz i0 len) (hy : st.ev y = .val (.int k i)) (nx : opIn st.n x = true) (ny : opIn st.n y = true) (hd : Nat.blt d st.n = true)
    (ht : P.underlying t = some (.slice e)) (hz : szT P e = some sz) (hi : i.toNat = n) (h0 : 0 ≤ i) (hlt : n < len) (hk : K (st.put d (.ptr id sz (i0 + n) 0))) :
    OpTri P ⟨some d, .indexAddr t x y, ty, pos, aft, g⟩ K st := op_indexAddr_osl hx hy nx ny hd ht hz (nat_of h0 hi) hlt hk
theorem step_indexAddr_osl0 {t e : Nat} {x y : Operand} {id sz len : Nat} {k : IntKind} {i : Int} {n : Nat} (hx : st.ev x = .osl id sz 0 len) (hy : st.ev y = .val (.int k i)) (nx : opIn st.n x = true) (ny : opIn st.n y = true) (hd : Nat.blt d st.n = true)
    (ht : P.underlying t = some (.slice e)) (hz : szT P e = some sz) (hi : i.toNat = n) (h0 : 0 ≤ i) (hlt : n < len) (hk : K (st.put d (.ptr id sz n 0))) :
    OpTri P ⟨some d, .indexAddr t x y, ty, pos, aft, g⟩ K st := op_indexAddr_osl hx hy nx ny hd ht hz (nat_of h0 hi) hlt (by rw [Nat.zero_add]; exact hk)
theorem step_indexAddr_arr {t e len : Nat} {x y : Operand} {id sz i0 j esz : Nat} {k : IntKind} {i : Int} {n : Nat} (hx : st.ev x = .ptr id sz i0 j) (hy : st.ev y = .val (.int k i)) (nx : opIn st.n x = true) (ny : opIn st.n y = true) (hd : Nat.blt d st.n = true)
    (ht : P.underlying t = some (.array len e)) (hz : szT P e = some esz) (hi : i.toNat = n) (h0 : 0 ≤ i) (hlt : n < len) (hk : K (st.put d (.ptr id sz i0 (j + n * esz)))) :
    OpTri P ⟨some d, .indexAddr t x y, ty, pos, aft, g⟩ K st := op_indexAddr_arr hx hy nx ny hd ht hz (nat_of h0 hi) hlt hk
theorem Bd.to {x : Operand} {k : IntKind} {i : Int} {n dflt : Nat} (hx : st.ev x = .val (.int k i)) (hn : opIn st.n x = true) (hi : i.toNat = n) (h0 : 0 ≤ i) : Bd st (Option.some x) dflt n := Bd.some hx hn (nat_of h0 hi)
theorem step_makeSlice {t e bytes n : Nat} {x y : Operand} {k k' : IntKind} {i : Int} {z : Value} (hE : Elem P t e 1 bytes z) (hx : st.ev x = .val (.int k i)) (hy : st.ev y = .val (.int k' i)) (nx : opIn st.n x = true) (ny : opIn st.n y = true) (hi : i.toNat = n) (h0 : 0 ≤ i)
    (hone : z.oneCell' = true) (hb : bytes * n ≤ 281474976710656) (hn63 : n ≤ 9223372036854775807) (hd : Nat.blt d st.n = true)
    (hk : K ((st.push (.mk e false false 1 (List.replicate n (.val z)))).put d (.osl st.H.length 1 0 n))) : OpTri P ⟨some d, .makeSlice t x y, ty, pos, aft, g⟩ K st := op_makeSlice hE hx hy nx ny (nat_of h0 hi) hone hb hn63 hd hk
end

/- Back at a loop's head -/
def noM : Nat → Option Nat := fun _ => none
def FrOk (fr : List (Nat × AV)) (ids : List Nat) : List (Nat × AV) → Prop
  | [] => True
  | (t, x) :: r => (get fr t).ren (keepMap ids) = x ∧ FrOk fr ids r
theorem FrOk.eq {fr : List (Nat × AV)} {ids : List Nat} : ∀ {s : List (Nat × AV)}, FrOk fr ids s → pickFr fr ids (s.map (·.1)) = s
  | [], _ => rfl
  | (t, x) :: r, h => by
    have := FrOk.eq (s := r) h.2
    simp only [pickFr] at this ⊢
    simp only [List.map_cons, h.1, this]
def HOk (H : List AObj) (ids : List Nat) : List Nat → List AObj → Prop
  | [], [] => True
  | i :: is, o :: r => ((H[i]?).getD default).ren (keepMap ids) = o ∧ HOk H ids is r
  | _, _ => False
theorem HOk.eq {H : List AObj} {ids : List Nat} : ∀ {is : List Nat} {s : List AObj}, HOk H ids is s → is.map (fun id => ((H[id]?).getD default).ren (keepMap ids)) = s
  | [], [], _ => rfl
  | i :: is, o :: r, h => by simp only [List.map_cons, h.1, HOk.eq h.2]
  | [], _ :: _, h => h.elim
  | _ :: _, [], h => h.elim
theorem le_kept {st s : St} (ids : List Nat) (hn : nodupB ids = true) (hlt : ids.all (fun id => Nat.blt id st.H.length) = true) (hm : ∀ i k, s.m i = some k → (st.m i).bind (keepMap ids) = some k) (hsn : st.n = s.n)
    (hfr : FrOk st.fr ids s.fr) (hH : HOk st.H ids ids s.H) : Le st s := by
  refine (le_keep (s.fr.map (·.1)) ids hn hlt).trans ?_
  obtain ⟨n, m, fr, H⟩ := s
  have e1 := hfr.eq
  have e2 : pick st.H ids = H := hH.eq
  simp only at e1 e2 hsn hm
  intro ρ0 Z w ρ a hs
  refine ⟨Z, ρ, ⟨fun i k q h1 h2 => hs.rn i k q (hm i k h1) h2, hs.defers, hs.size.trans hsn, fun t ht => ?_, ?_, hs.zs⟩, Ext.refl _ _ _⟩
  · have := hs.fr t (by show t < st.n; rw [hsn]; exact ht)
    simp only [St.keep, e1] at this
    exact this
  · have := hs.H
    simp only [St.keep, e2] at this
    exact this
end Go.Av

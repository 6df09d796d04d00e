/- A text of the proof of JournalTorn: AvVar -/
import Derived.Test.YtjalgcjllddmhaaAvMem
/- Loads and stores. -/
namespace Go.Av

theorem flat_append : ∀ (a b : List AV), flat (a ++ b) = flat a ++ flat b
  | [], b => rfl
  | x :: a, b => by simp [flat, flat_append a b]
theorem flat_length {sz : Nat} : ∀ {es : List AV}, (∀ e ∈ es, e.cells.length = sz) → (flat es).length = es.length * sz
  | [], _ => by simp [flat]
  | x :: r, h => by
    have h1 := h x (by simp)
    have h2 := flat_length (es := r) (fun e he => h e (by simp [he]))
    simp [flat, h1, h2, Nat.add_mul]; omega
theorem flat_get {sz : Nat} : ∀ {es : List AV}, (∀ e ∈ es, e.cells.length = sz) → ∀ {i j : Nat} {e : AV}, es[i]? = some e → j < sz → (flat es)[i * sz + j]? = e.cells[j]?
  | [], _, i, j, e, he, _ => by simp at he
  | x :: r, h, 0, j, e, he, hj => by
    simp at he; subst he
    have h1 := h x (by simp)
    simp only [flat, Nat.zero_mul, Nat.zero_add]
    rw [List.getElem?_append_left (by omega)]
  | x :: r, h, i + 1, j, e, he, hj => by
    have h1 := h x (by simp)
    have ih := flat_get (es := r) (fun e he => h e (by simp [he])) (i := i) (j := j) (e := e) (by simpa using he) hj
    simp only [flat]
    rw [List.getElem?_append_right (by rw [h1, Nat.add_mul]; omega), h1, show (i + 1) * sz + j - sz = i * sz + j by rw [Nat.add_mul]; omega]
    exact ih
theorem flat_drop {sz : Nat} : ∀ {es : List AV}, (∀ e ∈ es, e.cells.length = sz) → ∀ (i : Nat), (flat es).drop (i * sz) = flat (es.drop i)
  | es, _, 0 => by simp
  | [], _, i + 1 => by simp [flat]
  | x :: r, h, i + 1 => by
    have h1 := h x (by simp)
    simp only [flat, List.drop_succ_cons]
    rw [List.drop_append, h1, show (i + 1) * sz - sz = i * sz by rw [Nat.add_mul]; omega, List.drop_of_length_le (by rw [h1, Nat.add_mul]; omega)]
    simpa using flat_drop (es := r) (fun e he => h e (by simp [he])) i
theorem flat_take {sz : Nat} : ∀ {es : List AV}, (∀ e ∈ es, e.cells.length = sz) → ∀ (i : Nat), (flat es).take (i * sz) = flat (es.take i)
  | es, _, 0 => by simp [flat]
  | [], _, i + 1 => by simp [flat]
  | x :: r, h, i + 1 => by
    have h1 := h x (by simp)
    simp only [flat, List.take_succ_cons]
    rw [List.take_append, h1, show (i + 1) * sz - sz = i * sz by rw [Nat.add_mul]; omega, List.take_of_length_le (by rw [h1, Nat.add_mul]; omega)]
    rw [flat_take (es := r) (fun e he => h e (by simp [he])) i]
theorem take_mid {α : Type} (A C D : List α) (j : Nat) (h : j ≤ C.length) : (A ++ (C ++ D)).take (A.length + j) = A ++ C.take j := by
  rw [List.take_append, List.take_of_length_le (by omega), show A.length + j - A.length = j by omega, List.take_append_of_le_length h]
theorem drop_mid {α : Type} (A C D : List α) (j : Nat) (h : j ≤ C.length) : (A ++ (C ++ D)).drop (A.length + j) = C.drop j ++ D := by
  rw [List.drop_append, List.drop_of_length_le (by omega), show A.length + j - A.length = j by omega, List.drop_append_of_le_length h]; rfl
theorem flat_set {sz : Nat} {es : List AV} (h : ∀ e ∈ es, e.cells.length = sz) {i j : Nat} {e e' : AV} {new : List AV} (he : es[i]? = some e) (hj : j + new.length ≤ sz) (he' : e'.cells = e.cells.take j ++ new ++ e.cells.drop (j + new.length)) :
    flat (es.set i e') = (flat es).take (i * sz + j) ++ new ++ (flat es).drop (i * sz + j + new.length) := by
  have hlt := (List.getElem?_eq_some_iff.1 he).1
  have hee := (List.getElem?_eq_some_iff.1 he).2
  have h1 : es = es.take i ++ e :: es.drop (i + 1) := by rw [← hee]; simp
  have hlen : (es.take i).length = i := by simp; omega
  have hft : (flat (es.take i)).length = i * sz := by rw [flat_length (fun e he => h e (List.mem_of_mem_take he)), hlen]
  have hel : e.cells.length = sz := h e (List.mem_of_getElem? he)
  have h2 : flat es = flat (es.take i) ++ (e.cells ++ flat (es.drop (i + 1))) := by
    have := congrArg flat h1
    rw [flat_append, flat] at this
    exact this
  have h3 : es.set i e' = es.take i ++ e' :: es.drop (i + 1) := by rw [List.set_eq_take_append_cons_drop]; simp [hlt]
  rw [h3, flat_append, flat, he', h2, ← hft]
  rw [take_mid _ _ _ _ (by omega), Nat.add_assoc, drop_mid _ _ _ _ (by omega)]
  simp

section
variable {ρ0 : Loc} {Z : Nat → Prop} {w : World} {ρ : Loc} {a : Act} {st : St}

/-- A cell of an own object. -/
theorem HR.cell {H : List AObj} (h : HR Z w ρ H) {id b : Nat} {o : AObj} (hid : ρ id = some (some b)) (ho : H[id]? = some o) {i j : Nat} {e c : AV} (he : o.es[i]? = some e) (hc : e.cells[j]? = some c) :
    ∃ v, w.cell? ⟨b, i * o.sz + j, none⟩ = some v ∧ VR Z w ρ c v := by
  obtain ⟨q, hq, hor⟩ := h.obj id o ho
  rw [hid] at hq; cases hq
  cases hor with
  | real _ vs extra hh hv hs h1 hf =>
    have hel := hs e (List.mem_of_getElem? he)
    have hj : j < o.sz := by have := (List.getElem?_eq_some_iff.1 hc).1; omega
    have hg := flat_get hs he hj
    rw [hc] at hg
    obtain ⟨v, hv1, hv2⟩ := hv.get _ _ hg
    refine ⟨v, ?_, ?_⟩
    · have hlt : i * o.sz + j < vs.length := (List.getElem?_eq_some_iff.1 hv1).1
      simp only [World.cell?, hh]
      simp only [Option.isSome_none, Bool.false_eq_true, if_false, List.getElem?_toArray]
      rw [List.getElem?_append_left hlt]; exact hv1
    · refine hv2.mono (Keeps.refl _ _) ?_
      cases o.refs
      · exact noLoc_le _
      · exact Loc.le_refl _

/-- Several cells of an own object's element. -/
theorem HR.cellsAt {H : List AObj} (h : HR Z w ρ H) {id b : Nat} {o : AObj} (hid : ρ id = some (some b)) (ho : H[id]? = some o) {i : Nat} {e : AV} (he : o.es[i]? = some e) :
    ∀ (n j : Nat), j + n ≤ e.cells.length → ∃ vs : List Value, (∀ k v, vs[k]? = some v → w.cell? ⟨b, i * o.sz + j + k, none⟩ = some v) ∧ VRs Z w ρ ((e.cells.drop j).take n) vs
  | 0, j, _ => ⟨[], by simp, by simpa using VRs.nil⟩
  | n + 1, j, hj => by
    obtain ⟨vs, h1, h2⟩ := cellsAt h hid ho he n (j + 1) (by omega)
    have hlt : j < e.cells.length := by omega
    obtain ⟨v, hv, hr⟩ := h.cell hid ho he (List.getElem?_eq_getElem hlt)
    refine ⟨v :: vs, ?_, ?_⟩
    · intro k u hk
      cases k with
      | zero => simp at hk; subst hk; simpa using hv
      | succ k =>
        have := h1 k u (by simpa using hk)
        rw [show i * o.sz + j + (k + 1) = i * o.sz + (j + 1) + k by omega]; exact this
    · rw [List.drop_eq_getElem_cons hlt, List.take_succ_cons]
      exact .cons hr h2

theorem addr_add (b off n : Nat) : (⟨b, off, none⟩ : Addr).add n = ⟨b, off + n, none⟩ := by
  unfold Addr.add; split <;> simp_all

/-- A variable of several cells, or of one. -/
theorem run_loadVar_agg {P : Program} {t n b off : Nat} {vs : List Value} (ht : aggT P t = some true) (hn : szT P t = some n) (hl : vs.length = n) (h : ∀ k v, vs[k]? = some v → w.cell? ⟨b, off + k, none⟩ = some v) :
    (loadVar t ⟨b, off, none⟩).run P w = .ok (.agg vs.toArray) w := by
  have := run_loadCells_list (P := P) w ⟨b, off, none⟩ vs (fun j v hj => by rw [addr_add]; exact h j v hj)
  simp only [loadVar, Sem.run_bind, run_isAgg ht, Result.andThen, if_true, run_sizeOf hn]
  rw [← hl]
  simp [this, Result.andThen]
theorem run_loadVar_one {P : Program} {t b off : Nat} {v : Value} (ht : aggT P t = some false) (h : w.cell? ⟨b, off, none⟩ = some v) :
    (loadVar t ⟨b, off, none⟩).run P w = .ok v w := by
  simp only [loadVar, Sem.run_bind, run_isAgg ht, Result.andThen, Bool.false_eq_true, if_false, run_load, h]

/-- Cells stored into an own object's element. -/
theorem SR.store {P : Program} {id b : Nat} {o : AObj} (hs : SR ρ0 Z w ρ a st) (hid : ρ id = some (some b)) (ho : st.H[id]? = some o) (hfz : o.fz = false) {i j : Nat} {e e' : AV} {ncs : List AV} {news : List Value}
    (he : o.es[i]? = some e) (hv : VRs Z w (if o.refs then ρ else noLoc) ncs news) (hj : j + ncs.length ≤ o.sz) (he' : e'.cells = e.cells.take j ++ ncs ++ e.cells.drop (j + ncs.length)) (h1 : ∀ v ∈ news, v.oneCell' = true) :
    ∃ w', (storeCells ⟨b, i * o.sz + j, none⟩ news).run P w = .ok () w' ∧ SR ρ0 Z w' ρ a (st.setO id { o with es := o.es.set i e' }) ∧ Ext Z (Own ρ) w Z (Own ρ) w' := by
  obtain ⟨q, hq, hor⟩ := hs.H.obj id o ho
  rw [hid] at hq; cases hq
  cases hor with
  | real _ vs extra hh hrel hsz hone hf =>
    have hfl := flat_set hsz he hj he'
    have hl1 := hrel.length
    have hl2 := hv.length
    have hfl2 := flat_length hsz
    have hlt := (List.getElem?_eq_some_iff.1 he).1
    have hle : i * o.sz + j + news.length ≤ vs.length := by
      rw [hl1, hfl2]
      have : (i + 1) * o.sz ≤ o.es.length * o.sz := Nat.mul_le_mul_right _ hlt
      rw [Nat.add_mul] at this
      omega
    let us := vs.take (i * o.sz + j) ++ news ++ vs.drop (i * o.sz + j + news.length)
    have hul : us.length = vs.length := by simp [us]; omega
    have hst := run_storeCells_at P b (i * o.sz + j) o.ty news 0 (vs ++ extra).toArray w hh (by simp; omega) h1
    have hnew : ((vs ++ extra).toArray.toList.take (i * o.sz + j + 0) ++ news ++ (vs ++ extra).toArray.toList.drop (i * o.sz + j + 0 + news.length)).toArray = (us ++ extra).toArray := by
      simp only [Nat.add_zero, us]
      congr 1
      rw [List.take_append_of_le_length (by omega), List.drop_append_of_le_length (by omega)]
      simp
    rw [hnew] at hst
    have hrw : Rewrote w (w.setRow b (us ++ extra).toArray) b (vs ++ extra).toArray (us ++ extra).toArray o.ty := Rewrote.setRow hh (by simp [hul])
    have hrelu : VRs Z w (if o.refs then ρ else noLoc) (flat (o.es.set i e')) us := by
      rw [hfl, ← hl2]
      exact ((hrel.take _).append hv).append (hrel.drop _)
    obtain ⟨hs', hx⟩ := hs.rewrite (o' := { o with es := o.es.set i e' }) hid ho hfz hfz rfl hrw hrelu (by
        intro x hx
        rcases List.mem_or_eq_of_mem_set hx with hx | hx
        · exact hsz x hx
        · subst hx
          have := hsz e (List.mem_of_getElem? he)
          rw [he']; simp; omega)
      (by
        intro v hvu
        simp only [us, List.mem_append] at hvu
        rcases hvu with (hvu | hvu) | hvu
        · exact hone v (List.mem_of_mem_take hvu)
        · exact h1 v hvu
        · exact hone v (List.mem_of_mem_drop hvu))
    exact ⟨_, hst, hs', hx⟩
end

section
variable {P : Program} {K : St → Prop} {st : St} {ty : TypeId} {pos : String} {aft : Array Edge} {g : Option (Nat × Bool)} {d : Nat}

theorem op_load {t : TypeId} {x : Operand} {id sz i j : Nat} {o : AObj} {e c : AV} (hx : st.ev x = .ptr id sz i j) (hn : opIn st.n x = true) (hd : Nat.blt d st.n = true) (ho : st.H[id]? = some o) (hsz : o.sz = sz)
    (he : o.es[i]? = some e) (hc : e.cells[j]? = some c) (ht : aggT P t = some false) (hk : K (st.put d c)) : OpTri P ⟨some d, .load t x, ty, pos, aft, g⟩ K st :=
  op_pure rfl hd (fun ρ0 Z w ρ a hs => by
    have h := hs.eva hx hn
    generalize hv : a.eval x = v at h
    cases h with
    | ptr hid =>
      obtain ⟨u, hu, hr⟩ := hs.H.cell hid ho he hc
      rw [hsz] at hu
      exact ⟨u, by simp [execOp, hv, Instr.loadAt, Instr.sureAddr, run_loadVar_one ht hu], hr⟩) hk

theorem op_load_agg {t : TypeId} {x : Operand} {id sz i n : Nat} {o : AObj} {cs : List AV} (hx : st.ev x = .ptr id sz i 0) (hn : opIn st.n x = true) (hd : Nat.blt d st.n = true) (ho : st.H[id]? = some o) (hsz : o.sz = sz)
    (he : o.es[i]? = some (.agg cs)) (ht : aggT P t = some true) (hz : szT P t = some n) (hl : cs.length = n) (hk : K (st.put d (.agg cs))) : OpTri P ⟨some d, .load t x, ty, pos, aft, g⟩ K st :=
  op_pure rfl hd (fun ρ0 Z w ρ a hs => by
    have h := hs.eva hx hn
    generalize hv : a.eval x = v at h
    cases h with
    | ptr hid =>
      obtain ⟨vs, h1, h2⟩ := hs.H.cellsAt hid ho he n 0 (by simp [AV.cells, hl])
      rw [hsz] at h1
      have h3 : VRs Z w ρ cs vs := by simpa [AV.cells, ← hl] using h2
      refine ⟨.agg vs.toArray, ?_, .agg rfl h3⟩
      simp only [execOp, hv, Instr.loadAt, Instr.sureAddr, Sem.run_bind, Sem.run_pure, Result.andThen]
      rw [run_loadVar_agg (b := _) (off := i * sz + 0) ht hz (by rw [h3.length, hl]) h1]) hk

/-- A part of an aggregate. -/
theorem op_load_part {t : TypeId} {x : Operand} {id sz i j n : Nat} {o : AObj} {e : AV} {cs : List AV} (hx : st.ev x = .ptr id sz i j) (hn : opIn st.n x = true) (hd : Nat.blt d st.n = true) (ho : st.H[id]? = some o) (hsz : o.sz = sz)
    (he : o.es[i]? = some e) (ht : aggT P t = some true) (hz : szT P t = some n) (hle : Nat.ble (j + n) e.cells.length = true) (hc : (e.cells.drop j).take n = cs) (hk : K (st.put d (.agg cs))) : OpTri P ⟨some d, .load t x, ty, pos, aft, g⟩ K st :=
  op_pure rfl hd (fun ρ0 Z w ρ a hs => by
    have h := hs.eva hx hn
    generalize hv : a.eval x = v at h
    cases h with
    | ptr hid =>
      have hle' : j + n ≤ e.cells.length := by simpa using hle
      obtain ⟨vs, h1, h2⟩ := hs.H.cellsAt hid ho he n j hle'
      rw [hsz] at h1
      rw [hc] at h2
      have hl : vs.length = n := by rw [h2.length, ← hc]; simp; omega
      refine ⟨.agg vs.toArray, ?_, .agg rfl h2⟩
      simp only [execOp, hv, Instr.loadAt, Instr.sureAddr, Sem.run_bind, Sem.run_pure, Result.andThen]
      rw [run_loadVar_agg (b := _) (off := i * sz + j) ht hz hl h1]) hk

theorem op_load_rp {t : TypeId} {x : Operand} {cs : List AV} {j : Nat} {c : AV} (hx : st.ev x = .rp cs j) (hn : opIn st.n x = true) (hd : Nat.blt d st.n = true) (hc : cs[j]? = some c) (ht : aggT P t = some false) (hk : K (st.put d c)) :
    OpTri P ⟨some d, .load t x, ty, pos, aft, g⟩ K st :=
  op_pure rfl hd (fun ρ0 Z w ρ a hs => by
    have h := hs.eva hx hn
    generalize hv : a.eval x = v at h
    cases h with
    | rp hz hm hvs =>
      obtain ⟨u, hu, hr⟩ := hvs.get j c hc
      exact ⟨u, by simp [execOp, hv, Instr.loadAt, Instr.sureAddr, run_loadVar_one ht (hm j u hu).2], hr.mono (Keeps.refl _ _) (noLoc_le _)⟩) hk

theorem op_load_rp_agg {t : TypeId} {x : Operand} {cs : List AV} {n : Nat} (hx : st.ev x = .rp cs 0) (hn : opIn st.n x = true) (hd : Nat.blt d st.n = true) (ht : aggT P t = some true) (hz : szT P t = some n) (hl : cs.length = n)
    (hk : K (st.put d (.agg cs))) : OpTri P ⟨some d, .load t x, ty, pos, aft, g⟩ K st :=
  op_pure rfl hd (fun ρ0 Z w ρ a hs => by
    have h := hs.eva hx hn
    generalize hv : a.eval x = v at h
    cases h with
    | rp hzz hm hvs =>
      rename_i vs
      refine ⟨.agg vs.toArray, ?_, .agg rfl (hvs.mono (Keeps.refl _ _) (noLoc_le _))⟩
      simp only [execOp, hv, Instr.loadAt, Instr.sureAddr, Sem.run_bind, Sem.run_pure, Result.andThen, Nat.add_zero]
      rw [run_loadVar_agg ht hz (by rw [hvs.length, hl]) (fun k v hk => (hm k v hk).2)]) hk
theorem op_load_rp_part {t : TypeId} {x : Operand} {cs cs' : List AV} {j n : Nat} (hx : st.ev x = .rp cs j) (hn : opIn st.n x = true) (hd : Nat.blt d st.n = true) (ht : aggT P t = some true) (hz : szT P t = some n) (hle : Nat.ble (j + n) cs.length = true)
    (hc : (cs.drop j).take n = cs') (hk : K (st.put d (.agg cs'))) : OpTri P ⟨some d, .load t x, ty, pos, aft, g⟩ K st :=
  op_pure rfl hd (fun ρ0 Z w ρ a hs => by
    have h := hs.eva hx hn
    generalize hv : a.eval x = v at h
    cases h with
    | rp hzz hm hvs =>
      rename_i vs
      have hle' : j + n ≤ cs.length := by simpa using hle
      have hl := hvs.length
      refine ⟨.agg ((vs.drop j).take n).toArray, ?_, .agg rfl (by rw [← hc]; exact (((hvs.drop j).take n).mono (Keeps.refl _ _) (noLoc_le _)))⟩
      simp only [execOp, hv, Instr.loadAt, Instr.sureAddr, Sem.run_bind, Sem.run_pure, Result.andThen]
      rw [run_loadVar_agg (vs := (vs.drop j).take n) ht hz (by simp; omega) (fun k v hk => by
        have hkn : k < n := by
          have := (List.getElem?_eq_some_iff.1 hk).1
          simp at this; omega
        rw [List.getElem?_take_of_lt hkn, List.getElem?_drop] at hk
        have := (hm _ v hk).2
        rwa [← Nat.add_assoc] at this)]) hk

/-- A store: of one cell, or of a whole element. -/
theorem op_store_gen {t : TypeId} {x y : Operand} {id sz i j n : Nat} {o : AObj} {e e' v : AV} (hx : st.ev x = .ptr id sz i j) (hy : st.ev y = v) (nx : opIn st.n x = true) (ny : opIn st.n y = true)
    (ho : st.H[id]? = some o) (hsz : o.sz = sz) (hfz : o.fz = false) (he : o.es[i]? = some e) (hz : szT P t = some n) (hok : v.ok = true) (h1 : v.cells.all AV.one = true) (hl : v.cells.length = n) (hp : o.refs = true ∨ v.pureB = true)
    (hj : j + n ≤ sz) (he' : e'.cells = e.cells.take j ++ v.cells ++ e.cells.drop (j + n)) (hk : K (st.setO id { o with es := o.es.set i e' })) :
    OpTri P ⟨none, .store t x y, ty, pos, aft, g⟩ K st := by
  intro ρ0 Z w ρ a hs
  have h := hs.eva hx nx
  have hvy := hs.eva hy ny
  generalize hv : a.eval x = ax at h
  cases h with
  | ptr hid =>
    have hc := hvy.cellsOf hok
    have hpp : VRs Z w (if o.refs then ρ else noLoc) v.cells (a.eval y).cells.toList := by
      cases hr : o.refs
      · have := (hvy.pure (by simpa [hr] using hp)).cellsOf hok
        simpa [hr] using this
      · simpa [hr] using hc
    obtain ⟨w', hrun, hs', hxt⟩ := hs.store (P := P) (j := j) (e' := e') hid ho hfz he hpp (by rw [hl, hsz]; exact hj) (by rw [hl]; exact he') (hc.ones h1)
    have hcs : (a.eval y).cells.size = n := by have := hc.length; simpa [hl] using this
    unfold Oper.wp
    have : (execOp a.eval ⟨none, .store t x y, ty, pos, aft, g⟩).run P w = .ok .skip w' := by
      rw [hsz] at hrun
      simp only [execOp, hv, Instr.storeAt, Instr.sureAddr, Sem.run_bind, Sem.run_pure, storeVar, run_sizeOf hz, Result.andThen, hcs, ne_eq, not_true_eq_false, if_false, hrun]
    rw [this]
    exact ⟨_, Z, ρ, hk, by simpa [Act.put] using hs', hxt⟩

theorem op_store {t : TypeId} {x y : Operand} {id sz i j : Nat} {o : AObj} {cs : List AV} {v : AV} (hx : st.ev x = .ptr id sz i j) (hy : st.ev y = v) (nx : opIn st.n x = true) (ny : opIn st.n y = true)
    (ho : st.H[id]? = some o) (hsz : o.sz = sz) (hfz : o.fz = false) (he : o.es[i]? = some (.agg cs)) (hcl : cs.length = sz) (hz : szT P t = some 1) (ht : aggT P t = some false) (hok : v.one = true) (hp : o.refs = true ∨ v.pureB = true)
    (hj : Nat.blt j sz = true) (hk : K (st.setO id { o with es := o.es.set i (.agg (cs.set j v)) })) : OpTri P ⟨none, .store t x y, ty, pos, aft, g⟩ K st := by
  have hc : v.cells = [v] := by cases v <;> simp_all [AV.one, AV.cells]
  have hok' : v.ok = true := by cases v <;> simp_all [AV.one, AV.ok]
  have hj' : j < sz := by simpa [Nat.blt_eq] using hj
  exact op_store_gen hx hy nx ny ho hsz hfz he hz hok' (by simp [hc, hok]) (by simp [hc]) hp (by omega) (by
    simp only [AV.cells]
    rw [List.set_eq_take_append_cons_drop, if_pos (by omega)]
    show _ = _ ++ v.cells ++ _
    rw [hc]; simp) hk

/-- A whole element. -/
theorem op_store_el {t : TypeId} {x y : Operand} {id sz i : Nat} {o : AObj} {e v : AV} (hx : st.ev x = .ptr id sz i 0) (hy : st.ev y = v) (nx : opIn st.n x = true) (ny : opIn st.n y = true)
    (ho : st.H[id]? = some o) (hsz : o.sz = sz) (hfz : o.fz = false) (he : o.es[i]? = some e) (hel : e.cells.length = sz) (hz : szT P t = some sz) (hok : v.ok = true) (h1 : v.cells.all AV.one = true) (hl : v.cells.length = sz) (hp : o.refs = true ∨ v.pureB = true)
    (hk : K (st.setO id { o with es := o.es.set i v })) : OpTri P ⟨none, .store t x y, ty, pos, aft, g⟩ K st :=
  op_store_gen hx hy nx ny ho hsz hfz he hz hok h1 hl hp (by omega) (by simp [List.drop_of_length_le (Nat.le_of_eq hel)]) hk
end
end Go.Av

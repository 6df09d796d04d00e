/- A text of the proof of JournalTorn: AvApp -/
import Derived.Test.YtjalgcjllddmhaaAvSl
/- Append; slices that the call makes. -/
namespace Go.Av

def killM (id : Nat) : Nat → Option Nat := fun i => bif Nat.beq i id then none else some i
def killO (id : Nat) (H : List AObj) (o : AObj) : List AObj := (H.map (AObj.ren (killM id))).set id o
def killF (id : Nat) (fr : List (Nat × AV)) : List (Nat × AV) := fr.map fun p => (p.1, p.2.ren (killM id))
/-- Object 'id' becomes 'o'; what refers to it as it was is forgotten. -/
def St.kill (st : St) (id : Nat) (o : AObj) : St := ⟨st.n, fun i => (st.m i).bind (killM id), killF id st.fr, killO id st.H o⟩

theorem get_killF (id : Nat) (t : Nat) : ∀ fr, get (killF id fr) t = (get fr t).ren (killM id)
  | [] => rfl
  | (k, x) :: r => by
    simp only [killF, List.map_cons, get]
    cases Nat.beq k t with
    | true => rfl
    | false => exact get_killF id t r

section
variable {ρ0 : Loc} {Z : Nat → Prop} {w w' : World} {ρ : Loc} {a : Act} {st : St}

theorem Renames_kill (ρ : Loc) (id : Nat) (q : Option Nat) : Renames (killM id) ρ (ρ.upd id q) := by
  intro i k p hm hp
  unfold killM at hm
  cases hb : Nat.beq i id with
  | true => rw [hb] at hm; simp at hm
  | false =>
    rw [hb] at hm
    simp at hm; subst hm
    have : i ≠ id := fun e => by rw [e] at hb; simp at hb
    rw [Loc.upd_ne _ _ this]; exact hp

/-- Object 'id' gets another place, new or its own. -/
theorem SR.refillO {id : Nat} {q : Option Nat} {o o' : AObj} (hs : SR ρ0 Z w ρ a st) (ho : st.H[id]? = some o) (hk : Keeps Z w Z w') (hz : ∀ b, Z b → b < w'.heap.size)
    (hw : ∀ b, (∃ i, i ≠ id ∧ ρ i = some (some b)) → w'.heap[b]? = w.heap[b]?) (hgo : ∀ g, q = some g → ∀ i, i ≠ id → ρ i ≠ some (some g)) (hor' : OR Z w' (ρ.upd id q) o' q) :
    SR ρ0 Z w' (ρ.upd id q) a (st.kill id o') := by
  have hren := Renames_kill ρ id q
  have hlt := (List.getElem?_eq_some_iff.1 ho).1
  refine ⟨hs.rn.comp hren, hs.defers, hs.size, fun t ht => ?_, ⟨?_, ?_, ?_⟩, hz⟩
  · show VR _ _ _ (get (killF id st.fr) t) _
    rw [get_killF]; exact ((hs.fr t ht).ren hren).mono hk (Loc.le_refl _)
  · intro i q hq
    simp only [St.kill, killO, List.length_set, List.length_map]
    by_cases e : i = id
    · subst e; exact hlt
    · rw [Loc.upd_ne _ _ e] at hq; exact hs.H.dom i q hq
  · intro i x hx
    simp only [St.kill, killO] at hx
    by_cases e : i = id
    · subst e
      simp [hlt] at hx
      subst hx
      exact ⟨q, Loc.upd_self _ _ _, hor'⟩
    · rw [List.getElem?_set_ne (Ne.symm e), List.getElem?_map] at hx
      cases hxi : st.H[i]? with
      | none => simp [hxi] at hx
      | some y =>
        simp [hxi] at hx
        subst hx
        obtain ⟨q, hq, hor⟩ := hs.H.obj i y hxi
        refine ⟨q, by rw [Loc.upd_ne _ _ e]; exact hq, ?_⟩
        have h2 := hor.ren hren
        exact h2.mono hk (Loc.le_refl _) fun b hb => ⟨hw b ⟨i, e, by rw [hq, hb]⟩, Iff.rfl⟩
  · intro i j b hi hj
    by_cases e : i = id
    · by_cases e' : j = id
      · rw [e, e']
      · subst e
        rw [Loc.upd_self] at hi
        rw [Loc.upd_ne _ _ e'] at hj
        simp at hi
        exact absurd hj (hgo b hi j e')
    · by_cases e' : j = id
      · subst e'
        rw [Loc.upd_self] at hj
        rw [Loc.upd_ne _ _ e] at hi
        simp at hj
        exact absurd hi (hgo b hj i e)
      · rw [Loc.upd_ne _ _ e] at hi
        rw [Loc.upd_ne _ _ e'] at hj
        exact hs.H.inj i j b hi hj

theorem SR.refill {id g : Nat} {o o' : AObj} {us extra : List Value} (hs : SR ρ0 Z w ρ a st) (ho : st.H[id]? = some o) (hk : Keeps Z w Z w') (hz : ∀ b, Z b → b < w'.heap.size)
    (hw : ∀ b, (∃ i, i ≠ id ∧ ρ i = some (some b)) → w'.heap[b]? = w.heap[b]?) (hg : w'.heap[g]? = some (.cells (us ++ extra).toArray o'.ty (0, 0))) (hgo : ∀ i, i ≠ id → ρ i ≠ some (some g)) (hgz : ¬ Z g)
    (hfz' : o'.fz = false) (hrel : VRs Z w' (if o'.refs then ρ.upd id (some g) else noLoc) (flat o'.es) us) (hsz : ∀ e ∈ o'.es, e.cells.length = o'.sz) (h1 : ∀ v ∈ us, v.oneCell' = true) :
    SR ρ0 Z w' (ρ.upd id (some g)) a (st.kill id o') :=
  hs.refillO ho hk hz hw (fun g' hg' => by simp at hg'; subst hg'; exact hgo) (.real g us extra hg hrel hsz h1 (by rw [hfz']; exact hgz))

/- ### what is appended -/

/-- 'y' reads as the elements 'ys'. 'pr': they refer to no own object. -/
def Src (st : St) (y : AV) (sz : Nat) (ys : List AV) (pr : Bool) : Prop :=
  ∀ ρ0 Z w ρ a v, SR ρ0 Z w ρ a st → VR Z w ρ y v → ∃ ad c vs, v = .slice ad ys.length c ∧ VRs Z w (if pr then noLoc else ρ) (flat ys) vs ∧ (∀ e ∈ ys, e.cells.length = sz) ∧ (∀ u ∈ vs, u.oneCell' = true) ∧
    (ys ≠ [] → ∃ b off, ad = some ⟨b, off, none⟩ ∧ ∀ (k : Nat) (u : Value), vs[k]? = some u → w.cell? ⟨b, off + k, none⟩ = some u)

theorem Src.sl {sz : Nat} {ys : List AV} : Src st (.sl sz ys) sz ys true := by
  intro ρ0 Z w ρ a v _ h
  cases h with
  | slnil => exact ⟨_, _, [], rfl, .nil, by simp, by simp, fun h => absurd rfl h⟩
  | sl h0 hn hz hs hc hm hv =>
    refine ⟨_, _, _, by rw [hn], hv, hs, ?_, fun _ => ⟨_, _, rfl, fun k u hk => (hm k u hk).2⟩⟩
    intro u hu
    obtain ⟨k, hk⟩ := List.getElem?_of_mem hu
    exact (hm k u hk).1
theorem Src.nil {q : Option Addr} {c sz : Nat} : Src st (.val (.slice q 0 c)) sz [] true := by
  intro ρ0 Z w ρ a v _ h
  have := h.val_eq; subst this
  exact ⟨_, _, [], rfl, .nil, by simp, by simp, fun h => absurd rfl h⟩
theorem Src.osl {id sz i len : Nat} {o : AObj} {ys : List AV} (ho : st.H[id]? = some o) (hsz : o.sz = sz) (hys : (o.es.drop i).take len = ys) (hl : i + len ≤ o.es.length) : Src st (.osl id sz i len) sz ys (!o.refs) := by
  intro ρ0 Z w ρ a v hs h
  have hyl : ys.length = len := by rw [← hys]; simp; omega
  cases h with
  | osl hid hc hr =>
    rename_i cap q ad
    obtain ⟨q', hq', hor⟩ := hs.H.obj id o ho
    rw [hid] at hq'; cases hq'
    cases hor with
    | virt he =>
      rw [he] at hl
      simp at hl
      have : ys = [] := List.eq_nil_of_length_eq_zero (by omega)
      subst this
      exact ⟨ad, cap, [], by simp at hyl; rw [← hyl]; rfl, .nil, by simp, by simp, fun h => absurd rfl h⟩
    | real b vs extra hh hv hse h1 hf =>
      refine ⟨ad, cap, (vs.drop (i * sz)).take (len * sz), by rw [hyl], ?_, ?_, ?_, ?_⟩
      · rw [← hys, ← flat_take (sz := sz) (fun e he => hsz ▸ hse e (List.mem_of_mem_drop he)), ← flat_drop (sz := sz) (fun e he => hsz ▸ hse e he)]
        have := (hv.drop (i * sz)).take (len * sz)
        cases hrf : o.refs <;> simpa [hrf] using this
      · intro e he; rw [← hys] at he
        exact hsz ▸ hse e (List.mem_of_mem_drop (List.mem_of_mem_take he))
      · exact fun u hu => h1 u (List.mem_of_mem_drop (List.mem_of_mem_take hu))
      · intro hne
        have hlen : 0 < len := by
          rcases Nat.eq_zero_or_pos len with h0 | h0
          · exact absurd (List.eq_nil_of_length_eq_zero (by omega)) hne
          · exact h0
        rcases hr with hr | ⟨b', m, tt, h3, h4, h5, h6⟩
        · omega
        · cases h3
          refine ⟨b, i * sz, h4, fun k u hk => ?_⟩
          have hkn : k < len * sz := by
            have := (List.getElem?_eq_some_iff.1 hk).1
            simp at this; omega
          rw [List.getElem?_take_of_lt hkn, List.getElem?_drop] at hk
          have hlt : i * sz + k < vs.length := (List.getElem?_eq_some_iff.1 hk).1
          simp only [World.cell?, hh]
          simp only [Option.isSome_none, Bool.false_eq_true, if_false, List.getElem?_toArray]
          rw [List.getElem?_append_left hlt]; exact hk
end

section
variable {P : Program} {K : St → Prop} {st : St} {ty : TypeId} {pos : String} {aft : Array Edge} {g : Option (Nat × Bool)} {d : Nat}

/-- The element type's row. -/
def Elem (P : Program) (t e sz bytes : Nat) (z : Value) : Prop := P.underlying t = some (.slice e) ∧ ∃ i, P.info? e = some i ∧ i.zero = some z ∧ i.size = sz ∧ i.bytes = bytes ∧ z.cells.size = sz ∧ 0 < sz ∧ 0 < bytes

theorem size_zc (z : Array Value) (n : Nat) : (Builtin.zeroCells z n).size = n * z.size := by simp [Builtin.zeroCells]

theorem Ext.own_ext {Z O O' : Nat → Prop} {w : World} (h : ∀ b, O' b → O b ∨ w.heap.size ≤ b) : Ext Z O w Z O' w :=
  { Ext.refl Z O w with on := h }

theorem run_append_zero (t ty e : TypeId) (i : TypeInfo) (ht : P.underlying t = some (.slice e)) (hi : P.info? e = some i) (base : Option Addr) (n cap : Nat) (hn : n ≤ cap) (a : Option Addr) (c : Nat) (w : World) :
    (Builtin.append_ #[t, t] ty #[.slice base n cap, .slice a 0 c]).run P w = .ok (.slice base n cap) w := by
  have h0 : (Builtin.firstCells i.size 0 (.slice a 0 c)).run P w = .ok #[] w := by
    cases a with
    | none => exact run_firstCells_none w _ _ _ _
    | some a => exact run_firstCells_some w i.size 0 a 0 c [] (by simp) (by simp)
  simp [Builtin.append_, run_underlying ht, sizeOf, typeInfo, hi, Builtin.lenOf, hn, h0]
  cases base <;> simp [storeCells]

theorem shape_cells {w : World} {b : Nat} {cs : Array Value} {t : TypeId} {r : Nat × Nat} (h : w.heap[b]? = some (.cells cs t r)) : w.shape? b = some (t, cs.size) := by
  simp [World.shape?, h]

/-- append, to an own slice from its object's first element on. -/
theorem op_append {t e : Nat} {x y : Operand} {id sz len bytes : Nat} {es ys : List AV} {z : Value} {yv : AV} (hx : st.ev x = .osl id sz 0 len) (hy : st.ev y = yv) (nx : opIn st.n x = true) (ny : opIn st.n y = true) (hd : Nat.blt d st.n = true)
    (hE : Elem P t e sz bytes z) (ho : st.H[id]? = some (.mk e false false sz es)) (hlen : len ≤ es.length) (hsrc : Src st yv sz ys true)
    (hb : (len + ys.length) * bytes ≤ 140737488355328)
    (hk : K ((st.kill id (.mk e false false sz (es.take len ++ ys))).put d (.osl id sz 0 (len + ys.length)))) :
    OpTri P ⟨some d, .call ⟨.builtin .append, #[x, y], #[t, t]⟩, ty, pos, aft, g⟩ K st := by
  intro ρ0 Z w ρ a hs
  obtain ⟨ht, inf, hi, hz, hisz, hiby, hzc, hsz0, hby0⟩ := hE
  subst hisz; subst hiby
  obtain ⟨ad2, c2, news, hyv, hnv, hyc, hn1, hncell⟩ := hsrc ρ0 Z w ρ a _ hs (hs.eva hy ny)
  simp only [if_true] at hnv
  have hnl : news.length = ys.length * inf.size := by rw [hnv.length, flat_length hyc]
  have hxv := hs.eva hx nx
  have hsmall : len + ys.length ≤ 140737488355328 := Nat.le_trans (Nat.le_mul_of_pos_right _ hby0) hb
  have hlt := (List.getElem?_eq_some_iff.1 ho).1
  have key : ∀ v w', (Builtin.append_ #[t, t] ty #[a.eval x, a.eval y]).run P w = .ok v w' →
      (∃ ρ', SR ρ0 Z w' ρ' a (st.kill id (.mk e false false inf.size (es.take len ++ ys))) ∧ VR Z w' ρ' (.osl id inf.size 0 (len + ys.length)) v ∧ Ext Z (Own ρ) w Z (Own ρ') w') →
      Oper.wp P ⟨some d, .call ⟨.builtin .append, #[x, y], #[t, t]⟩, ty, pos, aft, g⟩ a w (fun a' w' => ∃ st' Z' ρ', K st' ∧ SR ρ0 Z' w' ρ' a' st' ∧ Ext Z (Own ρ) w Z' (Own ρ') w') (fun _ _ _ => False) := by
    intro v w' hrun ⟨ρ', h1, h2, h3⟩
    have hr2 : (execOp a.eval ⟨some d, .call ⟨.builtin .append, #[x, y], #[t, t]⟩, ty, pos, aft, g⟩).run P w = .ok (.value v) w' := by
      simp [execOp, resolve, invoke, builtin, hrun]
    unfold Oper.wp
    rw [hr2]
    exact ⟨_, Z, ρ', hk, h1.put hd h2, h3⟩
  generalize hvx : a.eval x = vx at hxv key
  rw [hyv] at key
  cases hxv with
  | osl hid hc hr =>
    rename_i cap q adx
    obtain ⟨q', hq', hor⟩ := hs.H.obj id _ ho
    rw [hid] at hq'; cases hq'
    obtain ⟨olds, holds1, holdv, holdsz, holdone, holdq⟩ : ∃ olds : List Value, olds.length = len * inf.size ∧ VRs Z w noLoc (flat (es.take len)) olds ∧ (∀ e ∈ es.take len, e.cells.length = inf.size) ∧ (∀ u ∈ olds, u.oneCell' = true) ∧
        (∀ b cs, q = some b → w.heap[b]? = some (.cells cs e (0, 0)) → cs.toList.take (len * inf.size) = olds) := by
      cases hor with
      | virt he =>
        simp only at he; subst he
        have h0 : len = 0 := by simpa using hlen
        subst h0
        exact ⟨[], by simp, by simp [flat]; exact .nil, by simp, by simp, fun b cs hq => by cases hq⟩
      | real b vs extra hh hv hse h1 hf =>
        simp only [Bool.false_eq_true, if_false] at hv hse
        refine ⟨vs.take (len * inf.size), ?_, ?_, fun e he => hse e (List.mem_of_mem_take he), fun u hu => h1 u (List.mem_of_mem_take hu), ?_⟩
        · have h3 := hv.length
          rw [flat_length hse] at h3
          simp
          exact Nat.min_eq_left (by rw [h3]; exact Nat.mul_le_mul_right _ hlen)
        · rw [← flat_take hse]; exact hv.take _
        · intro b' cs hq hcs
          cases hq
          rw [hh] at hcs
          simp at hcs
          rw [← hcs]
          have h3 := hv.length
          rw [flat_length hse] at h3
          have h4 : len * inf.size ≤ vs.length := by rw [h3]; exact Nat.mul_le_mul_right _ hlen
          simp only [Array.toList_append]
          rw [List.take_append_of_le_length (by simpa using h4)]
    have hnewrel : ∀ {w' : World}, Keeps Z w Z w' → VRs Z w' noLoc (flat (es.take len ++ ys)) (olds ++ news) := by
      intro w' hk'
      rw [flat_append]
      exact (holdv.mono hk' (Loc.le_refl _)).append (hnv.mono hk' (Loc.le_refl _))
    have hnewsz : ∀ x ∈ es.take len ++ ys, x.cells.length = inf.size := by
      intro x hx; rcases List.mem_append.1 hx with hx | hx
      · exact holdsz x hx
      · exact hyc x hx
    have hnewone : ∀ u ∈ olds ++ news, u.oneCell' = true := by
      intro u hu; rcases List.mem_append.1 hu with hu | hu
      · exact holdone u hu
      · exact hn1 u hu
    have hnol : (olds ++ news).length = (len + ys.length) * inf.size := by rw [List.length_append, holds1, hnl, Nat.add_mul]
    have hOwn : ∀ (blk : Option Nat) (b : Nat), (∀ g, blk = some g → Own ρ g ∨ w.heap.size ≤ g) → Own (ρ.upd id blk) b → Own ρ b ∨ w.heap.size ≤ b := by
      intro blk b hblk ⟨i, hi⟩
      by_cases e : i = id
      · subst e; rw [Loc.upd_self] at hi; simp at hi; exact hblk b hi
      · rw [Loc.upd_ne _ _ e] at hi; exact .inl ⟨i, hi⟩
    have grow : ∀ oc, oc < len + ys.length → ∃ ρ', SR ρ0 Z (w.drew.alloc (.cells (olds.toArray ++ news.toArray ++ Builtin.zeroCells z.cells (grownCap w (len + ys.length) oc e - (len + ys.length))) e)) ρ' a (st.kill id (.mk e false false inf.size (es.take len ++ ys))) ∧
        VR Z (w.drew.alloc (.cells (olds.toArray ++ news.toArray ++ Builtin.zeroCells z.cells (grownCap w (len + ys.length) oc e - (len + ys.length))) e)) ρ' (.osl id inf.size 0 (len + ys.length)) (.slice (some ⟨w.heap.size, 0, none⟩) (len + ys.length) (grownCap w (len + ys.length) oc e)) ∧
        Ext Z (Own ρ) w Z (Own ρ') (w.drew.alloc (.cells (olds.toArray ++ news.toArray ++ Builtin.zeroCells z.cells (grownCap w (len + ys.length) oc e - (len + ys.length))) e)) := by
      intro oc _
      have hge := grownCap_ge w (len + ys.length) oc e
      generalize hgc : grownCap w (len + ys.length) oc e = gc at hge
      generalize hex : Builtin.zeroCells z.cells (gc - (len + ys.length)) = ext
      have hexs : ext.size = (gc - (len + ys.length)) * inf.size := by rw [← hex, size_zc, hzc]
      have hP : Pushed w (w.drew.alloc (.cells (olds.toArray ++ news.toArray ++ ext) e)) (.cells (olds.toArray ++ news.toArray ++ ext) e (0, 0)) := Pushed.drew_alloc w _
      generalize w.drew.alloc (.cells (olds.toArray ++ news.toArray ++ ext) e) = w' at hP
      have hk' := hP.keeps hs.zs
      have harr : (olds.toArray ++ news.toArray ++ ext) = (olds ++ news ++ ext.toList).toArray := by apply Array.ext'; simp
      have hnew := hP.new
      rw [harr] at hnew
      refine ⟨ρ.upd id (some w.heap.size), ?_, ?_, ?_⟩
      · refine hs.refill (o' := .mk e false false inf.size (es.take len ++ ys)) ho hk' (fun b hb => by rw [hP.size]; have := hs.zs b hb; omega) (fun b ⟨i, _, hi⟩ => hP.old (hs.H.own_lt hi)) hnew (fun i _ hi => by have := hs.H.own_lt hi; omega)
          (fun hz => by have := hs.zs _ hz; omega) rfl (by simpa using hnewrel hk') hnewsz hnewone
      · refine .osl (Loc.upd_self _ _ _) hge (.inr ⟨w.heap.size, _, e, rfl, by simp, shape_cells hnew, ?_⟩)
        have : (olds ++ news ++ ext.toList).toArray.size = (len + ys.length) * inf.size + (gc - (len + ys.length)) * inf.size := by
          simp only [List.size_toArray, List.length_append, Array.length_toList, hexs]
          rw [List.length_append] at hnol
          omega
        have h4 : (len + ys.length) * inf.size + (gc - (len + ys.length)) * inf.size = gc * inf.size := by rw [← Nat.add_mul, show len + ys.length + (gc - (len + ys.length)) = gc by omega]
        rw [this, h4]; simp
      · exact { toKeeps := hk', os := hP.os, tape := hP.tape, output := hP.output, size := by rw [hP.size]; omega, keep := fun b hb _ => hP.old hb, zn := fun _ h => .inl h,
                on := fun b hb => hOwn (some w.heap.size) b (fun g hg => by simp at hg; right; omega) hb }
    by_cases hys : ys = []
    · -- nothing to append
      subst hys
      simp only [List.length_nil, Nat.add_zero, List.append_nil] at *
      refine key _ _ (run_append_zero t ty e inf ht hi adx len cap hc ad2 c2 w) ?_
      cases hor with
      | virt he =>
        simp only at he; subst he
        have h0 : len = 0 := by simpa using hlen
        subst h0
        refine ⟨ρ.upd id none, hs.refillO ho (Keeps.refl _ _) hs.zs (fun _ _ => rfl) (fun g hg => by cases hg) (.virt (by simp)), ?_, ?_⟩
        · refine .osl (Loc.upd_self _ _ _) hc (.inl ?_)
          rcases hr with hr | ⟨b, n, t', h1, _⟩
          · exact hr
          · cases h1
        · exact Ext.own_ext fun b hb => hOwn none b (fun g hg => by cases hg) hb
      | real b vs extra hh hv hse h1 hf =>
        simp only [Bool.false_eq_true, if_false] at hf
        refine ⟨ρ.upd id (some b), hs.refill (us := olds) (extra := (vs ++ extra).drop (len * inf.size)) (o' := .mk e false false inf.size (es.take len)) ho (Keeps.refl _ _) hs.zs (fun _ _ => rfl) ?_ (fun i hi hib => hi (hs.H.inj i id b hib hid)) hf rfl (by simpa using holdv) holdsz holdone, ?_, ?_⟩
        · show w.heap[b]? = _
          rw [hh]
          have := holdq b _ rfl hh
          rw [← this]
          simp
        · refine .osl (Loc.upd_self _ _ _) hc ?_
          rcases hr with hr | ⟨b', n, t', h1, h2⟩
          · exact .inl hr
          · exact .inr ⟨b', n, t', h1, h2⟩
        · exact Ext.own_ext fun b' hb => hOwn (some b) b' (fun g hg => by simp at hg; subst hg; exact .inl ⟨id, hid⟩) hb
    · have hm0 : 0 < ys.length := List.length_pos_iff.2 hys
      obtain ⟨b2, off2, had2, hcells⟩ := hncell hys
      subst had2
      have hnews : ∀ (j : Nat) (u : Value), news[j]? = some u → w.cell? ((⟨b2, off2, none⟩ : Addr).add j) = some u := fun j u hj => by rw [addr_add]; exact hcells j u hj
      by_cases hroom : len + ys.length ≤ cap
      · rcases hr with hr | ⟨b, n, t', hqb, hax, hsh, hle⟩
        · omega
        · subst hqb; subst hax
          cases hor with
          | real _ vs extra hh hv hse h1 hf =>
            simp only [Bool.false_eq_true, if_false] at hf
            have hsz : n = (vs ++ extra).toArray.size := by have := shape_cells hh; rw [hsh] at this; simp only [Option.some.injEq, Prod.mk.injEq] at this; exact this.2
            have hfit : len * inf.size + news.length ≤ (vs ++ extra).toArray.size := by
              rw [← hsz, hnl, ← Nat.add_mul]
              have : (len + ys.length) * inf.size ≤ cap * inf.size := Nat.mul_le_mul_right _ hroom
              simp only [Nat.zero_mul, Nat.zero_add] at hle
              omega
            have hq := holdq b _ rfl hh
            have hrun := run_append_room (P := P) w t ty e inf ht hi b len cap (vs ++ extra).toArray hh ⟨b2, off2, none⟩ ys.length c2 news hnl hnews hn1 hroom hfit
            rw [hq] at hrun
            rw [Nat.zero_mul] at key
            refine key _ _ hrun ?_
            have hrw : Rewrote w (w.setRow b (olds ++ news ++ (vs ++ extra).toArray.toList.drop (len * inf.size + news.length)).toArray) b (vs ++ extra).toArray (olds ++ news ++ (vs ++ extra).toArray.toList.drop (len * inf.size + news.length)).toArray e :=
              Rewrote.setRow hh (by
                have h5 : olds.length = len * inf.size := holds1
                simp only [List.size_toArray, List.length_append, List.length_drop] at hfit ⊢
                omega)
            have hk' := hrw.keeps hf
            refine ⟨ρ.upd id (some b), ?_, ?_, ?_⟩
            · exact hs.refill (o' := .mk e false false inf.size (es.take len ++ ys)) ho hk' (fun b hb => by rw [hrw.size]; exact hs.zs b hb) (fun b' ⟨i, hi, hib⟩ => hrw.other b' (fun hbb => hi (hs.H.inj i id b (by rw [hib, hbb]) hid)))
                hrw.new (fun i hi hib => hi (hs.H.inj i id b hib hid)) hf rfl (by simpa using hnewrel hk') hnewsz hnewone
            · exact .osl (Loc.upd_self _ _ _) hroom (.inr ⟨b, n, t', rfl, by rw [Nat.zero_mul], hk'.shp _ _ hsh, hle⟩)
            · exact { toKeeps := hk', os := hrw.os, tape := hrw.tape, output := hrw.output, size := by rw [hrw.size]; exact Nat.le_refl _, keep := fun b' _ hn => hrw.other b' (fun hbb => hn (hbb ▸ ⟨id, hid⟩)), zn := fun _ h => .inl h,
                      on := fun b' hb => (hOwn (some b) b' (fun g hg => by simp at hg; subst hg; exact .inl ⟨id, hid⟩) hb) }
      · obtain ⟨ρ', hg1, hg2, hg3⟩ := grow cap (by omega)
        cases adx with
        | none =>
          have hc0 : cap = 0 := by
            rcases hr with hr | ⟨b, n, t', hqb, hax, _⟩
            · exact hr
            · cases hax
          have hl0 : len = 0 := by omega
          subst hc0; subst hl0
          have hold0 : olds = [] := List.eq_nil_of_length_eq_zero (by simpa using holds1)
          have hrun := run_append_nil (P := P) w t ty e inf z ht hi hz ⟨b2, off2, none⟩ ys.length c2 news hnl hnews hm0 (by omega) (by simp only [Nat.zero_add] at hb; omega)
          refine key _ _ hrun ⟨ρ', ?_⟩
          simp only [Nat.zero_add, hold0] at hg1 hg2 hg3 ⊢
          simp only [List.take_zero, Array.empty_append] at hg1 hg2 hg3 ⊢
          exact ⟨hg1, hg2, hg3⟩
        | some ax =>
          have holdc : ∀ (j : Nat) (v : Value), olds[j]? = some v → w.cell? (ax.add j) = some v := by
            intro j v hj
            have hjl := (List.getElem?_eq_some_iff.1 hj).1
            have hlen0 : 0 < len := by
              rcases Nat.eq_zero_or_pos len with h0 | h0
              · subst h0; simp at holds1; rw [holds1] at hjl; simp at hjl
              · exact h0
            rcases hr with hr | ⟨b, n, t', hqb, hax, hsh, hle⟩
            · omega
            · subst hqb
              cases hax
              cases hor with
              | real _ vs extra hh hv hse h1 hf =>
                have hq := holdq b _ rfl hh
                rw [addr_add]
                simp only [World.cell?, hh, Nat.zero_mul, Nat.zero_add]
                simp only [Option.isSome_none, Bool.false_eq_true, if_false]
                rw [← hq] at hj
                have hjn : j < len * inf.size := by rw [holds1] at hjl; exact hjl
                rw [List.getElem?_take_of_lt hjn] at hj
                simpa using hj
          have hrun := run_append_grow (P := P) w t ty e inf z ht hi hz ax len cap olds holds1 holdc ⟨b2, off2, none⟩ ys.length c2 news hnl hnews (by omega) (by omega) (growslice_fits (by omega) hb)
          exact key _ _ hrun ⟨ρ', hg1, hg2, hg3⟩
end
end Go.Av

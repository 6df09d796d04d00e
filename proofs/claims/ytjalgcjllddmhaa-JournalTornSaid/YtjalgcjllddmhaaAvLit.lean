/- A text of the proof of JournalTorn: AvLit -/
import Derived.Test.YtjalgcjllddmhaaAvAny
import Derived.Test.YtjalgcjllddmhaaAvSnap
import Derived.Lib.SliceRun
import Derived.Laws.StructEq
/- Literals of one struct; parts of aggregates. -/
namespace Go.Av
section
variable {P : Program} {K : St → Prop} {st s : St} {o : Oper}
/-- A nil slice that is a part of a slot's aggregate, as one that the call owns. -/
theorem le_ownA (t j e sz : Nat) {cs : List AV} (ht : get st.fr t = .agg cs) (hj : cs[j]? = some (.val (.slice none 0 0))) : Le st ((st.push (.mk e false false sz [])).put t (.agg (cs.set j (.osl st.H.length sz 0 0)))) := by
  intro ρ0 Z w ρ a hs
  have hle : ρ.le (ρ.upd st.H.length none) := by
    intro id q hq
    have := hs.H.dom id q hq
    rw [Loc.upd_ne _ _ (by omega)]; exact hq
  have hown : ∀ b, Own (ρ.upd st.H.length none) b → Own ρ b := by
    intro b ⟨i, hi⟩
    by_cases e : i = st.H.length
    · subst e; rw [Loc.upd_self] at hi; cases hi
    · rw [Loc.upd_ne _ _ e] at hi; exact ⟨i, hi⟩
  refine ⟨Z, ρ.upd st.H.length none, ⟨hs.rn.le hle, hs.defers, hs.size, ?_, ⟨?_, ?_, ?_⟩, hs.zs⟩, Ext.own_sub hown⟩
  · intro i hi
    by_cases e' : t = i
    · subst e'
      have h1 := hs.fr t hi
      rw [ht] at h1
      simp only [St.put, get, Nat.beq_refl, cond_true]
      generalize hv : a.tmps.getD t undef = v at h1
      cases h1 with
      | agg he hl =>
        rename_i l
        obtain ⟨u, hu, hr⟩ := hl.get _ _ hj
        have := hr.val_eq
        subst this
        have h3 := (hl.mono (Keeps.refl _ _) hle).set j (x := .osl st.H.length sz 0 0) (v := .slice none 0 0) (.osl (Loc.upd_self _ _ _) (Nat.le_refl _) (.inl rfl))
        have h4 : l.set j (.slice none 0 0) = l := by
          apply List.ext_getElem?
          intro i
          rw [List.getElem?_set]
          split
          · rename_i e2; subst e2; rw [hu]; simp [(List.getElem?_eq_some_iff.1 hu).1]
          · rfl
        rw [h4] at h3
        exact .agg he h3
    · simp only [St.put, get, beq_no e', cond_false]
      exact (hs.fr i hi).mono (Keeps.refl _ _) hle
  · intro id q hq
    simp only [St.put, St.push, List.length_append, List.length_singleton]
    by_cases e' : id = st.H.length
    · omega
    · rw [Loc.upd_ne _ _ e'] at hq; have := hs.H.dom id q hq; omega
  · intro id o' ho'
    simp only [St.put, St.push] at ho'
    by_cases e' : id = st.H.length
    · subst e'
      simp at ho'
      subst ho'
      exact ⟨none, Loc.upd_self _ _ _, .virt rfl⟩
    · have hlt : id < st.H.length := by
        have := (List.getElem?_eq_some_iff.1 ho').1
        simp at this; omega
      rw [List.getElem?_append_left hlt] at ho'
      obtain ⟨q, hq, hor⟩ := hs.H.obj id o' ho'
      exact ⟨q, by rw [Loc.upd_ne _ _ e']; exact hq, hor.mono (Keeps.refl _ _) hle fun b hb => ⟨rfl, Iff.rfl⟩⟩
  · intro i j b hi hj
    by_cases e1 : i = st.H.length
    · subst e1; rw [Loc.upd_self] at hi; cases hi
    · by_cases e2 : j = st.H.length
      · subst e2; rw [Loc.upd_self] at hj; cases hj
      · rw [Loc.upd_ne _ _ e1] at hi; rw [Loc.upd_ne _ _ e2] at hj
        exact hs.H.inj i j b hi hj
theorem lit_ownA (t j e sz : Nat) {id : Nat} {cs cs' : List AV} (ht : get st.fr t = .agg cs) (hid : st.H.length = id) (hj : cs[j]? = some (.val (.slice none 0 0))) (hcs : cs.set j (.osl id sz 0 0) = cs') : Le st ((st.push (.mk e false false sz [])).put t (.agg cs')) := by
  subst hid; subst hcs; exact le_ownA t j e sz ht hj
end
section
variable {P : Program} {K : St → Prop} {st : St} {ty : TypeId} {pos : String} {aft : Array Edge} {g : Option (Nat × Bool)} {d : Nat}
/-- A slice literal of one struct. -/
theorem lit_one {t e sz bytes id : Nat} {x : Operand} {z : Value} {cs : List AV} (refs : Bool) (h1 : P.underlying t = some (.slice e)) {i : TypeInfo} (h2 : P.info? e = some i) (h3 : i.zero = some z) (h4 : i.size = sz) (h5 : i.bytes = bytes) (h6 : z.cells.size = sz)
    (h7 : Nat.blt 0 sz = true) (h8 : Nat.blt 0 bytes = true) (hid : st.H.length = id) (hn24 : Nat.ble (1 * sz) 16777216 = true) (hx : st.ev x = .agg cs) (hl : cs.length = sz)
    (hone : cs.all AV.one = true) (hp : refs = true ∨ AV.pureB.pureL cs = true) (hn : opIn st.n x = true) (hd : Nat.blt d st.n = true)
    (hk : K ((st.push (.mk e refs false sz [.agg cs])).put d (.osl id sz 0 1))) : OpTri P ⟨some d, .buildSlice t 1 #[(0, x)], ty, pos, aft, g⟩ K st := by
  have hz : (zeros z (1 * sz)).length = sz := by simp [zeros]
  refine op_buildSlice (ag := true) (refs := refs) (L := [(0, .agg cs)]) (cs := cs) (es := [.agg cs]) (Elem.mk h1 h2 h3 h4 h5 h6 h7 h8) hn24 rfl (by simp [partsAV, hx]) ?_ ?_ (by simp [flat, AV.cells]) (by simp [AV.cells, hl]) rfl hone hp (by simp [hn]) hd (by rw [hid]; exact hk)
  · have hb : Nat.ble (0 * sz + sz) (zeros z (1 * sz)).length = true := by rw [hz]; simp
    have hok : (AV.agg cs).ok = true := rfl
    simp only [fillAV, AV.cells, hb, hok, forceL_eq, hl, Nat.beq_refl, Bool.and_self, cond_true, putAt, Nat.zero_mul, Nat.zero_add, List.take_zero, List.nil_append]
    rw [List.drop_of_length_le (by omega), List.append_nil]
    rw [hz, show Nat.ble sz sz = true from Nat.ble_eq_true_of_le (Nat.le_refl _)]; rfl
  · simp only [chunkAV, cond_true, List.take_of_length_le (Nat.le_of_eq hl)]
end
end Go.Av
namespace Go.Av
section
variable {P : Program} {K : St → Prop} {st : St} {ty : TypeId} {pos : String} {aft : Array Edge} {g : Option (Nat × Bool)}
/-- 'op_callG', the number of the caller's objects known. -/
theorem lit_callG (sel ks : List Nat) {n : Nat} {f : FuncId} {x : Operand} {args : Array Operand} {tys : Array TypeId} {dst : Option Nat} {xs ys : List AV} {ids : List Nat} {fs cs : List AV} {Hc H0 : List AObj} {Post : AV → List AObj → (Nat → Option Nat) → Prop}
    (hx : st.ev x = .fn (.func f) fs cs) (nx : opIn st.n x = true) (hargs : args.toList.map st.ev = xs) (nargs : args.toList.all (opIn st.n) = true) (hd : dstIn st.n dst = true) (hf : resolved f P)
    (hsel : nodupB sel = true) (hlt : sel.all (fun i => Nat.blt i st.H.length) = true)
    (hsn : ArgsR st sel (fs ++ xs ++ cs) ys ids) (hdis : ids.all (fun i => !(sel.any fun j => Nat.beq j i)) = true) (hHc : pick st.H sel = Hc) (hspec : HSpec P f ys Hc Post)
    (hm : ∀ r H' m, Post r H' m → sel.length ≤ H'.length ∧ ∀ k i, sel[k]? = some i → ks.any (fun j => Nat.beq j i) = true ∨ m k = some k)
    (hn : st.H.length = n) (hH0 : killH ks (frz ids st.H) = H0)
    (hk : ∀ r H' m, Post r H' m → K (putO ⟨st.n, killM' ks st.m, killFr ks st.fr, place H0 sel (H'.map (AObj.renS (backM sel n)))⟩ dst (r.renS (backM sel n)))) : OpTri P ⟨dst, .call ⟨.value x, args, tys⟩, ty, pos, aft, g⟩ K st :=
  op_callG sel ks hx nx hargs nargs hd hf hsel hlt hsn hdis hHc hspec hm fun r H' m hp => by
    have := hk r H' m hp
    unfold St.handed
    rw [hn, hH0]; exact this
end
end Go.Av
namespace Go.Av
section
variable {P : Program} {K : St → Prop} {st : St} {ty : TypeId} {pos : String} {aft : Array Edge} {g : Option (Nat × Bool)}
theorem lit_store_el {t : TypeId} {x y : Operand} {id sz i : Nat} {oty : TypeId} {rf : Bool} {es es' : List AV} {e v : AV} (hx : st.ev x = .ptr id sz i 0) (hy : st.ev y = v) (nx : opIn st.n x = true) (ny : opIn st.n y = true)
    (ho : st.H[id]? = some (.mk oty rf false sz es)) (he : es[i]? = some e) (hel : e.cells.length = sz) (hz : szT P t = some sz) (hok : v.ok = true) (h1 : v.cells.all AV.one = true) (hl : v.cells.length = sz) (hp : rf = true ∨ v.pureB = true)
    (hes : es.set i v = es') (hk : K (st.setO id (.mk oty rf false sz es'))) : OpTri P ⟨none, .store t x y, ty, pos, aft, g⟩ K st := by
  subst hes
  exact op_store_el hx hy nx ny ho rfl rfl he hel hz hok h1 hl hp hk
end
end Go.Av
namespace Go.Av
theorem keep_zero {i k : Nat} (h : keepMap [0] i = some k) : i = 0 ∧ k = 0 := by
  have h1 := keepMap_get h
  cases k with
  | zero => simp at h1; exact ⟨h1.symm, rfl⟩
  | succ k => simp at h1
end Go.Av
namespace Go.Av
theorem lit_snapO {st : St} (id : Nat) {ty : TypeId} {fz : Bool} {sz : Nat} {x y : AV} {xs ys : List AV} {ids : List Nat} (ho : st.H[id]? = some (.mk ty true fz sz [x])) (hx : x.cells = xs) (h : SnapsR st xs ys ids) (hy : .agg ys = y) (hl : ys.length = sz)
    (hd : (ids.any fun j => Nat.beq j id) = false) : Le st ⟨st.n, st.m, st.fr, (frz ids st.H).set id (.mk ty true fz sz [y])⟩ := by
  subst hx; subst hy
  exact le_snapO id ho hl hd h
end Go.Av
namespace Go.Av
theorem SnapR.fn0 {st : St} {f : Fn} : SnapR st (.fn f [] []) (.fn f [] []) [] := by
  intro ρ0 Z w ρ a v _ h
  cases h with
  | fn h1 h2 h3 h4 =>
    cases h3; cases h4
    exact .fn (l := []) (m := []) h1 h2 .nil .nil
end Go.Av
namespace Go.Av
section
variable {P : Program} {K : St → Prop} {st : St} {ty : TypeId} {pos : String} {aft : Array Edge} {g : Option (Nat × Bool)} {d : Nat}
theorem run_eql_nil {t e yt : Nat} {x y : Operand} {a : Option Addr} {n c : Nat} (ht : P.underlying t = some (.slice e)) (w : World) :
    (do eqGuard .eql t x y (.slice a n c) (.slice none 0 0); binOp .eql t (.slice a n c) (.slice none 0 0) : Sem Value).run P w = .ok (.bool a.isNone) w := by
  have := Lib.run_eql_slice_nil (P := P) w t e a n c 0 0 ht
  simp only [eqGuard, Sem.run_bind]
  simpa using this
/-- s == nil, where s is only read: it may be so only where s is empty. -/
theorem op_eql_nil {t e yt : Nat} {x y : Operand} {sz : Nat} {es : List AV} (hx : st.ev x = .sl sz es) (hy : st.ev y = .val (.slice none 0 0)) (nx : opIn st.n x = true) (ny : opIn st.n y = true) (hd : Nat.blt d st.n = true)
    (ht : P.underlying t = some (.slice e)) (hk : ∀ b, (b = true → es = []) → K (st.put d (.val (.bool b)))) : OpTri P ⟨some d, .binOp .eql t x y yt, ty, pos, aft, g⟩ K st := by
  intro ρ0 Z w ρ a hs
  have hv := hs.eva hx nx
  have hyv := hs.evv hy ny
  obtain ⟨q, n, c, hq, hb⟩ : ∃ q n c, a.eval x = .slice q n c ∧ (q.isNone = true → es = []) := by
    generalize a.eval x = v at hv
    cases hv with
    | slnil => exact ⟨_, _, _, rfl, fun _ => rfl⟩
    | sl h0 hn hz hsz hc hm hvs => exact ⟨_, _, _, rfl, fun h => by simp at h⟩
  unfold Oper.wp
  have hr : (execOp a.eval ⟨some d, .binOp .eql t x y yt, ty, pos, aft, g⟩).run P w = .ok (.value (.bool q.isNone)) w := by
    simp only [execOp, hq, hyv]
    have := run_eql_nil (P := P) (yt := yt) (x := x) (y := y) (a := q) (n := n) (c := c) ht w
    rw [Sem.run_bind, this]; rfl
  rw [hr]
  exact ⟨_, Z, ρ, hk _ hb, hs.put hd (.val _), Ext.refl _ _ _⟩
end
end Go.Av

/- A text of the proof of JournalTorn: AvCat -/
import Derived.Test.YtjalgcjllddmhaaAvMeet
/- append of a made row; nil slices cut; slices of slices read as values. -/
namespace Go.Av
section
variable {st : St}
/-- An own slice whose elements refer to own objects, read as a value. -/
theorem SnapR.oslR {id sz i len : Nat} {o : AObj} {es es' : List AV} {js : List Nat} (ho : st.H[id]? = some o) (hrf : o.refs = true) (hsz : o.sz = sz) (hes : (o.es.drop i).take len = es) (hl : i + len ≤ o.es.length)
    (hc : SnapsR st (flat es) (flat es') js) (hn : es'.length = es.length) (hcl : ∀ x ∈ es', x.cells.length = sz) : SnapR st (.osl id sz i len) (.sl sz es') (id :: js) := by
  intro ρ0 Z w ρ a v hs hv
  obtain ⟨ad, c, vs, he, h1, h2, h3, h4⟩ := Src.osl ho hsz hes hl ρ0 Z w ρ a v hs hv
  simp only [hrf, Bool.not_true, Bool.false_eq_true, if_false] at h1
  subst he
  by_cases hne : es = []
  · have : es' = [] := List.eq_nil_of_length_eq_zero (by rw [hn, hne]; rfl)
    subst this; subst hne; exact .slnil
  · obtain ⟨b, off, had, hcc⟩ := h4 hne
    subst had
    have hne' : es' ≠ [] := fun h => hne (List.eq_nil_of_length_eq_zero (by rw [← hn, h]; rfl))
    have hcap : es.length ≤ c ∧ ρ id = some (some b) := by
      cases hv with
      | osl hid hle0 hr =>
        rcases hr with hr | ⟨b', n, t, h5, h6, _⟩
        · have : es.length = 0 := by omega
          exact absurd (List.eq_nil_of_length_eq_zero this) hne
        · cases h6; subst h5; exact ⟨hle0, hid⟩
    obtain ⟨hle, hid⟩ := hcap
    exact .sl hne' hn.symm (.inr ⟨id, by simp, hid⟩) hcl hle (fun k v hk => ⟨h3 v (List.mem_of_getElem? hk), hcc k v hk⟩) ((hc _ _ _ _ _ _ hs h1).mono (Zx_keeps (by simp +contextual)) (Loc.le_refl _))
end
section
variable {P : Program} {K : St → Prop} {st : St} {ty : TypeId} {pos : String} {aft : Array Edge} {g : Option (Nat × Bool)} {d : Nat}

theorem op_cap_nil {t e : Nat} {x : Operand} {n c : Nat} {q : Option Addr} (hx : st.ev x = .val (.slice q n c)) (hn : opIn st.n x = true) (hd : Nat.blt d st.n = true) (ht : P.underlying t = some (.slice e)) (hk : K (st.put d (.val (.int .i64 c)))) :
    OpTri P ⟨some d, .call ⟨.builtin .cap, #[x], #[t]⟩, ty, pos, aft, g⟩ K st :=
  op_pure rfl hd (fun ρ0 Z w ρ a hs => ⟨_, by
    simp [execOp, resolve, invoke, builtin, hs.evv hx hn, Builtin.cap_, run_underlying ht]; rfl, .val _⟩) hk

theorem op_slice_nil {t e sz : Nat} {x : Operand} {lo hi : Option Operand} (hx : st.ev x = .val (.slice none 0 0)) (hn : opIn st.n x = true) (hd : Nat.blt d st.n = true) (ht : P.underlying t = some (.slice e)) (hz : szT P e = some sz)
    (h1 : Bd st lo 0 0) (h2 : Bd st hi 0 0) (hk : K (st.put d (.val (.slice none 0 0)))) : OpTri P ⟨some d, .slice t x lo hi none, ty, pos, aft, g⟩ K st :=
  op_pure rfl hd (fun ρ0 Z w ρ a hs => ⟨_, by
    simp [execOp, Instr.sliceAt, Instr.slice, run_underlying ht, hs.evv hx hn, run_bounds hs h1 h2 (Nat.le_refl 0) (Nat.le_refl 0), run_sizeOf hz], .val _⟩) hk

theorem run_append_make_nil (w : World) (t u ty e : TypeId) {i : TypeInfo} {z : Value} (ht : P.underlying t = some (.slice e)) (hu : P.underlying u = some (.int .i64)) (hi : P.info? e = some i) (hz : i.zero = some z) (hs0 : 0 < i.size)
    (n : Nat) (h0 : 0 < n) (h48 : n * i.bytes ≤ 140737488355328) (hn : n ≤ 140737488355328) :
    (Builtin.append_ #[t, u] ty #[.slice none 0 0, .int .i64 (n : Int)]).run P w =
      .ok (.slice (some ⟨w.heap.size, 0, none⟩) n (grownCap w n 0 e)) (w.drew.alloc (.cells (Builtin.zeroCells z.cells n ++ Builtin.zeroCells z.cells (grownCap w n 0 e - n)) e)) := by
  have hn0 : n ≠ 0 := by omega
  have hw : IntKind.i64.wrap (n : Int) = (n : Int) := IntWalk.i64_in _ (by omega)
  have h1 : ¬ ((n : Int) < 0) := by omega
  have h2 : ¬ (281474976710656 < (n : Int) * (i.bytes : Int)) := by
    have := Int.ofNat_le.2 h48
    rw [Int.natCast_mul] at this; omega
  have h63' : ¬ (9223372036854775807 < (n : Int)) := by omega
  have h48' : ¬ (281474976710656 < Builtin.nextslicecap n 0 * i.bytes) := by rw [nextslicecap_zero h0]; omega
  have hns : ¬ (n = 0 ∨ i.size = 0) := by omega
  have ha : ∀ w : World, (asInt (Value.int .i64 (n : Int))).run P w = .ok (n : Int) w := fun _ => rfl
  simp [Builtin.append_, run_underlying ht, run_underlying hu, sizeOf, typeInfo, zeroValue, hi, hz, hn0, hw, h1, h2, h63', h48', hns, Question.forced, run_firstCells_none, newRow, grownCap, ha]
  exact fun h => absurd h (Nat.mul_ne_zero hn0 (by omega))

theorem op_append_make {t u e sz bytes n id : Nat} {x y : Operand} {z : Value} {m : Int} (hx : st.ev x = .val (.slice none 0 0)) (hy : st.ev y = .val (.int .i64 m)) (nx : opIn st.n x = true) (ny : opIn st.n y = true) (hd : Nat.blt d st.n = true)
    (hE : Elem P t e sz bytes z) (hu : P.underlying u = some (.int .i64)) (hid : st.H.length = id) (hm : m = (n : Int)) (h0 : 0 < n) (hb : n * bytes ≤ 140737488355328)
    (hk : K ((st.push (.mk e false false sz [])).put d (.osl id sz 0 n))) :
    OpTri P ⟨some d, .call ⟨.builtin .append, #[x, y], #[t, u]⟩, ty, pos, aft, g⟩ K st := by
  intro ρ0 Z w ρ a hs
  obtain ⟨ht, inf, hi, hz, hisz, hiby, hzc, hsz0, hby0⟩ := hE
  subst hisz; subst hiby; subst hm; subst hid
  have hsmall : n ≤ 140737488355328 := Nat.le_trans (Nat.le_mul_of_pos_right _ hby0) hb
  have hrun := run_append_make_nil (P := P) w t u ty e ht hu hi hz hsz0 n h0 hb hsmall
  have hr2 : (execOp a.eval ⟨some d, .call ⟨.builtin .append, #[x, y], #[t, u]⟩, ty, pos, aft, g⟩).run P w = .ok (.value (.slice (some ⟨w.heap.size, 0, none⟩) n (grownCap w n 0 e)))
      (w.drew.alloc (.cells (Builtin.zeroCells z.cells n ++ Builtin.zeroCells z.cells (grownCap w n 0 e - n)) e)) := by
    simp [execOp, resolve, invoke, builtin, hs.evv hx nx, hs.evv hy ny, hrun]
  have hge := grownCap_ge w n 0 e
  generalize grownCap w n 0 e = gc at hge hr2
  have hsize : (Builtin.zeroCells z.cells n ++ Builtin.zeroCells z.cells (gc - n)).size = gc * inf.size := by
    rw [Array.size_append, size_zc, size_zc, hzc, ← Nat.add_mul]; congr 1; omega
  generalize (Builtin.zeroCells z.cells n ++ Builtin.zeroCells z.cells (gc - n)) = cs at hsize hr2
  have hP : Pushed w (w.drew.alloc (.cells cs e)) (.cells ([] ++ cs.toList).toArray e (0, 0)) := by simpa using Pushed.drew_alloc w (.cells cs e)
  obtain ⟨h2, h3, hle, hk'⟩ := hs.push (o := .mk e false false inf.size []) (vs := []) (extra := cs.toList) hP (by simp [flat]; exact .nil) (by simp) (by simp) rfl
  unfold Oper.wp
  rw [hr2]
  refine ⟨_, Z, _, hk, h2.put hd ?_, h3⟩
  refine .osl (Loc.upd_self _ _ _) hge (.inr ⟨w.heap.size, gc * inf.size, e, rfl, by simp, ?_, by simp⟩)
  have := shape_cells hP.new
  simp only [List.nil_append, Array.toArray_toList] at this
  rw [this, hsize]
end
end Go.Av
namespace Go.Av
/-- Two elements of one cell. -/
theorem SnapR.two {st : St} {id : Nat} {e : TypeId} {fz : Bool} {x y x' y' : AV} {i j : List Nat} (ho : st.H[id]? = some (.mk e true fz 1 [x, y])) (hx1 : x.cells = [x]) (hy1 : y.cells = [y]) (hx : SnapR st x x' i) (hy : SnapR st y y' j)
    (hx2 : x'.cells = [x']) (hy2 : y'.cells = [y']) : SnapR st (.osl id 1 0 2) (.sl 1 [x', y']) (id :: (i ++ (j ++ []))) :=
  .oslR ho rfl rfl (es := [x, y]) rfl (by simp) (by simp only [flat, hx1, hy1, hx2, hy2, List.cons_append, List.nil_append]; exact .cons hx (.cons hy .nil)) rfl (by
    intro z hz
    simp only [List.mem_cons, List.not_mem_nil, or_false] at hz
    rcases hz with rfl | rfl
    · rw [hx2]; rfl
    · rw [hy2]; rfl)
end Go.Av

/- A text of the proof of JournalTorn: AvSl -/
import Derived.Test.YtjalgcjllddmhaaAvVar
import Derived.WalkSpells
/- Addresses of fields and elements, slices, append. -/
namespace Go.Av

/-- The spine of a list, laid out. -/
def forceL {α β : Type} : List α → (List α → Option β) → Option β
  | [], k => k []
  | x :: xs, k => forceL xs fun ys => k (x :: ys)
theorem forceL_eq {α β : Type} : ∀ (l : List α) (k : List α → Option β), forceL l k = k l
  | [], _ => rfl
  | x :: xs, k => by simp [forceL, forceL_eq xs]

section
variable {P : Program} {K : St → Prop} {st : St} {ty : TypeId} {pos : String} {aft : Array Edge} {g : Option (Nat × Bool)} {d : Nat}

theorem run_fieldAt {s f b off n : Nat} {fs : Array Field} {fd : Field} (hs : P.underlying s = some (.struct fs)) (hf : fs[f]? = some fd) (hn : szT P fd.type = some (n + 1)) (w : World) :
    (Instr.fieldAt s (.pointer (some ⟨b, off, none⟩)) f).run P w = .ok (.pointer (some ⟨b, off + fd.offset, none⟩)) w := by
  simp only [Instr.fieldAt, Sem.run_bind, run_underlying hs, Result.andThen, hf, Instr.sureAddr, Sem.run_pure, fieldPlace, run_sizeOf hn]
  simp [addr_add]

theorem op_fieldAddr {s f n : Nat} {x : Operand} {id sz i j : Nat} {fs : Array Field} {fd : Field} (hx : st.ev x = .ptr id sz i j) (hn : opIn st.n x = true) (hd : Nat.blt d st.n = true) (hs : P.underlying s = some (.struct fs)) (hf : fs[f]? = some fd)
    (hz : szT P fd.type = some (n + 1)) (hk : K (st.put d (.ptr id sz i (j + fd.offset)))) : OpTri P ⟨some d, .fieldAddr s x f, ty, pos, aft, g⟩ K st :=
  op_pure rfl hd (fun ρ0 Z w ρ a hsr => by
    have h := hsr.eva hx hn
    generalize hv : a.eval x = v at h
    cases h with
    | ptr hid => exact ⟨_, by simp only [execOp, hv, Sem.run_bind, run_fieldAt hs hf hz, Result.andThen]; rfl, by simpa [Nat.add_assoc] using VR.ptr hid⟩) hk
theorem op_fieldAddr_rp {s f n : Nat} {x : Operand} {cs : List AV} {j : Nat} {fs : Array Field} {fd : Field} (hx : st.ev x = .rp cs j) (hn : opIn st.n x = true) (hd : Nat.blt d st.n = true) (hs : P.underlying s = some (.struct fs)) (hf : fs[f]? = some fd)
    (hz : szT P fd.type = some (n + 1)) (hk : K (st.put d (.rp cs (j + fd.offset)))) : OpTri P ⟨some d, .fieldAddr s x f, ty, pos, aft, g⟩ K st :=
  op_pure rfl hd (fun ρ0 Z w ρ a hsr => by
    have h := hsr.eva hx hn
    generalize hv : a.eval x = v at h
    cases h with
    | rp hzz hm hvs => exact ⟨_, by simp only [execOp, hv, Sem.run_bind, run_fieldAt hs hf hz, Result.andThen]; rfl, by simpa [Nat.add_assoc] using VR.rp (j := j + fd.offset) hzz hm hvs⟩) hk

/-- A field of an aggregate that lies in a slot. -/
theorem op_field {s f : Nat} {x : Operand} {cs : List AV} {c : AV} {fs : Array Field} {fd : Field} (hx : st.ev x = .agg cs) (hn : opIn st.n x = true) (hd : Nat.blt d st.n = true) (hs : P.underlying s = some (.struct fs)) (hf : fs[f]? = some fd)
    (ht : aggT P fd.type = some false) (hc : cs[fd.offset]? = some c) (hk : K (st.put d c)) : OpTri P ⟨some d, .field s x f, ty, pos, aft, g⟩ K st :=
  op_pure rfl hd (fun ρ0 Z w ρ a hsr => by
    have h := hsr.eva hx hn
    generalize hv : a.eval x = v at h
    cases h with
    | agg he hl =>
      subst he
      obtain ⟨u, hu, hr⟩ := hl.get _ _ hc
      exact ⟨u, by simp [execOp, hv, Instr.field, run_underlying hs, hf, asAgg, part, run_isAgg ht, hu], hr⟩) hk

theorem run_indexAt_sl {t e b off len cap sz : Nat} {i : Int} (ht : P.underlying t = some (.slice e)) (hz : szT P e = some sz) (h : 0 ≤ i ∧ i < len) (k : IntKind) (w : World) :
    (Instr.indexAt t (.slice (some ⟨b, off, none⟩) len cap) (.int k i)).run P w = .ok (.pointer (some ⟨b, off + i.toNat * sz, none⟩)) w := by
  simp [Instr.indexAt, run_underlying ht, asIntOf, h, run_sizeOf hz, addr_add]

theorem flat_sub {sz : Nat} {es : List AV} (h : ∀ e ∈ es, e.cells.length = sz) {i : Nat} {e : AV} (he : es[i]? = some e) : ((flat es).drop (i * sz)).take sz = e.cells := by
  rw [flat_drop h]
  have hlt := (List.getElem?_eq_some_iff.1 he).1
  rw [List.drop_eq_getElem_cons hlt, (List.getElem?_eq_some_iff.1 he).2]
  simp only [flat]
  rw [← h e (List.mem_of_getElem? he)]
  simp

theorem op_indexAddr_sl {t e : Nat} {x y : Operand} {sz : Nat} {es : List AV} {k : IntKind} {i : Int} {n : Nat} {c : AV} (hx : st.ev x = .sl sz es) (hy : st.ev y = .val (.int k i)) (nx : opIn st.n x = true) (ny : opIn st.n y = true) (hd : Nat.blt d st.n = true)
    (ht : P.underlying t = some (.slice e)) (hz : szT P e = some sz) (hi : i = (n : Int)) (he : es[n]? = some c) (hk : K (st.put d (.rp c.cells 0))) :
    OpTri P ⟨some d, .indexAddr t x y, ty, pos, aft, g⟩ K st :=
  op_pure rfl hd (fun ρ0 Z w ρ a hsr => by
    have h := hsr.eva hx nx
    have hvy := hsr.evv hy ny
    have hlt := (List.getElem?_eq_some_iff.1 he).1
    generalize hv : a.eval x = v at h
    subst hi
    cases h with
    | slnil => simp at hlt
    | sl h0 hn hzz hs hc hm hvs =>
      subst hn
      refine ⟨_, by simp only [execOp, hv, hvy, Sem.run_bind]; rw [run_indexAt_sl ht hz (by omega)]; rfl, ?_⟩
      have h1 := (hvs.drop (n * sz)).take sz
      rw [flat_sub hs he] at h1
      have := VR.rp (ρ := ρ) (off := _ + n * sz) (j := 0) hzz (fun k v hk => by
        have hkn : k < sz := by
          have := (List.getElem?_eq_some_iff.1 hk).1
          simp at this; omega
        rw [List.getElem?_take_of_lt hkn, List.getElem?_drop] at hk
        have := hm _ v hk
        rwa [← Nat.add_assoc] at this) h1
      simpa using this) hk

theorem op_indexAddr_osl {t e : Nat} {x y : Operand} {id sz i0 len : Nat} {k : IntKind} {i : Int} {n : Nat} (hx : st.ev x = .osl id sz i0 len) (hy : st.ev y = .val (.int k i)) (nx : opIn st.n x = true) (ny : opIn st.n y = true) (hd : Nat.blt d st.n = true)
    (ht : P.underlying t = some (.slice e)) (hz : szT P e = some sz) (hi : i = (n : Int)) (hlt : n < len) (hk : K (st.put d (.ptr id sz (i0 + n) 0))) :
    OpTri P ⟨some d, .indexAddr t x y, ty, pos, aft, g⟩ K st :=
  op_pure rfl hd (fun ρ0 Z w ρ a hsr => by
    have h := hsr.eva hx nx
    have hvy := hsr.evv hy ny
    generalize hv : a.eval x = v at h
    subst hi
    cases h with
    | osl hid hc hr =>
      rcases hr with hr | ⟨b, m, tt, h1, h2, h3, h4⟩
      · omega
      · subst h1; subst h2
        refine ⟨_, by simp only [execOp, hv, hvy, Sem.run_bind]; rw [run_indexAt_sl ht hz (by omega)]; rfl, ?_⟩
        have := VR.ptr (Z := Z) (w := w) (sz := sz) (i := i0 + n) (j := 0) hid
        simpa [Nat.add_mul] using this) hk

/-- An element of an array variable. -/
theorem op_indexAddr_arr {t e len : Nat} {x y : Operand} {id sz i0 j esz : Nat} {k : IntKind} {i : Int} {n : Nat} (hx : st.ev x = .ptr id sz i0 j) (hy : st.ev y = .val (.int k i)) (nx : opIn st.n x = true) (ny : opIn st.n y = true) (hd : Nat.blt d st.n = true)
    (ht : P.underlying t = some (.array len e)) (hz : szT P e = some esz) (hi : i = (n : Int)) (hlt : n < len) (hk : K (st.put d (.ptr id sz i0 (j + n * esz)))) :
    OpTri P ⟨some d, .indexAddr t x y, ty, pos, aft, g⟩ K st :=
  op_pure rfl hd (fun ρ0 Z w ρ a hsr => by
    have h := hsr.eva hx nx
    have hvy := hsr.evv hy ny
    generalize hv : a.eval x = v at h
    subst hi
    cases h with
    | ptr hid =>
      refine ⟨_, by simp only [execOp, hv, hvy, Sem.run_bind]; simp [Instr.indexAt, run_underlying ht, asIntOf, Instr.sureAddr, hlt, run_sizeOf hz, addr_add]; rfl, ?_⟩
      have := VR.ptr (Z := Z) (w := w) (sz := sz) (i := i0) (j := j + n * esz) hid
      simpa [Nat.add_assoc] using this) hk

/- lengths -/

theorem op_len_str {t : Nat} {x : Operand} {s : ByteArray} (hx : st.ev x = .val (.string s)) (hn : opIn st.n x = true) (hd : Nat.blt d st.n = true) (ht : P.underlying t = some .string) (hk : K (st.put d (.val (.int .i64 s.size)))) :
    OpTri P ⟨some d, .call ⟨.builtin .len, #[x], #[t]⟩, ty, pos, aft, g⟩ K st :=
  op_pure rfl hd (fun ρ0 Z w ρ a hs => ⟨_, by
    simp [execOp, resolve, invoke, builtin, hs.evv hx hn, Builtin.len_, run_underlying ht]; rfl, .val _⟩) hk
theorem op_len_sl {t e : Nat} {x : Operand} {sz : Nat} {es : List AV} {n : Nat} (hx : st.ev x = .sl sz es) (hl : es.length = n) (hn : opIn st.n x = true) (hd : Nat.blt d st.n = true) (ht : P.underlying t = some (.slice e)) (hk : K (st.put d (.val (.int .i64 n)))) :
    OpTri P ⟨some d, .call ⟨.builtin .len, #[x], #[t]⟩, ty, pos, aft, g⟩ K st :=
  op_pure rfl hd (fun ρ0 Z w ρ a hs => by
    have h := hs.eva hx hn
    generalize hv : a.eval x = v at h
    cases h with
    | slnil => exact ⟨.int .i64 n, by simp at hl; subst hl; simp [execOp, resolve, invoke, builtin, hv, Builtin.len_, run_underlying ht, goInt], .val _⟩
    | sl h0 hnn => exact ⟨.int .i64 n, by simp [execOp, resolve, invoke, builtin, hv, Builtin.len_, run_underlying ht, hnn, hl, goInt], .val _⟩) hk
theorem op_len_osl {t e : Nat} {x : Operand} {id sz i n : Nat} (hx : st.ev x = .osl id sz i n) (hn : opIn st.n x = true) (hd : Nat.blt d st.n = true) (ht : P.underlying t = some (.slice e)) (hk : K (st.put d (.val (.int .i64 n)))) :
    OpTri P ⟨some d, .call ⟨.builtin .len, #[x], #[t]⟩, ty, pos, aft, g⟩ K st :=
  op_pure rfl hd (fun ρ0 Z w ρ a hs => by
    have h := hs.eva hx hn
    generalize hv : a.eval x = v at h
    cases h with
    | osl => exact ⟨.int .i64 n, by simp [execOp, resolve, invoke, builtin, hv, Builtin.len_, run_underlying ht, goInt], .val _⟩) hk
theorem op_len_nil {t e : Nat} {x : Operand} {n c : Nat} {q : Option Addr} (hx : st.ev x = .val (.slice q n c)) (hn : opIn st.n x = true) (hd : Nat.blt d st.n = true) (ht : P.underlying t = some (.slice e)) (hk : K (st.put d (.val (.int .i64 n)))) :
    OpTri P ⟨some d, .call ⟨.builtin .len, #[x], #[t]⟩, ty, pos, aft, g⟩ K st :=
  op_pure rfl hd (fun ρ0 Z w ρ a hs => ⟨_, by
    simp [execOp, resolve, invoke, builtin, hs.evv hx hn, Builtin.len_, run_underlying ht]; rfl, .val _⟩) hk

/-- A byte of a string. -/
theorem op_index_str {t : Nat} {x y : Operand} {s : ByteArray} {k : IntKind} {i : Int} {n : Nat} {b : UInt8} (hx : st.ev x = .val (.string s)) (hy : st.ev y = .val (.int k i)) (nx : opIn st.n x = true) (ny : opIn st.n y = true) (hd : Nat.blt d st.n = true)
    (ht : P.underlying t = some .string) (hi : i = (n : Int)) (hb : s.data.toList[n]? = some b) (hk : K (st.put d (.val (.int .u8 b.toNat)))) : OpTri P ⟨some d, .index t x y, ty, pos, aft, g⟩ K st :=
  op_pure rfl hd (fun ρ0 Z w ρ a hs => ⟨_, by
    subst hi
    have : s[n]? = some b := by
      have hlt := (List.getElem?_eq_some_iff.1 hb).1
      have hlt' : n < s.size := by simpa using hlt
      rw [getElem?_pos s n hlt']
      have := (List.getElem?_eq_some_iff.1 hb).2
      simp at this
      rw [← this]; rfl
    simp only [execOp, hs.evv hx nx, hs.evv hy ny, Instr.index, asIntOf, Sem.run_bind, Sem.run_pure, Result.andThen, run_underlying ht]
    simp [this], .val _⟩) hk

theorem op_index_str2 {t : Nat} {x y : Operand} {s : ByteArray} {k : IntKind} {i : Int} {n : Nat} (hx : st.ev x = .val (.string s)) (hy : st.ev y = .val (.int k i)) (nx : opIn st.n x = true) (ny : opIn st.n y = true) (hd : Nat.blt d st.n = true)
    (ht : P.underlying t = some .string) (hi : i = (n : Int)) (hlt : n < s.size) (hk : K (st.put d (.val (.int .u8 (s.data.toList.getD n 0).toNat)))) : OpTri P ⟨some d, .index t x y, ty, pos, aft, g⟩ K st :=
  have h' : n < s.data.toList.length := by simpa using hlt
  op_index_str (n := n) (b := s.data.toList.getD n 0) hx hy nx ny hd ht hi (by rw [List.getElem?_eq_getElem h', List.getD, List.getElem?_eq_getElem h']; rfl) hk

/- cuts -/

theorem run_sliceBound_in {k : IntKind} {i : Int} {n y : Nat} (hi : i = (n : Int)) (h : n ≤ y) (c : BoundsCode) (w : World) : (Instr.sliceBound (.int k i) y c).run P w = .ok n w := by
  subst hi
  simp [Instr.sliceBound, asIntOf, h]

def lowOf : Option Operand → St → Option Nat
  | none, _ => some 0
  | some x, st => match st.ev x with
    | .val (.int _ i) => some i.toNat
    | _ => none

/-- A bound of a cut: what the operand comes to. -/
inductive Bd (st : St) : Option Operand → Nat → Nat → Prop
  | none {dflt : Nat} : Bd st none dflt dflt
  | some {x : Operand} {k : IntKind} {i : Int} {n dflt : Nat} : st.ev x = .val (.int k i) → opIn st.n x = true → i = (n : Int) → Bd st (some x) dflt n

theorem run_bounds {isSl : Bool} {len cap l h : Nat} {lo hi : Option Operand} {Z : Nat → Prop} {w : World} {ρ : Loc} {a : Act} {ρ0 : Loc} (hs : SR ρ0 Z w ρ a st) (h1 : Bd st lo 0 l) (h2 : Bd st hi len h) (hl : l ≤ h) (hh : h ≤ cap) :
    (Instr.sliceBounds isSl len cap (lo.map a.eval) (hi.map a.eval) none).run P w = .ok (l, h, cap) w := by
  cases h1 with
  | none =>
    cases h2 with
    | none => simp [Instr.sliceBounds]
    | some hx hn hi => simp [Instr.sliceBounds, hs.evv hx hn, run_sliceBound_in hi hh]
  | some hx hn hi =>
    cases h2 with
    | none => simp [Instr.sliceBounds, hs.evv hx hn, run_sliceBound_in hi hl]
    | some hx' hn' hi' => simp [Instr.sliceBounds, hs.evv hx hn, hs.evv hx' hn', run_sliceBound_in hi' hh, run_sliceBound_in hi hl]

theorem op_slice_str {t : Nat} {x : Operand} {s : ByteArray} {lo hi : Option Operand} {l h : Nat} (hx : st.ev x = .val (.string s)) (hn : opIn st.n x = true) (hd : Nat.blt d st.n = true) (ht : P.underlying t = some .string)
    (h1 : Bd st lo 0 l) (h2 : Bd st hi s.size h) (hl : l ≤ h) (hh : h ≤ s.size) (hk : K (st.put d (.val (.string (s.extract l h))))) : OpTri P ⟨some d, .slice t x lo hi none, ty, pos, aft, g⟩ K st :=
  op_pure rfl hd (fun ρ0 Z w ρ a hs => ⟨_, by
    simp [execOp, Instr.sliceAt, Instr.slice, run_underlying ht, hs.evv hx hn, run_bounds hs h1 h2 hl hh], .val _⟩) hk

theorem op_slice_osl {t e : Nat} {x : Operand} {id sz i len : Nat} {lo hi : Option Operand} {l h : Nat} (hx : st.ev x = .osl id sz i len) (hn : opIn st.n x = true) (hd : Nat.blt d st.n = true) (ht : P.underlying t = some (.slice e)) (hz : szT P e = some sz)
    (h1 : Bd st lo 0 l) (h2 : Bd st hi len h) (hl : l ≤ h) (hh : h ≤ len) (hk : K (st.put d (.osl id sz (i + l) (h - l)))) : OpTri P ⟨some d, .slice t x lo hi none, ty, pos, aft, g⟩ K st :=
  op_pure rfl hd (fun ρ0 Z w ρ a hs => by
    have hv := hs.eva hx hn
    generalize hva : a.eval x = v at hv
    cases hv with
    | osl hid hc hr =>
      rename_i cap q ad
      refine ⟨.slice (if cap = l then ad else ad.map (·.add (l * sz))) (h - l) (cap - l), by
        simp [execOp, Instr.sliceAt, Instr.slice, run_underlying ht, hva, run_bounds hs h1 h2 hl (Nat.le_trans hh hc), run_sizeOf hz], ?_⟩
      refine .osl hid (by omega) ?_
      by_cases e : cap = l
      · exact .inl (by omega)
      · rcases hr with hr | ⟨b, m, tt, h3, h4, h5, h6⟩
        · omega
        · refine .inr ⟨b, m, tt, h3, ?_, h5, ?_⟩
          · subst h4; rw [if_neg e]; simp [addr_add, Nat.add_mul]
          · rw [Nat.add_mul, Nat.add_assoc, ← Nat.add_mul, show l + (cap - l) = cap by omega]; exact h6) hk

theorem op_slice_sl {t e : Nat} {x : Operand} {sz : Nat} {es es' : List AV} {lo hi : Option Operand} {l h : Nat} (hx : st.ev x = .sl sz es) (hn : opIn st.n x = true) (hd : Nat.blt d st.n = true) (ht : P.underlying t = some (.slice e)) (hz : szT P e = some sz)
    (h1 : Bd st lo 0 l) (h2 : Bd st hi es.length h) (hl : l ≤ h) (hh : h ≤ es.length) (he : (es.drop l).take (h - l) = es') (hk : K (st.put d (.sl sz es'))) : OpTri P ⟨some d, .slice t x lo hi none, ty, pos, aft, g⟩ K st :=
  op_pure rfl hd (fun ρ0 Z w ρ a hs => by
    have hv := hs.eva hx hn
    generalize hva : a.eval x = v at hv
    subst he
    have nilcase : h - l = 0 → ∀ ad c, VR Z w ρ (.sl sz ((es.drop l).take (h - l))) (.slice ad (h - l) c) := by
      intro e0 ad c; rw [e0]; simpa using VR.slnil
    cases hv with
    | slnil =>
      rename_i cap ad
      simp at hh; subst hh
      have : l = 0 := by omega
      subst this
      have hb := run_bounds (P := P) (isSl := true) (cap := cap) hs h1 (show Bd st hi 0 0 from h2) hl (Nat.zero_le _)
      exact ⟨.slice (if cap = 0 then ad else ad.map (·.add (0 * sz))) (0 - 0) (cap - 0), by
        simp [execOp, Instr.sliceAt, Instr.slice, run_underlying ht, hva, hb, run_sizeOf hz], nilcase rfl _ _⟩
    | sl h0 hnn hzz hsz hc hm hvs =>
      rename_i n cap b off vs
      subst hnn
      refine ⟨.slice (if cap = l then some ⟨b, off, none⟩ else some (.add ⟨b, off, none⟩ (l * sz))) (h - l) (cap - l), by
        simp [execOp, Instr.sliceAt, Instr.slice, run_underlying ht, hva, run_bounds hs h1 h2 hl (Nat.le_trans hh hc), run_sizeOf hz], ?_⟩
      by_cases e0 : h - l = 0
      · exact nilcase e0 _ _
      · rw [if_neg (by omega), addr_add]
        have hes' : ∀ e ∈ (es.drop l).take (h - l), e.cells.length = sz := fun e he => hsz e (List.mem_of_mem_drop (List.mem_of_mem_take he))
        refine .sl (vs := (vs.drop (l * sz)).take ((h - l) * sz)) (by intro hnil; have := congrArg List.length hnil; simp at this; omega) (by simp; omega) hzz hes' (by omega) (fun k v hk => ?_) ?_
        · have hkn : k < (h - l) * sz := by
            have := (List.getElem?_eq_some_iff.1 hk).1
            simp at this; omega
          rw [List.getElem?_take_of_lt hkn, List.getElem?_drop] at hk
          have := hm _ v hk
          rwa [← Nat.add_assoc] at this
        · rw [← flat_take (fun e he => hsz e (List.mem_of_mem_drop he)), ← flat_drop hsz]
          exact (hvs.drop _).take _) hk
end
end Go.Av

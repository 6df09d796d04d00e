/- A text of the proof of JournalTorn: AvMk2 -/
import Derived.Test.YtjalgcjllddmhaaAvFn
import Derived.Lib.ConvBytes
/- Slices that are written out, made, or out of strings. -/
namespace Go.Av
section
variable {P : Program} {K : St → Prop} {st : St} {ty : TypeId} {pos : String} {aft : Array Edge} {g : Option (Nat × Bool)} {d : Nat}

/-- A new slice that the call owns: n elements of its object, all of them. -/
theorem op_newSl {o : Oper} {e sz n : Nat} {es : List AV} {refs : Bool} (ho : o.dst = some d) (hd : Nat.blt d st.n = true) (hn : es.length = n)
    (h : ∀ ρ0 Z w ρ a, SR ρ0 Z w ρ a st → ∃ vs extra w' cap, (execOp a.eval o).run P w = .ok (.value (.slice (some ⟨w.heap.size, 0, none⟩) n cap)) w' ∧ Pushed w w' (.cells (vs ++ extra).toArray e (0, 0)) ∧
      VRs Z w (if refs then ρ else noLoc) (flat es) vs ∧ (∀ x ∈ es, x.cells.length = sz) ∧ (∀ v ∈ vs, v.oneCell' = true) ∧ n ≤ cap ∧ cap * sz ≤ (vs ++ extra).length)
    (hk : K ((st.push (.mk e refs false sz es)).put d (.osl st.H.length sz 0 n))) : OpTri P o K st := by
  intro ρ0 Z w ρ a hs
  obtain ⟨vs, extra, w', cap, hr, hp, hrel, hsz, h1, hc, hcap⟩ := h ρ0 Z w ρ a hs
  obtain ⟨h2, h3, _, _⟩ := hs.push (o := .mk e refs false sz es) hp hrel hsz h1 rfl
  unfold Oper.wp
  rw [hr]
  refine ⟨_, Z, _, hk, ?_, h3⟩
  rw [ho]
  refine h2.put hd (.osl (Loc.upd_self _ _ _) hc (.inr ⟨w.heap.size, _, e, rfl, by simp, shape_cells hp.new, by simpa using hcap⟩))

theorem zero_cells_rel {Z : Nat → Prop} {w : World} {ρ : Loc} (l : List Value) : VRs Z w ρ (l.map .val) l := by
  induction l with
  | nil => exact .nil
  | cons v r ih => exact .cons (.val v) ih

/-- A slice literal without elements. -/
theorem op_buildSlice0 {t e sz : Nat} {ps : Array (Nat × Operand)} (ht : P.underlying t = some (.slice e)) (hz : szT P e = some sz) (hps : ps = #[]) (hd : Nat.blt d st.n = true)
    (hk : K ((st.push (.mk e false false sz [])).put d (.osl st.H.length sz 0 0))) : OpTri P ⟨some d, .buildSlice t 0 ps, ty, pos, aft, g⟩ K st := by
  subst hps
  refine op_newSl (e := e) (sz := sz) (es := []) (refs := false) rfl hd rfl (fun ρ0 Z w ρ a hs => ⟨[], [], w.alloc (.cells #[] e), 0, ?_, by simpa using Pushed.alloc w _, .nil, by simp, by simp, Nat.le_refl _, by simp⟩) hk
  simp [execOp, Instr.buildSlice, run_underlying ht, run_sizeOf hz, Instr.fill, newRow, Array.range_zero']

/-- The elements that cells make up. -/
def chunkAV (agg : Bool) (sz : Nat) : Nat → List AV → List AV
  | 0, _ => []
  | n + 1, cs => (bif agg then .agg (cs.take sz) else (cs.headD .dead)) :: chunkAV agg sz n (cs.drop sz)

def zeros (z : Value) (n : Nat) : List AV := (List.range n).map fun i => .val (z.cells[i % z.cells.size]!)

/-- A slice literal. -/
theorem op_buildSlice {t e sz bytes n : Nat} {ps : Array (Nat × Operand)} {z : Value} {cs es : List AV} {L : List (Nat × AV)} {ag refs : Bool} (hE : Elem P t e sz bytes z) (hn24 : Nat.ble (n * sz) 16777216 = true) (hn0 : Nat.blt 0 n = true)
    (hL : partsAV st ps = L) (hf : fillAV (fun i => some (i * sz, sz)) (zeros z (n * sz)) L = some cs) (hes : chunkAV ag sz n cs = es) (hfl : flat es = cs) (hal : es.all (fun x => Nat.beq x.cells.length sz) = true) (hnn : es.length = n)
    (hone : cs.all AV.one = true) (hp : refs = true ∨ AV.pureB.pureL cs = true) (hn : ps.toList.all (fun p => opIn st.n p.2) = true) (hd : Nat.blt d st.n = true)
    (hk : K ((st.push (.mk e refs false sz es)).put d (.osl st.H.length sz 0 n))) : OpTri P ⟨some d, .buildSlice t n ps, ty, pos, aft, g⟩ K st := by
  obtain ⟨ht, inf, hi, hz, hisz, hiby, hzc, hsz0, hby0⟩ := hE
  have hn0' : 0 < n := by simpa [Nat.blt_eq] using hn0
  have hpos : 0 < n * sz := Nat.mul_pos hn0' hsz0
  have hszT : szT P e = some sz := by simp [szT, hi, hisz]
  refine op_newSl (e := e) (sz := sz) (es := es) (refs := refs) rfl hd hnn (fun ρ0 Z w ρ a hs => ?_) hk
  have hpr := parts_rel hs ps hn
  rw [hL] at hpr
  have hzr : VRs Z w ρ (zeros z (n * sz)) ((Array.range (n * sz)).map (z.cells[· % z.cells.size]!)).toList := by
    have := zero_cells_rel (Z := Z) (w := w) (ρ := ρ) (((Array.range (n * sz)).map (z.cells[· % z.cells.size]!)).toList)
    have e1 : (((Array.range (n * sz)).map (z.cells[· % z.cells.size]!)).toList).map AV.val = zeros z (n * sz) := by simp [zeros, List.map_map]
    rw [e1] at this; exact this
  obtain ⟨vs', h1, h2⟩ := fill_rel hpr hzr hf
  have hsz' : ∀ x ∈ es, x.cells.length = sz := fun x hx => Nat.eq_of_beq_eq_true (List.all_eq_true.1 hal x hx)
  have hlen : vs'.toList.length = n * sz := by rw [h2.length, ← hfl, flat_length hsz', hnn]
  refine ⟨vs'.toList, [], w.alloc (.cells vs' e), n, ?_, by simpa using Pushed.alloc w _, ?_, hsz', h2.ones hone, Nat.le_refl _, by simp only [List.append_nil, hlen]; exact Nat.le_refl _⟩
  · have h24 : ¬ (16777216 < n * sz) := by have := Nat.le_of_ble_eq_true hn24; omega
    have hne : ¬ (n * sz = 0) := by omega
    have hne1 : ¬ (n = 0 ∨ sz = 0) := by omega
    simp only [execOp, Instr.buildSlice, Sem.run_bind, run_underlying ht, Result.andThen, run_sizeOf hszT]
    simp only [gt_iff_lt, show (2 : Nat) ^ 24 = 16777216 from rfl, h24, if_false, Sem.run_ite, hne, Sem.run_bind, zeroValue, typeInfo, hi, hz, run_program, Result.andThen, Sem.run_pure, pure_bind, h1]
    simp [newRow]
  · rw [hfl]
    rcases hp with hp | hp
    · subst hp; simpa using h2
    · cases refs
      · simpa using h2.pure hp
      · simpa using h2

/-- make([]T, n), T of one cell: all zero. -/
theorem op_makeSlice {t e bytes n : Nat} {x y : Operand} {k k' : IntKind} {i : Int} {z : Value} (hE : Elem P t e 1 bytes z) (hx : st.ev x = .val (.int k i)) (hy : st.ev y = .val (.int k' i)) (nx : opIn st.n x = true) (ny : opIn st.n y = true) (hi : i = (n : Int))
    (hone : z.oneCell' = true) (hb : bytes * n ≤ 281474976710656) (hn63 : n ≤ 9223372036854775807) (hd : Nat.blt d st.n = true)
    (hk : K ((st.push (.mk e false false 1 (List.replicate n (.val z)))).put d (.osl st.H.length 1 0 n))) : OpTri P ⟨some d, .makeSlice t x y, ty, pos, aft, g⟩ K st := by
  obtain ⟨ht, inf, hinf, hz, hisz, hiby, hzc, hsz0, hby0⟩ := hE
  subst hi; subst hiby
  have hzz : z.cells = #[z] := by cases z <;> simp_all [Value.cells, Value.oneCell']
  have harr : madeCells z.cells n = (List.replicate n z ++ []).toArray := by
    rw [hzz]
    apply Array.ext'
    simp only [madeCells, Array.toList_map, Array.toList_range, List.append_nil]
    apply List.ext_getElem
    · simp
    · intro j h1 h2
      simp [Nat.mod_one]
  refine op_newSl (e := e) (sz := 1) (es := List.replicate n (.val z)) (refs := false) rfl hd (by simp) (fun ρ0 Z w ρ a hs => ?_) hk
  have hrun := run_make (P := P) w t e inf z ht hinf hz k k' n n (by omega) (by omega) (by rw [← Int.natCast_mul]; omega) (by omega)
  simp only [Int.toNat_natCast, hisz, Nat.mul_one] at hrun
  refine ⟨List.replicate n z, [], w.alloc (.cells (madeCells z.cells n) e), n, ?_, ?_, ?_, by simp [AV.cells], by simp [hone], Nat.le_refl _, by simp⟩
  · simp only [execOp, hs.evv hx nx, hs.evv hy ny, Sem.run_bind, hrun, Result.andThen]; rfl
  · rw [harr]; exact Pushed.alloc w _
  · have : ∀ m : Nat, VRs Z w noLoc (flat (List.replicate m (AV.val z))) (List.replicate m z) := by
      intro m; induction m with
      | zero => exact .nil
      | succ m ih => simp only [List.replicate_succ, flat, AV.cells]; exact .cons (.val z) ih
    simpa using this n

theorem SR.world {ρ0 : Loc} {Z Z' : Nat → Prop} {w w' : World} {ρ : Loc} {a : Act} (hs : SR ρ0 Z w ρ a st) (hk : Keeps Z w Z' w') (hold : ∀ b, b < w.heap.size → w'.heap[b]? = w.heap[b]?)
    (hzn : ∀ b, Z' b → Z b ∨ w.heap.size ≤ b) (hz' : ∀ b, Z' b → b < w'.heap.size) : SR ρ0 Z' w' ρ a st := by
  refine ⟨hs.rn, hs.defers, hs.size, fun t ht => (hs.fr t ht).mono hk (Loc.le_refl _), ⟨hs.H.dom, fun id o ho => ?_, hs.H.inj⟩, hz'⟩
  obtain ⟨q, hq, hor⟩ := hs.H.obj id o ho
  refine ⟨q, hq, hor.mono hk (Loc.le_refl _) fun b hb => ?_⟩
  have hlt := hs.H.own_lt (hb ▸ hq)
  exact ⟨hold b hlt, ⟨fun h => (hzn b h).elim (fun h => h) (fun h => by omega), hk.zz b⟩⟩

theorem bytes_rel {Z : Nat → Prop} {w : World} {ρ : Loc} : ∀ (l : List UInt8), VRs Z w ρ (flat (l.map fun b => AV.val (.int .u8 b.toNat))) (l.map fun b => Value.int .u8 b.toNat)
  | [] => .nil
  | b :: r => by simp only [List.map_cons, flat, AV.cells]; exact .cons (.val _) (bytes_rel r)

/-- []byte(s): read alone. -/
theorem op_conv_str_bytes {src dst e : TypeId} {x : Operand} {s : ByteArray} {u : TypeDesc} (hx : st.ev x = .val (.string s)) (hn : opIn st.n x = true) (hd : Nat.blt d st.n = true) (hs : P.underlying src = some u) (ht : P.underlying dst = some (.slice e)) (he : P.underlying e = some (.int .u8))
    (hk : K (st.put d (.sl 1 (s.data.toList.map fun b => .val (.int .u8 b.toNat))))) : OpTri P ⟨some d, .convert src dst x, ty, pos, aft, g⟩ K st := by
  intro ρ0 Z w ρ a hsr
  have hrun := Lib.run_convert_string_bytes (P := P) w src dst e s hs ht he
  have hold := fun b hb => Lib.bytesWorld_at_old w e s b hb
  have hsz := Lib.bytesWorld_size w e s
  have hcell := Lib.bytesWorld_cell w e s
  have hos : (Lib.bytesWorld w e s).os = w.os ∧ (Lib.bytesWorld w e s).tape = w.tape ∧ (Lib.bytesWorld w e s).output = w.output := by
    unfold Lib.bytesWorld World.freeze; split <;> exact ⟨rfl, rfl, rfl⟩
  generalize Lib.bytesWorld w e s = w' at hrun hold hsz hcell hos
  have hkeep : Keeps Z w (fun b => Z b ∨ b = w.heap.size) w' := ⟨fun _ h => .inl h, fun b hb => hold b (hsr.zs b hb), fun b sh h => by rw [shape_same (hold b (shape_lt h))]; exact h⟩
  have h2 : SR ρ0 (fun b => Z b ∨ b = w.heap.size) w' ρ a st := hsr.world hkeep hold (fun b hb => hb.imp id (fun h => by omega)) (fun b hb => hb.elim (fun h => by have := hsr.zs b h; omega) (fun h => by omega))
  unfold Oper.wp
  have : (execOp a.eval ⟨some d, .convert src dst x, ty, pos, aft, g⟩).run P w = .ok (.value (.slice (some ⟨w.heap.size, 0, none⟩) s.size (grownCap w s.size 0 e))) w' := by
    simp only [execOp, hsr.evv hx hn, Sem.run_bind, hrun, Result.andThen]; rfl
  rw [this]
  refine ⟨_, _, ρ, hk, h2.put hd ?_, { toKeeps := hkeep, os := hos.1, tape := hos.2.1, output := hos.2.2, size := by omega, keep := fun b hb _ => hold b hb, zn := fun b hb => hb.elim .inl (fun h => .inr (.inr (by omega))), on := fun _ h => .inl h }⟩
  by_cases h0 : s.data.toList = []
  · have : s.size = 0 := by have := congrArg List.length h0; simpa using this
    rw [h0, this]; exact .slnil
  · refine .sl (vs := s.data.toList.map fun b => .int .u8 b.toNat) (by simpa using h0) (by simp) (.inr rfl) (by simp [AV.cells]) (grownCap_ge w s.size 0 e) (fun k v hkv => ?_) (bytes_rel _)
    rw [List.getElem?_map] at hkv
    cases hb : s.data.toList[k]? with
    | none => simp [hb] at hkv
    | some b =>
      simp [hb] at hkv
      subst hkv
      have hlt : k < s.size := by have := (List.getElem?_eq_some_iff.1 hb).1; simpa using this
      refine ⟨rfl, ?_⟩
      rw [Nat.zero_add, hcell k hlt]
      simp [List.getD, hb]

theorem push_bytes : ∀ (l : List UInt8) (r : ByteArray), (l.map fun b => (b.toNat : Int)).foldl (fun r n => r.push (UInt8.ofNat n.toNat)) r = ⟨r.data ++ l.toArray⟩
  | [], r => by simp
  | b :: l, r => by
    simp only [List.map_cons, List.foldl_cons]
    rw [push_bytes l]
    have : UInt8.ofNat ((b.toNat : Int).toNat) = b := by simp
    rw [this]
    cases r with
    | mk d => simp [ByteArray.push]

theorem bytes_vals {Z : Nat → Prop} {w : World} {ρ : Loc} : ∀ {l : List UInt8} {vs : List Value}, VRs Z w ρ (flat (l.map fun b => AV.val (.int .u8 b.toNat))) vs → vs = l.map fun b => Value.int .u8 b.toNat
  | [], _, h => by cases h; rfl
  | b :: r, _, h => by
    simp only [List.map_cons, flat, AV.cells, List.cons_append, List.nil_append] at h
    cases h with
    | cons h1 h2 => rw [h1.val_eq, bytes_vals h2]; rfl

/-- string(b) of bytes. -/
theorem op_conv_bytes {src dst e : TypeId} {x : Operand} {xv : AV} {l : List UInt8} {pr : Bool} (hx : st.ev x = xv) (hn : opIn st.n x = true) (hd : Nat.blt d st.n = true) (hs : P.underlying src = some (.slice e)) (ht : P.underlying dst = some .string) (he : P.underlying e = some (.int .u8))
    (hsrc : Src st xv 1 (l.map fun b => .val (.int .u8 b.toNat)) pr) (hk : K (st.put d (.val (.string ⟨l.toArray⟩)))) : OpTri P ⟨some d, .convert src dst x, ty, pos, aft, g⟩ K st :=
  op_pure rfl hd (fun ρ0 Z w ρ a hsr => by
    obtain ⟨ad, c, vs, hv, h1, _, _, h4⟩ := hsrc ρ0 Z w ρ a _ hsr (hsr.eva hx hn)
    have hvs := bytes_vals h1
    refine ⟨_, ?_, .val _⟩
    have hrun : (Conv.bytesToString (a.eval x)).run P w = .ok (.string ⟨l.toArray⟩) w := by
      rw [hv]
      cases ad with
      | none =>
        have hl : l = [] := by
          rcases l with _ | ⟨b, r⟩
          · rfl
          · obtain ⟨b, off, hh, _⟩ := h4 (by simp); cases hh
        subst hl
        simp [Conv.bytesToString]; rfl
      | some ad =>
        have := run_bytesToString (P := P) w ad l.length c (l.map fun b => (b.toNat : Int)) (by
          have hl := run_loadCells_list (P := P) w ad (l.map fun b => Value.int .u8 b.toNat) (fun j v hj => by
            rcases l with _ | ⟨b0, r⟩
            · simp at hj
            · obtain ⟨b, off, hh, hc⟩ := h4 (by simp)
              cases hh
              rw [addr_add]
              exact hc j v (by rw [hvs]; exact hj))
          simpa [List.map_map, Function.comp_def] using hl)
        rw [push_bytes] at this
        simpa using this
    have hu : (convert src dst (a.eval x)).run P w = .ok (.string ⟨l.toArray⟩) w := by
      rw [hv] at hrun ⊢
      simp only [convert, Sem.run_bind, run_underlying hs, run_underlying ht, Result.andThen, run_underlying he, hrun]
    simp only [execOp, Sem.run_bind, hu, Result.andThen]; rfl) hk
end
end Go.Av

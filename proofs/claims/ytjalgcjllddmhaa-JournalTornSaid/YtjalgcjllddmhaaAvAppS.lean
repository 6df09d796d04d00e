/- A text of the proof of JournalTorn: AvAppS -/
import Derived.Test.YtjalgcjllddmhaaAvMk2
import Derived.Lib.AppendStr
/- append of a text's bytes. -/
namespace Go.Av
open Go.Lib
section
variable {P : Program} {K : St → Prop} {st : St} {ty : TypeId} {pos : String} {aft : Array Edge} {g : Option (Nat × Bool)} {d : Nat}

theorem run_append_zero_str (t u ty e : TypeId) (i : TypeInfo) (ht : P.underlying t = some (.slice e)) (hu : P.underlying u = some .string) (hi : P.info? e = some i) (base : Option Addr) (n cap : Nat) (hn : n ≤ cap) (s : ByteArray) (h0 : s.size = 0) (w : World) :
    (Builtin.append_ #[t, u] ty #[.slice base n cap, .string s]).run P w = .ok (.slice base n cap) w := by
  have hf : (Builtin.firstCells i.size 0 (.string s)).run P w = .ok #[] w := by
    have := run_firstCells_string (P := P) w i.size s
    rw [h0] at this
    rw [this]
    have hl : (strCells s).length = 0 := by rw [strCells_length, h0]
    rw [List.eq_nil_of_length_eq_zero hl]
  simp [Builtin.append_, run_underlying ht, run_underlying hu, sizeOf, typeInfo, hi, Builtin.lenOf, h0, hn, hf]
  cases base <;> simp [storeCells]

/-- append of a text's bytes, to an own slice from its object's first element on. -/
theorem op_append_str {t u e : Nat} {x y : Operand} {id sz len bytes : Nat} {es : List AV} {z : Value} {s : ByteArray} (hx : st.ev x = .osl id sz 0 len) (hy : st.ev y = .val (.string s)) (nx : opIn st.n x = true) (ny : opIn st.n y = true) (hd : Nat.blt d st.n = true)
    (hE : Elem P t e sz bytes z) (ho : st.H[id]? = some (.mk e false false sz es)) (hlen : len ≤ es.length) (hu : P.underlying u = some .string) (hs1 : sz = 1)
    (hb : (len + s.size) * bytes ≤ 140737488355328)
    (hk : K ((st.kill id (.mk e false false sz (es.take len ++ s.data.toList.map fun b => .val (.int .u8 b.toNat)))).put d (.osl id sz 0 (len + s.size)))) :
    OpTri P ⟨some d, .call ⟨.builtin .append, #[x, y], #[t, u]⟩, ty, pos, aft, g⟩ K st := by
  intro ρ0 Z w ρ a hs
  obtain ⟨ht, inf, hi, hz, hisz, hiby, hzc, hsz0, hby0⟩ := hE
  subst hisz; subst hiby
  have hyv : a.eval y = .string s := hs.evv hy ny
  have hylen : (s.data.toList.map fun b => AV.val (.int .u8 b.toNat)).length = s.size := by simp
  have hnv : VRs Z w noLoc (flat (s.data.toList.map fun b => AV.val (.int .u8 b.toNat))) (strCells s) := bytes_rel _
  have hyc : ∀ e ∈ (s.data.toList.map fun b => AV.val (.int .u8 b.toNat)), e.cells.length = inf.size := by intro e he; obtain ⟨b, _, rfl⟩ := List.mem_map.1 he; rw [hs1]; rfl
  have hn1 := strCells_oneCell s
  have hnews0 : strCells s = strCells s := rfl
  rw [← hylen] at hb hk
  generalize hys0 : (s.data.toList.map fun b => AV.val (.int .u8 b.toNat)) = ys at *
  generalize hnews1 : strCells s = news at *
  have hnl : news.length = ys.length * inf.size := by rw [hnv.length, flat_length hyc]
  have hxv := hs.eva hx nx
  have hsmall : len + ys.length ≤ 140737488355328 := Nat.le_trans (Nat.le_mul_of_pos_right _ hby0) hb
  have hlt := (List.getElem?_eq_some_iff.1 ho).1
  have key : ∀ v w', (Builtin.append_ #[t, u] ty #[a.eval x, a.eval y]).run P w = .ok v w' →
      (∃ ρ', SR ρ0 Z w' ρ' a (st.kill id (.mk e false false inf.size (es.take len ++ ys))) ∧ VR Z w' ρ' (.osl id inf.size 0 (len + ys.length)) v ∧ Ext Z (Own ρ) w Z (Own ρ') w') →
      Oper.wp P ⟨some d, .call ⟨.builtin .append, #[x, y], #[t, u]⟩, ty, pos, aft, g⟩ a w (fun a' w' => ∃ st' Z' ρ', K st' ∧ SR ρ0 Z' w' ρ' a' st' ∧ Ext Z (Own ρ) w Z' (Own ρ') w') (fun _ _ _ => False) := by
    intro v w' hrun ⟨ρ', h1, h2, h3⟩
    have hr2 : (execOp a.eval ⟨some d, .call ⟨.builtin .append, #[x, y], #[t, u]⟩, ty, pos, aft, g⟩).run P w = .ok (.value v) w' := by
      simp [execOp, resolve, invoke, builtin, hrun]
    unfold Oper.wp
    rw [hr2]
    exact ⟨_, Z, ρ', hk, h1.put hd h2, h3⟩
  generalize hvx : a.eval x = vx at hxv key
  rw [hyv] at key
  cases hxv with
  | osl hid hc hr =>
    rename_i cap q adx
    obtain ⟨q', hq', hor⟩ := hs.H.obj id _ ho
    rw [hid] at hq'; cases hq'
    obtain ⟨olds, holds1, holdv, holdsz, holdone, holdq⟩ : ∃ olds : List Value, olds.length = len * inf.size ∧ VRs Z w noLoc (flat (es.take len)) olds ∧ (∀ e ∈ es.take len, e.cells.length = inf.size) ∧ (∀ u ∈ olds, u.oneCell' = true) ∧
        (∀ b cs, q = some b → w.heap[b]? = some (.cells cs e (0, 0)) → cs.toList.take (len * inf.size) = olds) := by
      cases hor with
      | virt he =>
        simp only at he; subst he
        have h0 : len = 0 := by simpa using hlen
        subst h0
        exact ⟨[], by simp, by simp [flat]; exact .nil, by simp, by simp, fun b cs hq => by cases hq⟩
      | real b vs extra hh hv hse h1 hf =>
        simp only [Bool.false_eq_true, if_false] at hv hse
        refine ⟨vs.take (len * inf.size), ?_, ?_, fun e he => hse e (List.mem_of_mem_take he), fun u hu => h1 u (List.mem_of_mem_take hu), ?_⟩
        · have h3 := hv.length
          rw [flat_length hse] at h3
          simp
          exact Nat.min_eq_left (by rw [h3]; exact Nat.mul_le_mul_right _ hlen)
        · rw [← flat_take hse]; exact hv.take _
        · intro b' cs hq hcs
          cases hq
          rw [hh] at hcs
          simp at hcs
          rw [← hcs]
          have h3 := hv.length
          rw [flat_length hse] at h3
          have h4 : len * inf.size ≤ vs.length := by rw [h3]; exact Nat.mul_le_mul_right _ hlen
          simp only [Array.toList_append]
          rw [List.take_append_of_le_length (by simpa using h4)]
    have hnewrel : ∀ {w' : World}, Keeps Z w Z w' → VRs Z w' noLoc (flat (es.take len ++ ys)) (olds ++ news) := by
      intro w' hk'
      rw [flat_append]
      exact (holdv.mono hk' (Loc.le_refl _)).append (hnv.mono hk' (Loc.le_refl _))
    have hnewsz : ∀ x ∈ es.take len ++ ys, x.cells.length = inf.size := by
      intro x hx; rcases List.mem_append.1 hx with hx | hx
      · exact holdsz x hx
      · exact hyc x hx
    have hnewone : ∀ u ∈ olds ++ news, u.oneCell' = true := by
      intro u hu; rcases List.mem_append.1 hu with hu | hu
      · exact holdone u hu
      · exact hn1 u hu
    have hnol : (olds ++ news).length = (len + ys.length) * inf.size := by rw [List.length_append, holds1, hnl, Nat.add_mul]
    have hOwn : ∀ (blk : Option Nat) (b : Nat), (∀ g, blk = some g → Own ρ g ∨ w.heap.size ≤ g) → Own (ρ.upd id blk) b → Own ρ b ∨ w.heap.size ≤ b := by
      intro blk b hblk ⟨i, hi⟩
      by_cases e : i = id
      · subst e; rw [Loc.upd_self] at hi; simp at hi; exact hblk b hi
      · rw [Loc.upd_ne _ _ e] at hi; exact .inl ⟨i, hi⟩
    have grow : ∀ oc, oc < len + ys.length → ∃ ρ', SR ρ0 Z (w.drew.alloc (.cells (olds.toArray ++ news.toArray ++ Builtin.zeroCells z.cells (grownCap w (len + ys.length) oc e - (len + ys.length))) e)) ρ' a (st.kill id (.mk e false false inf.size (es.take len ++ ys))) ∧
        VR Z (w.drew.alloc (.cells (olds.toArray ++ news.toArray ++ Builtin.zeroCells z.cells (grownCap w (len + ys.length) oc e - (len + ys.length))) e)) ρ' (.osl id inf.size 0 (len + ys.length)) (.slice (some ⟨w.heap.size, 0, none⟩) (len + ys.length) (grownCap w (len + ys.length) oc e)) ∧
        Ext Z (Own ρ) w Z (Own ρ') (w.drew.alloc (.cells (olds.toArray ++ news.toArray ++ Builtin.zeroCells z.cells (grownCap w (len + ys.length) oc e - (len + ys.length))) e)) := by
      intro oc _
      have hge := grownCap_ge w (len + ys.length) oc e
      generalize hgc : grownCap w (len + ys.length) oc e = gc at hge
      generalize hex : Builtin.zeroCells z.cells (gc - (len + ys.length)) = ext
      have hexs : ext.size = (gc - (len + ys.length)) * inf.size := by rw [← hex, size_zc, hzc]
      have hP : Pushed w (w.drew.alloc (.cells (olds.toArray ++ news.toArray ++ ext) e)) (.cells (olds.toArray ++ news.toArray ++ ext) e (0, 0)) := Pushed.drew_alloc w _
      generalize w.drew.alloc (.cells (olds.toArray ++ news.toArray ++ ext) e) = w' at hP
      have hk' := hP.keeps hs.zs
      have harr : (olds.toArray ++ news.toArray ++ ext) = (olds ++ news ++ ext.toList).toArray := by apply Array.ext'; simp
      have hnew := hP.new
      rw [harr] at hnew
      refine ⟨ρ.upd id (some w.heap.size), ?_, ?_, ?_⟩
      · refine hs.refill (o' := .mk e false false inf.size (es.take len ++ ys)) ho hk' (fun b hb => by rw [hP.size]; have := hs.zs b hb; omega) (fun b ⟨i, _, hi⟩ => hP.old (hs.H.own_lt hi)) hnew (fun i _ hi => by have := hs.H.own_lt hi; omega)
          (fun hz => by have := hs.zs _ hz; omega) rfl (by simpa using hnewrel hk') hnewsz hnewone
      · refine .osl (Loc.upd_self _ _ _) hge (.inr ⟨w.heap.size, _, e, rfl, by simp, shape_cells hnew, ?_⟩)
        have : (olds ++ news ++ ext.toList).toArray.size = (len + ys.length) * inf.size + (gc - (len + ys.length)) * inf.size := by
          simp only [List.size_toArray, List.length_append, Array.length_toList, hexs]
          rw [List.length_append] at hnol
          omega
        have h4 : (len + ys.length) * inf.size + (gc - (len + ys.length)) * inf.size = gc * inf.size := by rw [← Nat.add_mul, show len + ys.length + (gc - (len + ys.length)) = gc by omega]
        rw [this, h4]; simp
      · exact { toKeeps := hk', os := hP.os, tape := hP.tape, output := hP.output, size := by rw [hP.size]; omega, keep := fun b hb _ => hP.old hb, zn := fun _ h => .inl h,
                on := fun b hb => hOwn (some w.heap.size) b (fun g hg => by simp at hg; right; omega) hb }
    by_cases hys : ys = []
    · -- nothing to append
      subst hys
      simp only [List.length_nil, Nat.add_zero, List.append_nil] at *
      refine key _ _ (run_append_zero_str t u ty e inf ht hu hi adx len cap hc s (by simpa using hylen.symm) w) ?_
      cases hor with
      | virt he =>
        simp only at he; subst he
        have h0 : len = 0 := by simpa using hlen
        subst h0
        refine ⟨ρ.upd id none, hs.refillO ho (Keeps.refl _ _) hs.zs (fun _ _ => rfl) (fun g hg => by cases hg) (.virt (by simp)), ?_, ?_⟩
        · refine .osl (Loc.upd_self _ _ _) hc (.inl ?_)
          rcases hr with hr | ⟨b, n, t', h1, _⟩
          · exact hr
          · cases h1
        · exact Ext.own_ext fun b hb => hOwn none b (fun g hg => by cases hg) hb
      | real b vs extra hh hv hse h1 hf =>
        simp only [Bool.false_eq_true, if_false] at hf
        refine ⟨ρ.upd id (some b), hs.refill (us := olds) (extra := (vs ++ extra).drop (len * inf.size)) (o' := .mk e false false inf.size (es.take len)) ho (Keeps.refl _ _) hs.zs (fun _ _ => rfl) ?_ (fun i hi hib => hi (hs.H.inj i id b hib hid)) hf rfl (by simpa using holdv) holdsz holdone, ?_, ?_⟩
        · show w.heap[b]? = _
          rw [hh]
          have := holdq b _ rfl hh
          rw [← this]
          simp
        · refine .osl (Loc.upd_self _ _ _) hc ?_
          rcases hr with hr | ⟨b', n, t', h1, h2⟩
          · exact .inl hr
          · exact .inr ⟨b', n, t', h1, h2⟩
        · exact Ext.own_ext fun b' hb => hOwn (some b) b' (fun g hg => by simp at hg; subst hg; exact .inl ⟨id, hid⟩) hb
    · have hm0 : 0 < ys.length := List.length_pos_iff.2 hys
      by_cases hroom : len + ys.length ≤ cap
      · rcases hr with hr | ⟨b, n, t', hqb, hax, hsh, hle⟩
        · omega
        · subst hqb; subst hax
          cases hor with
          | real _ vs extra hh hv hse h1 hf =>
            simp only [Bool.false_eq_true, if_false] at hf
            have hsz : n = (vs ++ extra).toArray.size := by have := shape_cells hh; rw [hsh] at this; simp only [Option.some.injEq, Prod.mk.injEq] at this; exact this.2
            have hfit : len * inf.size + news.length ≤ (vs ++ extra).toArray.size := by
              rw [← hsz, hnl, ← Nat.add_mul]
              have : (len + ys.length) * inf.size ≤ cap * inf.size := Nat.mul_le_mul_right _ hroom
              simp only [Nat.zero_mul, Nat.zero_add] at hle
              omega
            have hq := holdq b _ rfl hh
            have hrun := run_append_room_string (P := P) w t u ty e inf ht hu hi hs1 b len cap (vs ++ extra).toArray hh s (by omega) (by rw [← hylen]; simpa [hs1] using (show len * inf.size + ys.length * inf.size ≤ (vs ++ extra).toArray.size by rw [← hnl]; exact hfit))
            rw [hnews1, ← hylen] at hrun
            have hfl : len * inf.size = len := by rw [hs1, Nat.mul_one]
            have hnl2 : news.length = ys.length := by rw [hnl, hs1, Nat.mul_one]
            rw [hfl] at hq hfit
            rw [hq] at hrun
            rw [Nat.zero_mul] at key
            refine key _ _ hrun ?_
            have hrw : Rewrote w (w.setRow b (olds ++ news ++ (vs ++ extra).toArray.toList.drop (len + ys.length)).toArray) b (vs ++ extra).toArray (olds ++ news ++ (vs ++ extra).toArray.toList.drop (len + ys.length)).toArray e :=
              Rewrote.setRow hh (by
                have h5 : olds.length = len * inf.size := holds1
                rw [hfl] at h5
                simp only [List.size_toArray, List.length_append, List.length_drop] at hfit ⊢
                omega)
            have hk' := hrw.keeps hf
            refine ⟨ρ.upd id (some b), ?_, ?_, ?_⟩
            · exact hs.refill (o' := .mk e false false inf.size (es.take len ++ ys)) ho hk' (fun b hb => by rw [hrw.size]; exact hs.zs b hb) (fun b' ⟨i, hi, hib⟩ => hrw.other b' (fun hbb => hi (hs.H.inj i id b (by rw [hib, hbb]) hid)))
                hrw.new (fun i hi hib => hi (hs.H.inj i id b hib hid)) hf rfl (by simpa using hnewrel hk') hnewsz hnewone
            · exact .osl (Loc.upd_self _ _ _) hroom (.inr ⟨b, n, t', rfl, by rw [Nat.zero_mul], hk'.shp _ _ hsh, hle⟩)
            · exact { toKeeps := hk', os := hrw.os, tape := hrw.tape, output := hrw.output, size := by rw [hrw.size]; exact Nat.le_refl _, keep := fun b' _ hn => hrw.other b' (fun hbb => hn (hbb ▸ ⟨id, hid⟩)), zn := fun _ h => .inl h,
                      on := fun b' hb => (hOwn (some b) b' (fun g hg => by simp at hg; subst hg; exact .inl ⟨id, hid⟩) hb) }
      · obtain ⟨ρ', hg1, hg2, hg3⟩ := grow cap (by omega)
        cases adx with
        | none =>
          have hc0 : cap = 0 := by
            rcases hr with hr | ⟨b, n, t', hqb, hax, _⟩
            · exact hr
            · cases hax
          have hl0 : len = 0 := by omega
          subst hc0; subst hl0
          have hold0 : olds = [] := List.eq_nil_of_length_eq_zero (by simpa using holds1)
          have hrun := run_append_nil_string (P := P) w t u ty e inf z ht hu hi hz s (by omega) (by omega) (by simp only [Nat.zero_add] at hb; rw [← hylen]; omega)
          have hst : s.data.map (fun b => Value.int .u8 b.toNat) = news.toArray := by rw [← hnews1]; apply Array.ext'; simp [strCells]
          rw [hst, ← hylen] at hrun
          refine key _ _ hrun ⟨ρ', ?_⟩
          simp only [Nat.zero_add, hold0] at hg1 hg2 hg3 ⊢
          simp only [List.take_zero, Array.empty_append] at hg1 hg2 hg3 ⊢
          exact ⟨hg1, hg2, hg3⟩
        | some ax =>
          have holdc : ∀ (j : Nat) (v : Value), olds[j]? = some v → w.cell? (ax.add j) = some v := by
            intro j v hj
            have hjl := (List.getElem?_eq_some_iff.1 hj).1
            have hlen0 : 0 < len := by
              rcases Nat.eq_zero_or_pos len with h0 | h0
              · subst h0; simp at holds1; rw [holds1] at hjl; simp at hjl
              · exact h0
            rcases hr with hr | ⟨b, n, t', hqb, hax, hsh, hle⟩
            · omega
            · subst hqb
              cases hax
              cases hor with
              | real _ vs extra hh hv hse h1 hf =>
                have hq := holdq b _ rfl hh
                rw [addr_add]
                simp only [World.cell?, hh, Nat.zero_mul, Nat.zero_add]
                simp only [Option.isSome_none, Bool.false_eq_true, if_false]
                rw [← hq] at hj
                have hjn : j < len * inf.size := by rw [holds1] at hjl; exact hjl
                rw [List.getElem?_take_of_lt hjn] at hj
                simpa using hj
          have hrun := run_append_grow_string (P := P) w t u ty e inf z ht hu hi hz ax len cap olds holds1 holdc s (by omega) (by omega) (by rw [← hylen]; exact growslice_fits (by omega) hb)
          rw [hnews1, ← hylen] at hrun
          exact key _ _ hrun ⟨ρ', hg1, hg2, hg3⟩
end
end Go.Av

/- A text of the proof of JournalTorn: AvFn -/
import Derived.Test.YtjalgcjllddmhaaAvMk
/- Functions: entry, return, calls. -/
namespace Go.Av

/- ### return -/

/-- What a result reads as. -/
inductive Res1 (P : Program) (st : St) : ResultVar → AV → Prop
  | tmp {t : Nat} {x : AV} : get st.fr t = x → Nat.blt t st.n = true → Res1 P st (.tmp t) x
  | cellAgg {t ty id sz n : Nat} {cs : List AV} {o : AObj} : get st.fr t = .ptr id sz 0 0 → Nat.blt t st.n = true → st.H[id]? = some o → o.sz = sz → o.es[0]? = some (.agg cs) →
      aggT P ty = some true → szT P ty = some n → cs.length = n → Res1 P st (.cell t ty) (.agg cs)
  | cell1 {t ty id sz : Nat} {e c : AV} {o : AObj} : get st.fr t = .ptr id sz 0 0 → Nat.blt t st.n = true → st.H[id]? = some o → o.sz = sz → o.es[0]? = some e → e.cells[0]? = some c →
      aggT P ty = some false → Res1 P st (.cell t ty) c

inductive ResL (P : Program) (st : St) : List ResultVar → List AV → Prop
  | nil : ResL P st [] []
  | cons {v : ResultVar} {x : AV} {vs : List ResultVar} {xs : List AV} : Res1 P st v x → ResL P st vs xs → ResL P st (v :: vs) (x :: xs)

def retAV : List AV → AV
  | [x] => x
  | xs => .tup xs

def resSem (tmps : Array Value) : ResultVar → Sem Value
  | .tmp t => pure (tmps.getD t undef)
  | .cell a t => do loadVar t (← asAddr (tmps.getD a undef))

section
variable {P : Program} {ρ0 : Loc} {Z : Nat → Prop} {w : World} {ρ : Loc} {a : Act} {st : St}

theorem Res1.run {v : ResultVar} {x : AV} (hs : SR ρ0 Z w ρ a st) (h : Res1 P st v x) : ∃ u, (resSem a.tmps v).run P w = .ok u w ∧ VR Z w ρ x u := by
  cases h with
  | tmp hg hn =>
    have := hs.fr _ (by simpa [Nat.blt_eq] using hn)
    rw [hg] at this
    exact ⟨_, rfl, this⟩
  | cellAgg hg hn ho hsz he ht hz hl =>
    have hv := hs.fr _ (by simpa [Nat.blt_eq] using hn)
    rw [hg] at hv
    rename_i t ty id sz n cs o
    generalize hu : a.tmps.getD t undef = u at hv
    cases hv with
    | ptr hid =>
      obtain ⟨vs, h1, h2⟩ := hs.H.cellsAt hid ho he n 0 (by simp [AV.cells, hl])
      rw [hsz] at h1
      have h3 : VRs Z w ρ cs vs := by simpa [AV.cells, ← hl] using h2
      refine ⟨.agg vs.toArray, ?_, .agg rfl h3⟩
      simp only [resSem, hu, asAddr, Sem.run_bind, Sem.run_pure, Result.andThen]
      rw [run_loadVar_agg (b := _) (off := 0 * sz + 0) ht hz (by rw [h3.length, hl]) h1]
  | cell1 hg hn ho hsz he hc ht =>
    have hv := hs.fr _ (by simpa [Nat.blt_eq] using hn)
    rw [hg] at hv
    rename_i t ty id sz e o
    generalize hu : a.tmps.getD t undef = u at hv
    cases hv with
    | ptr hid =>
      obtain ⟨v, hv1, hv2⟩ := hs.H.cell hid ho he hc
      rw [hsz] at hv1
      refine ⟨v, ?_, hv2⟩
      simp only [resSem, hu, asAddr, Sem.run_bind, Sem.run_pure, Result.andThen]
      rw [run_loadVar_one ht hv1]

theorem ResL.run (hs : SR ρ0 Z w ρ a st) : ∀ {vs : List ResultVar} {xs : List AV}, ResL P st vs xs → ∃ us, (vs.mapM (resSem a.tmps)).run P w = .ok us w ∧ VRs Z w ρ xs us
  | _, _, .nil => ⟨[], rfl, .nil⟩
  | _, _, .cons h hr => by
    obtain ⟨u, h1, h2⟩ := h.run hs
    obtain ⟨us, h3, h4⟩ := ResL.run hs hr
    exact ⟨u :: us, by rw [List.mapM_cons]; simp [h1, h3], .cons h2 h4⟩

theorem resl_results {fn : Func} {xs : List AV} (hs : SR ρ0 Z w ρ a st) (h : ResL P st fn.results.toList xs) : ∃ v, (results fn a.tmps).run P w = .ok v w ∧ VR Z w ρ (retAV xs) v := by
  obtain ⟨us, h1, h2⟩ := h.run hs
  have hm : (fn.results.mapM (resSem a.tmps)).run P w = .ok us.toArray w := by
    rw [← Array.toArray_toList (xs := fn.results), List.mapM_toArray]
    simp [h1]
  have hr : results fn a.tmps = (do let vs ← fn.results.mapM (resSem a.tmps); pure (if h : vs.size = 1 then vs[0] else .tuple vs)) := by
    unfold results
    congr 1
  rw [hr]
  simp only [Sem.run_bind, hm, Result.andThen, Sem.run_pure]
  refine ⟨_, rfl, ?_⟩
  cases h2 with
  | nil => simp [retAV]; exact .tup (l := []) rfl .nil
  | cons hv hvs =>
    cases hvs with
    | nil => simpa [retAV] using hv
    | cons hv2 hvs2 => simpa [retAV] using VR.tup rfl (.cons hv (.cons hv2 hvs2))
end

/-- At the end: the results, with the objects 'ids' kept. -/
def RetQ (P : Program) (fn : Func) (Post : AV → List AObj → (Nat → Option Nat) → Prop) : Exit → St → Prop
  | .normal, st | .ret, st => ∃ xs ids, ResL P st fn.results.toList xs ∧ nodupB ids = true ∧ ids.all (fun id => Nat.blt id st.H.length) = true ∧
      Post ((retAV xs).ren (keepMap ids)) (pick st.H ids) (fun i => (st.m i).bind (keepMap ids))
  | _, _ => False

def enterFr : List AV → Nat → List (Nat × AV)
  | [], _ => []
  | x :: r, k => (k, x) :: enterFr r (k + 1)

theorem get_enterFr : ∀ (xs : List AV) (k t : Nat), get (enterFr xs k) t = if k ≤ t then xs.getD (t - k) .dead else .dead
  | [], k, t => by simp [enterFr, get]
  | x :: r, k, t => by
    simp only [enterFr, get]
    by_cases e : k = t
    · subst e; simp
    · rw [beq_no e]
      simp only [cond_false, get_enterFr r (k + 1) t]
      by_cases h : k + 1 ≤ t
      · rw [if_pos h, if_pos (by omega), show t - k = (t - (k + 1)) + 1 by omega]; simp
      · rw [if_neg h, if_neg (by omega)]

theorem hspec_intro {P : Program} {f : FuncId} {fn : Func} {c : Code} {args : List AV} {H : List AObj} {Post : AV → List AObj → (Nat → Option Nat) → Prop} (hf : P.funcs[f]? = some fn) (hb : fn.body = some c) (hn : Nat.ble args.length fn.ntmps = true)
    (h : Tri P c (RetQ P fn Post) ⟨fn.ntmps, some, enterFr args 0, H⟩) : HSpec P f args H Post := by
  intro Z w ρ vs hv hh hz
  refine calls_of_wp hf hb ?_
  have hn' := Nat.le_of_ble_eq_true hn
  have hl := hv.length
  have hs : SR ρ Z w ρ { tmps := vs.toArray ++ Array.replicate (fn.ntmps - vs.toArray.size) undef, defers := [] } ⟨fn.ntmps, some, enterFr args 0, H⟩ := by
    refine ⟨Renames.id ρ, rfl, by simp; omega, ?_, hh, hz⟩
    intro t ht
    simp only [get_enterFr, Nat.zero_le, if_true, Nat.sub_zero]
    by_cases hlt : t < args.length
    · obtain ⟨v, hv1, hv2⟩ := hv.get t args[t] (by simp [hlt])
      have : (vs.toArray ++ Array.replicate (fn.ntmps - vs.toArray.size) undef).getD t undef = v := by
        rw [Array.getD_eq_getD_getElem?, Array.getElem?_append_left (by simp; omega)]
        simp [hv1]
      rw [this]
      simpa [List.getD, hlt] using hv2
    · simp only [List.getD, List.getElem?_eq_none (Nat.le_of_not_lt hlt), Option.getD_none]
      exact .dead _
  refine wp_mono (h ρ Z w ρ _ hs) ?_
  rintro e a' w' ⟨st', Z', ρ', hq, hs', hx⟩
  have fin : (∃ xs ids, ResL P st' fn.results.toList xs ∧ nodupB ids = true ∧ ids.all (fun id => Nat.blt id st'.H.length) = true ∧ Post ((retAV xs).ren (keepMap ids)) (pick st'.H ids) (fun i => (st'.m i).bind (keepMap ids))) →
      a'.defers = [] ∧ ∃ v, (results fn a'.tmps).run P w' = .ok v w' ∧ ∃ v_1 r H' m Z' ρ', Ending.returned v = .returned v_1 ∧ Post r H' m ∧ VR Z' w' ρ' r v_1 ∧ HR Z' w' ρ' H' ∧ Renames m ρ ρ' ∧ (∀ b, Z' b → b < w'.heap.size) ∧ Ext Z (Own ρ) w Z' (Own ρ') w' := by
    rintro ⟨xs, ids, hr, hnd, hlt, hp⟩
    obtain ⟨v, hv1, hv2⟩ := resl_results hs' hr
    exact ⟨hs'.defers, v, hv1, v, _, _, _, Z', _, rfl, hp, hv2.ren Renames_keep, hs'.H.keep hnd hlt, hs'.rn.comp Renames_keep, hs'.zs, hx.trans (Ext.own_sub fun b hb => Own_keep hb)⟩
  cases e with
  | normal => exact fin hq
  | ret => exact fin hq
  | exit => exact hq.elim
  | goto => exact hq.elim
  | panic => exact hq.elim
  | outgrown => exact hq.elim

/- ### arguments, as the callee may read them -/

def Zx (Z : Nat → Prop) (ρ : Loc) (ids : List Nat) (b : Nat) : Prop := Z b ∨ ∃ id ∈ ids, ρ id = some (some b)

def SnapR (st : St) (x y : AV) (ids : List Nat) : Prop := ∀ ρ0 Z w ρ a v, SR ρ0 Z w ρ a st → VR Z w ρ x v → VR (Zx Z ρ ids) w noLoc y v
def SnapsR (st : St) (xs ys : List AV) (ids : List Nat) : Prop := ∀ ρ0 Z w ρ a vs, SR ρ0 Z w ρ a st → VRs Z w ρ xs vs → VRs (Zx Z ρ ids) w noLoc ys vs

theorem Zx_keeps {Z : Nat → Prop} {w : World} {ρ : Loc} {ids ids' : List Nat} (h : ∀ i ∈ ids, i ∈ ids') : Keeps (Zx Z ρ ids) w (Zx Z ρ ids') w :=
  ⟨fun b hb => hb.imp id fun ⟨i, hi, hr⟩ => ⟨i, h i hi, hr⟩, fun _ _ => rfl, fun _ _ h => h⟩
theorem Z_keeps {Z : Nat → Prop} {w : World} {ρ : Loc} {ids : List Nat} : Keeps Z w (Zx Z ρ ids) w := ⟨fun _ h => .inl h, fun _ _ => rfl, fun _ _ h => h⟩

section
variable {st : St}
theorem SnapR.pure {x : AV} (h : x.pureB = true) : SnapR st x x [] := fun _ _ _ _ _ _ _ hv => (hv.pure h).mono Z_keeps (Loc.le_refl _)
theorem SnapR.dead {x : AV} : SnapR st x .dead [] := fun _ _ _ _ _ _ _ _ => .dead _
theorem SnapsR.nil : SnapsR st [] [] [] := fun _ _ _ _ _ _ _ h => by cases h; exact .nil
theorem SnapsR.cons {x y : AV} {xs ys : List AV} {i j : List Nat} (h : SnapR st x y i) (hs : SnapsR st xs ys j) : SnapsR st (x :: xs) (y :: ys) (i ++ j) := by
  intro ρ0 Z w ρ a vs hsr hv
  cases hv with
  | cons h1 h2 => exact .cons ((h _ _ _ _ _ _ hsr h1).mono (Zx_keeps (by simp +contextual)) (Loc.le_refl _)) ((hs _ _ _ _ _ _ hsr h2).mono (Zx_keeps (by simp +contextual)) (Loc.le_refl _))
theorem SnapR.agg {xs ys : List AV} {i : List Nat} (h : SnapsR st xs ys i) : SnapR st (.agg xs) (.agg ys) i := by
  intro ρ0 Z w ρ a v hsr hv
  cases hv with
  | agg he hl => exact .agg he (h _ _ _ _ _ _ hsr hl)
theorem SnapR.osl {id sz i len : Nat} {o : AObj} {es : List AV} (ho : st.H[id]? = some o) (hrf : o.refs = false) (hsz : o.sz = sz) (hes : (o.es.drop i).take len = es) (hl : i + len ≤ o.es.length) : SnapR st (.osl id sz i len) (.sl sz es) [id] := by
  intro ρ0 Z w ρ a v hs hv
  obtain ⟨ad, c, vs, he, h1, h2, h3, h4⟩ := Src.osl ho hsz hes hl ρ0 Z w ρ a v hs hv
  simp only [hrf, Bool.not_false, if_true] at h1
  subst he
  by_cases hne : es = []
  · subst hne; exact .slnil
  · obtain ⟨b, off, had, hc⟩ := h4 hne
    subst had
    have hcap : es.length ≤ c ∧ ∃ q, (some q : Option Nat) = some b ∧ ρ id = some (some b) := by
      cases hv with
      | osl hid hle0 hr =>
        rcases hr with hr | ⟨b', n, t, h5, h6, _⟩
        · have : es.length = 0 := by omega
          exact absurd (List.eq_nil_of_length_eq_zero this) hne
        · cases h6; subst h5; exact ⟨hle0, _, rfl, hid⟩
    obtain ⟨hle, _, _, hid⟩ := hcap
    exact .sl hne rfl (.inr ⟨id, by simp, hid⟩) h2 hle (fun k v hk => ⟨h3 v (List.mem_of_getElem? hk), hc k v hk⟩) (h1.mono Z_keeps (Loc.le_refl _))
/-- A pointer to an own object, as one to cells that are only read. -/
theorem SnapR.ptr {id sz i j : Nat} {o : AObj} {e : AV} {cs : List AV} {js : List Nat} (ho : st.H[id]? = some o) (hsz : o.sz = sz) (he : o.es[i]? = some e) (hc : SnapsR st e.cells cs js) : SnapR st (.ptr id sz i j) (.rp cs j) (id :: js) := by
  intro ρ0 Z w ρ a v hs hv
  cases hv with
  | ptr hid =>
    rename_i b
    obtain ⟨vs, h1, h2⟩ := hs.H.cellsAt hid ho he e.cells.length 0 (by simp)
    rw [hsz] at h1
    simp only [List.drop_zero, List.take_length] at h2
    obtain ⟨q, hq, hor⟩ := hs.H.obj id o ho
    rw [hid] at hq; cases hq
    refine .rp (vs := vs) (off := i * sz) (.inr ⟨id, by simp, hid⟩) (fun k v hk => ⟨?_, by simpa using h1 k v hk⟩) ((hc _ _ _ _ _ _ hs h2).mono (Zx_keeps (by simp +contextual)) (Loc.le_refl _))
    cases hor with
    | real _ us extra hh hv hse hone hf =>
      have hcell := h1 k v hk
      have hkl : k < e.cells.length := by have := (List.getElem?_eq_some_iff.1 hk).1; rw [h2.length] at this; exact this
      have hg := flat_get hse he (j := k) (by rw [← hse e (List.mem_of_getElem? he)]; exact hkl)
      have hlt : i * o.sz + k < us.length := by
        rw [hv.length]
        rcases Nat.lt_or_ge (i * o.sz + k) (flat o.es).length with h' | h'
        · exact h'
        · rw [List.getElem?_eq_none h', List.getElem?_eq_getElem hkl] at hg; cases hg
      simp only [World.cell?, hh, Option.isSome_none, Bool.false_eq_true, if_false, Nat.add_zero] at hcell
      rw [hsz] at hlt
      simp only [List.getElem?_toArray] at hcell
      rw [List.getElem?_append_left hlt] at hcell
      exact hone v (List.mem_of_getElem? hcell)
end

/- ### calls -/

def shiftM (n : Nat) : Nat → Option Nat := fun id => some (n + id)

def frzGo (ids : List Nat) : Nat → List AObj → List AObj
  | _, [] => []
  | k, o :: r => (bif ids.any (fun i => Nat.beq i k) then { o with fz := true } else o) :: frzGo ids (k + 1) r
def frz (ids : List Nat) (H : List AObj) : List AObj := match ids with
  | [] => H
  | i :: r => frzGo (i :: r) 0 H

theorem frzGo_get (ids : List Nat) : ∀ (H : List AObj) (k i : Nat), (frzGo ids k H)[i]? = (H[i]?).map fun o => bif ids.any (fun j => Nat.beq j (k + i)) then { o with fz := true } else o
  | [], k, i => by simp [frzGo]
  | o :: r, k, 0 => by simp [frzGo]
  | o :: r, k, i + 1 => by simp [frzGo, frzGo_get ids r (k + 1) i, Nat.add_assoc, Nat.add_comm 1]
theorem frz_get (ids : List Nat) (H : List AObj) (i : Nat) : (frz ids H)[i]? = (H[i]?).map fun o => bif ids.any (fun j => Nat.beq j i) then { o with fz := true } else o := by
  unfold frz
  cases ids with
  | nil => simp
  | cons j r => simpa using frzGo_get (j :: r) H 0 i
theorem frzGo_length (ids : List Nat) : ∀ (H : List AObj) (k : Nat), (frzGo ids k H).length = H.length
  | [], k => rfl
  | o :: r, k => by simp [frzGo, frzGo_length ids r]
theorem frz_length (ids : List Nat) (H : List AObj) : (frz ids H).length = H.length := by
  unfold frz; cases ids with
  | nil => rfl
  | cons j r => exact frzGo_length _ _ _

/-- A result that reads no memory but new objects'. -/
def AV.shut0 : AV → Bool
  | .val _ | .ptr .. | .osl .. | .dead | .sl _ [] => true
  | _ => false
def AV.shut1 : AV → Bool
  | .agg cs => cs.all AV.shut0
  | x => x.shut0
def AV.shut : AV → Bool
  | .agg cs | .tup cs => cs.all AV.shut1
  | x => x.shut0

section
variable {Z Z' : Nat → Prop} {w : World} {ρ : Loc}
theorem VR.shut0 {x : AV} {v : Value} (h : VR Z w ρ x v) (hx : x.shut0 = true) : VR Z' w ρ x v := by
  cases x with
  | val u => cases h; exact .val _
  | dead => exact .dead v
  | ptr id sz i j => cases h with | ptr h => exact .ptr h
  | osl id sz i len => cases h with | osl h1 h2 h3 => exact .osl h1 h2 h3
  | sl sz es =>
    cases es with
    | nil => cases h with
      | slnil => exact .slnil
      | sl h0 => exact absurd rfl h0
    | cons => simp [AV.shut0] at hx
  | _ => simp [AV.shut0] at hx
theorem VRs.map_imp {Z Z' : Nat → Prop} {f : AV → Bool} (hf : ∀ x v, VR Z w ρ x v → f x = true → VR Z' w ρ x v) : ∀ {xs : List AV} {vs : List Value}, VRs Z w ρ xs vs → xs.all f = true → VRs Z' w ρ xs vs
  | _, _, .nil, _ => .nil
  | _, _, .cons h hs, ha => by
    simp only [List.all_cons, Bool.and_eq_true] at ha
    exact .cons (hf _ _ h ha.1) (VRs.map_imp hf hs ha.2)
theorem VR.shut1 {x : AV} {v : Value} (h : VR Z w ρ x v) (hx : x.shut1 = true) : VR Z' w ρ x v := by
  cases x with
  | agg cs =>
    cases h with
    | agg he hl => exact .agg he (hl.map_imp (fun _ _ h hx => h.shut0 hx) (by simpa [AV.shut1] using hx))
  | _ => exact h.shut0 (by simpa [AV.shut1] using hx)
theorem VR.shut {x : AV} {v : Value} (h : VR Z w ρ x v) (hx : x.shut = true) : VR Z' w ρ x v := by
  cases x with
  | agg cs =>
    cases h with
    | agg he hl => exact .agg he (hl.map_imp (fun _ _ h hx => h.shut1 hx) (by simpa [AV.shut] using hx))
  | tup cs =>
    cases h with
    | tup he hl => exact .tup he (hl.map_imp (fun _ _ h hx => h.shut1 hx) (by simpa [AV.shut] using hx))
  | _ => exact h.shut0 (by simpa [AV.shut] using hx)
end

/-- An object whose cells are plain values, or refer to own objects. -/
def AObj.Shut (o : AObj) : Prop := o.fz = false ∧ (flat o.es).all AV.shut0 = true

theorem AObj.shut_vals {ty sz : Nat} {rf : Bool} {es : List AV} (h : ∀ e ∈ es, ∃ v, e = .val v) : (AObj.mk ty rf false sz es).Shut := by
  refine ⟨rfl, ?_⟩
  induction es with
  | nil => rfl
  | cons e r ih =>
    obtain ⟨v, rfl⟩ := h e (by simp)
    have := ih (fun e he => h e (by simp [he]))
    simp only [flat, AV.cells, List.cons_append, List.nil_append, List.all_cons, AV.shut0, Bool.true_and]
    exact this

section
variable {P : Program} {ρ0 : Loc} {Z Z' : Nat → Prop} {w w' : World} {ρ ρ' : Loc} {a : Act} {st : St}

def joinLoc (n : Nat) (ρ ρ' : Loc) : Loc := fun i => if i < n then ρ i else ρ' (i - n)

theorem joinLoc_le {ρ ρ' : Loc} {H : List AObj} (h : HR Z w ρ H) : ρ.le (joinLoc H.length ρ ρ') := by
  intro id q hq
  have := h.dom id q hq
  simp [joinLoc, this, hq]
theorem joinLoc_ren {n : Nat} {ρ ρ' : Loc} : Renames (shiftM n) ρ' (joinLoc n ρ ρ') := by
  intro i k q hm hq
  simp only [shiftM, Option.some.injEq] at hm
  subst hm
  have : ¬ n + i < n := by omega
  simp [joinLoc, this, hq]

def St.called (st : St) (ids : List Nat) (H' : List AObj) : St := ⟨st.n, st.m, st.fr, frz ids st.H ++ H'.map (AObj.ren (shiftM st.H.length))⟩

theorem OR.fzed {o : AObj} {q : Option Nat} (h : OR Z w ρ o q) (hz : ∀ b, q = some b → Z b) : OR Z w ρ { o with fz := true } q := by
  cases h with
  | virt he => exact .virt he
  | real b vs extra hh hv hs h1 hf => exact .real b vs extra hh hv hs h1 (by simpa using hz b rfl)

/-- Behind a call that was handed no own object: what it read is written no more. -/
theorem SR.calledB {ids : List Nat} {H' : List AObj} {r : AV} {v : Value} (hs : SR ρ0 Z w ρ a st) (hr : VR Z' w' ρ' r v) (hh : HR Z' w' ρ' H') (hz' : ∀ b, Z' b → b < w'.heap.size) (hx : Ext (Zx Z ρ ids) (Own noLoc) w Z' (Own ρ') w') :
    SR ρ0 Z' w' (joinLoc st.H.length ρ ρ') a (st.called ids H') ∧ VR Z' w' (joinLoc st.H.length ρ ρ') (r.ren (shiftM st.H.length)) v ∧ Ext Z (Own ρ) w Z' (Own (joinLoc st.H.length ρ ρ')) w' := by
  have hno : ∀ b, ¬ Own noLoc b := fun b ⟨i, hi⟩ => by simp [noLoc] at hi
  have hk : Keeps Z w Z' w' := ⟨fun b hb => hx.zz b (.inl hb), fun b hb => hx.zk b (.inl hb), hx.shp⟩
  have hle := joinLoc_le (ρ' := ρ') hs.H
  have hnew : ∀ b, Own ρ' b → w.heap.size ≤ b := fun b hb => (hx.on b hb).elim (fun h => absurd h (hno b)) id
  have hZ' : ∀ b, Z' b → Z b ∨ (∃ id ∈ ids, ρ id = some (some b)) ∨ w.heap.size ≤ b := fun b hb => (hx.zn b hb).elim (fun h => h.elim .inl (fun h => .inr (.inl h))) (fun h => h.elim (fun h => absurd h (hno b)) (fun h => .inr (.inr h)))
  refine ⟨⟨hs.rn.le hle, hs.defers, hs.size, fun t ht => (hs.fr t ht).mono hk hle, ⟨?_, ?_, ?_⟩, hz'⟩, hr.ren joinLoc_ren, ?_⟩
  · intro i q hq
    simp only [St.called, List.length_append, frz_length, List.length_map]
    by_cases h : i < st.H.length
    · omega
    · simp only [joinLoc, h, if_false] at hq
      have := hh.dom _ _ hq
      omega
  · intro i o ho
    simp only [St.called] at ho
    by_cases h : i < st.H.length
    · rw [List.getElem?_append_left (by rw [frz_length]; exact h), frz_get] at ho
      obtain ⟨q, hq, hor⟩ := hs.H.obj i st.H[i] (by simp [h])
      rw [List.getElem?_eq_getElem h] at ho
      simp only [Option.map_some, Option.some.injEq] at ho
      refine ⟨q, hle _ _ hq, ?_⟩
      subst ho
      have hb : ∀ b, q = some b → w'.heap[b]? = w.heap[b]? := fun b hqb => hx.keep b (hs.H.own_lt (hqb ▸ hq)) (hno b)
      cases hin : ids.any (fun j => Nat.beq j i) with
      | true =>
        obtain ⟨j, hj, hji⟩ := List.any_eq_true.1 hin
        have hji := Nat.eq_of_beq_eq_true hji
        subst hji
        simp only [cond_true]
        have hzb : ∀ b, q = some b → Z' b := fun b hqb => hx.zz b (.inr ⟨j, hj, hqb ▸ hq⟩)
        cases hor with
        | virt he => exact .virt he
        | real b vs extra hheap hv hse h1 hf =>
          refine .real b vs extra (by rw [hb b rfl]; exact hheap) (hv.mono hk ?_) hse h1 (by simpa using hzb b rfl)
          show Loc.le _ (if st.H[j].refs then _ else _)
          cases st.H[j].refs
          · exact Loc.le_refl _
          · exact hle
      | false =>
        simp only [cond_false]
        refine hor.mono hk hle fun b hqb => ⟨hb b hqb, ⟨fun h1 => ?_, hk.zz b⟩⟩
        rcases hZ' b h1 with h2 | ⟨j, hj, hjb⟩ | h2
        · exact h2
        · have := hs.H.inj j i b hjb (hqb ▸ hq)
          subst this
          have := List.any_eq_false.1 hin j hj
          simp at this
        · have := hs.H.own_lt (hqb ▸ hq); omega
    · rw [List.getElem?_append_right (by rw [frz_length]; omega), frz_length, List.getElem?_map] at ho
      cases ho' : H'[i - st.H.length]? with
      | none => simp [ho'] at ho
      | some o' =>
        simp [ho'] at ho
        subst ho
        obtain ⟨q, hq, hor⟩ := hh.obj _ _ ho'
        exact ⟨q, by simp [joinLoc, h, hq], hor.ren joinLoc_ren⟩
  · intro i j b hi hj
    simp only [joinLoc] at hi hj
    by_cases h1 : i < st.H.length <;> by_cases h2 : j < st.H.length <;> simp only [h1, h2, if_true, if_false] at hi hj
    · exact hs.H.inj i j b hi hj
    · have := hs.H.own_lt hi; have := hnew b ⟨_, hj⟩; omega
    · have := hs.H.own_lt hj; have := hnew b ⟨_, hi⟩; omega
    · have := hh.inj _ _ b hi hj; omega
  · refine { toKeeps := hk, os := hx.os, tape := hx.tape, output := hx.output, size := hx.size, keep := fun b hb _ => hx.keep b hb (hno b), zn := fun b hb => ?_, on := fun b ⟨i, hi⟩ => ?_ }
    · rcases hZ' b hb with h | ⟨j, _, hjb⟩ | h
      · exact .inl h
      · exact .inr (.inl ⟨j, hjb⟩)
      · exact .inr (.inr h)
    · simp only [joinLoc] at hi
      by_cases h : i < st.H.length
      · simp only [h, if_true] at hi; exact .inl ⟨i, hi⟩
      · simp only [h, if_false] at hi; exact .inr (hnew b ⟨_, hi⟩)

/-- Behind a call whose result reads new memory alone. -/
theorem SR.calledA {ids : List Nat} {H' : List AObj} {r : AV} {v : Value} (hs : SR ρ0 Z w ρ a st) (hr : VR Z' w' ρ' r v) (hh : HR Z' w' ρ' H') (hx : Ext (Zx Z ρ ids) (Own noLoc) w Z' (Own ρ') w')
    (hrs : r.shut = true) (hos : ∀ o ∈ H', o.Shut) :
    SR ρ0 Z w' (joinLoc st.H.length ρ ρ') a (st.called [] H') ∧ VR Z w' (joinLoc st.H.length ρ ρ') (r.ren (shiftM st.H.length)) v ∧ Ext Z (Own ρ) w Z (Own (joinLoc st.H.length ρ ρ')) w' := by
  have hno : ∀ b, ¬ Own noLoc b := fun b ⟨i, hi⟩ => by simp [noLoc] at hi
  have hnew : ∀ b, Own ρ' b → w.heap.size ≤ b := fun b hb => (hx.on b hb).elim (fun h => absurd h (hno b)) id
  have hr2 : VR Z w' ρ' r v := hr.shut hrs
  have hx2 : Ext (Zx Z ρ []) (Own noLoc) w Z (Own ρ') w' :=
    { zz := fun b hb => hb.elim id (fun ⟨_, h, _⟩ => by cases h), zk := fun b hb => hx.zk b (hb.elim .inl (fun ⟨_, h, _⟩ => by cases h)), shp := hx.shp, os := hx.os, tape := hx.tape, output := hx.output, size := hx.size, keep := hx.keep,
      zn := fun b hb => .inl (.inl hb), on := hx.on }
  have hh2 : HR Z w' ρ' H' := by
    refine ⟨hh.dom, fun id o ho => ?_, hh.inj⟩
    obtain ⟨q, hq, hor⟩ := hh.obj id o ho
    have hsh := hos o (List.mem_of_getElem? ho)
    refine ⟨q, hq, ?_⟩
    cases hor with
    | virt he => exact .virt he
    | real b vs extra hheap hv hse h1 hf =>
      refine .real b vs extra hheap (hv.map_imp (fun _ _ h hx => h.shut0 hx) hsh.2) hse h1 ?_
      rw [hsh.1]
      intro hz
      have := hs.zs b hz
      have := hnew b ⟨id, hq⟩
      omega
  exact hs.calledB (ids := []) hr2 hh2 (fun b hb => Nat.lt_of_lt_of_le (hs.zs b hb) hx.size) hx2
end

section
variable {P : Program} {K : St → Prop} {st : St} {ty : TypeId} {pos : String} {aft : Array Edge} {g : Option (Nat × Bool)}

def resolved (f : FuncId) (P : Program) : Prop := ∃ fn, P.funcs[f]? = some fn ∧ (fn.name == "runtime.NumGoroutine") = false ∧ fn.body.isSome = true

theorem run_call {f : FuncId} {c : Call} {dst : Option Nat} {a : Act} {w : World} {x : Operand} {fv cv : Array Value} (hf : resolved f P) (hc : c.callee = .value x) (hx : a.eval x = .func (.func f) fv cv) :
    (execOp a.eval ⟨dst, .call c, ty, pos, aft, g⟩).run P w = .ok (.enter f (fv ++ c.args.map a.eval ++ cv)) w := by
  obtain ⟨fn, h1, h2, h3⟩ := hf
  have h4 : fn.body ≠ none := by intro h; rw [h] at h3; simp at h3
  have h5 : fn.name ≠ "runtime.NumGoroutine" := by simpa using h2
  simp [execOp, resolve, hc, hx, Deferred.ofValue, invoke, callFunc, h1, h5, h4]

def putO (st : St) (dst : Option Nat) (x : AV) : St := match dst with
  | some d => st.put d x
  | none => st
def dstIn (n : Nat) : Option Nat → Bool
  | some d => Nat.blt d n
  | none => true

theorem SR.putO {ρ0 : Loc} {Z : Nat → Prop} {w : World} {ρ : Loc} {a : Act} (h : SR ρ0 Z w ρ a st) {dst : Option Nat} {x : AV} {v : Value} (hd : dstIn st.n dst = true) (hv : VR Z w ρ x v) : SR ρ0 Z w ρ (a.put dst v) (Av.putO st dst x) := by
  cases dst with
  | none => simpa [Av.putO, Act.put] using h
  | some d => exact h.put hd hv

theorem args_rel {ρ0 : Loc} {Z : Nat → Prop} {w : World} {ρ : Loc} {a : Act} (hs : SR ρ0 Z w ρ a st) : ∀ (l : List Operand), l.all (opIn st.n) = true → VRs Z w ρ (l.map st.ev) (l.map a.eval)
  | [], _ => .nil
  | x :: r, h => by
    simp only [List.all_cons, Bool.and_eq_true] at h
    exact .cons (hs.ev h.1) (args_rel hs r h.2)

/-- A call that is handed no own object; what it read of own objects is written no more. -/
theorem op_callB {f : FuncId} {x : Operand} {args : Array Operand} {tys : Array TypeId} {dst : Option Nat} {xs ys : List AV} {ids : List Nat} {fs cs : List AV} {Post : AV → List AObj → (Nat → Option Nat) → Prop}
    (hx : st.ev x = .fn (.func f) fs cs) (nx : opIn st.n x = true) (hargs : args.toList.map st.ev = xs) (nargs : args.toList.all (opIn st.n) = true) (hd : dstIn st.n dst = true) (hf : resolved f P)
    (hsn : SnapsR st (fs ++ xs ++ cs) ys ids) (hspec : HSpec P f ys [] Post) (hk : ∀ r H' m, Post r H' m → K (putO (st.called ids H') dst (r.ren (shiftM st.H.length)))) : OpTri P ⟨dst, .call ⟨.value x, args, tys⟩, ty, pos, aft, g⟩ K st := by
  intro ρ0 Z w ρ a hs
  have hv := hs.eva hx nx
  generalize hvx : a.eval x = v at hv
  cases hv with
  | fn he1 he2 h1 h2 =>
    subst he1; subst he2
    rename_i l m
    have hall : VRs Z w ρ (fs ++ xs ++ cs) (l ++ args.toList.map a.eval ++ m) := by
      rw [← hargs]; exact (h1.append (args_rel hs _ nargs)).append h2
    have hvs := hsn _ _ _ _ _ _ hs hall
    have hc := hspec (Zx Z ρ ids) w noLoc _ hvs ⟨fun _ _ h => by simp [noLoc] at h, fun _ _ h => by simp at h, fun _ _ _ h => by simp [noLoc] at h⟩ (fun b hb => hb.elim (hs.zs b) (fun ⟨i, _, hi⟩ => hs.H.own_lt hi))
    unfold Oper.wp
    rw [run_call hf rfl hvx]
    have harr : (l.toArray ++ args.map a.eval ++ m.toArray) = (l ++ args.toList.map a.eval ++ m).toArray := by apply Array.ext'; simp
    rw [harr]
    refine hc.mono ?_
    rintro e w' ⟨v, r, H', mm, Z', ρ', rfl, hp, hr, hh, _, hz, hxt⟩
    obtain ⟨h3, h4, h5⟩ := hs.calledB (ids := ids) hr hh hz hxt
    exact ⟨_, Z', _, hk _ _ _ hp, h3.putO hd h4, h5⟩

/-- A call that is handed no own object, and whose result reads new memory alone. -/
theorem op_callA {f : FuncId} {x : Operand} {args : Array Operand} {tys : Array TypeId} {dst : Option Nat} {xs ys : List AV} {ids : List Nat} {fs cs : List AV} {Post : AV → List AObj → (Nat → Option Nat) → Prop}
    (hx : st.ev x = .fn (.func f) fs cs) (nx : opIn st.n x = true) (hargs : args.toList.map st.ev = xs) (nargs : args.toList.all (opIn st.n) = true) (hd : dstIn st.n dst = true) (hf : resolved f P)
    (hsn : SnapsR st (fs ++ xs ++ cs) ys ids) (hspec : HSpec P f ys [] Post) (hsh : ∀ r H' m, Post r H' m → r.shut = true ∧ ∀ o ∈ H', o.Shut)
    (hk : ∀ r H' m, Post r H' m → K (putO (st.called [] H') dst (r.ren (shiftM st.H.length)))) : OpTri P ⟨dst, .call ⟨.value x, args, tys⟩, ty, pos, aft, g⟩ K st := by
  intro ρ0 Z w ρ a hs
  have hv := hs.eva hx nx
  generalize hvx : a.eval x = v at hv
  cases hv with
  | fn he1 he2 h1 h2 =>
    subst he1; subst he2
    rename_i l m
    have hall : VRs Z w ρ (fs ++ xs ++ cs) (l ++ args.toList.map a.eval ++ m) := by
      rw [← hargs]; exact (h1.append (args_rel hs _ nargs)).append h2
    have hvs := hsn _ _ _ _ _ _ hs hall
    have hc := hspec (Zx Z ρ ids) w noLoc _ hvs ⟨fun _ _ h => by simp [noLoc] at h, fun _ _ h => by simp at h, fun _ _ _ h => by simp [noLoc] at h⟩ (fun b hb => hb.elim (hs.zs b) (fun ⟨i, _, hi⟩ => hs.H.own_lt hi))
    unfold Oper.wp
    rw [run_call hf rfl hvx]
    have harr : (l.toArray ++ args.map a.eval ++ m.toArray) = (l ++ args.toList.map a.eval ++ m).toArray := by apply Array.ext'; simp
    rw [harr]
    refine hc.mono ?_
    rintro e w' ⟨v, r, H', mm, Z', ρ', rfl, hp, hr, hh, _, hz, hxt⟩
    obtain ⟨hs1, hs2⟩ := hsh _ _ _ hp
    obtain ⟨h3, h4, h5⟩ := hs.calledA (ids := ids) hr hh hxt hs1 hs2
    exact ⟨_, Z, _, hk _ _ _ hp, h3.putO hd h4, h5⟩

/-- A call that is handed the own objects, all of them; none of them moves. -/
theorem op_callH {f : FuncId} {x : Operand} {args : Array Operand} {tys : Array TypeId} {dst : Option Nat} {ys : List AV} {fs cs : List AV} {Post : AV → List AObj → (Nat → Option Nat) → Prop}
    (hx : st.ev x = .fn (.func f) fs cs) (nx : opIn st.n x = true) (hargs : fs ++ args.toList.map st.ev ++ cs = ys) (nargs : args.toList.all (opIn st.n) = true) (hd : dstIn st.n dst = true) (hf : resolved f P)
    (hspec : HSpec P f ys st.H Post) (hm : ∀ r H' m, Post r H' m → ∀ id, id < st.H.length → m id = some id)
    (hk : ∀ r H' m, Post r H' m → K (putO ⟨st.n, st.m, st.fr, H'⟩ dst r)) : OpTri P ⟨dst, .call ⟨.value x, args, tys⟩, ty, pos, aft, g⟩ K st := by
  intro ρ0 Z w ρ a hs
  have hv := hs.eva hx nx
  generalize hvx : a.eval x = v at hv
  cases hv with
  | fn he1 he2 h1 h2 =>
    subst he1; subst he2
    rename_i l m
    have hall : VRs Z w ρ ys (l ++ args.toList.map a.eval ++ m) := by
      rw [← hargs]; exact (h1.append (args_rel hs _ nargs)).append h2
    have hc := hspec Z w ρ _ hall hs.H hs.zs
    unfold Oper.wp
    rw [run_call hf rfl hvx]
    have harr : (l.toArray ++ args.map a.eval ++ m.toArray) = (l ++ args.toList.map a.eval ++ m).toArray := by apply Array.ext'; simp
    rw [harr]
    refine hc.mono ?_
    rintro e w' ⟨v, r, H', mm, Z', ρ', rfl, hp, hr, hh, hren, hz, hxt⟩
    have hle : ρ.le ρ' := fun id q hq => hren id id q (hm _ _ _ hp id (hs.H.dom id q hq)) hq
    have h3 : SR ρ0 Z' w' ρ' a ⟨st.n, st.m, st.fr, H'⟩ := ⟨hs.rn.le hle, hs.defers, hs.size, fun t ht => (hs.fr t ht).mono hxt.toKeeps hle, hh, hz⟩
    exact ⟨_, Z', ρ', hk _ _ _ hp, h3.putO hd hr, hxt⟩
end
end Go.Av

/- A text of the proof of JournalTorn: AvCallG -/
import Derived.Test.YtjalgcjllddmhaaAvStep
/- A call that is handed some own objects. -/
namespace Go.Av

def killL (ks : List Nat) : Nat → Option Nat := fun i => bif ks.any (fun k => Nat.beq k i) then none else some i
/- No references to own objects in it, however deep. -/
mutual
def AV.nr : AV → Bool
  | .ptr .. => false
  | .osl .. => false
  | .agg cs => AV.nrL cs
  | .tup cs => AV.nrL cs
  | .fn _ xs ys => AV.nrL xs && AV.nrL ys
  | _ => true
def AV.nrL : List AV → Bool
  | [] => true
  | x :: r => x.nr && AV.nrL r
end
mutual
theorem ren_pure {m : Nat → Option Nat} : ∀ {x : AV}, x.nr = true → x.ren m = x
  | .val v, _ => rfl
  | .ptr .., h => by simp [AV.nr] at h
  | .osl .., h => by simp [AV.nr] at h
  | .sl .., _ => rfl
  | .agg cs, h => by unfold AV.ren; rw [renL_pure (by simpa [AV.nr] using h)]
  | .tup cs, h => by unfold AV.ren; rw [renL_pure (by simpa [AV.nr] using h)]
  | .fn f xs ys, h => by
    have h2 : AV.nrL xs = true ∧ AV.nrL ys = true := by simpa [AV.nr] using h
    unfold AV.ren; rw [renL_pure h2.1, renL_pure h2.2]
  | .rp .., _ => rfl
  | .dead, _ => rfl
theorem renL_pure {m : Nat → Option Nat} : ∀ {xs : List AV}, AV.nrL xs = true → AV.renL m xs = xs
  | [], _ => rfl
  | x :: r, h => by
    have h2 : x.nr = true ∧ AV.nrL r = true := by simpa [AV.nrL] using h
    unfold AV.renL; rw [ren_pure h2.1, renL_pure h2.2]
end
/-- The same, where a value without references is left as it is. -/
def AV.renS (m : Nat → Option Nat) (x : AV) : AV := bif x.nr then x else x.ren m
theorem renS_eq (m : Nat → Option Nat) (x : AV) : x.renS m = x.ren m := by
  unfold AV.renS; cases h : x.nr with
  | true => simp [ren_pure h]
  | false => rfl
theorem ren_pureO {m : Nat → Option Nat} {o : AObj} (h : AV.nrL o.es = true) : o.ren m = o := by
  obtain ⟨ty, refs, fz, sz, es⟩ := o
  cases refs
  · rfl
  · simp only [AObj.ren, renL_pure (show AV.nrL es = true from h)]
def AObj.renS (m : Nat → Option Nat) (o : AObj) : AObj := bif (!o.refs || AV.nrL o.es) then o else o.ren m
theorem renSO_eq (m : Nat → Option Nat) (o : AObj) : o.renS m = o.ren m := by
  unfold AObj.renS; cases h : AV.nrL o.es with
  | true => simp [ren_pureO h]
  | false =>
    obtain ⟨ty, refs, fz, sz, es⟩ := o
    cases refs
    · rfl
    · simp only [Bool.not_true, Bool.or_false]; rfl
theorem renSO_fun (m : Nat → Option Nat) : AObj.renS m = AObj.ren m := funext (renSO_eq m)
def killFr : List Nat → List (Nat × AV) → List (Nat × AV)
  | [], fr => fr
  | k :: ks, fr => fr.map fun p => (p.1, p.2.renS (killL (k :: ks)))
def killM' : List Nat → (Nat → Option Nat) → Nat → Option Nat
  | [], m => m
  | k :: ks, m => fun i => (m i).bind (killL (k :: ks))
def killH : List Nat → List AObj → List AObj
  | [], H => H
  | k :: ks, H => H.map (AObj.renS (killL (k :: ks)))
def place : List AObj → List Nat → List AObj → List AObj
  | H, [], H' => H ++ H'
  | H, i :: sel, o :: H' => place (H.set i o) sel H'
  | H, _ :: _, [] => H
def backM (sel : List Nat) (n : Nat) : Nat → Option Nat := fun k => match sel[k]? with
  | some i => some i
  | none => some (n + (k - sel.length))
def St.handed (st : St) (sel ids ks : List Nat) (H' : List AObj) : St := ⟨st.n, killM' ks st.m, killFr ks st.fr, place (killH ks (frz ids st.H)) sel (H'.map (AObj.renS (backM sel st.H.length)))⟩

theorem killL_nil : killL [] = some := by funext i; simp [killL]
theorem killM'_ren {ks : List Nat} {m : Nat → Option Nat} {ρ0 ρ σ : Loc} (h : Renames m ρ0 ρ) (hr : Renames (killL ks) ρ σ) : Renames (killM' ks m) ρ0 σ := by
  cases ks with
  | nil => rw [killL_nil] at hr; exact fun i j q hm hq => hr j j q rfl (h i j q hm hq)
  | cons k ks => exact h.comp hr
theorem get_map_ren (m : Nat → Option Nat) (t : Nat) : ∀ fr : List (Nat × AV), get (fr.map fun p => (p.1, p.2.renS m)) t = (get fr t).ren m
  | [] => rfl
  | (k, x) :: r => by
    simp only [List.map_cons, get]
    cases Nat.beq k t with
    | true => simp [renS_eq]
    | false => exact get_map_ren m t r
theorem killFr_rel {Z : Nat → Prop} {w : World} {ks : List Nat} {ρ σ : Loc} (hr : Renames (killL ks) ρ σ) {fr : List (Nat × AV)} {t : Nat} {v : Value} (h : VR Z w ρ (get fr t) v) : VR Z w σ (get (killFr ks fr) t) v := by
  cases ks with
  | nil => rw [killL_nil] at hr; exact h.mono (Keeps.refl _ _) (fun i q hq => hr i i q rfl hq)
  | cons k ks => unfold killFr; rw [get_map_ren]; exact h.ren hr
theorem killH_get (ks : List Nat) (H : List AObj) (i : Nat) : ∃ f : AObj → AObj, (killH ks H)[i]? = (H[i]?).map f ∧ ((ks = [] ∧ f = id) ∨ f = AObj.ren (killL ks)) := by
  cases ks with
  | nil => exact ⟨id, by simp [killH], .inl ⟨rfl, rfl⟩⟩
  | cons k ks => exact ⟨_, by simp only [killH, renSO_fun, List.getElem?_map], .inr rfl⟩
theorem killH_length (ks : List Nat) (H : List AObj) : (killH ks H).length = H.length := by cases ks <;> simp [killH]

theorem place_length : ∀ (sel : List Nat) (H H' : List AObj), sel.length ≤ H'.length → (place H sel H').length = H.length + (H'.length - sel.length)
  | [], H, H', _ => by simp [place]
  | i :: sel, H, o :: H', h => by
    simp only [List.length_cons] at h
    simp only [place, place_length sel (H.set i o) H' (by omega), List.length_set, List.length_cons]
    omega
  | _ :: _, H, [], h => by simp at h
theorem place_get : ∀ (sel : List Nat) (H H' : List AObj), sel.length ≤ H'.length → sel.Nodup → (∀ i ∈ sel, i < H.length) → ∀ i,
    (place H sel H')[i]? = (match keepMap sel i with | some k => H'[k]? | none => if i < H.length then H[i]? else H'[i - H.length + sel.length]?)
  | [], H, H', _, _, _, i => by
    simp only [place, keepMap, keepMap.go, List.length_nil, Nat.add_zero]
    by_cases h : i < H.length
    · rw [if_pos h, List.getElem?_append_left h]
    · rw [if_neg h, List.getElem?_append_right (by omega)]
  | j :: sel, H, o :: H', h, hn, hl, i => by
    simp only [List.length_cons] at h
    obtain ⟨hj, hn'⟩ := List.nodup_cons.1 hn
    have ih := place_get sel (H.set j o) H' (by omega) hn' (fun i hi => by simp; exact hl i (by simp [hi])) i
    simp only [place]
    rw [ih]
    have hgo : ∀ (l : List Nat) (n : Nat), keepMap.go i l (n + 1) = (keepMap.go i l n).map (· + 1) := by
      intro l
      induction l with
      | nil => intro n; rfl
      | cons x r ihl => intro n; unfold keepMap.go; cases Nat.beq x i <;> simp [ihl]
    have hc : keepMap (j :: sel) i = bif Nat.beq j i then some 0 else (keepMap sel i).map (· + 1) := by
      unfold keepMap
      rw [keepMap.go, hgo]
    rw [hc]
    cases hb : Nat.beq j i with
    | true =>
      have := Nat.eq_of_beq_eq_true hb
      subst this
      have hk : keepMap sel j = none := by
        cases hk : keepMap sel j with
        | none => rfl
        | some k => exact absurd (List.mem_of_getElem? (keepMap_get hk)) hj
      have hjl := hl j (by simp)
      simp [hk, hjl]
    | false =>
      simp only [cond_false]
      have hne : j ≠ i := fun e => by rw [e] at hb; simp at hb
      cases keepMap sel i with
      | some k => simp
      | none =>
        simp only [Option.map_none, List.length_set, List.length_cons]
        by_cases h : i < H.length
        · simp [h, hne]
        · simp only [h, if_false]
          rw [show i - H.length + (sel.length + 1) = (i - H.length + sel.length) + 1 by omega]
          simp
  | _ :: _, H, [], h, _, _, i => by simp at h

/-- The arguments as the callee, who owns 'sel', may read them. -/
def ArgR (st : St) (sel : List Nat) (x y : AV) (ids : List Nat) : Prop := ∀ ρ0 Z w ρ a v, SR ρ0 Z w ρ a st → VR Z w ρ x v → VR (Zx Z ρ ids) w (fun k => (sel[k]?).bind ρ) y v
def ArgsR (st : St) (sel : List Nat) (xs ys : List AV) (ids : List Nat) : Prop := ∀ ρ0 Z w ρ a vs, SR ρ0 Z w ρ a st → VRs Z w ρ xs vs → VRs (Zx Z ρ ids) w (fun k => (sel[k]?).bind ρ) ys vs
section
variable {st : St} {sel : List Nat}
theorem ArgR.snap {x y : AV} {ids : List Nat} (h : SnapR st x y ids) : ArgR st sel x y ids := fun ρ0 Z w ρ a v hs hv => (h ρ0 Z w ρ a v hs hv).mono (Keeps.refl _ _) (noLoc_le _)
theorem ArgR.own {x y : AV} (h : x.ren (keepMap sel) = y) : ArgR st sel x y [] := fun ρ0 Z w ρ a v hs hv => by
  subst h; exact (hv.mono Z_keeps (Loc.le_refl _)).ren Renames_keep
theorem ArgsR.nil : ArgsR st sel [] [] [] := fun _ _ _ _ _ _ _ h => by cases h; exact .nil
theorem ArgsR.cons {x y : AV} {xs ys : List AV} {i j : List Nat} (h : ArgR st sel x y i) (hs : ArgsR st sel xs ys j) : ArgsR st sel (x :: xs) (y :: ys) (i ++ j) := by
  intro ρ0 Z w ρ a vs hsr hv
  cases hv with
  | cons h1 h2 => exact .cons ((h _ _ _ _ _ _ hsr h1).mono (Zx_keeps (by simp +contextual)) (Loc.le_refl _)) ((hs _ _ _ _ _ _ hsr h2).mono (Zx_keeps (by simp +contextual)) (Loc.le_refl _))

def handLoc (sel : List Nat) (n : Nat) (ρ ρ' : Loc) : Loc := fun i => match keepMap sel i with
  | some k => ρ' k
  | none => if i < n then ρ i else ρ' (i - n + sel.length)

theorem SR.handed {ρ0 : Loc} {Z Z' : Nat → Prop} {w w' : World} {ρ ρ' : Loc} {a : Act} {ids ks : List Nat} {H' : List AObj} {r : AV} {v : Value} {m : Nat → Option Nat} (hs : SR ρ0 Z w ρ a st)
    (hsel : nodupB sel = true) (hlt : sel.all (fun i => Nat.blt i st.H.length) = true) (hdis : ids.all (fun i => !(sel.any fun j => Nat.beq j i)) = true)
    (hr : VR Z' w' ρ' r v) (hh : HR Z' w' ρ' H') (hm : Renames m (fun k => (sel[k]?).bind ρ) ρ') (hz' : ∀ b, Z' b → b < w'.heap.size) (hx : Ext (Zx Z ρ ids) (Own fun k => (sel[k]?).bind ρ) w Z' (Own ρ') w')
    (hlen : sel.length ≤ H'.length) (hks : ∀ k i, sel[k]? = some i → ks.any (fun j => Nat.beq j i) = true ∨ m k = some k) :
    SR ρ0 Z' w' (handLoc sel st.H.length ρ ρ') a (st.handed sel ids ks H') ∧ VR Z' w' (handLoc sel st.H.length ρ ρ') (r.ren (backM sel st.H.length)) v ∧ Ext Z (Own ρ) w Z' (Own (handLoc sel st.H.length ρ ρ')) w' := by
  have hnd := nodupB_spec hsel
  have hlt' : ∀ i ∈ sel, i < st.H.length := fun i hi => by have := List.all_eq_true.1 hlt i hi; simpa [Nat.blt_eq] using this
  have hk : Keeps Z w Z' w' := ⟨fun b hb => hx.zz b (.inl hb), fun b hb => hx.zk b (.inl hb), hx.shp⟩
  have hsub : ∀ b, (Own fun k => (sel[k]?).bind ρ) b → ∃ (k i : Nat), sel[k]? = some i ∧ ρ i = some (some b) := by
    rintro b ⟨k, hkb⟩
    cases h1 : sel[k]? with
    | none => simp [h1] at hkb
    | some i => simp only [h1, Option.bind_some] at hkb; exact ⟨k, i, h1, hkb⟩
  have hown : ∀ b, Own ρ' b → (∃ (k i : Nat), sel[k]? = some i ∧ ρ i = some (some b)) ∨ w.heap.size ≤ b := fun b hb => (hx.on b hb).imp (hsub b) id
  have hZ' : ∀ b, Z' b → Z b ∨ (∃ id ∈ ids, ρ id = some (some b)) ∨ (∃ (k i : Nat), sel[k]? = some i ∧ ρ i = some (some b)) ∨ w.heap.size ≤ b := fun b hb => (hx.zn b hb).elim (fun h => h.elim .inl (fun h => .inr (.inl h))) (fun h => .inr (.inr (h.imp (hsub b) id)))
  have hin : ∀ {k i : Nat}, sel[k]? = some i → keepMap sel i = some k := by
    intro k i h1
    cases hk : keepMap sel i with
    | some k' =>
      have h2 := keepMap_get hk
      rw [(List.getElem?_inj (List.getElem?_eq_some_iff.1 h1).1 hnd).1 (h1.trans h2.symm)]
    | none =>
      exfalso
      have : ∀ (l : List Nat) (n : Nat), i ∈ l → keepMap.go i l n ≠ none := by
        intro l
        induction l with
        | nil => intro n h; cases h
        | cons x r ih =>
          intro n h
          unfold keepMap.go
          cases hb : Nat.beq x i with
          | true => simp
          | false =>
            rcases List.mem_cons.1 h with rfl | h
            · simp at hb
            · exact ih (n + 1) h
      exact this sel 0 (List.mem_of_getElem? h1) hk
  -- the objects that are not handed
  have hout : ∀ (i b : Nat), keepMap sel i = none → ρ i = some (some b) → ¬ ∃ (k j : Nat), sel[k]? = some j ∧ ρ j = some (some b) := by
    rintro i b hi hb ⟨k, j, hj, hjb⟩
    have := hs.H.inj j i b hjb hb
    subst this
    rw [hin hj] at hi; cases hi
  have ren1 : Renames (killL ks) ρ (handLoc sel st.H.length ρ ρ') := by
    intro i j q hkl hq
    unfold killL at hkl
    cases hb : ks.any (fun k => Nat.beq k i) with
    | true => rw [hb] at hkl; simp at hkl
    | false =>
      rw [hb] at hkl
      simp only [cond_false, Option.some.injEq] at hkl
      subst hkl
      unfold handLoc
      cases hki : keepMap sel i with
      | some k =>
        have h1 := keepMap_get hki
        rcases hks k i h1 with h2 | h2
        · rw [hb] at h2; cases h2
        · exact hm k k q h2 (by simp [h1, hq])
      | none => simp [hs.H.dom i q hq, hq]
  have ren2 : Renames (backM sel st.H.length) ρ' (handLoc sel st.H.length ρ ρ') := by
    intro k j q hb hq
    unfold backM at hb
    unfold handLoc
    cases h1 : sel[k]? with
    | some i =>
      simp only [h1, Option.some.injEq] at hb
      subst hb
      rw [hin h1]; exact hq
    | none =>
      simp only [h1, Option.some.injEq] at hb
      subst hb
      have h2 : keepMap sel (st.H.length + (k - sel.length)) = none := by
        cases h3 : keepMap sel (st.H.length + (k - sel.length)) with
        | none => rfl
        | some x => have := hlt' _ (List.mem_of_getElem? (keepMap_get h3)); omega
      have h3 : sel.length ≤ k := List.getElem?_eq_none_iff.1 h1
      have h4 : ¬ st.H.length + (k - sel.length) < st.H.length := by omega
      simp only [h2, h4, if_false]
      rw [show st.H.length + (k - sel.length) - st.H.length + sel.length = k by omega]
      exact hq
  have hHl : (killH ks (frz ids st.H)).length = st.H.length := by rw [killH_length, frz_length]
  have hpl : ∀ i, (place (killH ks (frz ids st.H)) sel (H'.map (AObj.ren (backM sel st.H.length))))[i]? = (match keepMap sel i with | some k => (H'.map (AObj.ren (backM sel st.H.length)))[k]? | none => if i < st.H.length then (killH ks (frz ids st.H))[i]? else (H'.map (AObj.ren (backM sel st.H.length)))[i - st.H.length + sel.length]?) := by
    intro i
    have := place_get sel (killH ks (frz ids st.H)) (H'.map (AObj.ren (backM sel st.H.length))) (by simpa using hlen) hnd (fun i hi => by rw [hHl]; exact hlt' i hi) i
    rw [hHl] at this
    exact this
  refine ⟨⟨killM'_ren hs.rn ren1, hs.defers, hs.size, fun t ht => killFr_rel ren1 ((hs.fr t ht).mono hk (Loc.le_refl _)), ⟨?_, ?_, ?_⟩, hz'⟩, hr.ren ren2, ?_⟩
  · intro i q hq
    simp only [St.handed, renSO_fun]
    rw [place_length _ _ _ (by simpa using hlen), hHl]
    simp only [List.length_map]
    unfold handLoc at hq
    cases hki : keepMap sel i with
    | some k => have := hlt' _ (List.mem_of_getElem? (keepMap_get hki)); omega
    | none =>
      simp only [hki] at hq
      by_cases h : i < st.H.length
      · omega
      · simp only [h, if_false] at hq
        have := hh.dom _ _ hq
        omega
  · intro i o ho
    simp only [St.handed, renSO_fun] at ho
    rw [hpl] at ho
    unfold handLoc
    cases hki : keepMap sel i with
    | some k =>
      simp only [hki, List.getElem?_map] at ho ⊢
      cases ho' : H'[k]? with
      | none => simp [ho'] at ho
      | some o' =>
        simp [ho'] at ho
        subst ho
        obtain ⟨q, hq, hor⟩ := hh.obj _ _ ho'
        exact ⟨q, hq, hor.ren ren2⟩
    | none =>
      simp only [hki] at ho ⊢
      by_cases h : i < st.H.length
      · rw [if_pos h] at ho
        obtain ⟨f, hf1, hf2⟩ := killH_get ks (frz ids st.H) i
        rw [hf1, frz_get, List.getElem?_eq_getElem h] at ho
        obtain ⟨q, hq, hor⟩ := hs.H.obj i st.H[i] (by simp [h])
        simp only [Option.map_some, Option.some.injEq] at ho
        refine ⟨q, by simp [h, hq], ?_⟩
        have hb : ∀ b, q = some b → w'.heap[b]? = w.heap[b]? := fun b hqb => hx.keep b (hs.H.own_lt (hqb ▸ hq)) (fun ho => hout i b hki (hqb ▸ hq) (hsub b ho))
        have hor2 : OR Z' w' ρ (bif ids.any (fun j => Nat.beq j i) then { st.H[i] with fz := true } else st.H[i]) q := by
          cases hin : ids.any (fun j => Nat.beq j i) with
          | true =>
            obtain ⟨j, hj, hji⟩ := List.any_eq_true.1 hin
            have hji := Nat.eq_of_beq_eq_true hji
            subst hji
            simp only [cond_true]
            have hzb : ∀ b, q = some b → Z' b := fun b hqb => hx.zz b (.inr ⟨j, hj, hqb ▸ hq⟩)
            cases hor with
            | virt he => exact .virt he
            | real b vs extra hheap hv hse h1 hf =>
              refine .real b vs extra (by rw [hb b rfl]; exact hheap) (hv.mono hk ?_) hse h1 (by simpa using hzb b rfl)
              show Loc.le _ (if st.H[j].refs then _ else _)
              exact Loc.le_refl _
          | false =>
            simp only [cond_false]
            refine hor.mono hk (Loc.le_refl _) fun b hqb => ⟨hb b hqb, ⟨fun h1 => ?_, hk.zz b⟩⟩
            rcases hZ' b h1 with h2 | ⟨j, hj, hjb⟩ | h2 | h2
            · exact h2
            · have := hs.H.inj j i b hjb (hqb ▸ hq)
              subst this
              have := List.any_eq_false.1 hin j hj
              simp at this
            · exact absurd h2 (hout i b hki (hqb ▸ hq))
            · have := hs.H.own_lt (hqb ▸ hq); omega
        rcases hf2 with ⟨hkn, hfi⟩ | hfr
        · subst hfi; subst hkn
          simp only [id] at ho
          rw [killL_nil] at ren1
          rw [← ho]
          refine hor2.mono (Keeps.refl _ _) (fun i q hq => ren1 i i q rfl hq) fun b _ => ⟨rfl, Iff.rfl⟩
        · subst hfr
          rw [← ho]
          exact hor2.ren ren1
      · rw [if_neg h, List.getElem?_map] at ho
        cases ho' : H'[i - st.H.length + sel.length]? with
        | none => simp [ho'] at ho
        | some o' =>
          simp [ho'] at ho
          subst ho
          obtain ⟨q, hq, hor⟩ := hh.obj _ _ ho'
          exact ⟨q, by simp [h, hq], hor.ren ren2⟩
  · have key : ∀ i b, handLoc sel st.H.length ρ ρ' i = some (some b) → (keepMap sel i = none ∧ ρ i = some (some b) ∧ i < st.H.length) ∨ (∃ k, ρ' k = some (some b) ∧ (keepMap sel i = some k ∨ (keepMap sel i = none ∧ ¬ i < st.H.length ∧ k = i - st.H.length + sel.length))) := by
      intro i b hi
      unfold handLoc at hi
      cases hki : keepMap sel i with
      | some k => simp only [hki] at hi; exact .inr ⟨k, hi, .inl rfl⟩
      | none =>
        simp only [hki] at hi
        by_cases h : i < st.H.length
        · simp only [h, if_true] at hi; exact .inl ⟨rfl, hi, h⟩
        · simp only [h, if_false] at hi; exact .inr ⟨_, hi, .inr ⟨rfl, h, rfl⟩⟩
    have mix : ∀ i b k, keepMap sel i = none → ρ i = some (some b) → ρ' k = some (some b) → False := by
      intro i b k h1 h2 h3
      rcases hown b ⟨k, h3⟩ with h4 | h4
      · exact hout i b h1 h2 h4
      · have := hs.H.own_lt h2; omega
    intro i j b hi hj
    rcases key i b hi with ⟨h1, h2, h3⟩ | ⟨k, h2, h3⟩ <;> rcases key j b hj with ⟨h4, h5, h6⟩ | ⟨l, h5, h6⟩
    · exact hs.H.inj i j b h2 h5
    · exact (mix i b l h1 h2 h5).elim
    · exact (mix j b k h4 h5 h2).elim
    · have hkl := hh.inj k l b h2 h5
      subst hkl
      rcases h3 with h3 | ⟨h3, h3', h3''⟩ <;> rcases h6 with h6 | ⟨h6, h6', h6''⟩
      · exact Option.some.inj ((keepMap_get h3).symm.trans (keepMap_get h6))
      · have := (List.getElem?_eq_some_iff.1 (keepMap_get h3)).1; omega
      · have := (List.getElem?_eq_some_iff.1 (keepMap_get h6)).1; omega
      · omega
  · refine { toKeeps := hk, os := hx.os, tape := hx.tape, output := hx.output, size := hx.size, keep := fun b hb hn => hx.keep b hb (fun ho => ?_), zn := fun b hb => ?_, on := fun b ⟨i, hi⟩ => ?_ }
    · obtain ⟨k, i, _, h⟩ := hsub b ho; exact hn ⟨i, h⟩
    · rcases hZ' b hb with h | ⟨j, _, hjb⟩ | ⟨_, i, _, h⟩ | h
      · exact .inl h
      · exact .inr (.inl ⟨j, hjb⟩)
      · exact .inr (.inl ⟨i, h⟩)
      · exact .inr (.inr h)
    · unfold handLoc at hi
      have hn : ∀ k, ρ' k = some (some b) → Own ρ b ∨ w.heap.size ≤ b := fun k hk => (hown b ⟨k, hk⟩).imp (fun ⟨_, i, _, h⟩ => ⟨i, h⟩) id
      cases hki : keepMap sel i with
      | some k => simp only [hki] at hi; exact hn _ hi
      | none =>
        simp only [hki] at hi
        by_cases h : i < st.H.length
        · simp only [h, if_true] at hi; exact .inl ⟨i, hi⟩
        · simp only [h, if_false] at hi; exact hn _ hi
end

section
variable {P : Program} {K : St → Prop} {st : St} {ty : TypeId} {pos : String} {aft : Array Edge} {g : Option (Nat × Bool)}
/-- A call that is handed the own objects 'sel' (they stay where they are; of 'ks' the old pointers are forgotten) and reads the own objects 'ids' (they are written no more). -/
theorem op_callG (sel ks : List Nat) {f : FuncId} {x : Operand} {args : Array Operand} {tys : Array TypeId} {dst : Option Nat} {xs ys : List AV} {ids : List Nat} {fs cs : List AV} {Hc : List AObj} {Post : AV → List AObj → (Nat → Option Nat) → Prop}
    (hx : st.ev x = .fn (.func f) fs cs) (nx : opIn st.n x = true) (hargs : args.toList.map st.ev = xs) (nargs : args.toList.all (opIn st.n) = true) (hd : dstIn st.n dst = true) (hf : resolved f P)
    (hsel : nodupB sel = true) (hlt : sel.all (fun i => Nat.blt i st.H.length) = true)
    (hsn : ArgsR st sel (fs ++ xs ++ cs) ys ids) (hdis : ids.all (fun i => !(sel.any fun j => Nat.beq j i)) = true) (hHc : pick st.H sel = Hc) (hspec : HSpec P f ys Hc Post)
    (hm : ∀ r H' m, Post r H' m → sel.length ≤ H'.length ∧ ∀ k i, sel[k]? = some i → ks.any (fun j => Nat.beq j i) = true ∨ m k = some k)
    (hk : ∀ r H' m, Post r H' m → K (putO (st.handed sel ids ks H') dst (r.renS (backM sel st.H.length)))) : OpTri P ⟨dst, .call ⟨.value x, args, tys⟩, ty, pos, aft, g⟩ K st := by
  intro ρ0 Z w ρ a hs
  have hv := hs.eva hx nx
  generalize hvx : a.eval x = v at hv
  cases hv with
  | fn he1 he2 h1 h2 =>
    subst he1; subst he2
    rename_i l m
    have hall : VRs Z w ρ (fs ++ xs ++ cs) (l ++ args.toList.map a.eval ++ m) := by
      rw [← hargs]; exact (h1.append (args_rel hs _ nargs)).append h2
    have hvs := hsn _ _ _ _ _ _ hs hall
    have hH : HR (Zx Z ρ ids) w (fun k => (sel[k]?).bind ρ) Hc := by
      rw [← hHc]
      have h0 := hs.H.keep hsel hlt
      refine ⟨h0.dom, fun k o ho => ?_, h0.inj⟩
      obtain ⟨q, hq, hor⟩ := h0.obj k o ho
      refine ⟨q, hq, hor.mono Z_keeps (Loc.le_refl _) fun b hb => ⟨rfl, ⟨fun h => h.elim id fun ⟨j, hj, hjb⟩ => ?_, .inl⟩⟩⟩
      exfalso
      cases h3 : sel[k]? with
      | none => simp [h3] at hq
      | some i =>
        simp only [h3, Option.bind_some, hb] at hq
        have := hs.H.inj j i b hjb hq
        subst this
        have h4 := List.all_eq_true.1 hdis j hj
        simp only [Bool.not_eq_true'] at h4
        have h5 := List.any_eq_false.1 h4 j (List.mem_of_getElem? h3)
        simp at h5
    have hc := hspec (Zx Z ρ ids) w _ _ hvs hH (fun b hb => hb.elim (hs.zs b) (fun ⟨i, _, hi⟩ => hs.H.own_lt hi))
    unfold Oper.wp
    rw [run_call hf rfl hvx]
    have harr : (l.toArray ++ args.map a.eval ++ m.toArray) = (l ++ args.toList.map a.eval ++ m).toArray := by apply Array.ext'; simp
    rw [harr]
    refine hc.mono ?_
    rintro e w' ⟨v, r, H', mm, Z', ρ', rfl, hp, hr, hh, hren, hz, hxt⟩
    obtain ⟨hl, hks⟩ := hm _ _ _ hp
    obtain ⟨h3, h4, h5⟩ := hs.handed (ids := ids) (ks := ks) hsel hlt hdis hr hh hren hz hxt hl hks
    exact ⟨_, Z', _, hk _ _ _ hp, h3.putO hd (by rw [renS_eq]; exact h4), h5⟩
end
end Go.Av

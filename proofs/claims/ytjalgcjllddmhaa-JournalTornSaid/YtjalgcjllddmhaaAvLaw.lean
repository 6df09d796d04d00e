/- A text of the proof of JournalTorn: AvLaw -/
import Derived.Test.YtjalgcjllddmhaaAvRow
import Derived.ChangeCalls
/- A law's row from its contract. -/
namespace Go.Av
open Go.ChangeShapes Go.RowKit

/-- A value of a type. -/
def AT (P : Program) (t : TypeId) (x : AV) : Prop := ∃ cs, AC P t cs ∧ x = wrapAV P t cs
inductive ATs (P : Program) : List TypeId → List AV → Prop
  | nil : ATs P [] []
  | cons {t : TypeId} {ts : List TypeId} {x : AV} {xs : List AV} : AT P t x → ATs P ts xs → ATs P (t :: ts) (x :: xs)

section
variable {H : Type} {enc : TypeId × Value → H} {P : Program} {w : World} {sp : Nat → Bool} {held : Bool}

theorem cells_one {v : Value} (h : ∀ cs, v ≠ .agg cs) : v.cells.toList = [v] := by
  cases v <;> first | rfl | exact absurd rfl (h _)

theorem arg_AT {L : List TypeId} (hL : closedB P L = true) {t : TypeId} (ht : t ∈ L) {v : Value} {d : DataW H} {ps : List MemPlace} {r : Reach} {base : Nat} (h : DataW.Trod enc P w 0 sp held t v d ps)
    (hw : (d.weights P t).all (· ≤ reachBytes) = true) (hok : Value.okWide P w r base t v) : ∃ x, VR (ZAll w) w noLoc x v ∧ AT P t x := by
  obtain ⟨n, hn⟩ := h
  obtain ⟨es, hv, hac, _⟩ := trod_AC hL n t _ _ ht hn hw
  refine ⟨wrapAV P t es, ?_, es, hac, rfl⟩
  have hone : aggT P t = some false → ∀ cs, v ≠ .agg cs := by
    intro ha cs e
    subst e
    unfold Value.okWide at hok
    unfold aggT at ha
    split at hok
    · rename_i hu; simp [hu] at ha
    · rename_i hu; simp [hu] at ha
    · unfold Cell.okWide at hok
      split at hok
      all_goals first
        | (rename_i he; cases he; done)
        | (rename_i he _; cases he; done)
        | (rename_i he _ _; cases he; done)
        | (unfold Cell.ok at hok; split at hok <;> first | exact hok | (rename_i he; cases he; done) | (rename_i he _; cases he; done))
        | skip
  unfold wrapAV
  cases hac with
  | struct hu hs =>
    rw [if_pos (by simp [aggT, hu])]
    unfold Value.okWide at hok
    rw [hu] at hok
    obtain ⟨cs, rfl, _⟩ := hok
    exact .agg (l := cs.toList) (by simp) hv
  | bool hu =>
    rw [if_neg (by simp [aggT, hu])]
    rw [cells_one (hone (by simp [aggT, hu]))] at hv
    cases hv with | cons h1 h2 => exact h1
  | int hu =>
    rw [if_neg (by simp [aggT, hu])]
    rw [cells_one (hone (by simp [aggT, hu]))] at hv
    cases hv with | cons h1 h2 => exact h1
  | string hu =>
    rw [if_neg (by simp [aggT, hu])]
    rw [cells_one (hone (by simp [aggT, hu]))] at hv
    cases hv with | cons h1 h2 => exact h1
  | slice hu =>
    rw [if_neg (by simp [aggT, hu])]
    rw [cells_one (hone (by simp [aggT, hu]))] at hv
    cases hv with | cons h1 h2 => exact h1

theorem args_AT {L : List TypeId} (hL : closedB P L = true) {r : Reach} {base : Nat} : ∀ {ts : List TypeId} {vs : List Value} {ds : List (DataW H)} {ps : List MemPlace}, DataW.TrodAll enc P w 0 sp held ts vs ds ps → (∀ t ∈ ts, t ∈ L) →
    (∀ (j : Nat) t v, ts[j]? = some t → vs[j]? = some v → Value.okWide P w r base t v) → ∀ (ts' : List TypeId) (gs : List (DataW H)), (DataW.weightsEach P (ts ++ ts') (ds ++ gs)).all (· ≤ reachBytes) = true →
    ∃ xs, VRs (ZAll w) w noLoc xs vs ∧ ATs P ts xs
  | [], vs, ds, ps, h, _, _, _, _, _ => by
    obtain ⟨rfl, rfl, rfl⟩ := trodAll_nil h
    exact ⟨[], .nil, .nil⟩
  | t :: ts, vs, ds, ps, h, hin, hok, ts', gs, hw => by
    obtain ⟨v, vs', d, ds', p, q, rfl, rfl, rfl, h1, h2⟩ := trodAll_cons h
    simp only [List.cons_append, DataW.weightsEach, List.all_append, Bool.and_eq_true] at hw
    obtain ⟨x, hx1, hx2⟩ := arg_AT hL (hin t (by simp)) h1 hw.1 (hok 0 t v rfl rfl)
    obtain ⟨xs, hs1, hs2⟩ := args_AT hL h2 (fun t ht => hin t (by simp [ht])) (fun j t v ht hv => hok (j + 1) t v (by simpa using ht) (by simpa using hv)) ts' gs hw.2
    exact ⟨x :: xs, .cons hx1 hs1, .cons hx2 hs2⟩

theorem trodAll_stays (hl : laidOutB P = true) {W W' : World} (hb : Below W.heap.size W W') : ∀ {ts : List TypeId} {vs : List Value} {ds : List (DataW H)} {ps : List MemPlace}, DataW.TrodAll enc P W 0 (fun _ => true) true ts vs ds ps →
    (∀ t ∈ ts, P.readableRec t = true ∧ t < P.types.size) → (∀ x ∈ ps, x.block < W.heap.size) → DataW.TrodAll enc P W' 0 (fun b => decide (b < W.heap.size)) true ts vs ds ps
  | [], vs, ds, ps, h, _, _ => by
    obtain ⟨rfl, rfl, rfl⟩ := trodAll_nil h
    exact trodAll_mk0
  | t :: ts, vs, ds, ps, h, hr, hlt => by
    obtain ⟨v, vs', d, ds', p, q, rfl, rfl, rfl, h1, h2⟩ := trodAll_cons h
    exact trodAll_cons_mk (hb.trod hl (hr t (by simp)).1 (hr t (by simp)).2 h1 (fun x hx => hlt x (List.mem_append_left _ hx))) (trodAll_stays hl hb h2 (fun t ht => hr t (by simp [ht])) (fun x hx => hlt x (List.mem_append_right _ hx)))

/-- A law: what its walk gives, as its row's contract. -/
theorem law_contract {f : FuncId} {fn : Func} {s : ChangeSpec} {tb : TypeId} (L : List TypeId) (hl : laidOutB P = true) (hL : closedB P L = true) (hin : ∀ t ∈ fn.params.toList, t ∈ L) (hrd : ∀ t ∈ fn.params.toList, P.readableRec t = true ∧ t < P.types.size)
    (hres : fn.resultTypes = #[tb]) (htb : P.underlying tb = some .bool) (hvars : s.vars = [])
    (hsp : ∀ ds : List (DataW H), ds.length = fn.params.size → (s.fn H ds).results = [.lit (.bool true)] ∧ (s.fn H ds).args = ds ∧ (s.fn H ds).vars = [])
    (hwalk : ∀ xs, ATs P fn.params.toList xs → HSpec P f xs [] fun r H' _ => r = .val (.bool true) ∧ H' = [])
    {apart handsOn : Bool} {W : World} {base : Nat} {args : Array Value} {ds gs : List (DataW H)} {before : List MemPlace} (ts' : List TypeId)
    (hval : ∀ (j : Nat) t v, fn.params[j]? = some t → args[j]? = some v → Value.okWide P W .any base t v)
    (hW : DataW.Whole enc P fn.params.toList s.vars apart W args.toList ds gs before)
    (hwt : (DataW.weightsEach P (fn.params.toList ++ ts') (ds ++ gs)).all (· ≤ reachBytes) = true) :
    Calls P f args W fun e W' => ∃ v, e = .returned v ∧ s.post enc P fn apart true handsOn false W args v W' := by
  have hW' := hW
  obtain ⟨p, q, hA, hV, rfl, hfz, hnd⟩ := hW
  rw [hvars] at hV
  obtain ⟨rfl, rfl⟩ := trodVars_none hV
  obtain ⟨xs, hxs, hat⟩ := args_AT hL hA hin (fun j t v ht hv => hval j t v (by simpa using ht) (by simpa using hv)) ts' [] hwt
  have hlen := (trodAll_length hA).2
  have hno : ∀ b, ¬ Own noLoc b := fun b ⟨i, hi⟩ => by simp [noLoc] at hi
  have hc := hwalk xs hat (ZAll W) W noLoc _ hxs ⟨fun _ _ h => by simp [noLoc] at h, fun _ _ h => by simp at h, fun _ _ _ h => by simp [noLoc] at h⟩ (fun b hb => hb)
  rw [Array.toArray_toList] at hc
  refine hc.mono ?_
  rintro e W' ⟨v, r, H', m, Z', ρ', rfl, ⟨rfl, rfl⟩, hv, _, _, _, hx⟩
  have hv := hv.val_eq
  subst hv
  have hb : Below W.heap.size W W' := ⟨hx.os, hx.tape, hx.output, hx.size, fun k hk => hx.keep k hk (hno k)⟩
  have hlt : ∀ x ∈ p, x.block < W.heap.size := fun x hx => hW'.lt x (by simpa using hx)
  obtain ⟨hs1, hs2, hs3⟩ := hsp ds (by rw [hlen]; simp)
  refine ⟨_, rfl, ds, [], p ++ [], [], p, [], hW', ?_, ?_, ?_, hb.frame _, fun h => by cases h⟩
  · rw [List.append_nil, hs1, hres]
    exact trodAll_cons_mk (shut_bool htb _) trodAll_mk0
  · rw [List.append_nil, hs2]
    exact trodAll_stays hl hb hA hrd hlt
  · rw [List.append_nil, hs3, hvars]; rfl
end
end Go.Av
namespace Go.Av
section
variable {P : Program}
theorem AC.int_inv {t : TypeId} {k : IntKind} {cs : List AV} (ht : P.underlying t = some (.int k)) (h : AC P t cs) : ∃ n, cs = [.val (.int k n)] ∧ (Lit.int k n).wf = true := by
  cases h with
  | int hu hw => rw [ht] at hu; cases hu; exact ⟨_, rfl, hw⟩
  | bool hu => rw [ht] at hu; cases hu
  | string hu => rw [ht] at hu; cases hu
  | slice hu => rw [ht] at hu; cases hu
  | struct hu => rw [ht] at hu; cases hu
theorem AC.bool_inv {t : TypeId} {cs : List AV} (ht : P.underlying t = some .bool) (h : AC P t cs) : ∃ b, cs = [.val (.bool b)] := by
  cases h with
  | bool hu => exact ⟨_, rfl⟩
  | int hu => rw [ht] at hu; cases hu
  | string hu => rw [ht] at hu; cases hu
  | slice hu => rw [ht] at hu; cases hu
  | struct hu => rw [ht] at hu; cases hu
theorem AC.string_inv {t : TypeId} {cs : List AV} (ht : P.underlying t = some .string) (h : AC P t cs) : ∃ s, cs = [.val (.string s)] ∧ s.size ≤ reachBytes := by
  cases h with
  | string hu hs => exact ⟨_, rfl, hs⟩
  | int hu => rw [ht] at hu; cases hu
  | bool hu => rw [ht] at hu; cases hu
  | slice hu => rw [ht] at hu; cases hu
  | struct hu => rw [ht] at hu; cases hu
theorem AC.slice_inv {t e : TypeId} {cs : List AV} (ht : P.underlying t = some (.slice e)) (h : AC P t cs) : ∃ css : List (List AV), cs = [.sl (P.cellsOf e) (css.map (wrapAV P e))] ∧ css.length * P.bytesOf e ≤ reachBytes ∧ ∀ c ∈ css, AC P e c := by
  cases h with
  | slice hu hw hs => rw [ht] at hu; cases hu; exact ⟨_, rfl, hw, hs⟩
  | int hu => rw [ht] at hu; cases hu
  | bool hu => rw [ht] at hu; cases hu
  | string hu => rw [ht] at hu; cases hu
  | struct hu => rw [ht] at hu; cases hu
theorem AC.struct_inv {t : TypeId} {fs : Array Field} {ts : List TypeId} {cs : List AV} (ht : P.underlying t = some (.struct fs)) (hts : fs.toList.map (·.type) = ts) (h : AC P t cs) : ACs P ts cs := by
  subst hts
  cases h with
  | struct hu hs => rw [ht] at hu; cases hu; exact hs
  | int hu => rw [ht] at hu; cases hu
  | bool hu => rw [ht] at hu; cases hu
  | string hu => rw [ht] at hu; cases hu
  | slice hu => rw [ht] at hu; cases hu
theorem ACs.cons_inv {t : TypeId} {ts : List TypeId} {cs : List AV} (h : ACs P (t :: ts) cs) : ∃ a b, cs = a ++ b ∧ AC P t a ∧ ACs P ts b := by
  cases h with | cons h1 h2 => exact ⟨_, _, rfl, h1, h2⟩
theorem ACs.nil_inv {cs : List AV} (h : ACs P [] cs) : cs = [] := by cases h; rfl
theorem ATs.cons_inv {t : TypeId} {ts : List TypeId} {xs : List AV} (h : ATs P (t :: ts) xs) : ∃ x r, xs = x :: r ∧ AT P t x ∧ ATs P ts r := by
  cases h with | cons h1 h2 => exact ⟨_, _, rfl, h1, h2⟩
theorem ATs.nil_inv {xs : List AV} (h : ATs P [] xs) : xs = [] := by cases h; rfl
theorem list_lift {α β : Type} {f : α → AV} {g : β → AV} {p : β → Prop} : ∀ {css : List α}, (∀ c ∈ css, ∃ y, f c = g y ∧ p y) → ∃ l : List β, css.map f = l.map g ∧ l.length = css.length ∧ ∀ y ∈ l, p y
  | [], _ => ⟨[], rfl, rfl, by simp⟩
  | c :: r, h => by
    obtain ⟨y, h1, h2⟩ := h c (by simp)
    obtain ⟨l, h3, h4, h5⟩ := list_lift (css := r) (fun c hc => h c (by simp [hc]))
    refine ⟨y :: l, by simp [h1, h3], by simp [h4], fun z hz => ?_⟩
    rcases List.mem_cons.1 hz with rfl | hz
    · exact h2
    · exact h5 z hz
theorem AT.int_inv {t : TypeId} {k : IntKind} {x : AV} (ht : P.underlying t = some (.int k)) (h : AT P t x) : ∃ n, x = .val (.int k n) ∧ (Lit.int k n).wf = true := by
  obtain ⟨cs, h1, rfl⟩ := h
  obtain ⟨n, rfl, hw⟩ := h1.int_inv ht
  exact ⟨n, by unfold wrapAV; rw [if_neg (by simp [aggT, ht])]; rfl, hw⟩
theorem AT.string_inv {t : TypeId} {x : AV} (ht : P.underlying t = some .string) (h : AT P t x) : ∃ s, x = .val (.string s) ∧ s.size ≤ reachBytes := by
  obtain ⟨cs, h1, rfl⟩ := h
  obtain ⟨s, rfl, hs⟩ := h1.string_inv ht
  exact ⟨s, by unfold wrapAV; rw [if_neg (by simp [aggT, ht])]; rfl, hs⟩
theorem AT.bool_inv {t : TypeId} {x : AV} (ht : P.underlying t = some .bool) (h : AT P t x) : ∃ b, x = .val (.bool b) := by
  obtain ⟨cs, h1, rfl⟩ := h
  obtain ⟨s, rfl⟩ := h1.bool_inv ht
  exact ⟨s, by unfold wrapAV; rw [if_neg (by simp [aggT, ht])]; rfl⟩
theorem AT.struct_inv {t : TypeId} {fs : Array Field} {ts : List TypeId} {x : AV} (ht : P.underlying t = some (.struct fs)) (hts : fs.toList.map (·.type) = ts) (h : AT P t x) : ∃ cs, x = .agg cs ∧ ACs P ts cs := by
  obtain ⟨cs, h1, rfl⟩ := h
  exact ⟨cs, by unfold wrapAV; rw [if_pos (by simp [aggT, ht])], h1.struct_inv ht hts⟩
/-- A slice whose elements are lifted by 'g'. -/
theorem AT.slice_inv {β : Type} {t e sz : TypeId} {g : β → AV} {p : β → Prop} {x : AV} (ht : P.underlying t = some (.slice e)) (hsz : P.cellsOf e = sz) (hel : ∀ x, AT P e x → ∃ y, x = g y ∧ p y) (h : AT P t x) :
    ∃ l : List β, x = .sl sz (l.map g) ∧ l.length * P.bytesOf e ≤ reachBytes ∧ ∀ y ∈ l, p y := by
  obtain ⟨cs, h1, rfl⟩ := h
  obtain ⟨css, rfl, hw, hc⟩ := h1.slice_inv ht
  obtain ⟨l, h2, h3, h4⟩ := list_lift (f := wrapAV P e) (g := g) (p := p) (css := css) (fun c hcc => hel _ ⟨c, hc c hcc, rfl⟩)
  exact ⟨l, by unfold wrapAV at h2 ⊢; rw [if_neg (by simp [aggT, ht])]; subst hsz; exact congrArg (AV.sl _) h2, by rw [h3]; exact hw, h4⟩
theorem AC.at {t : TypeId} {cs : List AV} (h : AC P t cs) : AT P t (wrapAV P t cs) := ⟨cs, h, rfl⟩
/-- A slice in a field. -/
theorem AC.slice_lift {β : Type} {t e sz : TypeId} {g : β → AV} {p : β → Prop} {cs : List AV} (ht : P.underlying t = some (.slice e)) (hsz : P.cellsOf e = sz) (hel : ∀ x, AT P e x → ∃ y, x = g y ∧ p y) (h : AC P t cs) :
    ∃ l : List β, cs = [.sl sz (l.map g)] ∧ l.length * P.bytesOf e ≤ reachBytes ∧ ∀ y ∈ l, p y := by
  obtain ⟨css, rfl, hw, hc⟩ := h.slice_inv ht
  obtain ⟨l, h2, h3, h4⟩ := list_lift (f := wrapAV P e) (g := g) (p := p) (css := css) (fun c hcc => hel _ ⟨c, hc c hcc, rfl⟩)
  exact ⟨l, by rw [h2, hsz], by rw [h3]; exact hw, h4⟩
end
end Go.Av

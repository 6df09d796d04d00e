/- A text of the proof of JournalTorn: AvRow -/
import Derived.Test.YtjalgcjllddmhaaAvMeet
import Derived.ChangeArms
import Derived.SizedLaws
import Derived.Deep.Slices
import Derived.WideKeyArgs
import Derived.Carry
import Derived.ProofKit
import Derived.OpenShut
/- From what is read as data to abstract values; a law's row. -/
namespace Go.Av

/-- All blocks that are there. -/
def ZAll (w : World) : Nat → Prop := fun b => b < w.heap.size

def wrapAV (P : Program) (e : TypeId) (cs : List AV) : AV := if aggT P e = some true then .agg cs else cs.headD .dead

mutual
/-- The cells of a value of a type. -/
inductive AC (P : Program) : TypeId → List AV → Prop
  | bool {t : TypeId} {b : Bool} : P.underlying t = some .bool → AC P t [.val (.bool b)]
  | int {t : TypeId} {k : IntKind} {n : Int} : P.underlying t = some (.int k) → (Lit.int k n).wf = true → AC P t [.val (.int k n)]
  | string {t : TypeId} {s : ByteArray} : P.underlying t = some .string → s.size ≤ reachBytes → AC P t [.val (.string s)]
  | slice {t e : TypeId} {css : List (List AV)} : P.underlying t = some (.slice e) → css.length * P.bytesOf e ≤ reachBytes → (∀ cs, cs ∈ css → AC P e cs) → AC P t [.sl (P.cellsOf e) (css.map (wrapAV P e))]
  | struct {t : TypeId} {fs : Array Field} {cs : List AV} : P.underlying t = some (.struct fs) → ACs P (fs.toList.map (·.type)) cs → AC P t cs
inductive ACs (P : Program) : List TypeId → List AV → Prop
  | nil : ACs P [] []
  | cons {t : TypeId} {ts : List TypeId} {a b : List AV} : AC P t a → ACs P ts b → ACs P (t :: ts) (a ++ b)
end

/-- The fields lie one behind the other, from 'off' to 'n'. -/
def tiles (P : Program) : List Field → Nat → Nat → Bool
  | [], off, n => off == n
  | f :: fs, off, n => f.offset == off && tiles P fs (off + P.cellsOf f.type) n

/-- Types whose parts are all on the list. -/
def closedT (P : Program) (L : List TypeId) (t : TypeId) : Bool := match P.underlying t with
  | some .bool | some (.int _) | some .string => true
  | some (.slice e) => L.contains e && Nat.blt 0 (P.cellsOf e) && Nat.blt 0 (P.bytesOf e)
  | some (.struct fs) => fs.toList.all (fun f => L.contains f.type) && tiles P fs.toList 0 (P.cellsOf t)
  | _ => false
def closedB (P : Program) (L : List TypeId) : Bool := L.all (closedT P L)

theorem list_choice {β : Type} {p : Nat → β → Prop} : ∀ (n : Nat), (∀ i, i < n → ∃ y, p i y) → ∃ l : List β, l.length = n ∧ ∀ i y, l[i]? = some y → p i y
  | 0, _ => ⟨[], rfl, by simp⟩
  | n + 1, h => by
    obtain ⟨l, hl, hp⟩ := list_choice n (fun i hi => h i (by omega))
    obtain ⟨y, hy⟩ := h n (by omega)
    refine ⟨l ++ [y], by simp [hl], fun i z hz => ?_⟩
    rcases Nat.lt_or_ge i l.length with h1 | h1
    · rw [List.getElem?_append_left h1] at hz; exact hp i z hz
    · rw [List.getElem?_append_right h1] at hz
      have hi : i - l.length = 0 := by
        have := (List.getElem?_eq_some_iff.1 hz).1
        simp at this; omega
      rw [hi] at hz; simp at hz; subst hz
      rw [show i = n by omega]; exact hy

theorem flatten_get {α : Type} {sz : Nat} : ∀ {l : List (List α)}, (∀ x ∈ l, x.length = sz) → ∀ {k : Nat} {v : α}, l.flatten[k]? = some v → ∃ i j x, l[i]? = some x ∧ x[j]? = some v ∧ k = i * sz + j
  | [], _, k, v, h => by simp at h
  | x :: r, hl, k, v, h => by
    rw [List.flatten_cons] at h
    have hx := hl x (by simp)
    rcases Nat.lt_or_ge k x.length with h1 | h1
    · rw [List.getElem?_append_left h1] at h
      exact ⟨0, k, x, rfl, h, by simp⟩
    · rw [List.getElem?_append_right h1] at h
      obtain ⟨i, j, y, h2, h3, h4⟩ := flatten_get (fun x hx => hl x (by simp [hx])) h
      exact ⟨i + 1, j, y, by simpa using h2, h3, by rw [Nat.add_mul]; omega⟩

theorem VRs.flatten {Z : Nat → Prop} {w : World} {ρ : Loc} : ∀ {css : List (List AV)} {vss : List (List Value)}, css.length = vss.length → (∀ (i : Nat) c v, css[i]? = some c → vss[i]? = some v → VRs Z w ρ c v) → VRs Z w ρ css.flatten vss.flatten
  | [], [], _, _ => .nil
  | c :: css, v :: vss, hl, h => by
    rw [List.flatten_cons, List.flatten_cons]
    exact (h 0 c v rfl rfl).append (VRs.flatten (by simpa using hl) fun i c v hc hv => h (i + 1) c v (by simpa using hc) (by simpa using hv))
  | [], _ :: _, hl, _ => by simp at hl
  | _ :: _, [], hl, _ => by simp at hl

theorem wrap_cells {P : Program} {e : TypeId} {cs : List AV} (h : AC P e cs) : (wrapAV P e cs).cells = cs := by
  unfold wrapAV
  cases h with
  | struct hu hs => rw [if_pos (by simp [aggT, hu])]; rfl
  | bool hu => rw [if_neg (by simp [aggT, hu])]; rfl
  | int hu => rw [if_neg (by simp [aggT, hu])]; rfl
  | string hu => rw [if_neg (by simp [aggT, hu])]; rfl
  | slice hu => rw [if_neg (by simp [aggT, hu])]; rfl

theorem flat_wrap {P : Program} {e : TypeId} : ∀ {css : List (List AV)}, (∀ cs ∈ css, AC P e cs) → flat (css.map (wrapAV P e)) = css.flatten
  | [], _ => rfl
  | c :: r, h => by
    rw [List.map_cons, List.flatten_cons, flat, wrap_cells (h c (by simp)), flat_wrap (fun cs hc => h cs (by simp [hc]))]

section
variable {H : Type} {enc : TypeId × Value → H} {P : Program} {w : World} {sp : Nat → Bool} {held : Bool}

theorem cells_spec {base n : Nat} {a : Addr} {cs : List Value} (h : w.cells? base a n = some cs) : cs.length = n ∧ ∀ i v, cs[i]? = some v → w.cell? (a.add i) = some v := by
  unfold World.cells? at h
  split at h
  · have aux : ∀ (l : List Nat) (cs : List Value), (l.mapM fun i => w.cell? (a.add i)) = some cs → cs.length = l.length ∧ ∀ (i : Nat) v, cs[i]? = some v → ∃ k, l[i]? = some k ∧ w.cell? (a.add k) = some v := by
      intro l
      induction l with
      | nil => intro cs h; simp at h; subst h; simp
      | cons x r ih =>
        intro cs h
        simp only [List.mapM_cons, Option.bind_eq_bind, Option.bind_eq_some_iff] at h
        obtain ⟨y, hy, ys, hys, h⟩ := h
        simp at h; subst h
        obtain ⟨h1, h2⟩ := ih ys hys
        refine ⟨by simp [h1], fun i v hv => ?_⟩
        cases i with
        | zero => simp at hv; subst hv; exact ⟨x, rfl, hy⟩
        | succ i => simpa using h2 i v (by simpa using hv)
    obtain ⟨h1, h2⟩ := aux _ _ h
    refine ⟨by simpa using h1, fun i v hv => ?_⟩
    obtain ⟨k, hk, hc⟩ := h2 i v hv
    have := (List.getElem?_eq_some_iff.1 hk)
    obtain ⟨_, e⟩ := this
    simp at e; subst e; exact hc
  · cases h

theorem cell_lt {a : Addr} {v : Value} (h : w.cell? a = some v) : a.spot = none ∧ a.block < w.heap.size := by
  unfold World.cell? at h
  split at h
  · rename_i c t f hc
    have := (Array.getElem?_eq_some_iff.1 hc).1
    refine ⟨?_, this⟩
    cases hs : a.spot with
    | none => rfl
    | some x => simp [hs] at h
  · cases h

theorem add_spot (a : Addr) {n : Nat} (h : (a.add n).spot = none) (hn : n ≠ 0 ∨ a.spot = none) : a.add n = ⟨a.block, a.off + n, none⟩ := by
  unfold Addr.add at h ⊢
  split
  · rename_i h0
    have h0' : n = 0 := by simpa using h0
    subst h0'
    obtain ⟨b, o, s⟩ := a
    rcases hn with hn | hn
    · exact absurd rfl hn
    · simp at hn; subst hn; rfl
  · rfl

/-- What is read as data, as cells of abstract values. -/
theorem trod_AC {L : List TypeId} (hL : closedB P L = true) : ∀ (fuel : Nat) (t : TypeId) (cs : List Value) (x : DataW H × List MemPlace), t ∈ L → DataW.trod enc P w 0 sp held fuel t cs = some x →
    (x.1.weights P t).all (· ≤ reachBytes) = true → ∃ es, VRs (ZAll w) w noLoc es cs ∧ AC P t es ∧ (∀ v ∈ cs, v.oneCell' = true) := by
  intro fuel
  induction fuel with
  | zero => intro t cs x _ h; simp [DataW.trod] at h
  | succ n ih =>
    intro t cs x ht h hw
    have hc := List.all_eq_true.1 hL t ht
    unfold closedT at hc
    split at hc
    · rename_i hu
      obtain ⟨b, rfl, rfl⟩ := DataW.trod_bool hu h
      exact ⟨[.val (.bool b)], .cons (.val _) .nil, .bool hu, by simp [Value.oneCell']⟩
    · rename_i k hu
      obtain ⟨m, rfl, rfl, hwf⟩ := DataW.trod_int hu h
      exact ⟨[.val (.int k m)], .cons (.val _) .nil, .int hu hwf, by simp [Value.oneCell']⟩
    · rename_i hu
      obtain ⟨s, rfl, rfl, hs⟩ := DataW.trod_string hu h
      refine ⟨[.val (.string s)], .cons (.val _) .nil, .string hu ?_, by simp [Value.oneCell']⟩
      simpa [DataW.weights] using hw
    · rename_i e hu
      simp only [Bool.and_eq_true, Nat.blt_eq] at hc
      obtain ⟨⟨heL, hce⟩, hbe⟩ := hc
      have heL : e ∈ L := by simpa using heL
      rcases DataW.trod_slice hu h with ⟨rfl, rfl⟩ | ⟨a, len, cap, elems, rest, n', hf, rfl, rfl, _, hlc, _, hel, hat, _⟩
      · exact ⟨[.sl (P.cellsOf e) ([].map (wrapAV P e))], .cons .slnil .nil, .slice hu (by simp) (by simp), by simp [Value.oneCell']⟩
      · obtain rfl : n' = n := by omega
        simp only [DataW.weights, hu, List.all_cons, List.all_append, Bool.and_eq_true, decide_eq_true_eq] at hw
        obtain ⟨hw1, hw2, _⟩ := hw
        have hwe : ∀ (i : Nat) (y : DataW H × List MemPlace), elems[i]? = some y → (y.1.weights P e).all (· ≤ reachBytes) = true := by
          intro i y hy
          have aux : ∀ (l : List (DataW H)) (d : DataW H), d ∈ l → (DataW.weightsAll P e l).all (· ≤ reachBytes) = true → (d.weights P e).all (· ≤ reachBytes) = true := by
            intro l d hd
            induction l with
            | nil => cases hd
            | cons z r ihl =>
              intro hz
              simp only [DataW.weightsAll, List.all_append, Bool.and_eq_true] at hz
              rcases List.mem_cons.1 hd with rfl | hd
              · exact hz.1
              · exact ihl hd hz.2
          exact aux _ _ (List.mem_map.2 ⟨y, List.mem_of_getElem? hy, rfl⟩) hw2
        have key : ∀ i, i < len → ∃ q : List AV × List Value, VRs (ZAll w) w noLoc q.1 q.2 ∧ AC P e q.1 ∧ (∀ v ∈ q.2, v.oneCell' = true) ∧ w.cells? 0 (a.add (i * P.cellsOf e)) (P.cellsOf e) = some q.2 := by
          intro i hi
          have hi' : i < elems.length := by omega
          have h1 := hat i hi
          rw [List.getElem?_eq_getElem hi'] at h1
          obtain ⟨ci, hci, htr⟩ := Option.bind_eq_some_iff.1 h1
          obtain ⟨es, h2, h3, h4⟩ := ih e ci _ heL htr (hwe i _ (List.getElem?_eq_getElem hi'))
          exact ⟨(es, ci), h2, h3, h4, hci⟩
        obtain ⟨qs, hql, hq⟩ := list_choice len key
        have hAC : ∀ cs ∈ qs.map (·.1), AC P e cs := by
          intro cs hcs
          obtain ⟨q, hq', rfl⟩ := List.mem_map.1 hcs
          obtain ⟨i, hi⟩ := List.getElem?_of_mem hq'
          exact (hq i q hi).2.1
        refine ⟨[.sl (P.cellsOf e) ((qs.map (·.1)).map (wrapAV P e))], .cons ?_ .nil, .slice hu ?_ hAC, by simp [Value.oneCell']⟩
        · by_cases h0 : len = 0
          · subst h0
            have : qs = [] := List.length_eq_zero_iff.1 hql
            subst this
            exact .slnil
          · have h00 := (hq 0 qs[0] (by simp)).2.2.2
            obtain ⟨hl0, hc0⟩ := cells_spec h00
            rw [Nat.zero_mul] at hc0
            have hlen0 : 0 < qs[0].2.length := by omega
            have hc00 := hc0 0 qs[0].2[0] (by simp)
            obtain ⟨hsp, hblt⟩ := cell_lt hc00
            have hspot : a.spot = none := by
              unfold Addr.add at hsp
              simpa using hsp
            have hblk : a.block < w.heap.size := by
              have : ((a.add 0).add 0).block = a.block := by unfold Addr.add; simp
              rw [← this]; exact hblt
            obtain ⟨b, off, s⟩ := a
            simp only at hspot hblk
            subst hspot
            have hcell : ∀ (i : Nat) q, qs[i]? = some q → q.2.length = P.cellsOf e ∧ ∀ (j : Nat) v, q.2[j]? = some v → w.cell? ⟨b, off + i * P.cellsOf e + j, none⟩ = some v := by
              intro i q hqi
              obtain ⟨h5, h6⟩ := cells_spec (hq i q hqi).2.2.2
              refine ⟨h5, fun j v hv => ?_⟩
              have := h6 j v hv
              rwa [addr_add, addr_add] at this
            refine .sl (vs := (qs.map (·.2)).flatten) ?_ ?_ hblk ?_ hlc ?_ ?_
            · intro hn
              have h8 : qs = [] := by simpa using hn
              rw [h8] at hql; exact h0 hql.symm
            · simp [hql]
            · intro y hy
              obtain ⟨c, hc, rfl⟩ := List.mem_map.1 hy
              rw [wrap_cells (hAC c hc)]
              obtain ⟨q, hq', rfl⟩ := List.mem_map.1 hc
              obtain ⟨i, hi⟩ := List.getElem?_of_mem hq'
              rw [← (hcell i q hi).1, (hq i q hi).1.length]
            · intro k v hkv
              obtain ⟨i, j, y, h5, h6, h7⟩ := flatten_get (sz := P.cellsOf e) (by
                intro y hy
                obtain ⟨q, hq', rfl⟩ := List.mem_map.1 hy
                obtain ⟨i, hi⟩ := List.getElem?_of_mem hq'
                exact (hcell i q hi).1) hkv
              rw [List.getElem?_map] at h5
              cases hqi : qs[i]? with
              | none => simp [hqi] at h5
              | some q =>
                simp [hqi] at h5
                subst h5
                refine ⟨(hq i q hqi).2.2.1 v (List.mem_of_getElem? h6), ?_⟩
                rw [h7, ← Nat.add_assoc]
                exact (hcell i q hqi).2 j v h6
            · rw [flat_wrap hAC]
              refine VRs.flatten (by simp) fun i c v hc hv => ?_
              rw [List.getElem?_map] at hc hv
              cases hqi : qs[i]? with
              | none => simp [hqi] at hc
              | some q =>
                simp [hqi] at hc hv
                subst hc; subst hv
                exact (hq i q hqi).1
        · rw [List.length_map, hql]
          refine Nat.le_trans (Nat.mul_le_mul_right _ ?_) hw1
          rw [List.length_map, hel]; omega
    · rename_i fs hu
      simp only [Bool.and_eq_true, List.all_eq_true] at hc
      obtain ⟨hfL, hti⟩ := hc
      obtain ⟨xs, n', hf, rfl, hcl, hxl, hat⟩ := DataW.trod_struct hu h
      obtain rfl : n' = n := by omega
      simp only [DataW.weights, hu] at hw
      have aux : ∀ (l : List Field) (ys : List (DataW H × List MemPlace)) (off : Nat), (∀ f ∈ l, L.contains f.type = true) → tiles P l off (P.cellsOf t) = true → l.length = ys.length →
          (∀ (i : Nat) f, l[i]? = some f → DataW.trod enc P w 0 sp held n' f.type ((cs.drop f.offset).take (P.cellsOf f.type)) = ys[i]?) →
          (DataW.weightsEach P (l.map (·.type)) (ys.map (·.1))).all (· ≤ reachBytes) = true →
          ∃ es, VRs (ZAll w) w noLoc es (cs.drop off) ∧ ACs P (l.map (·.type)) es ∧ (∀ v ∈ cs.drop off, v.oneCell' = true) := by
        intro l
        induction l with
        | nil =>
          intro ys off _ ht _ _ _
          simp only [tiles, beq_iff_eq] at ht
          rw [List.drop_of_length_le (by omega)]
          exact ⟨[], .nil, .nil, by simp⟩
        | cons f r ihl =>
          intro ys off hfl ht hlen hat hw
          cases ys with
          | nil => simp at hlen
          | cons y ys =>
            simp only [tiles, Bool.and_eq_true, beq_iff_eq] at ht
            obtain ⟨ht1, ht2⟩ := ht
            simp only [List.map_cons, DataW.weightsEach, List.all_append, Bool.and_eq_true] at hw
            have h1 := hat 0 f rfl
            simp only [List.getElem?_cons_zero] at h1
            obtain ⟨e1, hv1, ha1, ho1⟩ := ih f.type _ y (by simpa using hfl f (by simp)) h1 hw.1
            obtain ⟨e2, hv2, ha2, ho2⟩ := ihl ys (off + P.cellsOf f.type) (fun f hf => hfl f (by simp [hf])) ht2 (by simpa using hlen) (fun i f hf => by simpa using hat (i + 1) f (by simpa using hf)) hw.2
            rw [ht1] at hv1 ho1
            have hsplit : cs.drop off = (cs.drop off).take (P.cellsOf f.type) ++ cs.drop (off + P.cellsOf f.type) := by
              rw [← List.drop_drop]; exact (List.take_append_drop _ _).symm
            refine ⟨e1 ++ e2, ?_, .cons ha1 ha2, ?_⟩
            · rw [hsplit]; exact hv1.append hv2
            · rw [hsplit]
              intro v hv
              rcases List.mem_append.1 hv with hv | hv
              · exact ho1 v hv
              · exact ho2 v hv
      obtain ⟨es, h1, h2, h3⟩ := aux fs.toList xs 0 hfL hti (by simp [hxl]) (fun i f hf => hat i f (by simpa using hf)) hw
      rw [List.drop_zero] at h1 h3
      exact ⟨es, h1, .struct hu h2, h3⟩
    · cases hc
end
end Go.Av

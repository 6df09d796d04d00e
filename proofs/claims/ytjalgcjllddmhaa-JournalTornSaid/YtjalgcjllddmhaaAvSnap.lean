/- A text of the proof of JournalTorn: AvSnap -/
import Derived.Test.YtjalgcjllddmhaaAvCallG
/- What an own object holds, read as a value from here on: the object is written no more. -/
namespace Go.Av
section
variable {P : Program} {st : St}

theorem HR.froze {Z : Nat → Prop} {w : World} {ρ : Loc} {H : List AObj} (h : HR Z w ρ H) (ids : List Nat) : HR (Zx Z ρ ids) w ρ (frz ids H) := by
  refine ⟨fun id q hq => by rw [frz_length]; exact h.dom id q hq, fun i o ho => ?_, h.inj⟩
  rw [frz_get] at ho
  cases hi : H[i]? with
  | none => simp [hi] at ho
  | some o0 =>
    simp only [hi, Option.map_some, Option.some.injEq] at ho
    obtain ⟨q, hq, hor⟩ := h.obj i o0 hi
    refine ⟨q, hq, ?_⟩
    subst ho
    cases hin : ids.any (fun j => Nat.beq j i) with
    | true =>
      obtain ⟨j, hj, hji⟩ := List.any_eq_true.1 hin
      have hji := Nat.eq_of_beq_eq_true hji
      subst hji
      simp only [cond_true]
      cases hor with
      | virt he => exact .virt he
      | real b vs extra hheap hv hse h1 hf =>
        exact .real b vs extra hheap (hv.mono Z_keeps (Loc.le_refl _)) hse h1 (by simp only [if_true]; exact .inr ⟨j, hj, hq⟩)
    | false =>
      simp only [cond_false]
      refine hor.mono Z_keeps (Loc.le_refl _) fun b hb => ⟨rfl, ⟨fun h1 => h1.elim id fun ⟨j, hj, hjb⟩ => ?_, .inl⟩⟩
      have := h.inj j i b hjb (hb ▸ hq)
      subst this
      have := List.any_eq_false.1 hin j hj
      simp at this

theorem Ext.froze {Z : Nat → Prop} {w : World} {ρ : Loc} (ids : List Nat) : Ext Z (Own ρ) w (Zx Z ρ ids) (Own ρ) w :=
  { Ext.refl Z (Own ρ) w with zz := fun b hb => .inl hb, zn := fun b hb => hb.elim .inl fun ⟨i, _, hi⟩ => .inr (.inl ⟨i, hi⟩) }

theorem SR.froze {ρ0 : Loc} {Z : Nat → Prop} {w : World} {ρ : Loc} {a : Act} (h : SR ρ0 Z w ρ a st) (ids : List Nat) : SR ρ0 (Zx Z ρ ids) w ρ a ⟨st.n, st.m, st.fr, frz ids st.H⟩ :=
  ⟨h.rn, h.defers, h.size, fun t ht => (h.fr t ht).mono Z_keeps (Loc.le_refl _), h.H.froze ids, fun b hb => hb.elim (h.zs b) fun ⟨i, _, hi⟩ => h.H.own_lt hi⟩

/-- Slot 't' read as a value. -/
theorem le_snapT (t : Nat) {x y : AV} {ids : List Nat} (hx : get st.fr t = x) (hn : Nat.blt t st.n = true) (h : SnapR st x y ids) : Le st ⟨st.n, st.m, (t, y) :: st.fr, frz ids st.H⟩ := by
  intro ρ0 Z w ρ a hs
  refine ⟨Zx Z ρ ids, ρ, ?_, Ext.froze ids⟩
  have h1 := hs.froze ids
  refine ⟨h1.rn, h1.defers, h1.size, fun k hk => ?_, h1.H, h1.zs⟩
  simp only [get]
  cases hb : Nat.beq t k with
  | true =>
    have := Nat.eq_of_beq_eq_true hb
    subst this
    have hv := hs.fr t hk
    rw [hx] at hv
    exact (h ρ0 Z w ρ a _ hs hv).mono (Keeps.refl _ _) (noLoc_le _)
  | false => exact h1.fr k hk

/-- The one element of an own object (a box), read as a value. -/
theorem le_snapO (id : Nat) {ty : TypeId} {fz : Bool} {sz : Nat} {x y : AV} {ids : List Nat} (ho : st.H[id]? = some (.mk ty true fz sz [x])) (hl : y.cells.length = sz) (hd : (ids.any fun j => Nat.beq j id) = false)
    (h : SnapsR st x.cells y.cells ids) : Le st ⟨st.n, st.m, st.fr, (frz ids st.H).set id (.mk ty true fz sz [y])⟩ := by
  intro ρ0 Z w ρ a hs
  refine ⟨Zx Z ρ ids, ρ, ?_, Ext.froze ids⟩
  have h1 := hs.froze ids
  have hlt : id < st.H.length := (List.getElem?_eq_some_iff.1 ho).1
  refine ⟨h1.rn, h1.defers, h1.size, h1.fr, ⟨fun i q hq => ?_, fun i o hi => ?_, h1.H.inj⟩, h1.zs⟩
  · simp only [List.length_set]; exact h1.H.dom i q hq
  · simp only [List.getElem?_set] at hi
    by_cases he : id = i
    · subst he
      rw [if_pos rfl] at hi
      simp only [frz_length, hlt, if_true, Option.some.injEq] at hi
      have hg : (frz ids st.H)[id]? = some (.mk ty true fz sz [x]) := by rw [frz_get, ho]; simp [hd]
      obtain ⟨q, hq, hor⟩ := h1.H.obj id _ hg
      refine ⟨q, hq, ?_⟩
      subst hi
      obtain ⟨q0, hq0, hor0⟩ := hs.H.obj id _ ho
      rw [hq] at hq0; cases hq0
      cases hor with
      | virt he => simp at he
      | real b vs extra hheap hv hse hone hf =>
        cases hor0 with
        | real _ vs0 extra0 hheap0 hv0 hse0 hone0 hf0 =>
          simp only [if_true, flat, List.append_nil] at hv0 hv
          have hlv : vs0.length = vs.length := by rw [hv0.length, hv.length]
          rw [hheap] at hheap0
          simp only [Option.some.injEq, Obj.cells.injEq] at hheap0
          have h2 : vs = vs0 := by
            have h3 := congrArg Array.toList hheap0.1
            simp only [] at h3
            exact (List.append_inj h3 hlv.symm).1
          subst h2
          have h4 := h ρ0 Z w ρ a _ hs hv0
          refine .real b vs extra hheap ?_ ?_ hone hf
          · simp only [if_true, flat, List.append_nil]
            exact h4.mono (Keeps.refl _ _) (noLoc_le _)
          · intro e he; simp only [List.mem_singleton] at he; subst he; exact hl
    · rw [if_neg he] at hi
      exact h1.H.obj i o hi
end
end Go.Av

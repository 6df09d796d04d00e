/- A text of the proof of JournalTorn: JInv -/
import Derived.Test.YtjalgcjllddmhaaJPlain
/- The store's invariant, plain. -/
namespace Go.Proofs.Ytjalgcjllddmhaa
open Go.Av
structure Inv (s : Sto) (done : List Cmd) (tail : List UInt8) : Prop where
  bytes : s.bytes = flatR done ++ tail
  torn : ∀ j, rec1 (tail.take j) = none
  dur : s.durable = (flatR done).length
  tl : tail.length ≤ 2013
  aft : -1 ≤ s.after ∧ s.after ≤ 262144
  form : ∀ c ∈ done, formed c = true
  len : done.length ≤ 100
namespace Inv
variable {s : Sto} {done : List Cmd} {tail : List UInt8} {c : Cmd}
theorem recs (h : Inv s done tail) : recs s.bytes [] 0 = (done, (flatR done).length) := by
  rw [h.bytes]
  refine recs_of ?_ h.form (by have := h.len; omega)
  have := h.torn tail.length
  rwa [List.take_length] at this
theorem sizes (h : Inv s done tail) : (s.bytes.length : Int) = s.durable + tail.length ∧ 0 ≤ s.durable ∧ s.durable ≤ 201300 ∧ tail.length ≤ 2013 := by
  have h1 := flatR_length h.form
  have h2 := h.len
  have h3 := h.tl
  have h4 := h.dur
  have h5 := congrArg List.length h.bytes
  rw [List.length_append] at h5
  have : 2013 * done.length ≤ 2013 * 100 := Nat.mul_le_mul_left _ h2
  omega
theorem valid (h : Inv s done tail) : valid s = true := by
  have := h.sizes
  have h1 := h.aft
  rw [valid_yes (by omega), h.recs]
  simp [h.dur]
theorem read (h : Inv s done tail) : read s = (done, 0) := by
  unfold Ytjalgcjllddmhaa.read; rw [if_pos h.valid, h.recs]
theorem crash (h : Inv s done tail) {k : Int} (h0 : 0 ≤ k) (h1 : k ≤ s.bytes.length - s.durable) :
    crash s k = (⟨flatR done ++ tail.take k.toNat, s.durable, -1⟩, 0) ∧ Inv ⟨flatR done ++ tail.take k.toNat, s.durable, -1⟩ done (tail.take k.toNat) := by
  have hs := h.sizes
  constructor
  · unfold Ytjalgcjllddmhaa.crash
    rw [if_pos h.valid, if_neg (by omega)]
    congr 2
    have : (s.durable + k).toNat = (flatR done).length + k.toNat := by have := h.dur; omega
    have h2 := take_mid (flatR done) tail [] k.toNat (by omega)
    rw [List.append_nil] at h2
    rw [h.bytes, this, h2]
  · exact ⟨rfl, fun j => by rw [List.take_take]; exact h.torn _, h.dur, by rw [List.length_take]; have := h.tl; omega, ⟨by show (-1 : Int) ≤ -1; omega, by show (-1 : Int) ≤ 262144; omega⟩, h.form, h.len⟩
theorem notFormed (h : formed c = false) : write s c = (zeroSto, 1) := if_pos (.inr h)
theorem snoc {n : Int} (h : Inv s done tail) (hc : formed c = true) (hl : done.length < 100) (hn : -1 ≤ n ∧ n ≤ 262144) :
    Inv ⟨flatR done ++ record c, (flatR done ++ record c).length, n⟩ (done ++ [c]) [] :=
  ⟨by simp [flatR_snoc], fun j => by rw [List.take_nil]; exact rec1_nil, by simp [flatR_snoc], by simp, hn, fun d hd => by
    rcases List.mem_append.1 hd with hd | hd
    · exact h.form d hd
    · simp at hd; rw [hd]; exact hc, by simp; omega⟩
theorem take_bytes (h : Inv s done tail) : s.bytes.take (flatR done).length = flatR done := by
  rw [h.bytes]; simp
/-- A store that never crashes. -/
theorem write_m1 (h : Inv s done tail) (hc : formed c = true) (hl : done.length < 100) (ha : s.after = -1) :
    write s c = (⟨flatR done ++ record c, (flatR done ++ record c).length, -1⟩, 0) := by
  have hs := h.sizes
  have hr := record_length hc
  have hd := h.dur
  unfold write
  rw [if_neg (by simp [h.valid, hc]), if_neg (by omega)]
  dsimp only
  rw [h.recs]
  dsimp only
  rw [if_neg (by omega), if_neg (by omega), if_neg (by omega), h.take_bytes, ha]
theorem write_cases (h : Inv s done []) (hl : done.length < 100) (c : Cmd) :
    (formed c = false ∧ write s c = (zeroSto, 1)) ∨ (formed c = true ∧ ∃ s' t', write s c = (s', 15) ∧ Inv s' done t') ∨ (formed c = true ∧ ∃ s', write s c = (s', 0) ∧ Inv s' (done ++ [c]) []) := by
  cases hc : formed c with
  | false => exact .inl ⟨rfl, notFormed hc⟩
  | true =>
    right
    have hs := h.sizes
    have hr := record_length hc
    have hd := h.dur
    have ha := h.aft
    by_cases h0 : s.after = 0
    · refine .inl ⟨rfl, s, [], ?_, h⟩
      unfold write
      rw [if_neg (by simp [h.valid, hc]), if_pos h0]
    · have hw : write s c = if 0 ≤ s.after ∧ s.after < (record c).length then (⟨flatR done ++ (record c).take s.after.toNat, (flatR done).length, 0⟩, 15)
          else (⟨flatR done ++ record c, (flatR done ++ record c).length, if 0 ≤ s.after then s.after - (record c).length else s.after⟩, 0) := by
        unfold write
        rw [if_neg (by simp [h.valid, hc]), if_neg h0]
        dsimp only
        rw [h.recs]
        dsimp only
        rw [if_neg (by omega), h.take_bytes]
      by_cases h1 : 0 ≤ s.after ∧ s.after < (record c).length
      · rw [if_pos h1] at hw
        refine .inl ⟨rfl, _, (record c).take s.after.toNat, hw, ⟨rfl, fun j => ?_, rfl, by rw [List.length_take]; omega, ⟨by show (-1 : Int) ≤ 0; omega, by show (0 : Int) ≤ 262144; omega⟩, h.form, h.len⟩⟩
        rw [List.take_take]
        exact rec1_prefix hc (by omega)
      · rw [if_neg h1] at hw
        exact .inr ⟨rfl, _, hw, h.snoc hc hl (by split <;> omega)⟩
end Inv
theorem Inv.new {n : Int} (h : -1 ≤ n ∧ n ≤ 262144) : Inv ⟨[], 0, n⟩ [] [] := ⟨rfl, fun j => by rw [List.take_nil]; exact rec1_nil, rfl, by simp, h, by simp, by simp⟩
theorem sameL_self (l : List Cmd) : sameL l l = true := by simp [sameL]
theorem formed_data {l : List Cmd} (h : ∀ c ∈ l, formed c = true) : ∀ c ∈ l, c.data.length ≤ 2 ^ 47 := fun c hc => by
  have := (formed_facts (h c hc)).2.2.2.2.2.2.1; omega
theorem any_plain {l : List Cmd} (h : (l.any fun c => !plainC c) = false) : ∀ c ∈ l, plainC c = true := fun c hc => by
  have := List.any_eq_false.1 h c hc; simpa using this
theorem wr4 {c : Cmd} (h : plainC c = true) : c.case.size ≤ 2 ^ 47 ∧ c.person.size ≤ 2 ^ 47 ∧ c.to.size ≤ 2 ^ 47 ∧ c.data.length ≤ 2 ^ 40 ∧ ∀ v ∈ c.data, v.s.size ≤ 2 ^ 47 := by
  obtain ⟨h1, h2, h3, h4, h5⟩ := plainC_facts h
  exact ⟨by omega, by omega, by omega, by omega, fun v hv => by have := h5 v hv; omega⟩
end Go.Proofs.Ytjalgcjllddmhaa
namespace Go.Proofs.Ytjalgcjllddmhaa
open Go.Av
theorem Inv.write_m1c {s : Sto} {done : List Cmd} {tail : List UInt8} (h : Inv s done tail) (hl : done.length < 100) (ha : s.after = -1) (c : Cmd) :
    (formed c = false ∧ write s c = (zeroSto, 1)) ∨ (formed c = true ∧ ∃ s', write s c = (s', 0) ∧ Inv s' (done ++ [c]) [] ∧ s'.durable = s'.bytes.length) := by
  cases hc : formed c with
  | false => exact .inl ⟨rfl, Inv.notFormed hc⟩
  | true => exact .inr ⟨rfl, _, h.write_m1 hc hl ha, h.snoc hc hl (by omega), rfl⟩
end Go.Proofs.Ytjalgcjllddmhaa
namespace Go.Proofs.Ytjalgcjllddmhaa
open Go.Av
theorem own_snoc (l : List Cmd) (c : Cmd) : (((l.map cmdAV).take l.length ++ [cmdAV c]).drop 0).take (l.length + 1) = (l ++ [c]).map cmdAV := by
  rw [take_cmds, List.drop_zero, List.map_append, List.take_of_length_le (by simp)]; rfl
theorem own_snoc_len (l : List Cmd) (c : Cmd) : 0 + (l.length + 1) ≤ ((l.map cmdAV).take l.length ++ [cmdAV c]).length := by rw [take_cmds]; simp
end Go.Proofs.Ytjalgcjllddmhaa

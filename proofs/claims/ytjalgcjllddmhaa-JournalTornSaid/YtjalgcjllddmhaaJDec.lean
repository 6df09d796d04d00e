/- A text of the proof of JournalTorn: JDec -/
import Derived.Test.YtjalgcjllddmhaaJSum
/- Decoding, records and stores, plain. -/
namespace Go.Proofs.Ytjalgcjllddmhaa
open Go.Av

def zeroC : Cmd := ⟨0, 0, 0, noS, noS, noS, []⟩
def decode (b : List UInt8) : Cmd × Int :=
  if 16384 < b.length then (zeroC, 5)
  else let p := rdCmd ⟨b, false⟩
    if p.2.bad = true ∨ formed p.1 = false ∨ (code p.1 == b) = false then (zeroC, 3) else (p.1, 0)

theorem rdText_size (r : Rd) : (bs (rdText r).1).size ≤ r.b.length := by
  have h1 := rdNum_len r
  have h2 := (rdTake_len (rdNum r).1 (rdNum r).2).2
  have : (bs (rdText r).1).size = (rdText r).1.length := by simp [bs, ByteArray.size]
  rw [this]
  unfold rdText; dsimp only; omega
theorem noS_size : noS.size = 0 := rfl
theorem rdVal_size (r : Rd) : (rdVal r).1.s.size ≤ r.b.length := by
  have h1 := rdNum_len r
  have h2 := rdText_size (rdNum r).2
  unfold rdVal; dsimp only
  split
  · dsimp only; omega
  · split <;> (dsimp only; rw [noS_size]; omega)
theorem rdVals_size (L : Nat) : ∀ (n : Nat) (acc : List Val) (r : Rd), r.b.length ≤ L → acc.length ≤ 9 → (∀ v ∈ acc, v.s.size ≤ L) → (rdVals n acc r).1.length ≤ 9 ∧ (∀ v ∈ (rdVals n acc r).1, v.s.size ≤ L) := by
  intro n
  induction n with
  | zero => intro acc r _ h2 h3; rw [rdVals_end (.inl rfl)]; exact ⟨h2, h3⟩
  | succ n ih =>
    intro acc r h1 h2 h3
    by_cases h : n + 1 = 0 ∨ r.bad = true ∨ 8 < acc.length
    · rw [rdVals_end h]; exact ⟨h2, h3⟩
    · rw [rdVals_step h]
      have hs := rdVal_size r
      have hl := rdVal_len r
      refine ih _ _ (by omega) (by simp; omega) ?_
      intro v hv
      rcases List.mem_append.1 hv with hv | hv
      · exact h3 v hv
      · simp only [List.mem_singleton] at hv; subst hv; omega
theorem rdCmd_sizes (r : Rd) : (rdCmd r).1.case.size ≤ r.b.length ∧ (rdCmd r).1.person.size ≤ r.b.length ∧ (rdCmd r).1.to.size ≤ r.b.length ∧ (rdCmd r).1.data.length ≤ 9 ∧ ∀ v ∈ (rdCmd r).1.data, v.s.size ≤ r.b.length := by
  have l1 := rdNum_len r
  have l2 := rdNum_len (rdNum r).2
  have l3 := rdNum_len (rdNum (rdNum r).2).2
  have l4 := rdText_len (rdNum (rdNum (rdNum r).2).2).2
  have l5 := rdText_len (rdText (rdNum (rdNum (rdNum r).2).2).2).2
  have l6 := rdText_len (rdText (rdText (rdNum (rdNum (rdNum r).2).2).2).2).2
  have l7 := rdNum_len (rdText (rdText (rdText (rdNum (rdNum (rdNum r).2).2).2).2).2).2
  have s4 := rdText_size (rdNum (rdNum (rdNum r).2).2).2
  have s5 := rdText_size (rdText (rdNum (rdNum (rdNum r).2).2).2).2
  have s6 := rdText_size (rdText (rdText (rdNum (rdNum (rdNum r).2).2).2).2).2
  have hv := rdVals_size r.b.length (rdNum (rdText (rdText (rdText (rdNum (rdNum (rdNum r).2).2).2).2).2).2).1 [] (rdNum (rdText (rdText (rdText (rdNum (rdNum (rdNum r).2).2).2).2).2).2).2 (by omega) (by simp) (by simp)
  unfold rdCmd
  dsimp only
  exact ⟨by omega, by omega, by omega, hv.1, hv.2⟩
end Go.Proofs.Ytjalgcjllddmhaa
namespace Go.Proofs.Ytjalgcjllddmhaa
open Go.Av
theorem decode_cases (b : List UInt8) : (decode b).2 = 0 ∨ (decode b).2 = 3 ∨ (decode b).2 = 5 := by
  unfold decode; dsimp only
  split
  · exact .inr (.inr rfl)
  · split
    · exact .inr (.inl rfl)
    · exact .inl rfl
theorem decode_ok {b : List UInt8} (h : (decode b).2 = 0) : formed (decode b).1 = true := by
  unfold decode at h ⊢; dsimp only at h ⊢
  split at h
  · cases h
  · split at h
    · cases h
    · rename_i h1 h2
      rw [if_neg h1, if_neg h2]
      simp only [not_or] at h2
      simpa using h2.2.1
theorem take_cmds (l : List Cmd) : (l.map cmdAV).take l.length = l.map cmdAV := List.take_of_length_le (by simp)

/-- One record at the beginning of bytes: its command, and how long it is. -/
def rec1 (b : List UInt8) : Option (Cmd × Nat) :=
  let p := rdNum ⟨b, false⟩
  let x := rdTake p.1 p.2
  let q := rdTake 4 x.2
  if q.2.bad = true then none
  else if (decode x.1).2 ≠ 0 ∨ (record (decode x.1).1 == b.take (b.length - q.2.b.length)) = false then none
  else some ((decode x.1).1, b.length - q.2.b.length)
def recs (b : List UInt8) (out : List Cmd) (i : Nat) : List Cmd × Nat :=
  if out.length < 1000 then
    match rec1 (b.drop i) with
    | none => (out, i)
    | some (c, n) => recs b (out ++ [c]) (i + n)
  else (out, i)
termination_by 1000 - out.length
decreasing_by simp; omega
theorem recs_full {b : List UInt8} {out : List Cmd} {i : Nat} (h : ¬ out.length < 1000) : recs b out i = (out, i) := by rw [recs, if_neg h]
theorem recs_none {b : List UInt8} {out : List Cmd} {i : Nat} (h : rec1 (b.drop i) = none) : recs b out i = (out, i) := by
  rw [recs]; split
  · rw [h]
  · rfl
theorem recs_some {b : List UInt8} {out : List Cmd} {i : Nat} {c : Cmd} {n : Nat} (hl : out.length < 1000) (h : rec1 (b.drop i) = some (c, n)) : recs b out i = recs b (out ++ [c]) (i + n) := by
  rw [recs, if_pos hl, h]
theorem rec1_bad {b : List UInt8} (h : (rdTake 4 (rdTake (rdNum ⟨b, false⟩).1 (rdNum ⟨b, false⟩).2).2).2.bad = true) : rec1 b = none := by
  unfold rec1; dsimp only; rw [if_pos h]
theorem rec1_no {b : List UInt8} (h : (decode (rdTake (rdNum ⟨b, false⟩).1 (rdNum ⟨b, false⟩).2).1).2 ≠ 0 ∨ (record (decode (rdTake (rdNum ⟨b, false⟩).1 (rdNum ⟨b, false⟩).2).1).1 == b.take (b.length - (rdTake 4 (rdTake (rdNum ⟨b, false⟩).1 (rdNum ⟨b, false⟩).2).2).2.b.length)) = false) : rec1 b = none := by
  unfold rec1; dsimp only
  split
  · rfl
  · first | rw [if_pos h] | rfl | (split; rfl; contradiction)
theorem rec1_yes {b : List UInt8} (hb : (rdTake 4 (rdTake (rdNum ⟨b, false⟩).1 (rdNum ⟨b, false⟩).2).2).2.bad = false) (h1 : (decode (rdTake (rdNum ⟨b, false⟩).1 (rdNum ⟨b, false⟩).2).1).2 = 0)
    (h2 : (record (decode (rdTake (rdNum ⟨b, false⟩).1 (rdNum ⟨b, false⟩).2).1).1 == b.take (b.length - (rdTake 4 (rdTake (rdNum ⟨b, false⟩).1 (rdNum ⟨b, false⟩).2).2).2.b.length)) = true) :
    rec1 b = some ((decode (rdTake (rdNum ⟨b, false⟩).1 (rdNum ⟨b, false⟩).2).1).1, b.length - (rdTake 4 (rdTake (rdNum ⟨b, false⟩).1 (rdNum ⟨b, false⟩).2).2).2.b.length) := by
  unfold rec1; dsimp only
  rw [if_neg (by simp [hb]), if_neg (by simp [h1, h2])]
end Go.Proofs.Ytjalgcjllddmhaa
namespace Go.Proofs.Ytjalgcjllddmhaa
open Go.Av
theorem rec1_none_of {B : List UInt8} {p : Nat × Rd} {x q : List UInt8 × Rd} (hp : p = rdNum ⟨B, false⟩) (hx : x = rdTake p.1 p.2) (hq : q = rdTake 4 x.2)
    (h : q.2.bad = true ∨ (decode x.1).2 ≠ 0 ∨ (record (decode x.1).1 == B.take (B.length - q.2.b.length)) = false) : rec1 B = none := by
  subst hq hx hp
  rcases h with h | h
  · exact rec1_bad h
  · exact rec1_no h
theorem rec1_some_of {B : List UInt8} {p : Nat × Rd} {x q : List UInt8 × Rd} (hp : p = rdNum ⟨B, false⟩) (hx : x = rdTake p.1 p.2) (hq : q = rdTake 4 x.2)
    (hb : q.2.bad = false) (hd : (decode x.1).2 = 0) (he : (record (decode x.1).1 == B.take (B.length - q.2.b.length)) = true) : rec1 B = some ((decode x.1).1, B.length - q.2.b.length) := by
  subst hq hx hp
  exact rec1_yes hb hd he
theorem recs_next {b : List UInt8} {out : List Cmd} {i : Nat} {p : Nat × Rd} {x q : List UInt8 × Rd} {R : List Cmd × Nat} (ho : out.length < 1000) (hi : i ≤ b.length) (hp : p = rdNum ⟨b.drop i, false⟩) (hx : x = rdTake p.1 p.2) (hq : q = rdTake 4 x.2)
    (hl : q.2.b.length ≤ b.length - i) (hb : q.2.bad = false) (hd : (decode x.1).2 = 0) (he : (!(record (decode x.1).1 == (b.drop i).take (((i : Int) + ((b.length : Int) - i - q.2.b.length)).toNat - i))) = false) (hR : recs b out i = R) :
    (out ++ [(decode x.1).1]).length ≤ 1000 ∧ i + (b.length - i - q.2.b.length) ≤ b.length ∧ recs b (out ++ [(decode x.1).1]) (i + (b.length - i - q.2.b.length)) = R := by
  have hn : ((i : Int) + ((b.length : Int) - i - q.2.b.length)).toNat - i = (b.drop i).length - q.2.b.length := by rw [List.length_drop]; omega
  rw [hn] at he
  have h1 := rec1_some_of hp hx hq hb hd (by simpa using he)
  rw [List.length_drop] at h1
  refine ⟨by simp; omega, by omega, ?_⟩
  rw [← hR]; exact (recs_some ho h1).symm
theorem recs_stop {b : List UInt8} {out : List Cmd} {i : Nat} {p : Nat × Rd} {x q : List UInt8 × Rd} {R : List Cmd × Nat} (hi : i ≤ b.length) (hp : p = rdNum ⟨b.drop i, false⟩) (hx : x = rdTake p.1 p.2) (hq : q = rdTake 4 x.2)
    (hl : q.2.b.length ≤ b.length - i) (h : q.2.bad = true ∨ (decode x.1).2 ≠ 0 ∨ (!(record (decode x.1).1 == (b.drop i).take (((i : Int) + ((b.length : Int) - i - q.2.b.length)).toNat - i))) = true) (hR : recs b out i = R) : R = (out, i) := by
  have hn : ((i : Int) + ((b.length : Int) - i - q.2.b.length)).toNat - i = (b.drop i).length - q.2.b.length := by rw [List.length_drop]; omega
  rw [hn] at h
  rw [← hR]
  exact recs_none (rec1_none_of hp hx hq (h.imp id fun h => h.imp id fun h => by simpa using h))
end Go.Proofs.Ytjalgcjllddmhaa

/- A text of the proof of JournalTorn: JSto -/
import Derived.Test.YtjalgcjllddmhaaJDec
/- Stores, plain. -/
namespace Go.Proofs.Ytjalgcjllddmhaa
open Go.Av
def inRange (s : Sto) : Bool := !(decide (262144 < s.bytes.length) || decide (s.durable < 0) || decide ((s.bytes.length : Int) < s.durable) || decide (s.after < -1) || decide (262144 < s.after))
def valid (s : Sto) : Bool := inRange s && decide (s.durable ≤ (recs s.bytes [] 0).2)
def zeroSto : Sto := ⟨[], 0, 0⟩
def read (s : Sto) : List Cmd × Int := if valid s = true then ((recs s.bytes [] 0).1, 0) else ([], 1)
def crash (s : Sto) (keep : Int) : Sto × Int :=
  if valid s = true then (if keep < 0 ∨ (s.bytes.length : Int) - s.durable < keep then (zeroSto, 2) else (⟨s.bytes.take (s.durable + keep).toNat, s.durable, -1⟩, 0)) else (zeroSto, 1)
theorem valid_facts {s : Sto} (h : valid s = true) : s.bytes.length ≤ 262144 ∧ 0 ≤ s.durable ∧ s.durable ≤ s.bytes.length ∧ -1 ≤ s.after ∧ s.after ≤ 262144 := by
  simp only [valid, inRange, Bool.and_eq_true, Bool.not_eq_true', Bool.or_eq_false_iff, decide_eq_false_iff_not] at h
  omega
theorem valid_no {s : Sto} (h : 262144 < (s.bytes.length : Int) ∨ s.durable < 0 ∨ (s.bytes.length : Int) < s.durable ∨ s.after < -1 ∨ 262144 < s.after) : valid s = false := by
  cases hv : valid s with
  | false => rfl
  | true => have := valid_facts hv; omega
theorem valid_yes {s : Sto} (h : ¬ 262144 < (s.bytes.length : Int) ∧ ¬ s.durable < 0 ∧ ¬ (s.bytes.length : Int) < s.durable ∧ ¬ s.after < -1 ∧ ¬ 262144 < s.after) : valid s = decide (s.durable ≤ (recs s.bytes [] 0).2) := by
  obtain ⟨h1, h2, h3, h4, h5⟩ := h
  have h1' : ¬ 262144 < s.bytes.length := by omega
  simp only [valid, inRange, decide_eq_false h1', decide_eq_false h2, decide_eq_false h3, decide_eq_false h4, decide_eq_false h5, Bool.or_self, Bool.not_false, Bool.true_and]
end Go.Proofs.Ytjalgcjllddmhaa
namespace Go.Proofs.Ytjalgcjllddmhaa
open Go.Av
/-- 'Write': the store and the error. -/
def write (s : Sto) (c : Cmd) : Sto × Int :=
  if valid s = false ∨ formed c = false then (zeroSto, 1)
  else if s.after = 0 then (s, 15)
  else
    let l := recs s.bytes [] 0
    let b := record c
    if l.1.length = 1000 ∨ 262144 < l.2 + b.length then (zeroSto, 5)
    else if 0 ≤ s.after ∧ s.after < b.length then (⟨s.bytes.take l.2 ++ b.take s.after.toNat, l.2, 0⟩, 15)
    else (⟨s.bytes.take l.2 ++ b, (s.bytes.take l.2 ++ b).length, if 0 ≤ s.after then s.after - b.length else s.after⟩, 0)
theorem recs_le (b : List UInt8) : ∀ (k : Nat) (out : List Cmd) (i : Nat), 1000 - out.length = k → i ≤ b.length → out.length ≤ 1000 → (recs b out i).2 ≤ b.length ∧ (recs b out i).1.length ≤ 1000
  | 0, out, i, h, hi, ho => by rw [recs_full (by omega)]; exact ⟨hi, ho⟩
  | k + 1, out, i, h, hi, ho => by
    cases hr : rec1 (b.drop i) with
    | none => rw [recs_none hr]; exact ⟨hi, ho⟩
    | some p =>
      obtain ⟨c, n⟩ := p
      rw [recs_some (by omega) hr]
      have hn : n ≤ (b.drop i).length := by
        unfold rec1 at hr; dsimp only at hr
        split at hr
        · cases hr
        · split at hr
          · cases hr
          · simp only [Option.some.injEq, Prod.mk.injEq] at hr; omega
      rw [List.length_drop] at hn
      exact recs_le b k (out ++ [c]) (i + n) (by simp; omega) (by omega) (by simp; omega)
theorem recs_len (b : List UInt8) : (recs b [] 0).2 ≤ b.length ∧ (recs b [] 0).1.length ≤ 1000 := recs_le b _ [] 0 rfl (by omega) (by simp)
theorem record_length {c : Cmd} (h : formed c = true) : (record c).length ≤ 2013 := by
  have h1 := code_length h
  have h2 := enc_length (n := (code c).length) (by omega)
  simp only [record, body, le32, List.length_append, List.length_cons, List.length_nil]; omega
theorem join_take (A B : List UInt8) : (bytesAV A ++ bytesAV B).take (A.length + (bytesAV B).length) = bytesAV (A ++ B) := by
  rw [List.take_of_length_le (by simp), bytesAV_append]
end Go.Proofs.Ytjalgcjllddmhaa

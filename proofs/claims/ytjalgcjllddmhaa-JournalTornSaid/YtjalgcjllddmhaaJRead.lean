/- A text of the proof of JournalTorn: JRead -/
import Derived.Test.YtjalgcjllddmhaaJBase
/- Reading: plain definitions. -/
namespace Go.Proofs.Ytjalgcjllddmhaa
open Go.Av

theorem sub1 (b : List UInt8) (l : Nat) : ((bytesAV b).drop l).take ((bytesAV b).length - l) = bytesAV (b.drop l) := by
  rw [List.take_of_length_le (by simp)]; simp [bytesAV, List.map_drop]
theorem sub2 (b : List UInt8) (h : Nat) : ((bytesAV b).drop 0).take (h - 0) = bytesAV (b.take h) := by simp [bytesAV, List.map_take]
theorem sub3 (b : List UInt8) (l h : Nat) : ((bytesAV b).drop l).take (h - l) = bytesAV ((b.drop l).take (h - l)) := by simp [bytesAV, List.map_drop, List.map_take]

structure Rd where
  b : List UInt8
  bad : Bool
abbrev rdO (r : Rd) : AObj := .mk 68 true false 2 [.agg [.sl 1 (bytesAV r.b), bv r.bad]]

/-- A number of at most so many groups, and what is behind it. -/
def num : Nat → List UInt8 → Option (Nat × List UInt8)
  | 0, _ => none
  | _ + 1, [] => none
  | f + 1, c :: r => if c.toNat < 128 then some (c.toNat, r) else (num f r).map fun p => (c.toNat % 128 + 128 * p.1, p.2)
def rdNum (r : Rd) : Nat × Rd := match num 8 r.b with
  | some (n, t) => (n, ⟨t, r.bad⟩)
  | none => (0, ⟨r.b, true⟩)
def rdTake (n : Nat) (r : Rd) : List UInt8 × Rd := if r.bad = true ∨ r.b.length < n then ([], ⟨r.b, true⟩) else (r.b.take n, ⟨r.b.drop n, r.bad⟩)
def rdText (r : Rd) : List UInt8 × Rd := let p := rdNum r; rdTake p.1 p.2

theorem num_lt : ∀ (f : Nat) (l : List UInt8) (n : Nat) (t : List UInt8), num f l = some (n, t) → n < 128 ^ f
  | 0, _, _, _, h => by simp [num] at h
  | f + 1, [], _, _, h => by simp [num] at h
  | f + 1, c :: r, n, t, h => by
    unfold num at h
    split at h
    · simp at h; rw [Nat.pow_succ]; have := Nat.one_le_pow f 128 (by omega); omega
    · cases hn : num f r with
      | none => simp [hn] at h
      | some p =>
        simp [hn] at h
        have := num_lt f r p.1 p.2 hn
        rw [Nat.pow_succ]; omega
theorem num_len : ∀ (f : Nat) (l : List UInt8) (n : Nat) (t : List UInt8), num f l = some (n, t) → t.length < l.length
  | 0, _, _, _, h => by simp [num] at h
  | f + 1, [], _, _, h => by simp [num] at h
  | f + 1, c :: r, n, t, h => by
    unfold num at h
    split at h
    · simp at h; rw [h.2]; simp
    · cases hn : num f r with
      | none => simp [hn] at h
      | some p =>
        simp [hn] at h
        have := num_len f r p.1 p.2 hn
        rw [h.2] at this; simp; omega
theorem rdNum_lt (r : Rd) : (rdNum r).1 < 2 ^ 56 := by
  unfold rdNum
  split
  · rename_i n t h; exact num_lt 8 _ _ _ h
  · show 0 < _; omega
theorem rdNum_len (r : Rd) : (rdNum r).2.b.length ≤ r.b.length := by
  unfold rdNum
  split
  · rename_i n t h; have := num_len 8 _ _ _ h; simp; omega
  · simp
theorem rdTake_len (n : Nat) (r : Rd) : (rdTake n r).2.b.length ≤ r.b.length ∧ (rdTake n r).1.length ≤ r.b.length := by
  unfold rdTake
  split <;> simp
  omega

set_option maxRecDepth 20000 in
theorem and127 (c : UInt8) : IntKind.i64.wrap (IntKind.u8.wrap ((BitVec.ofInt IntKind.u8.bits ((c.toNat : Nat) : Int) &&& BitVec.ofInt IntKind.u8.bits 127).toNat : Int)) = ((c.toNat % 128 : Nat) : Int) := by
  have : ∀ k : Fin 256, IntKind.i64.wrap (IntKind.u8.wrap ((BitVec.ofInt IntKind.u8.bits ((k.val : Nat) : Int) &&& BitVec.ofInt IntKind.u8.bits 127).toNat : Int)) = ((k.val % 128 : Nat) : Int) := by decide
  exact this ⟨c.toNat, c.toNat_lt⟩
theorem bits64 : IntKind.i64.bits = 64 := rfl
theorem wrap64 {n : Int} (h : -9223372036854775808 ≤ n ∧ n ≤ 9223372036854775807) : IntKind.i64.wrap n = n := IntWalk.i64_in _ h
/-- The next group, put behind the others. -/
theorem or_group {i a g : Nat} (hi : i < 8) (ha : a < 128 ^ i) (hg : g < 128) :
    IntKind.i64.wrap ((BitVec.ofInt IntKind.i64.bits (a : Int) ||| BitVec.ofInt IntKind.i64.bits (IntKind.i64.wrap ((g : Int) * 2 ^ min ((7 : Int) * (i : Int)).toNat IntKind.i64.bits))).toNat : Int) = ((a + 128 ^ i * g : Nat) : Int) := by
  have hp : (128 : Nat) ^ i = 2 ^ (7 * i) := by rw [show (128 : Nat) = 2 ^ 7 from rfl, ← Nat.pow_mul]
  have h7 : ((7 : Int) * (i : Int)).toNat = 7 * i := by omega
  have hmin : min (7 * i) IntKind.i64.bits = 7 * i := by rw [bits64]; omega
  have hle : 128 ^ i ≤ 128 ^ 7 := Nat.pow_le_pow_right (by omega) (by omega)
  have hb : 128 ^ i * g ≤ 128 ^ 7 * 127 := Nat.mul_le_mul hle (by omega)
  have hcast : ((g : Int) * 2 ^ (7 * i)) = ((2 ^ (7 * i) * g : Nat) : Int) := by push_cast; rw [Int.mul_comm]
  rw [h7, hmin, hcast, ← hp, wrap64 (n := ((128 ^ i * g : Nat) : Int)) (by constructor <;> omega)]
  rw [BitVec.ofInt_natCast, BitVec.ofInt_natCast, BitVec.toNat_or, BitVec.toNat_ofNat, BitVec.toNat_ofNat, bits64, Nat.mod_eq_of_lt (by omega), Nat.mod_eq_of_lt (by omega)]
  have hor : a ||| 128 ^ i * g = a + 128 ^ i * g := by
    rw [hp, Nat.or_comm, ← Nat.two_pow_add_eq_or_of_lt (by rw [← hp]; exact ha), Nat.add_comm]
  rw [hor, wrap64 (by constructor <;> omega)]

/- The loop of 'number'. -/
def NumInv (b : List UInt8) (A i : Nat) : Prop := num 8 b = (num (8 - i) (b.drop i)).map fun q => (A + 128 ^ i * q.1, q.2)
theorem drop_of_get {b : List UInt8} {i : Nat} {c : UInt8} (h : b[i]? = some c) : b.drop i = c :: b.drop (i + 1) := by
  obtain ⟨h1, h2⟩ := List.getElem?_eq_some_iff.1 h
  rw [List.drop_eq_getElem_cons h1, h2]
theorem num_cons (f : Nat) (c : UInt8) (r : List UInt8) : num (f + 1) (c :: r) = if c.toNat < 128 then some (c.toNat, r) else (num f r).map fun p => (c.toNat % 128 + 128 * p.1, p.2) := rfl
theorem num_next {b : List UInt8} {A i : Nat} {c : UInt8} (h8 : i < 8) (hA : A < 128 ^ i) (hc : b[i]? = some c) (hge : ¬ (c.toNat : Int) < 128)
    (hx : num 8 b = (num (8 - i) (b.drop i)).map fun q => (A + 128 ^ i * q.1, q.2)) :
    i + 1 ≤ 8 ∧ i + 1 ≤ b.length ∧ A + 128 ^ i * (c.toNat % 128) < 128 ^ (i + 1) ∧ num 8 b = (num (8 - (i + 1)) (b.drop (i + 1))).map fun q => (A + 128 ^ i * (c.toNat % 128) + 128 ^ (i + 1) * q.1, q.2) := by
  have hlt := (List.getElem?_eq_some_iff.1 hc).1
  refine ⟨by omega, by omega, ?_, ?_⟩
  · have h1 : 128 ^ i * (c.toNat % 128) ≤ 128 ^ i * 127 := Nat.mul_le_mul_left _ (by omega)
    rw [Nat.pow_succ]; omega
  · rw [hx, drop_of_get hc, show 8 - i = (8 - (i + 1)) + 1 by omega]
    rw [num_cons, if_neg (by omega)]
    cases hn : num (8 - (i + 1)) (b.drop (i + 1)) with
    | none => simp
    | some p =>
      simp only [Option.map_some, Option.some.injEq, Prod.mk.injEq, and_true]
      rw [Nat.mul_add, Nat.pow_succ, Nat.mul_assoc (128 ^ i) 128]; omega
theorem num_found {r : Rd} {A i : Nat} {c : UInt8} (h8 : i < 8) (hA : A < 128 ^ i) (hc : r.b[i]? = some c) (hlt : (c.toNat : Int) < 128)
    (hx : num 8 r.b = (num (8 - i) (r.b.drop i)).map fun q => (A + 128 ^ i * q.1, q.2)) : rdNum r = (A + 128 ^ i * (c.toNat % 128), ⟨r.b.drop (i + 1), r.bad⟩) := by
  have : num 8 r.b = some (A + 128 ^ i * (c.toNat % 128), r.b.drop (i + 1)) := by
    rw [hx, drop_of_get hc, show 8 - i = (8 - (i + 1)) + 1 by omega]
    rw [num_cons, if_pos (by omega)]
    simp only [Option.map_some, Option.some.injEq, Prod.mk.injEq, and_true]
    rw [Nat.mod_eq_of_lt (by omega)]
  unfold rdNum; rw [this]
theorem num_fail {r : Rd} {A i : Nat} {m : Nat → Option Nat} (h : i = 8 ∨ r.b.length ≤ i) (hx : num 8 r.b = (num (8 - i) (r.b.drop i)).map fun q => (A + 128 ^ i * q.1, q.2)) (hm : m 0 = some 0 := by rfl) :
    iv 0 = iv (rdNum r).1 ∧ [AObj.mk 68 true false 2 [.agg [.sl 1 (bytesAV r.b), .val (.bool true)]]] = [rdO (rdNum r).2] ∧ m 0 = some 0 := by
  have : num 8 r.b = none := by
    rw [hx]
    rcases h with h | h
    · subst h; rfl
    · rw [List.drop_eq_nil_of_le h]; cases (8 - i) <;> rfl
  unfold rdNum; rw [this]
  exact ⟨rfl, rfl, hm⟩
end Go.Proofs.Ytjalgcjllddmhaa
namespace Go.Proofs.Ytjalgcjllddmhaa
open Go.Av
def bs (l : List UInt8) : ByteArray := ⟨l.toArray⟩
def noS : ByteArray := ⟨#[]⟩
def rdVal (r : Rd) : Val × Rd :=
  let p := rdNum r
  if p.1 = 3 then let q := rdText p.2; (⟨3, 0, bs q.1⟩, q.2)
  else if p.1 = 2 then let q := rdNum p.2; (⟨2, if q.1 % 2 = 1 then -((q.1 / 2 : Nat) : Int) - 1 else ((q.1 / 2 : Nat) : Int), noS⟩, q.2)
  else let q := rdNum p.2; (⟨p.1, q.1, noS⟩, q.2)
def rdVals (n : Nat) (acc : List Val) (r : Rd) : List Val × Rd :=
  if n = 0 ∨ r.bad = true ∨ 8 < acc.length then (acc, r) else rdVals (n - 1) (acc ++ [(rdVal r).1]) (rdVal r).2
termination_by n
decreasing_by omega
theorem rdText_len (r : Rd) : (rdText r).2.b.length ≤ r.b.length := by
  have h1 := rdNum_len r
  have h2 := (rdTake_len (rdNum r).1 (rdNum r).2).1
  unfold rdText; dsimp only; omega
theorem rdVal_len (r : Rd) : (rdVal r).2.b.length ≤ r.b.length := by
  have h1 := rdNum_len r
  have h2 := rdNum_len (rdNum r).2
  have h3 := rdText_len (rdNum r).2
  unfold rdVal; dsimp only
  split
  · dsimp only; omega
  · split <;> (dsimp only; omega)
def rdCmd (r : Rd) : Cmd × Rd :=
  let a := rdNum r
  let b := rdNum a.2
  let c := rdNum b.2
  let d := rdText c.2
  let e := rdText d.2
  let f := rdText e.2
  let g := rdNum f.2
  let v := rdVals g.1 [] g.2
  (⟨a.1, b.1, c.1, bs d.1, bs e.1, bs f.1, v.1⟩, v.2)
theorem rdVals_end {n : Nat} {acc : List Val} {r : Rd} (h : n = 0 ∨ r.bad = true ∨ 8 < acc.length) : rdVals n acc r = (acc, r) := by rw [rdVals, if_pos h]
theorem rdVals_step {n : Nat} {acc : List Val} {r : Rd} (h : ¬ (n = 0 ∨ r.bad = true ∨ 8 < acc.length)) : rdVals n acc r = rdVals (n - 1) (acc ++ [(rdVal r).1]) (rdVal r).2 := by rw [rdVals, if_neg h]
theorem rdVal_3 {r : Rd} (h : ((rdNum r).1 : Int) = 3) : rdVal r = (⟨3, 0, bs (rdText (rdNum r).2).1⟩, (rdText (rdNum r).2).2) := by
  unfold rdVal; dsimp only; rw [if_pos (by omega)]
theorem rdVal_odd {r : Rd} (h : ((rdNum r).1 : Int) = 2) (ho : ((rdNum (rdNum r).2).1 : Int) % 2 = 1) : rdVal r = (⟨2, -((rdNum (rdNum r).2).1 / 2 : Int) - 1, noS⟩, (rdNum (rdNum r).2).2) := by
  unfold rdVal; dsimp only; rw [if_neg (by omega), if_pos (by omega), if_pos (by omega)]; simp
theorem rdVal_even {r : Rd} (h : ((rdNum r).1 : Int) = 2) (ho : ¬ ((rdNum (rdNum r).2).1 : Int) % 2 = 1) : rdVal r = (⟨2, ((rdNum (rdNum r).2).1 / 2 : Int), noS⟩, (rdNum (rdNum r).2).2) := by
  unfold rdVal; dsimp only; rw [if_neg (by omega), if_pos (by omega), if_neg (by omega)]; simp
theorem rdVal_else {r : Rd} (h3 : ¬ ((rdNum r).1 : Int) = 3) (h2 : ¬ ((rdNum r).1 : Int) = 2) : rdVal r = (⟨(rdNum r).1, (rdNum (rdNum r).2).1, noS⟩, (rdNum (rdNum r).2).2) := by
  unfold rdVal; dsimp only; rw [if_neg (by omega), if_neg (by omega)]
theorem quo2 {q : Nat} (h : q < 2 ^ 56) : IntKind.i64.wrap ((q : Int).tdiv 2) = (q : Int) / 2 := by
  rw [Int.tdiv_eq_ediv_of_nonneg (by omega), wrap64 (by constructor <;> omega)]
theorem neg2 {q : Nat} (h : q < 2 ^ 56) : IntKind.i64.wrap (IntKind.i64.wrap (0 - (q : Int) / 2) - 1) = -((q : Int) / 2) - 1 := by
  rw [wrap64 (n := 0 - (q : Int) / 2) (by constructor <;> omega), wrap64 (by constructor <;> omega)]; omega
end Go.Proofs.Ytjalgcjllddmhaa

/- A text of the proof of JournalTorn: JTorn -/
import Derived.Test.YtjalgcjllddmhaaJInv
/- What is torn, plain: one byte changed is seen by the check sum. -/
namespace Go.Proofs.Ytjalgcjllddmhaa
open Go.Av

/- ### the check sum -/
theorem and_one (x : BitVec 32) : (x &&& 1#32).toNat = x.toNat % 2 := by
  rw [BitVec.toNat_and]; show x.toNat &&& 1 = _; exact Nat.and_one_is_mod _
theorem shr_inj {x y : BitVec 32} (h : x >>> 1 = y >>> 1) (h2 : x.toNat % 2 = y.toNat % 2) : x = y := by
  have h3 := congrArg BitVec.toNat h
  simp only [BitVec.toNat_ushiftRight, Nat.shiftRight_eq_div_pow, Nat.pow_one] at h3
  apply BitVec.eq_of_toNat_eq; omega
theorem msb_shr (x : BitVec 32) : (x >>> 1).msb = false := by
  rw [BitVec.msb_eq_decide, decide_eq_false_iff_not]
  simp only [BitVec.toNat_ushiftRight, Nat.shiftRight_eq_div_pow, Nat.pow_one]
  have := x.isLt
  omega
theorem no_mix {x y : BitVec 32} (h : (x >>> 1) ^^^ 3988292384#32 = y >>> 1) : False := by
  have h1 := congrArg BitVec.msb h
  rw [BitVec.msb_xor, msb_shr, msb_shr] at h1
  revert h1; decide
theorem crcBit_inj {x y : BitVec 32} (h : crcBit x = crcBit y) : x = y := by
  unfold crcBit at h
  rw [and_one, and_one] at h
  by_cases hx : x.toNat % 2 = 1 <;> by_cases hy : y.toNat % 2 = 1
  · rw [if_pos hx, if_pos hy] at h
    exact shr_inj ((BitVec.xor_left_inj _).1 h) (by omega)
  · rw [if_pos hx, if_neg hy] at h; exact (no_mix h).elim
  · rw [if_neg hx, if_pos hy] at h; exact (no_mix h.symm).elim
  · rw [if_neg hx, if_neg hy] at h; exact shr_inj h (by omega)
theorem crcBits_inj : ∀ (n : Nat) {x y : BitVec 32}, crcBits n x = crcBits n y → x = y
  | 0, _, _, h => h
  | n + 1, _, _, h => crcBits_inj n (crcBit_inj h)
theorem crcByte_inj {x y : BitVec 32} {c : UInt8} (h : crcByte x c = crcByte y c) : x = y := (BitVec.xor_left_inj _).1 (crcBits_inj 8 h)
theorem crcByte_inj2 {x : BitVec 32} {c d : UInt8} (h : crcByte x c = crcByte x d) : c = d := by
  have h1 := (BitVec.xor_right_inj _).1 (crcBits_inj 8 h)
  have h2 := congrArg BitVec.toNat h1
  have := c.toNat_lt; have := d.toNat_lt
  rw [BitVec.toNat_ofNat, BitVec.toNat_ofNat, Nat.mod_eq_of_lt (by omega), Nat.mod_eq_of_lt (by omega)] at h2
  exact UInt8.toNat_inj.1 h2
theorem fold_inj : ∀ (l : List UInt8) {x y : BitVec 32}, l.foldl crcByte x = l.foldl crcByte y → x = y
  | [], _, _, h => h
  | _ :: l, _, _, h => crcByte_inj (fold_inj l h)
theorem crc_one {p q : List UInt8} {x y : UInt8} (h : crc (p ++ x :: q) = crc (p ++ y :: q)) : x = y := by
  unfold crc at h
  rw [List.foldl_append, List.foldl_append, List.foldl_cons, List.foldl_cons] at h
  exact crcByte_inj2 (fold_inj q h)
theorem sum_inj {l m : List UInt8} (h : sum l = sum m) : crc l = crc m := by
  unfold sum at h
  have h2 := BitVec.eq_of_toNat_eq h
  have h3 := congrArg (fun x => ~~~ x) h2
  simpa using h3
theorem le32_inj {a b : Nat} (ha : a < 2 ^ 32) (hb : b < 2 ^ 32) (h : le32 a = le32 b) : a = b := by
  simp only [le32, List.cons.injEq, and_true] at h
  obtain ⟨h1, h2, h3, h4⟩ := h
  have e : ∀ m n : Nat, UInt8.ofNat m = UInt8.ofNat n → m % 256 = n % 256 := fun m n h => by simpa using congrArg UInt8.toNat h
  have h1 := e _ _ h1; have h2 := e _ _ h2; have h3 := e _ _ h3; have h4 := e _ _ h4
  omega

theorem set_split {α : Type} {l : List α} {k : Nat} {b c : α} (h : l[k]? = some b) : l = l.take k ++ b :: l.drop (k + 1) ∧ l.set k c = l.take k ++ c :: l.drop (k + 1) := by
  obtain ⟨h1, h2⟩ := List.getElem?_eq_some_iff.1 h
  constructor
  · rw [← h2]; simp
  · rw [List.set_eq_take_append_cons_drop, if_pos h1]

theorem record_small {c : Cmd} (h : (record c).length < 128) : record c = UInt8.ofNat (code c).length :: (code c ++ le32 (sum (body c))) ∧ (code c).length < 124 := by
  have h4 : (le32 (sum (body c))).length = 4 := rfl
  have e1 : record c = enc (code c).length ++ (code c ++ le32 (sum (body c))) := by simp [record, body]
  have h1 := congrArg List.length e1
  simp only [List.length_append] at h1
  have := enc_pos (code c).length
  rw [e1, enc_lt (by omega)]
  exact ⟨rfl, by omega⟩
theorem record_two (c : Cmd) : 5 ≤ (record c).length := by
  have h4 : (le32 (sum (body c))).length = 4 := rfl
  have := enc_pos (code c).length
  have hr : record c = body c ++ le32 (sum (body c)) := rfl
  have hb : body c = enc (code c).length ++ code c := rfl
  rw [hr, List.length_append, h4, hb, List.length_append]; omega

/-- A short record with one byte changed behind its length. -/
theorem rec1_changed {c : Cmd} {k : Nat} {b b' : UInt8} (hl : (record c).length < 128) (hk : 1 ≤ k) (hb : (record c)[k]? = some b) (hne : b' ≠ b) : rec1 ((record c).set k b') = none := by
  cases hr : rec1 ((record c).set k b') with
  | none => rfl
  | some p =>
    exfalso
    obtain ⟨d, n⟩ := p
    obtain ⟨m, t, h1, h2, h3, h5, h6⟩ := rec1_facts hr
    obtain ⟨e1, h7⟩ := record_small hl
    obtain ⟨j, rfl⟩ : ∃ j, k = j + 1 := ⟨k - 1, by omega⟩
    have h4 : (le32 (sum (body c))).length = 4 := rfl
    have e2 : (record c).set (j + 1) b' = UInt8.ofNat (code c).length :: (code c ++ le32 (sum (body c))).set j b' := by rw [e1, List.set_cons_succ]
    have h8 : num 8 ((record c).set (j + 1) b') = some ((code c).length, (code c ++ le32 (sum (body c))).set j b') := by
      rw [e2, num_cons, if_pos (by rw [ofNat_lt (by omega)]; omega), ofNat_lt (by omega)]
    rw [h8] at h1
    simp only [Option.some.injEq, Prod.mk.injEq] at h1
    obtain ⟨rfl, rfl⟩ := h1
    simp only [List.length_set, List.length_append, h4] at h6
    have h9 : record d = (record c).set (j + 1) b' := by rw [h5, List.take_of_length_le (by rw [List.length_set]; omega)]
    have hlen := congrArg List.length h9
    have hr1 : record c = body c ++ le32 (sum (body c)) := rfl
    have hr2 : record d = body d ++ le32 (sum (body d)) := rfl
    have h10 : (body d).length = (body c).length := by
      rw [List.length_set, hr1, hr2, List.length_append, List.length_append] at hlen
      have : (le32 (sum (body d))).length = 4 := rfl
      omega
    have hbd : body d = ((record c).set (j + 1) b').take (body c).length := by rw [← h9, hr2, ← h10]; simp
    have hld : le32 (sum (body d)) = ((record c).set (j + 1) b').drop (body c).length := by rw [← h9, hr2, ← h10]; simp
    by_cases hc : j + 1 < (body c).length
    · have hb2 : (body c)[j + 1]? = some b := by rw [hr1, List.getElem?_append_left hc] at hb; exact hb
      have hset : (record c).set (j + 1) b' = (body c).set (j + 1) b' ++ le32 (sum (body c)) := by rw [hr1, List.set_append_left _ _ hc]
      rw [hset] at hbd hld
      have hx : (body c).length = ((body c).set (j + 1) b').length := by simp
      rw [hx, List.take_left] at hbd
      rw [hx, List.drop_left] at hld
      have hs := sum_inj (le32_inj (sum_lt _) (sum_lt _) hld)
      obtain ⟨s1, s2⟩ := set_split (c := b') hb2
      rw [hbd, s2] at hs
      have s3 := crc_one (p := (body c).take (j + 1)) (q := (body c).drop (j + 1 + 1)) (x := b') (y := b) (hs.trans (congrArg crc s1))
      exact hne s3
    · have hset : (record c).set (j + 1) b' = body c ++ (le32 (sum (body c))).set (j + 1 - (body c).length) b' := by rw [hr1, List.set_append_right _ _ (by omega)]
      rw [hset, List.take_left] at hbd
      have h11 : record d = record c := by rw [hr2, hr1, hbd]
      rw [h11] at h9
      have h12 := congrArg (fun l => l[j + 1]?) h9
      have hlt := (List.getElem?_eq_some_iff.1 hb).1
      simp only [hb, List.getElem?_set_self hlt, Option.some.injEq] at h12
      exact hne h12.symm

/-- A store whose bytes end in no record. -/
structure InvR (s : Sto) (done : List Cmd) (tail : List UInt8) : Prop where
  bytes : s.bytes = flatR done ++ tail
  none : rec1 tail = .none
  dur : s.durable = (flatR done).length
  tl : tail.length ≤ 2013
  aft : s.after = -1
  form : ∀ c ∈ done, formed c = true
  len : done.length ≤ 90
namespace InvR
variable {s : Sto} {done : List Cmd} {tail : List UInt8} {c : Cmd}
theorem recs (h : InvR s done tail) : recs s.bytes [] 0 = (done, (flatR done).length) := by
  rw [h.bytes]; exact recs_of h.none h.form (by have := h.len; omega)
theorem sizes (h : InvR s done tail) : (s.bytes.length : Int) = s.durable + tail.length ∧ 0 ≤ s.durable ∧ s.durable ≤ 201300 ∧ tail.length ≤ 2013 ∧ s.durable = (flatR done).length := by
  have h1 := flatR_length h.form
  have h2 := h.len
  have h3 := h.tl
  have h4 := h.dur
  have h5 := congrArg List.length h.bytes
  rw [List.length_append] at h5
  have : 2013 * done.length ≤ 2013 * 90 := Nat.mul_le_mul_left _ h2
  omega
theorem valid (h : InvR s done tail) : valid s = true := by
  have := h.sizes
  have h1 := h.aft
  rw [valid_yes (by omega), h.recs]
  simp [h.dur]
theorem read (h : InvR s done tail) : read s = (done, 0) := by
  unfold Ytjalgcjllddmhaa.read; rw [if_pos h.valid, h.recs]
theorem write (h : InvR s done tail) (hc : formed c = true) : write s c = (⟨flatR done ++ record c, (flatR done ++ record c).length, -1⟩, 0) := by
  have hs := h.sizes
  have hr := record_length hc
  have ha := h.aft
  have hl := h.len
  have ht : s.bytes.take (flatR done).length = flatR done := by rw [h.bytes]; simp
  unfold Ytjalgcjllddmhaa.write
  rw [if_neg (by simp [h.valid, hc]), if_neg (by omega)]
  dsimp only
  rw [h.recs]
  dsimp only
  rw [if_neg (by omega), if_neg (by omega), if_neg (by omega), ht, ha]
theorem new : InvR ⟨[], 0, -1⟩ [] [] := ⟨rfl, rec1_nil, rfl, by simp, rfl, by simp, by simp⟩
theorem snoc (h : InvR s done tail) (hc : formed c = true) (hl : done.length < 90) : InvR ⟨flatR done ++ record c, (flatR done ++ record c).length, -1⟩ (done ++ [c]) [] :=
  ⟨by simp [flatR_snoc], rec1_nil, by simp [flatR_snoc], by simp, rfl, fun d hd => by
    rcases List.mem_append.1 hd with hd | hd
    · exact h.form d hd
    · simp at hd; rw [hd]; exact hc, by simp; omega⟩
theorem cases (h : InvR s done []) (hl : done.length < 90) (c : Cmd) :
    (formed c = false ∧ Ytjalgcjllddmhaa.write s c = (zeroSto, 1)) ∨ (formed c = true ∧ ∃ s', Ytjalgcjllddmhaa.write s c = (s', 0) ∧ InvR s' (done ++ [c]) [] ∧ s'.bytes = s.bytes ++ record c ∧ s'.bytes.drop s.bytes.length = record c ∧ (s'.bytes.length : Int) = s.bytes.length + (record c).length) := by
  cases hc : formed c with
  | false => exact .inl ⟨rfl, Inv.notFormed hc⟩
  | true =>
    have hb : s.bytes = flatR done := by rw [h.bytes]; simp
    refine .inr ⟨rfl, _, h.write hc, h.snoc hc hl, ?_, ?_, ?_⟩
    · rw [hb]
    · rw [hb]; simp
    · rw [hb]; simp
/-- The store with other bytes behind its records. -/
theorem behind (h : InvR s done []) {t : List UInt8} (ht : rec1 t = .none) (hl : t.length ≤ 2013) : InvR ⟨s.bytes ++ t, s.durable, -1⟩ done t :=
  ⟨by rw [h.bytes]; simp, ht, h.dur, hl, rfl, h.form, h.len⟩
theorem again {t : List UInt8} {f : Sto} (h : InvR s done []) (hx : InvR f done t) (hc : formed c = true) : ∃ z, Ytjalgcjllddmhaa.write f c = (z, 0) ∧ z.bytes = s.bytes ++ record c := by
  refine ⟨_, hx.write hc, ?_⟩
  have hb : s.bytes = flatR done := by rw [h.bytes]; simp
  rw [hb]
end InvR
theorem xor8 (b : UInt8) {n : Int} (h : 0 ≤ n ∧ n < 256) : IntKind.u8.wrap ((BitVec.ofInt IntKind.u8.bits (b.toNat : Int) ^^^ BitVec.ofInt IntKind.u8.bits n).toNat : Int) = ((b ^^^ UInt8.ofNat n.toNat).toNat : Int) := by
  obtain ⟨m, rfl⟩ : ∃ m : Nat, n = m := ⟨n.toNat, by omega⟩
  show IntKind.u8.wrap ((BitVec.ofInt 8 (b.toNat : Int) ^^^ BitVec.ofInt 8 (m : Int)).toNat : Int) = _
  rw [BitVec.ofInt_natCast, BitVec.ofInt_natCast]
  have h1 : (BitVec.ofNat 8 b.toNat ^^^ BitVec.ofNat 8 m).toNat = (b ^^^ UInt8.ofNat m).toNat := by
    rw [BitVec.toNat_xor, UInt8.toNat_xor, BitVec.toNat_ofNat, BitVec.toNat_ofNat]
    have := b.toNat_lt
    rw [Nat.mod_eq_of_lt (by omega), Nat.mod_eq_of_lt (by omega), ofNat_lt (by omega)]
  rw [h1, Int.toNat_natCast]
  have := (b ^^^ UInt8.ofNat m).toNat_lt
  simp only [IntKind.wrap, show IntKind.u8.bits = 8 from rfl, show IntKind.u8.signed = false from rfl, Bool.false_and, Bool.false_eq_true, if_false]
  omega
theorem xor_ne (b : UInt8) {n : Int} (h : 0 ≤ n ∧ n < 256) (h0 : ¬ n = 0) : b ^^^ UInt8.ofNat n.toNat ≠ b := by
  intro e
  have h1 : b ^^^ (b ^^^ UInt8.ofNat n.toNat) = b ^^^ b := by rw [e]
  rw [← UInt8.xor_assoc, UInt8.xor_self, UInt8.zero_xor] at h1
  have h2 := congrArg UInt8.toNat h1
  rw [ofNat_lt (by omega)] at h2
  have h3 : (0 : UInt8).toNat = 0 := rfl
  rw [h3] at h2; omega
theorem set_bytes (l : List UInt8) (k : Nat) (x : UInt8) : (bytesAV l).set k (.val (.int .u8 x.toNat)) = bytesAV (l.set k x) := by
  simp [bytesAV, List.map_set]
end Go.Proofs.Ytjalgcjllddmhaa
namespace Go.Proofs.Ytjalgcjllddmhaa
open Go.Av
theorem own_all (l : List UInt8) {n : Nat} (h : l.length ≤ n) : ((bytesAV l).drop 0).take n = bytesAV l := by rw [List.drop_zero, List.take_of_length_le (by simpa using h)]
theorem own_pre (l : List UInt8) (n : Nat) : ((bytesAV l).drop 0).take n = bytesAV (l.take n) := by rw [List.drop_zero]; simp [bytesAV, List.map_take]
theorem own_len (l : List UInt8) {n : Nat} (h : n ≤ l.length) : 0 + n ≤ (bytesAV l).length := by simpa using h
end Go.Proofs.Ytjalgcjllddmhaa

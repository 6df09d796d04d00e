/- A text of the proof of JournalTorn: JPlain -/
import Derived.Test.YtjalgcjllddmhaaJAwake
/- What is written is read; what is torn is not. Plain. -/
namespace Go.Proofs.Ytjalgcjllddmhaa
open Go.Av

/- ### numbers -/
theorem ofNat_lt {n : Nat} (h : n < 256) : (UInt8.ofNat n).toNat = n := by simp; omega
theorem num_enc : ∀ (f n : Nat) (t : List UInt8), n < 128 ^ (f + 1) → num (f + 1) (enc n ++ t) = some (n, t)
  | 0, n, t, h => by
    have h' : n < 128 := by simpa using h
    rw [enc_lt h']
    simp only [List.singleton_append, num_cons]
    rw [if_pos (by rw [ofNat_lt (by omega)]; exact h'), ofNat_lt (by omega)]
  | f + 1, n, t, h => by
    by_cases h1 : n < 128
    · rw [enc_lt h1]
      simp only [List.singleton_append, num_cons]
      rw [if_pos (by rw [ofNat_lt (by omega)]; exact h1), ofNat_lt (by omega)]
    · rw [enc_ge (by omega), List.cons_append, num_cons, if_neg (by rw [ofNat_lt (by omega)]; omega)]
      rw [num_enc f (n / 128) t (by rw [Nat.pow_succ] at h; omega)]
      simp only [Option.map_some, Option.some.injEq, Prod.mk.injEq, and_true]
      rw [ofNat_lt (by omega)]; omega
theorem rdNum_enc {n : Nat} (h : n < 2 ^ 56) (t : List UInt8) (q : Bool) : rdNum ⟨enc n ++ t, q⟩ = (n, ⟨t, q⟩) := by
  unfold rdNum
  rw [num_enc 7 n t (by simpa using h)]
theorem num_more : ∀ (f : Nat) (l s t : List UInt8) (n : Nat), num f l = some (n, t) → num f (l ++ s) = some (n, t ++ s)
  | 0, _, _, _, _, h => by simp [num] at h
  | f + 1, [], _, _, _, h => by simp [num] at h
  | f + 1, c :: r, s, t, n, h => by
    rw [List.cons_append, num_cons]
    rw [num_cons] at h
    split at h
    · rename_i hc
      rw [if_pos hc]
      simp only [Option.some.injEq, Prod.mk.injEq] at h ⊢
      exact ⟨h.1, by rw [h.2]⟩
    · rename_i hc
      rw [if_neg hc]
      cases hn : num f r with
      | none => simp [hn] at h
      | some p =>
        obtain ⟨m, u⟩ := p
        simp only [hn, Option.map_some, Option.some.injEq, Prod.mk.injEq] at h
        rw [num_more f r s u m hn]
        simp only [Option.map_some, Option.some.injEq, Prod.mk.injEq]
        exact ⟨h.1, by rw [h.2]⟩

/- ### texts, values, commands -/
theorem rdTake_app (l t : List UInt8) : rdTake l.length ⟨l ++ t, false⟩ = (l, ⟨t, false⟩) := by
  unfold rdTake
  rw [if_neg (by simp)]
  simp
theorem bs_toList (s : ByteArray) : bs s.data.toList = s := by
  obtain ⟨⟨l⟩⟩ := s; rfl
theorem rdText_enc {s : ByteArray} (h : s.size < 2 ^ 56) (t : List UInt8) : rdText ⟨encS s ++ t, false⟩ = (s.data.toList, ⟨t, false⟩) := by
  unfold rdText encS
  dsimp only
  rw [List.append_assoc, rdNum_enc h]
  have := rdTake_app s.data.toList t
  rw [size_toList] at this
  exact this
theorem noS_of {s : ByteArray} (h : s.data.toList = []) : s = noS := by
  obtain ⟨⟨l⟩⟩ := s; simp at h; subst h; rfl
theorem rdVal_enc {v : Val} (h : validV v = true) (t : List UInt8) : rdVal ⟨encV v ++ t, false⟩ = (v, ⟨t, false⟩) := by
  obtain ⟨h1, h2, h3, h4, h5, h6⟩ := validV_facts h
  obtain ⟨k, n, s⟩ := v
  dsimp only at *
  unfold validV at h
  dsimp only at h
  unfold encV rdVal
  dsimp only
  rw [List.append_assoc, rdNum_enc (by omega)]
  dsimp only
  by_cases e3 : k = 3
  · subst e3
    simp only [if_pos, if_neg (show ¬ (3 : Int) = 1 by omega), if_neg (show ¬ (3 : Int) = 2 by omega), Bool.and_eq_true, beq_iff_eq] at h
    have hn : n = 0 := h.1
    subst hn
    rw [if_pos (show ((3 : Int).toNat) = 3 by decide), if_pos rfl, rdText_enc (by omega)]
    dsimp only
    rw [bs_toList]
  · rw [if_neg e3, if_neg (show ¬ k.toNat = 3 by omega)]
    by_cases e1 : k = 1
    · subst e1
      simp only [if_pos, Bool.and_eq_true, beq_iff_eq] at h
      have hs := noS_of h.2
      subst hs
      rw [if_pos rfl, if_neg (show ¬ (1 : Int).toNat = 2 by decide), rdNum_enc (by omega)]
      have : ((n.toNat : Nat) : Int) = n := by have := h6 rfl; omega
      simp [this]
    · have e2 : k = 2 := by omega
      subst e2
      simp only [if_neg (show ¬ (2 : Int) = 1 by omega), if_pos, Bool.and_eq_true, beq_iff_eq] at h
      have hs := noS_of h.2
      subst hs
      rw [if_neg (show ¬ (2 : Int) = 1 by omega), if_pos (show (2 : Int).toNat = 2 by decide)]
      by_cases hn : n < 0
      · rw [if_pos hn, rdNum_enc (by omega)]
        dsimp only
        rw [if_pos (show (-2 * n - 1).toNat % 2 = 1 by omega)]
        have : -(((-2 * n - 1).toNat / 2 : Nat) : Int) - 1 = n := by omega
        rw [this]
      · rw [if_neg hn, rdNum_enc (by omega)]
        dsimp only
        rw [if_neg (show ¬ (2 * n).toNat % 2 = 1 by omega)]
        have : (((2 * n).toNat / 2 : Nat) : Int) = n := by omega
        rw [this]
theorem rdVals_enc : ∀ (l acc : List Val) (t : List UInt8), (∀ v ∈ l, validV v = true) → acc.length + l.length ≤ 8 → rdVals l.length acc ⟨l.flatMap encV ++ t, false⟩ = (acc ++ l, ⟨t, false⟩)
  | [], acc, t, _, _ => by rw [rdVals_end (n := ([] : List Val).length) (.inl rfl)]; simp
  | v :: r, acc, t, hv, hl => by
    simp only [List.length_cons] at hl
    rw [rdVals_step (by simp; omega)]
    simp only [List.flatMap_cons, List.append_assoc, List.length_cons, Nat.add_sub_cancel]
    rw [rdVal_enc (hv v (by simp))]
    rw [rdVals_enc r (acc ++ [v]) t (fun v h => hv v (by simp [h])) (by simp; omega)]
    simp
theorem rdCmd_code {c : Cmd} (h : formed c = true) : rdCmd ⟨code c, false⟩ = (c, ⟨[], false⟩) := by
  obtain ⟨h1, h2, h3, h4, h5, h6, h7, h8, h9, h10, h11⟩ := formed_facts h
  have hv := rdVals_enc c.data [] [] h11 (by simp; omega)
  simp only [List.append_nil, List.nil_append] at hv
  unfold rdCmd code head3 head2 head1
  simp only [List.append_assoc]
  rw [rdNum_enc (by omega)]; dsimp only
  rw [rdNum_enc (by omega)]; dsimp only
  rw [rdNum_enc (by omega)]; dsimp only
  rw [rdText_enc (by omega)]; dsimp only
  rw [rdText_enc (by omega)]; dsimp only
  rw [rdText_enc (by omega)]; dsimp only
  rw [rdNum_enc (by omega)]; dsimp only
  rw [hv]; dsimp only
  rw [bs_toList, bs_toList, bs_toList]
  obtain ⟨a1, a2, a3, a4, a5, a6, a7⟩ := c
  dsimp only at *
  congr 2 <;> omega
theorem decode_code {c : Cmd} (h : formed c = true) : decode (code c) = (c, 0) := by
  have := code_length h
  unfold decode
  rw [if_neg (by omega), rdCmd_code h]
  simp [h]

/- ### records -/
theorem rec1_record {c : Cmd} (h : formed c = true) (t : List UInt8) : rec1 (record c ++ t) = some (c, (record c).length) := by
  have hl := code_length h
  have e1 : record c ++ t = enc (code c).length ++ (code c ++ (le32 (sum (body c)) ++ t)) := by simp [record, body]
  have hp : (((code c).length, ⟨code c ++ (le32 (sum (body c)) ++ t), false⟩) : Nat × Rd) = rdNum ⟨record c ++ t, false⟩ := by rw [e1, rdNum_enc (by omega)]
  have hx := (rdTake_app (code c) (le32 (sum (body c)) ++ t)).symm
  have hq := (rdTake_app (le32 (sum (body c))) t).symm
  have h4 : (le32 (sum (body c))).length = 4 := rfl
  rw [h4] at hq
  have hd := decode_code h
  rw [rec1_some_of hp hx hq rfl (by rw [hd]) ?_]
  · simp [hd]
  · simp [hd]

/-- A record is read only where all of it is there. -/
theorem rec1_facts {b : List UInt8} {c : Cmd} {n : Nat} (h : rec1 b = some (c, n)) :
    ∃ m t, num 8 b = some (m, t) ∧ m + 4 ≤ t.length ∧ decode (t.take m) = (c, 0) ∧ record c = b.take n ∧ n + (t.length - m - 4) = b.length := by
  unfold rec1 at h
  dsimp only at h
  unfold rdNum at h
  cases hn : num 8 b with
  | none =>
    exfalso
    rw [hn] at h
    simp [rdTake] at h
  | some p =>
    obtain ⟨m, t⟩ := p
    rw [hn] at h
    dsimp only at h
    have ht := num_len 8 b m t hn
    by_cases h1 : t.length < m
    · exfalso; simp [rdTake, h1] at h
    · simp only [rdTake, Bool.false_eq_true, false_or, if_neg h1] at h
      by_cases h2 : (t.drop m).length < 4
      · exfalso
        simp only [if_pos h2, if_true] at h
        cases h
      · simp only [if_neg h2, if_false, Bool.false_eq_true] at h
        split at h
        · cases h
        · rename_i h3
          simp only [not_or, Classical.not_not, Bool.not_eq_false] at h3
          simp only [Option.some.injEq, Prod.mk.injEq, List.length_drop] at h
          simp only [List.length_drop] at h2 h3
          obtain ⟨h4, h5⟩ := h
          refine ⟨m, t, rfl, by omega, ?_, ?_, by omega⟩
          · rw [← h4, ← h3.1]
          · have := h3.2
            simp only [beq_iff_eq] at this
            rw [← h4, this, ← h5]

theorem rec1_prefix {c : Cmd} (h : formed c = true) {k : Nat} (hk : k < (record c).length) : rec1 ((record c).take k) = none := by
  cases hr : rec1 ((record c).take k) with
  | none => rfl
  | some p =>
    exfalso
    obtain ⟨d, n⟩ := p
    obtain ⟨m, t, h1, h2, _, _, _⟩ := rec1_facts hr
    have h3 := num_more 8 _ ((record c).drop k) t m h1
    rw [List.take_append_drop] at h3
    have hl := code_length h
    have e1 : record c = enc (code c).length ++ (code c ++ le32 (sum (body c))) := by simp [record, body]
    have h4 := num_enc 7 (code c).length (code c ++ le32 (sum (body c))) (by omega)
    rw [← e1] at h4
    have h4' : num 8 (record c) = _ := h4
    rw [h4'] at h3
    simp only [Option.some.injEq, Prod.mk.injEq] at h3
    have h5 := congrArg List.length h3.2
    simp only [List.length_append, List.length_drop] at h5
    have h6 : (le32 (sum (body c))).length = 4 := rfl
    omega

def flatR (l : List Cmd) : List UInt8 := l.flatMap record
theorem flatR_snoc (l : List Cmd) (c : Cmd) : flatR (l ++ [c]) = flatR l ++ record c := by simp [flatR]
theorem recs_flat {tail : List UInt8} (ht : rec1 tail = none) : ∀ (l : List Cmd) (p : List UInt8) (out : List Cmd), (∀ c ∈ l, formed c = true) → out.length + l.length ≤ 1000 →
    recs (p ++ (flatR l ++ tail)) out p.length = (out ++ l, p.length + (flatR l).length)
  | [], p, out, _, _ => by
    rw [recs_none (by simpa [flatR] using ht)]; simp [flatR]
  | c :: r, p, out, hf, hl => by
    simp only [List.length_cons] at hl
    have e1 : flatR (c :: r) = record c ++ flatR r := by simp [flatR]
    have hr : rec1 ((p ++ (flatR (c :: r) ++ tail)).drop p.length) = some (c, (record c).length) := by
      rw [List.drop_left, e1, List.append_assoc]; exact rec1_record (hf c (by simp)) _
    rw [recs_some (by omega) hr]
    have ih := recs_flat ht r (p ++ record c) (out ++ [c]) (fun c h => hf c (by simp [h])) (by simp; omega)
    rw [List.length_append] at ih
    rw [show p ++ (flatR (c :: r) ++ tail) = p ++ record c ++ (flatR r ++ tail) by rw [e1]; simp, ih, e1]
    simp [Nat.add_assoc]
theorem recs_of {l : List Cmd} {tail : List UInt8} (ht : rec1 tail = none) (hf : ∀ c ∈ l, formed c = true) (hl : l.length ≤ 1000) : recs (flatR l ++ tail) [] 0 = (l, (flatR l).length) := by
  have := recs_flat ht l [] [] hf (by simpa using hl)
  simpa using this
theorem flatR_length : ∀ {l : List Cmd}, (∀ c ∈ l, formed c = true) → (flatR l).length ≤ 2013 * l.length
  | [], _ => by simp [flatR]
  | c :: r, h => by
    have h1 := record_length (h c (by simp))
    have h2 := flatR_length (l := r) (fun c hc => h c (by simp [hc]))
    have : flatR (c :: r) = record c ++ flatR r := by simp [flatR]
    rw [this, List.length_append, List.length_cons]; omega
theorem rec1_nil : rec1 [] = none := by decide
end Go.Proofs.Ytjalgcjllddmhaa

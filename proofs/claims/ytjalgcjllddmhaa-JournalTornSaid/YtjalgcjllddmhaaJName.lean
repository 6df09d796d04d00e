/- A text of the proof of JournalTorn: JName -/
import Derived.Test.YtjalgcjllddmhaaJRead
/- Names and searches, plain. -/
namespace Go.Proofs.Ytjalgcjllddmhaa
open Go.Av

theorem isName_len {s : ByteArray} (h : (s.size : Int) < 1 ∨ 40 < (s.size : Int)) : isName s.data.toList = false := by
  have := size_toList s
  simp only [isName, Bool.and_eq_false_iff, decide_eq_false_iff_not]
  omega
theorem isName_head {s : ByteArray} (h : (!isLetter ((s.data.toList.getD 0 0).toNat)) = true) : isName s.data.toList = false := by
  have : s.data.toList.headD 0 = s.data.toList.getD 0 0 := by cases s.data.toList <;> rfl
  simp only [Bool.not_eq_true'] at h
  simp only [isName, this, h, Bool.and_false, Bool.false_and]
theorem isName_part {s : ByteArray} {k : Nat} (hk : (k : Int) < s.size) (h : (!isPart ((s.data.toList.getD k 0).toNat)) = true) : isName s.data.toList = false := by
  have hl := size_toList s
  have hk' : k < s.data.toList.length := by omega
  have hall : s.data.toList.all (fun b => isPart b.toNat) = false := by
    rw [List.all_eq_false]
    refine ⟨s.data.toList[k], List.getElem_mem hk', ?_⟩
    have : s.data.toList.getD k 0 = s.data.toList[k] := by rw [List.getD_eq_getElem?_getD, List.getElem?_eq_getElem hk']; rfl
    rw [this] at h; simpa using h
  simp only [isName, hall, Bool.and_false]
theorem isName_ok {s : ByteArray} {k : Nat} (h1 : ¬ (s.size : Int) < 1) (h2 : ¬ 40 < (s.size : Int)) (hh : (!isLetter ((s.data.toList.getD 0 0).toNat)) = false) (hk : ¬ (k : Int) < s.size)
    (hall : ∀ (j : Nat) (b : UInt8), j < k → s.data.toList[j]? = some b → isPart b.toNat = true) : isName s.data.toList = true := by
  have hl := size_toList s
  have he : s.data.toList.headD 0 = s.data.toList.getD 0 0 := by cases s.data.toList <;> rfl
  have ha : s.data.toList.all (fun b => isPart b.toNat) = true := by
    rw [List.all_eq_true]
    intro b hb
    obtain ⟨j, hj⟩ := List.getElem?_of_mem hb
    have := (List.getElem?_eq_some_iff.1 hj).1
    exact hall j b (by omega) hj
  simp only [Bool.not_eq_false'] at hh
  simp only [isName, he, hh, ha, Bool.and_true, Bool.and_eq_true, decide_eq_true_eq]
  omega

section
variable {α : Type} {l : List α} {p : α → Bool} {k : Nat} {x : α}
theorem any_next (hx : l[k]? = some x) (hp : p x = false) (h : (l.take k).any p = false) : (l.take (k + 1)).any p = false := by
  rw [List.take_add_one, List.any_append, h, hx]; simp [hp]
theorem any_end (h : (l.take k).any p = false) (hk : ¬ (k : Int) < l.length) : (∃ n : Int, AV.val (.int .i64 (-1)) = iv n ∧ decide (0 ≤ n) = l.any p) := by
  refine ⟨-1, rfl, ?_⟩
  rw [List.take_of_length_le (by omega)] at h
  rw [h]; rfl
theorem any_found (hx : l[k]? = some x) (hp : p x = true) : (∃ n : Int, AV.val (.int .i64 (k : Int)) = iv n ∧ decide (0 ≤ n) = l.any p) := by
  refine ⟨k, rfl, ?_⟩
  have : l.any p = true := List.any_eq_true.2 ⟨x, List.mem_of_getElem? hx, hp⟩
  rw [this]; simp
end

def cmdsAV (l : List Cmd) : List AV := l.map cmdAV
end Go.Proofs.Ytjalgcjllddmhaa
namespace Go.Proofs.Ytjalgcjllddmhaa
open Go.Av
theorem ba_loop (s : ByteArray) : ∀ (k i : Nat) (r : List UInt8), s.size - i = k → ByteArray.toList.loop s i r = r.reverse ++ s.data.toList.drop i
  | 0, i, r, h => by
    unfold ByteArray.toList.loop
    rw [if_neg (by omega), List.drop_of_length_le (by rw [size_toList]; omega), List.append_nil]
  | k + 1, i, r, h => by
    have hi : i < s.data.toList.length := by rw [size_toList]; omega
    unfold ByteArray.toList.loop
    rw [if_pos (by omega), ba_loop s k (i + 1) _ (by omega), List.drop_eq_getElem_cons hi]
    have : s.get! i = s.data.toList[i] := by
      have hd : i < s.data.size := by simpa using hi
      show s.data[i]! = _
      rw [getElem!_pos s.data i hd, Array.getElem_toList]
    simp [this]
theorem ba_toList (s : ByteArray) : s.toList = s.data.toList := by
  have := ba_loop s _ 0 [] rfl
  simpa [ByteArray.toList] using this
theorem emptyS (s : ByteArray) : (s.toList == (ByteArray.mk #[]).toList) = (s.data.toList == []) := by
  rw [ba_toList, ba_toList]
theorem nameB_1 {s : ByteArray} (h : (!isName s.data.toList) = false) : nameB s = true := by
  have : isName s.data.toList = true := by simpa using h
  simp only [nameB, this, Bool.or_true]
theorem nameB_2 {s : ByteArray} (h : (!(s.toList == (ByteArray.mk #[]).toList)) = false) : nameB s = true := by
  rw [emptyS] at h
  have : (s.data.toList == []) = true := by simpa using h
  simp only [nameB, this, Bool.true_or]
theorem names_next {l : List ByteArray} {k : Nat} {s : ByteArray} (hs : l[k]? = some s) (h : ∀ (j : Nat) (s : ByteArray), j < k → l[j]? = some s → nameB s = true) (hn : nameB s = true) :
    ∀ (j : Nat) (s : ByteArray), j < k + 1 → l[j]? = some s → nameB s = true := by
  intro j t hj ht
  rcases Nat.lt_or_eq_of_le (Nat.le_of_lt_succ hj) with h1 | h1
  · exact h j t h1 ht
  · subst h1; rw [hs] at ht; cases ht; exact hn
theorem formed_no_len {c : Cmd} (h : 8 < (c.data.length : Int)) : formed c = false := by
  have : decide (c.data.length ≤ 8) = false := decide_eq_false (by omega)
  simp only [formed, this, Bool.and_false, Bool.false_and]
theorem formed_no_range {c : Cmd} (h : c.kind < 1 ∨ 7 < c.kind ∨ c.trans < 0 ∨ 60 ≤ c.trans ∨ c.time < 0 ∨ 1099511627776 < c.time) : formed c = false := by
  cases hf : formed c with
  | false => rfl
  | true => have := formed_facts hf; omega
theorem formed_no_name {c : Cmd} {k : Nat} {s : ByteArray} (hs : [c.case, c.person, c.to][k]? = some s) (h1 : (!(s.toList == (ByteArray.mk #[]).toList)) = true) (h2 : (!isName s.data.toList) = true) : formed c = false := by
  have h2 : isName s.data.toList = false := by simpa using h2
  rw [emptyS] at h1
  have hn : nameB s = false := by simp only [Bool.not_eq_true'] at h1; simp only [nameB, h1, h2, Bool.or_self]
  have hm := List.mem_of_getElem? hs
  simp only [List.mem_cons, List.not_mem_nil, or_false] at hm
  rcases hm with rfl | rfl | rfl <;> simp only [formed, hn, Bool.and_false, Bool.false_and]
theorem formed_yes {c : Cmd} {k : Nat} (hr : 1 ≤ c.kind ∧ c.kind ≤ 7 ∧ 0 ≤ c.trans ∧ c.trans < 60 ∧ 0 ≤ c.time ∧ c.time ≤ 1099511627776 ∧ c.data.length ≤ 8)
    (h : ∀ (j : Nat) (s : ByteArray), j < k → [c.case, c.person, c.to][j]? = some s → nameB s = true) (hk : 3 ≤ k) : formed c = !(c.data.any fun v => !validV v) := by
  have a := h 0 c.case (by omega) rfl
  have b := h 1 c.person (by omega) rfl
  have d := h 2 c.to (by omega) rfl
  have : c.data.all validV = !(c.data.any fun v => !validV v) := by
    rw [List.not_any_eq_all_not]; simp
  rw [← this]
  simp only [formed, a, b, d, Bool.and_true]
  rw [decide_eq_true hr.1, decide_eq_true hr.2.1, decide_eq_true hr.2.2.1, decide_eq_true hr.2.2.2.1, decide_eq_true hr.2.2.2.2.1, decide_eq_true hr.2.2.2.2.2.1, decide_eq_true hr.2.2.2.2.2.2]
  rfl
end Go.Proofs.Ytjalgcjllddmhaa

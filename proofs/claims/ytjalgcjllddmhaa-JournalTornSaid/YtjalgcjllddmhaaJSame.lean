/- A text of the proof of JournalTorn: JSame -/
import Derived.Test.YtjalgcjllddmhaaJSto
/- Comparing, plain. -/
namespace Go.Proofs.Ytjalgcjllddmhaa
open Go.Av
theorem take_next {α : Type} {a b : List α} {k : Nat} {x y : α} (hx : a[k]? = some x) (hy : b[k]? = some y) (h : x = y) (hk : a.take k = b.take k) : a.take (k + 1) = b.take (k + 1) := by
  rw [List.take_add_one, List.take_add_one, hk, hx, hy, h]
theorem take_nextB {a b : List UInt8} {k : Nat} {x y : UInt8} (hx : a[k]? = some x) (hy : b[k]? = some y) (h : (x.toNat : Int) = y.toNat) (hk : a.take k = b.take k) : a.take (k + 1) = b.take (k + 1) :=
  take_next hx hy (UInt8.toNat_inj.1 (by omega)) hk
theorem same_len {a b : List UInt8} (h : ¬ (a.length : Int) = b.length) : (a == b) = false := by
  rw [beq_eq_false_iff_ne]; intro e; subst e; exact h rfl
theorem same_no {a b : List UInt8} {k : Nat} {x y : UInt8} (hx : a[k]? = some x) (hy : b[k]? = some y) (h : ¬ (x.toNat : Int) = y.toNat) : (a == b) = false := by
  rw [beq_eq_false_iff_ne]; intro e; subst e; rw [hx] at hy; cases hy; exact h rfl
theorem same_yes {a b : List UInt8} {k : Nat} (hk : a.take k = b.take k) (h : a.length ≤ k) (hl : (a.length : Int) = b.length) : (a == b) = true := by
  rw [beq_iff_eq]
  rwa [List.take_of_length_le h, List.take_of_length_le (by omega)] at hk
def sameS (a b : Sto) : Bool := (a.bytes == b.bytes) && (decide (a.durable = b.durable) && decide (a.after = b.after))
end Go.Proofs.Ytjalgcjllddmhaa
namespace Go.Proofs.Ytjalgcjllddmhaa
open Go.Av
open Classical in
noncomputable def sameC (a b : Cmd) : Bool := decide (a = b)
theorem sameC_no {a b : Cmd} (h : ¬ a = b) : sameC a b = false := by simp [sameC, h]
theorem sameC_yes {a b : Cmd} (h : a = b) : sameC a b = true := by simp [sameC, h]
theorem toList_inj {s t : ByteArray} (h : s.toList = t.toList) : s = t := by
  rw [ByteArray.toList_eq, ByteArray.toList_eq] at h
  obtain ⟨⟨x⟩⟩ := s; obtain ⟨⟨y⟩⟩ := t
  simp at h; subst h; rfl
theorem sameV {x y : Val} (h : (!(x.kind == y.kind && (x.num == y.num && (x.s.toList == y.s.toList && true)))) = false) : x = y := by
  simp only [Bool.not_eq_false', Bool.and_eq_true, beq_iff_eq, and_true] at h
  obtain ⟨h1, h2, h3⟩ := h
  obtain ⟨a, b, c⟩ := x; obtain ⟨d, e, f⟩ := y
  simp only at h1 h2 h3
  subst h1; subst h2; rw [toList_inj h3]
theorem sameV_no {x y : Val} (h : (!(x.kind == y.kind && (x.num == y.num && (x.s.toList == y.s.toList && true)))) = true) : ¬ x = y := by
  intro e; subst e; simp at h
theorem sameC_data {a b : Cmd} {k : Nat} {x y : Val} (hx : a.data[k]? = some x) (hy : b.data[k]? = some y) (h : ¬ x = y) : sameC a b = false := by
  refine sameC_no fun e => h ?_
  subst e; rw [hx] at hy; exact Option.some.inj hy
theorem sameC_all {a b : Cmd} {k : Nat} (h1 : a.kind = b.kind) (h2 : a.trans = b.trans) (h3 : a.time = b.time) (h4 : (!(a.case.toList == b.case.toList)) = false) (h5 : (!(a.person.toList == b.person.toList)) = false)
    (h6 : (!(a.to.toList == b.to.toList)) = false) (hl : (a.data.length : Int) = b.data.length) (hk : a.data.take k = b.data.take k) (hkl : a.data.length ≤ k) : sameC a b = true := by
  refine sameC_yes ?_
  obtain ⟨a1, a2, a3, a4, a5, a6, a7⟩ := a; obtain ⟨b1, b2, b3, b4, b5, b6, b7⟩ := b
  simp only [Bool.not_eq_false', beq_iff_eq] at *
  rw [List.take_of_length_le hkl, List.take_of_length_le (by omega)] at hk
  rw [h1, h2, h3, toList_inj h4, toList_inj h5, toList_inj h6, hk]
end Go.Proofs.Ytjalgcjllddmhaa
namespace Go.Proofs.Ytjalgcjllddmhaa
open Go.Av
open Classical in
noncomputable def sameL (a b : List Cmd) : Bool := decide (a = b)
theorem of_sameC {x y : Cmd} (h : (!sameC x y) = false) : x = y := by simpa [sameC] using h
theorem sameL_len {a b : List Cmd} (h : ¬ (a.length : Int) = b.length) : sameL a b = false := by
  simp only [sameL, decide_eq_false_iff_not]; intro e; subst e; exact h rfl
theorem sameL_no {a b : List Cmd} {k : Nat} {x y : Cmd} (hx : a[k]? = some x) (hy : b[k]? = some y) (h : (!sameC x y) = true) : sameL a b = false := by
  simp only [sameL, decide_eq_false_iff_not]; intro e; subst e; rw [hx] at hy; cases hy
  simp [sameC] at h
theorem sameL_yes {a b : List Cmd} {k : Nat} (hk : a.take k = b.take k) (h : a.length ≤ k) (hl : (a.length : Int) = b.length) : sameL a b = true := by
  rw [List.take_of_length_le h, List.take_of_length_le (by omega)] at hk
  simp [sameL, hk]
end Go.Proofs.Ytjalgcjllddmhaa
namespace Go.Proofs.Ytjalgcjllddmhaa
open Go.Av
def plainC (c : Cmd) : Bool := decide (c.case.size ≤ 60) && (decide (c.person.size ≤ 60) && (decide (c.to.size ≤ 60) && (decide (c.data.length ≤ 12) && !c.data.any fun v => decide (250 < v.s.size))))
/-- The sizes that memory allows. -/
structure CmdOk (c : Cmd) : Prop where
  h1 : c.case.size ≤ 2 ^ 47
  h2 : c.person.size ≤ 2 ^ 47
  h3 : c.to.size ≤ 2 ^ 47
  h4 : c.data.length ≤ 2 ^ 47
  hv : ∀ v ∈ c.data, v.s.size ≤ 2 ^ 47
theorem plainC_facts {c : Cmd} (h : plainC c = true) : c.case.size ≤ 60 ∧ c.person.size ≤ 60 ∧ c.to.size ≤ 60 ∧ c.data.length ≤ 12 ∧ ∀ v ∈ c.data, v.s.size ≤ 250 := by
  simp only [plainC, Bool.and_eq_true, decide_eq_true_eq, Bool.not_eq_true', List.any_eq_false, Nat.not_lt] at h
  exact h
end Go.Proofs.Ytjalgcjllddmhaa

/- A text of the proof of JournalTorn: JArgs -/
import Derived.Test.YtjalgcjllddmhaaProg
import Derived.Test.YtjalgcjllddmhaaAvLaw
import Derived.Test.YtjalgcjllddmhaaJSame
/- What is read as commands and stores. -/
namespace Go.Proofs.Ytjalgcjllddmhaa
open Go.Av
theorem reach47 : reachBytes ≤ 2 ^ 47 := by decide
theorem len_of {n b : Nat} (hb : 1 ≤ b) (h : n * b ≤ reachBytes) : n ≤ 2 ^ 47 :=
  Nat.le_trans (Nat.le_mul_of_pos_right n hb) (Nat.le_trans h reach47)
theorem val_of (x : AV) (hx : AT Try.prog 54 x) : ∃ v, x = valAV v ∧ v.s.size ≤ 2 ^ 47 := by
  obtain ⟨cs, rfl, h⟩ := hx.struct_inv (ts := [3, 3, 9]) Try.underlying54 rfl
  obtain ⟨_, _, rfl, a1, h⟩ := h.cons_inv
  obtain ⟨_, _, rfl, a2, h⟩ := h.cons_inv
  obtain ⟨_, _, rfl, a3, h⟩ := h.cons_inv
  cases h.nil_inv
  obtain ⟨k, rfl, _⟩ := a1.int_inv Try.underlying3
  obtain ⟨n, rfl, _⟩ := a2.int_inv Try.underlying3
  obtain ⟨s, rfl, hs⟩ := a3.string_inv Try.underlying9
  exact ⟨⟨k, n, s⟩, rfl, Nat.le_trans hs reach47⟩
theorem cmd_of (x : AV) (hx : AT Try.prog 26 x) : ∃ c, x = cmdAV c ∧ CmdOk c := by
  obtain ⟨cs, rfl, h⟩ := hx.struct_inv (ts := [3, 3, 3, 9, 9, 9, 24]) Try.underlying26 rfl
  obtain ⟨_, _, rfl, a1, h⟩ := h.cons_inv
  obtain ⟨_, _, rfl, a2, h⟩ := h.cons_inv
  obtain ⟨_, _, rfl, a3, h⟩ := h.cons_inv
  obtain ⟨_, _, rfl, a4, h⟩ := h.cons_inv
  obtain ⟨_, _, rfl, a5, h⟩ := h.cons_inv
  obtain ⟨_, _, rfl, a6, h⟩ := h.cons_inv
  obtain ⟨_, _, rfl, a7, h⟩ := h.cons_inv
  cases h.nil_inv
  obtain ⟨n1, rfl, _⟩ := a1.int_inv Try.underlying3
  obtain ⟨n2, rfl, _⟩ := a2.int_inv Try.underlying3
  obtain ⟨n3, rfl, _⟩ := a3.int_inv Try.underlying3
  obtain ⟨s1, rfl, h1⟩ := a4.string_inv Try.underlying9
  obtain ⟨s2, rfl, h2⟩ := a5.string_inv Try.underlying9
  obtain ⟨s3, rfl, h3⟩ := a6.string_inv Try.underlying9
  obtain ⟨l, rfl, hl, hv⟩ := a7.slice_lift (sz := 3) Try.underlying24 (by kernel_rfl) val_of
  exact ⟨⟨n1, n2, n3, s1, s2, s3, l⟩, rfl, Nat.le_trans h1 reach47, Nat.le_trans h2 reach47, Nat.le_trans h3 reach47, len_of (b := Try.prog.bytesOf 54) (of_decide_eq_true (by kernel_rfl)) hl, hv⟩
theorem cmds_of (x : AV) (h : AT Try.prog 22 x) : ∃ l : List Cmd, x = .sl 7 (l.map cmdAV) ∧ l.length ≤ 2 ^ 47 ∧ ∀ c ∈ l, CmdOk c := by
  obtain ⟨l, rfl, hl, hv⟩ := h.slice_inv (sz := 7) Try.underlying22 (by kernel_rfl) cmd_of
  exact ⟨l, rfl, len_of (b := Try.prog.bytesOf 26) (of_decide_eq_true (by kernel_rfl)) hl, hv⟩
theorem u16_of (x : AV) (h : AT Try.prog 23 x) : ∃ n, x = .val (.int .u16 n) ∧ 0 ≤ n ∧ n < 65536 := by
  obtain ⟨n, rfl, hw⟩ := h.int_inv Try.underlying23
  refine ⟨n, rfl, ?_⟩
  have : 0 ≤ n ∧ n ≤ 65535 := by simpa [Lit.wf, IntKind.min, IntKind.max, IntKind.signed, IntKind.bits] using hw
  omega
theorem u8_of (x : AV) (h : AT Try.prog 5 x) : ∃ n, x = .val (.int .u8 n) ∧ 0 ≤ n ∧ n < 256 := by
  obtain ⟨n, rfl, hw⟩ := h.int_inv Try.underlying5
  refine ⟨n, rfl, ?_⟩
  have : 0 ≤ n ∧ n ≤ 255 := by simpa [Lit.wf, IntKind.min, IntKind.max, IntKind.signed, IntKind.bits] using hw
  omega
end Go.Proofs.Ytjalgcjllddmhaa

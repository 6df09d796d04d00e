/- What is torn is never read from a journal: the law JournalTorn returns true for every input; no conditions. -/
import Derived.Test.YtjalgcjllddmhaaRows
import Derived.Test.YtjalgcjllddmhaaJArgs
import Derived.Test.YtjalgcjllddmhaaJW17
import Derived.ProofKit
/- JournalTorn: its row. -/
namespace Go.Proofs.Ytjalgcjllddmhaa
open Go.Av Go.ChangeShapes Go.WideShapes Go.ChangeAt Go.RowKit
theorem ownK : ownKnob Try.prog.godebug = none := by kernel_rfl
theorem torn_walk (xs : List AV) (h : ATs Try.prog Try.f4.params.toList xs) : HSpec Try.prog 4 xs [] fun r H' _ => r = .val (.bool true) ∧ H' = [] := by
  rw [Try.params4] at h
  obtain ⟨x1, _, rfl, a1, h⟩ := h.cons_inv
  obtain ⟨x2, _, rfl, a2, h⟩ := h.cons_inv
  obtain ⟨x3, _, rfl, a3, h⟩ := h.cons_inv
  obtain ⟨x4, _, rfl, a4, h⟩ := h.cons_inv
  cases h.nil_inv
  obtain ⟨l, rfl, hl, hok⟩ := cmds_of _ a1
  obtain ⟨c, rfl, hc⟩ := cmd_of _ a2
  obtain ⟨cut, rfl, hcu⟩ := u8_of _ a3
  obtain ⟨change, rfl, hch⟩ := u8_of _ a4
  exact torn_w l c cut change hl hok hc hcu hch
def types : List TypeId := [3, 4, 5, 9, 22, 23, 24, 26, 54]
set_option maxRecDepth 100000 in
theorem torn_lifted (os : Os) (started : os.Started) (H : Type) (enc : TypeId × Value → H) :
    ReturnsInHanded {} Try.checked os 4 .any (Rows.journalTornSpec.pre6 enc Try.prog Try.f4 Rows.journalTornRow.domain false) (Rows.journalTornSpec.post enc Try.prog Try.f4 false true false false) := by
  refine returnsInHanded_of_change_sized (C := Try.checked) ownK started (by kernel_rfl) Try.func4
    (ChangeSpec.witness6 (enc := enc) (C := Try.checked) false ⟨#[], #[.slice none 0 0, .agg #[.int .i64 0, .int .i64 0, .int .i64 0, .string ⟨#[]⟩, .string ⟨#[]⟩, .string ⟨#[]⟩, .slice none 0 0], .int .u8 0, .int .u8 0], []⟩ 8 (by kernel_rfl) (by kernel_rfl) (by kernel_rfl) (by kernel_rfl)) ?_
  intro W base args ds gs before hval hW _ hwt _
  exact law_contract (tb := 4) types (by kernel_rfl) (by kernel_rfl) (by rw [Try.params4]; decide) (by
      rw [Try.params4]; intro t ht
      have : t = 22 ∨ t = 26 ∨ t = 5 := by simpa [or_assoc] using ht
      rcases this with rfl | rfl | rfl <;> exact ⟨by kernel_rfl, of_decide_eq_true (by kernel_rfl)⟩) (by kernel_rfl) Try.underlying4 rfl (by
      intro ds hl
      rw [Try.params4] at hl
      match ds, hl with
      | [d1, d2, d3, d4], _ => exact ⟨rfl, rfl, rfl⟩) torn_walk _ hval hW hwt
theorem torn_holds : Rows.JournalTornSaid :=
  OpenClaim.holds_of_wide 4 Try.f4 rfl rfl rfl rfl rfl rfl rfl ⟨rfl, rfl, rfl, rfl, rfl⟩ rfl rfl rfl rfl rfl (by kernel_rfl) Try.func4 (by kernel_rfl)
    (of_decide_eq_true (by kernel_rfl)) (by unfold Func.isWrapper; first | (rw [if_pos (by decide +kernel)]; kernel_rfl) | (rw [if_neg (by decide +kernel)]; exact ⟨rfl, rfl⟩))
    (fun os started H enc _ => torn_lifted os started H enc)
end Go.Proofs.Ytjalgcjllddmhaa

/- A text of the proof of JournalTorn: JAwake -/
import Derived.Test.YtjalgcjllddmhaaJSame
/- The chapter's example, plain. -/
namespace Go.Proofs.Ytjalgcjllddmhaa
open Go.Av
def tick : Cmd := ⟨7, 0, 5, noS, noS, noS, []⟩
theorem tick_formed : formed tick = true := by decide
theorem tick_code : code tick = [7, 0, 5, 0, 0, 0, 0] := by
  simp [code, head3, head2, head1, encS, tick, enc, noS, ByteArray.size]
theorem tick_record : (record tick).length = 12 := by
  simp [record, body, tick_code, enc, le32]
theorem recs_nil : recs [] [] 0 = ([], 0) := recs_none (by decide)
theorem valid_new {n : Int} (h : -1 ≤ n ∧ n ≤ 262144) : valid ⟨[], 0, n⟩ = true := by
  rw [valid_yes (by simp; omega), recs_nil]; rfl
theorem write12 : write ⟨[], 0, 12⟩ tick = (⟨record tick, 12, 0⟩, 0) := by
  unfold write
  rw [if_neg (by rw [valid_new (by decide), tick_formed]; decide), if_neg (by decide)]
  simp only [recs_nil, tick_record]
  rw [if_neg (by decide), if_neg (by decide)]
  simp [tick_record]
theorem write11 : write ⟨[], 0, 11⟩ tick = (⟨(record tick).take 11, 0, 0⟩, 15) := by
  unfold write
  rw [if_neg (by rw [valid_new (by decide), tick_formed]; decide), if_neg (by decide)]
  simp only [recs_nil, tick_record]
  rw [if_neg (by decide), if_pos (by decide)]
  simp
theorem take11 : ((record tick).take 11).length = 11 := by rw [List.length_take, tick_record]; rfl
end Go.Proofs.Ytjalgcjllddmhaa

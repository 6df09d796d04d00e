/- A text of the proof of JournalTorn: JCat -/
import Derived.Test.YtjalgcjllddmhaaJBase
/- Lists of bytes put together, plain. -/
namespace Go.Proofs.Ytjalgcjllddmhaa
open Go.Av
def sbAV (b : List UInt8) : AV := .sl 1 (bytesAV b)
theorem flatten_next {α : Type} {ss : List (List α)} {k : Nat} {b : List α} (h : ss[k]? = some b) : (ss.take (k + 1)).flatten = (ss.take k).flatten ++ b := by
  rw [List.take_add_one, h]; simp
theorem flatten_le {α : Type} (ss : List (List α)) (k : Nat) : (ss.take k).flatten.length ≤ ss.flatten.length := by
  have : (ss.take k ++ ss.drop k).flatten = ss.flatten := by rw [List.take_append_drop]
  rw [← this, List.flatten_append, List.length_append]; omega
end Go.Proofs.Ytjalgcjllddmhaa

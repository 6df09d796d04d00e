/- A text of the proof of JournalSurvives: AvMeet -/
import Derived.Test.YtjalgcjllddmhaaAvLit
/- Ways that meet again. -/
namespace Go.Av
theorem tri_seq_meet {P : Program} {Q : Exit → St → Prop} {st : St} {Y : Type} (S : Y → St) {x y : Code} (h : Tri P x (seqQ (fun s => ∃ z, Le s (S z)) Q) st) (hk : ∀ z, Tri P y Q (S z)) : Tri P (.seq x y) Q st :=
  tri_seq (h.post fun e s hq => by
    cases e with
    | normal => exact let ⟨z, hl⟩ := hq; tri_le hl (hk z)
    | _ => exact hq)
end Go.Av

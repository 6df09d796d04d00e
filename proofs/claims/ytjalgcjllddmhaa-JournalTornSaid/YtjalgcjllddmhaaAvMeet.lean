/- A text of the proof of JournalTorn: AvMeet -/
import Derived.Test.YtjalgcjllddmhaaAvLit
/- Ways that meet again. -/
namespace Go.Av
theorem tri_seq_meet {P : Program} {Q : Exit → St → Prop} {st : St} {Y : Type} (S : Y → St) {x y : Code} (h : Tri P x (seqQ (fun s => ∃ z, Le s (S z)) Q) st) (hk : ∀ z, Tri P y Q (S z)) : Tri P (.seq x y) Q st :=
  tri_seq (h.post fun e s hq => by
    cases e with
    | normal => exact let ⟨z, hl⟩ := hq; tri_le hl (hk z)
    | _ => exact hq)
end Go.Av
namespace Go.Av
/-- The state in normal form: the live slots, the objects. -/
theorem le_norm {st : St} {fr : List (Nat × AV)} {H : List AObj} {n : Nat} (ids ts : List Nat) (hn : nodupB ids = true) (hlt : ids.all (fun id => Nat.blt id st.H.length) = true) (hsn : st.n = n)
    (hfr : FrIs st.fr ids ts fr) (hH : HIs st.H ids ids H) : Le st ⟨n, noM, fr, H⟩ := le_kept ids hn hlt (fun _ _ h => by cases h) hsn hfr.ok hH.ok
end Go.Av

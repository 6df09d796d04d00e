/- A text of the proof of JournalTorn: JW10 -/
import Derived.Test.YtjalgcjllddmhaaProg
import Derived.Test.YtjalgcjllddmhaaAvShort
import Derived.Test.YtjalgcjllddmhaaAvAppS
import Derived.Test.YtjalgcjllddmhaaAvSnap
import Derived.Test.YtjalgcjllddmhaaAvAny
import Derived.Test.YtjalgcjllddmhaaAvLit
import Derived.Test.YtjalgcjllddmhaaJSto
import Derived.Test.YtjalgcjllddmhaaJW1
import Derived.Test.YtjalgcjllddmhaaJW4

set_option linter.unusedSimpArgs false
set_option linter.unusedVariables false
set_option maxHeartbeats 8000000
set_option maxRecDepth 100000
namespace Go.Proofs.Ytjalgcjllddmhaa
open Go.Av
/- to do: Encode, ref.same, SameCommand, Same, EqualFunc, plain, awake, none -/
/-- the walk of casebook/journal.Encode -/
theorem encode_w (c : Cmd) (h1 : c.case.size ≤ 2 ^ 47) (h2 : c.person.size ≤ 2 ^ 47) (h3 : c.to.size ≤ 2 ^ 47) (h4 : c.data.length ≤ 2 ^ 40) (hv : ∀ v ∈ c.data, v.s.size ≤ 2 ^ 47) : HSpec Try.prog 21 [cmdAV c] [] fun r H' _ => r = (if formed c = true then .tup [.sl 1 (bytesAV (code c)), iv 0] else .tup [.sl 1 [], iv 1]) ∧ H' = [] := by
 refine hspec_intro Try.func21 rfl rfl ?_
 all_goals refine tri_seq ?_
 all_goals refine tri_region ?_
 all_goals refine oc (x_bx 7 ?_)
 all_goals refine oc (x_assign ?_)
 all_goals refine oc (x_assign ?_)
 all_goals refine ops_nil ?_
 all_goals refine seqQ_n ?_
 all_goals refine tri_seq ?_
 all_goals refine tri_seq ?_
 all_goals refine tri_region ?_
 all_goals refine oc ?_
 all_goals (first | refine x_lda ?_ | refine x_ldra ?_ | refine x_ldp ?_ | refine x_ldrp ?_)
 all_goals refine oc ?_
 all_goals (refine op_callA rfl rfl rfl rfl rfl ⟨_, Try.func25, by decide, rfl⟩ (.cons (.pure rfl) .nil) (formed_w c h1 h2 h3 h4 hv) shut0 ?_)
 all_goals (rintro _ H' m ⟨rfl, rfl⟩)
 all_goals refine oc ?_
 all_goals (first | refine op_not_d rfl rfl rfl ?_ | refine x_not ?_)
 all_goals refine ops_nil ?_
 all_goals refine seqQ_n ?_
 all_goals (
  first | refine tri_cond_d rfl rfl (fun hc => ?_) (fun hc => ?_) | refine ct (fun hc => ?_) (fun hc => ?_) | refine cf (fun hc => ?_) (fun hc => ?_) | refine cb (fun hc => ?_) (fun hc => ?_)
  focus
   try (exfalso; first | exact hc | omega)
   all_goals refine tri_seq ?_
   all_goals refine tri_region ?_
   all_goals refine oc (x_assign ?_)
   all_goals refine oc (x_assign ?_)
   all_goals refine ops_nil ?_
   all_goals refine seqQ_n ?_
   all_goals (refine tri_le (le_snapT 2 (by conv => lhs; whnf) rfl (by first | exact SnapR.nil (sz := 1) | exact .pure rfl)) ?_)
   all_goals refine tri_ret ?_
   all_goals refine seqQ_r ?_
   all_goals refine retE_r [] (.cons (.tmp (by conv => lhs; whnf) rfl) (.cons (.tmp (by conv => lhs; whnf) rfl) .nil)) rfl rfl (by first | exact (ren_pure (by rfl)).trans (by conv => lhs; whnf) | ((conv => lhs; whnf); done) | rfl) (.nil) ?_
   all_goals (refine ⟨?_, rfl⟩; simp only [Bool.not_eq_true', Bool.not_eq_false'] at hc; simp only [hc]; rfl)
  rotate_right 1
  focus
   try (exfalso; first | exact hc | omega)
   all_goals refine tri_skip ?_)
 all_goals refine seqQ_n ?_
 all_goals refine tri_seq ?_
 all_goals refine tri_region ?_
 all_goals refine oc ?_
 all_goals (first | refine x_lda ?_ | refine x_ldra ?_ | refine x_ldp ?_ | refine x_ldrp ?_)
 all_goals refine oc ?_
 all_goals (refine op_callB rfl rfl rfl rfl rfl ⟨_, Try.func31, by decide, rfl⟩ (.cons (.pure rfl) .nil) (code_w c (by simp_all)) ?_)
 all_goals (rintro _ H' m ⟨rfl, rfl⟩)
 all_goals refine oc (x_assign ?_)
 all_goals refine oc (x_assign ?_)
 all_goals refine ops_nil ?_
 all_goals refine seqQ_n ?_
 all_goals (refine tri_le (le_snapT 2 (by conv => lhs; whnf) rfl (by first | exact SnapR.nil (sz := 1) | exact .pure rfl)) ?_)
 all_goals refine tri_ret ?_
 all_goals refine retE_r [] (.cons (.tmp (by conv => lhs; whnf) rfl) (.cons (.tmp (by conv => lhs; whnf) rfl) .nil)) rfl rfl (by first | exact (ren_pure (by rfl)).trans (by conv => lhs; whnf) | ((conv => lhs; whnf); done) | rfl) (.nil) ?_
 all_goals (refine ⟨?_, rfl⟩; simp only [Bool.not_eq_true', Bool.not_eq_false'] at hc; simp only [hc]; rfl)

end Go.Proofs.Ytjalgcjllddmhaa

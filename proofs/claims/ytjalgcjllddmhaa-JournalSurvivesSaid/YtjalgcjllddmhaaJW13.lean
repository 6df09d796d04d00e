/- A text of the proof of JournalSurvives: JW13 -/
import Derived.Test.YtjalgcjllddmhaaProg
import Derived.Test.YtjalgcjllddmhaaAvShort
import Derived.Test.YtjalgcjllddmhaaAvAppS
import Derived.Test.YtjalgcjllddmhaaAvSnap
import Derived.Test.YtjalgcjllddmhaaAvAny
import Derived.Test.YtjalgcjllddmhaaAvLit
import Derived.Test.YtjalgcjllddmhaaAvEq
import Derived.Test.YtjalgcjllddmhaaJSame
import Derived.Test.YtjalgcjllddmhaaJW4

set_option linter.unusedSimpArgs false
set_option linter.unusedVariables false
set_option maxHeartbeats 8000000
set_option maxRecDepth 100000
namespace Go.Proofs.Ytjalgcjllddmhaa
open Go.Av
/-- the walk of casebook/casebooklaw48.plain$1 -/
theorem plainc_w (v : Val) (hs : v.s.size ≤ 2 ^ 47) : HSpec Try.prog 24 [valAV v] [] fun r H' _ => r = .val (.bool (decide (250 < v.s.size))) ∧ H' = [] := by
 refine hspec_intro Try.func24 rfl rfl ?_
 all_goals refine tri_seq ?_
 all_goals refine tri_region ?_
 all_goals refine oc (x_bx 3 ?_)
 all_goals refine oc (x_assign ?_)
 all_goals refine ops_nil ?_
 all_goals refine seqQ_n ?_
 all_goals refine tri_seq ?_
 all_goals refine tri_region ?_
 all_goals refine oc ?_
 all_goals (first | refine x_fa0 ?_ | refine x_far0 ?_ | refine x_fa ?_ | refine x_far ?_)
 all_goals refine oc ?_
 all_goals (first | refine x_ld ?_ | refine x_ldr ?_)
 all_goals refine oc (x_lens ?_)
 all_goals refine oc (x_gtr ?_)
 all_goals refine oc (x_assign ?_)
 all_goals refine ops_nil ?_
 all_goals refine seqQ_n ?_
 all_goals refine tri_ret ?_
 all_goals refine retE_r [] (.cons (.tmp (by conv => lhs; whnf) rfl) .nil) rfl rfl (by first | exact (ren_pure (by rfl)).trans (by conv => lhs; whnf) | ((conv => lhs; whnf); done) | rfl) (.nil) ?_
 all_goals (refine ⟨congrArg (fun b => AV.val (Value.bool b)) (decide_eq_decide.2 (by omega)), rfl⟩)

/-- the walk of casebook/casebooklaw48.plain -/
theorem plain_w (c : Cmd) (hc : CmdOk c) : HSpec Try.prog 8 [cmdAV c] [] fun r H' _ => r = .val (.bool (plainC c)) ∧ H' = [] := by
 obtain ⟨h1, h2, h3, h4, hv⟩ := hc
 refine hspec_intro Try.func8 rfl rfl ?_
 all_goals refine tri_seq ?_
 all_goals refine tri_region ?_
 all_goals refine oc (x_bx 7 ?_)
 all_goals refine oc (x_assign ?_)
 all_goals refine ops_nil ?_
 all_goals refine seqQ_n ?_
 all_goals refine tri_seq ?_
 all_goals refine tri_region ?_
 all_goals refine oc ?_
 all_goals (first | refine x_fa0 ?_ | refine x_far0 ?_ | refine x_fa ?_ | refine x_far ?_)
 all_goals refine oc ?_
 all_goals (first | refine x_ld ?_ | refine x_ldr ?_)
 all_goals refine oc (x_lens ?_)
 all_goals refine oc (x_leq ?_)
 all_goals refine oc (x_move ?_)
 all_goals (first | refine gU ?_ | refine gY ?_ | refine gN ?_ | refine ops_guardTd rfl rfl rfl rfl rfl rfl (fun hg => ?_) (fun hg => ?_) | refine gT (fun hg => ?_) (fun hg => ?_))
 all_goals try (exfalso; omega)
 all_goals (first | refine ops_here ?_ | (first | refine x_fa0 ?_ | refine x_far0 ?_ | refine x_fa ?_ | refine x_far ?_))
 all_goals (first | refine gU ?_ | refine gY ?_ | refine gN ?_ | refine ops_guardTd rfl rfl rfl rfl rfl rfl (fun hg => ?_) (fun hg => ?_) | refine gT (fun hg => ?_) (fun hg => ?_))
 all_goals try (exfalso; omega)
 all_goals (first | refine ops_here ?_ | (first | refine x_ld ?_ | refine x_ldr ?_))
 all_goals (first | refine gU ?_ | refine gY ?_ | refine gN ?_ | refine ops_guardTd rfl rfl rfl rfl rfl rfl (fun hg => ?_) (fun hg => ?_) | refine gT (fun hg => ?_) (fun hg => ?_))
 all_goals try (exfalso; omega)
 all_goals (first | refine ops_here ?_ | (refine x_lens ?_))
 all_goals (first | refine gU ?_ | refine gY ?_ | refine gN ?_ | refine ops_guardTd rfl rfl rfl rfl rfl rfl (fun hg => ?_) (fun hg => ?_) | refine gT (fun hg => ?_) (fun hg => ?_))
 all_goals try (exfalso; omega)
 all_goals (first | refine ops_here ?_ | (refine x_leq ?_))
 all_goals refine oc ?_
 all_goals (first | refine x_pt ?_ | refine x_pf ?_ | refine x_pb ?_)
 all_goals refine oc (x_move ?_)
 all_goals (first | refine gU ?_ | refine gY ?_ | refine gN ?_ | refine ops_guardTd rfl rfl rfl rfl rfl rfl (fun hg => ?_) (fun hg => ?_) | refine gT (fun hg => ?_) (fun hg => ?_))
 all_goals try (exfalso; omega)
 all_goals (first | refine ops_here ?_ | (first | refine x_fa0 ?_ | refine x_far0 ?_ | refine x_fa ?_ | refine x_far ?_))
 all_goals (first | refine gU ?_ | refine gY ?_ | refine gN ?_ | refine ops_guardTd rfl rfl rfl rfl rfl rfl (fun hg => ?_) (fun hg => ?_) | refine gT (fun hg => ?_) (fun hg => ?_))
 all_goals try (exfalso; omega)
 all_goals (first | refine ops_here ?_ | (first | refine x_ld ?_ | refine x_ldr ?_))
 all_goals (first | refine gU ?_ | refine gY ?_ | refine gN ?_ | refine ops_guardTd rfl rfl rfl rfl rfl rfl (fun hg => ?_) (fun hg => ?_) | refine gT (fun hg => ?_) (fun hg => ?_))
 all_goals try (exfalso; omega)
 all_goals (first | refine ops_here ?_ | (refine x_lens ?_))
 all_goals (first | refine gU ?_ | refine gY ?_ | refine gN ?_ | refine ops_guardTd rfl rfl rfl rfl rfl rfl (fun hg => ?_) (fun hg => ?_) | refine gT (fun hg => ?_) (fun hg => ?_))
 all_goals try (exfalso; omega)
 all_goals (first | refine ops_here ?_ | (refine x_leq ?_))
 all_goals refine oc ?_
 all_goals (first | refine x_pt ?_ | refine x_pf ?_ | refine x_pb ?_)
 all_goals refine oc (x_move ?_)
 all_goals (first | refine gU ?_ | refine gY ?_ | refine gN ?_ | refine ops_guardTd rfl rfl rfl rfl rfl rfl (fun hg => ?_) (fun hg => ?_) | refine gT (fun hg => ?_) (fun hg => ?_))
 all_goals try (exfalso; omega)
 all_goals (first | refine ops_here ?_ | (first | refine x_fa0 ?_ | refine x_far0 ?_ | refine x_fa ?_ | refine x_far ?_))
 all_goals (first | refine gU ?_ | refine gY ?_ | refine gN ?_ | refine ops_guardTd rfl rfl rfl rfl rfl rfl (fun hg => ?_) (fun hg => ?_) | refine gT (fun hg => ?_) (fun hg => ?_))
 all_goals try (exfalso; omega)
 all_goals (first | refine ops_here ?_ | (first | refine x_ld ?_ | refine x_ldr ?_))
 all_goals (first | refine gU ?_ | refine gY ?_ | refine gN ?_ | refine ops_guardTd rfl rfl rfl rfl rfl rfl (fun hg => ?_) (fun hg => ?_) | refine gT (fun hg => ?_) (fun hg => ?_))
 all_goals try (exfalso; omega)
 all_goals (first | refine ops_here ?_ | (first | refine op_len_sl rfl (by first | (conv => lhs; simp only [List.length_map, bytesAV_length]) | rfl) rfl rfl rfl ?_ | refine x_leno ?_ | refine x_lenn ?_))
 all_goals (first | refine gU ?_ | refine gY ?_ | refine gN ?_ | refine ops_guardTd rfl rfl rfl rfl rfl rfl (fun hg => ?_) (fun hg => ?_) | refine gT (fun hg => ?_) (fun hg => ?_))
 all_goals try (exfalso; omega)
 all_goals (first | refine ops_here ?_ | (refine x_leq ?_))
 all_goals refine oc ?_
 all_goals (first | refine x_pt ?_ | refine x_pf ?_ | refine x_pb ?_)
 all_goals refine oc (x_move ?_)
 all_goals (first | refine gU ?_ | refine gY ?_ | refine gN ?_ | refine ops_guardTd rfl rfl rfl rfl rfl rfl (fun hg => ?_) (fun hg => ?_) | refine gT (fun hg => ?_) (fun hg => ?_))
 all_goals try (exfalso; omega)
 all_goals (first | refine ops_here ?_ | (first | refine x_fa0 ?_ | refine x_far0 ?_ | refine x_fa ?_ | refine x_far ?_))
 all_goals (first | refine gU ?_ | refine gY ?_ | refine gN ?_ | refine ops_guardTd rfl rfl rfl rfl rfl rfl (fun hg => ?_) (fun hg => ?_) | refine gT (fun hg => ?_) (fun hg => ?_))
 all_goals try (exfalso; omega)
 all_goals (first | refine ops_here ?_ | (first | refine x_ld ?_ | refine x_ldr ?_))
 all_goals (first | refine gU ?_ | refine gY ?_ | refine gN ?_ | refine ops_guardTd rfl rfl rfl rfl rfl rfl (fun hg => ?_) (fun hg => ?_) | refine gT (fun hg => ?_) (fun hg => ?_))
 all_goals try (exfalso; omega)
 all_goals (first | refine ops_here ?_ | (refine op_callA rfl rfl rfl rfl rfl ⟨_, Try.func23, by decide, rfl⟩ (.cons (.pure rfl) (.cons .fn0 .nil)) (idxV_c c.data 24 (fun v => decide (250 < v.s.size)) (by first | omega | (simp; omega)) ⟨_, Try.func24, by decide, rfl⟩ (fun x hx => plainc_w x (hv x hx))) shut0 ?_; rintro r H' m ⟨rfl, rfl⟩))
 all_goals (first | refine gU ?_ | refine gY ?_ | refine gN ?_ | refine ops_guardTd rfl rfl rfl rfl rfl rfl (fun hg => ?_) (fun hg => ?_) | refine gT (fun hg => ?_) (fun hg => ?_))
 all_goals try (exfalso; omega)
 all_goals (first | refine ops_here ?_ | (first | refine op_not_d rfl rfl rfl ?_ | refine x_not ?_))
 all_goals refine oc ?_
 all_goals (first | refine x_pt ?_ | refine x_pf ?_ | refine x_pb ?_)
 all_goals refine oc (x_assign ?_)
 all_goals refine ops_nil ?_
 all_goals refine seqQ_n ?_
 all_goals refine tri_ret ?_
 all_goals refine retE_r [] (.cons (.tmp (by conv => lhs; whnf) rfl) .nil) rfl rfl (by first | exact (ren_pure (by rfl)).trans (by conv => lhs; whnf) | ((conv => lhs; whnf); done) | rfl) (.nil) ?_
 all_goals (
  refine ⟨congrArg (fun b => AV.val (Value.bool b)) ?_, rfl⟩
  simp only [plainC]
  first
  | (rw [decide_eq_true (show c.case.size ≤ 60 by omega), decide_eq_true (show c.person.size ≤ 60 by omega), decide_eq_true (show c.to.size ≤ 60 by omega), decide_eq_true (show c.data.length ≤ 12 by omega)]; rfl)
  | (rw [decide_eq_false (show ¬ c.case.size ≤ 60 by omega)]; rfl)
  | (rw [decide_eq_false (show ¬ c.person.size ≤ 60 by omega)]; cases decide (c.case.size ≤ 60) <;> rfl)
  | (rw [decide_eq_false (show ¬ c.to.size ≤ 60 by omega)]; cases decide (c.case.size ≤ 60) <;> cases decide (c.person.size ≤ 60) <;> rfl)
  | (rw [decide_eq_false (show ¬ c.data.length ≤ 12 by omega)]; cases decide (c.case.size ≤ 60) <;> cases decide (c.person.size ≤ 60) <;> cases decide (c.to.size ≤ 60) <;> rfl))

/-- the walk of casebook/casebooklaw48.JournalSurvives$1 -/
theorem plainSurvives_w (c : Cmd) (hc : CmdOk c) : HSpec Try.prog 7 [cmdAV c] [] fun r H' _ => r = .val (.bool (!plainC c)) ∧ H' = [] := by
 refine hspec_intro Try.func7 rfl rfl ?_
 all_goals refine tri_seq ?_
 all_goals refine tri_region ?_
 all_goals refine oc (x_bx 7 ?_)
 all_goals refine oc (x_assign ?_)
 all_goals refine ops_nil ?_
 all_goals refine seqQ_n ?_
 all_goals refine tri_seq ?_
 all_goals refine tri_region ?_
 all_goals refine oc ?_
 all_goals (first | refine x_lda ?_ | refine x_ldra ?_ | refine x_ldp ?_ | refine x_ldrp ?_)
 all_goals refine oc ?_
 all_goals (refine op_callA rfl rfl rfl rfl rfl ⟨_, Try.func8, by decide, rfl⟩ (.cons (.pure rfl) .nil) (plain_w c hc) shut0 ?_)
 all_goals (rintro _ H' m ⟨rfl, rfl⟩)
 all_goals refine oc ?_
 all_goals (first | refine op_not_d rfl rfl rfl ?_ | refine x_not ?_)
 all_goals refine oc (x_assign ?_)
 all_goals refine ops_nil ?_
 all_goals refine seqQ_n ?_
 all_goals refine tri_ret ?_
 all_goals refine retE_r [] (.cons (.tmp (by conv => lhs; whnf) rfl) .nil) rfl rfl (by first | exact (ren_pure (by rfl)).trans (by conv => lhs; whnf) | ((conv => lhs; whnf); done) | rfl) (.nil) ?_
 all_goals (exact ⟨rfl, rfl⟩)

/-- the walk of casebook/casebooklaw48.JournalTorn$1 -/
theorem plainTorn_w (c : Cmd) (hc : CmdOk c) : HSpec Try.prog 17 [cmdAV c] [] fun r H' _ => r = .val (.bool (!plainC c)) ∧ H' = [] := by
 refine hspec_intro Try.func17 rfl rfl ?_
 all_goals refine tri_seq ?_
 all_goals refine tri_region ?_
 all_goals refine oc (x_bx 7 ?_)
 all_goals refine oc (x_assign ?_)
 all_goals refine ops_nil ?_
 all_goals refine seqQ_n ?_
 all_goals refine tri_seq ?_
 all_goals refine tri_region ?_
 all_goals refine oc ?_
 all_goals (first | refine x_lda ?_ | refine x_ldra ?_ | refine x_ldp ?_ | refine x_ldrp ?_)
 all_goals refine oc ?_
 all_goals (refine op_callA rfl rfl rfl rfl rfl ⟨_, Try.func8, by decide, rfl⟩ (.cons (.pure rfl) .nil) (plain_w c hc) shut0 ?_)
 all_goals (rintro _ H' m ⟨rfl, rfl⟩)
 all_goals refine oc ?_
 all_goals (first | refine op_not_d rfl rfl rfl ?_ | refine x_not ?_)
 all_goals refine oc (x_assign ?_)
 all_goals refine ops_nil ?_
 all_goals refine seqQ_n ?_
 all_goals refine tri_ret ?_
 all_goals refine retE_r [] (.cons (.tmp (by conv => lhs; whnf) rfl) .nil) rfl rfl (by first | exact (ren_pure (by rfl)).trans (by conv => lhs; whnf) | ((conv => lhs; whnf); done) | rfl) (.nil) ?_
 all_goals (exact ⟨rfl, rfl⟩)

end Go.Proofs.Ytjalgcjllddmhaa

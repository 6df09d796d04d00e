/- A text of the proof of JournalTorn: JW6 -/
import Derived.Test.YtjalgcjllddmhaaProg
import Derived.Test.YtjalgcjllddmhaaAvShort
import Derived.Test.YtjalgcjllddmhaaAvAppS
import Derived.Test.YtjalgcjllddmhaaAvSnap
import Derived.Test.YtjalgcjllddmhaaAvAny
import Derived.Test.YtjalgcjllddmhaaAvLit
import Derived.Test.YtjalgcjllddmhaaJDec
import Derived.Test.YtjalgcjllddmhaaJW1
import Derived.Test.YtjalgcjllddmhaaJW2
import Derived.Test.YtjalgcjllddmhaaJW3
import Derived.Test.YtjalgcjllddmhaaJW4
import Derived.Test.YtjalgcjllddmhaaJW5

set_option linter.unusedSimpArgs false
set_option linter.unusedVariables false
set_option maxHeartbeats 8000000
set_option maxRecDepth 100000
namespace Go.Proofs.Ytjalgcjllddmhaa
open Go.Av
/-- the walk of casebook/journal.Decode -/
theorem decode_w (b : List UInt8) (hl : b.length ≤ 2 ^ 46) : HSpec Try.prog 38 [.sl 1 (bytesAV b)] [] fun r H' _ => r = .tup [cmdAV (decode b).1, iv (decode b).2] ∧ H' = [] := by
 obtain ⟨z1, z2, z3, z4, z5⟩ := rdCmd_sizes ⟨b, false⟩
 simp only at z1 z2 z3 z4 z5
 refine hspec_intro Try.func38 rfl rfl ?_
 all_goals refine tri_seq ?_
 all_goals refine tri_region ?_
 all_goals refine oc (x_al 7 ?_)
 all_goals refine oc (x_assign ?_)
 all_goals refine ops_nil ?_
 all_goals refine seqQ_n ?_
 all_goals refine tri_seq ?_
 all_goals refine tri_seq ?_
 all_goals refine tri_region ?_
 all_goals refine oc (x_move ?_)
 all_goals refine oc ?_
 all_goals (first | refine op_len_sl rfl (by first | (conv => lhs; simp only [List.length_map, bytesAV_length]) | rfl) rfl rfl rfl ?_ | refine x_leno ?_ | refine x_lenn ?_)
 all_goals refine oc (x_gtr ?_)
 all_goals refine ops_nil ?_
 all_goals refine seqQ_n ?_
 all_goals (
  first | refine tri_cond_d rfl rfl (fun hc => ?_) (fun hc => ?_) | refine ct (fun hc => ?_) (fun hc => ?_) | refine cf (fun hc => ?_) (fun hc => ?_) | refine cb (fun hc => ?_) (fun hc => ?_)
  focus
   try (exfalso; first | exact hc | omega)
   all_goals refine tri_seq ?_
   all_goals refine tri_region ?_
   all_goals refine oc (x_b0_7 ?_)
   all_goals refine oc (x_st7 ?_)
   all_goals refine oc (x_assign ?_)
   all_goals refine ops_nil ?_
   all_goals refine seqQ_n ?_
   all_goals (refine tri_le (lit_snapO 0 (by first | ((conv => lhs; whnf; arg 1; whnf); done) | rfl | assumption | (simp; done)) (by conv => lhs; whnf; congr; { whnf }; { whnf; congr; { whnf }; { whnf; congr; { whnf }; { whnf; congr; { whnf }; { whnf; congr; { whnf }; { whnf; congr; { whnf }; { whnf; congr; { whnf }; { whnf } } } } } } }) (by exact .cons (.pure rfl) (.cons (.pure rfl) (.cons (.pure rfl) (.cons (.pure rfl) (.cons (.pure rfl) (.cons (.pure rfl) (.cons (by first | exact SnapR.nil (sz := 3) | exact .pure rfl) .nil))))))) (by rfl) (by rfl) (by rfl)) ?_)
   all_goals refine tri_ret ?_
   all_goals refine seqQ_r ?_
   all_goals refine retE_r [] (.cons (by first | exact .cellAgg rfl rfl rfl rfl rfl rfl rfl rfl | exact .cell1 rfl rfl rfl rfl rfl rfl rfl) (.cons (.tmp (by conv => lhs; whnf) rfl) .nil)) rfl rfl (by first | exact (ren_pure (by rfl)).trans (by conv => lhs; whnf) | ((conv => lhs; whnf); done) | rfl) (.nil) ?_
   all_goals (
    first
    | (have hd : decode b = (zeroC, 5) := if_pos (by omega)
       rw [hd]; exact ⟨rfl, rfl⟩)
    | (have hd : decode b = (zeroC, 3) := by unfold decode; dsimp only; rw [if_neg (by omega), if_pos (by simp_all)]
       rw [hd]; exact ⟨rfl, rfl⟩)
    | (have hd : decode b = ((rdCmd ⟨b, false⟩).1, 0) := by unfold decode; dsimp only; rw [if_neg (by omega), if_neg (by simp_all)]
       rw [hd]; exact ⟨rfl, rfl⟩))
  rotate_right 1
  focus
   try (exfalso; first | exact hc | omega)
   all_goals refine tri_skip ?_)
 all_goals refine seqQ_n ?_
 all_goals refine tri_seq ?_
 all_goals refine tri_region ?_
 all_goals refine oc (x_move ?_)
 all_goals refine oc (x_b1_2 ?_)
 all_goals refine oc (x_bx 2 ?_)
 all_goals refine oc (x_assign ?_)
 all_goals refine ops_nil ?_
 all_goals refine seqQ_n ?_
 all_goals refine tri_seq ?_
 all_goals refine tri_region ?_
 all_goals refine oc (x_move ?_)
 all_goals refine oc ?_
 all_goals (refine lit_callG [1] [] rfl rfl rfl rfl rfl ⟨_, Try.func47, by decide, rfl⟩ rfl rfl (.cons (.own (by conv => lhs; whnf)) .nil) rfl (by rfl) (rdCmd_w ⟨b, false⟩ (by dsimp only; omega)) (by rintro r H' m ⟨rfl, rfl, hm⟩; exact hand_one (by simp) hm) (by first | exact (rfl : _ = 0) | exact (rfl : _ = 1) | exact (rfl : _ = 2) | exact (rfl : _ = 3) | exact (rfl : _ = 4) | exact (rfl : _ = 5) | exact (rfl : _ = 6) | exact (rfl : _ = 7) | exact (rfl : _ = 8) | exact (rfl : _ = 9) | exact (rfl : _ = 10) | exact (rfl : _ = 11)) (by conv => lhs; whnf) ?_)
 all_goals (rintro _ H' m ⟨rfl, rfl, hm⟩)
 all_goals refine oc (x_al 7 ?_)
 all_goals refine oc (x_st7 ?_)
 all_goals refine ops_nil ?_
 all_goals refine seqQ_n ?_
 all_goals refine tri_seq ?_
 all_goals refine tri_seq ?_
 all_goals refine tri_region ?_
 all_goals refine oc (x_move ?_)
 all_goals refine oc ?_
 all_goals (first | refine op_nilCheck_ptr rfl rfl rfl ?_ | refine op_nilCheck_rp rfl rfl rfl ?_)
 all_goals refine oc ?_
 all_goals (first | refine x_fa0 ?_ | refine x_far0 ?_ | refine x_fa ?_ | refine x_far ?_)
 all_goals refine oc ?_
 all_goals (first | refine x_ld ?_ | refine x_ldr ?_)
 all_goals refine oc (x_move ?_)
 all_goals (first | refine gU ?_ | refine gY ?_ | refine gN ?_ | refine ops_guardFd rfl rfl rfl rfl rfl rfl (fun hg => ?_) (fun hg => ?_) | refine gF (fun hg => ?_) (fun hg => ?_))
 all_goals try (exfalso; omega)
 all_goals (first | refine ops_here ?_ | (first | refine x_lda ?_ | refine x_ldra ?_ | refine x_ldp ?_ | refine x_ldrp ?_))
 all_goals (first | refine gU ?_ | refine gY ?_ | refine gN ?_ | refine ops_guardFd rfl rfl rfl rfl rfl rfl (fun hg => ?_) (fun hg => ?_) | refine gF (fun hg => ?_) (fun hg => ?_))
 all_goals try (exfalso; omega)
 all_goals (first | refine ops_here ?_ | (refine op_callA rfl rfl rfl rfl rfl ⟨_, Try.func25, by decide, rfl⟩ (.cons (.pure rfl) .nil) (formed_w (rdCmd ⟨b, false⟩).1 (by omega) (by omega) (by omega) (by omega) (fun v hv => by have := z5 v hv; omega)) shut0 ?_))
 all_goals (first | refine ops_here ?_ | (rintro _ H' m ⟨rfl, rfl⟩))
 all_goals (first | refine gU ?_ | refine gY ?_ | refine gN ?_ | refine ops_guardFd rfl rfl rfl rfl rfl rfl (fun hg => ?_) (fun hg => ?_) | refine gF (fun hg => ?_) (fun hg => ?_))
 all_goals try (exfalso; omega)
 all_goals (first | refine ops_here ?_ | (first | refine op_not_d rfl rfl rfl ?_ | refine x_not ?_))
 all_goals refine oc ?_
 all_goals (first | refine x_pt ?_ | refine x_pf ?_ | refine x_pb ?_)
 all_goals refine oc (x_move ?_)
 all_goals (first | refine gU ?_ | refine gY ?_ | refine gN ?_ | refine ops_guardFd rfl rfl rfl rfl rfl rfl (fun hg => ?_) (fun hg => ?_) | refine gF (fun hg => ?_) (fun hg => ?_))
 all_goals try (exfalso; omega)
 all_goals (first | refine ops_here ?_ | (first | refine x_lda ?_ | refine x_ldra ?_ | refine x_ldp ?_ | refine x_ldrp ?_))
 all_goals (first | refine gU ?_ | refine gY ?_ | refine gN ?_ | refine ops_guardFd rfl rfl rfl rfl rfl rfl (fun hg => ?_) (fun hg => ?_) | refine gF (fun hg => ?_) (fun hg => ?_))
 all_goals try (exfalso; omega)
 all_goals (first | refine ops_here ?_ | (refine op_callB rfl rfl rfl rfl rfl ⟨_, Try.func31, by decide, rfl⟩ (.cons (.pure rfl) .nil) (code_w (rdCmd ⟨b, false⟩).1 (by first | assumption | simp_all)) ?_))
 all_goals (first | refine ops_here ?_ | (rintro _ H' m ⟨rfl, rfl⟩))
 all_goals (first | refine gU ?_ | refine gY ?_ | refine gN ?_ | refine ops_guardFd rfl rfl rfl rfl rfl rfl (fun hg => ?_) (fun hg => ?_) | refine gF (fun hg => ?_) (fun hg => ?_))
 all_goals try (exfalso; omega)
 all_goals (first | refine ops_here ?_ | (refine x_move ?_))
 all_goals (first | refine gU ?_ | refine gY ?_ | refine gN ?_ | refine ops_guardFd rfl rfl rfl rfl rfl rfl (fun hg => ?_) (fun hg => ?_) | refine gF (fun hg => ?_) (fun hg => ?_))
 all_goals try (exfalso; omega)
 all_goals (first | refine ops_here ?_ | (refine op_callA rfl rfl rfl rfl rfl ⟨_, Try.func20, by decide, rfl⟩ (.cons (.pure rfl) (.cons (.pure rfl) .nil)) (bytesEq_w (code (rdCmd ⟨b, false⟩).1) b) shut0 ?_))
 all_goals (first | refine ops_here ?_ | (rintro _ H' m ⟨rfl, rfl⟩))
 all_goals (first | refine gU ?_ | refine gY ?_ | refine gN ?_ | refine ops_guardFd rfl rfl rfl rfl rfl rfl (fun hg => ?_) (fun hg => ?_) | refine gF (fun hg => ?_) (fun hg => ?_))
 all_goals try (exfalso; omega)
 all_goals (first | refine ops_here ?_ | (first | refine op_not_d rfl rfl rfl ?_ | refine x_not ?_))
 all_goals refine oc ?_
 all_goals (first | refine x_pt ?_ | refine x_pf ?_ | refine x_pb ?_)
 all_goals refine ops_nil ?_
 all_goals refine seqQ_n ?_
 all_goals (
  first | refine tri_cond_d rfl rfl (fun hc => ?_) (fun hc => ?_) | refine ct (fun hc => ?_) (fun hc => ?_) | refine cf (fun hc => ?_) (fun hc => ?_) | refine cb (fun hc => ?_) (fun hc => ?_)
  focus
   try (exfalso; first | exact hc | omega)
   all_goals refine tri_seq ?_
   all_goals refine tri_region ?_
   all_goals refine oc (x_b0_7 ?_)
   all_goals refine oc (x_st7 ?_)
   all_goals refine oc (x_assign ?_)
   all_goals refine ops_nil ?_
   all_goals refine seqQ_n ?_
   all_goals (refine tri_le (lit_snapO 0 (by first | ((conv => lhs; whnf; arg 1; whnf); done) | rfl | assumption | (simp; done)) (by conv => lhs; whnf; congr; { whnf }; { whnf; congr; { whnf }; { whnf; congr; { whnf }; { whnf; congr; { whnf }; { whnf; congr; { whnf }; { whnf; congr; { whnf }; { whnf; congr; { whnf }; { whnf } } } } } } }) (by exact .cons (.pure rfl) (.cons (.pure rfl) (.cons (.pure rfl) (.cons (.pure rfl) (.cons (.pure rfl) (.cons (.pure rfl) (.cons (by first | exact SnapR.nil (sz := 3) | exact .pure rfl) .nil))))))) (by rfl) (by rfl) (by rfl)) ?_)
   all_goals refine tri_ret ?_
   all_goals refine seqQ_r ?_
   all_goals refine retE_r [] (.cons (by first | exact .cellAgg rfl rfl rfl rfl rfl rfl rfl rfl | exact .cell1 rfl rfl rfl rfl rfl rfl rfl) (.cons (.tmp (by conv => lhs; whnf) rfl) .nil)) rfl rfl (by first | exact (ren_pure (by rfl)).trans (by conv => lhs; whnf) | ((conv => lhs; whnf); done) | rfl) (.nil) ?_
   all_goals (
    first
    | (have hd : decode b = (zeroC, 5) := if_pos (by omega)
       rw [hd]; exact ⟨rfl, rfl⟩)
    | (have hd : decode b = (zeroC, 3) := by unfold decode; dsimp only; rw [if_neg (by omega), if_pos (by simp_all)]
       rw [hd]; exact ⟨rfl, rfl⟩)
    | (have hd : decode b = ((rdCmd ⟨b, false⟩).1, 0) := by unfold decode; dsimp only; rw [if_neg (by omega), if_neg (by simp_all)]
       rw [hd]; exact ⟨rfl, rfl⟩))
  rotate_right 1
  focus
   try (exfalso; first | exact hc | omega)
   all_goals refine tri_skip ?_)
 all_goals refine seqQ_n ?_
 all_goals refine tri_seq ?_
 all_goals refine tri_region ?_
 all_goals refine oc ?_
 all_goals (first | refine x_lda ?_ | refine x_ldra ?_ | refine x_ldp ?_ | refine x_ldrp ?_)
 all_goals refine oc (x_st7 ?_)
 all_goals refine oc (x_assign ?_)
 all_goals refine ops_nil ?_
 all_goals refine seqQ_n ?_
 all_goals (refine tri_le (lit_snapO 0 (by first | ((conv => lhs; whnf; arg 1; whnf); done) | rfl | assumption | (simp; done)) (by conv => lhs; whnf; congr; { whnf }; { whnf; congr; { whnf }; { whnf; congr; { whnf }; { whnf; congr; { whnf }; { whnf; congr; { whnf }; { whnf; congr; { whnf }; { whnf; congr; { whnf }; { whnf } } } } } } }) (by exact .cons (.pure rfl) (.cons (.pure rfl) (.cons (.pure rfl) (.cons (.pure rfl) (.cons (.pure rfl) (.cons (.pure rfl) (.cons (by first | exact SnapR.nil (sz := 3) | exact .pure rfl) .nil))))))) (by rfl) (by rfl) (by rfl)) ?_)
 all_goals refine tri_ret ?_
 all_goals refine retE_r [] (.cons (by first | exact .cellAgg rfl rfl rfl rfl rfl rfl rfl rfl | exact .cell1 rfl rfl rfl rfl rfl rfl rfl) (.cons (.tmp (by conv => lhs; whnf) rfl) .nil)) rfl rfl (by first | exact (ren_pure (by rfl)).trans (by conv => lhs; whnf) | ((conv => lhs; whnf); done) | rfl) (.nil) ?_
 all_goals (
  first
  | (have hd : decode b = (zeroC, 5) := if_pos (by omega)
     rw [hd]; exact ⟨rfl, rfl⟩)
  | (have hd : decode b = (zeroC, 3) := by unfold decode; dsimp only; rw [if_neg (by omega), if_pos (by simp_all)]
     rw [hd]; exact ⟨rfl, rfl⟩)
  | (have hd : decode b = ((rdCmd ⟨b, false⟩).1, 0) := by unfold decode; dsimp only; rw [if_neg (by omega), if_neg (by simp_all)]
     rw [hd]; exact ⟨rfl, rfl⟩))

end Go.Proofs.Ytjalgcjllddmhaa

/- A text of the proof of JournalSurvives: JW6 -/
import Derived.Test.YtjalgcjllddmhaaProg
import Derived.Test.YtjalgcjllddmhaaAvAppS
import Derived.Test.YtjalgcjllddmhaaAvSnap
import Derived.Test.YtjalgcjllddmhaaAvAny
import Derived.Test.YtjalgcjllddmhaaAvLit
import Derived.Test.YtjalgcjllddmhaaJDec
import Derived.Test.YtjalgcjllddmhaaJW1
import Derived.Test.YtjalgcjllddmhaaJW2
import Derived.Test.YtjalgcjllddmhaaJW3
import Derived.Test.YtjalgcjllddmhaaJW4
import Derived.Test.YtjalgcjllddmhaaJW5

set_option linter.unusedSimpArgs false
set_option linter.unusedVariables false
set_option maxHeartbeats 8000000
namespace Go.Proofs.Ytjalgcjllddmhaa
open Go.Av
/-- the walk of casebook/journal.Decode -/
theorem decode_w (b : List UInt8) (hl : b.length ≤ 2 ^ 46) : HSpec Try.prog 38 [.sl 1 (bytesAV b)] [] fun r H' _ => r = .tup [cmdAV (decode b).1, iv (decode b).2] ∧ H' = [] := by
  obtain ⟨z1, z2, z3, z4, z5⟩ := rdCmd_sizes ⟨b, false⟩
  simp only at z1 z2 z3 z4 z5
  refine hspec_intro Try.func38 rfl rfl ?_
  all_goals refine tri_seq ?_
  all_goals refine tri_region ?_
  all_goals refine ops_cons rfl ?_
  all_goals (refine lit_alloc 7 (by rfl) (by rfl) (by conv => lhs; whnf) (by first | exact (rfl : _ = 0) | exact (rfl : _ = 1) | exact (rfl : _ = 2) | exact (rfl : _ = 3) | exact (rfl : _ = 4) | exact (rfl : _ = 5) | exact (rfl : _ = 6) | exact (rfl : _ = 7) | exact (rfl : _ = 8) | exact (rfl : _ = 9) | exact (rfl : _ = 10) | exact (rfl : _ = 11)) (by rfl) (by rfl) (by rfl) (by rfl) ?_)
  all_goals refine ops_cons rfl ?_
  all_goals (refine op_assign (by conv => lhs; whnf) rfl rfl ?_)
  all_goals refine ops_nil ?_
  all_goals refine seqQ_n ?_
  all_goals refine tri_seq ?_
  all_goals refine tri_seq ?_
  all_goals refine tri_region ?_
  all_goals refine ops_cons rfl ?_
  all_goals (refine op_move (by conv => lhs; whnf) rfl rfl ?_)
  all_goals refine ops_cons rfl ?_
  all_goals (first | refine op_len_sl rfl (by first | (conv => lhs; simp only [List.length_map, bytesAV_length]) | rfl) rfl rfl rfl ?_ | refine op_len_osl rfl rfl rfl rfl ?_ | refine op_len_nil rfl rfl rfl rfl ?_)
  all_goals refine ops_cons rfl ?_
  all_goals (refine op_gtr rfl rfl rfl rfl rfl ?_)
  all_goals refine ops_nil ?_
  all_goals refine seqQ_n ?_
  all_goals (
    first | refine tri_cond_d rfl rfl (fun hc => ?_) (fun hc => ?_) | refine tri_cond_t rfl rfl (fun hc => ?_) (fun hc => ?_) | refine tri_cond_f rfl rfl (fun hc => ?_) (fun hc => ?_) | refine tri_cond rfl rfl (fun hc => ?_) (fun hc => ?_)
    focus
      try (exfalso; first | exact hc | omega)
      all_goals refine tri_seq ?_
      all_goals refine tri_region ?_
      all_goals refine ops_cons rfl ?_
      all_goals (refine op_build (by rfl) (by rfl) (by rfl) (by rfl) (by conv => lhs; whnf) (by conv => lhs; whnf; arg 1; whnf; congr; { whnf }; { whnf; congr; { whnf }; { whnf; congr; { whnf }; { whnf; congr; { whnf }; { whnf; congr; { whnf }; { whnf; congr; { whnf }; { whnf; congr; { whnf }; { whnf } } } } } } }) (by rfl) (by rfl) ?_)
      all_goals refine ops_cons rfl ?_
      all_goals (refine lit_store_el (by conv => lhs; whnf) (by conv => lhs; whnf) (by rfl) (by rfl) (by first | ((conv => lhs; whnf; arg 1; whnf); done) | rfl | assumption | (simp; done)) (by first | ((conv => lhs; whnf; arg 1; whnf); done) | rfl | assumption | (simp; done)) (by rfl) (by rfl) (by rfl) (by rfl) (by rfl) (by first | exact .inl rfl | exact .inr rfl) (by conv => lhs; first | simp only [List.set_cons_zero, List.set_cons_succ] | skip) ?_)
      all_goals refine ops_cons rfl ?_
      all_goals (refine op_assign (by conv => lhs; whnf) rfl rfl ?_)
      all_goals refine ops_nil ?_
      all_goals refine seqQ_n ?_
      all_goals (refine tri_le (lit_snapO 0 (by first | ((conv => lhs; whnf; arg 1; whnf); done) | rfl | assumption | (simp; done)) (by conv => lhs; whnf; congr; { whnf }; { whnf; congr; { whnf }; { whnf; congr; { whnf }; { whnf; congr; { whnf }; { whnf; congr; { whnf }; { whnf; congr; { whnf }; { whnf; congr; { whnf }; { whnf } } } } } } }) (by exact .cons (.pure rfl) (.cons (.pure rfl) (.cons (.pure rfl) (.cons (.pure rfl) (.cons (.pure rfl) (.cons (.pure rfl) (.cons (by first | exact SnapR.nil (sz := 3) | exact .pure rfl) .nil))))))) (by rfl) (by rfl) (by rfl)) ?_)
      all_goals refine tri_ret ?_
      all_goals refine seqQ_r ?_
      all_goals refine retE_r [] (.cons (by first | exact .cellAgg rfl rfl rfl rfl rfl rfl rfl rfl | exact .cell1 rfl rfl rfl rfl rfl rfl rfl) (.cons (.tmp (by conv => lhs; whnf) rfl) .nil)) rfl rfl (by first | exact (ren_pure (by rfl)).trans (by conv => lhs; whnf) | conv => lhs; whnf) (.nil) ?_
      all_goals (
        first
        | (have hd : decode b = (zeroC, 5) := if_pos (by omega)
           rw [hd]; exact ⟨rfl, rfl⟩)
        | (have hd : decode b = (zeroC, 3) := by unfold decode; dsimp only; rw [if_neg (by omega), if_pos (by simp_all)]
           rw [hd]; exact ⟨rfl, rfl⟩)
        | (have hd : decode b = ((rdCmd ⟨b, false⟩).1, 0) := by unfold decode; dsimp only; rw [if_neg (by omega), if_neg (by simp_all)]
           rw [hd]; exact ⟨rfl, rfl⟩))
    rotate_right 1
    focus
      try (exfalso; first | exact hc | omega)
      all_goals refine tri_skip ?_)
  all_goals refine seqQ_n ?_
  all_goals refine tri_seq ?_
  all_goals refine tri_region ?_
  all_goals refine ops_cons rfl ?_
  all_goals (refine op_move (by conv => lhs; whnf) rfl rfl ?_)
  all_goals refine ops_cons rfl ?_
  all_goals (refine op_build (by rfl) (by rfl) (by rfl) (by rfl) (by conv => lhs; whnf; congr; { whnf; congr; { whnf }; { whnf } }; { whnf }) (by conv => lhs; whnf; arg 1; whnf; congr; { whnf }; { whnf; congr; { whnf }; { whnf } }) (by rfl) (by rfl) ?_)
  all_goals refine ops_cons rfl ?_
  all_goals (refine lit_box 2 (by conv => lhs; whnf) (by first | exact (rfl : _ = 0) | exact (rfl : _ = 1) | exact (rfl : _ = 2) | exact (rfl : _ = 3) | exact (rfl : _ = 4) | exact (rfl : _ = 5) | exact (rfl : _ = 6) | exact (rfl : _ = 7) | exact (rfl : _ = 8) | exact (rfl : _ = 9) | exact (rfl : _ = 10) | exact (rfl : _ = 11)) (by rfl) (by rfl) (by rfl) (by rfl) (by rfl) ?_)
  all_goals refine ops_cons rfl ?_
  all_goals (refine op_assign (by conv => lhs; whnf) rfl rfl ?_)
  all_goals refine ops_nil ?_
  all_goals refine seqQ_n ?_
  all_goals refine tri_seq ?_
  all_goals refine tri_region ?_
  all_goals refine ops_cons rfl ?_
  all_goals (refine op_move (by conv => lhs; whnf) rfl rfl ?_)
  all_goals refine ops_cons rfl ?_
  all_goals (refine lit_callG [1] [] rfl rfl rfl rfl rfl ⟨_, Try.func47, by decide, rfl⟩ rfl rfl (.cons (.own (by conv => lhs; whnf)) .nil) rfl (by rfl) (rdCmd_w ⟨b, false⟩ (by dsimp only; omega)) (by rintro r H' m ⟨rfl, rfl, hm⟩; exact hand_one (by simp) hm) (by first | exact (rfl : _ = 0) | exact (rfl : _ = 1) | exact (rfl : _ = 2) | exact (rfl : _ = 3) | exact (rfl : _ = 4) | exact (rfl : _ = 5) | exact (rfl : _ = 6) | exact (rfl : _ = 7) | exact (rfl : _ = 8) | exact (rfl : _ = 9) | exact (rfl : _ = 10) | exact (rfl : _ = 11)) (by conv => lhs; whnf) ?_)
  all_goals (rintro _ H' m ⟨rfl, rfl, hm⟩)
  all_goals refine ops_cons rfl ?_
  all_goals (refine lit_alloc 7 (by rfl) (by rfl) (by conv => lhs; whnf) (by first | exact (rfl : _ = 0) | exact (rfl : _ = 1) | exact (rfl : _ = 2) | exact (rfl : _ = 3) | exact (rfl : _ = 4) | exact (rfl : _ = 5) | exact (rfl : _ = 6) | exact (rfl : _ = 7) | exact (rfl : _ = 8) | exact (rfl : _ = 9) | exact (rfl : _ = 10) | exact (rfl : _ = 11)) (by rfl) (by rfl) (by rfl) (by rfl) ?_)
  all_goals refine ops_cons rfl ?_
  all_goals (refine lit_store_el (by conv => lhs; whnf) (by conv => lhs; whnf) (by rfl) (by rfl) (by first | ((conv => lhs; whnf; arg 1; whnf); done) | rfl | assumption | (simp; done)) (by first | ((conv => lhs; whnf; arg 1; whnf); done) | rfl | assumption | (simp; done)) (by rfl) (by rfl) (by rfl) (by rfl) (by rfl) (by first | exact .inl rfl | exact .inr rfl) (by conv => lhs; first | simp only [List.set_cons_zero, List.set_cons_succ] | skip) ?_)
  all_goals refine ops_nil ?_
  all_goals refine seqQ_n ?_
  all_goals refine tri_seq ?_
  all_goals refine tri_seq ?_
  all_goals refine tri_region ?_
  all_goals refine ops_cons rfl ?_
  all_goals (refine op_move (by conv => lhs; whnf) rfl rfl ?_)
  all_goals refine ops_cons rfl ?_
  all_goals (first | refine op_nilCheck_ptr rfl rfl rfl ?_ | refine op_nilCheck_rp rfl rfl rfl ?_)
  all_goals refine ops_cons rfl ?_
  all_goals (first | refine op_fieldAddr0 rfl rfl rfl rfl rfl rfl (by conv => lhs; whnf) ?_ | refine op_fieldAddr_rp0 rfl rfl rfl rfl rfl rfl (by conv => lhs; whnf) ?_ | refine op_fieldAddr rfl rfl rfl rfl rfl rfl ?_ | refine op_fieldAddr_rp rfl rfl rfl rfl rfl rfl ?_)
  all_goals refine ops_cons rfl ?_
  all_goals (first | refine op_load (by conv => lhs; whnf) (by rfl) (by rfl) (by first | ((conv => lhs; whnf; arg 1; whnf); done) | rfl | assumption | (simp; done)) (by rfl) (by first | ((conv => lhs; whnf; arg 1; whnf); done) | rfl | assumption | (simp; done)) (by first | ((conv => lhs; whnf; arg 1; whnf); done) | rfl | assumption | (simp; done)) (by rfl) ?_ | refine op_load_rp (by conv => lhs; whnf) (by rfl) (by rfl) (by first | ((conv => lhs; whnf; arg 1; whnf); done) | rfl | assumption | (simp; done)) (by rfl) ?_)
  all_goals refine ops_cons rfl ?_
  all_goals (refine op_move (by conv => lhs; whnf) rfl rfl ?_)
  all_goals (first | refine ops_guardU rfl rfl rfl rfl rfl rfl ?_ | refine ops_guardY rfl rfl rfl rfl ?_ | refine ops_guardN rfl rfl rfl rfl rfl rfl ?_ | refine ops_guardFd rfl rfl rfl rfl rfl rfl (fun hg => ?_) (fun hg => ?_) | refine ops_guardF rfl rfl rfl rfl rfl rfl (fun hg => ?_) (fun hg => ?_))
  all_goals try (exfalso; omega)
  all_goals (first | refine ops_here ?_ | (first | refine op_load_agg (by conv => lhs; whnf) (by rfl) (by rfl) (by first | ((conv => lhs; whnf; arg 1; whnf); done) | rfl | assumption | (simp; done)) (by rfl) (by first | ((conv => lhs; whnf; arg 1; whnf); done) | rfl | assumption | (simp; done)) (by rfl) (by rfl) (by rfl) ?_ | refine op_load_rp_agg (by conv => lhs; whnf) (by rfl) (by rfl) (by rfl) (by rfl) (by rfl) ?_ | refine op_load_part (by conv => lhs; whnf) (by rfl) (by rfl) (by first | ((conv => lhs; whnf; arg 1; whnf); done) | rfl | assumption | (simp; done)) (by rfl) (by first | ((conv => lhs; whnf; arg 1; whnf); done) | rfl | assumption | (simp; done)) (by rfl) (by rfl) (by rfl) (by conv => lhs; whnf) ?_ | refine op_load_rp_part (by conv => lhs; whnf) (by rfl) (by rfl) (by rfl) (by rfl) (by rfl) (by conv => lhs; whnf) ?_))
  all_goals (first | refine ops_guardU rfl rfl rfl rfl rfl rfl ?_ | refine ops_guardY rfl rfl rfl rfl ?_ | refine ops_guardN rfl rfl rfl rfl rfl rfl ?_ | refine ops_guardFd rfl rfl rfl rfl rfl rfl (fun hg => ?_) (fun hg => ?_) | refine ops_guardF rfl rfl rfl rfl rfl rfl (fun hg => ?_) (fun hg => ?_))
  all_goals try (exfalso; omega)
  all_goals (first | refine ops_here ?_ | (refine op_callA rfl rfl rfl rfl rfl ⟨_, Try.func25, by decide, rfl⟩ (.cons (.pure rfl) .nil) (formed_w (rdCmd ⟨b, false⟩).1 (by omega) (by omega) (by omega) (by omega) (fun v hv => by have := z5 v hv; omega)) (by rintro r H' m ⟨rfl, rfl⟩; exact ⟨rfl, by simp⟩) ?_))
  all_goals (first | refine ops_here ?_ | (rintro _ H' m ⟨rfl, rfl⟩))
  all_goals (first | refine ops_guardU rfl rfl rfl rfl rfl rfl ?_ | refine ops_guardY rfl rfl rfl rfl ?_ | refine ops_guardN rfl rfl rfl rfl rfl rfl ?_ | refine ops_guardFd rfl rfl rfl rfl rfl rfl (fun hg => ?_) (fun hg => ?_) | refine ops_guardF rfl rfl rfl rfl rfl rfl (fun hg => ?_) (fun hg => ?_))
  all_goals try (exfalso; omega)
  all_goals (first | refine ops_here ?_ | (first | refine op_not_d rfl rfl rfl ?_ | refine op_not rfl rfl rfl ?_))
  all_goals refine ops_cons rfl ?_
  all_goals (first | refine op_pick_true rfl (by conv => lhs; whnf) rfl rfl rfl ?_ | refine op_pick_false rfl (by conv => lhs; whnf) rfl rfl rfl ?_ | refine op_pick_bool rfl rfl rfl rfl rfl rfl rfl ?_)
  all_goals refine ops_cons rfl ?_
  all_goals (refine op_move (by conv => lhs; whnf) rfl rfl ?_)
  all_goals (first | refine ops_guardU rfl rfl rfl rfl rfl rfl ?_ | refine ops_guardY rfl rfl rfl rfl ?_ | refine ops_guardN rfl rfl rfl rfl rfl rfl ?_ | refine ops_guardFd rfl rfl rfl rfl rfl rfl (fun hg => ?_) (fun hg => ?_) | refine ops_guardF rfl rfl rfl rfl rfl rfl (fun hg => ?_) (fun hg => ?_))
  all_goals try (exfalso; omega)
  all_goals (first | refine ops_here ?_ | (first | refine op_load_agg (by conv => lhs; whnf) (by rfl) (by rfl) (by first | ((conv => lhs; whnf; arg 1; whnf); done) | rfl | assumption | (simp; done)) (by rfl) (by first | ((conv => lhs; whnf; arg 1; whnf); done) | rfl | assumption | (simp; done)) (by rfl) (by rfl) (by rfl) ?_ | refine op_load_rp_agg (by conv => lhs; whnf) (by rfl) (by rfl) (by rfl) (by rfl) (by rfl) ?_ | refine op_load_part (by conv => lhs; whnf) (by rfl) (by rfl) (by first | ((conv => lhs; whnf; arg 1; whnf); done) | rfl | assumption | (simp; done)) (by rfl) (by first | ((conv => lhs; whnf; arg 1; whnf); done) | rfl | assumption | (simp; done)) (by rfl) (by rfl) (by rfl) (by conv => lhs; whnf) ?_ | refine op_load_rp_part (by conv => lhs; whnf) (by rfl) (by rfl) (by rfl) (by rfl) (by rfl) (by conv => lhs; whnf) ?_))
  all_goals (first | refine ops_guardU rfl rfl rfl rfl rfl rfl ?_ | refine ops_guardY rfl rfl rfl rfl ?_ | refine ops_guardN rfl rfl rfl rfl rfl rfl ?_ | refine ops_guardFd rfl rfl rfl rfl rfl rfl (fun hg => ?_) (fun hg => ?_) | refine ops_guardF rfl rfl rfl rfl rfl rfl (fun hg => ?_) (fun hg => ?_))
  all_goals try (exfalso; omega)
  all_goals (first | refine ops_here ?_ | (refine op_callB rfl rfl rfl rfl rfl ⟨_, Try.func31, by decide, rfl⟩ (.cons (.pure rfl) .nil) (code_w (rdCmd ⟨b, false⟩).1 (by first | assumption | simp_all)) ?_))
  all_goals (first | refine ops_here ?_ | (rintro _ H' m ⟨rfl, rfl⟩))
  all_goals (first | refine ops_guardU rfl rfl rfl rfl rfl rfl ?_ | refine ops_guardY rfl rfl rfl rfl ?_ | refine ops_guardN rfl rfl rfl rfl rfl rfl ?_ | refine ops_guardFd rfl rfl rfl rfl rfl rfl (fun hg => ?_) (fun hg => ?_) | refine ops_guardF rfl rfl rfl rfl rfl rfl (fun hg => ?_) (fun hg => ?_))
  all_goals try (exfalso; omega)
  all_goals (first | refine ops_here ?_ | (refine op_move (by conv => lhs; whnf) rfl rfl ?_))
  all_goals (first | refine ops_guardU rfl rfl rfl rfl rfl rfl ?_ | refine ops_guardY rfl rfl rfl rfl ?_ | refine ops_guardN rfl rfl rfl rfl rfl rfl ?_ | refine ops_guardFd rfl rfl rfl rfl rfl rfl (fun hg => ?_) (fun hg => ?_) | refine ops_guardF rfl rfl rfl rfl rfl rfl (fun hg => ?_) (fun hg => ?_))
  all_goals try (exfalso; omega)
  all_goals (first | refine ops_here ?_ | (refine op_callA rfl rfl rfl rfl rfl ⟨_, Try.func20, by decide, rfl⟩ (.cons (.pure rfl) (.cons (.pure rfl) .nil)) (bytesEq_w (code (rdCmd ⟨b, false⟩).1) b) (by rintro r H' m ⟨rfl, rfl⟩; exact ⟨rfl, by simp⟩) ?_))
  all_goals (first | refine ops_here ?_ | (rintro _ H' m ⟨rfl, rfl⟩))
  all_goals (first | refine ops_guardU rfl rfl rfl rfl rfl rfl ?_ | refine ops_guardY rfl rfl rfl rfl ?_ | refine ops_guardN rfl rfl rfl rfl rfl rfl ?_ | refine ops_guardFd rfl rfl rfl rfl rfl rfl (fun hg => ?_) (fun hg => ?_) | refine ops_guardF rfl rfl rfl rfl rfl rfl (fun hg => ?_) (fun hg => ?_))
  all_goals try (exfalso; omega)
  all_goals (first | refine ops_here ?_ | (first | refine op_not_d rfl rfl rfl ?_ | refine op_not rfl rfl rfl ?_))
  all_goals refine ops_cons rfl ?_
  all_goals (first | refine op_pick_true rfl (by conv => lhs; whnf) rfl rfl rfl ?_ | refine op_pick_false rfl (by conv => lhs; whnf) rfl rfl rfl ?_ | refine op_pick_bool rfl rfl rfl rfl rfl rfl rfl ?_)
  all_goals refine ops_nil ?_
  all_goals refine seqQ_n ?_
  all_goals (
    first | refine tri_cond_d rfl rfl (fun hc => ?_) (fun hc => ?_) | refine tri_cond_t rfl rfl (fun hc => ?_) (fun hc => ?_) | refine tri_cond_f rfl rfl (fun hc => ?_) (fun hc => ?_) | refine tri_cond rfl rfl (fun hc => ?_) (fun hc => ?_)
    focus
      try (exfalso; first | exact hc | omega)
      all_goals refine tri_seq ?_
      all_goals refine tri_region ?_
      all_goals refine ops_cons rfl ?_
      all_goals (refine op_build (by rfl) (by rfl) (by rfl) (by rfl) (by conv => lhs; whnf) (by conv => lhs; whnf; arg 1; whnf; congr; { whnf }; { whnf; congr; { whnf }; { whnf; congr; { whnf }; { whnf; congr; { whnf }; { whnf; congr; { whnf }; { whnf; congr; { whnf }; { whnf; congr; { whnf }; { whnf } } } } } } }) (by rfl) (by rfl) ?_)
      all_goals refine ops_cons rfl ?_
      all_goals (refine lit_store_el (by conv => lhs; whnf) (by conv => lhs; whnf) (by rfl) (by rfl) (by first | ((conv => lhs; whnf; arg 1; whnf); done) | rfl | assumption | (simp; done)) (by first | ((conv => lhs; whnf; arg 1; whnf); done) | rfl | assumption | (simp; done)) (by rfl) (by rfl) (by rfl) (by rfl) (by rfl) (by first | exact .inl rfl | exact .inr rfl) (by conv => lhs; first | simp only [List.set_cons_zero, List.set_cons_succ] | skip) ?_)
      all_goals refine ops_cons rfl ?_
      all_goals (refine op_assign (by conv => lhs; whnf) rfl rfl ?_)
      all_goals refine ops_nil ?_
      all_goals refine seqQ_n ?_
      all_goals (refine tri_le (lit_snapO 0 (by first | ((conv => lhs; whnf; arg 1; whnf); done) | rfl | assumption | (simp; done)) (by conv => lhs; whnf; congr; { whnf }; { whnf; congr; { whnf }; { whnf; congr; { whnf }; { whnf; congr; { whnf }; { whnf; congr; { whnf }; { whnf; congr; { whnf }; { whnf; congr; { whnf }; { whnf } } } } } } }) (by exact .cons (.pure rfl) (.cons (.pure rfl) (.cons (.pure rfl) (.cons (.pure rfl) (.cons (.pure rfl) (.cons (.pure rfl) (.cons (by first | exact SnapR.nil (sz := 3) | exact .pure rfl) .nil))))))) (by rfl) (by rfl) (by rfl)) ?_)
      all_goals refine tri_ret ?_
      all_goals refine seqQ_r ?_
      all_goals refine retE_r [] (.cons (by first | exact .cellAgg rfl rfl rfl rfl rfl rfl rfl rfl | exact .cell1 rfl rfl rfl rfl rfl rfl rfl) (.cons (.tmp (by conv => lhs; whnf) rfl) .nil)) rfl rfl (by first | exact (ren_pure (by rfl)).trans (by conv => lhs; whnf) | conv => lhs; whnf) (.nil) ?_
      all_goals (
        first
        | (have hd : decode b = (zeroC, 5) := if_pos (by omega)
           rw [hd]; exact ⟨rfl, rfl⟩)
        | (have hd : decode b = (zeroC, 3) := by unfold decode; dsimp only; rw [if_neg (by omega), if_pos (by simp_all)]
           rw [hd]; exact ⟨rfl, rfl⟩)
        | (have hd : decode b = ((rdCmd ⟨b, false⟩).1, 0) := by unfold decode; dsimp only; rw [if_neg (by omega), if_neg (by simp_all)]
           rw [hd]; exact ⟨rfl, rfl⟩))
    rotate_right 1
    focus
      try (exfalso; first | exact hc | omega)
      all_goals refine tri_skip ?_)
  all_goals refine seqQ_n ?_
  all_goals refine tri_seq ?_
  all_goals refine tri_region ?_
  all_goals refine ops_cons rfl ?_
  all_goals (first | refine op_load_agg (by conv => lhs; whnf) (by rfl) (by rfl) (by first | ((conv => lhs; whnf; arg 1; whnf); done) | rfl | assumption | (simp; done)) (by rfl) (by first | ((conv => lhs; whnf; arg 1; whnf); done) | rfl | assumption | (simp; done)) (by rfl) (by rfl) (by rfl) ?_ | refine op_load_rp_agg (by conv => lhs; whnf) (by rfl) (by rfl) (by rfl) (by rfl) (by rfl) ?_ | refine op_load_part (by conv => lhs; whnf) (by rfl) (by rfl) (by first | ((conv => lhs; whnf; arg 1; whnf); done) | rfl | assumption | (simp; done)) (by rfl) (by first | ((conv => lhs; whnf; arg 1; whnf); done) | rfl | assumption | (simp; done)) (by rfl) (by rfl) (by rfl) (by conv => lhs; whnf) ?_ | refine op_load_rp_part (by conv => lhs; whnf) (by rfl) (by rfl) (by rfl) (by rfl) (by rfl) (by conv => lhs; whnf) ?_)
  all_goals refine ops_cons rfl ?_
  all_goals (refine lit_store_el (by conv => lhs; whnf) (by conv => lhs; whnf) (by rfl) (by rfl) (by first | ((conv => lhs; whnf; arg 1; whnf); done) | rfl | assumption | (simp; done)) (by first | ((conv => lhs; whnf; arg 1; whnf); done) | rfl | assumption | (simp; done)) (by rfl) (by rfl) (by rfl) (by rfl) (by rfl) (by first | exact .inl rfl | exact .inr rfl) (by conv => lhs; first | simp only [List.set_cons_zero, List.set_cons_succ] | skip) ?_)
  all_goals refine ops_cons rfl ?_
  all_goals (refine op_assign (by conv => lhs; whnf) rfl rfl ?_)
  all_goals refine ops_nil ?_
  all_goals refine seqQ_n ?_
  all_goals (refine tri_le (lit_snapO 0 (by first | ((conv => lhs; whnf; arg 1; whnf); done) | rfl | assumption | (simp; done)) (by conv => lhs; whnf; congr; { whnf }; { whnf; congr; { whnf }; { whnf; congr; { whnf }; { whnf; congr; { whnf }; { whnf; congr; { whnf }; { whnf; congr; { whnf }; { whnf; congr; { whnf }; { whnf } } } } } } }) (by exact .cons (.pure rfl) (.cons (.pure rfl) (.cons (.pure rfl) (.cons (.pure rfl) (.cons (.pure rfl) (.cons (.pure rfl) (.cons (by first | exact SnapR.nil (sz := 3) | exact .pure rfl) .nil))))))) (by rfl) (by rfl) (by rfl)) ?_)
  all_goals refine tri_ret ?_
  all_goals refine retE_r [] (.cons (by first | exact .cellAgg rfl rfl rfl rfl rfl rfl rfl rfl | exact .cell1 rfl rfl rfl rfl rfl rfl rfl) (.cons (.tmp (by conv => lhs; whnf) rfl) .nil)) rfl rfl (by first | exact (ren_pure (by rfl)).trans (by conv => lhs; whnf) | conv => lhs; whnf) (.nil) ?_
  all_goals (
    first
    | (have hd : decode b = (zeroC, 5) := if_pos (by omega)
       rw [hd]; exact ⟨rfl, rfl⟩)
    | (have hd : decode b = (zeroC, 3) := by unfold decode; dsimp only; rw [if_neg (by omega), if_pos (by simp_all)]
       rw [hd]; exact ⟨rfl, rfl⟩)
    | (have hd : decode b = ((rdCmd ⟨b, false⟩).1, 0) := by unfold decode; dsimp only; rw [if_neg (by omega), if_neg (by simp_all)]
       rw [hd]; exact ⟨rfl, rfl⟩))

end Go.Proofs.Ytjalgcjllddmhaa

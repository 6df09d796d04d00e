/- A text of the proof of JournalSurvives: JW8 -/
import Derived.Test.YtjalgcjllddmhaaProg
import Derived.Test.YtjalgcjllddmhaaAvAppS
import Derived.Test.YtjalgcjllddmhaaAvSnap
import Derived.Test.YtjalgcjllddmhaaAvAny
import Derived.Test.YtjalgcjllddmhaaAvLit
import Derived.Test.YtjalgcjllddmhaaJSto
import Derived.Test.YtjalgcjllddmhaaJW5
import Derived.Test.YtjalgcjllddmhaaJW7

set_option linter.unusedSimpArgs false
set_option linter.unusedVariables false
set_option maxHeartbeats 8000000
namespace Go.Proofs.Ytjalgcjllddmhaa
open Go.Av
/-- the walk of casebook/journal.Valid -/
theorem valid_w (s : Sto) (hl : s.bytes.length ≤ 2 ^ 40) : HSpec Try.prog 11 [stoAV s] [] fun r H' _ => r = .val (.bool (valid s)) ∧ H' = [] := by
  refine hspec_intro Try.func11 rfl rfl ?_
  all_goals refine tri_seq ?_
  all_goals refine tri_region ?_
  all_goals refine ops_cons rfl ?_
  all_goals (refine lit_box 3 (by conv => lhs; whnf) (by first | exact (rfl : _ = 0) | exact (rfl : _ = 1) | exact (rfl : _ = 2) | exact (rfl : _ = 3) | exact (rfl : _ = 4) | exact (rfl : _ = 5) | exact (rfl : _ = 6) | exact (rfl : _ = 7) | exact (rfl : _ = 8) | exact (rfl : _ = 9) | exact (rfl : _ = 10) | exact (rfl : _ = 11)) (by rfl) (by rfl) (by rfl) (by rfl) (by rfl) ?_)
  all_goals refine ops_cons rfl ?_
  all_goals (refine op_assign (by conv => lhs; whnf) rfl rfl ?_)
  all_goals refine ops_nil ?_
  all_goals refine seqQ_n ?_
  all_goals refine tri_seq ?_
  all_goals refine tri_seq ?_
  all_goals refine tri_region ?_
  all_goals refine ops_cons rfl ?_
  all_goals (first | refine op_fieldAddr0 rfl rfl rfl rfl rfl rfl (by conv => lhs; whnf) ?_ | refine op_fieldAddr_rp0 rfl rfl rfl rfl rfl rfl (by conv => lhs; whnf) ?_ | refine op_fieldAddr rfl rfl rfl rfl rfl rfl ?_ | refine op_fieldAddr_rp rfl rfl rfl rfl rfl rfl ?_)
  all_goals refine ops_cons rfl ?_
  all_goals (first | refine op_load (by conv => lhs; whnf) (by rfl) (by rfl) (by first | ((conv => lhs; whnf; arg 1; whnf); done) | rfl | assumption | (simp; done)) (by rfl) (by first | ((conv => lhs; whnf; arg 1; whnf); done) | rfl | assumption | (simp; done)) (by first | ((conv => lhs; whnf; arg 1; whnf); done) | rfl | assumption | (simp; done)) (by rfl) ?_ | refine op_load_rp (by conv => lhs; whnf) (by rfl) (by rfl) (by first | ((conv => lhs; whnf; arg 1; whnf); done) | rfl | assumption | (simp; done)) (by rfl) ?_)
  all_goals refine ops_cons rfl ?_
  all_goals (first | refine op_len_sl rfl (by first | (conv => lhs; simp only [List.length_map, bytesAV_length]) | rfl) rfl rfl rfl ?_ | refine op_len_osl rfl rfl rfl rfl ?_ | refine op_len_nil rfl rfl rfl rfl ?_)
  all_goals refine ops_cons rfl ?_
  all_goals (refine op_gtr rfl rfl rfl rfl rfl ?_)
  all_goals refine ops_cons rfl ?_
  all_goals (refine op_move (by conv => lhs; whnf) rfl rfl ?_)
  all_goals (first | refine ops_guardU rfl rfl rfl rfl rfl rfl ?_ | refine ops_guardY rfl rfl rfl rfl ?_ | refine ops_guardN rfl rfl rfl rfl rfl rfl ?_ | refine ops_guardFd rfl rfl rfl rfl rfl rfl (fun hg => ?_) (fun hg => ?_) | refine ops_guardF rfl rfl rfl rfl rfl rfl (fun hg => ?_) (fun hg => ?_))
  all_goals try (exfalso; omega)
  all_goals (first | refine ops_here ?_ | (first | refine op_fieldAddr0 rfl rfl rfl rfl rfl rfl (by conv => lhs; whnf) ?_ | refine op_fieldAddr_rp0 rfl rfl rfl rfl rfl rfl (by conv => lhs; whnf) ?_ | refine op_fieldAddr rfl rfl rfl rfl rfl rfl ?_ | refine op_fieldAddr_rp rfl rfl rfl rfl rfl rfl ?_))
  all_goals (first | refine ops_guardU rfl rfl rfl rfl rfl rfl ?_ | refine ops_guardY rfl rfl rfl rfl ?_ | refine ops_guardN rfl rfl rfl rfl rfl rfl ?_ | refine ops_guardFd rfl rfl rfl rfl rfl rfl (fun hg => ?_) (fun hg => ?_) | refine ops_guardF rfl rfl rfl rfl rfl rfl (fun hg => ?_) (fun hg => ?_))
  all_goals try (exfalso; omega)
  all_goals (first | refine ops_here ?_ | (first | refine op_load (by conv => lhs; whnf) (by rfl) (by rfl) (by first | ((conv => lhs; whnf; arg 1; whnf); done) | rfl | assumption | (simp; done)) (by rfl) (by first | ((conv => lhs; whnf; arg 1; whnf); done) | rfl | assumption | (simp; done)) (by first | ((conv => lhs; whnf; arg 1; whnf); done) | rfl | assumption | (simp; done)) (by rfl) ?_ | refine op_load_rp (by conv => lhs; whnf) (by rfl) (by rfl) (by first | ((conv => lhs; whnf; arg 1; whnf); done) | rfl | assumption | (simp; done)) (by rfl) ?_))
  all_goals (first | refine ops_guardU rfl rfl rfl rfl rfl rfl ?_ | refine ops_guardY rfl rfl rfl rfl ?_ | refine ops_guardN rfl rfl rfl rfl rfl rfl ?_ | refine ops_guardFd rfl rfl rfl rfl rfl rfl (fun hg => ?_) (fun hg => ?_) | refine ops_guardF rfl rfl rfl rfl rfl rfl (fun hg => ?_) (fun hg => ?_))
  all_goals try (exfalso; omega)
  all_goals (first | refine ops_here ?_ | (refine op_lss rfl rfl rfl rfl rfl ?_))
  all_goals refine ops_cons rfl ?_
  all_goals (first | refine op_pick_true rfl (by conv => lhs; whnf) rfl rfl rfl ?_ | refine op_pick_false rfl (by conv => lhs; whnf) rfl rfl rfl ?_ | refine op_pick_bool rfl rfl rfl rfl rfl rfl rfl ?_)
  all_goals refine ops_cons rfl ?_
  all_goals (refine op_move (by conv => lhs; whnf) rfl rfl ?_)
  all_goals (first | refine ops_guardU rfl rfl rfl rfl rfl rfl ?_ | refine ops_guardY rfl rfl rfl rfl ?_ | refine ops_guardN rfl rfl rfl rfl rfl rfl ?_ | refine ops_guardFd rfl rfl rfl rfl rfl rfl (fun hg => ?_) (fun hg => ?_) | refine ops_guardF rfl rfl rfl rfl rfl rfl (fun hg => ?_) (fun hg => ?_))
  all_goals try (exfalso; omega)
  all_goals (first | refine ops_here ?_ | (first | refine op_fieldAddr0 rfl rfl rfl rfl rfl rfl (by conv => lhs; whnf) ?_ | refine op_fieldAddr_rp0 rfl rfl rfl rfl rfl rfl (by conv => lhs; whnf) ?_ | refine op_fieldAddr rfl rfl rfl rfl rfl rfl ?_ | refine op_fieldAddr_rp rfl rfl rfl rfl rfl rfl ?_))
  all_goals (first | refine ops_guardU rfl rfl rfl rfl rfl rfl ?_ | refine ops_guardY rfl rfl rfl rfl ?_ | refine ops_guardN rfl rfl rfl rfl rfl rfl ?_ | refine ops_guardFd rfl rfl rfl rfl rfl rfl (fun hg => ?_) (fun hg => ?_) | refine ops_guardF rfl rfl rfl rfl rfl rfl (fun hg => ?_) (fun hg => ?_))
  all_goals try (exfalso; omega)
  all_goals (first | refine ops_here ?_ | (first | refine op_load (by conv => lhs; whnf) (by rfl) (by rfl) (by first | ((conv => lhs; whnf; arg 1; whnf); done) | rfl | assumption | (simp; done)) (by rfl) (by first | ((conv => lhs; whnf; arg 1; whnf); done) | rfl | assumption | (simp; done)) (by first | ((conv => lhs; whnf; arg 1; whnf); done) | rfl | assumption | (simp; done)) (by rfl) ?_ | refine op_load_rp (by conv => lhs; whnf) (by rfl) (by rfl) (by first | ((conv => lhs; whnf; arg 1; whnf); done) | rfl | assumption | (simp; done)) (by rfl) ?_))
  all_goals (first | refine ops_guardU rfl rfl rfl rfl rfl rfl ?_ | refine ops_guardY rfl rfl rfl rfl ?_ | refine ops_guardN rfl rfl rfl rfl rfl rfl ?_ | refine ops_guardFd rfl rfl rfl rfl rfl rfl (fun hg => ?_) (fun hg => ?_) | refine ops_guardF rfl rfl rfl rfl rfl rfl (fun hg => ?_) (fun hg => ?_))
  all_goals try (exfalso; omega)
  all_goals (first | refine ops_here ?_ | (first | refine op_fieldAddr0 rfl rfl rfl rfl rfl rfl (by conv => lhs; whnf) ?_ | refine op_fieldAddr_rp0 rfl rfl rfl rfl rfl rfl (by conv => lhs; whnf) ?_ | refine op_fieldAddr rfl rfl rfl rfl rfl rfl ?_ | refine op_fieldAddr_rp rfl rfl rfl rfl rfl rfl ?_))
  all_goals (first | refine ops_guardU rfl rfl rfl rfl rfl rfl ?_ | refine ops_guardY rfl rfl rfl rfl ?_ | refine ops_guardN rfl rfl rfl rfl rfl rfl ?_ | refine ops_guardFd rfl rfl rfl rfl rfl rfl (fun hg => ?_) (fun hg => ?_) | refine ops_guardF rfl rfl rfl rfl rfl rfl (fun hg => ?_) (fun hg => ?_))
  all_goals try (exfalso; omega)
  all_goals (first | refine ops_here ?_ | (first | refine op_load (by conv => lhs; whnf) (by rfl) (by rfl) (by first | ((conv => lhs; whnf; arg 1; whnf); done) | rfl | assumption | (simp; done)) (by rfl) (by first | ((conv => lhs; whnf; arg 1; whnf); done) | rfl | assumption | (simp; done)) (by first | ((conv => lhs; whnf; arg 1; whnf); done) | rfl | assumption | (simp; done)) (by rfl) ?_ | refine op_load_rp (by conv => lhs; whnf) (by rfl) (by rfl) (by first | ((conv => lhs; whnf; arg 1; whnf); done) | rfl | assumption | (simp; done)) (by rfl) ?_))
  all_goals (first | refine ops_guardU rfl rfl rfl rfl rfl rfl ?_ | refine ops_guardY rfl rfl rfl rfl ?_ | refine ops_guardN rfl rfl rfl rfl rfl rfl ?_ | refine ops_guardFd rfl rfl rfl rfl rfl rfl (fun hg => ?_) (fun hg => ?_) | refine ops_guardF rfl rfl rfl rfl rfl rfl (fun hg => ?_) (fun hg => ?_))
  all_goals try (exfalso; omega)
  all_goals (first | refine ops_here ?_ | (first | refine op_len_sl rfl (by first | (conv => lhs; simp only [List.length_map, bytesAV_length]) | rfl) rfl rfl rfl ?_ | refine op_len_osl rfl rfl rfl rfl ?_ | refine op_len_nil rfl rfl rfl rfl ?_))
  all_goals (first | refine ops_guardU rfl rfl rfl rfl rfl rfl ?_ | refine ops_guardY rfl rfl rfl rfl ?_ | refine ops_guardN rfl rfl rfl rfl rfl rfl ?_ | refine ops_guardFd rfl rfl rfl rfl rfl rfl (fun hg => ?_) (fun hg => ?_) | refine ops_guardF rfl rfl rfl rfl rfl rfl (fun hg => ?_) (fun hg => ?_))
  all_goals try (exfalso; omega)
  all_goals (first | refine ops_here ?_ | (refine op_gtr rfl rfl rfl rfl rfl ?_))
  all_goals refine ops_cons rfl ?_
  all_goals (first | refine op_pick_true rfl (by conv => lhs; whnf) rfl rfl rfl ?_ | refine op_pick_false rfl (by conv => lhs; whnf) rfl rfl rfl ?_ | refine op_pick_bool rfl rfl rfl rfl rfl rfl rfl ?_)
  all_goals refine ops_cons rfl ?_
  all_goals (refine op_move (by conv => lhs; whnf) rfl rfl ?_)
  all_goals (first | refine ops_guardU rfl rfl rfl rfl rfl rfl ?_ | refine ops_guardY rfl rfl rfl rfl ?_ | refine ops_guardN rfl rfl rfl rfl rfl rfl ?_ | refine ops_guardFd rfl rfl rfl rfl rfl rfl (fun hg => ?_) (fun hg => ?_) | refine ops_guardF rfl rfl rfl rfl rfl rfl (fun hg => ?_) (fun hg => ?_))
  all_goals try (exfalso; omega)
  all_goals (first | refine ops_here ?_ | (first | refine op_fieldAddr0 rfl rfl rfl rfl rfl rfl (by conv => lhs; whnf) ?_ | refine op_fieldAddr_rp0 rfl rfl rfl rfl rfl rfl (by conv => lhs; whnf) ?_ | refine op_fieldAddr rfl rfl rfl rfl rfl rfl ?_ | refine op_fieldAddr_rp rfl rfl rfl rfl rfl rfl ?_))
  all_goals (first | refine ops_guardU rfl rfl rfl rfl rfl rfl ?_ | refine ops_guardY rfl rfl rfl rfl ?_ | refine ops_guardN rfl rfl rfl rfl rfl rfl ?_ | refine ops_guardFd rfl rfl rfl rfl rfl rfl (fun hg => ?_) (fun hg => ?_) | refine ops_guardF rfl rfl rfl rfl rfl rfl (fun hg => ?_) (fun hg => ?_))
  all_goals try (exfalso; omega)
  all_goals (first | refine ops_here ?_ | (first | refine op_load (by conv => lhs; whnf) (by rfl) (by rfl) (by first | ((conv => lhs; whnf; arg 1; whnf); done) | rfl | assumption | (simp; done)) (by rfl) (by first | ((conv => lhs; whnf; arg 1; whnf); done) | rfl | assumption | (simp; done)) (by first | ((conv => lhs; whnf; arg 1; whnf); done) | rfl | assumption | (simp; done)) (by rfl) ?_ | refine op_load_rp (by conv => lhs; whnf) (by rfl) (by rfl) (by first | ((conv => lhs; whnf; arg 1; whnf); done) | rfl | assumption | (simp; done)) (by rfl) ?_))
  all_goals (first | refine ops_guardU rfl rfl rfl rfl rfl rfl ?_ | refine ops_guardY rfl rfl rfl rfl ?_ | refine ops_guardN rfl rfl rfl rfl rfl rfl ?_ | refine ops_guardFd rfl rfl rfl rfl rfl rfl (fun hg => ?_) (fun hg => ?_) | refine ops_guardF rfl rfl rfl rfl rfl rfl (fun hg => ?_) (fun hg => ?_))
  all_goals try (exfalso; omega)
  all_goals (first | refine ops_here ?_ | (refine op_lss rfl rfl rfl rfl rfl ?_))
  all_goals refine ops_cons rfl ?_
  all_goals (first | refine op_pick_true rfl (by conv => lhs; whnf) rfl rfl rfl ?_ | refine op_pick_false rfl (by conv => lhs; whnf) rfl rfl rfl ?_ | refine op_pick_bool rfl rfl rfl rfl rfl rfl rfl ?_)
  all_goals refine ops_cons rfl ?_
  all_goals (refine op_move (by conv => lhs; whnf) rfl rfl ?_)
  all_goals (first | refine ops_guardU rfl rfl rfl rfl rfl rfl ?_ | refine ops_guardY rfl rfl rfl rfl ?_ | refine ops_guardN rfl rfl rfl rfl rfl rfl ?_ | refine ops_guardFd rfl rfl rfl rfl rfl rfl (fun hg => ?_) (fun hg => ?_) | refine ops_guardF rfl rfl rfl rfl rfl rfl (fun hg => ?_) (fun hg => ?_))
  all_goals try (exfalso; omega)
  all_goals (first | refine ops_here ?_ | (first | refine op_fieldAddr0 rfl rfl rfl rfl rfl rfl (by conv => lhs; whnf) ?_ | refine op_fieldAddr_rp0 rfl rfl rfl rfl rfl rfl (by conv => lhs; whnf) ?_ | refine op_fieldAddr rfl rfl rfl rfl rfl rfl ?_ | refine op_fieldAddr_rp rfl rfl rfl rfl rfl rfl ?_))
  all_goals (first | refine ops_guardU rfl rfl rfl rfl rfl rfl ?_ | refine ops_guardY rfl rfl rfl rfl ?_ | refine ops_guardN rfl rfl rfl rfl rfl rfl ?_ | refine ops_guardFd rfl rfl rfl rfl rfl rfl (fun hg => ?_) (fun hg => ?_) | refine ops_guardF rfl rfl rfl rfl rfl rfl (fun hg => ?_) (fun hg => ?_))
  all_goals try (exfalso; omega)
  all_goals (first | refine ops_here ?_ | (first | refine op_load (by conv => lhs; whnf) (by rfl) (by rfl) (by first | ((conv => lhs; whnf; arg 1; whnf); done) | rfl | assumption | (simp; done)) (by rfl) (by first | ((conv => lhs; whnf; arg 1; whnf); done) | rfl | assumption | (simp; done)) (by first | ((conv => lhs; whnf; arg 1; whnf); done) | rfl | assumption | (simp; done)) (by rfl) ?_ | refine op_load_rp (by conv => lhs; whnf) (by rfl) (by rfl) (by first | ((conv => lhs; whnf; arg 1; whnf); done) | rfl | assumption | (simp; done)) (by rfl) ?_))
  all_goals (first | refine ops_guardU rfl rfl rfl rfl rfl rfl ?_ | refine ops_guardY rfl rfl rfl rfl ?_ | refine ops_guardN rfl rfl rfl rfl rfl rfl ?_ | refine ops_guardFd rfl rfl rfl rfl rfl rfl (fun hg => ?_) (fun hg => ?_) | refine ops_guardF rfl rfl rfl rfl rfl rfl (fun hg => ?_) (fun hg => ?_))
  all_goals try (exfalso; omega)
  all_goals (first | refine ops_here ?_ | (refine op_gtr rfl rfl rfl rfl rfl ?_))
  all_goals refine ops_cons rfl ?_
  all_goals (first | refine op_pick_true rfl (by conv => lhs; whnf) rfl rfl rfl ?_ | refine op_pick_false rfl (by conv => lhs; whnf) rfl rfl rfl ?_ | refine op_pick_bool rfl rfl rfl rfl rfl rfl rfl ?_)
  all_goals refine ops_nil ?_
  all_goals refine seqQ_n ?_
  all_goals (
    first | refine tri_cond_d rfl rfl (fun hc => ?_) (fun hc => ?_) | refine tri_cond_t rfl rfl (fun hc => ?_) (fun hc => ?_) | refine tri_cond_f rfl rfl (fun hc => ?_) (fun hc => ?_) | refine tri_cond rfl rfl (fun hc => ?_) (fun hc => ?_)
    focus
      try (exfalso; first | exact hc | omega)
      all_goals refine tri_seq ?_
      all_goals refine tri_region ?_
      all_goals refine ops_cons rfl ?_
      all_goals (refine op_assign (by conv => lhs; whnf) rfl rfl ?_)
      all_goals refine ops_nil ?_
      all_goals refine seqQ_n ?_
      all_goals refine tri_ret ?_
      all_goals refine seqQ_r ?_
      all_goals refine retE_r [] (.cons (.tmp (by conv => lhs; whnf) rfl) .nil) rfl rfl (by first | exact (ren_pure (by rfl)).trans (by conv => lhs; whnf) | conv => lhs; whnf) (.nil) ?_
      all_goals (
        refine ⟨congrArg (fun b => AV.val (Value.bool b)) (Eq.symm ?_), rfl⟩
        first
        | exact valid_no (by omega)
        | exact valid_yes (by omega))
    rotate_right 1
    focus
      try (exfalso; first | exact hc | omega)
      all_goals refine tri_skip ?_)
  all_goals refine seqQ_n ?_
  all_goals refine tri_seq ?_
  all_goals refine tri_region ?_
  all_goals refine ops_cons rfl ?_
  all_goals (first | refine op_fieldAddr0 rfl rfl rfl rfl rfl rfl (by conv => lhs; whnf) ?_ | refine op_fieldAddr_rp0 rfl rfl rfl rfl rfl rfl (by conv => lhs; whnf) ?_ | refine op_fieldAddr rfl rfl rfl rfl rfl rfl ?_ | refine op_fieldAddr_rp rfl rfl rfl rfl rfl rfl ?_)
  all_goals refine ops_cons rfl ?_
  all_goals (first | refine op_load (by conv => lhs; whnf) (by rfl) (by rfl) (by first | ((conv => lhs; whnf; arg 1; whnf); done) | rfl | assumption | (simp; done)) (by rfl) (by first | ((conv => lhs; whnf; arg 1; whnf); done) | rfl | assumption | (simp; done)) (by first | ((conv => lhs; whnf; arg 1; whnf); done) | rfl | assumption | (simp; done)) (by rfl) ?_ | refine op_load_rp (by conv => lhs; whnf) (by rfl) (by rfl) (by first | ((conv => lhs; whnf; arg 1; whnf); done) | rfl | assumption | (simp; done)) (by rfl) ?_)
  all_goals refine ops_cons rfl ?_
  all_goals (refine op_callB rfl rfl rfl rfl rfl ⟨_, Try.func27, by decide, rfl⟩ (.cons (.pure rfl) .nil) (records_w s.bytes (by omega)) ?_)
  all_goals (rintro _ H' m ⟨rfl, rfl⟩)
  all_goals refine ops_cons rfl ?_
  all_goals (refine op_move (by conv => lhs; whnf) rfl rfl ?_)
  all_goals refine ops_cons rfl ?_
  all_goals (refine op_extract rfl rfl rfl rfl ?_)
  all_goals refine ops_cons rfl ?_
  all_goals (refine op_extract rfl rfl rfl rfl ?_)
  all_goals refine ops_cons rfl ?_
  all_goals (refine op_assign (by conv => lhs; whnf) rfl rfl ?_)
  all_goals refine ops_cons rfl ?_
  all_goals (refine op_assign (by conv => lhs; whnf) rfl rfl ?_)
  all_goals refine ops_nil ?_
  all_goals refine seqQ_n ?_
  all_goals refine tri_seq ?_
  all_goals refine tri_region ?_
  all_goals refine ops_cons rfl ?_
  all_goals (first | refine op_fieldAddr0 rfl rfl rfl rfl rfl rfl (by conv => lhs; whnf) ?_ | refine op_fieldAddr_rp0 rfl rfl rfl rfl rfl rfl (by conv => lhs; whnf) ?_ | refine op_fieldAddr rfl rfl rfl rfl rfl rfl ?_ | refine op_fieldAddr_rp rfl rfl rfl rfl rfl rfl ?_)
  all_goals refine ops_cons rfl ?_
  all_goals (first | refine op_load (by conv => lhs; whnf) (by rfl) (by rfl) (by first | ((conv => lhs; whnf; arg 1; whnf); done) | rfl | assumption | (simp; done)) (by rfl) (by first | ((conv => lhs; whnf; arg 1; whnf); done) | rfl | assumption | (simp; done)) (by first | ((conv => lhs; whnf; arg 1; whnf); done) | rfl | assumption | (simp; done)) (by rfl) ?_ | refine op_load_rp (by conv => lhs; whnf) (by rfl) (by rfl) (by first | ((conv => lhs; whnf; arg 1; whnf); done) | rfl | assumption | (simp; done)) (by rfl) ?_)
  all_goals refine ops_cons rfl ?_
  all_goals (refine op_move (by conv => lhs; whnf) rfl rfl ?_)
  all_goals refine ops_cons rfl ?_
  all_goals (refine op_leq rfl rfl rfl rfl rfl ?_)
  all_goals refine ops_cons rfl ?_
  all_goals (refine op_assign (by conv => lhs; whnf) rfl rfl ?_)
  all_goals refine ops_nil ?_
  all_goals refine seqQ_n ?_
  all_goals refine tri_ret ?_
  all_goals refine retE_r [] (.cons (.tmp (by conv => lhs; whnf) rfl) .nil) rfl rfl (by first | exact (ren_pure (by rfl)).trans (by conv => lhs; whnf) | conv => lhs; whnf) (.nil) ?_
  all_goals (
    refine ⟨congrArg (fun b => AV.val (Value.bool b)) (Eq.symm ?_), rfl⟩
    first
    | exact valid_no (by omega)
    | exact valid_yes (by omega))

/-- the walk of casebook/journal.Read -/
theorem read_w (s : Sto) (hl : s.bytes.length ≤ 2 ^ 40) : HSpec Try.prog 13 [stoAV s] [] fun r H' _ => r = .tup [.sl 7 ((read s).1.map cmdAV), iv (read s).2] ∧ H' = [] := by
  refine hspec_intro Try.func13 rfl rfl ?_
  all_goals refine tri_seq ?_
  all_goals refine tri_region ?_
  all_goals refine ops_cons rfl ?_
  all_goals (refine lit_box 3 (by conv => lhs; whnf) (by first | exact (rfl : _ = 0) | exact (rfl : _ = 1) | exact (rfl : _ = 2) | exact (rfl : _ = 3) | exact (rfl : _ = 4) | exact (rfl : _ = 5) | exact (rfl : _ = 6) | exact (rfl : _ = 7) | exact (rfl : _ = 8) | exact (rfl : _ = 9) | exact (rfl : _ = 10) | exact (rfl : _ = 11)) (by rfl) (by rfl) (by rfl) (by rfl) (by rfl) ?_)
  all_goals refine ops_cons rfl ?_
  all_goals (refine op_assign (by conv => lhs; whnf) rfl rfl ?_)
  all_goals refine ops_cons rfl ?_
  all_goals (refine op_assign (by conv => lhs; whnf) rfl rfl ?_)
  all_goals refine ops_nil ?_
  all_goals refine seqQ_n ?_
  all_goals refine tri_seq ?_
  all_goals refine tri_seq ?_
  all_goals refine tri_region ?_
  all_goals refine ops_cons rfl ?_
  all_goals (first | refine op_load_agg (by conv => lhs; whnf) (by rfl) (by rfl) (by first | ((conv => lhs; whnf; arg 1; whnf); done) | rfl | assumption | (simp; done)) (by rfl) (by first | ((conv => lhs; whnf; arg 1; whnf); done) | rfl | assumption | (simp; done)) (by rfl) (by rfl) (by rfl) ?_ | refine op_load_rp_agg (by conv => lhs; whnf) (by rfl) (by rfl) (by rfl) (by rfl) (by rfl) ?_ | refine op_load_part (by conv => lhs; whnf) (by rfl) (by rfl) (by first | ((conv => lhs; whnf; arg 1; whnf); done) | rfl | assumption | (simp; done)) (by rfl) (by first | ((conv => lhs; whnf; arg 1; whnf); done) | rfl | assumption | (simp; done)) (by rfl) (by rfl) (by rfl) (by conv => lhs; whnf) ?_ | refine op_load_rp_part (by conv => lhs; whnf) (by rfl) (by rfl) (by rfl) (by rfl) (by rfl) (by conv => lhs; whnf) ?_)
  all_goals refine ops_cons rfl ?_
  all_goals (refine op_callA rfl rfl rfl rfl rfl ⟨_, Try.func11, by decide, rfl⟩ (.cons (.pure rfl) .nil) (valid_w s hl) (by rintro r H' m ⟨rfl, rfl⟩; exact ⟨rfl, by simp⟩) ?_)
  all_goals (rintro _ H' m ⟨rfl, rfl⟩)
  all_goals refine ops_cons rfl ?_
  all_goals (first | refine op_not_d rfl rfl rfl ?_ | refine op_not rfl rfl rfl ?_)
  all_goals refine ops_nil ?_
  all_goals refine seqQ_n ?_
  all_goals (
    first | refine tri_cond_d rfl rfl (fun hc => ?_) (fun hc => ?_) | refine tri_cond_t rfl rfl (fun hc => ?_) (fun hc => ?_) | refine tri_cond_f rfl rfl (fun hc => ?_) (fun hc => ?_) | refine tri_cond rfl rfl (fun hc => ?_) (fun hc => ?_)
    focus
      try (exfalso; first | exact hc | omega)
      all_goals refine tri_seq ?_
      all_goals refine tri_region ?_
      all_goals refine ops_cons rfl ?_
      all_goals (refine op_assign (by conv => lhs; whnf) rfl rfl ?_)
      all_goals refine ops_cons rfl ?_
      all_goals (refine op_assign (by conv => lhs; whnf) rfl rfl ?_)
      all_goals refine ops_nil ?_
      all_goals refine seqQ_n ?_
      all_goals (refine tri_le (le_snapT 2 (by conv => lhs; whnf) rfl (by first | exact SnapR.nil (sz := 7) | exact .pure rfl)) ?_)
      all_goals refine tri_ret ?_
      all_goals refine seqQ_r ?_
      all_goals refine retE_r [] (.cons (.tmp (by conv => lhs; whnf) rfl) (.cons (.tmp (by conv => lhs; whnf) rfl) .nil)) rfl rfl (by first | exact (ren_pure (by rfl)).trans (by conv => lhs; whnf) | conv => lhs; whnf) (.nil) ?_
      all_goals (
        first
        | (have hd : read s = ([], 1) := if_neg (by simp_all)
           rw [hd]; exact ⟨rfl, rfl⟩)
        | (have hd : read s = ((recs s.bytes [] 0).1, 0) := if_pos (by simp_all)
           rw [hd]; exact ⟨rfl, rfl⟩))
    rotate_right 1
    focus
      try (exfalso; first | exact hc | omega)
      all_goals refine tri_skip ?_)
  all_goals refine seqQ_n ?_
  all_goals refine tri_seq ?_
  all_goals refine tri_region ?_
  all_goals refine ops_cons rfl ?_
  all_goals (first | refine op_fieldAddr0 rfl rfl rfl rfl rfl rfl (by conv => lhs; whnf) ?_ | refine op_fieldAddr_rp0 rfl rfl rfl rfl rfl rfl (by conv => lhs; whnf) ?_ | refine op_fieldAddr rfl rfl rfl rfl rfl rfl ?_ | refine op_fieldAddr_rp rfl rfl rfl rfl rfl rfl ?_)
  all_goals refine ops_cons rfl ?_
  all_goals (first | refine op_load (by conv => lhs; whnf) (by rfl) (by rfl) (by first | ((conv => lhs; whnf; arg 1; whnf); done) | rfl | assumption | (simp; done)) (by rfl) (by first | ((conv => lhs; whnf; arg 1; whnf); done) | rfl | assumption | (simp; done)) (by first | ((conv => lhs; whnf; arg 1; whnf); done) | rfl | assumption | (simp; done)) (by rfl) ?_ | refine op_load_rp (by conv => lhs; whnf) (by rfl) (by rfl) (by first | ((conv => lhs; whnf; arg 1; whnf); done) | rfl | assumption | (simp; done)) (by rfl) ?_)
  all_goals refine ops_cons rfl ?_
  all_goals (refine op_callB rfl rfl rfl rfl rfl ⟨_, Try.func27, by decide, rfl⟩ (.cons (.pure rfl) .nil) (records_w s.bytes (by omega)) ?_)
  all_goals (rintro _ H' m ⟨rfl, rfl⟩)
  all_goals refine ops_cons rfl ?_
  all_goals (refine op_move (by conv => lhs; whnf) rfl rfl ?_)
  all_goals refine ops_cons rfl ?_
  all_goals (refine op_extract rfl rfl rfl rfl ?_)
  all_goals refine ops_cons rfl ?_
  all_goals (refine op_extract rfl rfl rfl rfl ?_)
  all_goals refine ops_cons rfl ?_
  all_goals (refine op_assign (by conv => lhs; whnf) rfl rfl ?_)
  all_goals refine ops_cons rfl ?_
  all_goals (refine op_assign (by conv => lhs; whnf) rfl rfl ?_)
  all_goals refine ops_nil ?_
  all_goals refine seqQ_n ?_
  all_goals refine tri_seq ?_
  all_goals refine tri_region ?_
  all_goals refine ops_cons rfl ?_
  all_goals (refine op_move (by conv => lhs; whnf) rfl rfl ?_)
  all_goals refine ops_cons rfl ?_
  all_goals (refine op_assign (by conv => lhs; whnf) rfl rfl ?_)
  all_goals refine ops_cons rfl ?_
  all_goals (refine op_assign (by conv => lhs; whnf) rfl rfl ?_)
  all_goals refine ops_nil ?_
  all_goals refine seqQ_n ?_
  all_goals (refine tri_le (le_snapT 2 (by conv => lhs; whnf) rfl (by first | exact SnapR.nil (sz := 7) | exact .pure rfl)) ?_)
  all_goals refine tri_ret ?_
  all_goals refine retE_r [] (.cons (.tmp (by conv => lhs; whnf) rfl) (.cons (.tmp (by conv => lhs; whnf) rfl) .nil)) rfl rfl (by first | exact (ren_pure (by rfl)).trans (by conv => lhs; whnf) | conv => lhs; whnf) (.nil) ?_
  all_goals (
    first
    | (have hd : read s = ([], 1) := if_neg (by simp_all)
       rw [hd]; exact ⟨rfl, rfl⟩)
    | (have hd : read s = ((recs s.bytes [] 0).1, 0) := if_pos (by simp_all)
       rw [hd]; exact ⟨rfl, rfl⟩))

/-- the walk of casebook/journal.Crash -/
theorem crash_w (s : Sto) (n : Int) (hl : s.bytes.length ≤ 2 ^ 40) (hd0 : -9223372036854000000 ≤ s.durable ∧ s.durable ≤ 9223372036854000000) : HSpec Try.prog 12 [stoAV s, iv n] [] fun r H' _ => r = .tup [stoAV (crash s n).1, iv (crash s n).2] ∧ H' = [] := by
  refine hspec_intro Try.func12 rfl rfl ?_
  all_goals refine tri_seq ?_
  all_goals refine tri_region ?_
  all_goals refine ops_cons rfl ?_
  all_goals (refine lit_box 3 (by conv => lhs; whnf) (by first | exact (rfl : _ = 0) | exact (rfl : _ = 1) | exact (rfl : _ = 2) | exact (rfl : _ = 3) | exact (rfl : _ = 4) | exact (rfl : _ = 5) | exact (rfl : _ = 6) | exact (rfl : _ = 7) | exact (rfl : _ = 8) | exact (rfl : _ = 9) | exact (rfl : _ = 10) | exact (rfl : _ = 11)) (by rfl) (by rfl) (by rfl) (by rfl) (by rfl) ?_)
  all_goals refine ops_cons rfl ?_
  all_goals (refine lit_alloc 3 (by rfl) (by rfl) (by conv => lhs; whnf) (by first | exact (rfl : _ = 0) | exact (rfl : _ = 1) | exact (rfl : _ = 2) | exact (rfl : _ = 3) | exact (rfl : _ = 4) | exact (rfl : _ = 5) | exact (rfl : _ = 6) | exact (rfl : _ = 7) | exact (rfl : _ = 8) | exact (rfl : _ = 9) | exact (rfl : _ = 10) | exact (rfl : _ = 11)) (by rfl) (by rfl) (by rfl) (by rfl) ?_)
  all_goals refine ops_cons rfl ?_
  all_goals (refine op_assign (by conv => lhs; whnf) rfl rfl ?_)
  all_goals refine ops_nil ?_
  all_goals refine seqQ_n ?_
  all_goals refine tri_seq ?_
  all_goals refine tri_seq ?_
  all_goals refine tri_region ?_
  all_goals refine ops_cons rfl ?_
  all_goals (first | refine op_load_agg (by conv => lhs; whnf) (by rfl) (by rfl) (by first | ((conv => lhs; whnf; arg 1; whnf); done) | rfl | assumption | (simp; done)) (by rfl) (by first | ((conv => lhs; whnf; arg 1; whnf); done) | rfl | assumption | (simp; done)) (by rfl) (by rfl) (by rfl) ?_ | refine op_load_rp_agg (by conv => lhs; whnf) (by rfl) (by rfl) (by rfl) (by rfl) (by rfl) ?_ | refine op_load_part (by conv => lhs; whnf) (by rfl) (by rfl) (by first | ((conv => lhs; whnf; arg 1; whnf); done) | rfl | assumption | (simp; done)) (by rfl) (by first | ((conv => lhs; whnf; arg 1; whnf); done) | rfl | assumption | (simp; done)) (by rfl) (by rfl) (by rfl) (by conv => lhs; whnf) ?_ | refine op_load_rp_part (by conv => lhs; whnf) (by rfl) (by rfl) (by rfl) (by rfl) (by rfl) (by conv => lhs; whnf) ?_)
  all_goals refine ops_cons rfl ?_
  all_goals (refine op_callA rfl rfl rfl rfl rfl ⟨_, Try.func11, by decide, rfl⟩ (.cons (.pure rfl) .nil) (valid_w s hl) (by rintro r H' m ⟨rfl, rfl⟩; exact ⟨rfl, by simp⟩) ?_)
  all_goals (rintro _ H' m ⟨rfl, rfl⟩)
  all_goals refine ops_cons rfl ?_
  all_goals (first | refine op_not_d rfl rfl rfl ?_ | refine op_not rfl rfl rfl ?_)
  all_goals refine ops_nil ?_
  all_goals refine seqQ_n ?_
  all_goals (
    first | refine tri_cond_d rfl rfl (fun hc => ?_) (fun hc => ?_) | refine tri_cond_t rfl rfl (fun hc => ?_) (fun hc => ?_) | refine tri_cond_f rfl rfl (fun hc => ?_) (fun hc => ?_) | refine tri_cond rfl rfl (fun hc => ?_) (fun hc => ?_)
    focus
      try (exfalso; first | exact hc | omega)
      all_goals refine tri_seq ?_
      all_goals refine tri_region ?_
      all_goals refine ops_cons rfl ?_
      all_goals (refine op_build (by rfl) (by rfl) (by rfl) (by rfl) (by conv => lhs; whnf) (by conv => lhs; whnf; arg 1; whnf; congr; { whnf }; { whnf; congr; { whnf }; { whnf; congr; { whnf }; { whnf } } }) (by rfl) (by rfl) ?_)
      all_goals refine ops_cons rfl ?_
      all_goals (refine lit_store_el (by conv => lhs; whnf) (by conv => lhs; whnf) (by rfl) (by rfl) (by first | ((conv => lhs; whnf; arg 1; whnf); done) | rfl | assumption | (simp; done)) (by first | ((conv => lhs; whnf; arg 1; whnf); done) | rfl | assumption | (simp; done)) (by rfl) (by rfl) (by rfl) (by rfl) (by rfl) (by first | exact .inl rfl | exact .inr rfl) (by conv => lhs; first | simp only [List.set_cons_zero, List.set_cons_succ] | skip) ?_)
      all_goals refine ops_cons rfl ?_
      all_goals (refine op_assign (by conv => lhs; whnf) rfl rfl ?_)
      all_goals refine ops_nil ?_
      all_goals refine seqQ_n ?_
      all_goals (refine tri_le (lit_snapO 1 (by first | ((conv => lhs; whnf; arg 1; whnf); done) | rfl | assumption | (simp; done)) (by conv => lhs; whnf; congr; { whnf }; { whnf; congr; { whnf }; { whnf; congr; { whnf }; { whnf } } }) (by exact .cons (by first | exact SnapR.nil (sz := 1) | exact .pure rfl) (.cons (.pure rfl) (.cons (.pure rfl) .nil))) (by rfl) (by rfl) (by rfl)) ?_)
      all_goals refine tri_ret ?_
      all_goals refine seqQ_r ?_
      all_goals refine retE_r [] (.cons (by first | exact .cellAgg rfl rfl rfl rfl rfl rfl rfl rfl | exact .cell1 rfl rfl rfl rfl rfl rfl rfl) (.cons (.tmp (by conv => lhs; whnf) rfl) .nil)) rfl rfl (by first | exact (ren_pure (by rfl)).trans (by conv => lhs; whnf) | conv => lhs; whnf) (.nil) ?_
      all_goals (
        first
        | (have hd : crash s n = (zeroSto, 1) := if_neg (by simp_all)
           rw [hd]; exact ⟨rfl, rfl⟩)
        | (have hd : crash s n = (zeroSto, 2) := (if_pos (by simp_all)).trans (if_pos (by omega))
           rw [hd]; exact ⟨rfl, rfl⟩)
        | (have hd : crash s n = (⟨s.bytes.take (s.durable + n).toNat, s.durable, -1⟩, 0) := (if_pos (by simp_all)).trans (if_neg (by omega))
           rw [hd]; exact ⟨rfl, rfl⟩))
    rotate_right 1
    focus
      try (exfalso; first | exact hc | omega)
      all_goals refine tri_skip ?_)
  all_goals refine seqQ_n ?_
  all_goals refine tri_seq ?_
  all_goals refine tri_seq ?_
  all_goals refine tri_region ?_
  all_goals (have hv := valid_facts (s := s) (by simp_all))
  all_goals refine ops_cons rfl ?_
  all_goals (refine op_move (by conv => lhs; whnf) rfl rfl ?_)
  all_goals refine ops_cons rfl ?_
  all_goals (refine op_lss rfl rfl rfl rfl rfl ?_)
  all_goals refine ops_cons rfl ?_
  all_goals (refine op_move (by conv => lhs; whnf) rfl rfl ?_)
  all_goals (first | refine ops_guardU rfl rfl rfl rfl rfl rfl ?_ | refine ops_guardY rfl rfl rfl rfl ?_ | refine ops_guardN rfl rfl rfl rfl rfl rfl ?_ | refine ops_guardFd rfl rfl rfl rfl rfl rfl (fun hg => ?_) (fun hg => ?_) | refine ops_guardF rfl rfl rfl rfl rfl rfl (fun hg => ?_) (fun hg => ?_))
  all_goals try (exfalso; omega)
  all_goals (first | refine ops_here ?_ | (refine op_move (by conv => lhs; whnf) rfl rfl ?_))
  all_goals (first | refine ops_guardU rfl rfl rfl rfl rfl rfl ?_ | refine ops_guardY rfl rfl rfl rfl ?_ | refine ops_guardN rfl rfl rfl rfl rfl rfl ?_ | refine ops_guardFd rfl rfl rfl rfl rfl rfl (fun hg => ?_) (fun hg => ?_) | refine ops_guardF rfl rfl rfl rfl rfl rfl (fun hg => ?_) (fun hg => ?_))
  all_goals try (exfalso; omega)
  all_goals (first | refine ops_here ?_ | (first | refine op_fieldAddr0 rfl rfl rfl rfl rfl rfl (by conv => lhs; whnf) ?_ | refine op_fieldAddr_rp0 rfl rfl rfl rfl rfl rfl (by conv => lhs; whnf) ?_ | refine op_fieldAddr rfl rfl rfl rfl rfl rfl ?_ | refine op_fieldAddr_rp rfl rfl rfl rfl rfl rfl ?_))
  all_goals (first | refine ops_guardU rfl rfl rfl rfl rfl rfl ?_ | refine ops_guardY rfl rfl rfl rfl ?_ | refine ops_guardN rfl rfl rfl rfl rfl rfl ?_ | refine ops_guardFd rfl rfl rfl rfl rfl rfl (fun hg => ?_) (fun hg => ?_) | refine ops_guardF rfl rfl rfl rfl rfl rfl (fun hg => ?_) (fun hg => ?_))
  all_goals try (exfalso; omega)
  all_goals (first | refine ops_here ?_ | (first | refine op_load (by conv => lhs; whnf) (by rfl) (by rfl) (by first | ((conv => lhs; whnf; arg 1; whnf); done) | rfl | assumption | (simp; done)) (by rfl) (by first | ((conv => lhs; whnf; arg 1; whnf); done) | rfl | assumption | (simp; done)) (by first | ((conv => lhs; whnf; arg 1; whnf); done) | rfl | assumption | (simp; done)) (by rfl) ?_ | refine op_load_rp (by conv => lhs; whnf) (by rfl) (by rfl) (by first | ((conv => lhs; whnf; arg 1; whnf); done) | rfl | assumption | (simp; done)) (by rfl) ?_))
  all_goals (first | refine ops_guardU rfl rfl rfl rfl rfl rfl ?_ | refine ops_guardY rfl rfl rfl rfl ?_ | refine ops_guardN rfl rfl rfl rfl rfl rfl ?_ | refine ops_guardFd rfl rfl rfl rfl rfl rfl (fun hg => ?_) (fun hg => ?_) | refine ops_guardF rfl rfl rfl rfl rfl rfl (fun hg => ?_) (fun hg => ?_))
  all_goals try (exfalso; omega)
  all_goals (first | refine ops_here ?_ | (first | refine op_len_sl rfl (by first | (conv => lhs; simp only [List.length_map, bytesAV_length]) | rfl) rfl rfl rfl ?_ | refine op_len_osl rfl rfl rfl rfl ?_ | refine op_len_nil rfl rfl rfl rfl ?_))
  all_goals (first | refine ops_guardU rfl rfl rfl rfl rfl rfl ?_ | refine ops_guardY rfl rfl rfl rfl ?_ | refine ops_guardN rfl rfl rfl rfl rfl rfl ?_ | refine ops_guardFd rfl rfl rfl rfl rfl rfl (fun hg => ?_) (fun hg => ?_) | refine ops_guardF rfl rfl rfl rfl rfl rfl (fun hg => ?_) (fun hg => ?_))
  all_goals try (exfalso; omega)
  all_goals (first | refine ops_here ?_ | (first | refine op_fieldAddr0 rfl rfl rfl rfl rfl rfl (by conv => lhs; whnf) ?_ | refine op_fieldAddr_rp0 rfl rfl rfl rfl rfl rfl (by conv => lhs; whnf) ?_ | refine op_fieldAddr rfl rfl rfl rfl rfl rfl ?_ | refine op_fieldAddr_rp rfl rfl rfl rfl rfl rfl ?_))
  all_goals (first | refine ops_guardU rfl rfl rfl rfl rfl rfl ?_ | refine ops_guardY rfl rfl rfl rfl ?_ | refine ops_guardN rfl rfl rfl rfl rfl rfl ?_ | refine ops_guardFd rfl rfl rfl rfl rfl rfl (fun hg => ?_) (fun hg => ?_) | refine ops_guardF rfl rfl rfl rfl rfl rfl (fun hg => ?_) (fun hg => ?_))
  all_goals try (exfalso; omega)
  all_goals (first | refine ops_here ?_ | (first | refine op_load (by conv => lhs; whnf) (by rfl) (by rfl) (by first | ((conv => lhs; whnf; arg 1; whnf); done) | rfl | assumption | (simp; done)) (by rfl) (by first | ((conv => lhs; whnf; arg 1; whnf); done) | rfl | assumption | (simp; done)) (by first | ((conv => lhs; whnf; arg 1; whnf); done) | rfl | assumption | (simp; done)) (by rfl) ?_ | refine op_load_rp (by conv => lhs; whnf) (by rfl) (by rfl) (by first | ((conv => lhs; whnf; arg 1; whnf); done) | rfl | assumption | (simp; done)) (by rfl) ?_))
  all_goals (first | refine ops_guardU rfl rfl rfl rfl rfl rfl ?_ | refine ops_guardY rfl rfl rfl rfl ?_ | refine ops_guardN rfl rfl rfl rfl rfl rfl ?_ | refine ops_guardFd rfl rfl rfl rfl rfl rfl (fun hg => ?_) (fun hg => ?_) | refine ops_guardF rfl rfl rfl rfl rfl rfl (fun hg => ?_) (fun hg => ?_))
  all_goals try (exfalso; omega)
  all_goals (first | refine ops_here ?_ | (first | refine op_sub64 rfl rfl rfl rfl rfl (by omega) ?_ | refine op_sub rfl rfl rfl rfl rfl ?_))
  all_goals (first | refine ops_guardU rfl rfl rfl rfl rfl rfl ?_ | refine ops_guardY rfl rfl rfl rfl ?_ | refine ops_guardN rfl rfl rfl rfl rfl rfl ?_ | refine ops_guardFd rfl rfl rfl rfl rfl rfl (fun hg => ?_) (fun hg => ?_) | refine ops_guardF rfl rfl rfl rfl rfl rfl (fun hg => ?_) (fun hg => ?_))
  all_goals try (exfalso; omega)
  all_goals (first | refine ops_here ?_ | (refine op_gtr rfl rfl rfl rfl rfl ?_))
  all_goals refine ops_cons rfl ?_
  all_goals (first | refine op_pick_true rfl (by conv => lhs; whnf) rfl rfl rfl ?_ | refine op_pick_false rfl (by conv => lhs; whnf) rfl rfl rfl ?_ | refine op_pick_bool rfl rfl rfl rfl rfl rfl rfl ?_)
  all_goals refine ops_nil ?_
  all_goals refine seqQ_n ?_
  all_goals (
    first | refine tri_cond_d rfl rfl (fun hc => ?_) (fun hc => ?_) | refine tri_cond_t rfl rfl (fun hc => ?_) (fun hc => ?_) | refine tri_cond_f rfl rfl (fun hc => ?_) (fun hc => ?_) | refine tri_cond rfl rfl (fun hc => ?_) (fun hc => ?_)
    focus
      try (exfalso; first | exact hc | omega)
      all_goals refine tri_seq ?_
      all_goals refine tri_region ?_
      all_goals refine ops_cons rfl ?_
      all_goals (refine op_build (by rfl) (by rfl) (by rfl) (by rfl) (by conv => lhs; whnf) (by conv => lhs; whnf; arg 1; whnf; congr; { whnf }; { whnf; congr; { whnf }; { whnf; congr; { whnf }; { whnf } } }) (by rfl) (by rfl) ?_)
      all_goals refine ops_cons rfl ?_
      all_goals (refine lit_store_el (by conv => lhs; whnf) (by conv => lhs; whnf) (by rfl) (by rfl) (by first | ((conv => lhs; whnf; arg 1; whnf); done) | rfl | assumption | (simp; done)) (by first | ((conv => lhs; whnf; arg 1; whnf); done) | rfl | assumption | (simp; done)) (by rfl) (by rfl) (by rfl) (by rfl) (by rfl) (by first | exact .inl rfl | exact .inr rfl) (by conv => lhs; first | simp only [List.set_cons_zero, List.set_cons_succ] | skip) ?_)
      all_goals refine ops_cons rfl ?_
      all_goals (refine op_assign (by conv => lhs; whnf) rfl rfl ?_)
      all_goals refine ops_nil ?_
      all_goals refine seqQ_n ?_
      all_goals (refine tri_le (lit_snapO 1 (by first | ((conv => lhs; whnf; arg 1; whnf); done) | rfl | assumption | (simp; done)) (by conv => lhs; whnf; congr; { whnf }; { whnf; congr; { whnf }; { whnf; congr; { whnf }; { whnf } } }) (by exact .cons (by first | exact SnapR.nil (sz := 1) | exact .pure rfl) (.cons (.pure rfl) (.cons (.pure rfl) .nil))) (by rfl) (by rfl) (by rfl)) ?_)
      all_goals refine tri_ret ?_
      all_goals refine seqQ_r ?_
      all_goals refine retE_r [] (.cons (by first | exact .cellAgg rfl rfl rfl rfl rfl rfl rfl rfl | exact .cell1 rfl rfl rfl rfl rfl rfl rfl) (.cons (.tmp (by conv => lhs; whnf) rfl) .nil)) rfl rfl (by first | exact (ren_pure (by rfl)).trans (by conv => lhs; whnf) | conv => lhs; whnf) (.nil) ?_
      all_goals (
        first
        | (have hd : crash s n = (zeroSto, 1) := if_neg (by simp_all)
           rw [hd]; exact ⟨rfl, rfl⟩)
        | (have hd : crash s n = (zeroSto, 2) := (if_pos (by simp_all)).trans (if_pos (by omega))
           rw [hd]; exact ⟨rfl, rfl⟩)
        | (have hd : crash s n = (⟨s.bytes.take (s.durable + n).toNat, s.durable, -1⟩, 0) := (if_pos (by simp_all)).trans (if_neg (by omega))
           rw [hd]; exact ⟨rfl, rfl⟩))
    rotate_right 1
    focus
      try (exfalso; first | exact hc | omega)
      all_goals refine tri_skip ?_)
  all_goals refine seqQ_n ?_
  all_goals refine tri_seq ?_
  all_goals (
    apply tri_anyCut (by rfl)
    focus
      all_goals refine any_take 0 rfl rfl (by kernel_rfl) (by kernel_rfl) (by kernel_rfl) (fun _ _ h => h) (by exact opWF_fieldAddr rfl rfl rfl) ?_
      all_goals (first | refine op_fieldAddr0 rfl rfl rfl rfl rfl rfl (by conv => lhs; whnf) ?_ | refine op_fieldAddr_rp0 rfl rfl rfl rfl rfl rfl (by conv => lhs; whnf) ?_ | refine op_fieldAddr rfl rfl rfl rfl rfl rfl ?_ | refine op_fieldAddr_rp rfl rfl rfl rfl rfl rfl ?_)
      all_goals refine any_take 2 rfl rfl (by kernel_rfl) (by kernel_rfl) (by kernel_rfl) (fun _ _ h => h) (by exact opWF_fieldAddr rfl rfl rfl) ?_
      all_goals (first | refine op_fieldAddr0 rfl rfl rfl rfl rfl rfl (by conv => lhs; whnf) ?_ | refine op_fieldAddr_rp0 rfl rfl rfl rfl rfl rfl (by conv => lhs; whnf) ?_ | refine op_fieldAddr rfl rfl rfl rfl rfl rfl ?_ | refine op_fieldAddr_rp rfl rfl rfl rfl rfl rfl ?_)
      all_goals refine any_take 4 rfl rfl (by kernel_rfl) (by kernel_rfl) (by kernel_rfl) (fun _ _ h => h) (by exact opWF_move) ?_
      all_goals (refine op_move (by conv => lhs; whnf) rfl rfl ?_)
      all_goals refine any_take 8 rfl rfl (by kernel_rfl) (by kernel_rfl) (by kernel_rfl) (fun _ _ h => h) (by exact opWF_fieldAddr rfl rfl rfl) ?_
      all_goals (first | refine op_fieldAddr0 rfl rfl rfl rfl rfl rfl (by conv => lhs; whnf) ?_ | refine op_fieldAddr_rp0 rfl rfl rfl rfl rfl rfl (by conv => lhs; whnf) ?_ | refine op_fieldAddr rfl rfl rfl rfl rfl rfl ?_ | refine op_fieldAddr_rp rfl rfl rfl rfl rfl rfl ?_)
      all_goals (
        refine any_all (rs := [1, 3, 9]) (by kernel_rfl) (by simp) (anyL_cons rfl rfl ?_ (anyL_cons rfl rfl ?_ (anyL_cons rfl rfl ?_ anyL_nil)))
        focus
          all_goals (first | refine op_load (by conv => lhs; whnf) (by rfl) (by rfl) (by first | ((conv => lhs; whnf; arg 1; whnf); done) | rfl | assumption | (simp; done)) (by rfl) (by first | ((conv => lhs; whnf; arg 1; whnf); done) | rfl | assumption | (simp; done)) (by first | ((conv => lhs; whnf; arg 1; whnf); done) | rfl | assumption | (simp; done)) (by rfl) ?_ | refine op_load_rp (by conv => lhs; whnf) (by rfl) (by rfl) (by first | ((conv => lhs; whnf; arg 1; whnf); done) | rfl | assumption | (simp; done)) (by rfl) ?_)
          all_goals (
            refine any_all (rs := [3, 9]) (by kernel_rfl) (by simp) (anyL_cons rfl rfl ?_ (anyL_cons rfl rfl ?_ anyL_nil))
            focus
              all_goals (first | refine op_load (by conv => lhs; whnf) (by rfl) (by rfl) (by first | ((conv => lhs; whnf; arg 1; whnf); done) | rfl | assumption | (simp; done)) (by rfl) (by first | ((conv => lhs; whnf; arg 1; whnf); done) | rfl | assumption | (simp; done)) (by first | ((conv => lhs; whnf; arg 1; whnf); done) | rfl | assumption | (simp; done)) (by rfl) ?_ | refine op_load_rp (by conv => lhs; whnf) (by rfl) (by rfl) (by first | ((conv => lhs; whnf; arg 1; whnf); done) | rfl | assumption | (simp; done)) (by rfl) ?_)
              all_goals refine any_take 5 rfl rfl (by kernel_rfl) (by kernel_rfl) (by kernel_rfl) (fun _ _ h => h) (by exact opWF_bin rfl rfl rfl rfl) ?_
              all_goals (first | refine op_add64 rfl rfl rfl rfl rfl (by omega) ?_ | refine op_add rfl rfl rfl rfl rfl ?_)
              all_goals refine any_take 6 rfl rfl (by kernel_rfl) (by kernel_rfl) (by kernel_rfl) (fun _ _ h => h) (by exact opWF_slice) ?_
              all_goals (first | refine op_slice_sl rfl rfl rfl rfl rfl .none (.to rfl rfl (by first | rw [Int.toNat_natCast] | rw [Int.toNat_zero] | rw [Int.toNat_one] | rw [Int.toNat_ofNat] | exact rfl) (by omega)) (by first | omega | simp; omega) (by first | omega | simp; omega) (by conv => lhs; first | rw [sub1] | rw [sub2] | rw [sub3] | skip) ?_ | refine op_slice_osl rfl rfl rfl rfl rfl .none (.to rfl rfl (by first | rw [Int.toNat_natCast] | rw [Int.toNat_zero] | rw [Int.toNat_one] | rw [Int.toNat_ofNat] | exact rfl) (by omega)) (by first | omega | simp) (by omega) ?_)
              all_goals (
                refine any_all (rs := [7, 9]) (by kernel_rfl) (by simp) (anyL_cons rfl rfl ?_ (anyL_cons rfl rfl ?_ anyL_nil))
                focus
                  all_goals (refine op_callB rfl rfl rfl rfl rfl ⟨_, Try.func18, by decide, rfl⟩ (.cons (.pure rfl) .nil) (clone_w _ (by first | omega | (simp; omega))) ?_)
                  all_goals (rintro _ H' m ⟨rfl, rfl⟩)
                  all_goals (
                    refine any_all (rs := [9]) (by kernel_rfl) (by simp) (anyL_cons rfl rfl ?_ anyL_nil)
                    focus
                      all_goals (first | refine op_load (by conv => lhs; whnf) (by rfl) (by rfl) (by first | ((conv => lhs; whnf; arg 1; whnf); done) | rfl | assumption | (simp; done)) (by rfl) (by first | ((conv => lhs; whnf; arg 1; whnf); done) | rfl | assumption | (simp; done)) (by first | ((conv => lhs; whnf; arg 1; whnf); done) | rfl | assumption | (simp; done)) (by rfl) ?_ | refine op_load_rp (by conv => lhs; whnf) (by rfl) (by rfl) (by first | ((conv => lhs; whnf; arg 1; whnf); done) | rfl | assumption | (simp; done)) (by rfl) ?_)
                      all_goals refine any_take 10 rfl rfl (by kernel_rfl) (by kernel_rfl) (by kernel_rfl) (fun _ _ h => h) (by exact opWF_build rfl) ?_
                      all_goals (refine op_build (by rfl) (by rfl) (by rfl) (by rfl) (by conv => lhs; whnf; congr; { whnf; congr; { whnf }; { whnf } }; { whnf; congr; { whnf; congr; { whnf }; { whnf } }; { whnf; congr; { whnf; congr; { whnf }; { whnf } }; { whnf } } }) (by conv => lhs; whnf; arg 1; whnf; congr; { whnf }; { whnf; congr; { whnf }; { whnf; congr; { whnf }; { whnf } } }) (by rfl) (by rfl) ?_)
                      all_goals (
                        refine any_all (rs := [11]) (by kernel_rfl) (by simp) (anyL_cons rfl rfl ?_ anyL_nil)
                        focus
                          all_goals (refine lit_store_el (by conv => lhs; whnf) (by conv => lhs; whnf) (by rfl) (by rfl) (by first | ((conv => lhs; whnf; arg 1; whnf); done) | rfl | assumption | (simp; done)) (by first | ((conv => lhs; whnf; arg 1; whnf); done) | rfl | assumption | (simp; done)) (by rfl) (by rfl) (by rfl) (by rfl) (by rfl) (by first | exact .inl rfl | exact .inr rfl) (by conv => lhs; first | simp only [List.set_cons_zero, List.set_cons_succ] | skip) ?_)
                          all_goals refine any_take 12 rfl rfl (by kernel_rfl) (by kernel_rfl) (by kernel_rfl) (fun _ _ h => h) (by exact opWF_assign) ?_
                          all_goals (refine op_assign (by conv => lhs; whnf) rfl rfl ?_)
                          all_goals exact any_leaf (n := 34) [0, 1] [0, 1, 2, 4, 5, 8, 21] (by kernel_rfl) rfl rfl rfl (.cons (by first | exact (ren_pure (by rfl)).trans (by conv => lhs; whnf) | conv => lhs; whnf) (.cons (by first | exact (ren_pure (by rfl)).trans (by conv => lhs; whnf) | conv => lhs; whnf) (.cons (by first | exact (ren_pure (by rfl)).trans (by conv => lhs; whnf) | conv => lhs; whnf) (.cons (by first | exact (ren_pure (by rfl)).trans (by conv => lhs; whnf) | conv => lhs; whnf) (.cons (by first | exact (ren_pure (by rfl)).trans (by conv => lhs; whnf) | conv => lhs; whnf) (.cons (by first | exact (ren_pure (by rfl)).trans (by conv => lhs; whnf) | conv => lhs; whnf) (.cons (by first | exact (ren_pure (by rfl)).trans (by conv => lhs; whnf) | conv => lhs; whnf) (.nil)))))))) (.cons (by first | exact (ren_pureO (by rfl)).trans (by conv => lhs; whnf) | conv => lhs; whnf) (.cons (by first | exact (ren_pureO (by rfl)).trans (by conv => lhs; whnf) | conv => lhs; whnf) (.nil)))))
                focus
                  all_goals (first | refine op_load (by conv => lhs; whnf) (by rfl) (by rfl) (by first | ((conv => lhs; whnf; arg 1; whnf); done) | rfl | assumption | (simp; done)) (by rfl) (by first | ((conv => lhs; whnf; arg 1; whnf); done) | rfl | assumption | (simp; done)) (by first | ((conv => lhs; whnf; arg 1; whnf); done) | rfl | assumption | (simp; done)) (by rfl) ?_ | refine op_load_rp (by conv => lhs; whnf) (by rfl) (by rfl) (by first | ((conv => lhs; whnf; arg 1; whnf); done) | rfl | assumption | (simp; done)) (by rfl) ?_)
                  all_goals (
                    refine any_all (rs := [7]) (by kernel_rfl) (by simp) (anyL_cons rfl rfl ?_ anyL_nil)
                    focus
                      all_goals (refine op_callB rfl rfl rfl rfl rfl ⟨_, Try.func18, by decide, rfl⟩ (.cons (.pure rfl) .nil) (clone_w _ (by first | omega | (simp; omega))) ?_)
                      all_goals (rintro _ H' m ⟨rfl, rfl⟩)
                      all_goals refine any_take 10 rfl rfl (by kernel_rfl) (by kernel_rfl) (by kernel_rfl) (fun _ _ h => h) (by exact opWF_build rfl) ?_
                      all_goals (refine op_build (by rfl) (by rfl) (by rfl) (by rfl) (by conv => lhs; whnf; congr; { whnf; congr; { whnf }; { whnf } }; { whnf; congr; { whnf; congr; { whnf }; { whnf } }; { whnf; congr; { whnf; congr; { whnf }; { whnf } }; { whnf } } }) (by conv => lhs; whnf; arg 1; whnf; congr; { whnf }; { whnf; congr; { whnf }; { whnf; congr; { whnf }; { whnf } } }) (by rfl) (by rfl) ?_)
                      all_goals (
                        refine any_all (rs := [11]) (by kernel_rfl) (by simp) (anyL_cons rfl rfl ?_ anyL_nil)
                        focus
                          all_goals (refine lit_store_el (by conv => lhs; whnf) (by conv => lhs; whnf) (by rfl) (by rfl) (by first | ((conv => lhs; whnf; arg 1; whnf); done) | rfl | assumption | (simp; done)) (by first | ((conv => lhs; whnf; arg 1; whnf); done) | rfl | assumption | (simp; done)) (by rfl) (by rfl) (by rfl) (by rfl) (by rfl) (by first | exact .inl rfl | exact .inr rfl) (by conv => lhs; first | simp only [List.set_cons_zero, List.set_cons_succ] | skip) ?_)
                          all_goals refine any_take 12 rfl rfl (by kernel_rfl) (by kernel_rfl) (by kernel_rfl) (fun _ _ h => h) (by exact opWF_assign) ?_
                          all_goals (refine op_assign (by conv => lhs; whnf) rfl rfl ?_)
                          all_goals exact any_leaf (n := 34) [0, 1] [0, 1, 2, 4, 5, 8, 21] (by kernel_rfl) rfl rfl rfl (.cons (by first | exact (ren_pure (by rfl)).trans (by conv => lhs; whnf) | conv => lhs; whnf) (.cons (by first | exact (ren_pure (by rfl)).trans (by conv => lhs; whnf) | conv => lhs; whnf) (.cons (by first | exact (ren_pure (by rfl)).trans (by conv => lhs; whnf) | conv => lhs; whnf) (.cons (by first | exact (ren_pure (by rfl)).trans (by conv => lhs; whnf) | conv => lhs; whnf) (.cons (by first | exact (ren_pure (by rfl)).trans (by conv => lhs; whnf) | conv => lhs; whnf) (.cons (by first | exact (ren_pure (by rfl)).trans (by conv => lhs; whnf) | conv => lhs; whnf) (.cons (by first | exact (ren_pure (by rfl)).trans (by conv => lhs; whnf) | conv => lhs; whnf) (.nil)))))))) (.cons (by first | exact (ren_pureO (by rfl)).trans (by conv => lhs; whnf) | conv => lhs; whnf) (.cons (by first | exact (ren_pureO (by rfl)).trans (by conv => lhs; whnf) | conv => lhs; whnf) (.nil))))))
            focus
              all_goals (first | refine op_load (by conv => lhs; whnf) (by rfl) (by rfl) (by first | ((conv => lhs; whnf; arg 1; whnf); done) | rfl | assumption | (simp; done)) (by rfl) (by first | ((conv => lhs; whnf; arg 1; whnf); done) | rfl | assumption | (simp; done)) (by first | ((conv => lhs; whnf; arg 1; whnf); done) | rfl | assumption | (simp; done)) (by rfl) ?_ | refine op_load_rp (by conv => lhs; whnf) (by rfl) (by rfl) (by first | ((conv => lhs; whnf; arg 1; whnf); done) | rfl | assumption | (simp; done)) (by rfl) ?_)
              all_goals (
                refine any_all (rs := [3]) (by kernel_rfl) (by simp) (anyL_cons rfl rfl ?_ anyL_nil)
                focus
                  all_goals (first | refine op_load (by conv => lhs; whnf) (by rfl) (by rfl) (by first | ((conv => lhs; whnf; arg 1; whnf); done) | rfl | assumption | (simp; done)) (by rfl) (by first | ((conv => lhs; whnf; arg 1; whnf); done) | rfl | assumption | (simp; done)) (by first | ((conv => lhs; whnf; arg 1; whnf); done) | rfl | assumption | (simp; done)) (by rfl) ?_ | refine op_load_rp (by conv => lhs; whnf) (by rfl) (by rfl) (by first | ((conv => lhs; whnf; arg 1; whnf); done) | rfl | assumption | (simp; done)) (by rfl) ?_)
                  all_goals refine any_take 5 rfl rfl (by kernel_rfl) (by kernel_rfl) (by kernel_rfl) (fun _ _ h => h) (by exact opWF_bin rfl rfl rfl rfl) ?_
                  all_goals (first | refine op_add64 rfl rfl rfl rfl rfl (by omega) ?_ | refine op_add rfl rfl rfl rfl rfl ?_)
                  all_goals refine any_take 6 rfl rfl (by kernel_rfl) (by kernel_rfl) (by kernel_rfl) (fun _ _ h => h) (by exact opWF_slice) ?_
                  all_goals (first | refine op_slice_sl rfl rfl rfl rfl rfl .none (.to rfl rfl (by first | rw [Int.toNat_natCast] | rw [Int.toNat_zero] | rw [Int.toNat_one] | rw [Int.toNat_ofNat] | exact rfl) (by omega)) (by first | omega | simp; omega) (by first | omega | simp; omega) (by conv => lhs; first | rw [sub1] | rw [sub2] | rw [sub3] | skip) ?_ | refine op_slice_osl rfl rfl rfl rfl rfl .none (.to rfl rfl (by first | rw [Int.toNat_natCast] | rw [Int.toNat_zero] | rw [Int.toNat_one] | rw [Int.toNat_ofNat] | exact rfl) (by omega)) (by first | omega | simp) (by omega) ?_)
                  all_goals (
                    refine any_all (rs := [7]) (by kernel_rfl) (by simp) (anyL_cons rfl rfl ?_ anyL_nil)
                    focus
                      all_goals (refine op_callB rfl rfl rfl rfl rfl ⟨_, Try.func18, by decide, rfl⟩ (.cons (.pure rfl) .nil) (clone_w _ (by first | omega | (simp; omega))) ?_)
                      all_goals (rintro _ H' m ⟨rfl, rfl⟩)
                      all_goals refine any_take 10 rfl rfl (by kernel_rfl) (by kernel_rfl) (by kernel_rfl) (fun _ _ h => h) (by exact opWF_build rfl) ?_
                      all_goals (refine op_build (by rfl) (by rfl) (by rfl) (by rfl) (by conv => lhs; whnf; congr; { whnf; congr; { whnf }; { whnf } }; { whnf; congr; { whnf; congr; { whnf }; { whnf } }; { whnf; congr; { whnf; congr; { whnf }; { whnf } }; { whnf } } }) (by conv => lhs; whnf; arg 1; whnf; congr; { whnf }; { whnf; congr; { whnf }; { whnf; congr; { whnf }; { whnf } } }) (by rfl) (by rfl) ?_)
                      all_goals (
                        refine any_all (rs := [11]) (by kernel_rfl) (by simp) (anyL_cons rfl rfl ?_ anyL_nil)
                        focus
                          all_goals (refine lit_store_el (by conv => lhs; whnf) (by conv => lhs; whnf) (by rfl) (by rfl) (by first | ((conv => lhs; whnf; arg 1; whnf); done) | rfl | assumption | (simp; done)) (by first | ((conv => lhs; whnf; arg 1; whnf); done) | rfl | assumption | (simp; done)) (by rfl) (by rfl) (by rfl) (by rfl) (by rfl) (by first | exact .inl rfl | exact .inr rfl) (by conv => lhs; first | simp only [List.set_cons_zero, List.set_cons_succ] | skip) ?_)
                          all_goals refine any_take 12 rfl rfl (by kernel_rfl) (by kernel_rfl) (by kernel_rfl) (fun _ _ h => h) (by exact opWF_assign) ?_
                          all_goals (refine op_assign (by conv => lhs; whnf) rfl rfl ?_)
                          all_goals exact any_leaf (n := 34) [0, 1] [0, 1, 2, 4, 5, 8, 21] (by kernel_rfl) rfl rfl rfl (.cons (by first | exact (ren_pure (by rfl)).trans (by conv => lhs; whnf) | conv => lhs; whnf) (.cons (by first | exact (ren_pure (by rfl)).trans (by conv => lhs; whnf) | conv => lhs; whnf) (.cons (by first | exact (ren_pure (by rfl)).trans (by conv => lhs; whnf) | conv => lhs; whnf) (.cons (by first | exact (ren_pure (by rfl)).trans (by conv => lhs; whnf) | conv => lhs; whnf) (.cons (by first | exact (ren_pure (by rfl)).trans (by conv => lhs; whnf) | conv => lhs; whnf) (.cons (by first | exact (ren_pure (by rfl)).trans (by conv => lhs; whnf) | conv => lhs; whnf) (.cons (by first | exact (ren_pure (by rfl)).trans (by conv => lhs; whnf) | conv => lhs; whnf) (.nil)))))))) (.cons (by first | exact (ren_pureO (by rfl)).trans (by conv => lhs; whnf) | conv => lhs; whnf) (.cons (by first | exact (ren_pureO (by rfl)).trans (by conv => lhs; whnf) | conv => lhs; whnf) (.nil)))))))
        focus
          all_goals (first | refine op_load (by conv => lhs; whnf) (by rfl) (by rfl) (by first | ((conv => lhs; whnf; arg 1; whnf); done) | rfl | assumption | (simp; done)) (by rfl) (by first | ((conv => lhs; whnf; arg 1; whnf); done) | rfl | assumption | (simp; done)) (by first | ((conv => lhs; whnf; arg 1; whnf); done) | rfl | assumption | (simp; done)) (by rfl) ?_ | refine op_load_rp (by conv => lhs; whnf) (by rfl) (by rfl) (by first | ((conv => lhs; whnf; arg 1; whnf); done) | rfl | assumption | (simp; done)) (by rfl) ?_)
          all_goals refine any_take 5 rfl rfl (by kernel_rfl) (by kernel_rfl) (by kernel_rfl) (fun _ _ h => h) (by exact opWF_bin rfl rfl rfl rfl) ?_
          all_goals (first | refine op_add64 rfl rfl rfl rfl rfl (by omega) ?_ | refine op_add rfl rfl rfl rfl rfl ?_)
          all_goals (
            refine any_all (rs := [1, 9]) (by kernel_rfl) (by simp) (anyL_cons rfl rfl ?_ (anyL_cons rfl rfl ?_ anyL_nil))
            focus
              all_goals (first | refine op_load (by conv => lhs; whnf) (by rfl) (by rfl) (by first | ((conv => lhs; whnf; arg 1; whnf); done) | rfl | assumption | (simp; done)) (by rfl) (by first | ((conv => lhs; whnf; arg 1; whnf); done) | rfl | assumption | (simp; done)) (by first | ((conv => lhs; whnf; arg 1; whnf); done) | rfl | assumption | (simp; done)) (by rfl) ?_ | refine op_load_rp (by conv => lhs; whnf) (by rfl) (by rfl) (by first | ((conv => lhs; whnf; arg 1; whnf); done) | rfl | assumption | (simp; done)) (by rfl) ?_)
              all_goals refine any_take 6 rfl rfl (by kernel_rfl) (by kernel_rfl) (by kernel_rfl) (fun _ _ h => h) (by exact opWF_slice) ?_
              all_goals (first | refine op_slice_sl rfl rfl rfl rfl rfl .none (.to rfl rfl (by first | rw [Int.toNat_natCast] | rw [Int.toNat_zero] | rw [Int.toNat_one] | rw [Int.toNat_ofNat] | exact rfl) (by omega)) (by first | omega | simp; omega) (by first | omega | simp; omega) (by conv => lhs; first | rw [sub1] | rw [sub2] | rw [sub3] | skip) ?_ | refine op_slice_osl rfl rfl rfl rfl rfl .none (.to rfl rfl (by first | rw [Int.toNat_natCast] | rw [Int.toNat_zero] | rw [Int.toNat_one] | rw [Int.toNat_ofNat] | exact rfl) (by omega)) (by first | omega | simp) (by omega) ?_)
              all_goals (
                refine any_all (rs := [7, 9]) (by kernel_rfl) (by simp) (anyL_cons rfl rfl ?_ (anyL_cons rfl rfl ?_ anyL_nil))
                focus
                  all_goals (refine op_callB rfl rfl rfl rfl rfl ⟨_, Try.func18, by decide, rfl⟩ (.cons (.pure rfl) .nil) (clone_w _ (by first | omega | (simp; omega))) ?_)
                  all_goals (rintro _ H' m ⟨rfl, rfl⟩)
                  all_goals (
                    refine any_all (rs := [9]) (by kernel_rfl) (by simp) (anyL_cons rfl rfl ?_ anyL_nil)
                    focus
                      all_goals (first | refine op_load (by conv => lhs; whnf) (by rfl) (by rfl) (by first | ((conv => lhs; whnf; arg 1; whnf); done) | rfl | assumption | (simp; done)) (by rfl) (by first | ((conv => lhs; whnf; arg 1; whnf); done) | rfl | assumption | (simp; done)) (by first | ((conv => lhs; whnf; arg 1; whnf); done) | rfl | assumption | (simp; done)) (by rfl) ?_ | refine op_load_rp (by conv => lhs; whnf) (by rfl) (by rfl) (by first | ((conv => lhs; whnf; arg 1; whnf); done) | rfl | assumption | (simp; done)) (by rfl) ?_)
                      all_goals refine any_take 10 rfl rfl (by kernel_rfl) (by kernel_rfl) (by kernel_rfl) (fun _ _ h => h) (by exact opWF_build rfl) ?_
                      all_goals (refine op_build (by rfl) (by rfl) (by rfl) (by rfl) (by conv => lhs; whnf; congr; { whnf; congr; { whnf }; { whnf } }; { whnf; congr; { whnf; congr; { whnf }; { whnf } }; { whnf; congr; { whnf; congr; { whnf }; { whnf } }; { whnf } } }) (by conv => lhs; whnf; arg 1; whnf; congr; { whnf }; { whnf; congr; { whnf }; { whnf; congr; { whnf }; { whnf } } }) (by rfl) (by rfl) ?_)
                      all_goals (
                        refine any_all (rs := [11]) (by kernel_rfl) (by simp) (anyL_cons rfl rfl ?_ anyL_nil)
                        focus
                          all_goals (refine lit_store_el (by conv => lhs; whnf) (by conv => lhs; whnf) (by rfl) (by rfl) (by first | ((conv => lhs; whnf; arg 1; whnf); done) | rfl | assumption | (simp; done)) (by first | ((conv => lhs; whnf; arg 1; whnf); done) | rfl | assumption | (simp; done)) (by rfl) (by rfl) (by rfl) (by rfl) (by rfl) (by first | exact .inl rfl | exact .inr rfl) (by conv => lhs; first | simp only [List.set_cons_zero, List.set_cons_succ] | skip) ?_)
                          all_goals refine any_take 12 rfl rfl (by kernel_rfl) (by kernel_rfl) (by kernel_rfl) (fun _ _ h => h) (by exact opWF_assign) ?_
                          all_goals (refine op_assign (by conv => lhs; whnf) rfl rfl ?_)
                          all_goals exact any_leaf (n := 34) [0, 1] [0, 1, 2, 4, 5, 8, 21] (by kernel_rfl) rfl rfl rfl (.cons (by first | exact (ren_pure (by rfl)).trans (by conv => lhs; whnf) | conv => lhs; whnf) (.cons (by first | exact (ren_pure (by rfl)).trans (by conv => lhs; whnf) | conv => lhs; whnf) (.cons (by first | exact (ren_pure (by rfl)).trans (by conv => lhs; whnf) | conv => lhs; whnf) (.cons (by first | exact (ren_pure (by rfl)).trans (by conv => lhs; whnf) | conv => lhs; whnf) (.cons (by first | exact (ren_pure (by rfl)).trans (by conv => lhs; whnf) | conv => lhs; whnf) (.cons (by first | exact (ren_pure (by rfl)).trans (by conv => lhs; whnf) | conv => lhs; whnf) (.cons (by first | exact (ren_pure (by rfl)).trans (by conv => lhs; whnf) | conv => lhs; whnf) (.nil)))))))) (.cons (by first | exact (ren_pureO (by rfl)).trans (by conv => lhs; whnf) | conv => lhs; whnf) (.cons (by first | exact (ren_pureO (by rfl)).trans (by conv => lhs; whnf) | conv => lhs; whnf) (.nil)))))
                focus
                  all_goals (first | refine op_load (by conv => lhs; whnf) (by rfl) (by rfl) (by first | ((conv => lhs; whnf; arg 1; whnf); done) | rfl | assumption | (simp; done)) (by rfl) (by first | ((conv => lhs; whnf; arg 1; whnf); done) | rfl | assumption | (simp; done)) (by first | ((conv => lhs; whnf; arg 1; whnf); done) | rfl | assumption | (simp; done)) (by rfl) ?_ | refine op_load_rp (by conv => lhs; whnf) (by rfl) (by rfl) (by first | ((conv => lhs; whnf; arg 1; whnf); done) | rfl | assumption | (simp; done)) (by rfl) ?_)
                  all_goals (
                    refine any_all (rs := [7]) (by kernel_rfl) (by simp) (anyL_cons rfl rfl ?_ anyL_nil)
                    focus
                      all_goals (refine op_callB rfl rfl rfl rfl rfl ⟨_, Try.func18, by decide, rfl⟩ (.cons (.pure rfl) .nil) (clone_w _ (by first | omega | (simp; omega))) ?_)
                      all_goals (rintro _ H' m ⟨rfl, rfl⟩)
                      all_goals refine any_take 10 rfl rfl (by kernel_rfl) (by kernel_rfl) (by kernel_rfl) (fun _ _ h => h) (by exact opWF_build rfl) ?_
                      all_goals (refine op_build (by rfl) (by rfl) (by rfl) (by rfl) (by conv => lhs; whnf; congr; { whnf; congr; { whnf }; { whnf } }; { whnf; congr; { whnf; congr; { whnf }; { whnf } }; { whnf; congr; { whnf; congr; { whnf }; { whnf } }; { whnf } } }) (by conv => lhs; whnf; arg 1; whnf; congr; { whnf }; { whnf; congr; { whnf }; { whnf; congr; { whnf }; { whnf } } }) (by rfl) (by rfl) ?_)
                      all_goals (
                        refine any_all (rs := [11]) (by kernel_rfl) (by simp) (anyL_cons rfl rfl ?_ anyL_nil)
                        focus
                          all_goals (refine lit_store_el (by conv => lhs; whnf) (by conv => lhs; whnf) (by rfl) (by rfl) (by first | ((conv => lhs; whnf; arg 1; whnf); done) | rfl | assumption | (simp; done)) (by first | ((conv => lhs; whnf; arg 1; whnf); done) | rfl | assumption | (simp; done)) (by rfl) (by rfl) (by rfl) (by rfl) (by rfl) (by first | exact .inl rfl | exact .inr rfl) (by conv => lhs; first | simp only [List.set_cons_zero, List.set_cons_succ] | skip) ?_)
                          all_goals refine any_take 12 rfl rfl (by kernel_rfl) (by kernel_rfl) (by kernel_rfl) (fun _ _ h => h) (by exact opWF_assign) ?_
                          all_goals (refine op_assign (by conv => lhs; whnf) rfl rfl ?_)
                          all_goals exact any_leaf (n := 34) [0, 1] [0, 1, 2, 4, 5, 8, 21] (by kernel_rfl) rfl rfl rfl (.cons (by first | exact (ren_pure (by rfl)).trans (by conv => lhs; whnf) | conv => lhs; whnf) (.cons (by first | exact (ren_pure (by rfl)).trans (by conv => lhs; whnf) | conv => lhs; whnf) (.cons (by first | exact (ren_pure (by rfl)).trans (by conv => lhs; whnf) | conv => lhs; whnf) (.cons (by first | exact (ren_pure (by rfl)).trans (by conv => lhs; whnf) | conv => lhs; whnf) (.cons (by first | exact (ren_pure (by rfl)).trans (by conv => lhs; whnf) | conv => lhs; whnf) (.cons (by first | exact (ren_pure (by rfl)).trans (by conv => lhs; whnf) | conv => lhs; whnf) (.cons (by first | exact (ren_pure (by rfl)).trans (by conv => lhs; whnf) | conv => lhs; whnf) (.nil)))))))) (.cons (by first | exact (ren_pureO (by rfl)).trans (by conv => lhs; whnf) | conv => lhs; whnf) (.cons (by first | exact (ren_pureO (by rfl)).trans (by conv => lhs; whnf) | conv => lhs; whnf) (.nil))))))
            focus
              all_goals (first | refine op_load (by conv => lhs; whnf) (by rfl) (by rfl) (by first | ((conv => lhs; whnf; arg 1; whnf); done) | rfl | assumption | (simp; done)) (by rfl) (by first | ((conv => lhs; whnf; arg 1; whnf); done) | rfl | assumption | (simp; done)) (by first | ((conv => lhs; whnf; arg 1; whnf); done) | rfl | assumption | (simp; done)) (by rfl) ?_ | refine op_load_rp (by conv => lhs; whnf) (by rfl) (by rfl) (by first | ((conv => lhs; whnf; arg 1; whnf); done) | rfl | assumption | (simp; done)) (by rfl) ?_)
              all_goals (
                refine any_all (rs := [1]) (by kernel_rfl) (by simp) (anyL_cons rfl rfl ?_ anyL_nil)
                focus
                  all_goals (first | refine op_load (by conv => lhs; whnf) (by rfl) (by rfl) (by first | ((conv => lhs; whnf; arg 1; whnf); done) | rfl | assumption | (simp; done)) (by rfl) (by first | ((conv => lhs; whnf; arg 1; whnf); done) | rfl | assumption | (simp; done)) (by first | ((conv => lhs; whnf; arg 1; whnf); done) | rfl | assumption | (simp; done)) (by rfl) ?_ | refine op_load_rp (by conv => lhs; whnf) (by rfl) (by rfl) (by first | ((conv => lhs; whnf; arg 1; whnf); done) | rfl | assumption | (simp; done)) (by rfl) ?_)
                  all_goals refine any_take 6 rfl rfl (by kernel_rfl) (by kernel_rfl) (by kernel_rfl) (fun _ _ h => h) (by exact opWF_slice) ?_
                  all_goals (first | refine op_slice_sl rfl rfl rfl rfl rfl .none (.to rfl rfl (by first | rw [Int.toNat_natCast] | rw [Int.toNat_zero] | rw [Int.toNat_one] | rw [Int.toNat_ofNat] | exact rfl) (by omega)) (by first | omega | simp; omega) (by first | omega | simp; omega) (by conv => lhs; first | rw [sub1] | rw [sub2] | rw [sub3] | skip) ?_ | refine op_slice_osl rfl rfl rfl rfl rfl .none (.to rfl rfl (by first | rw [Int.toNat_natCast] | rw [Int.toNat_zero] | rw [Int.toNat_one] | rw [Int.toNat_ofNat] | exact rfl) (by omega)) (by first | omega | simp) (by omega) ?_)
                  all_goals (
                    refine any_all (rs := [7]) (by kernel_rfl) (by simp) (anyL_cons rfl rfl ?_ anyL_nil)
                    focus
                      all_goals (refine op_callB rfl rfl rfl rfl rfl ⟨_, Try.func18, by decide, rfl⟩ (.cons (.pure rfl) .nil) (clone_w _ (by first | omega | (simp; omega))) ?_)
                      all_goals (rintro _ H' m ⟨rfl, rfl⟩)
                      all_goals refine any_take 10 rfl rfl (by kernel_rfl) (by kernel_rfl) (by kernel_rfl) (fun _ _ h => h) (by exact opWF_build rfl) ?_
                      all_goals (refine op_build (by rfl) (by rfl) (by rfl) (by rfl) (by conv => lhs; whnf; congr; { whnf; congr; { whnf }; { whnf } }; { whnf; congr; { whnf; congr; { whnf }; { whnf } }; { whnf; congr; { whnf; congr; { whnf }; { whnf } }; { whnf } } }) (by conv => lhs; whnf; arg 1; whnf; congr; { whnf }; { whnf; congr; { whnf }; { whnf; congr; { whnf }; { whnf } } }) (by rfl) (by rfl) ?_)
                      all_goals (
                        refine any_all (rs := [11]) (by kernel_rfl) (by simp) (anyL_cons rfl rfl ?_ anyL_nil)
                        focus
                          all_goals (refine lit_store_el (by conv => lhs; whnf) (by conv => lhs; whnf) (by rfl) (by rfl) (by first | ((conv => lhs; whnf; arg 1; whnf); done) | rfl | assumption | (simp; done)) (by first | ((conv => lhs; whnf; arg 1; whnf); done) | rfl | assumption | (simp; done)) (by rfl) (by rfl) (by rfl) (by rfl) (by rfl) (by first | exact .inl rfl | exact .inr rfl) (by conv => lhs; first | simp only [List.set_cons_zero, List.set_cons_succ] | skip) ?_)
                          all_goals refine any_take 12 rfl rfl (by kernel_rfl) (by kernel_rfl) (by kernel_rfl) (fun _ _ h => h) (by exact opWF_assign) ?_
                          all_goals (refine op_assign (by conv => lhs; whnf) rfl rfl ?_)
                          all_goals exact any_leaf (n := 34) [0, 1] [0, 1, 2, 4, 5, 8, 21] (by kernel_rfl) rfl rfl rfl (.cons (by first | exact (ren_pure (by rfl)).trans (by conv => lhs; whnf) | conv => lhs; whnf) (.cons (by first | exact (ren_pure (by rfl)).trans (by conv => lhs; whnf) | conv => lhs; whnf) (.cons (by first | exact (ren_pure (by rfl)).trans (by conv => lhs; whnf) | conv => lhs; whnf) (.cons (by first | exact (ren_pure (by rfl)).trans (by conv => lhs; whnf) | conv => lhs; whnf) (.cons (by first | exact (ren_pure (by rfl)).trans (by conv => lhs; whnf) | conv => lhs; whnf) (.cons (by first | exact (ren_pure (by rfl)).trans (by conv => lhs; whnf) | conv => lhs; whnf) (.cons (by first | exact (ren_pure (by rfl)).trans (by conv => lhs; whnf) | conv => lhs; whnf) (.nil)))))))) (.cons (by first | exact (ren_pureO (by rfl)).trans (by conv => lhs; whnf) | conv => lhs; whnf) (.cons (by first | exact (ren_pureO (by rfl)).trans (by conv => lhs; whnf) | conv => lhs; whnf) (.nil)))))))
        focus
          all_goals (first | refine op_load (by conv => lhs; whnf) (by rfl) (by rfl) (by first | ((conv => lhs; whnf; arg 1; whnf); done) | rfl | assumption | (simp; done)) (by rfl) (by first | ((conv => lhs; whnf; arg 1; whnf); done) | rfl | assumption | (simp; done)) (by first | ((conv => lhs; whnf; arg 1; whnf); done) | rfl | assumption | (simp; done)) (by rfl) ?_ | refine op_load_rp (by conv => lhs; whnf) (by rfl) (by rfl) (by first | ((conv => lhs; whnf; arg 1; whnf); done) | rfl | assumption | (simp; done)) (by rfl) ?_)
          all_goals (
            refine any_all (rs := [1, 3]) (by kernel_rfl) (by simp) (anyL_cons rfl rfl ?_ (anyL_cons rfl rfl ?_ anyL_nil))
            focus
              all_goals (first | refine op_load (by conv => lhs; whnf) (by rfl) (by rfl) (by first | ((conv => lhs; whnf; arg 1; whnf); done) | rfl | assumption | (simp; done)) (by rfl) (by first | ((conv => lhs; whnf; arg 1; whnf); done) | rfl | assumption | (simp; done)) (by first | ((conv => lhs; whnf; arg 1; whnf); done) | rfl | assumption | (simp; done)) (by rfl) ?_ | refine op_load_rp (by conv => lhs; whnf) (by rfl) (by rfl) (by first | ((conv => lhs; whnf; arg 1; whnf); done) | rfl | assumption | (simp; done)) (by rfl) ?_)
              all_goals (
                refine any_all (rs := [3]) (by kernel_rfl) (by simp) (anyL_cons rfl rfl ?_ anyL_nil)
                focus
                  all_goals (first | refine op_load (by conv => lhs; whnf) (by rfl) (by rfl) (by first | ((conv => lhs; whnf; arg 1; whnf); done) | rfl | assumption | (simp; done)) (by rfl) (by first | ((conv => lhs; whnf; arg 1; whnf); done) | rfl | assumption | (simp; done)) (by first | ((conv => lhs; whnf; arg 1; whnf); done) | rfl | assumption | (simp; done)) (by rfl) ?_ | refine op_load_rp (by conv => lhs; whnf) (by rfl) (by rfl) (by first | ((conv => lhs; whnf; arg 1; whnf); done) | rfl | assumption | (simp; done)) (by rfl) ?_)
                  all_goals refine any_take 5 rfl rfl (by kernel_rfl) (by kernel_rfl) (by kernel_rfl) (fun _ _ h => h) (by exact opWF_bin rfl rfl rfl rfl) ?_
                  all_goals (first | refine op_add64 rfl rfl rfl rfl rfl (by omega) ?_ | refine op_add rfl rfl rfl rfl rfl ?_)
                  all_goals refine any_take 6 rfl rfl (by kernel_rfl) (by kernel_rfl) (by kernel_rfl) (fun _ _ h => h) (by exact opWF_slice) ?_
                  all_goals (first | refine op_slice_sl rfl rfl rfl rfl rfl .none (.to rfl rfl (by first | rw [Int.toNat_natCast] | rw [Int.toNat_zero] | rw [Int.toNat_one] | rw [Int.toNat_ofNat] | exact rfl) (by omega)) (by first | omega | simp; omega) (by first | omega | simp; omega) (by conv => lhs; first | rw [sub1] | rw [sub2] | rw [sub3] | skip) ?_ | refine op_slice_osl rfl rfl rfl rfl rfl .none (.to rfl rfl (by first | rw [Int.toNat_natCast] | rw [Int.toNat_zero] | rw [Int.toNat_one] | rw [Int.toNat_ofNat] | exact rfl) (by omega)) (by first | omega | simp) (by omega) ?_)
                  all_goals (
                    refine any_all (rs := [7]) (by kernel_rfl) (by simp) (anyL_cons rfl rfl ?_ anyL_nil)
                    focus
                      all_goals (refine op_callB rfl rfl rfl rfl rfl ⟨_, Try.func18, by decide, rfl⟩ (.cons (.pure rfl) .nil) (clone_w _ (by first | omega | (simp; omega))) ?_)
                      all_goals (rintro _ H' m ⟨rfl, rfl⟩)
                      all_goals refine any_take 10 rfl rfl (by kernel_rfl) (by kernel_rfl) (by kernel_rfl) (fun _ _ h => h) (by exact opWF_build rfl) ?_
                      all_goals (refine op_build (by rfl) (by rfl) (by rfl) (by rfl) (by conv => lhs; whnf; congr; { whnf; congr; { whnf }; { whnf } }; { whnf; congr; { whnf; congr; { whnf }; { whnf } }; { whnf; congr; { whnf; congr; { whnf }; { whnf } }; { whnf } } }) (by conv => lhs; whnf; arg 1; whnf; congr; { whnf }; { whnf; congr; { whnf }; { whnf; congr; { whnf }; { whnf } } }) (by rfl) (by rfl) ?_)
                      all_goals (
                        refine any_all (rs := [11]) (by kernel_rfl) (by simp) (anyL_cons rfl rfl ?_ anyL_nil)
                        focus
                          all_goals (refine lit_store_el (by conv => lhs; whnf) (by conv => lhs; whnf) (by rfl) (by rfl) (by first | ((conv => lhs; whnf; arg 1; whnf); done) | rfl | assumption | (simp; done)) (by first | ((conv => lhs; whnf; arg 1; whnf); done) | rfl | assumption | (simp; done)) (by rfl) (by rfl) (by rfl) (by rfl) (by rfl) (by first | exact .inl rfl | exact .inr rfl) (by conv => lhs; first | simp only [List.set_cons_zero, List.set_cons_succ] | skip) ?_)
                          all_goals refine any_take 12 rfl rfl (by kernel_rfl) (by kernel_rfl) (by kernel_rfl) (fun _ _ h => h) (by exact opWF_assign) ?_
                          all_goals (refine op_assign (by conv => lhs; whnf) rfl rfl ?_)
                          all_goals exact any_leaf (n := 34) [0, 1] [0, 1, 2, 4, 5, 8, 21] (by kernel_rfl) rfl rfl rfl (.cons (by first | exact (ren_pure (by rfl)).trans (by conv => lhs; whnf) | conv => lhs; whnf) (.cons (by first | exact (ren_pure (by rfl)).trans (by conv => lhs; whnf) | conv => lhs; whnf) (.cons (by first | exact (ren_pure (by rfl)).trans (by conv => lhs; whnf) | conv => lhs; whnf) (.cons (by first | exact (ren_pure (by rfl)).trans (by conv => lhs; whnf) | conv => lhs; whnf) (.cons (by first | exact (ren_pure (by rfl)).trans (by conv => lhs; whnf) | conv => lhs; whnf) (.cons (by first | exact (ren_pure (by rfl)).trans (by conv => lhs; whnf) | conv => lhs; whnf) (.cons (by first | exact (ren_pure (by rfl)).trans (by conv => lhs; whnf) | conv => lhs; whnf) (.nil)))))))) (.cons (by first | exact (ren_pureO (by rfl)).trans (by conv => lhs; whnf) | conv => lhs; whnf) (.cons (by first | exact (ren_pureO (by rfl)).trans (by conv => lhs; whnf) | conv => lhs; whnf) (.nil))))))
            focus
              all_goals (first | refine op_load (by conv => lhs; whnf) (by rfl) (by rfl) (by first | ((conv => lhs; whnf; arg 1; whnf); done) | rfl | assumption | (simp; done)) (by rfl) (by first | ((conv => lhs; whnf; arg 1; whnf); done) | rfl | assumption | (simp; done)) (by first | ((conv => lhs; whnf; arg 1; whnf); done) | rfl | assumption | (simp; done)) (by rfl) ?_ | refine op_load_rp (by conv => lhs; whnf) (by rfl) (by rfl) (by first | ((conv => lhs; whnf; arg 1; whnf); done) | rfl | assumption | (simp; done)) (by rfl) ?_)
              all_goals refine any_take 5 rfl rfl (by kernel_rfl) (by kernel_rfl) (by kernel_rfl) (fun _ _ h => h) (by exact opWF_bin rfl rfl rfl rfl) ?_
              all_goals (first | refine op_add64 rfl rfl rfl rfl rfl (by omega) ?_ | refine op_add rfl rfl rfl rfl rfl ?_)
              all_goals (
                refine any_all (rs := [1]) (by kernel_rfl) (by simp) (anyL_cons rfl rfl ?_ anyL_nil)
                focus
                  all_goals (first | refine op_load (by conv => lhs; whnf) (by rfl) (by rfl) (by first | ((conv => lhs; whnf; arg 1; whnf); done) | rfl | assumption | (simp; done)) (by rfl) (by first | ((conv => lhs; whnf; arg 1; whnf); done) | rfl | assumption | (simp; done)) (by first | ((conv => lhs; whnf; arg 1; whnf); done) | rfl | assumption | (simp; done)) (by rfl) ?_ | refine op_load_rp (by conv => lhs; whnf) (by rfl) (by rfl) (by first | ((conv => lhs; whnf; arg 1; whnf); done) | rfl | assumption | (simp; done)) (by rfl) ?_)
                  all_goals refine any_take 6 rfl rfl (by kernel_rfl) (by kernel_rfl) (by kernel_rfl) (fun _ _ h => h) (by exact opWF_slice) ?_
                  all_goals (first | refine op_slice_sl rfl rfl rfl rfl rfl .none (.to rfl rfl (by first | rw [Int.toNat_natCast] | rw [Int.toNat_zero] | rw [Int.toNat_one] | rw [Int.toNat_ofNat] | exact rfl) (by omega)) (by first | omega | simp; omega) (by first | omega | simp; omega) (by conv => lhs; first | rw [sub1] | rw [sub2] | rw [sub3] | skip) ?_ | refine op_slice_osl rfl rfl rfl rfl rfl .none (.to rfl rfl (by first | rw [Int.toNat_natCast] | rw [Int.toNat_zero] | rw [Int.toNat_one] | rw [Int.toNat_ofNat] | exact rfl) (by omega)) (by first | omega | simp) (by omega) ?_)
                  all_goals (
                    refine any_all (rs := [7]) (by kernel_rfl) (by simp) (anyL_cons rfl rfl ?_ anyL_nil)
                    focus
                      all_goals (refine op_callB rfl rfl rfl rfl rfl ⟨_, Try.func18, by decide, rfl⟩ (.cons (.pure rfl) .nil) (clone_w _ (by first | omega | (simp; omega))) ?_)
                      all_goals (rintro _ H' m ⟨rfl, rfl⟩)
                      all_goals refine any_take 10 rfl rfl (by kernel_rfl) (by kernel_rfl) (by kernel_rfl) (fun _ _ h => h) (by exact opWF_build rfl) ?_
                      all_goals (refine op_build (by rfl) (by rfl) (by rfl) (by rfl) (by conv => lhs; whnf; congr; { whnf; congr; { whnf }; { whnf } }; { whnf; congr; { whnf; congr; { whnf }; { whnf } }; { whnf; congr; { whnf; congr; { whnf }; { whnf } }; { whnf } } }) (by conv => lhs; whnf; arg 1; whnf; congr; { whnf }; { whnf; congr; { whnf }; { whnf; congr; { whnf }; { whnf } } }) (by rfl) (by rfl) ?_)
                      all_goals (
                        refine any_all (rs := [11]) (by kernel_rfl) (by simp) (anyL_cons rfl rfl ?_ anyL_nil)
                        focus
                          all_goals (refine lit_store_el (by conv => lhs; whnf) (by conv => lhs; whnf) (by rfl) (by rfl) (by first | ((conv => lhs; whnf; arg 1; whnf); done) | rfl | assumption | (simp; done)) (by first | ((conv => lhs; whnf; arg 1; whnf); done) | rfl | assumption | (simp; done)) (by rfl) (by rfl) (by rfl) (by rfl) (by rfl) (by first | exact .inl rfl | exact .inr rfl) (by conv => lhs; first | simp only [List.set_cons_zero, List.set_cons_succ] | skip) ?_)
                          all_goals refine any_take 12 rfl rfl (by kernel_rfl) (by kernel_rfl) (by kernel_rfl) (fun _ _ h => h) (by exact opWF_assign) ?_
                          all_goals (refine op_assign (by conv => lhs; whnf) rfl rfl ?_)
                          all_goals exact any_leaf (n := 34) [0, 1] [0, 1, 2, 4, 5, 8, 21] (by kernel_rfl) rfl rfl rfl (.cons (by first | exact (ren_pure (by rfl)).trans (by conv => lhs; whnf) | conv => lhs; whnf) (.cons (by first | exact (ren_pure (by rfl)).trans (by conv => lhs; whnf) | conv => lhs; whnf) (.cons (by first | exact (ren_pure (by rfl)).trans (by conv => lhs; whnf) | conv => lhs; whnf) (.cons (by first | exact (ren_pure (by rfl)).trans (by conv => lhs; whnf) | conv => lhs; whnf) (.cons (by first | exact (ren_pure (by rfl)).trans (by conv => lhs; whnf) | conv => lhs; whnf) (.cons (by first | exact (ren_pure (by rfl)).trans (by conv => lhs; whnf) | conv => lhs; whnf) (.cons (by first | exact (ren_pure (by rfl)).trans (by conv => lhs; whnf) | conv => lhs; whnf) (.nil)))))))) (.cons (by first | exact (ren_pureO (by rfl)).trans (by conv => lhs; whnf) | conv => lhs; whnf) (.cons (by first | exact (ren_pureO (by rfl)).trans (by conv => lhs; whnf) | conv => lhs; whnf) (.nil)))))))))
  all_goals refine seqQ_n ?_
  all_goals (refine tri_le (lit_snapO 1 (by first | ((conv => lhs; whnf; arg 1; whnf); done) | rfl | assumption | (simp; done)) (by conv => lhs; whnf; congr; { whnf }; { whnf; congr; { whnf }; { whnf; congr; { whnf }; { whnf } } }) (by exact .cons (by first | exact SnapR.nil (sz := 1) | exact .pure rfl) (.cons (.pure rfl) (.cons (.pure rfl) .nil))) (by rfl) (by rfl) (by rfl)) ?_)
  all_goals refine tri_ret ?_
  all_goals refine retE_r [] (.cons (by first | exact .cellAgg rfl rfl rfl rfl rfl rfl rfl rfl | exact .cell1 rfl rfl rfl rfl rfl rfl rfl) (.cons (.tmp (by conv => lhs; whnf) rfl) .nil)) rfl rfl (by first | exact (ren_pure (by rfl)).trans (by conv => lhs; whnf) | conv => lhs; whnf) (.nil) ?_
  all_goals (
    first
    | (have hd : crash s n = (zeroSto, 1) := if_neg (by simp_all)
       rw [hd]; exact ⟨rfl, rfl⟩)
    | (have hd : crash s n = (zeroSto, 2) := (if_pos (by simp_all)).trans (if_pos (by omega))
       rw [hd]; exact ⟨rfl, rfl⟩)
    | (have hd : crash s n = (⟨s.bytes.take (s.durable + n).toNat, s.durable, -1⟩, 0) := (if_pos (by simp_all)).trans (if_neg (by omega))
       rw [hd]; exact ⟨rfl, rfl⟩))

end Go.Proofs.Ytjalgcjllddmhaa

/- A text of the proof of JournalSurvives: JW14 -/
import Derived.Test.YtjalgcjllddmhaaProg
import Derived.Test.YtjalgcjllddmhaaAvAppS
import Derived.Test.YtjalgcjllddmhaaAvSnap
import Derived.Test.YtjalgcjllddmhaaAvAny
import Derived.Test.YtjalgcjllddmhaaAvLit
import Derived.Test.YtjalgcjllddmhaaAvEq
import Derived.Test.YtjalgcjllddmhaaJAwake
import Derived.Test.YtjalgcjllddmhaaJW9
import Derived.Test.YtjalgcjllddmhaaJW10
import Derived.Test.YtjalgcjllddmhaaJW5

set_option linter.unusedSimpArgs false
set_option linter.unusedVariables false
set_option maxHeartbeats 8000000
namespace Go.Proofs.Ytjalgcjllddmhaa
open Go.Av
/-- the walk of casebook/casebooklaw48.awake -/
theorem awake_w : HSpec Try.prog 5 [] [] fun r H' _ => r = .val (.bool (true)) ∧ H' = [] := by
  have hr1 := tick_record
  have hr2 := take11
  refine hspec_intro Try.func5 rfl rfl ?_
  all_goals refine tri_seq ?_
  all_goals refine tri_region ?_
  all_goals refine ops_cons rfl ?_
  all_goals (refine op_assign (by conv => lhs; whnf) rfl rfl ?_)
  all_goals refine ops_nil ?_
  all_goals refine seqQ_n ?_
  all_goals refine tri_seq ?_
  all_goals refine tri_region ?_
  all_goals refine ops_cons rfl ?_
  all_goals (refine op_build (by rfl) (by rfl) (by rfl) (by rfl) (by conv => lhs; whnf; congr; { whnf; congr; { whnf }; { whnf } }; { whnf; congr; { whnf; congr; { whnf }; { whnf } }; { whnf } }) (by conv => lhs; whnf; arg 1; whnf; congr; { whnf }; { whnf; congr; { whnf }; { whnf; congr; { whnf }; { whnf; congr; { whnf }; { whnf; congr; { whnf }; { whnf; congr; { whnf }; { whnf; congr; { whnf }; { whnf } } } } } } }) (by rfl) (by rfl) ?_)
  all_goals refine ops_cons rfl ?_
  all_goals (refine lit_alloc 7 (by rfl) (by rfl) (by conv => lhs; whnf) (by first | exact (rfl : _ = 0) | exact (rfl : _ = 1) | exact (rfl : _ = 2) | exact (rfl : _ = 3) | exact (rfl : _ = 4) | exact (rfl : _ = 5) | exact (rfl : _ = 6) | exact (rfl : _ = 7) | exact (rfl : _ = 8) | exact (rfl : _ = 9) | exact (rfl : _ = 10) | exact (rfl : _ = 11)) (by rfl) (by rfl) (by rfl) (by rfl) ?_)
  all_goals refine ops_cons rfl ?_
  all_goals (refine lit_store_el (by conv => lhs; whnf) (by conv => lhs; whnf) (by rfl) (by rfl) (by first | ((conv => lhs; whnf; arg 1; whnf); done) | rfl | assumption | (simp; done)) (by first | ((conv => lhs; whnf; arg 1; whnf); done) | rfl | assumption | (simp; done)) (by rfl) (by rfl) (by rfl) (by rfl) (by rfl) (by first | exact .inl rfl | exact .inr rfl) (by conv => lhs; first | simp only [List.set_cons_zero, List.set_cons_succ] | skip) ?_)
  all_goals refine ops_nil ?_
  all_goals refine seqQ_n ?_
  all_goals refine tri_seq ?_
  all_goals refine tri_region ?_
  all_goals refine ops_cons rfl ?_
  all_goals (first | refine op_load_agg (by conv => lhs; whnf) (by rfl) (by rfl) (by first | ((conv => lhs; whnf; arg 1; whnf); done) | rfl | assumption | (simp; done)) (by rfl) (by first | ((conv => lhs; whnf; arg 1; whnf); done) | rfl | assumption | (simp; done)) (by rfl) (by rfl) (by rfl) ?_ | refine op_load_rp_agg (by conv => lhs; whnf) (by rfl) (by rfl) (by rfl) (by rfl) (by rfl) ?_ | refine op_load_part (by conv => lhs; whnf) (by rfl) (by rfl) (by first | ((conv => lhs; whnf; arg 1; whnf); done) | rfl | assumption | (simp; done)) (by rfl) (by first | ((conv => lhs; whnf; arg 1; whnf); done) | rfl | assumption | (simp; done)) (by rfl) (by rfl) (by rfl) (by conv => lhs; whnf) ?_ | refine op_load_rp_part (by conv => lhs; whnf) (by rfl) (by rfl) (by rfl) (by rfl) (by rfl) (by conv => lhs; whnf) ?_)
  all_goals refine ops_cons rfl ?_
  all_goals (refine op_callB rfl rfl rfl rfl rfl ⟨_, Try.func21, by decide, rfl⟩ (.cons (.agg (.cons (.pure rfl) (.cons (.pure rfl) (.cons (.pure rfl) (.cons (.pure rfl) (.cons (.pure rfl) (.cons (.pure rfl) (.cons (SnapR.nil (sz := 3)) .nil)))))))) .nil) (encode_w tick (by decide) (by decide) (by decide) (by decide) (by intro v hv; cases hv)) ?_)
  all_goals (rintro _ H' m ⟨rfl, rfl⟩)
  all_goals (rw [if_pos tick_formed, tick_code])
  all_goals refine ops_cons rfl ?_
  all_goals (refine op_move (by conv => lhs; whnf) rfl rfl ?_)
  all_goals refine ops_cons rfl ?_
  all_goals (refine op_extract rfl rfl rfl rfl ?_)
  all_goals refine ops_cons rfl ?_
  all_goals (refine op_extract rfl rfl rfl rfl ?_)
  all_goals refine ops_cons rfl ?_
  all_goals (refine op_assign (by conv => lhs; whnf) rfl rfl ?_)
  all_goals refine ops_cons rfl ?_
  all_goals (refine op_assign (by conv => lhs; whnf) rfl rfl ?_)
  all_goals refine ops_nil ?_
  all_goals refine seqQ_n ?_
  all_goals refine tri_seq ?_
  all_goals refine tri_region ?_
  all_goals refine ops_cons rfl ?_
  all_goals (refine op_build (by rfl) (by rfl) (by rfl) (by rfl) (by conv => lhs; whnf; congr; { whnf; congr; { whnf }; { whnf } }; { whnf }) (by conv => lhs; whnf; arg 1; whnf; congr; { whnf }; { whnf; congr; { whnf }; { whnf; congr; { whnf }; { whnf } } }) (by rfl) (by rfl) ?_)
  all_goals refine ops_cons rfl ?_
  all_goals (first | refine op_load_agg (by conv => lhs; whnf) (by rfl) (by rfl) (by first | ((conv => lhs; whnf; arg 1; whnf); done) | rfl | assumption | (simp; done)) (by rfl) (by first | ((conv => lhs; whnf; arg 1; whnf); done) | rfl | assumption | (simp; done)) (by rfl) (by rfl) (by rfl) ?_ | refine op_load_rp_agg (by conv => lhs; whnf) (by rfl) (by rfl) (by rfl) (by rfl) (by rfl) ?_ | refine op_load_part (by conv => lhs; whnf) (by rfl) (by rfl) (by first | ((conv => lhs; whnf; arg 1; whnf); done) | rfl | assumption | (simp; done)) (by rfl) (by first | ((conv => lhs; whnf; arg 1; whnf); done) | rfl | assumption | (simp; done)) (by rfl) (by rfl) (by rfl) (by conv => lhs; whnf) ?_ | refine op_load_rp_part (by conv => lhs; whnf) (by rfl) (by rfl) (by rfl) (by rfl) (by rfl) (by conv => lhs; whnf) ?_)
  all_goals refine ops_cons rfl ?_
  all_goals (refine op_callB rfl rfl rfl rfl rfl ⟨_, Try.func10, by decide, rfl⟩ (.cons (.agg (.cons (SnapR.nil (sz := 1)) (.cons (.pure rfl) (.cons (.pure rfl) .nil)))) (.cons (.agg (.cons (.pure rfl) (.cons (.pure rfl) (.cons (.pure rfl) (.cons (.pure rfl) (.cons (.pure rfl) (.cons (.pure rfl) (.cons (SnapR.nil (sz := 3)) .nil)))))))) .nil)) (write_w ⟨[], 0, 12⟩ tick (by decide) (by decide) (by decide) (by decide) (by decide) (by intro v hv; cases hv)) ?_)
  all_goals (rintro _ H' m ⟨rfl, rfl⟩)
  all_goals (rw [write12])
  all_goals refine ops_cons rfl ?_
  all_goals (refine op_move (by conv => lhs; whnf) rfl rfl ?_)
  all_goals refine ops_cons rfl ?_
  all_goals (refine op_extract rfl rfl rfl rfl ?_)
  all_goals refine ops_cons rfl ?_
  all_goals (refine op_extract rfl rfl rfl rfl ?_)
  all_goals refine ops_cons rfl ?_
  all_goals (refine lit_alloc 3 (by rfl) (by rfl) (by conv => lhs; whnf) (by first | exact (rfl : _ = 0) | exact (rfl : _ = 1) | exact (rfl : _ = 2) | exact (rfl : _ = 3) | exact (rfl : _ = 4) | exact (rfl : _ = 5) | exact (rfl : _ = 6) | exact (rfl : _ = 7) | exact (rfl : _ = 8) | exact (rfl : _ = 9) | exact (rfl : _ = 10) | exact (rfl : _ = 11)) (by rfl) (by rfl) (by rfl) (by rfl) ?_)
  all_goals refine ops_cons rfl ?_
  all_goals (refine lit_store_el (by conv => lhs; whnf) (by conv => lhs; whnf) (by rfl) (by rfl) (by first | ((conv => lhs; whnf; arg 1; whnf); done) | rfl | assumption | (simp; done)) (by first | ((conv => lhs; whnf; arg 1; whnf); done) | rfl | assumption | (simp; done)) (by rfl) (by rfl) (by rfl) (by rfl) (by rfl) (by first | exact .inl rfl | exact .inr rfl) (by conv => lhs; first | simp only [List.set_cons_zero, List.set_cons_succ] | skip) ?_)
  all_goals refine ops_cons rfl ?_
  all_goals (refine op_assign (by conv => lhs; whnf) rfl rfl ?_)
  all_goals refine ops_nil ?_
  all_goals refine seqQ_n ?_
  all_goals refine tri_seq ?_
  all_goals refine tri_region ?_
  all_goals refine ops_cons rfl ?_
  all_goals (refine op_build (by rfl) (by rfl) (by rfl) (by rfl) (by conv => lhs; whnf; congr; { whnf; congr; { whnf }; { whnf } }; { whnf }) (by conv => lhs; whnf; arg 1; whnf; congr; { whnf }; { whnf; congr; { whnf }; { whnf; congr; { whnf }; { whnf } } }) (by rfl) (by rfl) ?_)
  all_goals refine ops_cons rfl ?_
  all_goals (first | refine op_load_agg (by conv => lhs; whnf) (by rfl) (by rfl) (by first | ((conv => lhs; whnf; arg 1; whnf); done) | rfl | assumption | (simp; done)) (by rfl) (by first | ((conv => lhs; whnf; arg 1; whnf); done) | rfl | assumption | (simp; done)) (by rfl) (by rfl) (by rfl) ?_ | refine op_load_rp_agg (by conv => lhs; whnf) (by rfl) (by rfl) (by rfl) (by rfl) (by rfl) ?_ | refine op_load_part (by conv => lhs; whnf) (by rfl) (by rfl) (by first | ((conv => lhs; whnf; arg 1; whnf); done) | rfl | assumption | (simp; done)) (by rfl) (by first | ((conv => lhs; whnf; arg 1; whnf); done) | rfl | assumption | (simp; done)) (by rfl) (by rfl) (by rfl) (by conv => lhs; whnf) ?_ | refine op_load_rp_part (by conv => lhs; whnf) (by rfl) (by rfl) (by rfl) (by rfl) (by rfl) (by conv => lhs; whnf) ?_)
  all_goals refine ops_cons rfl ?_
  all_goals (refine op_callB rfl rfl rfl rfl rfl ⟨_, Try.func10, by decide, rfl⟩ (.cons (.agg (.cons (SnapR.nil (sz := 1)) (.cons (.pure rfl) (.cons (.pure rfl) .nil)))) (.cons (.agg (.cons (.pure rfl) (.cons (.pure rfl) (.cons (.pure rfl) (.cons (.pure rfl) (.cons (.pure rfl) (.cons (.pure rfl) (.cons (SnapR.nil (sz := 3)) .nil)))))))) .nil)) (write_w ⟨[], 0, 11⟩ tick (by decide) (by decide) (by decide) (by decide) (by decide) (by intro v hv; cases hv)) ?_)
  all_goals (rintro _ H' m ⟨rfl, rfl⟩)
  all_goals (rw [write11])
  all_goals refine ops_cons rfl ?_
  all_goals (refine op_move (by conv => lhs; whnf) rfl rfl ?_)
  all_goals refine ops_cons rfl ?_
  all_goals (refine op_extract rfl rfl rfl rfl ?_)
  all_goals refine ops_cons rfl ?_
  all_goals (refine op_extract rfl rfl rfl rfl ?_)
  all_goals refine ops_cons rfl ?_
  all_goals (refine lit_alloc 3 (by rfl) (by rfl) (by conv => lhs; whnf) (by first | exact (rfl : _ = 0) | exact (rfl : _ = 1) | exact (rfl : _ = 2) | exact (rfl : _ = 3) | exact (rfl : _ = 4) | exact (rfl : _ = 5) | exact (rfl : _ = 6) | exact (rfl : _ = 7) | exact (rfl : _ = 8) | exact (rfl : _ = 9) | exact (rfl : _ = 10) | exact (rfl : _ = 11)) (by rfl) (by rfl) (by rfl) (by rfl) ?_)
  all_goals refine ops_cons rfl ?_
  all_goals (refine lit_store_el (by conv => lhs; whnf) (by conv => lhs; whnf) (by rfl) (by rfl) (by first | ((conv => lhs; whnf; arg 1; whnf); done) | rfl | assumption | (simp; done)) (by first | ((conv => lhs; whnf; arg 1; whnf); done) | rfl | assumption | (simp; done)) (by rfl) (by rfl) (by rfl) (by rfl) (by rfl) (by first | exact .inl rfl | exact .inr rfl) (by conv => lhs; first | simp only [List.set_cons_zero, List.set_cons_succ] | skip) ?_)
  all_goals refine ops_cons rfl ?_
  all_goals (refine op_assign (by conv => lhs; whnf) rfl rfl ?_)
  all_goals refine ops_nil ?_
  all_goals refine seqQ_n ?_
  all_goals refine tri_seq ?_
  all_goals refine tri_region ?_
  all_goals refine ops_cons rfl ?_
  all_goals (refine op_move (by conv => lhs; whnf) rfl rfl ?_)
  all_goals refine ops_cons rfl ?_
  all_goals (refine lit_buildSlice (ag := false) (sz := 1) false (by rfl) (by rfl) (by rfl) (by rfl) (by conv => lhs; whnf) (by rfl) (by rfl) (by rfl) (by first | exact (rfl : _ = 0) | exact (rfl : _ = 1) | exact (rfl : _ = 2) | exact (rfl : _ = 3) | exact (rfl : _ = 4) | exact (rfl : _ = 5) | exact (rfl : _ = 6) | exact (rfl : _ = 7) | exact (rfl : _ = 8) | exact (rfl : _ = 9) | exact (rfl : _ = 10) | exact (rfl : _ = 11)) (by rfl) (by rfl) (by conv => lhs; whnf; congr; { whnf; congr; { whnf }; { whnf } }; { whnf; congr; { whnf; congr; { whnf }; { whnf } }; { whnf; congr; { whnf; congr; { whnf }; { whnf } }; { whnf; congr; { whnf; congr; { whnf }; { whnf } }; { whnf; congr; { whnf; congr; { whnf }; { whnf } }; { whnf; congr; { whnf; congr; { whnf }; { whnf } }; { whnf; congr; { whnf; congr; { whnf }; { whnf } }; { whnf } } } } } } }) (by conv => lhs; whnf; arg 1; whnf; congr; { whnf }; { whnf; congr; { whnf }; { whnf; congr; { whnf }; { whnf; congr; { whnf }; { whnf; congr; { whnf }; { whnf; congr; { whnf }; { whnf; congr; { whnf }; { whnf } } } } } } }) (by conv => lhs; whnf; congr; { whnf }; { whnf; congr; { whnf }; { whnf; congr; { whnf }; { whnf; congr; { whnf }; { whnf; congr; { whnf }; { whnf; congr; { whnf }; { whnf; congr; { whnf }; { whnf } } } } } } }) (by rfl) (by rfl) (by rfl) (by rfl) (.inr rfl) (by rfl) (by rfl) ?_)
  all_goals refine ops_cons rfl ?_
  all_goals (refine op_callA rfl rfl rfl rfl rfl ⟨_, Try.func20, by decide, rfl⟩ (.cons (.pure rfl) (.cons (SnapR.own (by first | ((conv => lhs; whnf; arg 1; whnf); done) | rfl | assumption | (simp; done)) (by rfl) (by simp)) .nil)) (bytesEq_w [7, 0, 5, 0, 0, 0, 0] [7, 0, 5, 0, 0, 0, 0]) (by rintro r H' m ⟨rfl, rfl⟩; exact ⟨rfl, by simp⟩) ?_)
  all_goals (rintro _ H' m ⟨rfl, rfl⟩)
  all_goals refine ops_cons rfl ?_
  all_goals (refine op_move (by conv => lhs; whnf) rfl rfl ?_)
  all_goals (first | refine ops_guardU rfl rfl rfl rfl rfl rfl ?_ | refine ops_guardY rfl rfl rfl rfl ?_ | refine ops_guardN rfl rfl rfl rfl rfl rfl ?_ | refine ops_guardTd rfl rfl rfl rfl rfl rfl (fun hg => ?_) (fun hg => ?_) | refine ops_guardT rfl rfl rfl rfl rfl rfl (fun hg => ?_) (fun hg => ?_))
  all_goals try (exfalso; omega)
  all_goals (first | refine ops_here ?_ | (refine op_move (by conv => lhs; whnf) rfl rfl ?_))
  all_goals (first | refine ops_guardU rfl rfl rfl rfl rfl rfl ?_ | refine ops_guardY rfl rfl rfl rfl ?_ | refine ops_guardN rfl rfl rfl rfl rfl rfl ?_ | refine ops_guardTd rfl rfl rfl rfl rfl rfl (fun hg => ?_) (fun hg => ?_) | refine ops_guardT rfl rfl rfl rfl rfl rfl (fun hg => ?_) (fun hg => ?_))
  all_goals try (exfalso; omega)
  all_goals (first | refine ops_here ?_ | (refine op_eql rfl rfl rfl rfl rfl ?_))
  all_goals refine ops_cons rfl ?_
  all_goals (first | refine op_pick_true rfl (by conv => lhs; whnf) rfl rfl rfl ?_ | refine op_pick_false rfl (by conv => lhs; whnf) rfl rfl rfl ?_ | refine op_pick_bool rfl rfl rfl rfl rfl rfl rfl ?_)
  all_goals refine ops_cons rfl ?_
  all_goals (refine op_move (by conv => lhs; whnf) rfl rfl ?_)
  all_goals (first | refine ops_guardU rfl rfl rfl rfl rfl rfl ?_ | refine ops_guardY rfl rfl rfl rfl ?_ | refine ops_guardN rfl rfl rfl rfl rfl rfl ?_ | refine ops_guardTd rfl rfl rfl rfl rfl rfl (fun hg => ?_) (fun hg => ?_) | refine ops_guardT rfl rfl rfl rfl rfl rfl (fun hg => ?_) (fun hg => ?_))
  all_goals try (exfalso; omega)
  all_goals (first | refine ops_here ?_ | (first | refine op_fieldAddr0 rfl rfl rfl rfl rfl rfl (by conv => lhs; whnf) ?_ | refine op_fieldAddr_rp0 rfl rfl rfl rfl rfl rfl (by conv => lhs; whnf) ?_ | refine op_fieldAddr rfl rfl rfl rfl rfl rfl ?_ | refine op_fieldAddr_rp rfl rfl rfl rfl rfl rfl ?_))
  all_goals (first | refine ops_guardU rfl rfl rfl rfl rfl rfl ?_ | refine ops_guardY rfl rfl rfl rfl ?_ | refine ops_guardN rfl rfl rfl rfl rfl rfl ?_ | refine ops_guardTd rfl rfl rfl rfl rfl rfl (fun hg => ?_) (fun hg => ?_) | refine ops_guardT rfl rfl rfl rfl rfl rfl (fun hg => ?_) (fun hg => ?_))
  all_goals try (exfalso; omega)
  all_goals (first | refine ops_here ?_ | (first | refine op_load (by conv => lhs; whnf) (by rfl) (by rfl) (by first | ((conv => lhs; whnf; arg 1; whnf); done) | rfl | assumption | (simp; done)) (by rfl) (by first | ((conv => lhs; whnf; arg 1; whnf); done) | rfl | assumption | (simp; done)) (by first | ((conv => lhs; whnf; arg 1; whnf); done) | rfl | assumption | (simp; done)) (by rfl) ?_ | refine op_load_rp (by conv => lhs; whnf) (by rfl) (by rfl) (by first | ((conv => lhs; whnf; arg 1; whnf); done) | rfl | assumption | (simp; done)) (by rfl) ?_))
  all_goals (first | refine ops_guardU rfl rfl rfl rfl rfl rfl ?_ | refine ops_guardY rfl rfl rfl rfl ?_ | refine ops_guardN rfl rfl rfl rfl rfl rfl ?_ | refine ops_guardTd rfl rfl rfl rfl rfl rfl (fun hg => ?_) (fun hg => ?_) | refine ops_guardT rfl rfl rfl rfl rfl rfl (fun hg => ?_) (fun hg => ?_))
  all_goals try (exfalso; omega)
  all_goals (first | refine ops_here ?_ | (first | refine op_len_sl rfl (by first | (conv => lhs; simp only [List.length_map, bytesAV_length]) | rfl) rfl rfl rfl ?_ | refine op_len_osl rfl rfl rfl rfl ?_ | refine op_len_nil rfl rfl rfl rfl ?_))
  all_goals (first | refine ops_guardU rfl rfl rfl rfl rfl rfl ?_ | refine ops_guardY rfl rfl rfl rfl ?_ | refine ops_guardN rfl rfl rfl rfl rfl rfl ?_ | refine ops_guardTd rfl rfl rfl rfl rfl rfl (fun hg => ?_) (fun hg => ?_) | refine ops_guardT rfl rfl rfl rfl rfl rfl (fun hg => ?_) (fun hg => ?_))
  all_goals try (exfalso; omega)
  all_goals (first | refine ops_here ?_ | (refine op_eql rfl rfl rfl rfl rfl ?_))
  all_goals refine ops_cons rfl ?_
  all_goals (first | refine op_pick_true rfl (by conv => lhs; whnf) rfl rfl rfl ?_ | refine op_pick_false rfl (by conv => lhs; whnf) rfl rfl rfl ?_ | refine op_pick_bool rfl rfl rfl rfl rfl rfl rfl ?_)
  all_goals refine ops_cons rfl ?_
  all_goals (refine op_move (by conv => lhs; whnf) rfl rfl ?_)
  all_goals (first | refine ops_guardU rfl rfl rfl rfl rfl rfl ?_ | refine ops_guardY rfl rfl rfl rfl ?_ | refine ops_guardN rfl rfl rfl rfl rfl rfl ?_ | refine ops_guardTd rfl rfl rfl rfl rfl rfl (fun hg => ?_) (fun hg => ?_) | refine ops_guardT rfl rfl rfl rfl rfl rfl (fun hg => ?_) (fun hg => ?_))
  all_goals try (exfalso; omega)
  all_goals (first | refine ops_here ?_ | (first | refine op_fieldAddr0 rfl rfl rfl rfl rfl rfl (by conv => lhs; whnf) ?_ | refine op_fieldAddr_rp0 rfl rfl rfl rfl rfl rfl (by conv => lhs; whnf) ?_ | refine op_fieldAddr rfl rfl rfl rfl rfl rfl ?_ | refine op_fieldAddr_rp rfl rfl rfl rfl rfl rfl ?_))
  all_goals (first | refine ops_guardU rfl rfl rfl rfl rfl rfl ?_ | refine ops_guardY rfl rfl rfl rfl ?_ | refine ops_guardN rfl rfl rfl rfl rfl rfl ?_ | refine ops_guardTd rfl rfl rfl rfl rfl rfl (fun hg => ?_) (fun hg => ?_) | refine ops_guardT rfl rfl rfl rfl rfl rfl (fun hg => ?_) (fun hg => ?_))
  all_goals try (exfalso; omega)
  all_goals (first | refine ops_here ?_ | (first | refine op_load (by conv => lhs; whnf) (by rfl) (by rfl) (by first | ((conv => lhs; whnf; arg 1; whnf); done) | rfl | assumption | (simp; done)) (by rfl) (by first | ((conv => lhs; whnf; arg 1; whnf); done) | rfl | assumption | (simp; done)) (by first | ((conv => lhs; whnf; arg 1; whnf); done) | rfl | assumption | (simp; done)) (by rfl) ?_ | refine op_load_rp (by conv => lhs; whnf) (by rfl) (by rfl) (by first | ((conv => lhs; whnf; arg 1; whnf); done) | rfl | assumption | (simp; done)) (by rfl) ?_))
  all_goals (first | refine ops_guardU rfl rfl rfl rfl rfl rfl ?_ | refine ops_guardY rfl rfl rfl rfl ?_ | refine ops_guardN rfl rfl rfl rfl rfl rfl ?_ | refine ops_guardTd rfl rfl rfl rfl rfl rfl (fun hg => ?_) (fun hg => ?_) | refine ops_guardT rfl rfl rfl rfl rfl rfl (fun hg => ?_) (fun hg => ?_))
  all_goals try (exfalso; omega)
  all_goals (first | refine ops_here ?_ | (refine op_eql rfl rfl rfl rfl rfl ?_))
  all_goals refine ops_cons rfl ?_
  all_goals (first | refine op_pick_true rfl (by conv => lhs; whnf) rfl rfl rfl ?_ | refine op_pick_false rfl (by conv => lhs; whnf) rfl rfl rfl ?_ | refine op_pick_bool rfl rfl rfl rfl rfl rfl rfl ?_)
  all_goals refine ops_cons rfl ?_
  all_goals (refine op_move (by conv => lhs; whnf) rfl rfl ?_)
  all_goals (first | refine ops_guardU rfl rfl rfl rfl rfl rfl ?_ | refine ops_guardY rfl rfl rfl rfl ?_ | refine ops_guardN rfl rfl rfl rfl rfl rfl ?_ | refine ops_guardTd rfl rfl rfl rfl rfl rfl (fun hg => ?_) (fun hg => ?_) | refine ops_guardT rfl rfl rfl rfl rfl rfl (fun hg => ?_) (fun hg => ?_))
  all_goals try (exfalso; omega)
  all_goals (first | refine ops_here ?_ | (refine op_move (by conv => lhs; whnf) rfl rfl ?_))
  all_goals (first | refine ops_guardU rfl rfl rfl rfl rfl rfl ?_ | refine ops_guardY rfl rfl rfl rfl ?_ | refine ops_guardN rfl rfl rfl rfl rfl rfl ?_ | refine ops_guardTd rfl rfl rfl rfl rfl rfl (fun hg => ?_) (fun hg => ?_) | refine ops_guardT rfl rfl rfl rfl rfl rfl (fun hg => ?_) (fun hg => ?_))
  all_goals try (exfalso; omega)
  all_goals (first | refine ops_here ?_ | (refine op_eql rfl rfl rfl rfl rfl ?_))
  all_goals refine ops_cons rfl ?_
  all_goals (first | refine op_pick_true rfl (by conv => lhs; whnf) rfl rfl rfl ?_ | refine op_pick_false rfl (by conv => lhs; whnf) rfl rfl rfl ?_ | refine op_pick_bool rfl rfl rfl rfl rfl rfl rfl ?_)
  all_goals refine ops_cons rfl ?_
  all_goals (refine op_move (by conv => lhs; whnf) rfl rfl ?_)
  all_goals (first | refine ops_guardU rfl rfl rfl rfl rfl rfl ?_ | refine ops_guardY rfl rfl rfl rfl ?_ | refine ops_guardN rfl rfl rfl rfl rfl rfl ?_ | refine ops_guardTd rfl rfl rfl rfl rfl rfl (fun hg => ?_) (fun hg => ?_) | refine ops_guardT rfl rfl rfl rfl rfl rfl (fun hg => ?_) (fun hg => ?_))
  all_goals try (exfalso; omega)
  all_goals (first | refine ops_here ?_ | (first | refine op_fieldAddr0 rfl rfl rfl rfl rfl rfl (by conv => lhs; whnf) ?_ | refine op_fieldAddr_rp0 rfl rfl rfl rfl rfl rfl (by conv => lhs; whnf) ?_ | refine op_fieldAddr rfl rfl rfl rfl rfl rfl ?_ | refine op_fieldAddr_rp rfl rfl rfl rfl rfl rfl ?_))
  all_goals (first | refine ops_guardU rfl rfl rfl rfl rfl rfl ?_ | refine ops_guardY rfl rfl rfl rfl ?_ | refine ops_guardN rfl rfl rfl rfl rfl rfl ?_ | refine ops_guardTd rfl rfl rfl rfl rfl rfl (fun hg => ?_) (fun hg => ?_) | refine ops_guardT rfl rfl rfl rfl rfl rfl (fun hg => ?_) (fun hg => ?_))
  all_goals try (exfalso; omega)
  all_goals (first | refine ops_here ?_ | (first | refine op_load (by conv => lhs; whnf) (by rfl) (by rfl) (by first | ((conv => lhs; whnf; arg 1; whnf); done) | rfl | assumption | (simp; done)) (by rfl) (by first | ((conv => lhs; whnf; arg 1; whnf); done) | rfl | assumption | (simp; done)) (by first | ((conv => lhs; whnf; arg 1; whnf); done) | rfl | assumption | (simp; done)) (by rfl) ?_ | refine op_load_rp (by conv => lhs; whnf) (by rfl) (by rfl) (by first | ((conv => lhs; whnf; arg 1; whnf); done) | rfl | assumption | (simp; done)) (by rfl) ?_))
  all_goals (first | refine ops_guardU rfl rfl rfl rfl rfl rfl ?_ | refine ops_guardY rfl rfl rfl rfl ?_ | refine ops_guardN rfl rfl rfl rfl rfl rfl ?_ | refine ops_guardTd rfl rfl rfl rfl rfl rfl (fun hg => ?_) (fun hg => ?_) | refine ops_guardT rfl rfl rfl rfl rfl rfl (fun hg => ?_) (fun hg => ?_))
  all_goals try (exfalso; omega)
  all_goals (first | refine ops_here ?_ | (first | refine op_len_sl rfl (by first | (conv => lhs; simp only [List.length_map, bytesAV_length]) | rfl) rfl rfl rfl ?_ | refine op_len_osl rfl rfl rfl rfl ?_ | refine op_len_nil rfl rfl rfl rfl ?_))
  all_goals (first | refine ops_guardU rfl rfl rfl rfl rfl rfl ?_ | refine ops_guardY rfl rfl rfl rfl ?_ | refine ops_guardN rfl rfl rfl rfl rfl rfl ?_ | refine ops_guardTd rfl rfl rfl rfl rfl rfl (fun hg => ?_) (fun hg => ?_) | refine ops_guardT rfl rfl rfl rfl rfl rfl (fun hg => ?_) (fun hg => ?_))
  all_goals try (exfalso; omega)
  all_goals (first | refine ops_here ?_ | (refine op_eql rfl rfl rfl rfl rfl ?_))
  all_goals refine ops_cons rfl ?_
  all_goals (first | refine op_pick_true rfl (by conv => lhs; whnf) rfl rfl rfl ?_ | refine op_pick_false rfl (by conv => lhs; whnf) rfl rfl rfl ?_ | refine op_pick_bool rfl rfl rfl rfl rfl rfl rfl ?_)
  all_goals refine ops_cons rfl ?_
  all_goals (refine op_move (by conv => lhs; whnf) rfl rfl ?_)
  all_goals (first | refine ops_guardU rfl rfl rfl rfl rfl rfl ?_ | refine ops_guardY rfl rfl rfl rfl ?_ | refine ops_guardN rfl rfl rfl rfl rfl rfl ?_ | refine ops_guardTd rfl rfl rfl rfl rfl rfl (fun hg => ?_) (fun hg => ?_) | refine ops_guardT rfl rfl rfl rfl rfl rfl (fun hg => ?_) (fun hg => ?_))
  all_goals try (exfalso; omega)
  all_goals (first | refine ops_here ?_ | (first | refine op_fieldAddr0 rfl rfl rfl rfl rfl rfl (by conv => lhs; whnf) ?_ | refine op_fieldAddr_rp0 rfl rfl rfl rfl rfl rfl (by conv => lhs; whnf) ?_ | refine op_fieldAddr rfl rfl rfl rfl rfl rfl ?_ | refine op_fieldAddr_rp rfl rfl rfl rfl rfl rfl ?_))
  all_goals (first | refine ops_guardU rfl rfl rfl rfl rfl rfl ?_ | refine ops_guardY rfl rfl rfl rfl ?_ | refine ops_guardN rfl rfl rfl rfl rfl rfl ?_ | refine ops_guardTd rfl rfl rfl rfl rfl rfl (fun hg => ?_) (fun hg => ?_) | refine ops_guardT rfl rfl rfl rfl rfl rfl (fun hg => ?_) (fun hg => ?_))
  all_goals try (exfalso; omega)
  all_goals (first | refine ops_here ?_ | (first | refine op_load (by conv => lhs; whnf) (by rfl) (by rfl) (by first | ((conv => lhs; whnf; arg 1; whnf); done) | rfl | assumption | (simp; done)) (by rfl) (by first | ((conv => lhs; whnf; arg 1; whnf); done) | rfl | assumption | (simp; done)) (by first | ((conv => lhs; whnf; arg 1; whnf); done) | rfl | assumption | (simp; done)) (by rfl) ?_ | refine op_load_rp (by conv => lhs; whnf) (by rfl) (by rfl) (by first | ((conv => lhs; whnf; arg 1; whnf); done) | rfl | assumption | (simp; done)) (by rfl) ?_))
  all_goals (first | refine ops_guardU rfl rfl rfl rfl rfl rfl ?_ | refine ops_guardY rfl rfl rfl rfl ?_ | refine ops_guardN rfl rfl rfl rfl rfl rfl ?_ | refine ops_guardTd rfl rfl rfl rfl rfl rfl (fun hg => ?_) (fun hg => ?_) | refine ops_guardT rfl rfl rfl rfl rfl rfl (fun hg => ?_) (fun hg => ?_))
  all_goals try (exfalso; omega)
  all_goals (first | refine ops_here ?_ | (refine op_eql rfl rfl rfl rfl rfl ?_))
  all_goals refine ops_cons rfl ?_
  all_goals (first | refine op_pick_true rfl (by conv => lhs; whnf) rfl rfl rfl ?_ | refine op_pick_false rfl (by conv => lhs; whnf) rfl rfl rfl ?_ | refine op_pick_bool rfl rfl rfl rfl rfl rfl rfl ?_)
  all_goals refine ops_cons rfl ?_
  all_goals (refine op_move (by conv => lhs; whnf) rfl rfl ?_)
  all_goals (first | refine ops_guardU rfl rfl rfl rfl rfl rfl ?_ | refine ops_guardY rfl rfl rfl rfl ?_ | refine ops_guardN rfl rfl rfl rfl rfl rfl ?_ | refine ops_guardTd rfl rfl rfl rfl rfl rfl (fun hg => ?_) (fun hg => ?_) | refine ops_guardT rfl rfl rfl rfl rfl rfl (fun hg => ?_) (fun hg => ?_))
  all_goals try (exfalso; omega)
  all_goals (first | refine ops_here ?_ | (refine op_move (by conv => lhs; whnf) rfl rfl ?_))
  all_goals (first | refine ops_guardU rfl rfl rfl rfl rfl rfl ?_ | refine ops_guardY rfl rfl rfl rfl ?_ | refine ops_guardN rfl rfl rfl rfl rfl rfl ?_ | refine ops_guardTd rfl rfl rfl rfl rfl rfl (fun hg => ?_) (fun hg => ?_) | refine ops_guardT rfl rfl rfl rfl rfl rfl (fun hg => ?_) (fun hg => ?_))
  all_goals try (exfalso; omega)
  all_goals (first | refine ops_here ?_ | (refine op_eql rfl rfl rfl rfl rfl ?_))
  all_goals refine ops_cons rfl ?_
  all_goals (first | refine op_pick_true rfl (by conv => lhs; whnf) rfl rfl rfl ?_ | refine op_pick_false rfl (by conv => lhs; whnf) rfl rfl rfl ?_ | refine op_pick_bool rfl rfl rfl rfl rfl rfl rfl ?_)
  all_goals refine ops_cons rfl ?_
  all_goals (refine op_assign (by conv => lhs; whnf) rfl rfl ?_)
  all_goals refine ops_nil ?_
  all_goals refine seqQ_n ?_
  all_goals refine tri_ret ?_
  all_goals refine retE_r [] (.cons (.tmp (by conv => lhs; whnf) rfl) .nil) rfl rfl (by first | exact (ren_pure (by rfl)).trans (by conv => lhs; whnf) | ((conv => lhs; whnf); done) | rfl) (.nil) ?_
  all_goals (
    refine ⟨?_, rfl⟩
    first
    | rfl
    | (exfalso; omega)
    | (exfalso; simp_all; done))

end Go.Proofs.Ytjalgcjllddmhaa

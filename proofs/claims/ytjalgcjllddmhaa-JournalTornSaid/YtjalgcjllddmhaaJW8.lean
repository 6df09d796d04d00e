/- A text of the proof of JournalTorn: JW8 -/
import Derived.Test.YtjalgcjllddmhaaProg
import Derived.Test.YtjalgcjllddmhaaAvShort
import Derived.Test.YtjalgcjllddmhaaAvAppS
import Derived.Test.YtjalgcjllddmhaaAvSnap
import Derived.Test.YtjalgcjllddmhaaAvAny
import Derived.Test.YtjalgcjllddmhaaAvLit
import Derived.Test.YtjalgcjllddmhaaJSto
import Derived.Test.YtjalgcjllddmhaaJW5
import Derived.Test.YtjalgcjllddmhaaJW7

set_option linter.unusedSimpArgs false
set_option linter.unusedVariables false
set_option maxHeartbeats 8000000
set_option maxRecDepth 100000
namespace Go.Proofs.Ytjalgcjllddmhaa
open Go.Av
/-- the walk of casebook/journal.Valid -/
theorem valid_w (s : Sto) (hl : s.bytes.length ≤ 2 ^ 40) : HSpec Try.prog 11 [stoAV s] [] fun r H' _ => r = .val (.bool (valid s)) ∧ H' = [] := by
 refine hspec_intro Try.func11 rfl rfl ?_
 all_goals refine tri_seq ?_
 all_goals refine tri_region ?_
 all_goals refine oc (x_bx 3 ?_)
 all_goals refine oc (x_assign ?_)
 all_goals refine ops_nil ?_
 all_goals refine seqQ_n ?_
 all_goals refine tri_seq ?_
 all_goals refine tri_seq ?_
 all_goals refine tri_region ?_
 all_goals refine oc ?_
 all_goals (first | refine x_fa0 ?_ | refine x_far0 ?_ | refine x_fa ?_ | refine x_far ?_)
 all_goals refine oc ?_
 all_goals (first | refine x_ld ?_ | refine x_ldr ?_)
 all_goals refine oc ?_
 all_goals (first | refine op_len_sl rfl (by first | (conv => lhs; simp only [List.length_map, bytesAV_length]) | rfl) rfl rfl rfl ?_ | refine x_leno ?_ | refine x_lenn ?_)
 all_goals refine oc (x_gtr ?_)
 all_goals refine oc (x_move ?_)
 all_goals (first | refine gU ?_ | refine gY ?_ | refine gN ?_ | refine ops_guardFd rfl rfl rfl rfl rfl rfl (fun hg => ?_) (fun hg => ?_) | refine gF (fun hg => ?_) (fun hg => ?_))
 all_goals try (exfalso; omega)
 all_goals (first | refine ops_here ?_ | (first | refine x_fa0 ?_ | refine x_far0 ?_ | refine x_fa ?_ | refine x_far ?_))
 all_goals (first | refine gU ?_ | refine gY ?_ | refine gN ?_ | refine ops_guardFd rfl rfl rfl rfl rfl rfl (fun hg => ?_) (fun hg => ?_) | refine gF (fun hg => ?_) (fun hg => ?_))
 all_goals try (exfalso; omega)
 all_goals (first | refine ops_here ?_ | (first | refine x_ld ?_ | refine x_ldr ?_))
 all_goals (first | refine gU ?_ | refine gY ?_ | refine gN ?_ | refine ops_guardFd rfl rfl rfl rfl rfl rfl (fun hg => ?_) (fun hg => ?_) | refine gF (fun hg => ?_) (fun hg => ?_))
 all_goals try (exfalso; omega)
 all_goals (first | refine ops_here ?_ | (refine x_lss ?_))
 all_goals refine oc ?_
 all_goals (first | refine x_pt ?_ | refine x_pf ?_ | refine x_pb ?_)
 all_goals refine oc (x_move ?_)
 all_goals (first | refine gU ?_ | refine gY ?_ | refine gN ?_ | refine ops_guardFd rfl rfl rfl rfl rfl rfl (fun hg => ?_) (fun hg => ?_) | refine gF (fun hg => ?_) (fun hg => ?_))
 all_goals try (exfalso; omega)
 all_goals (first | refine ops_here ?_ | (first | refine x_fa0 ?_ | refine x_far0 ?_ | refine x_fa ?_ | refine x_far ?_))
 all_goals (first | refine gU ?_ | refine gY ?_ | refine gN ?_ | refine ops_guardFd rfl rfl rfl rfl rfl rfl (fun hg => ?_) (fun hg => ?_) | refine gF (fun hg => ?_) (fun hg => ?_))
 all_goals try (exfalso; omega)
 all_goals (first | refine ops_here ?_ | (first | refine x_ld ?_ | refine x_ldr ?_))
 all_goals (first | refine gU ?_ | refine gY ?_ | refine gN ?_ | refine ops_guardFd rfl rfl rfl rfl rfl rfl (fun hg => ?_) (fun hg => ?_) | refine gF (fun hg => ?_) (fun hg => ?_))
 all_goals try (exfalso; omega)
 all_goals (first | refine ops_here ?_ | (first | refine x_fa0 ?_ | refine x_far0 ?_ | refine x_fa ?_ | refine x_far ?_))
 all_goals (first | refine gU ?_ | refine gY ?_ | refine gN ?_ | refine ops_guardFd rfl rfl rfl rfl rfl rfl (fun hg => ?_) (fun hg => ?_) | refine gF (fun hg => ?_) (fun hg => ?_))
 all_goals try (exfalso; omega)
 all_goals (first | refine ops_here ?_ | (first | refine x_ld ?_ | refine x_ldr ?_))
 all_goals (first | refine gU ?_ | refine gY ?_ | refine gN ?_ | refine ops_guardFd rfl rfl rfl rfl rfl rfl (fun hg => ?_) (fun hg => ?_) | refine gF (fun hg => ?_) (fun hg => ?_))
 all_goals try (exfalso; omega)
 all_goals (first | refine ops_here ?_ | (first | refine op_len_sl rfl (by first | (conv => lhs; simp only [List.length_map, bytesAV_length]) | rfl) rfl rfl rfl ?_ | refine x_leno ?_ | refine x_lenn ?_))
 all_goals (first | refine gU ?_ | refine gY ?_ | refine gN ?_ | refine ops_guardFd rfl rfl rfl rfl rfl rfl (fun hg => ?_) (fun hg => ?_) | refine gF (fun hg => ?_) (fun hg => ?_))
 all_goals try (exfalso; omega)
 all_goals (first | refine ops_here ?_ | (refine x_gtr ?_))
 all_goals refine oc ?_
 all_goals (first | refine x_pt ?_ | refine x_pf ?_ | refine x_pb ?_)
 all_goals refine oc (x_move ?_)
 all_goals (first | refine gU ?_ | refine gY ?_ | refine gN ?_ | refine ops_guardFd rfl rfl rfl rfl rfl rfl (fun hg => ?_) (fun hg => ?_) | refine gF (fun hg => ?_) (fun hg => ?_))
 all_goals try (exfalso; omega)
 all_goals (first | refine ops_here ?_ | (first | refine x_fa0 ?_ | refine x_far0 ?_ | refine x_fa ?_ | refine x_far ?_))
 all_goals (first | refine gU ?_ | refine gY ?_ | refine gN ?_ | refine ops_guardFd rfl rfl rfl rfl rfl rfl (fun hg => ?_) (fun hg => ?_) | refine gF (fun hg => ?_) (fun hg => ?_))
 all_goals try (exfalso; omega)
 all_goals (first | refine ops_here ?_ | (first | refine x_ld ?_ | refine x_ldr ?_))
 all_goals (first | refine gU ?_ | refine gY ?_ | refine gN ?_ | refine ops_guardFd rfl rfl rfl rfl rfl rfl (fun hg => ?_) (fun hg => ?_) | refine gF (fun hg => ?_) (fun hg => ?_))
 all_goals try (exfalso; omega)
 all_goals (first | refine ops_here ?_ | (refine x_lss ?_))
 all_goals refine oc ?_
 all_goals (first | refine x_pt ?_ | refine x_pf ?_ | refine x_pb ?_)
 all_goals refine oc (x_move ?_)
 all_goals (first | refine gU ?_ | refine gY ?_ | refine gN ?_ | refine ops_guardFd rfl rfl rfl rfl rfl rfl (fun hg => ?_) (fun hg => ?_) | refine gF (fun hg => ?_) (fun hg => ?_))
 all_goals try (exfalso; omega)
 all_goals (first | refine ops_here ?_ | (first | refine x_fa0 ?_ | refine x_far0 ?_ | refine x_fa ?_ | refine x_far ?_))
 all_goals (first | refine gU ?_ | refine gY ?_ | refine gN ?_ | refine ops_guardFd rfl rfl rfl rfl rfl rfl (fun hg => ?_) (fun hg => ?_) | refine gF (fun hg => ?_) (fun hg => ?_))
 all_goals try (exfalso; omega)
 all_goals (first | refine ops_here ?_ | (first | refine x_ld ?_ | refine x_ldr ?_))
 all_goals (first | refine gU ?_ | refine gY ?_ | refine gN ?_ | refine ops_guardFd rfl rfl rfl rfl rfl rfl (fun hg => ?_) (fun hg => ?_) | refine gF (fun hg => ?_) (fun hg => ?_))
 all_goals try (exfalso; omega)
 all_goals (first | refine ops_here ?_ | (refine x_gtr ?_))
 all_goals refine oc ?_
 all_goals (first | refine x_pt ?_ | refine x_pf ?_ | refine x_pb ?_)
 all_goals refine ops_nil ?_
 all_goals refine seqQ_n ?_
 all_goals (
  first | refine tri_cond_d rfl rfl (fun hc => ?_) (fun hc => ?_) | refine ct (fun hc => ?_) (fun hc => ?_) | refine cf (fun hc => ?_) (fun hc => ?_) | refine cb (fun hc => ?_) (fun hc => ?_)
  focus
   try (exfalso; first | exact hc | omega)
   all_goals refine tri_seq ?_
   all_goals refine tri_region ?_
   all_goals refine oc (x_assign ?_)
   all_goals refine ops_nil ?_
   all_goals refine seqQ_n ?_
   all_goals refine tri_ret ?_
   all_goals refine seqQ_r ?_
   all_goals refine retE_r [] (.cons (.tmp (by conv => lhs; whnf) rfl) .nil) rfl rfl (by first | exact (ren_pure (by rfl)).trans (by conv => lhs; whnf) | ((conv => lhs; whnf); done) | rfl) (.nil) ?_
   all_goals (
    refine ⟨congrArg (fun b => AV.val (Value.bool b)) (Eq.symm ?_), rfl⟩
    first
    | exact valid_no (by omega)
    | exact valid_yes (by omega))
  rotate_right 1
  focus
   try (exfalso; first | exact hc | omega)
   all_goals refine tri_skip ?_)
 all_goals refine seqQ_n ?_
 all_goals refine tri_seq ?_
 all_goals refine tri_region ?_
 all_goals refine oc ?_
 all_goals (first | refine x_fa0 ?_ | refine x_far0 ?_ | refine x_fa ?_ | refine x_far ?_)
 all_goals refine oc ?_
 all_goals (first | refine x_ld ?_ | refine x_ldr ?_)
 all_goals refine oc ?_
 all_goals (refine op_callB rfl rfl rfl rfl rfl ⟨_, Try.func27, by decide, rfl⟩ (.cons (.pure rfl) .nil) (records_w s.bytes (by omega)) ?_)
 all_goals (rintro _ H' m ⟨rfl, rfl⟩)
 all_goals refine oc (x_move ?_)
 all_goals refine oc (x_ext ?_)
 all_goals refine oc (x_ext ?_)
 all_goals refine oc (x_assign ?_)
 all_goals refine oc (x_assign ?_)
 all_goals refine ops_nil ?_
 all_goals refine seqQ_n ?_
 all_goals refine tri_seq ?_
 all_goals refine tri_region ?_
 all_goals refine oc ?_
 all_goals (first | refine x_fa0 ?_ | refine x_far0 ?_ | refine x_fa ?_ | refine x_far ?_)
 all_goals refine oc ?_
 all_goals (first | refine x_ld ?_ | refine x_ldr ?_)
 all_goals refine oc (x_move ?_)
 all_goals refine oc (x_leq ?_)
 all_goals refine oc (x_assign ?_)
 all_goals refine ops_nil ?_
 all_goals refine seqQ_n ?_
 all_goals refine tri_ret ?_
 all_goals refine retE_r [] (.cons (.tmp (by conv => lhs; whnf) rfl) .nil) rfl rfl (by first | exact (ren_pure (by rfl)).trans (by conv => lhs; whnf) | ((conv => lhs; whnf); done) | rfl) (.nil) ?_
 all_goals (
  refine ⟨congrArg (fun b => AV.val (Value.bool b)) (Eq.symm ?_), rfl⟩
  first
  | exact valid_no (by omega)
  | exact valid_yes (by omega))

/-- the walk of casebook/journal.Read -/
theorem read_w (s : Sto) (hl : s.bytes.length ≤ 2 ^ 40) : HSpec Try.prog 13 [stoAV s] [] fun r H' _ => r = .tup [.sl 7 ((read s).1.map cmdAV), iv (read s).2] ∧ H' = [] := by
 refine hspec_intro Try.func13 rfl rfl ?_
 all_goals refine tri_seq ?_
 all_goals refine tri_region ?_
 all_goals refine oc (x_bx 3 ?_)
 all_goals refine oc (x_assign ?_)
 all_goals refine oc (x_assign ?_)
 all_goals refine ops_nil ?_
 all_goals refine seqQ_n ?_
 all_goals refine tri_seq ?_
 all_goals refine tri_seq ?_
 all_goals refine tri_region ?_
 all_goals refine oc ?_
 all_goals (first | refine x_lda ?_ | refine x_ldra ?_ | refine x_ldp ?_ | refine x_ldrp ?_)
 all_goals refine oc ?_
 all_goals (refine op_callA rfl rfl rfl rfl rfl ⟨_, Try.func11, by decide, rfl⟩ (.cons (.pure rfl) .nil) (valid_w s hl) shut0 ?_)
 all_goals (rintro _ H' m ⟨rfl, rfl⟩)
 all_goals refine oc ?_
 all_goals (first | refine op_not_d rfl rfl rfl ?_ | refine x_not ?_)
 all_goals refine ops_nil ?_
 all_goals refine seqQ_n ?_
 all_goals (
  first | refine tri_cond_d rfl rfl (fun hc => ?_) (fun hc => ?_) | refine ct (fun hc => ?_) (fun hc => ?_) | refine cf (fun hc => ?_) (fun hc => ?_) | refine cb (fun hc => ?_) (fun hc => ?_)
  focus
   try (exfalso; first | exact hc | omega)
   all_goals refine tri_seq ?_
   all_goals refine tri_region ?_
   all_goals refine oc (x_assign ?_)
   all_goals refine oc (x_assign ?_)
   all_goals refine ops_nil ?_
   all_goals refine seqQ_n ?_
   all_goals (refine tri_le (le_snapT 2 (by conv => lhs; whnf) rfl (by first | exact SnapR.nil (sz := 7) | exact .pure rfl)) ?_)
   all_goals refine tri_ret ?_
   all_goals refine seqQ_r ?_
   all_goals refine retE_r [] (.cons (.tmp (by conv => lhs; whnf) rfl) (.cons (.tmp (by conv => lhs; whnf) rfl) .nil)) rfl rfl (by first | exact (ren_pure (by rfl)).trans (by conv => lhs; whnf) | ((conv => lhs; whnf); done) | rfl) (.nil) ?_
   all_goals (
    first
    | (have hd : read s = ([], 1) := if_neg (by simp_all)
       rw [hd]; exact ⟨rfl, rfl⟩)
    | (have hd : read s = ((recs s.bytes [] 0).1, 0) := if_pos (by simp_all)
       rw [hd]; exact ⟨rfl, rfl⟩))
  rotate_right 1
  focus
   try (exfalso; first | exact hc | omega)
   all_goals refine tri_skip ?_)
 all_goals refine seqQ_n ?_
 all_goals refine tri_seq ?_
 all_goals refine tri_region ?_
 all_goals refine oc ?_
 all_goals (first | refine x_fa0 ?_ | refine x_far0 ?_ | refine x_fa ?_ | refine x_far ?_)
 all_goals refine oc ?_
 all_goals (first | refine x_ld ?_ | refine x_ldr ?_)
 all_goals refine oc ?_
 all_goals (refine op_callB rfl rfl rfl rfl rfl ⟨_, Try.func27, by decide, rfl⟩ (.cons (.pure rfl) .nil) (records_w s.bytes (by omega)) ?_)
 all_goals (rintro _ H' m ⟨rfl, rfl⟩)
 all_goals refine oc (x_move ?_)
 all_goals refine oc (x_ext ?_)
 all_goals refine oc (x_ext ?_)
 all_goals refine oc (x_assign ?_)
 all_goals refine oc (x_assign ?_)
 all_goals refine ops_nil ?_
 all_goals refine seqQ_n ?_
 all_goals refine tri_seq ?_
 all_goals refine tri_region ?_
 all_goals refine oc (x_move ?_)
 all_goals refine oc (x_assign ?_)
 all_goals refine oc (x_assign ?_)
 all_goals refine ops_nil ?_
 all_goals refine seqQ_n ?_
 all_goals (refine tri_le (le_snapT 2 (by conv => lhs; whnf) rfl (by first | exact SnapR.nil (sz := 7) | exact .pure rfl)) ?_)
 all_goals refine tri_ret ?_
 all_goals refine retE_r [] (.cons (.tmp (by conv => lhs; whnf) rfl) (.cons (.tmp (by conv => lhs; whnf) rfl) .nil)) rfl rfl (by first | exact (ren_pure (by rfl)).trans (by conv => lhs; whnf) | ((conv => lhs; whnf); done) | rfl) (.nil) ?_
 all_goals (
  first
  | (have hd : read s = ([], 1) := if_neg (by simp_all)
     rw [hd]; exact ⟨rfl, rfl⟩)
  | (have hd : read s = ((recs s.bytes [] 0).1, 0) := if_pos (by simp_all)
     rw [hd]; exact ⟨rfl, rfl⟩))

/-- the walk of casebook/journal.Crash -/
theorem crash_w (s : Sto) (n : Int) (hl : s.bytes.length ≤ 2 ^ 40) (hd0 : -9223372036854000000 ≤ s.durable ∧ s.durable ≤ 9223372036854000000) : HSpec Try.prog 12 [stoAV s, iv n] [] fun r H' _ => r = .tup [stoAV (crash s n).1, iv (crash s n).2] ∧ H' = [] := by
 refine hspec_intro Try.func12 rfl rfl ?_
 all_goals refine tri_seq ?_
 all_goals refine tri_region ?_
 all_goals refine oc (x_bx 3 ?_)
 all_goals refine oc (x_al 3 ?_)
 all_goals refine oc (x_assign ?_)
 all_goals refine ops_nil ?_
 all_goals refine seqQ_n ?_
 all_goals refine tri_seq ?_
 all_goals refine tri_seq ?_
 all_goals refine tri_region ?_
 all_goals refine oc ?_
 all_goals (first | refine x_lda ?_ | refine x_ldra ?_ | refine x_ldp ?_ | refine x_ldrp ?_)
 all_goals refine oc ?_
 all_goals (refine op_callA rfl rfl rfl rfl rfl ⟨_, Try.func11, by decide, rfl⟩ (.cons (.pure rfl) .nil) (valid_w s hl) shut0 ?_)
 all_goals (rintro _ H' m ⟨rfl, rfl⟩)
 all_goals refine oc ?_
 all_goals (first | refine op_not_d rfl rfl rfl ?_ | refine x_not ?_)
 all_goals refine ops_nil ?_
 all_goals refine seqQ_n ?_
 all_goals (
  first | refine tri_cond_d rfl rfl (fun hc => ?_) (fun hc => ?_) | refine ct (fun hc => ?_) (fun hc => ?_) | refine cf (fun hc => ?_) (fun hc => ?_) | refine cb (fun hc => ?_) (fun hc => ?_)
  focus
   try (exfalso; first | exact hc | omega)
   all_goals refine tri_seq ?_
   all_goals refine tri_region ?_
   all_goals refine oc (x_b0_3 ?_)
   all_goals refine oc (x_st3 ?_)
   all_goals refine oc (x_assign ?_)
   all_goals refine ops_nil ?_
   all_goals refine seqQ_n ?_
   all_goals (refine tri_le (lit_snapO 1 (by first | ((conv => lhs; whnf; arg 1; whnf); done) | rfl | assumption | (simp; done)) (by conv => lhs; whnf; congr; { whnf }; { whnf; congr; { whnf }; { whnf; congr; { whnf }; { whnf } } }) (by exact .cons (by first | exact SnapR.nil (sz := 1) | exact .pure rfl) (.cons (.pure rfl) (.cons (.pure rfl) .nil))) (by rfl) (by rfl) (by rfl)) ?_)
   all_goals refine tri_ret ?_
   all_goals refine seqQ_r ?_
   all_goals refine retE_r [] (.cons (by first | exact .cellAgg rfl rfl rfl rfl rfl rfl rfl rfl | exact .cell1 rfl rfl rfl rfl rfl rfl rfl) (.cons (.tmp (by conv => lhs; whnf) rfl) .nil)) rfl rfl (by first | exact (ren_pure (by rfl)).trans (by conv => lhs; whnf) | ((conv => lhs; whnf); done) | rfl) (.nil) ?_
   all_goals (
    first
    | (have hd : crash s n = (zeroSto, 1) := if_neg (by simp_all)
       rw [hd]; exact ⟨rfl, rfl⟩)
    | (have hd : crash s n = (zeroSto, 2) := (if_pos (by simp_all)).trans (if_pos (by omega))
       rw [hd]; exact ⟨rfl, rfl⟩)
    | (have hd : crash s n = (⟨s.bytes.take (s.durable + n).toNat, s.durable, -1⟩, 0) := (if_pos (by simp_all)).trans (if_neg (by omega))
       rw [hd]; exact ⟨rfl, rfl⟩))
  rotate_right 1
  focus
   try (exfalso; first | exact hc | omega)
   all_goals refine tri_skip ?_)
 all_goals refine seqQ_n ?_
 all_goals refine tri_seq ?_
 all_goals refine tri_seq ?_
 all_goals refine tri_region ?_
 all_goals (have hv := valid_facts (s := s) (by simp_all))
 all_goals refine oc (x_move ?_)
 all_goals refine oc (x_lss ?_)
 all_goals refine oc (x_move ?_)
 all_goals (first | refine gU ?_ | refine gY ?_ | refine gN ?_ | refine ops_guardFd rfl rfl rfl rfl rfl rfl (fun hg => ?_) (fun hg => ?_) | refine gF (fun hg => ?_) (fun hg => ?_))
 all_goals try (exfalso; omega)
 all_goals (first | refine ops_here ?_ | (refine x_move ?_))
 all_goals (first | refine gU ?_ | refine gY ?_ | refine gN ?_ | refine ops_guardFd rfl rfl rfl rfl rfl rfl (fun hg => ?_) (fun hg => ?_) | refine gF (fun hg => ?_) (fun hg => ?_))
 all_goals try (exfalso; omega)
 all_goals (first | refine ops_here ?_ | (first | refine x_fa0 ?_ | refine x_far0 ?_ | refine x_fa ?_ | refine x_far ?_))
 all_goals (first | refine gU ?_ | refine gY ?_ | refine gN ?_ | refine ops_guardFd rfl rfl rfl rfl rfl rfl (fun hg => ?_) (fun hg => ?_) | refine gF (fun hg => ?_) (fun hg => ?_))
 all_goals try (exfalso; omega)
 all_goals (first | refine ops_here ?_ | (first | refine x_ld ?_ | refine x_ldr ?_))
 all_goals (first | refine gU ?_ | refine gY ?_ | refine gN ?_ | refine ops_guardFd rfl rfl rfl rfl rfl rfl (fun hg => ?_) (fun hg => ?_) | refine gF (fun hg => ?_) (fun hg => ?_))
 all_goals try (exfalso; omega)
 all_goals (first | refine ops_here ?_ | (first | refine op_len_sl rfl (by first | (conv => lhs; simp only [List.length_map, bytesAV_length]) | rfl) rfl rfl rfl ?_ | refine x_leno ?_ | refine x_lenn ?_))
 all_goals (first | refine gU ?_ | refine gY ?_ | refine gN ?_ | refine ops_guardFd rfl rfl rfl rfl rfl rfl (fun hg => ?_) (fun hg => ?_) | refine gF (fun hg => ?_) (fun hg => ?_))
 all_goals try (exfalso; omega)
 all_goals (first | refine ops_here ?_ | (first | refine x_fa0 ?_ | refine x_far0 ?_ | refine x_fa ?_ | refine x_far ?_))
 all_goals (first | refine gU ?_ | refine gY ?_ | refine gN ?_ | refine ops_guardFd rfl rfl rfl rfl rfl rfl (fun hg => ?_) (fun hg => ?_) | refine gF (fun hg => ?_) (fun hg => ?_))
 all_goals try (exfalso; omega)
 all_goals (first | refine ops_here ?_ | (first | refine x_ld ?_ | refine x_ldr ?_))
 all_goals (first | refine gU ?_ | refine gY ?_ | refine gN ?_ | refine ops_guardFd rfl rfl rfl rfl rfl rfl (fun hg => ?_) (fun hg => ?_) | refine gF (fun hg => ?_) (fun hg => ?_))
 all_goals try (exfalso; omega)
 all_goals (first | refine ops_here ?_ | (first | refine x_sub64 ?_ | refine x_sub ?_))
 all_goals (first | refine gU ?_ | refine gY ?_ | refine gN ?_ | refine ops_guardFd rfl rfl rfl rfl rfl rfl (fun hg => ?_) (fun hg => ?_) | refine gF (fun hg => ?_) (fun hg => ?_))
 all_goals try (exfalso; omega)
 all_goals (first | refine ops_here ?_ | (refine x_gtr ?_))
 all_goals refine oc ?_
 all_goals (first | refine x_pt ?_ | refine x_pf ?_ | refine x_pb ?_)
 all_goals refine ops_nil ?_
 all_goals refine seqQ_n ?_
 all_goals (
  first | refine tri_cond_d rfl rfl (fun hc => ?_) (fun hc => ?_) | refine ct (fun hc => ?_) (fun hc => ?_) | refine cf (fun hc => ?_) (fun hc => ?_) | refine cb (fun hc => ?_) (fun hc => ?_)
  focus
   try (exfalso; first | exact hc | omega)
   all_goals refine tri_seq ?_
   all_goals refine tri_region ?_
   all_goals refine oc (x_b0_3 ?_)
   all_goals refine oc (x_st3 ?_)
   all_goals refine oc (x_assign ?_)
   all_goals refine ops_nil ?_
   all_goals refine seqQ_n ?_
   all_goals (refine tri_le (lit_snapO 1 (by first | ((conv => lhs; whnf; arg 1; whnf); done) | rfl | assumption | (simp; done)) (by conv => lhs; whnf; congr; { whnf }; { whnf; congr; { whnf }; { whnf; congr; { whnf }; { whnf } } }) (by exact .cons (by first | exact SnapR.nil (sz := 1) | exact .pure rfl) (.cons (.pure rfl) (.cons (.pure rfl) .nil))) (by rfl) (by rfl) (by rfl)) ?_)
   all_goals refine tri_ret ?_
   all_goals refine seqQ_r ?_
   all_goals refine retE_r [] (.cons (by first | exact .cellAgg rfl rfl rfl rfl rfl rfl rfl rfl | exact .cell1 rfl rfl rfl rfl rfl rfl rfl) (.cons (.tmp (by conv => lhs; whnf) rfl) .nil)) rfl rfl (by first | exact (ren_pure (by rfl)).trans (by conv => lhs; whnf) | ((conv => lhs; whnf); done) | rfl) (.nil) ?_
   all_goals (
    first
    | (have hd : crash s n = (zeroSto, 1) := if_neg (by simp_all)
       rw [hd]; exact ⟨rfl, rfl⟩)
    | (have hd : crash s n = (zeroSto, 2) := (if_pos (by simp_all)).trans (if_pos (by omega))
       rw [hd]; exact ⟨rfl, rfl⟩)
    | (have hd : crash s n = (⟨s.bytes.take (s.durable + n).toNat, s.durable, -1⟩, 0) := (if_pos (by simp_all)).trans (if_neg (by omega))
       rw [hd]; exact ⟨rfl, rfl⟩))
  rotate_right 1
  focus
   try (exfalso; first | exact hc | omega)
   all_goals refine tri_skip ?_)
 all_goals refine seqQ_n ?_
 all_goals refine tri_seq ?_
 all_goals (
  apply tri_anyCut (by rfl)
  focus
   all_goals refine x_tk 0 (opWF_fieldAddr rfl rfl rfl) ?_
   all_goals (first | refine x_fa0 ?_ | refine x_far0 ?_ | refine x_fa ?_ | refine x_far ?_)
   all_goals refine x_tk 2 (opWF_fieldAddr rfl rfl rfl) ?_
   all_goals (first | refine x_fa0 ?_ | refine x_far0 ?_ | refine x_fa ?_ | refine x_far ?_)
   all_goals refine x_tk 4 (opWF_move) ?_
   all_goals (refine x_move ?_)
   all_goals refine x_tk 8 (opWF_fieldAddr rfl rfl rfl) ?_
   all_goals (first | refine x_fa0 ?_ | refine x_far0 ?_ | refine x_fa ?_ | refine x_far ?_)
   all_goals (
    refine x_all3 1 3 9 ?_ ?_ ?_
    focus
     all_goals (first | refine x_ld ?_ | refine x_ldr ?_)
     all_goals (
      refine x_all2 3 9 ?_ ?_
      focus
       all_goals (first | refine x_ld ?_ | refine x_ldr ?_)
       all_goals refine x_tk 5 (opWF_bin rfl rfl rfl rfl) ?_
       all_goals (first | refine x_add64 ?_ | refine x_add ?_)
       all_goals refine x_tk 6 (opWF_slice) ?_
       all_goals (first | refine op_slice_sl rfl rfl rfl rfl rfl .none (.to rfl rfl (by first | rw [Int.toNat_natCast] | rw [Int.toNat_zero] | rw [Int.toNat_one] | rw [Int.toNat_ofNat] | exact rfl) (by omega)) (by first | omega | simp; omega) (by first | omega | simp; omega) (by conv => lhs; first | rw [sub1] | rw [sub2] | rw [sub3] | skip) ?_ | refine op_slice_osl rfl rfl rfl rfl rfl .none (.to rfl rfl (by first | rw [Int.toNat_natCast] | rw [Int.toNat_zero] | rw [Int.toNat_one] | rw [Int.toNat_ofNat] | exact rfl) (by omega)) (by first | omega | simp) (by omega) ?_)
       all_goals (
        refine x_all2 7 9 ?_ ?_
        focus
         all_goals (refine op_callB rfl rfl rfl rfl rfl ⟨_, Try.func18, by decide, rfl⟩ (.cons (.pure rfl) .nil) (clone_w _ (by first | omega | (simp; omega))) ?_)
         all_goals (rintro _ H' m ⟨rfl, rfl⟩)
         all_goals (
          refine x_all1 9 ?_
          focus
           all_goals (first | refine x_ld ?_ | refine x_ldr ?_)
           all_goals refine x_tk 10 (opWF_build rfl) ?_
           all_goals (refine x_b3_3 ?_)
           all_goals (
            refine x_all1 11 ?_
            focus
             all_goals (refine x_st3 ?_)
             all_goals refine x_tk 12 (opWF_assign) ?_
             all_goals (refine x_assign ?_)
             all_goals exact any_leaf (n := 34) [0, 1] [0, 1, 2, 4, 5, 8, 21] (by kernel_rfl) rfl rfl rfl (.c0 (.c0 (.c0 (.c0 (.c0 (.c0 (.c0 (.nil)))))))) (.c0 (.c0 (.nil)))))
        focus
         all_goals (first | refine x_ld ?_ | refine x_ldr ?_)
         all_goals (
          refine x_all1 7 ?_
          focus
           all_goals (refine op_callB rfl rfl rfl rfl rfl ⟨_, Try.func18, by decide, rfl⟩ (.cons (.pure rfl) .nil) (clone_w _ (by first | omega | (simp; omega))) ?_)
           all_goals (rintro _ H' m ⟨rfl, rfl⟩)
           all_goals refine x_tk 10 (opWF_build rfl) ?_
           all_goals (refine x_b3_3 ?_)
           all_goals (
            refine x_all1 11 ?_
            focus
             all_goals (refine x_st3 ?_)
             all_goals refine x_tk 12 (opWF_assign) ?_
             all_goals (refine x_assign ?_)
             all_goals exact any_leaf (n := 34) [0, 1] [0, 1, 2, 4, 5, 8, 21] (by kernel_rfl) rfl rfl rfl (.c0 (.c0 (.c0 (.c0 (.c0 (.c0 (.c0 (.nil)))))))) (.c0 (.c0 (.nil))))))
      focus
       all_goals (first | refine x_ld ?_ | refine x_ldr ?_)
       all_goals (
        refine x_all1 3 ?_
        focus
         all_goals (first | refine x_ld ?_ | refine x_ldr ?_)
         all_goals refine x_tk 5 (opWF_bin rfl rfl rfl rfl) ?_
         all_goals (first | refine x_add64 ?_ | refine x_add ?_)
         all_goals refine x_tk 6 (opWF_slice) ?_
         all_goals (first | refine op_slice_sl rfl rfl rfl rfl rfl .none (.to rfl rfl (by first | rw [Int.toNat_natCast] | rw [Int.toNat_zero] | rw [Int.toNat_one] | rw [Int.toNat_ofNat] | exact rfl) (by omega)) (by first | omega | simp; omega) (by first | omega | simp; omega) (by conv => lhs; first | rw [sub1] | rw [sub2] | rw [sub3] | skip) ?_ | refine op_slice_osl rfl rfl rfl rfl rfl .none (.to rfl rfl (by first | rw [Int.toNat_natCast] | rw [Int.toNat_zero] | rw [Int.toNat_one] | rw [Int.toNat_ofNat] | exact rfl) (by omega)) (by first | omega | simp) (by omega) ?_)
         all_goals (
          refine x_all1 7 ?_
          focus
           all_goals (refine op_callB rfl rfl rfl rfl rfl ⟨_, Try.func18, by decide, rfl⟩ (.cons (.pure rfl) .nil) (clone_w _ (by first | omega | (simp; omega))) ?_)
           all_goals (rintro _ H' m ⟨rfl, rfl⟩)
           all_goals refine x_tk 10 (opWF_build rfl) ?_
           all_goals (refine x_b3_3 ?_)
           all_goals (
            refine x_all1 11 ?_
            focus
             all_goals (refine x_st3 ?_)
             all_goals refine x_tk 12 (opWF_assign) ?_
             all_goals (refine x_assign ?_)
             all_goals exact any_leaf (n := 34) [0, 1] [0, 1, 2, 4, 5, 8, 21] (by kernel_rfl) rfl rfl rfl (.c0 (.c0 (.c0 (.c0 (.c0 (.c0 (.c0 (.nil)))))))) (.c0 (.c0 (.nil)))))))
    focus
     all_goals (first | refine x_ld ?_ | refine x_ldr ?_)
     all_goals refine x_tk 5 (opWF_bin rfl rfl rfl rfl) ?_
     all_goals (first | refine x_add64 ?_ | refine x_add ?_)
     all_goals (
      refine x_all2 1 9 ?_ ?_
      focus
       all_goals (first | refine x_ld ?_ | refine x_ldr ?_)
       all_goals refine x_tk 6 (opWF_slice) ?_
       all_goals (first | refine op_slice_sl rfl rfl rfl rfl rfl .none (.to rfl rfl (by first | rw [Int.toNat_natCast] | rw [Int.toNat_zero] | rw [Int.toNat_one] | rw [Int.toNat_ofNat] | exact rfl) (by omega)) (by first | omega | simp; omega) (by first | omega | simp; omega) (by conv => lhs; first | rw [sub1] | rw [sub2] | rw [sub3] | skip) ?_ | refine op_slice_osl rfl rfl rfl rfl rfl .none (.to rfl rfl (by first | rw [Int.toNat_natCast] | rw [Int.toNat_zero] | rw [Int.toNat_one] | rw [Int.toNat_ofNat] | exact rfl) (by omega)) (by first | omega | simp) (by omega) ?_)
       all_goals (
        refine x_all2 7 9 ?_ ?_
        focus
         all_goals (refine op_callB rfl rfl rfl rfl rfl ⟨_, Try.func18, by decide, rfl⟩ (.cons (.pure rfl) .nil) (clone_w _ (by first | omega | (simp; omega))) ?_)
         all_goals (rintro _ H' m ⟨rfl, rfl⟩)
         all_goals (
          refine x_all1 9 ?_
          focus
           all_goals (first | refine x_ld ?_ | refine x_ldr ?_)
           all_goals refine x_tk 10 (opWF_build rfl) ?_
           all_goals (refine x_b3_3 ?_)
           all_goals (
            refine x_all1 11 ?_
            focus
             all_goals (refine x_st3 ?_)
             all_goals refine x_tk 12 (opWF_assign) ?_
             all_goals (refine x_assign ?_)
             all_goals exact any_leaf (n := 34) [0, 1] [0, 1, 2, 4, 5, 8, 21] (by kernel_rfl) rfl rfl rfl (.c0 (.c0 (.c0 (.c0 (.c0 (.c0 (.c0 (.nil)))))))) (.c0 (.c0 (.nil)))))
        focus
         all_goals (first | refine x_ld ?_ | refine x_ldr ?_)
         all_goals (
          refine x_all1 7 ?_
          focus
           all_goals (refine op_callB rfl rfl rfl rfl rfl ⟨_, Try.func18, by decide, rfl⟩ (.cons (.pure rfl) .nil) (clone_w _ (by first | omega | (simp; omega))) ?_)
           all_goals (rintro _ H' m ⟨rfl, rfl⟩)
           all_goals refine x_tk 10 (opWF_build rfl) ?_
           all_goals (refine x_b3_3 ?_)
           all_goals (
            refine x_all1 11 ?_
            focus
             all_goals (refine x_st3 ?_)
             all_goals refine x_tk 12 (opWF_assign) ?_
             all_goals (refine x_assign ?_)
             all_goals exact any_leaf (n := 34) [0, 1] [0, 1, 2, 4, 5, 8, 21] (by kernel_rfl) rfl rfl rfl (.c0 (.c0 (.c0 (.c0 (.c0 (.c0 (.c0 (.nil)))))))) (.c0 (.c0 (.nil))))))
      focus
       all_goals (first | refine x_ld ?_ | refine x_ldr ?_)
       all_goals (
        refine x_all1 1 ?_
        focus
         all_goals (first | refine x_ld ?_ | refine x_ldr ?_)
         all_goals refine x_tk 6 (opWF_slice) ?_
         all_goals (first | refine op_slice_sl rfl rfl rfl rfl rfl .none (.to rfl rfl (by first | rw [Int.toNat_natCast] | rw [Int.toNat_zero] | rw [Int.toNat_one] | rw [Int.toNat_ofNat] | exact rfl) (by omega)) (by first | omega | simp; omega) (by first | omega | simp; omega) (by conv => lhs; first | rw [sub1] | rw [sub2] | rw [sub3] | skip) ?_ | refine op_slice_osl rfl rfl rfl rfl rfl .none (.to rfl rfl (by first | rw [Int.toNat_natCast] | rw [Int.toNat_zero] | rw [Int.toNat_one] | rw [Int.toNat_ofNat] | exact rfl) (by omega)) (by first | omega | simp) (by omega) ?_)
         all_goals (
          refine x_all1 7 ?_
          focus
           all_goals (refine op_callB rfl rfl rfl rfl rfl ⟨_, Try.func18, by decide, rfl⟩ (.cons (.pure rfl) .nil) (clone_w _ (by first | omega | (simp; omega))) ?_)
           all_goals (rintro _ H' m ⟨rfl, rfl⟩)
           all_goals refine x_tk 10 (opWF_build rfl) ?_
           all_goals (refine x_b3_3 ?_)
           all_goals (
            refine x_all1 11 ?_
            focus
             all_goals (refine x_st3 ?_)
             all_goals refine x_tk 12 (opWF_assign) ?_
             all_goals (refine x_assign ?_)
             all_goals exact any_leaf (n := 34) [0, 1] [0, 1, 2, 4, 5, 8, 21] (by kernel_rfl) rfl rfl rfl (.c0 (.c0 (.c0 (.c0 (.c0 (.c0 (.c0 (.nil)))))))) (.c0 (.c0 (.nil)))))))
    focus
     all_goals (first | refine x_ld ?_ | refine x_ldr ?_)
     all_goals (
      refine x_all2 1 3 ?_ ?_
      focus
       all_goals (first | refine x_ld ?_ | refine x_ldr ?_)
       all_goals (
        refine x_all1 3 ?_
        focus
         all_goals (first | refine x_ld ?_ | refine x_ldr ?_)
         all_goals refine x_tk 5 (opWF_bin rfl rfl rfl rfl) ?_
         all_goals (first | refine x_add64 ?_ | refine x_add ?_)
         all_goals refine x_tk 6 (opWF_slice) ?_
         all_goals (first | refine op_slice_sl rfl rfl rfl rfl rfl .none (.to rfl rfl (by first | rw [Int.toNat_natCast] | rw [Int.toNat_zero] | rw [Int.toNat_one] | rw [Int.toNat_ofNat] | exact rfl) (by omega)) (by first | omega | simp; omega) (by first | omega | simp; omega) (by conv => lhs; first | rw [sub1] | rw [sub2] | rw [sub3] | skip) ?_ | refine op_slice_osl rfl rfl rfl rfl rfl .none (.to rfl rfl (by first | rw [Int.toNat_natCast] | rw [Int.toNat_zero] | rw [Int.toNat_one] | rw [Int.toNat_ofNat] | exact rfl) (by omega)) (by first | omega | simp) (by omega) ?_)
         all_goals (
          refine x_all1 7 ?_
          focus
           all_goals (refine op_callB rfl rfl rfl rfl rfl ⟨_, Try.func18, by decide, rfl⟩ (.cons (.pure rfl) .nil) (clone_w _ (by first | omega | (simp; omega))) ?_)
           all_goals (rintro _ H' m ⟨rfl, rfl⟩)
           all_goals refine x_tk 10 (opWF_build rfl) ?_
           all_goals (refine x_b3_3 ?_)
           all_goals (
            refine x_all1 11 ?_
            focus
             all_goals (refine x_st3 ?_)
             all_goals refine x_tk 12 (opWF_assign) ?_
             all_goals (refine x_assign ?_)
             all_goals exact any_leaf (n := 34) [0, 1] [0, 1, 2, 4, 5, 8, 21] (by kernel_rfl) rfl rfl rfl (.c0 (.c0 (.c0 (.c0 (.c0 (.c0 (.c0 (.nil)))))))) (.c0 (.c0 (.nil))))))
      focus
       all_goals (first | refine x_ld ?_ | refine x_ldr ?_)
       all_goals refine x_tk 5 (opWF_bin rfl rfl rfl rfl) ?_
       all_goals (first | refine x_add64 ?_ | refine x_add ?_)
       all_goals (
        refine x_all1 1 ?_
        focus
         all_goals (first | refine x_ld ?_ | refine x_ldr ?_)
         all_goals refine x_tk 6 (opWF_slice) ?_
         all_goals (first | refine op_slice_sl rfl rfl rfl rfl rfl .none (.to rfl rfl (by first | rw [Int.toNat_natCast] | rw [Int.toNat_zero] | rw [Int.toNat_one] | rw [Int.toNat_ofNat] | exact rfl) (by omega)) (by first | omega | simp; omega) (by first | omega | simp; omega) (by conv => lhs; first | rw [sub1] | rw [sub2] | rw [sub3] | skip) ?_ | refine op_slice_osl rfl rfl rfl rfl rfl .none (.to rfl rfl (by first | rw [Int.toNat_natCast] | rw [Int.toNat_zero] | rw [Int.toNat_one] | rw [Int.toNat_ofNat] | exact rfl) (by omega)) (by first | omega | simp) (by omega) ?_)
         all_goals (
          refine x_all1 7 ?_
          focus
           all_goals (refine op_callB rfl rfl rfl rfl rfl ⟨_, Try.func18, by decide, rfl⟩ (.cons (.pure rfl) .nil) (clone_w _ (by first | omega | (simp; omega))) ?_)
           all_goals (rintro _ H' m ⟨rfl, rfl⟩)
           all_goals refine x_tk 10 (opWF_build rfl) ?_
           all_goals (refine x_b3_3 ?_)
           all_goals (
            refine x_all1 11 ?_
            focus
             all_goals (refine x_st3 ?_)
             all_goals refine x_tk 12 (opWF_assign) ?_
             all_goals (refine x_assign ?_)
             all_goals exact any_leaf (n := 34) [0, 1] [0, 1, 2, 4, 5, 8, 21] (by kernel_rfl) rfl rfl rfl (.c0 (.c0 (.c0 (.c0 (.c0 (.c0 (.c0 (.nil)))))))) (.c0 (.c0 (.nil)))))))))
 all_goals refine seqQ_n ?_
 all_goals (refine tri_le (lit_snapO 1 (by first | ((conv => lhs; whnf; arg 1; whnf); done) | rfl | assumption | (simp; done)) (by conv => lhs; whnf; congr; { whnf }; { whnf; congr; { whnf }; { whnf; congr; { whnf }; { whnf } } }) (by exact .cons (by first | exact SnapR.nil (sz := 1) | exact .pure rfl) (.cons (.pure rfl) (.cons (.pure rfl) .nil))) (by rfl) (by rfl) (by rfl)) ?_)
 all_goals refine tri_ret ?_
 all_goals refine retE_r [] (.cons (by first | exact .cellAgg rfl rfl rfl rfl rfl rfl rfl rfl | exact .cell1 rfl rfl rfl rfl rfl rfl rfl) (.cons (.tmp (by conv => lhs; whnf) rfl) .nil)) rfl rfl (by first | exact (ren_pure (by rfl)).trans (by conv => lhs; whnf) | ((conv => lhs; whnf); done) | rfl) (.nil) ?_
 all_goals (
  first
  | (have hd : crash s n = (zeroSto, 1) := if_neg (by simp_all)
     rw [hd]; exact ⟨rfl, rfl⟩)
  | (have hd : crash s n = (zeroSto, 2) := (if_pos (by simp_all)).trans (if_pos (by omega))
     rw [hd]; exact ⟨rfl, rfl⟩)
  | (have hd : crash s n = (⟨s.bytes.take (s.durable + n).toNat, s.durable, -1⟩, 0) := (if_pos (by simp_all)).trans (if_neg (by omega))
     rw [hd]; exact ⟨rfl, rfl⟩))

end Go.Proofs.Ytjalgcjllddmhaa

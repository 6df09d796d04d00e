/- A text of the proof of JournalTorn: JW12 -/
import Derived.Test.YtjalgcjllddmhaaProg
import Derived.Test.YtjalgcjllddmhaaAvShort
import Derived.Test.YtjalgcjllddmhaaAvAppS
import Derived.Test.YtjalgcjllddmhaaAvSnap
import Derived.Test.YtjalgcjllddmhaaAvAny
import Derived.Test.YtjalgcjllddmhaaAvLit
import Derived.Test.YtjalgcjllddmhaaAvEq
import Derived.Test.YtjalgcjllddmhaaJSame

set_option linter.unusedSimpArgs false
set_option linter.unusedVariables false
set_option maxHeartbeats 8000000
set_option maxRecDepth 100000
namespace Go.Proofs.Ytjalgcjllddmhaa
open Go.Av
/-- the walk of casebook/casebookref48.SameCommand -/
theorem sameC_w (a b : Cmd) (ha : a.data.length ≤ 2 ^ 47) (hb : b.data.length ≤ 2 ^ 47) : HSpec Try.prog 15 [cmdAV a, cmdAV b] [] fun r H' _ => r = .val (.bool (sameC a b)) ∧ H' = [] := by
 refine hspec_intro Try.func15 rfl rfl ?_
 all_goals refine tri_seq ?_
 all_goals refine tri_region ?_
 all_goals refine oc (x_bx 7 ?_)
 all_goals refine oc (x_bx 7 ?_)
 all_goals refine oc (x_assign ?_)
 all_goals refine ops_nil ?_
 all_goals refine seqQ_n ?_
 all_goals refine tri_seq ?_
 all_goals refine tri_seq ?_
 all_goals refine tri_region ?_
 all_goals refine oc ?_
 all_goals (first | refine x_fa0 ?_ | refine x_far0 ?_ | refine x_fa ?_ | refine x_far ?_)
 all_goals refine oc ?_
 all_goals (first | refine x_ld ?_ | refine x_ldr ?_)
 all_goals refine oc ?_
 all_goals (first | refine x_fa0 ?_ | refine x_far0 ?_ | refine x_fa ?_ | refine x_far ?_)
 all_goals refine oc ?_
 all_goals (first | refine x_ld ?_ | refine x_ldr ?_)
 all_goals refine oc (x_neq ?_)
 all_goals refine oc (x_move ?_)
 all_goals (first | refine gU ?_ | refine gY ?_ | refine gN ?_ | refine ops_guardFd rfl rfl rfl rfl rfl rfl (fun hg => ?_) (fun hg => ?_) | refine gF (fun hg => ?_) (fun hg => ?_))
 all_goals try (exfalso; omega)
 all_goals (first | refine ops_here ?_ | (first | refine x_fa0 ?_ | refine x_far0 ?_ | refine x_fa ?_ | refine x_far ?_))
 all_goals (first | refine gU ?_ | refine gY ?_ | refine gN ?_ | refine ops_guardFd rfl rfl rfl rfl rfl rfl (fun hg => ?_) (fun hg => ?_) | refine gF (fun hg => ?_) (fun hg => ?_))
 all_goals try (exfalso; omega)
 all_goals (first | refine ops_here ?_ | (first | refine x_ld ?_ | refine x_ldr ?_))
 all_goals (first | refine gU ?_ | refine gY ?_ | refine gN ?_ | refine ops_guardFd rfl rfl rfl rfl rfl rfl (fun hg => ?_) (fun hg => ?_) | refine gF (fun hg => ?_) (fun hg => ?_))
 all_goals try (exfalso; omega)
 all_goals (first | refine ops_here ?_ | (first | refine x_fa0 ?_ | refine x_far0 ?_ | refine x_fa ?_ | refine x_far ?_))
 all_goals (first | refine gU ?_ | refine gY ?_ | refine gN ?_ | refine ops_guardFd rfl rfl rfl rfl rfl rfl (fun hg => ?_) (fun hg => ?_) | refine gF (fun hg => ?_) (fun hg => ?_))
 all_goals try (exfalso; omega)
 all_goals (first | refine ops_here ?_ | (first | refine x_ld ?_ | refine x_ldr ?_))
 all_goals (first | refine gU ?_ | refine gY ?_ | refine gN ?_ | refine ops_guardFd rfl rfl rfl rfl rfl rfl (fun hg => ?_) (fun hg => ?_) | refine gF (fun hg => ?_) (fun hg => ?_))
 all_goals try (exfalso; omega)
 all_goals (first | refine ops_here ?_ | (refine x_neq ?_))
 all_goals refine oc ?_
 all_goals (first | refine x_pt ?_ | refine x_pf ?_ | refine x_pb ?_)
 all_goals refine oc (x_move ?_)
 all_goals (first | refine gU ?_ | refine gY ?_ | refine gN ?_ | refine ops_guardFd rfl rfl rfl rfl rfl rfl (fun hg => ?_) (fun hg => ?_) | refine gF (fun hg => ?_) (fun hg => ?_))
 all_goals try (exfalso; omega)
 all_goals (first | refine ops_here ?_ | (first | refine x_fa0 ?_ | refine x_far0 ?_ | refine x_fa ?_ | refine x_far ?_))
 all_goals (first | refine gU ?_ | refine gY ?_ | refine gN ?_ | refine ops_guardFd rfl rfl rfl rfl rfl rfl (fun hg => ?_) (fun hg => ?_) | refine gF (fun hg => ?_) (fun hg => ?_))
 all_goals try (exfalso; omega)
 all_goals (first | refine ops_here ?_ | (first | refine x_ld ?_ | refine x_ldr ?_))
 all_goals (first | refine gU ?_ | refine gY ?_ | refine gN ?_ | refine ops_guardFd rfl rfl rfl rfl rfl rfl (fun hg => ?_) (fun hg => ?_) | refine gF (fun hg => ?_) (fun hg => ?_))
 all_goals try (exfalso; omega)
 all_goals (first | refine ops_here ?_ | (first | refine x_fa0 ?_ | refine x_far0 ?_ | refine x_fa ?_ | refine x_far ?_))
 all_goals (first | refine gU ?_ | refine gY ?_ | refine gN ?_ | refine ops_guardFd rfl rfl rfl rfl rfl rfl (fun hg => ?_) (fun hg => ?_) | refine gF (fun hg => ?_) (fun hg => ?_))
 all_goals try (exfalso; omega)
 all_goals (first | refine ops_here ?_ | (first | refine x_ld ?_ | refine x_ldr ?_))
 all_goals (first | refine gU ?_ | refine gY ?_ | refine gN ?_ | refine ops_guardFd rfl rfl rfl rfl rfl rfl (fun hg => ?_) (fun hg => ?_) | refine gF (fun hg => ?_) (fun hg => ?_))
 all_goals try (exfalso; omega)
 all_goals (first | refine ops_here ?_ | (refine x_neq ?_))
 all_goals refine oc ?_
 all_goals (first | refine x_pt ?_ | refine x_pf ?_ | refine x_pb ?_)
 all_goals refine oc (x_move ?_)
 all_goals (first | refine gU ?_ | refine gY ?_ | refine gN ?_ | refine ops_guardFd rfl rfl rfl rfl rfl rfl (fun hg => ?_) (fun hg => ?_) | refine gF (fun hg => ?_) (fun hg => ?_))
 all_goals try (exfalso; omega)
 all_goals (first | refine ops_here ?_ | (first | refine x_fa0 ?_ | refine x_far0 ?_ | refine x_fa ?_ | refine x_far ?_))
 all_goals (first | refine gU ?_ | refine gY ?_ | refine gN ?_ | refine ops_guardFd rfl rfl rfl rfl rfl rfl (fun hg => ?_) (fun hg => ?_) | refine gF (fun hg => ?_) (fun hg => ?_))
 all_goals try (exfalso; omega)
 all_goals (first | refine ops_here ?_ | (first | refine x_ld ?_ | refine x_ldr ?_))
 all_goals (first | refine gU ?_ | refine gY ?_ | refine gN ?_ | refine ops_guardFd rfl rfl rfl rfl rfl rfl (fun hg => ?_) (fun hg => ?_) | refine gF (fun hg => ?_) (fun hg => ?_))
 all_goals try (exfalso; omega)
 all_goals (first | refine ops_here ?_ | (first | refine x_fa0 ?_ | refine x_far0 ?_ | refine x_fa ?_ | refine x_far ?_))
 all_goals (first | refine gU ?_ | refine gY ?_ | refine gN ?_ | refine ops_guardFd rfl rfl rfl rfl rfl rfl (fun hg => ?_) (fun hg => ?_) | refine gF (fun hg => ?_) (fun hg => ?_))
 all_goals try (exfalso; omega)
 all_goals (first | refine ops_here ?_ | (first | refine x_ld ?_ | refine x_ldr ?_))
 all_goals (first | refine gU ?_ | refine gY ?_ | refine gN ?_ | refine ops_guardFd rfl rfl rfl rfl rfl rfl (fun hg => ?_) (fun hg => ?_) | refine gF (fun hg => ?_) (fun hg => ?_))
 all_goals try (exfalso; omega)
 all_goals (first | refine ops_here ?_ | (refine x_sneq ?_))
 all_goals refine oc ?_
 all_goals (first | refine x_pt ?_ | refine x_pf ?_ | refine x_pb ?_)
 all_goals refine oc (x_move ?_)
 all_goals (first | refine gU ?_ | refine gY ?_ | refine gN ?_ | refine ops_guardFd rfl rfl rfl rfl rfl rfl (fun hg => ?_) (fun hg => ?_) | refine gF (fun hg => ?_) (fun hg => ?_))
 all_goals try (exfalso; omega)
 all_goals (first | refine ops_here ?_ | (first | refine x_fa0 ?_ | refine x_far0 ?_ | refine x_fa ?_ | refine x_far ?_))
 all_goals (first | refine gU ?_ | refine gY ?_ | refine gN ?_ | refine ops_guardFd rfl rfl rfl rfl rfl rfl (fun hg => ?_) (fun hg => ?_) | refine gF (fun hg => ?_) (fun hg => ?_))
 all_goals try (exfalso; omega)
 all_goals (first | refine ops_here ?_ | (first | refine x_ld ?_ | refine x_ldr ?_))
 all_goals (first | refine gU ?_ | refine gY ?_ | refine gN ?_ | refine ops_guardFd rfl rfl rfl rfl rfl rfl (fun hg => ?_) (fun hg => ?_) | refine gF (fun hg => ?_) (fun hg => ?_))
 all_goals try (exfalso; omega)
 all_goals (first | refine ops_here ?_ | (first | refine x_fa0 ?_ | refine x_far0 ?_ | refine x_fa ?_ | refine x_far ?_))
 all_goals (first | refine gU ?_ | refine gY ?_ | refine gN ?_ | refine ops_guardFd rfl rfl rfl rfl rfl rfl (fun hg => ?_) (fun hg => ?_) | refine gF (fun hg => ?_) (fun hg => ?_))
 all_goals try (exfalso; omega)
 all_goals (first | refine ops_here ?_ | (first | refine x_ld ?_ | refine x_ldr ?_))
 all_goals (first | refine gU ?_ | refine gY ?_ | refine gN ?_ | refine ops_guardFd rfl rfl rfl rfl rfl rfl (fun hg => ?_) (fun hg => ?_) | refine gF (fun hg => ?_) (fun hg => ?_))
 all_goals try (exfalso; omega)
 all_goals (first | refine ops_here ?_ | (refine x_sneq ?_))
 all_goals refine oc ?_
 all_goals (first | refine x_pt ?_ | refine x_pf ?_ | refine x_pb ?_)
 all_goals refine oc (x_move ?_)
 all_goals (first | refine gU ?_ | refine gY ?_ | refine gN ?_ | refine ops_guardFd rfl rfl rfl rfl rfl rfl (fun hg => ?_) (fun hg => ?_) | refine gF (fun hg => ?_) (fun hg => ?_))
 all_goals try (exfalso; omega)
 all_goals (first | refine ops_here ?_ | (first | refine x_fa0 ?_ | refine x_far0 ?_ | refine x_fa ?_ | refine x_far ?_))
 all_goals (first | refine gU ?_ | refine gY ?_ | refine gN ?_ | refine ops_guardFd rfl rfl rfl rfl rfl rfl (fun hg => ?_) (fun hg => ?_) | refine gF (fun hg => ?_) (fun hg => ?_))
 all_goals try (exfalso; omega)
 all_goals (first | refine ops_here ?_ | (first | refine x_ld ?_ | refine x_ldr ?_))
 all_goals (first | refine gU ?_ | refine gY ?_ | refine gN ?_ | refine ops_guardFd rfl rfl rfl rfl rfl rfl (fun hg => ?_) (fun hg => ?_) | refine gF (fun hg => ?_) (fun hg => ?_))
 all_goals try (exfalso; omega)
 all_goals (first | refine ops_here ?_ | (first | refine x_fa0 ?_ | refine x_far0 ?_ | refine x_fa ?_ | refine x_far ?_))
 all_goals (first | refine gU ?_ | refine gY ?_ | refine gN ?_ | refine ops_guardFd rfl rfl rfl rfl rfl rfl (fun hg => ?_) (fun hg => ?_) | refine gF (fun hg => ?_) (fun hg => ?_))
 all_goals try (exfalso; omega)
 all_goals (first | refine ops_here ?_ | (first | refine x_ld ?_ | refine x_ldr ?_))
 all_goals (first | refine gU ?_ | refine gY ?_ | refine gN ?_ | refine ops_guardFd rfl rfl rfl rfl rfl rfl (fun hg => ?_) (fun hg => ?_) | refine gF (fun hg => ?_) (fun hg => ?_))
 all_goals try (exfalso; omega)
 all_goals (first | refine ops_here ?_ | (refine x_sneq ?_))
 all_goals refine oc ?_
 all_goals (first | refine x_pt ?_ | refine x_pf ?_ | refine x_pb ?_)
 all_goals refine oc (x_move ?_)
 all_goals (first | refine gU ?_ | refine gY ?_ | refine gN ?_ | refine ops_guardFd rfl rfl rfl rfl rfl rfl (fun hg => ?_) (fun hg => ?_) | refine gF (fun hg => ?_) (fun hg => ?_))
 all_goals try (exfalso; omega)
 all_goals (first | refine ops_here ?_ | (first | refine x_fa0 ?_ | refine x_far0 ?_ | refine x_fa ?_ | refine x_far ?_))
 all_goals (first | refine gU ?_ | refine gY ?_ | refine gN ?_ | refine ops_guardFd rfl rfl rfl rfl rfl rfl (fun hg => ?_) (fun hg => ?_) | refine gF (fun hg => ?_) (fun hg => ?_))
 all_goals try (exfalso; omega)
 all_goals (first | refine ops_here ?_ | (first | refine x_ld ?_ | refine x_ldr ?_))
 all_goals (first | refine gU ?_ | refine gY ?_ | refine gN ?_ | refine ops_guardFd rfl rfl rfl rfl rfl rfl (fun hg => ?_) (fun hg => ?_) | refine gF (fun hg => ?_) (fun hg => ?_))
 all_goals try (exfalso; omega)
 all_goals (first | refine ops_here ?_ | (first | refine op_len_sl rfl (by first | (conv => lhs; simp only [List.length_map, bytesAV_length]) | rfl) rfl rfl rfl ?_ | refine x_leno ?_ | refine x_lenn ?_))
 all_goals (first | refine gU ?_ | refine gY ?_ | refine gN ?_ | refine ops_guardFd rfl rfl rfl rfl rfl rfl (fun hg => ?_) (fun hg => ?_) | refine gF (fun hg => ?_) (fun hg => ?_))
 all_goals try (exfalso; omega)
 all_goals (first | refine ops_here ?_ | (first | refine x_fa0 ?_ | refine x_far0 ?_ | refine x_fa ?_ | refine x_far ?_))
 all_goals (first | refine gU ?_ | refine gY ?_ | refine gN ?_ | refine ops_guardFd rfl rfl rfl rfl rfl rfl (fun hg => ?_) (fun hg => ?_) | refine gF (fun hg => ?_) (fun hg => ?_))
 all_goals try (exfalso; omega)
 all_goals (first | refine ops_here ?_ | (first | refine x_ld ?_ | refine x_ldr ?_))
 all_goals (first | refine gU ?_ | refine gY ?_ | refine gN ?_ | refine ops_guardFd rfl rfl rfl rfl rfl rfl (fun hg => ?_) (fun hg => ?_) | refine gF (fun hg => ?_) (fun hg => ?_))
 all_goals try (exfalso; omega)
 all_goals (first | refine ops_here ?_ | (first | refine op_len_sl rfl (by first | (conv => lhs; simp only [List.length_map, bytesAV_length]) | rfl) rfl rfl rfl ?_ | refine x_leno ?_ | refine x_lenn ?_))
 all_goals (first | refine gU ?_ | refine gY ?_ | refine gN ?_ | refine ops_guardFd rfl rfl rfl rfl rfl rfl (fun hg => ?_) (fun hg => ?_) | refine gF (fun hg => ?_) (fun hg => ?_))
 all_goals try (exfalso; omega)
 all_goals (first | refine ops_here ?_ | (refine x_neq ?_))
 all_goals refine oc ?_
 all_goals (first | refine x_pt ?_ | refine x_pf ?_ | refine x_pb ?_)
 all_goals refine ops_nil ?_
 all_goals refine seqQ_n ?_
 all_goals (
  first | refine tri_cond_d rfl rfl (fun hc => ?_) (fun hc => ?_) | refine ct (fun hc => ?_) (fun hc => ?_) | refine cf (fun hc => ?_) (fun hc => ?_) | refine cb (fun hc => ?_) (fun hc => ?_)
  focus
   try (exfalso; first | exact hc | omega)
   all_goals refine tri_seq ?_
   all_goals refine tri_region ?_
   all_goals refine oc (x_assign ?_)
   all_goals refine ops_nil ?_
   all_goals refine seqQ_n ?_
   all_goals refine tri_ret ?_
   all_goals refine seqQ_r ?_
   all_goals refine retE_r [] (.cons (.tmp (by conv => lhs; whnf) rfl) .nil) rfl rfl (by first | exact (ren_pure (by rfl)).trans (by conv => lhs; whnf) | ((conv => lhs; whnf); done) | rfl) (.nil) ?_
   all_goals (
    refine ⟨congrArg (fun b => AV.val (Value.bool b)) (Eq.symm ?_), rfl⟩
    first
    | exact sameC_data hx hy (sameV_no hc)
    | exact sameC_all (by omega) (by omega) (by omega) (by assumption) (by assumption) (by assumption) (by omega) hk (by omega)
    | (refine sameC_no fun e => ?_
       subst e; first | omega | simp_all))
  rotate_right 1
  focus
   try (exfalso; first | exact hc | omega)
   all_goals refine tri_skip ?_)
 all_goals refine seqQ_n ?_
 all_goals refine tri_seq ?_
 all_goals refine tri_seq ?_
 all_goals refine tri_region ?_
 all_goals refine oc (x_assign ?_)
 all_goals refine ops_nil ?_
 all_goals refine seqQ_n ?_
 all_goals refine tri_block ?_
 all_goals (
  refine tri_loop (X := { k : Nat // k ≤ a.data.length ∧ a.data.take k = b.data.take k }) (fun x => ⟨73, noM, [(2, .ptr 0 7 0 0), (3, .ptr 1 7 0 0), (5, iv x.1)], [.mk 26 true false 7 [cmdAV a], .mk 26 true false 7 [cmdAV b]]⟩) (fun x => a.data.length - x.1) (⟨0, by simp⟩) (by exact le_kept [0, 1] rfl rfl (fun _ _ h => by cases h) rfl ⟨by first | rfl | (simp; done) | (simp; omega) | (congr 2; omega), by first | rfl | (simp; done) | (simp; omega) | (congr 2; omega), by first | rfl | (simp; done) | (simp; omega) | (congr 2; omega), trivial⟩ ⟨by first | rfl | (simp; done) | (simp; omega) | (congr 2; omega), by first | rfl | (simp; done) | (simp; omega) | (congr 2; omega), trivial⟩) (fun x => ?_)
  obtain ⟨k, hkl, hk⟩ := x
  simp only
  all_goals refine tri_seq ?_
  all_goals refine tri_seq ?_
  all_goals refine tri_region ?_
  all_goals refine oc (x_move ?_)
  all_goals refine oc ?_
  all_goals (first | refine x_fa0 ?_ | refine x_far0 ?_ | refine x_fa ?_ | refine x_far ?_)
  all_goals refine oc ?_
  all_goals (first | refine x_ld ?_ | refine x_ldr ?_)
  all_goals refine oc ?_
  all_goals (first | refine op_len_sl rfl (by first | (conv => lhs; simp only [List.length_map, bytesAV_length]) | rfl) rfl rfl rfl ?_ | refine x_leno ?_ | refine x_lenn ?_)
  all_goals refine oc (x_lss ?_)
  all_goals refine ops_nil ?_
  all_goals refine seqQ_n ?_
  all_goals (
   first | refine tri_cond_d rfl rfl (fun hc => ?_) (fun hc => ?_) | refine ct (fun hc => ?_) (fun hc => ?_) | refine cf (fun hc => ?_) (fun hc => ?_) | refine cb (fun hc => ?_) (fun hc => ?_)
   focus
    try (exfalso; first | exact hc | omega)
    all_goals refine tri_skip ?_
   rotate_right 1
   focus
    try (exfalso; first | exact hc | omega)
    all_goals refine tri_exit ?_
    all_goals refine seqQ_x ?_
    all_goals refine seqQ_x ?_
    all_goals refine blockQ_x ?_
    all_goals refine seqQ_n ?_
    all_goals refine tri_seq ?_
    all_goals refine tri_region ?_
    all_goals refine oc (x_assign ?_)
    all_goals refine ops_nil ?_
    all_goals refine seqQ_n ?_
    all_goals refine tri_ret ?_
    all_goals refine retE_r [] (.cons (.tmp (by conv => lhs; whnf) rfl) .nil) rfl rfl (by first | exact (ren_pure (by rfl)).trans (by conv => lhs; whnf) | ((conv => lhs; whnf); done) | rfl) (.nil) ?_
    all_goals (
     refine ⟨congrArg (fun b => AV.val (Value.bool b)) (Eq.symm ?_), rfl⟩
     first
     | exact sameC_data hx hy (sameV_no hc)
     | exact sameC_all (by omega) (by omega) (by omega) (by assumption) (by assumption) (by assumption) (by omega) hk (by omega)
     | (refine sameC_no fun e => ?_
        subst e; first | omega | simp_all)))
  all_goals refine seqQ_n ?_
  all_goals refine tri_seq ?_
  all_goals refine tri_block ?_
  all_goals refine tri_seq ?_
  all_goals (
   obtain ⟨x, hx⟩ : ∃ x, a.data[k]? = some x := ⟨a.data[k]'(by omega), by simp⟩
   obtain ⟨y, hy⟩ : ∃ y, b.data[k]? = some y := ⟨b.data[k]'(by omega), by simp⟩
   have he : (a.data.map valAV)[k]? = some (valAV x) := by simp [hx]
   have he2 : (b.data.map valAV)[k]? = some (valAV y) := by simp [hy])
  all_goals (
   apply tri_anyCut (by rfl)
   focus
    all_goals refine x_tk 0 (opWF_fieldAddr rfl rfl rfl) ?_
    all_goals (first | refine x_fa0 ?_ | refine x_far0 ?_ | refine x_fa ?_ | refine x_far ?_)
    all_goals refine x_tk 2 (opWF_move) ?_
    all_goals (refine x_move ?_)
    all_goals refine x_tk 5 (opWF_fieldAddr rfl rfl rfl) ?_
    all_goals (first | refine x_fa0 ?_ | refine x_far0 ?_ | refine x_fa ?_ | refine x_far ?_)
    all_goals refine x_tk 7 (opWF_move) ?_
    all_goals (refine x_move ?_)
    all_goals (
     refine x_all2 1 6 ?_ ?_
     focus
      all_goals (first | refine x_ld ?_ | refine x_ldr ?_)
      all_goals refine x_tk 3 (opWF_indexAddr) ?_
      all_goals (first | refine x_ia ?_ | refine x_iao0 ?_ | refine x_iao ?_)
      all_goals (
       refine x_all2 4 6 ?_ ?_
       focus
        all_goals (first | refine x_lda ?_ | refine x_ldra ?_ | refine x_ldp ?_ | refine x_ldrp ?_)
        all_goals (
         refine x_all1 6 ?_
         focus
          all_goals (first | refine x_ld ?_ | refine x_ldr ?_)
          all_goals refine x_tk 8 (opWF_indexAddr) ?_
          all_goals (first | refine x_ia ?_ | refine x_iao0 ?_ | refine x_iao ?_)
          all_goals (
           refine x_all1 9 ?_
           focus
            all_goals (first | refine x_lda ?_ | refine x_ldra ?_ | refine x_ldp ?_ | refine x_ldrp ?_)
            all_goals (
             refine x_all1 10 ?_
             focus
              all_goals (refine op_st (by conv => lhs; whnf) (by conv => lhs; whnf) (by rfl) (by rfl) (by rfl) (by rfl) (by rfl) (by kernel_rfl) (by kernel_rfl) (by kernel_rfl) (by conv => lhs; whnf) (.int rfl rfl rfl rfl (.int rfl rfl rfl rfl (.str rfl rfl rfl rfl .nil))) (.inr ⟨rfl, rfl⟩) ?_)
              all_goals exact any_leaf (n := 73) [0, 1] [0, 1, 2, 3, 4, 5, 54, 59, 72] (by kernel_rfl) rfl rfl rfl (.c0 (.c0 (.c0 (.c0 (.c0 (.c0 (.c0 (.c0 (.c0 (.nil)))))))))) (.c0 (.c0 (.nil))))))
       focus
        all_goals (first | refine x_ld ?_ | refine x_ldr ?_)
        all_goals refine x_tk 8 (opWF_indexAddr) ?_
        all_goals (first | refine x_ia ?_ | refine x_iao0 ?_ | refine x_iao ?_)
        all_goals (
         refine x_all2 4 9 ?_ ?_
         focus
          all_goals (first | refine x_lda ?_ | refine x_ldra ?_ | refine x_ldp ?_ | refine x_ldrp ?_)
          all_goals (
           refine x_all1 9 ?_
           focus
            all_goals (first | refine x_lda ?_ | refine x_ldra ?_ | refine x_ldp ?_ | refine x_ldrp ?_)
            all_goals (
             refine x_all1 10 ?_
             focus
              all_goals (refine op_st (by conv => lhs; whnf) (by conv => lhs; whnf) (by rfl) (by rfl) (by rfl) (by rfl) (by rfl) (by kernel_rfl) (by kernel_rfl) (by kernel_rfl) (by conv => lhs; whnf) (.int rfl rfl rfl rfl (.int rfl rfl rfl rfl (.str rfl rfl rfl rfl .nil))) (.inr ⟨rfl, rfl⟩) ?_)
              all_goals exact any_leaf (n := 73) [0, 1] [0, 1, 2, 3, 4, 5, 54, 59, 72] (by kernel_rfl) rfl rfl rfl (.c0 (.c0 (.c0 (.c0 (.c0 (.c0 (.c0 (.c0 (.c0 (.nil)))))))))) (.c0 (.c0 (.nil)))))
         focus
          all_goals (first | refine x_lda ?_ | refine x_ldra ?_ | refine x_ldp ?_ | refine x_ldrp ?_)
          all_goals (
           refine x_all1 4 ?_
           focus
            all_goals (first | refine x_lda ?_ | refine x_ldra ?_ | refine x_ldp ?_ | refine x_ldrp ?_)
            all_goals (
             refine x_all1 10 ?_
             focus
              all_goals (refine op_st (by conv => lhs; whnf) (by conv => lhs; whnf) (by rfl) (by rfl) (by rfl) (by rfl) (by rfl) (by kernel_rfl) (by kernel_rfl) (by kernel_rfl) (by conv => lhs; whnf) (.int rfl rfl rfl rfl (.int rfl rfl rfl rfl (.str rfl rfl rfl rfl .nil))) (.inr ⟨rfl, rfl⟩) ?_)
              all_goals exact any_leaf (n := 73) [0, 1] [0, 1, 2, 3, 4, 5, 54, 59, 72] (by kernel_rfl) rfl rfl rfl (.c0 (.c0 (.c0 (.c0 (.c0 (.c0 (.c0 (.c0 (.c0 (.nil)))))))))) (.c0 (.c0 (.nil)))))))
     focus
      all_goals (first | refine x_ld ?_ | refine x_ldr ?_)
      all_goals refine x_tk 8 (opWF_indexAddr) ?_
      all_goals (first | refine x_ia ?_ | refine x_iao0 ?_ | refine x_iao ?_)
      all_goals (
       refine x_all2 1 9 ?_ ?_
       focus
        all_goals (first | refine x_ld ?_ | refine x_ldr ?_)
        all_goals refine x_tk 3 (opWF_indexAddr) ?_
        all_goals (first | refine x_ia ?_ | refine x_iao0 ?_ | refine x_iao ?_)
        all_goals (
         refine x_all2 4 9 ?_ ?_
         focus
          all_goals (first | refine x_lda ?_ | refine x_ldra ?_ | refine x_ldp ?_ | refine x_ldrp ?_)
          all_goals (
           refine x_all1 9 ?_
           focus
            all_goals (first | refine x_lda ?_ | refine x_ldra ?_ | refine x_ldp ?_ | refine x_ldrp ?_)
            all_goals (
             refine x_all1 10 ?_
             focus
              all_goals (refine op_st (by conv => lhs; whnf) (by conv => lhs; whnf) (by rfl) (by rfl) (by rfl) (by rfl) (by rfl) (by kernel_rfl) (by kernel_rfl) (by kernel_rfl) (by conv => lhs; whnf) (.int rfl rfl rfl rfl (.int rfl rfl rfl rfl (.str rfl rfl rfl rfl .nil))) (.inr ⟨rfl, rfl⟩) ?_)
              all_goals exact any_leaf (n := 73) [0, 1] [0, 1, 2, 3, 4, 5, 54, 59, 72] (by kernel_rfl) rfl rfl rfl (.c0 (.c0 (.c0 (.c0 (.c0 (.c0 (.c0 (.c0 (.c0 (.nil)))))))))) (.c0 (.c0 (.nil)))))
         focus
          all_goals (first | refine x_lda ?_ | refine x_ldra ?_ | refine x_ldp ?_ | refine x_ldrp ?_)
          all_goals (
           refine x_all1 4 ?_
           focus
            all_goals (first | refine x_lda ?_ | refine x_ldra ?_ | refine x_ldp ?_ | refine x_ldrp ?_)
            all_goals (
             refine x_all1 10 ?_
             focus
              all_goals (refine op_st (by conv => lhs; whnf) (by conv => lhs; whnf) (by rfl) (by rfl) (by rfl) (by rfl) (by rfl) (by kernel_rfl) (by kernel_rfl) (by kernel_rfl) (by conv => lhs; whnf) (.int rfl rfl rfl rfl (.int rfl rfl rfl rfl (.str rfl rfl rfl rfl .nil))) (.inr ⟨rfl, rfl⟩) ?_)
              all_goals exact any_leaf (n := 73) [0, 1] [0, 1, 2, 3, 4, 5, 54, 59, 72] (by kernel_rfl) rfl rfl rfl (.c0 (.c0 (.c0 (.c0 (.c0 (.c0 (.c0 (.c0 (.c0 (.nil)))))))))) (.c0 (.c0 (.nil))))))
       focus
        all_goals (first | refine x_lda ?_ | refine x_ldra ?_ | refine x_ldp ?_ | refine x_ldrp ?_)
        all_goals (
         refine x_all1 1 ?_
         focus
          all_goals (first | refine x_ld ?_ | refine x_ldr ?_)
          all_goals refine x_tk 3 (opWF_indexAddr) ?_
          all_goals (first | refine x_ia ?_ | refine x_iao0 ?_ | refine x_iao ?_)
          all_goals (
           refine x_all1 4 ?_
           focus
            all_goals (first | refine x_lda ?_ | refine x_ldra ?_ | refine x_ldp ?_ | refine x_ldrp ?_)
            all_goals (
             refine x_all1 10 ?_
             focus
              all_goals (refine op_st (by conv => lhs; whnf) (by conv => lhs; whnf) (by rfl) (by rfl) (by rfl) (by rfl) (by rfl) (by kernel_rfl) (by kernel_rfl) (by kernel_rfl) (by conv => lhs; whnf) (.int rfl rfl rfl rfl (.int rfl rfl rfl rfl (.str rfl rfl rfl rfl .nil))) (.inr ⟨rfl, rfl⟩) ?_)
              all_goals exact any_leaf (n := 73) [0, 1] [0, 1, 2, 3, 4, 5, 54, 59, 72] (by kernel_rfl) rfl rfl rfl (.c0 (.c0 (.c0 (.c0 (.c0 (.c0 (.c0 (.c0 (.c0 (.nil)))))))))) (.c0 (.c0 (.nil)))))))))
  all_goals refine seqQ_n ?_
  all_goals (
   first | refine tri_cond_d rfl rfl (fun hc => ?_) (fun hc => ?_) | refine ct (fun hc => ?_) (fun hc => ?_) | refine cf (fun hc => ?_) (fun hc => ?_) | refine cb (fun hc => ?_) (fun hc => ?_)
   focus
    try (exfalso; first | exact hc | omega)
    all_goals refine tri_seq ?_
    all_goals refine tri_region ?_
    all_goals refine oc (x_assign ?_)
    all_goals refine ops_nil ?_
    all_goals refine seqQ_n ?_
    all_goals refine tri_ret ?_
    all_goals refine blockQ_r ?_
    all_goals refine seqQ_r ?_
    all_goals refine seqQ_r ?_
    all_goals refine blockQ_r ?_
    all_goals refine seqQ_r ?_
    all_goals refine retE_r [] (.cons (.tmp (by conv => lhs; whnf) rfl) .nil) rfl rfl (by first | exact (ren_pure (by rfl)).trans (by conv => lhs; whnf) | ((conv => lhs; whnf); done) | rfl) (.nil) ?_
    all_goals (
     refine ⟨congrArg (fun b => AV.val (Value.bool b)) (Eq.symm ?_), rfl⟩
     first
     | exact sameC_data hx hy (sameV_no hc)
     | exact sameC_all (by omega) (by omega) (by omega) (by assumption) (by assumption) (by assumption) (by omega) hk (by omega)
     | (refine sameC_no fun e => ?_
        subst e; first | omega | simp_all))
   rotate_right 1
   focus
    try (exfalso; first | exact hc | omega)
    all_goals refine tri_skip ?_)
  all_goals refine blockQ_n ?_
  all_goals refine seqQ_n ?_
  all_goals refine tri_region ?_
  all_goals refine oc (x_move ?_)
  all_goals refine oc ?_
  all_goals (first | refine x_add64 ?_ | refine x_add ?_)
  all_goals refine oc (x_assign ?_)
  all_goals refine ops_nil ?_
  all_goals refine seqQ_n ?_
  all_goals (exact ⟨⟨k + 1, by omega, take_next hx hy (sameV hc) hk⟩, by dsimp only; omega, le_kept [0, 1] rfl rfl (fun _ _ h => by cases h) rfl ⟨by first | rfl | (simp; done) | (simp; omega) | (congr 2; omega), by first | rfl | (simp; done) | (simp; omega) | (congr 2; omega), by first | rfl | (simp; done) | (simp; omega) | (congr 2; omega), trivial⟩ ⟨by first | rfl | (simp; done) | (simp; omega) | (congr 2; omega), by first | rfl | (simp; done) | (simp; omega) | (congr 2; omega), trivial⟩⟩))

/-- the walk of slices.EqualFunc[[]casebook/api.Command,[]casebook/api.Command,casebook/api.Command,casebook/api.Command] -/
theorem eqC_w (a b : List Cmd) (ha : a.length ≤ 2 ^ 47) (hb : b.length ≤ 2 ^ 47) (hda : ∀ c ∈ a, c.data.length ≤ 2 ^ 47) (hdb : ∀ c ∈ b, c.data.length ≤ 2 ^ 47) : HSpec Try.prog 14 [.sl 7 (a.map cmdAV), .sl 7 (b.map cmdAV), .fn (.func 15) [] []] [] fun r H' _ => r = .val (.bool (sameL a b)) ∧ H' = [] := by
 refine hspec_intro Try.func14 rfl rfl ?_
 all_goals refine tri_seq ?_
 all_goals refine tri_region ?_
 all_goals refine oc (x_assign ?_)
 all_goals refine ops_nil ?_
 all_goals refine seqQ_n ?_
 all_goals refine tri_seq ?_
 all_goals refine tri_seq ?_
 all_goals refine tri_region ?_
 all_goals refine oc (x_move ?_)
 all_goals refine oc ?_
 all_goals (first | refine op_len_sl rfl (by first | (conv => lhs; simp only [List.length_map, bytesAV_length]) | rfl) rfl rfl rfl ?_ | refine x_leno ?_ | refine x_lenn ?_)
 all_goals refine oc (x_move ?_)
 all_goals refine oc ?_
 all_goals (first | refine op_len_sl rfl (by first | (conv => lhs; simp only [List.length_map, bytesAV_length]) | rfl) rfl rfl rfl ?_ | refine x_leno ?_ | refine x_lenn ?_)
 all_goals refine oc (x_neq ?_)
 all_goals refine ops_nil ?_
 all_goals refine seqQ_n ?_
 all_goals (
  first | refine tri_cond_d rfl rfl (fun hc => ?_) (fun hc => ?_) | refine ct (fun hc => ?_) (fun hc => ?_) | refine cf (fun hc => ?_) (fun hc => ?_) | refine cb (fun hc => ?_) (fun hc => ?_)
  focus
   try (exfalso; first | exact hc | omega)
   all_goals refine tri_seq ?_
   all_goals refine tri_region ?_
   all_goals refine oc (x_assign ?_)
   all_goals refine ops_nil ?_
   all_goals refine seqQ_n ?_
   all_goals refine tri_ret ?_
   all_goals refine seqQ_r ?_
   all_goals refine retE_r [] (.cons (.tmp (by conv => lhs; whnf) rfl) .nil) rfl rfl (by first | exact (ren_pure (by rfl)).trans (by conv => lhs; whnf) | ((conv => lhs; whnf); done) | rfl) (.nil) ?_
   all_goals (
    refine ⟨congrArg (fun b => AV.val (Value.bool b)) (Eq.symm ?_), rfl⟩
    first
    | exact sameL_len (by omega)
    | exact sameL_no hx hy hc
    | exact sameL_yes hk (by omega) (by omega))
  rotate_right 1
  focus
   try (exfalso; first | exact hc | omega)
   all_goals refine tri_skip ?_)
 all_goals refine seqQ_n ?_
 all_goals refine tri_seq ?_
 all_goals refine tri_seq ?_
 all_goals refine tri_region ?_
 all_goals refine oc (x_move ?_)
 all_goals refine oc ?_
 all_goals (first | refine op_len_sl rfl (by first | (conv => lhs; simp only [List.length_map, bytesAV_length]) | rfl) rfl rfl rfl ?_ | refine x_leno ?_ | refine x_lenn ?_)
 all_goals refine oc (x_move ?_)
 all_goals refine ops_nil ?_
 all_goals refine seqQ_n ?_
 all_goals refine tri_block ?_
 all_goals (
  refine tri_loop (X := { k : Nat // k ≤ a.length ∧ a.take k = b.take k }) (fun x => ⟨32, noM, [(0, .sl 7 (a.map cmdAV)), (1, .sl 7 (b.map cmdAV)), (2, .fn (.func 15) [] []), (15, .sl 7 (a.map cmdAV)), (16, iv a.length), (17, iv x.1)], []⟩) (fun x => a.length - x.1) (⟨0, by simp⟩) (by exact le_kept [] rfl rfl (fun _ _ h => by cases h) rfl ⟨by first | rfl | (simp; done) | (simp; omega) | (congr 2; omega), by first | rfl | (simp; done) | (simp; omega) | (congr 2; omega), by first | rfl | (simp; done) | (simp; omega) | (congr 2; omega), by first | rfl | (simp; done) | (simp; omega) | (congr 2; omega), by first | rfl | (simp; done) | (simp; omega) | (congr 2; omega), by first | rfl | (simp; done) | (simp; omega) | (congr 2; omega), trivial⟩ trivial) (fun x => ?_)
  obtain ⟨k, hkl, hk⟩ := x
  simp only
  all_goals refine tri_seq ?_
  all_goals refine tri_region ?_
  all_goals refine oc (x_lss ?_)
  all_goals refine ops_nil ?_
  all_goals refine seqQ_n ?_
  all_goals refine tri_seq ?_
  all_goals (
   first | refine tri_cond_d rfl rfl (fun hc => ?_) (fun hc => ?_) | refine ct (fun hc => ?_) (fun hc => ?_) | refine cf (fun hc => ?_) (fun hc => ?_) | refine cb (fun hc => ?_) (fun hc => ?_)
   focus
    try (exfalso; first | exact hc | omega)
    all_goals refine tri_skip ?_
   rotate_right 1
   focus
    try (exfalso; first | exact hc | omega)
    all_goals refine tri_exit ?_
    all_goals refine seqQ_x ?_
    all_goals refine seqQ_x ?_
    all_goals refine blockQ_x ?_
    all_goals refine seqQ_n ?_
    all_goals refine tri_seq ?_
    all_goals refine tri_region ?_
    all_goals refine oc (x_assign ?_)
    all_goals refine ops_nil ?_
    all_goals refine seqQ_n ?_
    all_goals refine tri_ret ?_
    all_goals refine retE_r [] (.cons (.tmp (by conv => lhs; whnf) rfl) .nil) rfl rfl (by first | exact (ren_pure (by rfl)).trans (by conv => lhs; whnf) | ((conv => lhs; whnf); done) | rfl) (.nil) ?_
    all_goals (
     refine ⟨congrArg (fun b => AV.val (Value.bool b)) (Eq.symm ?_), rfl⟩
     first
     | exact sameL_len (by omega)
     | exact sameL_no hx hy hc
     | exact sameL_yes hk (by omega) (by omega)))
  all_goals refine seqQ_n ?_
  all_goals refine tri_seq ?_
  all_goals refine tri_block ?_
  all_goals refine tri_seq ?_
  all_goals refine tri_region ?_
  all_goals refine oc (x_move ?_)
  all_goals (
   obtain ⟨x, hx⟩ : ∃ x, a[k]? = some x := ⟨a[k]'(by omega), by simp⟩
   obtain ⟨y, hy⟩ : ∃ y, b[k]? = some y := ⟨b[k]'(by omega), by simp⟩
   have he : (a.map cmdAV)[k]? = some (cmdAV x) := by simp [hx]
   have he2 : (b.map cmdAV)[k]? = some (cmdAV y) := by simp [hy])
  all_goals refine oc ?_
  all_goals (first | refine x_ia ?_ | refine x_iao0 ?_ | refine x_iao ?_)
  all_goals refine oc ?_
  all_goals (first | refine x_lda ?_ | refine x_ldra ?_ | refine x_ldp ?_ | refine x_ldrp ?_)
  all_goals refine oc (x_al 7 ?_)
  all_goals refine oc (x_assign ?_)
  all_goals refine oc (x_st7 ?_)
  all_goals refine ops_nil ?_
  all_goals refine seqQ_n ?_
  all_goals refine tri_seq ?_
  all_goals refine tri_region ?_
  all_goals refine oc (x_move ?_)
  all_goals refine oc (x_move ?_)
  all_goals refine oc ?_
  all_goals (first | refine x_ia ?_ | refine x_iao0 ?_ | refine x_iao ?_)
  all_goals refine oc ?_
  all_goals (first | refine x_lda ?_ | refine x_ldra ?_ | refine x_ldp ?_ | refine x_ldrp ?_)
  all_goals refine oc (x_al 7 ?_)
  all_goals refine oc (x_st7 ?_)
  all_goals refine ops_nil ?_
  all_goals refine seqQ_n ?_
  all_goals refine tri_seq ?_
  all_goals refine tri_region ?_
  all_goals refine oc (x_move ?_)
  all_goals refine oc ?_
  all_goals (first | refine x_lda ?_ | refine x_ldra ?_ | refine x_ldp ?_ | refine x_ldrp ?_)
  all_goals refine oc ?_
  all_goals (first | refine x_lda ?_ | refine x_ldra ?_ | refine x_ldp ?_ | refine x_ldrp ?_)
  all_goals refine oc ?_
  all_goals (refine op_callA rfl rfl rfl rfl rfl ⟨_, Try.func15, by decide, rfl⟩ (.cons (.pure rfl) (.cons (.pure rfl) .nil)) (sameC_w x y (hda x (List.mem_of_getElem? hx)) (hdb y (List.mem_of_getElem? hy))) shut0 ?_)
  all_goals (rintro _ H' m ⟨rfl, rfl⟩)
  all_goals refine oc ?_
  all_goals (first | refine op_not_d rfl rfl rfl ?_ | refine x_not ?_)
  all_goals refine ops_nil ?_
  all_goals refine seqQ_n ?_
  all_goals (
   first | refine tri_cond_d rfl rfl (fun hc => ?_) (fun hc => ?_) | refine ct (fun hc => ?_) (fun hc => ?_) | refine cf (fun hc => ?_) (fun hc => ?_) | refine cb (fun hc => ?_) (fun hc => ?_)
   focus
    try (exfalso; first | exact hc | omega)
    all_goals refine tri_seq ?_
    all_goals refine tri_region ?_
    all_goals refine oc (x_assign ?_)
    all_goals refine ops_nil ?_
    all_goals refine seqQ_n ?_
    all_goals refine tri_ret ?_
    all_goals refine blockQ_r ?_
    all_goals refine seqQ_r ?_
    all_goals refine seqQ_r ?_
    all_goals refine blockQ_r ?_
    all_goals refine seqQ_r ?_
    all_goals refine retE_r [] (.cons (.tmp (by conv => lhs; whnf) rfl) .nil) rfl rfl (by first | exact (ren_pure (by rfl)).trans (by conv => lhs; whnf) | ((conv => lhs; whnf); done) | rfl) (.nil) ?_
    all_goals (
     refine ⟨congrArg (fun b => AV.val (Value.bool b)) (Eq.symm ?_), rfl⟩
     first
     | exact sameL_len (by omega)
     | exact sameL_no hx hy hc
     | exact sameL_yes hk (by omega) (by omega))
   rotate_right 1
   focus
    try (exfalso; first | exact hc | omega)
    all_goals refine tri_skip ?_)
  all_goals refine blockQ_n ?_
  all_goals refine seqQ_n ?_
  all_goals refine tri_region ?_
  all_goals refine oc ?_
  all_goals (first | refine x_add64 ?_ | refine x_add ?_)
  all_goals refine oc (x_move ?_)
  all_goals refine ops_nil ?_
  all_goals refine seqQ_n ?_
  all_goals (exact ⟨⟨k + 1, by omega, take_next hx hy (of_sameC hc) hk⟩, by dsimp only; omega, le_kept [] rfl rfl (fun _ _ h => by cases h) rfl ⟨by first | rfl | (simp; done) | (simp; omega) | (congr 2; omega), by first | rfl | (simp; done) | (simp; omega) | (congr 2; omega), by first | rfl | (simp; done) | (simp; omega) | (congr 2; omega), by first | rfl | (simp; done) | (simp; omega) | (congr 2; omega), by first | rfl | (simp; done) | (simp; omega) | (congr 2; omega), by first | rfl | (simp; done) | (simp; omega) | (congr 2; omega), trivial⟩ trivial⟩))

end Go.Proofs.Ytjalgcjllddmhaa

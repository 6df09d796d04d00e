/- A text of the proof of JournalTorn: JW4 -/
import Derived.Test.YtjalgcjllddmhaaProg
import Derived.Test.YtjalgcjllddmhaaAvShort
import Derived.Test.YtjalgcjllddmhaaAvAppS
import Derived.Test.YtjalgcjllddmhaaAvSnap
import Derived.Test.YtjalgcjllddmhaaAvAny
import Derived.Test.YtjalgcjllddmhaaAvLit
import Derived.Test.YtjalgcjllddmhaaJName

set_option linter.unusedSimpArgs false
set_option linter.unusedVariables false
set_option maxHeartbeats 8000000
set_option maxRecDepth 100000
namespace Go.Proofs.Ytjalgcjllddmhaa
open Go.Av
/-- the walk of casebook/name.letter -/
theorem letter_w (n : Int) : HSpec Try.prog 43 [.val (.int .u8 n)] [] fun r H' _ => r = .val (.bool (isLetter n)) ∧ H' = [] := by
 refine hspec_intro Try.func43 rfl rfl ?_
 all_goals refine tri_seq ?_
 all_goals refine tri_region ?_
 all_goals refine oc (x_assign ?_)
 all_goals refine ops_nil ?_
 all_goals refine seqQ_n ?_
 all_goals refine tri_seq ?_
 all_goals refine tri_region ?_
 all_goals refine oc (x_move ?_)
 all_goals refine oc (x_geq ?_)
 all_goals refine oc (x_move ?_)
 all_goals (first | refine gU ?_ | refine gY ?_ | refine gN ?_ | refine ops_guardTd rfl rfl rfl rfl rfl rfl (fun hg => ?_) (fun hg => ?_) | refine gT (fun hg => ?_) (fun hg => ?_))
 all_goals try (exfalso; omega)
 all_goals (first | refine ops_here ?_ | (refine x_move ?_))
 all_goals (first | refine gU ?_ | refine gY ?_ | refine gN ?_ | refine ops_guardTd rfl rfl rfl rfl rfl rfl (fun hg => ?_) (fun hg => ?_) | refine gT (fun hg => ?_) (fun hg => ?_))
 all_goals try (exfalso; omega)
 all_goals (first | refine ops_here ?_ | (refine x_leq ?_))
 all_goals refine oc ?_
 all_goals (first | refine x_pt ?_ | refine x_pf ?_ | refine x_pb ?_)
 all_goals refine oc (x_move ?_)
 all_goals (first | refine gU ?_ | refine gY ?_ | refine gN ?_ | refine ops_guardFd rfl rfl rfl rfl rfl rfl (fun hg => ?_) (fun hg => ?_) | refine gF (fun hg => ?_) (fun hg => ?_))
 all_goals try (exfalso; omega)
 all_goals (first | refine ops_here ?_ | (refine x_move ?_))
 all_goals (first | refine gU ?_ | refine gY ?_ | refine gN ?_ | refine ops_guardFd rfl rfl rfl rfl rfl rfl (fun hg => ?_) (fun hg => ?_) | refine gF (fun hg => ?_) (fun hg => ?_))
 all_goals try (exfalso; omega)
 all_goals (first | refine ops_here ?_ | (refine x_geq ?_))
 all_goals (first | refine gU ?_ | refine gY ?_ | refine gN ?_ | refine ops_guardFd rfl rfl rfl rfl rfl rfl (fun hg => ?_) (fun hg => ?_) | refine gF (fun hg => ?_) (fun hg => ?_))
 all_goals try (exfalso; omega)
 all_goals (first | refine ops_here ?_ | (refine x_move ?_))
 all_goals (first | refine gU ?_ | refine gY ?_ | refine gN ?_ | refine ops_guardTd rfl rfl rfl rfl rfl rfl (fun hg => ?_) (fun hg => ?_) | refine gT (fun hg => ?_) (fun hg => ?_))
 all_goals try (exfalso; omega)
 all_goals (first | refine ops_here ?_ | (refine x_move ?_))
 all_goals (first | refine gU ?_ | refine gY ?_ | refine gN ?_ | refine ops_guardTd rfl rfl rfl rfl rfl rfl (fun hg => ?_) (fun hg => ?_) | refine gT (fun hg => ?_) (fun hg => ?_))
 all_goals try (exfalso; omega)
 all_goals (first | refine ops_here ?_ | (refine x_leq ?_))
 all_goals (first | refine gU ?_ | refine gY ?_ | refine gN ?_ | refine ops_guardFd rfl rfl rfl rfl rfl rfl (fun hg => ?_) (fun hg => ?_) | refine gF (fun hg => ?_) (fun hg => ?_))
 all_goals try (exfalso; omega)
 all_goals (first | refine ops_here ?_ | (first | refine x_pt ?_ | refine x_pf ?_ | refine x_pb ?_))
 all_goals refine oc ?_
 all_goals (first | refine x_pt ?_ | refine x_pf ?_ | refine x_pb ?_)
 all_goals refine oc (x_assign ?_)
 all_goals refine ops_nil ?_
 all_goals refine seqQ_n ?_
 all_goals refine tri_ret ?_
 all_goals refine retE_r [] (.cons (.tmp (by conv => lhs; whnf) rfl) .nil) rfl rfl (by first | exact (ren_pure (by rfl)).trans (by conv => lhs; whnf) | ((conv => lhs; whnf); done) | rfl) (.nil) ?_
 all_goals (refine ⟨?_, rfl⟩; congr 2; rw [Bool.eq_iff_iff]; simp [isLetter, *]; try omega)

/-- the walk of casebook/name.part -/
theorem part_w (n : Int) : HSpec Try.prog 44 [.val (.int .u8 n)] [] fun r H' _ => r = .val (.bool (isPart n)) ∧ H' = [] := by
 refine hspec_intro Try.func44 rfl rfl ?_
 all_goals refine tri_seq ?_
 all_goals refine tri_region ?_
 all_goals refine oc (x_assign ?_)
 all_goals refine ops_nil ?_
 all_goals refine seqQ_n ?_
 all_goals refine tri_seq ?_
 all_goals refine tri_region ?_
 all_goals refine oc (x_move ?_)
 all_goals refine oc ?_
 all_goals (refine op_callA rfl rfl rfl rfl rfl ⟨_, Try.func43, by decide, rfl⟩ (.cons (.pure rfl) .nil) (letter_w _) shut0 ?_; rintro r H' m ⟨rfl, rfl⟩)
 all_goals refine oc (x_move ?_)
 all_goals (first | refine gU ?_ | refine gY ?_ | refine gN ?_ | refine ops_guardFd rfl rfl rfl rfl rfl rfl (fun hg => ?_) (fun hg => ?_) | refine gF (fun hg => ?_) (fun hg => ?_))
 all_goals try (exfalso; omega)
 all_goals (first | refine ops_here ?_ | (refine x_move ?_))
 all_goals (first | refine gU ?_ | refine gY ?_ | refine gN ?_ | refine ops_guardFd rfl rfl rfl rfl rfl rfl (fun hg => ?_) (fun hg => ?_) | refine gF (fun hg => ?_) (fun hg => ?_))
 all_goals try (exfalso; omega)
 all_goals (first | refine ops_here ?_ | (refine x_geq ?_))
 all_goals (first | refine gU ?_ | refine gY ?_ | refine gN ?_ | refine ops_guardFd rfl rfl rfl rfl rfl rfl (fun hg => ?_) (fun hg => ?_) | refine gF (fun hg => ?_) (fun hg => ?_))
 all_goals try (exfalso; omega)
 all_goals (first | refine ops_here ?_ | (refine x_move ?_))
 all_goals (first | refine gU ?_ | refine gY ?_ | refine gN ?_ | refine ops_guardTd rfl rfl rfl rfl rfl rfl (fun hg => ?_) (fun hg => ?_) | refine gT (fun hg => ?_) (fun hg => ?_))
 all_goals try (exfalso; omega)
 all_goals (first | refine ops_here ?_ | (refine x_move ?_))
 all_goals (first | refine gU ?_ | refine gY ?_ | refine gN ?_ | refine ops_guardTd rfl rfl rfl rfl rfl rfl (fun hg => ?_) (fun hg => ?_) | refine gT (fun hg => ?_) (fun hg => ?_))
 all_goals try (exfalso; omega)
 all_goals (first | refine ops_here ?_ | (refine x_leq ?_))
 all_goals (first | refine gU ?_ | refine gY ?_ | refine gN ?_ | refine ops_guardFd rfl rfl rfl rfl rfl rfl (fun hg => ?_) (fun hg => ?_) | refine gF (fun hg => ?_) (fun hg => ?_))
 all_goals try (exfalso; omega)
 all_goals (first | refine ops_here ?_ | (first | refine x_pt ?_ | refine x_pf ?_ | refine x_pb ?_))
 all_goals refine oc ?_
 all_goals (first | refine x_pt ?_ | refine x_pf ?_ | refine x_pb ?_)
 all_goals refine oc (x_move ?_)
 all_goals (first | refine gU ?_ | refine gY ?_ | refine gN ?_ | refine ops_guardFd rfl rfl rfl rfl rfl rfl (fun hg => ?_) (fun hg => ?_) | refine gF (fun hg => ?_) (fun hg => ?_))
 all_goals try (exfalso; omega)
 all_goals (first | refine ops_here ?_ | (refine x_move ?_))
 all_goals (first | refine gU ?_ | refine gY ?_ | refine gN ?_ | refine ops_guardFd rfl rfl rfl rfl rfl rfl (fun hg => ?_) (fun hg => ?_) | refine gF (fun hg => ?_) (fun hg => ?_))
 all_goals try (exfalso; omega)
 all_goals (first | refine ops_here ?_ | (refine x_eql ?_))
 all_goals refine oc ?_
 all_goals (first | refine x_pt ?_ | refine x_pf ?_ | refine x_pb ?_)
 all_goals refine oc (x_move ?_)
 all_goals (first | refine gU ?_ | refine gY ?_ | refine gN ?_ | refine ops_guardFd rfl rfl rfl rfl rfl rfl (fun hg => ?_) (fun hg => ?_) | refine gF (fun hg => ?_) (fun hg => ?_))
 all_goals try (exfalso; omega)
 all_goals (first | refine ops_here ?_ | (refine x_move ?_))
 all_goals (first | refine gU ?_ | refine gY ?_ | refine gN ?_ | refine ops_guardFd rfl rfl rfl rfl rfl rfl (fun hg => ?_) (fun hg => ?_) | refine gF (fun hg => ?_) (fun hg => ?_))
 all_goals try (exfalso; omega)
 all_goals (first | refine ops_here ?_ | (refine x_eql ?_))
 all_goals refine oc ?_
 all_goals (first | refine x_pt ?_ | refine x_pf ?_ | refine x_pb ?_)
 all_goals refine oc (x_move ?_)
 all_goals (first | refine gU ?_ | refine gY ?_ | refine gN ?_ | refine ops_guardFd rfl rfl rfl rfl rfl rfl (fun hg => ?_) (fun hg => ?_) | refine gF (fun hg => ?_) (fun hg => ?_))
 all_goals try (exfalso; omega)
 all_goals (first | refine ops_here ?_ | (refine x_move ?_))
 all_goals (first | refine gU ?_ | refine gY ?_ | refine gN ?_ | refine ops_guardFd rfl rfl rfl rfl rfl rfl (fun hg => ?_) (fun hg => ?_) | refine gF (fun hg => ?_) (fun hg => ?_))
 all_goals try (exfalso; omega)
 all_goals (first | refine ops_here ?_ | (refine x_eql ?_))
 all_goals refine oc ?_
 all_goals (first | refine x_pt ?_ | refine x_pf ?_ | refine x_pb ?_)
 all_goals refine oc (x_assign ?_)
 all_goals refine ops_nil ?_
 all_goals refine seqQ_n ?_
 all_goals refine tri_ret ?_
 all_goals refine retE_r [] (.cons (.tmp (by conv => lhs; whnf) rfl) .nil) rfl rfl (by first | exact (ren_pure (by rfl)).trans (by conv => lhs; whnf) | ((conv => lhs; whnf); done) | rfl) (.nil) ?_
 all_goals (refine ⟨?_, rfl⟩; congr 2; rw [Bool.eq_iff_iff]; simp [isPart, *]; try omega)

/-- the walk of casebook/name.IsName -/
theorem isName_w (s : ByteArray) (hs : s.size ≤ 9223372036854775807) : HSpec Try.prog 33 [sv s] [] fun r H' _ => r = .val (.bool (isName s.data.toList)) ∧ H' = [] := by
 refine hspec_intro Try.func33 rfl rfl ?_
 all_goals refine tri_seq ?_
 all_goals refine tri_region ?_
 all_goals refine oc (x_assign ?_)
 all_goals refine ops_nil ?_
 all_goals refine seqQ_n ?_
 all_goals refine tri_seq ?_
 all_goals refine tri_seq ?_
 all_goals refine tri_region ?_
 all_goals refine oc (x_move ?_)
 all_goals refine oc (x_lens ?_)
 all_goals refine oc (x_lss ?_)
 all_goals refine oc (x_move ?_)
 all_goals (first | refine gU ?_ | refine gY ?_ | refine gN ?_ | refine ops_guardFd rfl rfl rfl rfl rfl rfl (fun hg => ?_) (fun hg => ?_) | refine gF (fun hg => ?_) (fun hg => ?_))
 all_goals try (exfalso; omega)
 all_goals (first | refine ops_here ?_ | (refine x_move ?_))
 all_goals (first | refine gU ?_ | refine gY ?_ | refine gN ?_ | refine ops_guardFd rfl rfl rfl rfl rfl rfl (fun hg => ?_) (fun hg => ?_) | refine gF (fun hg => ?_) (fun hg => ?_))
 all_goals try (exfalso; omega)
 all_goals (first | refine ops_here ?_ | (refine x_lens ?_))
 all_goals (first | refine gU ?_ | refine gY ?_ | refine gN ?_ | refine ops_guardFd rfl rfl rfl rfl rfl rfl (fun hg => ?_) (fun hg => ?_) | refine gF (fun hg => ?_) (fun hg => ?_))
 all_goals try (exfalso; omega)
 all_goals (first | refine ops_here ?_ | (refine x_gtr ?_))
 all_goals refine oc ?_
 all_goals (first | refine x_pt ?_ | refine x_pf ?_ | refine x_pb ?_)
 all_goals refine oc (x_move ?_)
 all_goals (first | refine gU ?_ | refine gY ?_ | refine gN ?_ | refine ops_guardFd rfl rfl rfl rfl rfl rfl (fun hg => ?_) (fun hg => ?_) | refine gF (fun hg => ?_) (fun hg => ?_))
 all_goals try (exfalso; omega)
 all_goals (first | refine ops_here ?_ | (refine x_move ?_))
 all_goals (first | refine gU ?_ | refine gY ?_ | refine gN ?_ | refine ops_guardFd rfl rfl rfl rfl rfl rfl (fun hg => ?_) (fun hg => ?_) | refine gF (fun hg => ?_) (fun hg => ?_))
 all_goals try (exfalso; omega)
 all_goals (first | refine ops_here ?_ | (refine x_ixs ?_))
 all_goals (first | refine gU ?_ | refine gY ?_ | refine gN ?_ | refine ops_guardFd rfl rfl rfl rfl rfl rfl (fun hg => ?_) (fun hg => ?_) | refine gF (fun hg => ?_) (fun hg => ?_))
 all_goals try (exfalso; omega)
 all_goals (first | refine ops_here ?_ | (refine op_callA rfl rfl rfl rfl rfl ⟨_, Try.func43, by decide, rfl⟩ (.cons (.pure rfl) .nil) (letter_w _) shut0 ?_; rintro r H' m ⟨rfl, rfl⟩))
 all_goals (first | refine gU ?_ | refine gY ?_ | refine gN ?_ | refine ops_guardFd rfl rfl rfl rfl rfl rfl (fun hg => ?_) (fun hg => ?_) | refine gF (fun hg => ?_) (fun hg => ?_))
 all_goals try (exfalso; omega)
 all_goals (first | refine ops_here ?_ | (first | refine op_not_d rfl rfl rfl ?_ | refine x_not ?_))
 all_goals refine oc ?_
 all_goals (first | refine x_pt ?_ | refine x_pf ?_ | refine x_pb ?_)
 all_goals refine ops_nil ?_
 all_goals refine seqQ_n ?_
 all_goals (
  first | refine tri_cond_d rfl rfl (fun hc => ?_) (fun hc => ?_) | refine ct (fun hc => ?_) (fun hc => ?_) | refine cf (fun hc => ?_) (fun hc => ?_) | refine cb (fun hc => ?_) (fun hc => ?_)
  focus
   try (exfalso; first | exact hc | omega)
   all_goals refine tri_seq ?_
   all_goals refine tri_region ?_
   all_goals refine oc (x_assign ?_)
   all_goals refine ops_nil ?_
   all_goals refine seqQ_n ?_
   all_goals refine tri_ret ?_
   all_goals refine seqQ_r ?_
   all_goals refine retE_r [] (.cons (.tmp (by conv => lhs; whnf) rfl) .nil) rfl rfl (by first | exact (ren_pure (by rfl)).trans (by conv => lhs; whnf) | ((conv => lhs; whnf); done) | rfl) (.nil) ?_
   all_goals (
    refine ⟨congrArg (fun b => AV.val (Value.bool b)) (Eq.symm ?_), rfl⟩
    first
    | exact isName_len (.inl (by assumption))
    | exact isName_len (.inr (by assumption))
    | exact isName_head hc
    | exact isName_part (by assumption) hc
    | exact isName_ok (by assumption) (by assumption) (by assumption) hc hall)
  rotate_right 1
  focus
   try (exfalso; first | exact hc | omega)
   all_goals refine tri_skip ?_)
 all_goals refine seqQ_n ?_
 all_goals refine tri_seq ?_
 all_goals refine tri_seq ?_
 all_goals refine tri_region ?_
 all_goals refine oc (x_move ?_)
 all_goals refine oc (x_lens ?_)
 all_goals refine oc (x_move ?_)
 all_goals refine ops_nil ?_
 all_goals refine seqQ_n ?_
 all_goals refine tri_block ?_
 all_goals (
  refine tri_loop (X := { k : Nat // k ≤ s.size ∧ ∀ j b, j < k → s.data.toList[j]? = some b → isPart b.toNat = true }) (fun x => ⟨29, noM, [(0, .val (.string s)), (19, .val (.int .i64 s.size)), (20, .val (.int .i64 x.1))], []⟩) (fun x => s.size - x.1) (⟨0, by simp⟩) (by exact le_kept [] rfl rfl (fun _ _ h => by cases h) rfl ⟨by first | rfl | (simp; done) | (simp; omega) | (congr 2; omega), by first | rfl | (simp; done) | (simp; omega) | (congr 2; omega), by first | rfl | (simp; done) | (simp; omega) | (congr 2; omega), trivial⟩ trivial) (fun x => ?_)
  obtain ⟨k, hk, hall⟩ := x
  simp only
  all_goals refine tri_seq ?_
  all_goals refine tri_region ?_
  all_goals refine oc (x_lss ?_)
  all_goals refine ops_nil ?_
  all_goals refine seqQ_n ?_
  all_goals refine tri_seq ?_
  all_goals (
   first | refine tri_cond_d rfl rfl (fun hc => ?_) (fun hc => ?_) | refine ct (fun hc => ?_) (fun hc => ?_) | refine cf (fun hc => ?_) (fun hc => ?_) | refine cb (fun hc => ?_) (fun hc => ?_)
   focus
    try (exfalso; first | exact hc | omega)
    all_goals refine tri_skip ?_
   rotate_right 1
   focus
    try (exfalso; first | exact hc | omega)
    all_goals refine tri_exit ?_
    all_goals refine seqQ_x ?_
    all_goals refine seqQ_x ?_
    all_goals refine blockQ_x ?_
    all_goals refine seqQ_n ?_
    all_goals refine tri_seq ?_
    all_goals refine tri_region ?_
    all_goals refine oc (x_assign ?_)
    all_goals refine ops_nil ?_
    all_goals refine seqQ_n ?_
    all_goals refine tri_ret ?_
    all_goals refine retE_r [] (.cons (.tmp (by conv => lhs; whnf) rfl) .nil) rfl rfl (by first | exact (ren_pure (by rfl)).trans (by conv => lhs; whnf) | ((conv => lhs; whnf); done) | rfl) (.nil) ?_
    all_goals (
     refine ⟨congrArg (fun b => AV.val (Value.bool b)) (Eq.symm ?_), rfl⟩
     first
     | exact isName_len (.inl (by assumption))
     | exact isName_len (.inr (by assumption))
     | exact isName_head hc
     | exact isName_part (by assumption) hc
     | exact isName_ok (by assumption) (by assumption) (by assumption) hc hall))
  all_goals refine seqQ_n ?_
  all_goals refine tri_seq ?_
  all_goals refine tri_block ?_
  all_goals refine tri_seq ?_
  all_goals refine tri_region ?_
  all_goals refine oc (x_move ?_)
  all_goals refine oc (x_assign ?_)
  all_goals refine ops_nil ?_
  all_goals refine seqQ_n ?_
  all_goals refine tri_seq ?_
  all_goals refine tri_region ?_
  all_goals refine oc (x_move ?_)
  all_goals refine oc (x_move ?_)
  all_goals refine oc (x_ixs ?_)
  all_goals refine oc ?_
  all_goals (refine op_callA rfl rfl rfl rfl rfl ⟨_, Try.func44, by decide, rfl⟩ (.cons (.pure rfl) .nil) (part_w _) shut0 ?_; rintro r H' m ⟨rfl, rfl⟩)
  all_goals refine oc ?_
  all_goals (first | refine op_not_d rfl rfl rfl ?_ | refine x_not ?_)
  all_goals refine ops_nil ?_
  all_goals refine seqQ_n ?_
  all_goals (
   first | refine tri_cond_d rfl rfl (fun hc => ?_) (fun hc => ?_) | refine ct (fun hc => ?_) (fun hc => ?_) | refine cf (fun hc => ?_) (fun hc => ?_) | refine cb (fun hc => ?_) (fun hc => ?_)
   focus
    try (exfalso; first | exact hc | omega)
    all_goals refine tri_seq ?_
    all_goals refine tri_region ?_
    all_goals refine oc (x_assign ?_)
    all_goals refine ops_nil ?_
    all_goals refine seqQ_n ?_
    all_goals refine tri_ret ?_
    all_goals refine blockQ_r ?_
    all_goals refine seqQ_r ?_
    all_goals refine seqQ_r ?_
    all_goals refine blockQ_r ?_
    all_goals refine seqQ_r ?_
    all_goals refine retE_r [] (.cons (.tmp (by conv => lhs; whnf) rfl) .nil) rfl rfl (by first | exact (ren_pure (by rfl)).trans (by conv => lhs; whnf) | ((conv => lhs; whnf); done) | rfl) (.nil) ?_
    all_goals (
     refine ⟨congrArg (fun b => AV.val (Value.bool b)) (Eq.symm ?_), rfl⟩
     first
     | exact isName_len (.inl (by assumption))
     | exact isName_len (.inr (by assumption))
     | exact isName_head hc
     | exact isName_part (by assumption) hc
     | exact isName_ok (by assumption) (by assumption) (by assumption) hc hall)
   rotate_right 1
   focus
    try (exfalso; first | exact hc | omega)
    all_goals refine tri_skip ?_)
  all_goals refine blockQ_n ?_
  all_goals refine seqQ_n ?_
  all_goals refine tri_region ?_
  all_goals refine oc ?_
  all_goals (first | refine x_add64 ?_ | refine x_add ?_)
  all_goals refine oc (x_move ?_)
  all_goals refine ops_nil ?_
  all_goals refine seqQ_n ?_
  all_goals (exact ⟨⟨k+1, by omega, isName_step hall (by simpa using hc)⟩, by dsimp only; omega, le_kept [] rfl rfl (fun _ _ h => by cases h) rfl ⟨by first | rfl | (simp; done) | (simp; omega) | (congr 2; omega), by first | rfl | (simp; done) | (simp; omega) | (congr 2; omega), by first | rfl | (simp; done) | (simp; omega) | (congr 2; omega), trivial⟩ trivial⟩))

/-- the walk of casebook/value.number -/
theorem vnum_w (n : Int) : HSpec Try.prog 45 [iv n] [] fun r H' _ => r = .val (.bool (isNumber n)) ∧ H' = [] := by
 refine hspec_intro Try.func45 rfl rfl ?_
 all_goals refine tri_seq ?_
 all_goals refine tri_region ?_
 all_goals refine oc (x_assign ?_)
 all_goals refine ops_nil ?_
 all_goals refine seqQ_n ?_
 all_goals refine tri_seq ?_
 all_goals refine tri_region ?_
 all_goals refine oc (x_move ?_)
 all_goals refine oc (x_geq ?_)
 all_goals refine oc (x_move ?_)
 all_goals (first | refine gU ?_ | refine gY ?_ | refine gN ?_ | refine ops_guardTd rfl rfl rfl rfl rfl rfl (fun hg => ?_) (fun hg => ?_) | refine gT (fun hg => ?_) (fun hg => ?_))
 all_goals try (exfalso; omega)
 all_goals (first | refine ops_here ?_ | (refine x_move ?_))
 all_goals (first | refine gU ?_ | refine gY ?_ | refine gN ?_ | refine ops_guardTd rfl rfl rfl rfl rfl rfl (fun hg => ?_) (fun hg => ?_) | refine gT (fun hg => ?_) (fun hg => ?_))
 all_goals try (exfalso; omega)
 all_goals (first | refine ops_here ?_ | (refine x_leq ?_))
 all_goals refine oc ?_
 all_goals (first | refine x_pt ?_ | refine x_pf ?_ | refine x_pb ?_)
 all_goals refine oc (x_assign ?_)
 all_goals refine ops_nil ?_
 all_goals refine seqQ_n ?_
 all_goals refine tri_ret ?_
 all_goals refine retE_r [] (.cons (.tmp (by conv => lhs; whnf) rfl) .nil) rfl rfl (by first | exact (ren_pure (by rfl)).trans (by conv => lhs; whnf) | ((conv => lhs; whnf); done) | rfl) (.nil) ?_
 all_goals (refine ⟨?_, rfl⟩; congr 2; rw [Bool.eq_iff_iff]; simp [isNumber, *]; try omega)

/-- the walk of casebook/value.text$1 -/
theorem vtextc_w (n : Int) : HSpec Try.prog 49 [.val (.int .u8 n)] [] fun r H' _ => r = .val (.bool (decide (n < 32) || decide (126 < n))) ∧ H' = [] := by
 refine hspec_intro Try.func49 rfl rfl ?_
 all_goals refine tri_seq ?_
 all_goals refine tri_region ?_
 all_goals refine oc (x_assign ?_)
 all_goals refine ops_nil ?_
 all_goals refine seqQ_n ?_
 all_goals refine tri_seq ?_
 all_goals refine tri_region ?_
 all_goals refine oc (x_move ?_)
 all_goals refine oc (x_lss ?_)
 all_goals refine oc (x_move ?_)
 all_goals (first | refine gU ?_ | refine gY ?_ | refine gN ?_ | refine ops_guardFd rfl rfl rfl rfl rfl rfl (fun hg => ?_) (fun hg => ?_) | refine gF (fun hg => ?_) (fun hg => ?_))
 all_goals try (exfalso; omega)
 all_goals (first | refine ops_here ?_ | (refine x_move ?_))
 all_goals (first | refine gU ?_ | refine gY ?_ | refine gN ?_ | refine ops_guardFd rfl rfl rfl rfl rfl rfl (fun hg => ?_) (fun hg => ?_) | refine gF (fun hg => ?_) (fun hg => ?_))
 all_goals try (exfalso; omega)
 all_goals (first | refine ops_here ?_ | (refine x_gtr ?_))
 all_goals refine oc ?_
 all_goals (first | refine x_pt ?_ | refine x_pf ?_ | refine x_pb ?_)
 all_goals refine oc (x_assign ?_)
 all_goals refine ops_nil ?_
 all_goals refine seqQ_n ?_
 all_goals refine tri_ret ?_
 all_goals refine retE_r [] (.cons (.tmp (by conv => lhs; whnf) rfl) .nil) rfl rfl (by first | exact (ren_pure (by rfl)).trans (by conv => lhs; whnf) | ((conv => lhs; whnf); done) | rfl) (.nil) ?_
 all_goals (refine ⟨?_, rfl⟩; congr 2; rw [Bool.eq_iff_iff]; simp [*]; try omega)

/-- the walk of slices.IndexFunc[[]byte,byte] -/
theorem idxB_i (l : List UInt8) (f : Nat) (p : UInt8 → Bool) (hl : l.length ≤ 2 ^ 47) (hr : resolved f Try.prog) (hf : ∀ x ∈ l, HSpec Try.prog f [byteAV x] [] fun r H' _ => r = .val (.bool (p x)) ∧ H' = []) : HSpec Try.prog 51 [.sl 1 (l.map byteAV), .fn (.func f) [] []] [] fun r H' _ => (∃ n : Int, r = iv n ∧ (decide (0 ≤ n) = l.any p)) ∧ H' = [] := by
 refine hspec_intro Try.func51 rfl rfl ?_
 all_goals refine tri_seq ?_
 all_goals refine tri_region ?_
 all_goals refine oc (x_assign ?_)
 all_goals refine ops_nil ?_
 all_goals refine seqQ_n ?_
 all_goals refine tri_seq ?_
 all_goals refine tri_seq ?_
 all_goals refine tri_region ?_
 all_goals refine oc (x_move ?_)
 all_goals refine oc ?_
 all_goals (first | refine op_len_sl rfl (by first | (conv => lhs; simp only [List.length_map, bytesAV_length]) | rfl) rfl rfl rfl ?_ | refine x_leno ?_ | refine x_lenn ?_)
 all_goals refine oc (x_move ?_)
 all_goals refine ops_nil ?_
 all_goals refine seqQ_n ?_
 all_goals refine tri_block ?_
 all_goals (
  refine tri_loop (X := { k : Nat // k ≤ l.length ∧ (l.take k).any p = false }) (fun x => ⟨19, noM, [(0, .sl 1 (l.map byteAV)), (1, .fn (.func f) [] []), (7, iv l.length), (8, iv x.1)], []⟩) (fun x => l.length - x.1) (⟨0, by simp⟩) (by exact le_kept [] rfl rfl (fun _ _ h => by cases h) rfl ⟨by first | rfl | (simp; done) | (simp; omega) | (congr 2; omega), by first | rfl | (simp; done) | (simp; omega) | (congr 2; omega), by first | rfl | (simp; done) | (simp; omega) | (congr 2; omega), by first | rfl | (simp; done) | (simp; omega) | (congr 2; omega), trivial⟩ trivial) (fun x => ?_)
  obtain ⟨k, hk, hall⟩ := x
  simp only
  all_goals refine tri_seq ?_
  all_goals refine tri_region ?_
  all_goals refine oc (x_lss ?_)
  all_goals refine ops_nil ?_
  all_goals refine seqQ_n ?_
  all_goals refine tri_seq ?_
  all_goals (
   first | refine tri_cond_d rfl rfl (fun hc => ?_) (fun hc => ?_) | refine ct (fun hc => ?_) (fun hc => ?_) | refine cf (fun hc => ?_) (fun hc => ?_) | refine cb (fun hc => ?_) (fun hc => ?_)
   focus
    try (exfalso; first | exact hc | omega)
    all_goals refine tri_skip ?_
   rotate_right 1
   focus
    try (exfalso; first | exact hc | omega)
    all_goals refine tri_exit ?_
    all_goals refine seqQ_x ?_
    all_goals refine seqQ_x ?_
    all_goals refine blockQ_x ?_
    all_goals refine seqQ_n ?_
    all_goals refine tri_seq ?_
    all_goals refine tri_region ?_
    all_goals refine oc (x_assign ?_)
    all_goals refine ops_nil ?_
    all_goals refine seqQ_n ?_
    all_goals refine tri_ret ?_
    all_goals refine retE_r [] (.cons (.tmp (by conv => lhs; whnf) rfl) .nil) rfl rfl (by first | exact (ren_pure (by rfl)).trans (by conv => lhs; whnf) | ((conv => lhs; whnf); done) | rfl) (.nil) ?_
    all_goals (first | exact ⟨any_end hall hc, rfl⟩ | exact ⟨any_found hxx hc, rfl⟩))
  all_goals refine seqQ_n ?_
  all_goals refine tri_seq ?_
  all_goals refine tri_block ?_
  all_goals refine tri_seq ?_
  all_goals refine tri_region ?_
  all_goals refine oc (x_move ?_)
  all_goals refine oc (x_assign ?_)
  all_goals refine ops_nil ?_
  all_goals refine seqQ_n ?_
  all_goals refine tri_seq ?_
  all_goals refine tri_region ?_
  all_goals refine oc (x_move ?_)
  all_goals refine oc (x_move ?_)
  all_goals refine oc (x_move ?_)
  all_goals (
   obtain ⟨x, hxx⟩ : ∃ x, l[k]? = some x := ⟨l[k]'(by omega), by simp⟩
   have he : (l.map byteAV)[k]? = some (byteAV x) := by simp [hxx]
   have hfx := hf x (List.mem_of_getElem? hxx))
  all_goals refine oc ?_
  all_goals (first | refine x_ia ?_ | refine x_iao0 ?_ | refine x_iao ?_)
  all_goals refine oc ?_
  all_goals (first | refine x_ld ?_ | refine x_ldr ?_)
  all_goals refine oc ?_
  all_goals (refine op_callA rfl rfl rfl rfl rfl hr (.cons (.pure rfl) .nil) hfx shut0 ?_; rintro r H' m ⟨rfl, rfl⟩)
  all_goals refine ops_nil ?_
  all_goals refine seqQ_n ?_
  all_goals (
   first | refine tri_cond_d rfl rfl (fun hc => ?_) (fun hc => ?_) | refine ct (fun hc => ?_) (fun hc => ?_) | refine cf (fun hc => ?_) (fun hc => ?_) | refine cb (fun hc => ?_) (fun hc => ?_)
   focus
    try (exfalso; first | exact hc | omega)
    all_goals refine tri_seq ?_
    all_goals refine tri_region ?_
    all_goals refine oc (x_move ?_)
    all_goals refine oc (x_assign ?_)
    all_goals refine ops_nil ?_
    all_goals refine seqQ_n ?_
    all_goals refine tri_ret ?_
    all_goals refine blockQ_r ?_
    all_goals refine seqQ_r ?_
    all_goals refine seqQ_r ?_
    all_goals refine blockQ_r ?_
    all_goals refine seqQ_r ?_
    all_goals refine retE_r [] (.cons (.tmp (by conv => lhs; whnf) rfl) .nil) rfl rfl (by first | exact (ren_pure (by rfl)).trans (by conv => lhs; whnf) | ((conv => lhs; whnf); done) | rfl) (.nil) ?_
    all_goals (first | exact ⟨any_end hall hc, rfl⟩ | exact ⟨any_found hxx hc, rfl⟩)
   rotate_right 1
   focus
    try (exfalso; first | exact hc | omega)
    all_goals refine tri_skip ?_)
  all_goals refine blockQ_n ?_
  all_goals refine seqQ_n ?_
  all_goals refine tri_region ?_
  all_goals refine oc ?_
  all_goals (first | refine x_add64 ?_ | refine x_add ?_)
  all_goals refine oc (x_move ?_)
  all_goals refine ops_nil ?_
  all_goals refine seqQ_n ?_
  all_goals (exact ⟨⟨k + 1, by omega, any_next hxx hc hall⟩, by dsimp only; omega, le_kept [] rfl rfl (fun _ _ h => by cases h) rfl ⟨by first | rfl | (simp; done) | (simp; omega) | (congr 2; omega), by first | rfl | (simp; done) | (simp; omega) | (congr 2; omega), by first | rfl | (simp; done) | (simp; omega) | (congr 2; omega), by first | rfl | (simp; done) | (simp; omega) | (congr 2; omega), trivial⟩ trivial⟩))

/-- the walk of slices.ContainsFunc[[]byte,byte] -/
theorem idxB_c (l : List UInt8) (f : Nat) (p : UInt8 → Bool) (hl : l.length ≤ 2 ^ 47) (hr : resolved f Try.prog) (hf : ∀ x ∈ l, HSpec Try.prog f [byteAV x] [] fun r H' _ => r = .val (.bool (p x)) ∧ H' = []) : HSpec Try.prog 48 [.sl 1 (l.map byteAV), .fn (.func f) [] []] [] fun r H' _ => r = bv (l.any p) ∧ H' = [] := by
 refine hspec_intro Try.func48 rfl rfl ?_
 all_goals refine tri_seq ?_
 all_goals refine tri_region ?_
 all_goals refine oc (x_assign ?_)
 all_goals refine ops_nil ?_
 all_goals refine seqQ_n ?_
 all_goals refine tri_seq ?_
 all_goals refine tri_region ?_
 all_goals refine oc (x_move ?_)
 all_goals refine oc (x_move ?_)
 all_goals refine oc ?_
 all_goals (refine op_callA rfl rfl rfl rfl rfl ⟨_, Try.func51, by decide, rfl⟩ (.cons (.pure rfl) (.cons .fn0 .nil)) (idxB_i l f p hl hr hf) (by rintro r H' m ⟨⟨n, rfl, _⟩, rfl⟩; exact ⟨rfl, by simp⟩) ?_; rintro r H' m ⟨⟨n, rfl, hn⟩, rfl⟩)
 all_goals refine oc (x_geq ?_)
 all_goals refine oc (x_assign ?_)
 all_goals refine ops_nil ?_
 all_goals refine seqQ_n ?_
 all_goals refine tri_ret ?_
 all_goals refine retE_r [] (.cons (.tmp (by conv => lhs; whnf) rfl) .nil) rfl rfl (by first | exact (ren_pure (by rfl)).trans (by conv => lhs; whnf) | ((conv => lhs; whnf); done) | rfl) (.nil) ?_
 all_goals (exact ⟨by rw [hn], rfl⟩)

/-- the walk of slices.IndexFunc[[]casebook/api.Value,casebook/api.Value] -/
theorem idxV_i (l : List Val) (f : Nat) (p : Val → Bool) (hl : l.length ≤ 2 ^ 47) (hr : resolved f Try.prog) (hf : ∀ x ∈ l, HSpec Try.prog f [valAV x] [] fun r H' _ => r = .val (.bool (p x)) ∧ H' = []) : HSpec Try.prog 32 [.sl 3 (l.map valAV), .fn (.func f) [] []] [] fun r H' _ => (∃ n : Int, r = iv n ∧ (decide (0 ≤ n) = l.any p)) ∧ H' = [] := by
 refine hspec_intro Try.func32 rfl rfl ?_
 all_goals refine tri_seq ?_
 all_goals refine tri_region ?_
 all_goals refine oc (x_assign ?_)
 all_goals refine ops_nil ?_
 all_goals refine seqQ_n ?_
 all_goals refine tri_seq ?_
 all_goals refine tri_seq ?_
 all_goals refine tri_region ?_
 all_goals refine oc (x_move ?_)
 all_goals refine oc ?_
 all_goals (first | refine op_len_sl rfl (by first | (conv => lhs; simp only [List.length_map, bytesAV_length]) | rfl) rfl rfl rfl ?_ | refine x_leno ?_ | refine x_lenn ?_)
 all_goals refine oc (x_move ?_)
 all_goals refine ops_nil ?_
 all_goals refine seqQ_n ?_
 all_goals refine tri_block ?_
 all_goals (
  refine tri_loop (X := { k : Nat // k ≤ l.length ∧ (l.take k).any p = false }) (fun x => ⟨19, noM, [(0, .sl 3 (l.map valAV)), (1, .fn (.func f) [] []), (7, iv l.length), (8, iv x.1)], []⟩) (fun x => l.length - x.1) (⟨0, by simp⟩) (by exact le_kept [] rfl rfl (fun _ _ h => by cases h) rfl ⟨by first | rfl | (simp; done) | (simp; omega) | (congr 2; omega), by first | rfl | (simp; done) | (simp; omega) | (congr 2; omega), by first | rfl | (simp; done) | (simp; omega) | (congr 2; omega), by first | rfl | (simp; done) | (simp; omega) | (congr 2; omega), trivial⟩ trivial) (fun x => ?_)
  obtain ⟨k, hk, hall⟩ := x
  simp only
  all_goals refine tri_seq ?_
  all_goals refine tri_region ?_
  all_goals refine oc (x_lss ?_)
  all_goals refine ops_nil ?_
  all_goals refine seqQ_n ?_
  all_goals refine tri_seq ?_
  all_goals (
   first | refine tri_cond_d rfl rfl (fun hc => ?_) (fun hc => ?_) | refine ct (fun hc => ?_) (fun hc => ?_) | refine cf (fun hc => ?_) (fun hc => ?_) | refine cb (fun hc => ?_) (fun hc => ?_)
   focus
    try (exfalso; first | exact hc | omega)
    all_goals refine tri_skip ?_
   rotate_right 1
   focus
    try (exfalso; first | exact hc | omega)
    all_goals refine tri_exit ?_
    all_goals refine seqQ_x ?_
    all_goals refine seqQ_x ?_
    all_goals refine blockQ_x ?_
    all_goals refine seqQ_n ?_
    all_goals refine tri_seq ?_
    all_goals refine tri_region ?_
    all_goals refine oc (x_assign ?_)
    all_goals refine ops_nil ?_
    all_goals refine seqQ_n ?_
    all_goals refine tri_ret ?_
    all_goals refine retE_r [] (.cons (.tmp (by conv => lhs; whnf) rfl) .nil) rfl rfl (by first | exact (ren_pure (by rfl)).trans (by conv => lhs; whnf) | ((conv => lhs; whnf); done) | rfl) (.nil) ?_
    all_goals (first | exact ⟨any_end hall hc, rfl⟩ | exact ⟨any_found hxx hc, rfl⟩))
  all_goals refine seqQ_n ?_
  all_goals refine tri_seq ?_
  all_goals refine tri_block ?_
  all_goals refine tri_seq ?_
  all_goals refine tri_region ?_
  all_goals refine oc (x_move ?_)
  all_goals refine oc (x_assign ?_)
  all_goals refine ops_nil ?_
  all_goals refine seqQ_n ?_
  all_goals refine tri_seq ?_
  all_goals refine tri_region ?_
  all_goals refine oc (x_move ?_)
  all_goals refine oc (x_move ?_)
  all_goals refine oc (x_move ?_)
  all_goals (
   obtain ⟨x, hxx⟩ : ∃ x, l[k]? = some x := ⟨l[k]'(by omega), by simp⟩
   have he : (l.map valAV)[k]? = some (valAV x) := by simp [hxx]
   have hfx := hf x (List.mem_of_getElem? hxx))
  all_goals refine oc ?_
  all_goals (first | refine x_ia ?_ | refine x_iao0 ?_ | refine x_iao ?_)
  all_goals refine oc ?_
  all_goals (first | refine x_lda ?_ | refine x_ldra ?_ | refine x_ldp ?_ | refine x_ldrp ?_)
  all_goals refine oc ?_
  all_goals (refine op_callA rfl rfl rfl rfl rfl hr (.cons (.pure rfl) .nil) hfx shut0 ?_; rintro r H' m ⟨rfl, rfl⟩)
  all_goals refine ops_nil ?_
  all_goals refine seqQ_n ?_
  all_goals (
   first | refine tri_cond_d rfl rfl (fun hc => ?_) (fun hc => ?_) | refine ct (fun hc => ?_) (fun hc => ?_) | refine cf (fun hc => ?_) (fun hc => ?_) | refine cb (fun hc => ?_) (fun hc => ?_)
   focus
    try (exfalso; first | exact hc | omega)
    all_goals refine tri_seq ?_
    all_goals refine tri_region ?_
    all_goals refine oc (x_move ?_)
    all_goals refine oc (x_assign ?_)
    all_goals refine ops_nil ?_
    all_goals refine seqQ_n ?_
    all_goals refine tri_ret ?_
    all_goals refine blockQ_r ?_
    all_goals refine seqQ_r ?_
    all_goals refine seqQ_r ?_
    all_goals refine blockQ_r ?_
    all_goals refine seqQ_r ?_
    all_goals refine retE_r [] (.cons (.tmp (by conv => lhs; whnf) rfl) .nil) rfl rfl (by first | exact (ren_pure (by rfl)).trans (by conv => lhs; whnf) | ((conv => lhs; whnf); done) | rfl) (.nil) ?_
    all_goals (first | exact ⟨any_end hall hc, rfl⟩ | exact ⟨any_found hxx hc, rfl⟩)
   rotate_right 1
   focus
    try (exfalso; first | exact hc | omega)
    all_goals refine tri_skip ?_)
  all_goals refine blockQ_n ?_
  all_goals refine seqQ_n ?_
  all_goals refine tri_region ?_
  all_goals refine oc ?_
  all_goals (first | refine x_add64 ?_ | refine x_add ?_)
  all_goals refine oc (x_move ?_)
  all_goals refine ops_nil ?_
  all_goals refine seqQ_n ?_
  all_goals (exact ⟨⟨k + 1, by omega, any_next hxx hc hall⟩, by dsimp only; omega, le_kept [] rfl rfl (fun _ _ h => by cases h) rfl ⟨by first | rfl | (simp; done) | (simp; omega) | (congr 2; omega), by first | rfl | (simp; done) | (simp; omega) | (congr 2; omega), by first | rfl | (simp; done) | (simp; omega) | (congr 2; omega), by first | rfl | (simp; done) | (simp; omega) | (congr 2; omega), trivial⟩ trivial⟩))

/-- the walk of slices.ContainsFunc[[]casebook/api.Value,casebook/api.Value] -/
theorem idxV_c (l : List Val) (f : Nat) (p : Val → Bool) (hl : l.length ≤ 2 ^ 47) (hr : resolved f Try.prog) (hf : ∀ x ∈ l, HSpec Try.prog f [valAV x] [] fun r H' _ => r = .val (.bool (p x)) ∧ H' = []) : HSpec Try.prog 23 [.sl 3 (l.map valAV), .fn (.func f) [] []] [] fun r H' _ => r = bv (l.any p) ∧ H' = [] := by
 refine hspec_intro Try.func23 rfl rfl ?_
 all_goals refine tri_seq ?_
 all_goals refine tri_region ?_
 all_goals refine oc (x_assign ?_)
 all_goals refine ops_nil ?_
 all_goals refine seqQ_n ?_
 all_goals refine tri_seq ?_
 all_goals refine tri_region ?_
 all_goals refine oc (x_move ?_)
 all_goals refine oc (x_move ?_)
 all_goals refine oc ?_
 all_goals (refine op_callA rfl rfl rfl rfl rfl ⟨_, Try.func32, by decide, rfl⟩ (.cons (.pure rfl) (.cons .fn0 .nil)) (idxV_i l f p hl hr hf) (by rintro r H' m ⟨⟨n, rfl, _⟩, rfl⟩; exact ⟨rfl, by simp⟩) ?_; rintro r H' m ⟨⟨n, rfl, hn⟩, rfl⟩)
 all_goals refine oc (x_geq ?_)
 all_goals refine oc (x_assign ?_)
 all_goals refine ops_nil ?_
 all_goals refine seqQ_n ?_
 all_goals refine tri_ret ?_
 all_goals refine retE_r [] (.cons (.tmp (by conv => lhs; whnf) rfl) .nil) rfl rfl (by first | exact (ren_pure (by rfl)).trans (by conv => lhs; whnf) | ((conv => lhs; whnf); done) | rfl) (.nil) ?_
 all_goals (exact ⟨by rw [hn], rfl⟩)

/-- the walk of slices.IndexFunc[[]casebook/api.Command,casebook/api.Command] -/
theorem idxC_i (l : List Cmd) (f : Nat) (p : Cmd → Bool) (hl : l.length ≤ 2 ^ 47) (hr : resolved f Try.prog) (hf : ∀ x ∈ l, HSpec Try.prog f [cmdAV x] [] fun r H' _ => r = .val (.bool (p x)) ∧ H' = []) : HSpec Try.prog 22 [.sl 7 (l.map cmdAV), .fn (.func f) [] []] [] fun r H' _ => (∃ n : Int, r = iv n ∧ (decide (0 ≤ n) = l.any p)) ∧ H' = [] := by
 refine hspec_intro Try.func22 rfl rfl ?_
 all_goals refine tri_seq ?_
 all_goals refine tri_region ?_
 all_goals refine oc (x_assign ?_)
 all_goals refine ops_nil ?_
 all_goals refine seqQ_n ?_
 all_goals refine tri_seq ?_
 all_goals refine tri_seq ?_
 all_goals refine tri_region ?_
 all_goals refine oc (x_move ?_)
 all_goals refine oc ?_
 all_goals (first | refine op_len_sl rfl (by first | (conv => lhs; simp only [List.length_map, bytesAV_length]) | rfl) rfl rfl rfl ?_ | refine x_leno ?_ | refine x_lenn ?_)
 all_goals refine oc (x_move ?_)
 all_goals refine ops_nil ?_
 all_goals refine seqQ_n ?_
 all_goals refine tri_block ?_
 all_goals (
  refine tri_loop (X := { k : Nat // k ≤ l.length ∧ (l.take k).any p = false }) (fun x => ⟨19, noM, [(0, .sl 7 (l.map cmdAV)), (1, .fn (.func f) [] []), (7, iv l.length), (8, iv x.1)], []⟩) (fun x => l.length - x.1) (⟨0, by simp⟩) (by exact le_kept [] rfl rfl (fun _ _ h => by cases h) rfl ⟨by first | rfl | (simp; done) | (simp; omega) | (congr 2; omega), by first | rfl | (simp; done) | (simp; omega) | (congr 2; omega), by first | rfl | (simp; done) | (simp; omega) | (congr 2; omega), by first | rfl | (simp; done) | (simp; omega) | (congr 2; omega), trivial⟩ trivial) (fun x => ?_)
  obtain ⟨k, hk, hall⟩ := x
  simp only
  all_goals refine tri_seq ?_
  all_goals refine tri_region ?_
  all_goals refine oc (x_lss ?_)
  all_goals refine ops_nil ?_
  all_goals refine seqQ_n ?_
  all_goals refine tri_seq ?_
  all_goals (
   first | refine tri_cond_d rfl rfl (fun hc => ?_) (fun hc => ?_) | refine ct (fun hc => ?_) (fun hc => ?_) | refine cf (fun hc => ?_) (fun hc => ?_) | refine cb (fun hc => ?_) (fun hc => ?_)
   focus
    try (exfalso; first | exact hc | omega)
    all_goals refine tri_skip ?_
   rotate_right 1
   focus
    try (exfalso; first | exact hc | omega)
    all_goals refine tri_exit ?_
    all_goals refine seqQ_x ?_
    all_goals refine seqQ_x ?_
    all_goals refine blockQ_x ?_
    all_goals refine seqQ_n ?_
    all_goals refine tri_seq ?_
    all_goals refine tri_region ?_
    all_goals refine oc (x_assign ?_)
    all_goals refine ops_nil ?_
    all_goals refine seqQ_n ?_
    all_goals refine tri_ret ?_
    all_goals refine retE_r [] (.cons (.tmp (by conv => lhs; whnf) rfl) .nil) rfl rfl (by first | exact (ren_pure (by rfl)).trans (by conv => lhs; whnf) | ((conv => lhs; whnf); done) | rfl) (.nil) ?_
    all_goals (first | exact ⟨any_end hall hc, rfl⟩ | exact ⟨any_found hxx hc, rfl⟩))
  all_goals refine seqQ_n ?_
  all_goals refine tri_seq ?_
  all_goals refine tri_block ?_
  all_goals refine tri_seq ?_
  all_goals refine tri_region ?_
  all_goals refine oc (x_move ?_)
  all_goals refine oc (x_assign ?_)
  all_goals refine ops_nil ?_
  all_goals refine seqQ_n ?_
  all_goals refine tri_seq ?_
  all_goals refine tri_region ?_
  all_goals refine oc (x_move ?_)
  all_goals refine oc (x_move ?_)
  all_goals refine oc (x_move ?_)
  all_goals (
   obtain ⟨x, hxx⟩ : ∃ x, l[k]? = some x := ⟨l[k]'(by omega), by simp⟩
   have he : (l.map cmdAV)[k]? = some (cmdAV x) := by simp [hxx]
   have hfx := hf x (List.mem_of_getElem? hxx))
  all_goals refine oc ?_
  all_goals (first | refine x_ia ?_ | refine x_iao0 ?_ | refine x_iao ?_)
  all_goals refine oc ?_
  all_goals (first | refine x_lda ?_ | refine x_ldra ?_ | refine x_ldp ?_ | refine x_ldrp ?_)
  all_goals refine oc ?_
  all_goals (refine op_callA rfl rfl rfl rfl rfl hr (.cons (.pure rfl) .nil) hfx shut0 ?_; rintro r H' m ⟨rfl, rfl⟩)
  all_goals refine ops_nil ?_
  all_goals refine seqQ_n ?_
  all_goals (
   first | refine tri_cond_d rfl rfl (fun hc => ?_) (fun hc => ?_) | refine ct (fun hc => ?_) (fun hc => ?_) | refine cf (fun hc => ?_) (fun hc => ?_) | refine cb (fun hc => ?_) (fun hc => ?_)
   focus
    try (exfalso; first | exact hc | omega)
    all_goals refine tri_seq ?_
    all_goals refine tri_region ?_
    all_goals refine oc (x_move ?_)
    all_goals refine oc (x_assign ?_)
    all_goals refine ops_nil ?_
    all_goals refine seqQ_n ?_
    all_goals refine tri_ret ?_
    all_goals refine blockQ_r ?_
    all_goals refine seqQ_r ?_
    all_goals refine seqQ_r ?_
    all_goals refine blockQ_r ?_
    all_goals refine seqQ_r ?_
    all_goals refine retE_r [] (.cons (.tmp (by conv => lhs; whnf) rfl) .nil) rfl rfl (by first | exact (ren_pure (by rfl)).trans (by conv => lhs; whnf) | ((conv => lhs; whnf); done) | rfl) (.nil) ?_
    all_goals (first | exact ⟨any_end hall hc, rfl⟩ | exact ⟨any_found hxx hc, rfl⟩)
   rotate_right 1
   focus
    try (exfalso; first | exact hc | omega)
    all_goals refine tri_skip ?_)
  all_goals refine blockQ_n ?_
  all_goals refine seqQ_n ?_
  all_goals refine tri_region ?_
  all_goals refine oc ?_
  all_goals (first | refine x_add64 ?_ | refine x_add ?_)
  all_goals refine oc (x_move ?_)
  all_goals refine ops_nil ?_
  all_goals refine seqQ_n ?_
  all_goals (exact ⟨⟨k + 1, by omega, any_next hxx hc hall⟩, by dsimp only; omega, le_kept [] rfl rfl (fun _ _ h => by cases h) rfl ⟨by first | rfl | (simp; done) | (simp; omega) | (congr 2; omega), by first | rfl | (simp; done) | (simp; omega) | (congr 2; omega), by first | rfl | (simp; done) | (simp; omega) | (congr 2; omega), by first | rfl | (simp; done) | (simp; omega) | (congr 2; omega), trivial⟩ trivial⟩))

/-- the walk of slices.ContainsFunc[[]casebook/api.Command,casebook/api.Command] -/
theorem idxC_c (l : List Cmd) (f : Nat) (p : Cmd → Bool) (hl : l.length ≤ 2 ^ 47) (hr : resolved f Try.prog) (hf : ∀ x ∈ l, HSpec Try.prog f [cmdAV x] [] fun r H' _ => r = .val (.bool (p x)) ∧ H' = []) : HSpec Try.prog 6 [.sl 7 (l.map cmdAV), .fn (.func f) [] []] [] fun r H' _ => r = bv (l.any p) ∧ H' = [] := by
 refine hspec_intro Try.func6 rfl rfl ?_
 all_goals refine tri_seq ?_
 all_goals refine tri_region ?_
 all_goals refine oc (x_assign ?_)
 all_goals refine ops_nil ?_
 all_goals refine seqQ_n ?_
 all_goals refine tri_seq ?_
 all_goals refine tri_region ?_
 all_goals refine oc (x_move ?_)
 all_goals refine oc (x_move ?_)
 all_goals refine oc ?_
 all_goals (refine op_callA rfl rfl rfl rfl rfl ⟨_, Try.func22, by decide, rfl⟩ (.cons (.pure rfl) (.cons .fn0 .nil)) (idxC_i l f p hl hr hf) (by rintro r H' m ⟨⟨n, rfl, _⟩, rfl⟩; exact ⟨rfl, by simp⟩) ?_; rintro r H' m ⟨⟨n, rfl, hn⟩, rfl⟩)
 all_goals refine oc (x_geq ?_)
 all_goals refine oc (x_assign ?_)
 all_goals refine ops_nil ?_
 all_goals refine seqQ_n ?_
 all_goals refine tri_ret ?_
 all_goals refine retE_r [] (.cons (.tmp (by conv => lhs; whnf) rfl) .nil) rfl rfl (by first | exact (ren_pure (by rfl)).trans (by conv => lhs; whnf) | ((conv => lhs; whnf); done) | rfl) (.nil) ?_
 all_goals (exact ⟨by rw [hn], rfl⟩)

/-- the walk of casebook/value.text -/
theorem vtext_w (s : ByteArray) (hs : s.size ≤ 2 ^ 47) : HSpec Try.prog 46 [sv s] [] fun r H' _ => r = .val (.bool (isText s.data.toList)) ∧ H' = [] := by
 refine hspec_intro Try.func46 rfl rfl ?_
 all_goals refine tri_seq ?_
 all_goals refine tri_region ?_
 all_goals refine oc (x_assign ?_)
 all_goals refine ops_nil ?_
 all_goals refine seqQ_n ?_
 all_goals refine tri_seq ?_
 all_goals refine tri_region ?_
 all_goals refine oc (x_move ?_)
 all_goals refine oc (x_lens ?_)
 all_goals refine oc (x_leq ?_)
 all_goals refine oc (x_move ?_)
 all_goals (first | refine gU ?_ | refine gY ?_ | refine gN ?_ | refine ops_guardTd rfl rfl rfl rfl rfl rfl (fun hg => ?_) (fun hg => ?_) | refine gT (fun hg => ?_) (fun hg => ?_))
 all_goals try (exfalso; omega)
 all_goals (first | refine ops_here ?_ | (refine x_move ?_))
 all_goals (first | refine gU ?_ | refine gY ?_ | refine gN ?_ | refine ops_guardTd rfl rfl rfl rfl rfl rfl (fun hg => ?_) (fun hg => ?_) | refine gT (fun hg => ?_) (fun hg => ?_))
 all_goals try (exfalso; omega)
 all_goals (first | refine ops_here ?_ | (refine op_conv_str_bytes (by conv => lhs; whnf) (by rfl) (by rfl) (by rfl) (by rfl) (by rfl) ?_))
 all_goals (first | refine gU ?_ | refine gY ?_ | refine gN ?_ | refine ops_guardTd rfl rfl rfl rfl rfl rfl (fun hg => ?_) (fun hg => ?_) | refine gT (fun hg => ?_) (fun hg => ?_))
 all_goals try (exfalso; omega)
 all_goals (first | refine ops_here ?_ | (refine op_callA rfl rfl rfl rfl rfl ⟨_, Try.func48, by decide, rfl⟩ (.cons (.pure rfl) (.cons .fn0 .nil)) (idxB_c s.data.toList 49 (fun b => decide ((b.toNat : Int) < 32) || decide (126 < (b.toNat : Int))) (by first | omega | (simp; omega)) ⟨_, Try.func49, by decide, rfl⟩ (fun x _ => vtextc_w _)) shut0 ?_; rintro r H' m ⟨rfl, rfl⟩))
 all_goals (first | refine gU ?_ | refine gY ?_ | refine gN ?_ | refine ops_guardTd rfl rfl rfl rfl rfl rfl (fun hg => ?_) (fun hg => ?_) | refine gT (fun hg => ?_) (fun hg => ?_))
 all_goals try (exfalso; omega)
 all_goals (first | refine ops_here ?_ | (first | refine op_not_d rfl rfl rfl ?_ | refine x_not ?_))
 all_goals refine oc ?_
 all_goals (first | refine x_pt ?_ | refine x_pf ?_ | refine x_pb ?_)
 all_goals refine oc (x_assign ?_)
 all_goals refine ops_nil ?_
 all_goals refine seqQ_n ?_
 all_goals refine tri_ret ?_
 all_goals refine retE_r [] (.cons (.tmp (by conv => lhs; whnf) rfl) .nil) rfl rfl (by first | exact (ren_pure (by rfl)).trans (by conv => lhs; whnf) | ((conv => lhs; whnf); done) | rfl) (.nil) ?_
 all_goals (
  refine ⟨congrArg (fun b => AV.val (Value.bool b)) ?_, rfl⟩
  have := size_toList s
  first
  | (rw [isText, show decide (s.data.toList.length ≤ 200) = true from decide_eq_true (by omega)]; rfl)
  | (rw [isText, show decide (s.data.toList.length ≤ 200) = false from decide_eq_false (by omega)]; rfl))

/-- the walk of casebook/value.Valid -/
theorem vValid_w (v : Val) (hs : v.s.size ≤ 2 ^ 47) : HSpec Try.prog 35 [valAV v] [] fun r H' _ => r = .val (.bool (validV v)) ∧ H' = [] := by
 refine hspec_intro Try.func35 rfl rfl ?_
 all_goals refine tri_seq ?_
 all_goals refine tri_region ?_
 all_goals refine oc (x_bx 3 ?_)
 all_goals refine oc (x_assign ?_)
 all_goals refine ops_nil ?_
 all_goals refine seqQ_n ?_
 all_goals refine tri_seq ?_
 all_goals refine tri_seq ?_
 all_goals refine tri_region ?_
 all_goals refine oc ?_
 all_goals (first | refine x_fa0 ?_ | refine x_far0 ?_ | refine x_fa ?_ | refine x_far ?_)
 all_goals refine oc ?_
 all_goals (first | refine x_ld ?_ | refine x_ldr ?_)
 all_goals refine ops_nil ?_
 all_goals refine seqQ_n ?_
 all_goals refine tri_block ?_
 all_goals refine tri_seq ?_
 all_goals refine tri_region ?_
 all_goals refine oc (x_eql ?_)
 all_goals refine oc (x_assign ?_)
 all_goals refine ops_nil ?_
 all_goals refine seqQ_n ?_
 all_goals (
  first | refine tri_cond_d rfl rfl (fun hc => ?_) (fun hc => ?_) | refine ct (fun hc => ?_) (fun hc => ?_) | refine cf (fun hc => ?_) (fun hc => ?_) | refine cb (fun hc => ?_) (fun hc => ?_)
  focus
   try (exfalso; first | exact hc | omega)
   all_goals refine tri_seq ?_
   all_goals refine tri_region ?_
   all_goals refine oc ?_
   all_goals (first | refine x_fa0 ?_ | refine x_far0 ?_ | refine x_fa ?_ | refine x_far ?_)
   all_goals refine oc ?_
   all_goals (first | refine x_ld ?_ | refine x_ldr ?_)
   all_goals refine oc (x_eql ?_)
   all_goals refine oc (x_move ?_)
   all_goals (first | refine gU ?_ | refine gY ?_ | refine gN ?_ | refine ops_guardFd rfl rfl rfl rfl rfl rfl (fun hg => ?_) (fun hg => ?_) | refine gF (fun hg => ?_) (fun hg => ?_))
   all_goals try (exfalso; omega)
   all_goals (first | refine ops_here ?_ | (first | refine x_fa0 ?_ | refine x_far0 ?_ | refine x_fa ?_ | refine x_far ?_))
   all_goals (first | refine gU ?_ | refine gY ?_ | refine gN ?_ | refine ops_guardFd rfl rfl rfl rfl rfl rfl (fun hg => ?_) (fun hg => ?_) | refine gF (fun hg => ?_) (fun hg => ?_))
   all_goals try (exfalso; omega)
   all_goals (first | refine ops_here ?_ | (first | refine x_ld ?_ | refine x_ldr ?_))
   all_goals (first | refine gU ?_ | refine gY ?_ | refine gN ?_ | refine ops_guardFd rfl rfl rfl rfl rfl rfl (fun hg => ?_) (fun hg => ?_) | refine gF (fun hg => ?_) (fun hg => ?_))
   all_goals try (exfalso; omega)
   all_goals (first | refine ops_here ?_ | (refine x_eql ?_))
   all_goals refine oc ?_
   all_goals (first | refine x_pt ?_ | refine x_pf ?_ | refine x_pb ?_)
   all_goals refine oc (x_move ?_)
   all_goals (first | refine gU ?_ | refine gY ?_ | refine gN ?_ | refine ops_guardTd rfl rfl rfl rfl rfl rfl (fun hg => ?_) (fun hg => ?_) | refine gT (fun hg => ?_) (fun hg => ?_))
   all_goals try (exfalso; omega)
   all_goals (first | refine ops_here ?_ | (first | refine x_fa0 ?_ | refine x_far0 ?_ | refine x_fa ?_ | refine x_far ?_))
   all_goals (first | refine gU ?_ | refine gY ?_ | refine gN ?_ | refine ops_guardTd rfl rfl rfl rfl rfl rfl (fun hg => ?_) (fun hg => ?_) | refine gT (fun hg => ?_) (fun hg => ?_))
   all_goals try (exfalso; omega)
   all_goals (first | refine ops_here ?_ | (first | refine x_ld ?_ | refine x_ldr ?_))
   all_goals (first | refine gU ?_ | refine gY ?_ | refine gN ?_ | refine ops_guardTd rfl rfl rfl rfl rfl rfl (fun hg => ?_) (fun hg => ?_) | refine gT (fun hg => ?_) (fun hg => ?_))
   all_goals try (exfalso; omega)
   all_goals (first | refine ops_here ?_ | (refine x_seql ?_))
   all_goals refine oc ?_
   all_goals (first | refine x_pt ?_ | refine x_pf ?_ | refine x_pb ?_)
   all_goals refine oc (x_assign ?_)
   all_goals refine ops_nil ?_
   all_goals refine seqQ_n ?_
   all_goals refine tri_ret ?_
   all_goals refine blockQ_r ?_
   all_goals refine seqQ_r ?_
   all_goals refine retE_r [] (.cons (.tmp (by conv => lhs; whnf) rfl) .nil) rfl rfl (by first | exact (ren_pure (by rfl)).trans (by conv => lhs; whnf) | ((conv => lhs; whnf); done) | rfl) (.nil) ?_
   all_goals (
    refine ⟨congrArg (fun b => AV.val (Value.bool b)) ?_, rfl⟩
    unfold validV
    first
    | (rw [if_pos (by assumption), emptyS]; simp_all; done)
    | (rw [if_pos (by assumption)]; simp_all; done)
    | (rw [if_neg (by assumption), if_pos (by assumption), emptyS]; simp_all; done)
    | (rw [if_neg (by assumption), if_pos (by assumption)]; simp_all; done)
    | (rw [if_neg (by assumption), if_neg (by assumption), if_pos (by assumption)]; simp_all; done)
    | (rw [if_neg (by assumption), if_neg (by assumption), if_neg (by assumption)]))
  rotate_right 1
  focus
   try (exfalso; first | exact hc | omega)
   all_goals refine tri_seq ?_
   all_goals refine tri_region ?_
   all_goals refine oc (x_eql ?_)
   all_goals refine oc (x_assign ?_)
   all_goals refine ops_nil ?_
   all_goals refine seqQ_n ?_
   all_goals (
    first | refine tri_cond_d rfl rfl (fun hc => ?_) (fun hc => ?_) | refine ct (fun hc => ?_) (fun hc => ?_) | refine cf (fun hc => ?_) (fun hc => ?_) | refine cb (fun hc => ?_) (fun hc => ?_)
    focus
     try (exfalso; first | exact hc | omega)
     all_goals refine tri_seq ?_
     all_goals refine tri_region ?_
     all_goals refine oc ?_
     all_goals (first | refine x_fa0 ?_ | refine x_far0 ?_ | refine x_fa ?_ | refine x_far ?_)
     all_goals refine oc ?_
     all_goals (first | refine x_ld ?_ | refine x_ldr ?_)
     all_goals refine oc ?_
     all_goals (refine op_callA rfl rfl rfl rfl rfl ⟨_, Try.func45, by decide, rfl⟩ (.cons (.pure rfl) .nil) (vnum_w _) shut0 ?_; rintro r H' m ⟨rfl, rfl⟩)
     all_goals refine oc (x_move ?_)
     all_goals (first | refine gU ?_ | refine gY ?_ | refine gN ?_ | refine ops_guardTd rfl rfl rfl rfl rfl rfl (fun hg => ?_) (fun hg => ?_) | refine gT (fun hg => ?_) (fun hg => ?_))
     all_goals try (exfalso; omega)
     all_goals (first | refine ops_here ?_ | (first | refine x_fa0 ?_ | refine x_far0 ?_ | refine x_fa ?_ | refine x_far ?_))
     all_goals (first | refine gU ?_ | refine gY ?_ | refine gN ?_ | refine ops_guardTd rfl rfl rfl rfl rfl rfl (fun hg => ?_) (fun hg => ?_) | refine gT (fun hg => ?_) (fun hg => ?_))
     all_goals try (exfalso; omega)
     all_goals (first | refine ops_here ?_ | (first | refine x_ld ?_ | refine x_ldr ?_))
     all_goals (first | refine gU ?_ | refine gY ?_ | refine gN ?_ | refine ops_guardTd rfl rfl rfl rfl rfl rfl (fun hg => ?_) (fun hg => ?_) | refine gT (fun hg => ?_) (fun hg => ?_))
     all_goals try (exfalso; omega)
     all_goals (first | refine ops_here ?_ | (refine x_seql ?_))
     all_goals refine oc ?_
     all_goals (first | refine x_pt ?_ | refine x_pf ?_ | refine x_pb ?_)
     all_goals refine oc (x_assign ?_)
     all_goals refine ops_nil ?_
     all_goals refine seqQ_n ?_
     all_goals refine tri_ret ?_
     all_goals refine blockQ_r ?_
     all_goals refine seqQ_r ?_
     all_goals refine retE_r [] (.cons (.tmp (by conv => lhs; whnf) rfl) .nil) rfl rfl (by first | exact (ren_pure (by rfl)).trans (by conv => lhs; whnf) | ((conv => lhs; whnf); done) | rfl) (.nil) ?_
     all_goals (
      refine ⟨congrArg (fun b => AV.val (Value.bool b)) ?_, rfl⟩
      unfold validV
      first
      | (rw [if_pos (by assumption), emptyS]; simp_all; done)
      | (rw [if_pos (by assumption)]; simp_all; done)
      | (rw [if_neg (by assumption), if_pos (by assumption), emptyS]; simp_all; done)
      | (rw [if_neg (by assumption), if_pos (by assumption)]; simp_all; done)
      | (rw [if_neg (by assumption), if_neg (by assumption), if_pos (by assumption)]; simp_all; done)
      | (rw [if_neg (by assumption), if_neg (by assumption), if_neg (by assumption)]))
    rotate_right 1
    focus
     try (exfalso; first | exact hc | omega)
     all_goals refine tri_seq ?_
     all_goals refine tri_region ?_
     all_goals refine oc (x_eql ?_)
     all_goals refine oc (x_assign ?_)
     all_goals refine ops_nil ?_
     all_goals refine seqQ_n ?_
     all_goals (
      first | refine tri_cond_d rfl rfl (fun hc => ?_) (fun hc => ?_) | refine ct (fun hc => ?_) (fun hc => ?_) | refine cf (fun hc => ?_) (fun hc => ?_) | refine cb (fun hc => ?_) (fun hc => ?_)
      focus
       try (exfalso; first | exact hc | omega)
       all_goals refine tri_seq ?_
       all_goals refine tri_region ?_
       all_goals refine oc ?_
       all_goals (first | refine x_fa0 ?_ | refine x_far0 ?_ | refine x_fa ?_ | refine x_far ?_)
       all_goals refine oc ?_
       all_goals (first | refine x_ld ?_ | refine x_ldr ?_)
       all_goals refine oc (x_eql ?_)
       all_goals refine oc (x_move ?_)
       all_goals (first | refine gU ?_ | refine gY ?_ | refine gN ?_ | refine ops_guardTd rfl rfl rfl rfl rfl rfl (fun hg => ?_) (fun hg => ?_) | refine gT (fun hg => ?_) (fun hg => ?_))
       all_goals try (exfalso; omega)
       all_goals (first | refine ops_here ?_ | (first | refine x_fa0 ?_ | refine x_far0 ?_ | refine x_fa ?_ | refine x_far ?_))
       all_goals (first | refine gU ?_ | refine gY ?_ | refine gN ?_ | refine ops_guardTd rfl rfl rfl rfl rfl rfl (fun hg => ?_) (fun hg => ?_) | refine gT (fun hg => ?_) (fun hg => ?_))
       all_goals try (exfalso; omega)
       all_goals (first | refine ops_here ?_ | (first | refine x_ld ?_ | refine x_ldr ?_))
       all_goals (first | refine gU ?_ | refine gY ?_ | refine gN ?_ | refine ops_guardTd rfl rfl rfl rfl rfl rfl (fun hg => ?_) (fun hg => ?_) | refine gT (fun hg => ?_) (fun hg => ?_))
       all_goals try (exfalso; omega)
       all_goals (first | refine ops_here ?_ | (refine op_callA rfl rfl rfl rfl rfl ⟨_, Try.func46, by decide, rfl⟩ (.cons (.pure rfl) .nil) (vtext_w _ (by omega)) shut0 ?_; rintro r H' m ⟨rfl, rfl⟩))
       all_goals refine oc ?_
       all_goals (first | refine x_pt ?_ | refine x_pf ?_ | refine x_pb ?_)
       all_goals refine oc (x_assign ?_)
       all_goals refine ops_nil ?_
       all_goals refine seqQ_n ?_
       all_goals refine tri_ret ?_
       all_goals refine blockQ_r ?_
       all_goals refine seqQ_r ?_
       all_goals refine retE_r [] (.cons (.tmp (by conv => lhs; whnf) rfl) .nil) rfl rfl (by first | exact (ren_pure (by rfl)).trans (by conv => lhs; whnf) | ((conv => lhs; whnf); done) | rfl) (.nil) ?_
       all_goals (
        refine ⟨congrArg (fun b => AV.val (Value.bool b)) ?_, rfl⟩
        unfold validV
        first
        | (rw [if_pos (by assumption), emptyS]; simp_all; done)
        | (rw [if_pos (by assumption)]; simp_all; done)
        | (rw [if_neg (by assumption), if_pos (by assumption), emptyS]; simp_all; done)
        | (rw [if_neg (by assumption), if_pos (by assumption)]; simp_all; done)
        | (rw [if_neg (by assumption), if_neg (by assumption), if_pos (by assumption)]; simp_all; done)
        | (rw [if_neg (by assumption), if_neg (by assumption), if_neg (by assumption)]))
      rotate_right 1
      focus
       try (exfalso; first | exact hc | omega)
       all_goals refine tri_skip ?_)))
 all_goals refine blockQ_n ?_
 all_goals refine seqQ_n ?_
 all_goals refine tri_seq ?_
 all_goals refine tri_region ?_
 all_goals refine oc (x_assign ?_)
 all_goals refine ops_nil ?_
 all_goals refine seqQ_n ?_
 all_goals refine tri_ret ?_
 all_goals refine retE_r [] (.cons (.tmp (by conv => lhs; whnf) rfl) .nil) rfl rfl (by first | exact (ren_pure (by rfl)).trans (by conv => lhs; whnf) | ((conv => lhs; whnf); done) | rfl) (.nil) ?_
 all_goals (
  refine ⟨congrArg (fun b => AV.val (Value.bool b)) ?_, rfl⟩
  unfold validV
  first
  | (rw [if_pos (by assumption), emptyS]; simp_all; done)
  | (rw [if_pos (by assumption)]; simp_all; done)
  | (rw [if_neg (by assumption), if_pos (by assumption), emptyS]; simp_all; done)
  | (rw [if_neg (by assumption), if_pos (by assumption)]; simp_all; done)
  | (rw [if_neg (by assumption), if_neg (by assumption), if_pos (by assumption)]; simp_all; done)
  | (rw [if_neg (by assumption), if_neg (by assumption), if_neg (by assumption)]))

/-- the walk of casebook/journal.formed$1 -/
theorem formedc_w (v : Val) (hs : v.s.size ≤ 2 ^ 47) : HSpec Try.prog 34 [valAV v] [] fun r H' _ => r = .val (.bool (!validV v)) ∧ H' = [] := by
 refine hspec_intro Try.func34 rfl rfl ?_
 all_goals refine tri_seq ?_
 all_goals refine tri_region ?_
 all_goals refine oc (x_bx 3 ?_)
 all_goals refine oc (x_assign ?_)
 all_goals refine ops_nil ?_
 all_goals refine seqQ_n ?_
 all_goals refine tri_seq ?_
 all_goals refine tri_region ?_
 all_goals refine oc ?_
 all_goals (first | refine x_lda ?_ | refine x_ldra ?_ | refine x_ldp ?_ | refine x_ldrp ?_)
 all_goals refine oc ?_
 all_goals (refine op_callA rfl rfl rfl rfl rfl ⟨_, Try.func35, by decide, rfl⟩ (.cons (.pure rfl) .nil) (vValid_w _ (by omega)) shut0 ?_; rintro r H' m ⟨rfl, rfl⟩)
 all_goals refine oc ?_
 all_goals (first | refine op_not_d rfl rfl rfl ?_ | refine x_not ?_)
 all_goals refine oc (x_assign ?_)
 all_goals refine ops_nil ?_
 all_goals refine seqQ_n ?_
 all_goals refine tri_ret ?_
 all_goals refine retE_r [] (.cons (.tmp (by conv => lhs; whnf) rfl) .nil) rfl rfl (by first | exact (ren_pure (by rfl)).trans (by conv => lhs; whnf) | ((conv => lhs; whnf); done) | rfl) (.nil) ?_
 all_goals (exact ⟨rfl, rfl⟩)

/-- the walk of casebook/journal.formed -/
theorem formed_w (c : Cmd) (h1 : c.case.size ≤ 2 ^ 47) (h2 : c.person.size ≤ 2 ^ 47) (h3 : c.to.size ≤ 2 ^ 47) (h4 : c.data.length ≤ 2 ^ 40) (hv : ∀ v ∈ c.data, v.s.size ≤ 2 ^ 47) : HSpec Try.prog 25 [cmdAV c] [] fun r H' _ => r = .val (.bool (formed c)) ∧ H' = [] := by
 refine hspec_intro Try.func25 rfl rfl ?_
 all_goals refine tri_seq ?_
 all_goals refine tri_region ?_
 all_goals refine oc (x_bx 7 ?_)
 all_goals refine oc (x_assign ?_)
 all_goals refine ops_nil ?_
 all_goals refine seqQ_n ?_
 all_goals refine tri_seq ?_
 all_goals refine tri_seq ?_
 all_goals refine tri_region ?_
 all_goals refine oc ?_
 all_goals (first | refine x_fa0 ?_ | refine x_far0 ?_ | refine x_fa ?_ | refine x_far ?_)
 all_goals refine oc ?_
 all_goals (first | refine x_ld ?_ | refine x_ldr ?_)
 all_goals refine oc (x_lss ?_)
 all_goals refine oc (x_move ?_)
 all_goals (first | refine gU ?_ | refine gY ?_ | refine gN ?_ | refine ops_guardFd rfl rfl rfl rfl rfl rfl (fun hg => ?_) (fun hg => ?_) | refine gF (fun hg => ?_) (fun hg => ?_))
 all_goals try (exfalso; omega)
 all_goals (first | refine ops_here ?_ | (first | refine x_fa0 ?_ | refine x_far0 ?_ | refine x_fa ?_ | refine x_far ?_))
 all_goals (first | refine gU ?_ | refine gY ?_ | refine gN ?_ | refine ops_guardFd rfl rfl rfl rfl rfl rfl (fun hg => ?_) (fun hg => ?_) | refine gF (fun hg => ?_) (fun hg => ?_))
 all_goals try (exfalso; omega)
 all_goals (first | refine ops_here ?_ | (first | refine x_ld ?_ | refine x_ldr ?_))
 all_goals (first | refine gU ?_ | refine gY ?_ | refine gN ?_ | refine ops_guardFd rfl rfl rfl rfl rfl rfl (fun hg => ?_) (fun hg => ?_) | refine gF (fun hg => ?_) (fun hg => ?_))
 all_goals try (exfalso; omega)
 all_goals (first | refine ops_here ?_ | (refine x_gtr ?_))
 all_goals refine oc ?_
 all_goals (first | refine x_pt ?_ | refine x_pf ?_ | refine x_pb ?_)
 all_goals refine oc (x_move ?_)
 all_goals (first | refine gU ?_ | refine gY ?_ | refine gN ?_ | refine ops_guardFd rfl rfl rfl rfl rfl rfl (fun hg => ?_) (fun hg => ?_) | refine gF (fun hg => ?_) (fun hg => ?_))
 all_goals try (exfalso; omega)
 all_goals (first | refine ops_here ?_ | (first | refine x_fa0 ?_ | refine x_far0 ?_ | refine x_fa ?_ | refine x_far ?_))
 all_goals (first | refine gU ?_ | refine gY ?_ | refine gN ?_ | refine ops_guardFd rfl rfl rfl rfl rfl rfl (fun hg => ?_) (fun hg => ?_) | refine gF (fun hg => ?_) (fun hg => ?_))
 all_goals try (exfalso; omega)
 all_goals (first | refine ops_here ?_ | (first | refine x_ld ?_ | refine x_ldr ?_))
 all_goals (first | refine gU ?_ | refine gY ?_ | refine gN ?_ | refine ops_guardFd rfl rfl rfl rfl rfl rfl (fun hg => ?_) (fun hg => ?_) | refine gF (fun hg => ?_) (fun hg => ?_))
 all_goals try (exfalso; omega)
 all_goals (first | refine ops_here ?_ | (refine x_lss ?_))
 all_goals refine oc ?_
 all_goals (first | refine x_pt ?_ | refine x_pf ?_ | refine x_pb ?_)
 all_goals refine oc (x_move ?_)
 all_goals (first | refine gU ?_ | refine gY ?_ | refine gN ?_ | refine ops_guardFd rfl rfl rfl rfl rfl rfl (fun hg => ?_) (fun hg => ?_) | refine gF (fun hg => ?_) (fun hg => ?_))
 all_goals try (exfalso; omega)
 all_goals (first | refine ops_here ?_ | (first | refine x_fa0 ?_ | refine x_far0 ?_ | refine x_fa ?_ | refine x_far ?_))
 all_goals (first | refine gU ?_ | refine gY ?_ | refine gN ?_ | refine ops_guardFd rfl rfl rfl rfl rfl rfl (fun hg => ?_) (fun hg => ?_) | refine gF (fun hg => ?_) (fun hg => ?_))
 all_goals try (exfalso; omega)
 all_goals (first | refine ops_here ?_ | (first | refine x_ld ?_ | refine x_ldr ?_))
 all_goals (first | refine gU ?_ | refine gY ?_ | refine gN ?_ | refine ops_guardFd rfl rfl rfl rfl rfl rfl (fun hg => ?_) (fun hg => ?_) | refine gF (fun hg => ?_) (fun hg => ?_))
 all_goals try (exfalso; omega)
 all_goals (first | refine ops_here ?_ | (refine x_geq ?_))
 all_goals refine oc ?_
 all_goals (first | refine x_pt ?_ | refine x_pf ?_ | refine x_pb ?_)
 all_goals refine oc (x_move ?_)
 all_goals (first | refine gU ?_ | refine gY ?_ | refine gN ?_ | refine ops_guardFd rfl rfl rfl rfl rfl rfl (fun hg => ?_) (fun hg => ?_) | refine gF (fun hg => ?_) (fun hg => ?_))
 all_goals try (exfalso; omega)
 all_goals (first | refine ops_here ?_ | (first | refine x_fa0 ?_ | refine x_far0 ?_ | refine x_fa ?_ | refine x_far ?_))
 all_goals (first | refine gU ?_ | refine gY ?_ | refine gN ?_ | refine ops_guardFd rfl rfl rfl rfl rfl rfl (fun hg => ?_) (fun hg => ?_) | refine gF (fun hg => ?_) (fun hg => ?_))
 all_goals try (exfalso; omega)
 all_goals (first | refine ops_here ?_ | (first | refine x_ld ?_ | refine x_ldr ?_))
 all_goals (first | refine gU ?_ | refine gY ?_ | refine gN ?_ | refine ops_guardFd rfl rfl rfl rfl rfl rfl (fun hg => ?_) (fun hg => ?_) | refine gF (fun hg => ?_) (fun hg => ?_))
 all_goals try (exfalso; omega)
 all_goals (first | refine ops_here ?_ | (refine x_lss ?_))
 all_goals refine oc ?_
 all_goals (first | refine x_pt ?_ | refine x_pf ?_ | refine x_pb ?_)
 all_goals refine oc (x_move ?_)
 all_goals (first | refine gU ?_ | refine gY ?_ | refine gN ?_ | refine ops_guardFd rfl rfl rfl rfl rfl rfl (fun hg => ?_) (fun hg => ?_) | refine gF (fun hg => ?_) (fun hg => ?_))
 all_goals try (exfalso; omega)
 all_goals (first | refine ops_here ?_ | (first | refine x_fa0 ?_ | refine x_far0 ?_ | refine x_fa ?_ | refine x_far ?_))
 all_goals (first | refine gU ?_ | refine gY ?_ | refine gN ?_ | refine ops_guardFd rfl rfl rfl rfl rfl rfl (fun hg => ?_) (fun hg => ?_) | refine gF (fun hg => ?_) (fun hg => ?_))
 all_goals try (exfalso; omega)
 all_goals (first | refine ops_here ?_ | (first | refine x_ld ?_ | refine x_ldr ?_))
 all_goals (first | refine gU ?_ | refine gY ?_ | refine gN ?_ | refine ops_guardFd rfl rfl rfl rfl rfl rfl (fun hg => ?_) (fun hg => ?_) | refine gF (fun hg => ?_) (fun hg => ?_))
 all_goals try (exfalso; omega)
 all_goals (first | refine ops_here ?_ | (refine x_gtr ?_))
 all_goals refine oc ?_
 all_goals (first | refine x_pt ?_ | refine x_pf ?_ | refine x_pb ?_)
 all_goals refine oc (x_move ?_)
 all_goals (first | refine gU ?_ | refine gY ?_ | refine gN ?_ | refine ops_guardFd rfl rfl rfl rfl rfl rfl (fun hg => ?_) (fun hg => ?_) | refine gF (fun hg => ?_) (fun hg => ?_))
 all_goals try (exfalso; omega)
 all_goals (first | refine ops_here ?_ | (first | refine x_fa0 ?_ | refine x_far0 ?_ | refine x_fa ?_ | refine x_far ?_))
 all_goals (first | refine gU ?_ | refine gY ?_ | refine gN ?_ | refine ops_guardFd rfl rfl rfl rfl rfl rfl (fun hg => ?_) (fun hg => ?_) | refine gF (fun hg => ?_) (fun hg => ?_))
 all_goals try (exfalso; omega)
 all_goals (first | refine ops_here ?_ | (first | refine x_ld ?_ | refine x_ldr ?_))
 all_goals (first | refine gU ?_ | refine gY ?_ | refine gN ?_ | refine ops_guardFd rfl rfl rfl rfl rfl rfl (fun hg => ?_) (fun hg => ?_) | refine gF (fun hg => ?_) (fun hg => ?_))
 all_goals try (exfalso; omega)
 all_goals (first | refine ops_here ?_ | (first | refine op_len_sl rfl (by first | (conv => lhs; simp only [List.length_map, bytesAV_length]) | rfl) rfl rfl rfl ?_ | refine x_leno ?_ | refine x_lenn ?_))
 all_goals (first | refine gU ?_ | refine gY ?_ | refine gN ?_ | refine ops_guardFd rfl rfl rfl rfl rfl rfl (fun hg => ?_) (fun hg => ?_) | refine gF (fun hg => ?_) (fun hg => ?_))
 all_goals try (exfalso; omega)
 all_goals (first | refine ops_here ?_ | (refine x_gtr ?_))
 all_goals refine oc ?_
 all_goals (first | refine x_pt ?_ | refine x_pf ?_ | refine x_pb ?_)
 all_goals refine ops_nil ?_
 all_goals refine seqQ_n ?_
 all_goals (
  first | refine tri_cond_d rfl rfl (fun hc => ?_) (fun hc => ?_) | refine ct (fun hc => ?_) (fun hc => ?_) | refine cf (fun hc => ?_) (fun hc => ?_) | refine cb (fun hc => ?_) (fun hc => ?_)
  focus
   try (exfalso; first | exact hc | omega)
   all_goals refine tri_seq ?_
   all_goals refine tri_region ?_
   all_goals refine oc (x_assign ?_)
   all_goals refine ops_nil ?_
   all_goals refine seqQ_n ?_
   all_goals refine tri_ret ?_
   all_goals refine seqQ_r ?_
   all_goals refine retE_r [] (.cons (.tmp (by conv => lhs; whnf) rfl) .nil) rfl rfl (by first | exact (ren_pure (by rfl)).trans (by conv => lhs; whnf) | ((conv => lhs; whnf); done) | rfl) (.nil) ?_
   all_goals (
    refine ⟨congrArg (fun b => AV.val (Value.bool b)) (Eq.symm ?_), rfl⟩
    first
    | (simp only [formed]; simp_all; done)
    | exact formed_no_len hc
    | exact formed_no_range (by omega)
    | exact formed_no_name hss (by assumption) (by assumption)
    | exact formed_yes (by omega) hall (by omega))
  rotate_right 1
  focus
   try (exfalso; first | exact hc | omega)
   all_goals refine tri_skip ?_)
 all_goals refine seqQ_n ?_
 all_goals refine tri_seq ?_
 all_goals refine tri_seq ?_
 all_goals refine tri_region ?_
 all_goals refine oc ?_
 all_goals (first | refine x_fa0 ?_ | refine x_far0 ?_ | refine x_fa ?_ | refine x_far ?_)
 all_goals refine oc ?_
 all_goals (first | refine x_ld ?_ | refine x_ldr ?_)
 all_goals refine oc ?_
 all_goals (first | refine x_fa0 ?_ | refine x_far0 ?_ | refine x_fa ?_ | refine x_far ?_)
 all_goals refine oc ?_
 all_goals (first | refine x_ld ?_ | refine x_ldr ?_)
 all_goals refine oc ?_
 all_goals (first | refine x_fa0 ?_ | refine x_far0 ?_ | refine x_fa ?_ | refine x_far ?_)
 all_goals refine oc ?_
 all_goals (first | refine x_ld ?_ | refine x_ldr ?_)
 all_goals refine oc ?_
 all_goals (refine x_bs3 false ?_)
 all_goals refine oc ?_
 all_goals (first | refine op_len_sl rfl (by first | (conv => lhs; simp only [List.length_map, bytesAV_length]) | rfl) rfl rfl rfl ?_ | refine x_leno ?_ | refine x_lenn ?_)
 all_goals refine oc (x_move ?_)
 all_goals refine ops_nil ?_
 all_goals refine seqQ_n ?_
 all_goals refine tri_block ?_
 all_goals (
  refine tri_loop (X := { k : Nat // k ≤ 3 ∧ ∀ j s, j < k → [c.case, c.person, c.to][j]? = some s → nameB s = true }) (fun x => ⟨63, noM, [(1, .ptr 0 7 0 0), (45, .osl 1 1 0 3), (46, iv 3), (47, iv x.1)], [.mk 26 true false 7 [cmdAV c], .mk 9 false false 1 [sv c.case, sv c.person, sv c.to]]⟩) (fun x => 3 - x.1) (⟨0, by simp⟩) (by exact le_kept [0, 1] rfl rfl (fun _ _ h => by cases h) rfl ⟨by first | rfl | (simp; done) | (simp; omega) | (congr 2; omega), by first | rfl | (simp; done) | (simp; omega) | (congr 2; omega), by first | rfl | (simp; done) | (simp; omega) | (congr 2; omega), by first | rfl | (simp; done) | (simp; omega) | (congr 2; omega), trivial⟩ ⟨by first | rfl | (simp; done) | (simp; omega) | (congr 2; omega), by first | rfl | (simp; done) | (simp; omega) | (congr 2; omega), trivial⟩) (fun x => ?_)
  obtain ⟨k, hk, hall⟩ := x
  simp only
  all_goals refine tri_seq ?_
  all_goals refine tri_region ?_
  all_goals refine oc (x_lss ?_)
  all_goals refine ops_nil ?_
  all_goals refine seqQ_n ?_
  all_goals refine tri_seq ?_
  all_goals (
   first | refine tri_cond_d rfl rfl (fun hc => ?_) (fun hc => ?_) | refine ct (fun hc => ?_) (fun hc => ?_) | refine cf (fun hc => ?_) (fun hc => ?_) | refine cb (fun hc => ?_) (fun hc => ?_)
   focus
    try (exfalso; first | exact hc | omega)
    all_goals refine tri_skip ?_
   rotate_right 1
   focus
    try (exfalso; first | exact hc | omega)
    all_goals refine tri_exit ?_
    all_goals refine seqQ_x ?_
    all_goals refine seqQ_x ?_
    all_goals refine blockQ_x ?_
    all_goals refine seqQ_n ?_
    all_goals refine tri_seq ?_
    all_goals refine tri_region ?_
    all_goals refine oc ?_
    all_goals (first | refine x_fa0 ?_ | refine x_far0 ?_ | refine x_fa ?_ | refine x_far ?_)
    all_goals refine oc ?_
    all_goals (first | refine x_ld ?_ | refine x_ldr ?_)
    all_goals refine oc ?_
    all_goals (refine op_callA rfl rfl rfl rfl rfl ⟨_, Try.func23, by decide, rfl⟩ (.cons (.pure rfl) (.cons .fn0 .nil)) (idxV_c c.data 34 (fun v => !validV v) (by first | omega | (simp; omega)) ⟨_, Try.func34, by decide, rfl⟩ (fun x hx => formedc_w x (hv x hx))) shut0 ?_; rintro r H' m ⟨rfl, rfl⟩)
    all_goals refine oc ?_
    all_goals (first | refine op_not_d rfl rfl rfl ?_ | refine x_not ?_)
    all_goals refine oc (x_assign ?_)
    all_goals refine ops_nil ?_
    all_goals refine seqQ_n ?_
    all_goals refine tri_ret ?_
    all_goals refine retE_r [] (.cons (.tmp (by conv => lhs; whnf) rfl) .nil) rfl rfl (by first | exact (ren_pure (by rfl)).trans (by conv => lhs; whnf) | ((conv => lhs; whnf); done) | rfl) (.nil) ?_
    all_goals (
     refine ⟨congrArg (fun b => AV.val (Value.bool b)) (Eq.symm ?_), rfl⟩
     first
     | (simp only [formed]; simp_all; done)
     | exact formed_no_len hc
     | exact formed_no_range (by omega)
     | exact formed_no_name hss (by assumption) (by assumption)
     | exact formed_yes (by omega) hall (by omega)))
  all_goals refine seqQ_n ?_
  all_goals refine tri_seq ?_
  all_goals refine tri_block ?_
  all_goals refine tri_seq ?_
  all_goals refine tri_region ?_
  all_goals refine oc ?_
  all_goals (first | refine x_ia ?_ | refine x_iao0 ?_ | refine x_iao ?_)
  all_goals (
   obtain ⟨s, hss⟩ : ∃ s, [c.case, c.person, c.to][k]? = some s := ⟨[c.case, c.person, c.to][k]'(by simp; omega), by simp⟩
   have he : [sv c.case, sv c.person, sv c.to][k]? = some (sv s) := by have : [sv c.case, sv c.person, sv c.to] = [c.case, c.person, c.to].map sv := rfl; rw [this, List.getElem?_map, hss]; rfl
   have hsz : s.size ≤ 2 ^ 47 := by have := List.mem_of_getElem? hss; simp at this; rcases this with rfl | rfl | rfl <;> assumption)
  all_goals refine oc ?_
  all_goals (first | refine x_ld ?_ | refine x_ldr ?_)
  all_goals refine oc (x_assign ?_)
  all_goals refine ops_nil ?_
  all_goals refine seqQ_n ?_
  all_goals refine tri_seq ?_
  all_goals refine tri_region ?_
  all_goals refine oc (x_move ?_)
  all_goals refine oc (x_sneq ?_)
  all_goals refine oc (x_move ?_)
  all_goals (first | refine gU ?_ | refine gY ?_ | refine gN ?_ | refine ops_guardTd rfl rfl rfl rfl rfl rfl (fun hg => ?_) (fun hg => ?_) | refine gT (fun hg => ?_) (fun hg => ?_))
  all_goals try (exfalso; omega)
  all_goals (first | refine ops_here ?_ | (refine x_move ?_))
  all_goals (first | refine gU ?_ | refine gY ?_ | refine gN ?_ | refine ops_guardTd rfl rfl rfl rfl rfl rfl (fun hg => ?_) (fun hg => ?_) | refine gT (fun hg => ?_) (fun hg => ?_))
  all_goals try (exfalso; omega)
  all_goals (first | refine ops_here ?_ | (refine op_callA rfl rfl rfl rfl rfl ⟨_, Try.func33, by decide, rfl⟩ (.cons (.pure rfl) .nil) (isName_w _ (by omega)) shut0 ?_; rintro r H' m ⟨rfl, rfl⟩))
  all_goals (first | refine gU ?_ | refine gY ?_ | refine gN ?_ | refine ops_guardTd rfl rfl rfl rfl rfl rfl (fun hg => ?_) (fun hg => ?_) | refine gT (fun hg => ?_) (fun hg => ?_))
  all_goals try (exfalso; omega)
  all_goals (first | refine ops_here ?_ | (first | refine op_not_d rfl rfl rfl ?_ | refine x_not ?_))
  all_goals refine oc ?_
  all_goals (first | refine x_pt ?_ | refine x_pf ?_ | refine x_pb ?_)
  all_goals refine ops_nil ?_
  all_goals refine seqQ_n ?_
  all_goals (
   first | refine tri_cond_d rfl rfl (fun hc => ?_) (fun hc => ?_) | refine ct (fun hc => ?_) (fun hc => ?_) | refine cf (fun hc => ?_) (fun hc => ?_) | refine cb (fun hc => ?_) (fun hc => ?_)
   focus
    try (exfalso; first | exact hc | omega)
    all_goals refine tri_seq ?_
    all_goals refine tri_region ?_
    all_goals refine oc (x_assign ?_)
    all_goals refine ops_nil ?_
    all_goals refine seqQ_n ?_
    all_goals refine tri_ret ?_
    all_goals refine blockQ_r ?_
    all_goals refine seqQ_r ?_
    all_goals refine seqQ_r ?_
    all_goals refine blockQ_r ?_
    all_goals refine seqQ_r ?_
    all_goals refine retE_r [] (.cons (.tmp (by conv => lhs; whnf) rfl) .nil) rfl rfl (by first | exact (ren_pure (by rfl)).trans (by conv => lhs; whnf) | ((conv => lhs; whnf); done) | rfl) (.nil) ?_
    all_goals (
     refine ⟨congrArg (fun b => AV.val (Value.bool b)) (Eq.symm ?_), rfl⟩
     first
     | (simp only [formed]; simp_all; done)
     | exact formed_no_len hc
     | exact formed_no_range (by omega)
     | exact formed_no_name hss (by assumption) (by assumption)
     | exact formed_yes (by omega) hall (by omega))
   rotate_right 1
   focus
    try (exfalso; first | exact hc | omega)
    all_goals refine tri_skip ?_)
  all_goals refine blockQ_n ?_
  all_goals refine seqQ_n ?_
  all_goals refine tri_region ?_
  all_goals refine oc ?_
  all_goals (first | refine x_add64 ?_ | refine x_add ?_)
  all_goals refine oc (x_move ?_)
  all_goals refine ops_nil ?_
  all_goals refine seqQ_n ?_
  all_goals (exact ⟨⟨k+1, by omega, names_next hss hall (by first | exact nameB_1 (by assumption) | exact nameB_2 (by assumption))⟩, by dsimp only; omega, le_kept [0, 1] rfl rfl (fun _ _ h => by cases h) rfl ⟨by first | rfl | (simp; done) | (simp; omega) | (congr 2; omega), by first | rfl | (simp; done) | (simp; omega) | (congr 2; omega), by first | rfl | (simp; done) | (simp; omega) | (congr 2; omega), by first | rfl | (simp; done) | (simp; omega) | (congr 2; omega), trivial⟩ ⟨by first | rfl | (simp; done) | (simp; omega) | (congr 2; omega), by first | rfl | (simp; done) | (simp; omega) | (congr 2; omega), trivial⟩⟩))

end Go.Proofs.Ytjalgcjllddmhaa

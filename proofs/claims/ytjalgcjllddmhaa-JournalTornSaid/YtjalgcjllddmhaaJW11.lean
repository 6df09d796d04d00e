/- A text of the proof of JournalTorn: JW11 -/
import Derived.Test.YtjalgcjllddmhaaProg
import Derived.Test.YtjalgcjllddmhaaAvShort
import Derived.Test.YtjalgcjllddmhaaAvAppS
import Derived.Test.YtjalgcjllddmhaaAvSnap
import Derived.Test.YtjalgcjllddmhaaAvAny
import Derived.Test.YtjalgcjllddmhaaAvLit
import Derived.Test.YtjalgcjllddmhaaAvEq
import Derived.Test.YtjalgcjllddmhaaJSame

set_option linter.unusedSimpArgs false
set_option linter.unusedVariables false
set_option maxHeartbeats 8000000
set_option maxRecDepth 100000
namespace Go.Proofs.Ytjalgcjllddmhaa
open Go.Av
/-- the walk of casebook/casebookref48.same -/
theorem same_w (a b : List UInt8) (ha : a.length ≤ 2 ^ 47) (hb : b.length ≤ 2 ^ 47) : HSpec Try.prog 41 [.sl 1 (bytesAV a), .sl 1 (bytesAV b)] [] fun r H' _ => r = .val (.bool (a == b)) ∧ H' = [] := by
 refine hspec_intro Try.func41 rfl rfl ?_
 have hal := bytesAV_length a
 have hbl := bytesAV_length b
 all_goals refine tri_seq ?_
 all_goals refine tri_region ?_
 all_goals refine oc (x_assign ?_)
 all_goals refine ops_nil ?_
 all_goals refine seqQ_n ?_
 all_goals refine tri_seq ?_
 all_goals refine tri_seq ?_
 all_goals refine tri_region ?_
 all_goals refine oc (x_move ?_)
 all_goals refine oc ?_
 all_goals (first | refine op_len_sl rfl (by first | (conv => lhs; simp only [List.length_map, bytesAV_length]) | rfl) rfl rfl rfl ?_ | refine x_leno ?_ | refine x_lenn ?_)
 all_goals refine oc (x_move ?_)
 all_goals refine oc ?_
 all_goals (first | refine op_len_sl rfl (by first | (conv => lhs; simp only [List.length_map, bytesAV_length]) | rfl) rfl rfl rfl ?_ | refine x_leno ?_ | refine x_lenn ?_)
 all_goals refine oc (x_neq ?_)
 all_goals refine ops_nil ?_
 all_goals refine seqQ_n ?_
 all_goals (
  first | refine tri_cond_d rfl rfl (fun hc => ?_) (fun hc => ?_) | refine ct (fun hc => ?_) (fun hc => ?_) | refine cf (fun hc => ?_) (fun hc => ?_) | refine cb (fun hc => ?_) (fun hc => ?_)
  focus
   try (exfalso; first | exact hc | omega)
   all_goals refine tri_seq ?_
   all_goals refine tri_region ?_
   all_goals refine oc (x_assign ?_)
   all_goals refine ops_nil ?_
   all_goals refine seqQ_n ?_
   all_goals refine tri_ret ?_
   all_goals refine seqQ_r ?_
   all_goals refine retE_r [] (.cons (.tmp (by conv => lhs; whnf) rfl) .nil) rfl rfl (by first | exact (ren_pure (by rfl)).trans (by conv => lhs; whnf) | ((conv => lhs; whnf); done) | rfl) (.nil) ?_
   all_goals (
    refine ⟨congrArg (fun b => AV.val (Value.bool b)) (Eq.symm ?_), rfl⟩
    first
    | exact same_len (by omega)
    | exact same_no hx hy (by omega)
    | exact same_yes hk (by omega) (by omega))
  rotate_right 1
  focus
   try (exfalso; first | exact hc | omega)
   all_goals refine tri_skip ?_)
 all_goals refine seqQ_n ?_
 all_goals refine tri_seq ?_
 all_goals refine tri_seq ?_
 all_goals refine tri_region ?_
 all_goals refine oc (x_assign ?_)
 all_goals refine ops_nil ?_
 all_goals refine seqQ_n ?_
 all_goals refine tri_block ?_
 all_goals (
  refine tri_loop (X := { k : Nat // k ≤ a.length ∧ a.take k = b.take k }) (fun x => ⟨26, noM, [(0, .sl 1 (bytesAV a)), (1, .sl 1 (bytesAV b)), (5, iv x.1)], []⟩) (fun x => a.length - x.1) (⟨0, by simp⟩) (by exact le_kept [] rfl rfl (fun _ _ h => by cases h) rfl ⟨by first | rfl | (simp; done) | (simp; omega) | (congr 2; omega), by first | rfl | (simp; done) | (simp; omega) | (congr 2; omega), by first | rfl | (simp; done) | (simp; omega) | (congr 2; omega), trivial⟩ trivial) (fun x => ?_)
  obtain ⟨k, hkl, hk⟩ := x
  simp only
  all_goals refine tri_seq ?_
  all_goals refine tri_seq ?_
  all_goals refine tri_region ?_
  all_goals refine oc (x_move ?_)
  all_goals refine oc (x_move ?_)
  all_goals refine oc ?_
  all_goals (first | refine op_len_sl rfl (by first | (conv => lhs; simp only [List.length_map, bytesAV_length]) | rfl) rfl rfl rfl ?_ | refine x_leno ?_ | refine x_lenn ?_)
  all_goals refine oc (x_lss ?_)
  all_goals refine ops_nil ?_
  all_goals refine seqQ_n ?_
  all_goals (
   first | refine tri_cond_d rfl rfl (fun hc => ?_) (fun hc => ?_) | refine ct (fun hc => ?_) (fun hc => ?_) | refine cf (fun hc => ?_) (fun hc => ?_) | refine cb (fun hc => ?_) (fun hc => ?_)
   focus
    try (exfalso; first | exact hc | omega)
    all_goals refine tri_skip ?_
   rotate_right 1
   focus
    try (exfalso; first | exact hc | omega)
    all_goals refine tri_exit ?_
    all_goals refine seqQ_x ?_
    all_goals refine seqQ_x ?_
    all_goals refine blockQ_x ?_
    all_goals refine seqQ_n ?_
    all_goals refine tri_seq ?_
    all_goals refine tri_region ?_
    all_goals refine oc (x_assign ?_)
    all_goals refine ops_nil ?_
    all_goals refine seqQ_n ?_
    all_goals refine tri_ret ?_
    all_goals refine retE_r [] (.cons (.tmp (by conv => lhs; whnf) rfl) .nil) rfl rfl (by first | exact (ren_pure (by rfl)).trans (by conv => lhs; whnf) | ((conv => lhs; whnf); done) | rfl) (.nil) ?_
    all_goals (
     refine ⟨congrArg (fun b => AV.val (Value.bool b)) (Eq.symm ?_), rfl⟩
     first
     | exact same_len (by omega)
     | exact same_no hx hy (by omega)
     | exact same_yes hk (by omega) (by omega)))
  all_goals refine seqQ_n ?_
  all_goals refine tri_seq ?_
  all_goals refine tri_block ?_
  all_goals refine tri_seq ?_
  all_goals (
   obtain ⟨x, hx⟩ : ∃ x, a[k]? = some x := ⟨a[k]'(by omega), by simp⟩
   obtain ⟨y, hy⟩ : ∃ y, b[k]? = some y := ⟨b[k]'(by omega), by simp⟩
   have he : (bytesAV a)[k]? = some (.val (.int .u8 x.toNat)) := by simp [bytesAV, hx]
   have he2 : (bytesAV b)[k]? = some (.val (.int .u8 y.toNat)) := by simp [bytesAV, hy])
  all_goals (
   apply tri_anyCut (by rfl)
   focus
    all_goals refine x_tk 0 (opWF_move) ?_
    all_goals (refine x_move ?_)
    all_goals refine x_tk 1 (opWF_move) ?_
    all_goals (refine x_move ?_)
    all_goals refine x_tk 2 (opWF_indexAddr) ?_
    all_goals (first | refine x_ia ?_ | refine x_iao0 ?_ | refine x_iao ?_)
    all_goals refine x_tk 4 (opWF_move) ?_
    all_goals (refine x_move ?_)
    all_goals refine x_tk 5 (opWF_move) ?_
    all_goals (refine x_move ?_)
    all_goals refine x_tk 6 (opWF_indexAddr) ?_
    all_goals (first | refine x_ia ?_ | refine x_iao0 ?_ | refine x_iao ?_)
    all_goals (
     refine x_all2 3 7 ?_ ?_
     focus
      all_goals (first | refine x_ld ?_ | refine x_ldr ?_)
      all_goals (
       refine x_all1 7 ?_
       focus
        all_goals (first | refine x_ld ?_ | refine x_ldr ?_)
        all_goals refine x_tk 8 (opWF_bin rfl rfl rfl rfl) ?_
        all_goals (refine x_neq ?_)
        all_goals exact any_leaf (n := 26) [] [0, 1, 4, 5, 10, 14, 25] (by kernel_rfl) rfl rfl rfl (.c0 (.c0 (.c0 (.c0 (.c0 (.c0 (.c0 (.nil)))))))) (.nil))
     focus
      all_goals (first | refine x_ld ?_ | refine x_ldr ?_)
      all_goals (
       refine x_all1 3 ?_
       focus
        all_goals (first | refine x_ld ?_ | refine x_ldr ?_)
        all_goals refine x_tk 8 (opWF_bin rfl rfl rfl rfl) ?_
        all_goals (refine x_neq ?_)
        all_goals exact any_leaf (n := 26) [] [0, 1, 4, 5, 10, 14, 25] (by kernel_rfl) rfl rfl rfl (.c0 (.c0 (.c0 (.c0 (.c0 (.c0 (.c0 (.nil)))))))) (.nil))))
  all_goals refine seqQ_n ?_
  all_goals (
   first | refine tri_cond_d rfl rfl (fun hc => ?_) (fun hc => ?_) | refine ct (fun hc => ?_) (fun hc => ?_) | refine cf (fun hc => ?_) (fun hc => ?_) | refine cb (fun hc => ?_) (fun hc => ?_)
   focus
    try (exfalso; first | exact hc | omega)
    all_goals refine tri_seq ?_
    all_goals refine tri_region ?_
    all_goals refine oc (x_assign ?_)
    all_goals refine ops_nil ?_
    all_goals refine seqQ_n ?_
    all_goals refine tri_ret ?_
    all_goals refine blockQ_r ?_
    all_goals refine seqQ_r ?_
    all_goals refine seqQ_r ?_
    all_goals refine blockQ_r ?_
    all_goals refine seqQ_r ?_
    all_goals refine retE_r [] (.cons (.tmp (by conv => lhs; whnf) rfl) .nil) rfl rfl (by first | exact (ren_pure (by rfl)).trans (by conv => lhs; whnf) | ((conv => lhs; whnf); done) | rfl) (.nil) ?_
    all_goals (
     refine ⟨congrArg (fun b => AV.val (Value.bool b)) (Eq.symm ?_), rfl⟩
     first
     | exact same_len (by omega)
     | exact same_no hx hy (by omega)
     | exact same_yes hk (by omega) (by omega))
   rotate_right 1
   focus
    try (exfalso; first | exact hc | omega)
    all_goals refine tri_skip ?_)
  all_goals refine blockQ_n ?_
  all_goals refine seqQ_n ?_
  all_goals refine tri_region ?_
  all_goals refine oc (x_move ?_)
  all_goals refine oc ?_
  all_goals (first | refine x_add64 ?_ | refine x_add ?_)
  all_goals refine oc (x_assign ?_)
  all_goals refine ops_nil ?_
  all_goals refine seqQ_n ?_
  all_goals (exact ⟨⟨k + 1, by omega, take_nextB hx hy (by omega) hk⟩, by dsimp only; omega, le_kept [] rfl rfl (fun _ _ h => by cases h) rfl ⟨by first | rfl | (simp; done) | (simp; omega) | (congr 2; omega), by first | rfl | (simp; done) | (simp; omega) | (congr 2; omega), by first | rfl | (simp; done) | (simp; omega) | (congr 2; omega), trivial⟩ trivial⟩))

/-- the walk of casebook/casebookref48.Same -/
theorem Same_w (a b : Sto) (ha : a.bytes.length ≤ 2 ^ 47) (hb : b.bytes.length ≤ 2 ^ 47) : HSpec Try.prog 29 [stoAV a, stoAV b] [] fun r H' _ => r = .val (.bool (sameS a b)) ∧ H' = [] := by
 refine hspec_intro Try.func29 rfl rfl ?_
 all_goals refine tri_seq ?_
 all_goals refine tri_region ?_
 all_goals refine oc (x_bx 3 ?_)
 all_goals refine oc (x_bx 3 ?_)
 all_goals refine oc (x_assign ?_)
 all_goals refine ops_nil ?_
 all_goals refine seqQ_n ?_
 all_goals refine tri_seq ?_
 all_goals refine tri_region ?_
 all_goals refine oc ?_
 all_goals (first | refine x_fa0 ?_ | refine x_far0 ?_ | refine x_fa ?_ | refine x_far ?_)
 all_goals refine oc ?_
 all_goals (first | refine x_ld ?_ | refine x_ldr ?_)
 all_goals refine oc ?_
 all_goals (first | refine x_fa0 ?_ | refine x_far0 ?_ | refine x_fa ?_ | refine x_far ?_)
 all_goals refine oc ?_
 all_goals (first | refine x_ld ?_ | refine x_ldr ?_)
 all_goals refine oc ?_
 all_goals (refine op_callA rfl rfl rfl rfl rfl ⟨_, Try.func41, by decide, rfl⟩ (.cons (.pure rfl) (.cons (.pure rfl) .nil)) (same_w a.bytes b.bytes (by omega) (by omega)) shut0 ?_)
 all_goals (rintro _ H' m ⟨rfl, rfl⟩)
 all_goals refine oc (x_move ?_)
 all_goals (first | refine gU ?_ | refine gY ?_ | refine gN ?_ | refine ops_guardTd rfl rfl rfl rfl rfl rfl (fun hg => ?_) (fun hg => ?_) | refine gT (fun hg => ?_) (fun hg => ?_))
 all_goals try (exfalso; omega)
 all_goals (first | refine ops_here ?_ | (first | refine x_fa0 ?_ | refine x_far0 ?_ | refine x_fa ?_ | refine x_far ?_))
 all_goals (first | refine gU ?_ | refine gY ?_ | refine gN ?_ | refine ops_guardTd rfl rfl rfl rfl rfl rfl (fun hg => ?_) (fun hg => ?_) | refine gT (fun hg => ?_) (fun hg => ?_))
 all_goals try (exfalso; omega)
 all_goals (first | refine ops_here ?_ | (first | refine x_ld ?_ | refine x_ldr ?_))
 all_goals (first | refine gU ?_ | refine gY ?_ | refine gN ?_ | refine ops_guardTd rfl rfl rfl rfl rfl rfl (fun hg => ?_) (fun hg => ?_) | refine gT (fun hg => ?_) (fun hg => ?_))
 all_goals try (exfalso; omega)
 all_goals (first | refine ops_here ?_ | (first | refine x_fa0 ?_ | refine x_far0 ?_ | refine x_fa ?_ | refine x_far ?_))
 all_goals (first | refine gU ?_ | refine gY ?_ | refine gN ?_ | refine ops_guardTd rfl rfl rfl rfl rfl rfl (fun hg => ?_) (fun hg => ?_) | refine gT (fun hg => ?_) (fun hg => ?_))
 all_goals try (exfalso; omega)
 all_goals (first | refine ops_here ?_ | (first | refine x_ld ?_ | refine x_ldr ?_))
 all_goals (first | refine gU ?_ | refine gY ?_ | refine gN ?_ | refine ops_guardTd rfl rfl rfl rfl rfl rfl (fun hg => ?_) (fun hg => ?_) | refine gT (fun hg => ?_) (fun hg => ?_))
 all_goals try (exfalso; omega)
 all_goals (first | refine ops_here ?_ | (refine x_eql ?_))
 all_goals refine oc ?_
 all_goals (first | refine x_pt ?_ | refine x_pf ?_ | refine x_pb ?_)
 all_goals refine oc (x_move ?_)
 all_goals (first | refine gU ?_ | refine gY ?_ | refine gN ?_ | refine ops_guardTd rfl rfl rfl rfl rfl rfl (fun hg => ?_) (fun hg => ?_) | refine gT (fun hg => ?_) (fun hg => ?_))
 all_goals try (exfalso; omega)
 all_goals (first | refine ops_here ?_ | (first | refine x_fa0 ?_ | refine x_far0 ?_ | refine x_fa ?_ | refine x_far ?_))
 all_goals (first | refine gU ?_ | refine gY ?_ | refine gN ?_ | refine ops_guardTd rfl rfl rfl rfl rfl rfl (fun hg => ?_) (fun hg => ?_) | refine gT (fun hg => ?_) (fun hg => ?_))
 all_goals try (exfalso; omega)
 all_goals (first | refine ops_here ?_ | (first | refine x_ld ?_ | refine x_ldr ?_))
 all_goals (first | refine gU ?_ | refine gY ?_ | refine gN ?_ | refine ops_guardTd rfl rfl rfl rfl rfl rfl (fun hg => ?_) (fun hg => ?_) | refine gT (fun hg => ?_) (fun hg => ?_))
 all_goals try (exfalso; omega)
 all_goals (first | refine ops_here ?_ | (first | refine x_fa0 ?_ | refine x_far0 ?_ | refine x_fa ?_ | refine x_far ?_))
 all_goals (first | refine gU ?_ | refine gY ?_ | refine gN ?_ | refine ops_guardTd rfl rfl rfl rfl rfl rfl (fun hg => ?_) (fun hg => ?_) | refine gT (fun hg => ?_) (fun hg => ?_))
 all_goals try (exfalso; omega)
 all_goals (first | refine ops_here ?_ | (first | refine x_ld ?_ | refine x_ldr ?_))
 all_goals (first | refine gU ?_ | refine gY ?_ | refine gN ?_ | refine ops_guardTd rfl rfl rfl rfl rfl rfl (fun hg => ?_) (fun hg => ?_) | refine gT (fun hg => ?_) (fun hg => ?_))
 all_goals try (exfalso; omega)
 all_goals (first | refine ops_here ?_ | (refine x_eql ?_))
 all_goals refine oc ?_
 all_goals (first | refine x_pt ?_ | refine x_pf ?_ | refine x_pb ?_)
 all_goals refine oc (x_assign ?_)
 all_goals refine ops_nil ?_
 all_goals refine seqQ_n ?_
 all_goals refine tri_ret ?_
 all_goals refine retE_r [] (.cons (.tmp (by conv => lhs; whnf) rfl) .nil) rfl rfl (by first | exact (ren_pure (by rfl)).trans (by conv => lhs; whnf) | ((conv => lhs; whnf); done) | rfl) (.nil) ?_
 all_goals (refine ⟨congrArg (fun b => AV.val (Value.bool b)) (Eq.symm ?_), rfl⟩; simp only [sameS]; simp_all)

/-- the walk of casebook/casebooklaw48.none -/
theorem none_w (a : Sto) (ha : a.bytes.length ≤ 2 ^ 47) : HSpec Try.prog 16 [stoAV a] [] fun r H' _ => r = .val (.bool (sameS a zeroSto)) ∧ H' = [] := by
 refine hspec_intro Try.func16 rfl rfl ?_
 all_goals refine tri_seq ?_
 all_goals refine tri_region ?_
 all_goals refine oc (x_bx 3 ?_)
 all_goals refine oc (x_assign ?_)
 all_goals refine ops_nil ?_
 all_goals refine seqQ_n ?_
 all_goals refine tri_seq ?_
 all_goals refine tri_region ?_
 all_goals refine oc ?_
 all_goals (first | refine x_lda ?_ | refine x_ldra ?_ | refine x_ldp ?_ | refine x_ldrp ?_)
 all_goals refine oc (x_b0_3 ?_)
 all_goals refine oc ?_
 all_goals (refine op_callA rfl rfl rfl rfl rfl ⟨_, Try.func29, by decide, rfl⟩ (.cons (.pure rfl) (.cons (.agg (.cons (SnapR.nil (sz := 1)) (.cons (.pure rfl) (.cons (.pure rfl) .nil)))) .nil)) (Same_w a zeroSto ha (by decide)) shut0 ?_)
 all_goals (rintro _ H' m ⟨rfl, rfl⟩)
 all_goals refine oc (x_assign ?_)
 all_goals refine ops_nil ?_
 all_goals refine seqQ_n ?_
 all_goals refine tri_ret ?_
 all_goals refine retE_r [] (.cons (.tmp (by conv => lhs; whnf) rfl) .nil) rfl rfl (by first | exact (ren_pure (by rfl)).trans (by conv => lhs; whnf) | ((conv => lhs; whnf); done) | rfl) (.nil) ?_
 all_goals (exact ⟨rfl, rfl⟩)

end Go.Proofs.Ytjalgcjllddmhaa

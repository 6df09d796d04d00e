/- A text of the proof of JournalTorn: JW2 -/
import Derived.Test.YtjalgcjllddmhaaProg
import Derived.Test.YtjalgcjllddmhaaAvShort
import Derived.Test.YtjalgcjllddmhaaAvAppS
import Derived.Test.YtjalgcjllddmhaaAvSnap
import Derived.Test.YtjalgcjllddmhaaAvAny
import Derived.Test.YtjalgcjllddmhaaAvLit
import Derived.Test.YtjalgcjllddmhaaJRead

set_option linter.unusedSimpArgs false
set_option linter.unusedVariables false
set_option maxHeartbeats 8000000
set_option maxRecDepth 100000
namespace Go.Proofs.Ytjalgcjllddmhaa
open Go.Av
/-- the walk of (*casebook/journal.reader).number -/
theorem rdNum_w (r : Rd) (hl : r.b.length ≤ 2 ^ 47) : HSpec Try.prog 37 [.ptr 0 2 0 0] [rdO r] fun v H' m => v = iv (rdNum r).1 ∧ H' = [rdO (rdNum r).2] ∧ m 0 = some 0 := by
 refine hspec_intro Try.func37 rfl rfl ?_
 all_goals refine tri_seq ?_
 all_goals refine tri_region ?_
 all_goals refine oc (x_assign ?_)
 all_goals refine ops_nil ?_
 all_goals refine seqQ_n ?_
 all_goals refine tri_seq ?_
 all_goals refine tri_region ?_
 all_goals refine oc (x_assign ?_)
 all_goals refine ops_nil ?_
 all_goals refine seqQ_n ?_
 all_goals refine tri_seq ?_
 all_goals refine tri_seq ?_
 all_goals refine tri_region ?_
 all_goals refine oc (x_move ?_)
 all_goals refine oc ?_
 all_goals (first | refine op_nilCheck_ptr rfl rfl rfl ?_ | refine op_nilCheck_rp rfl rfl rfl ?_)
 all_goals refine oc ?_
 all_goals (first | refine x_fa0 ?_ | refine x_far0 ?_ | refine x_fa ?_ | refine x_far ?_)
 all_goals refine oc ?_
 all_goals (first | refine x_ld ?_ | refine x_ldr ?_)
 all_goals refine oc ?_
 all_goals (first | refine op_len_sl rfl (by first | (conv => lhs; simp only [List.length_map, bytesAV_length]) | rfl) rfl rfl rfl ?_ | refine x_leno ?_ | refine x_lenn ?_)
 all_goals refine oc (x_move ?_)
 all_goals refine ops_nil ?_
 all_goals refine seqQ_n ?_
 all_goals refine tri_block ?_
 all_goals (
  refine tri_loop (X := { p : Nat × Nat // p.2 ≤ 8 ∧ p.2 ≤ r.b.length ∧ p.1 < 128 ^ p.2 ∧ num 8 r.b = (num (8 - p.2) (r.b.drop p.2)).map fun q => (p.1 + 128 ^ p.2 * q.1, q.2) }) (fun x => ⟨43, keepMap [0], [(0, .ptr 0 2 0 0), (3, iv x.1.1), (9, .sl 1 (bytesAV r.b)), (10, iv r.b.length), (11, iv x.1.2)], [.mk 68 true false 2 [.agg [.sl 1 (bytesAV r.b), bv r.bad]]]⟩) (fun x => r.b.length - x.1.2) (⟨(0, 0), by simp⟩) (by exact le_kept [0] rfl rfl keep0 rfl ⟨by first | rfl | ((conv => lhs; whnf); simp [*]; done) | ((conv => lhs; whnf); rw [and127, or_group (by omega) hA (by omega)]; done), by first | rfl | ((conv => lhs; whnf); simp [*]; done) | ((conv => lhs; whnf); rw [and127, or_group (by omega) hA (by omega)]; done), by first | rfl | ((conv => lhs; whnf); simp [*]; done) | ((conv => lhs; whnf); rw [and127, or_group (by omega) hA (by omega)]; done), by first | rfl | ((conv => lhs; whnf); simp [*]; done) | ((conv => lhs; whnf); rw [and127, or_group (by omega) hA (by omega)]; done), by first | rfl | ((conv => lhs; whnf); simp [*]; done) | ((conv => lhs; whnf); rw [and127, or_group (by omega) hA (by omega)]; done), trivial⟩ ⟨by first | rfl | ((conv => lhs; whnf); simp [*]; done) | ((conv => lhs; whnf); rw [and127, or_group (by omega) hA (by omega)]; done), trivial⟩) (fun x => ?_)
  obtain ⟨⟨A, i⟩, hi8, hi, hA, hx⟩ := x
  simp only at hi8 hi hA hx ⊢
  all_goals refine tri_seq ?_
  all_goals refine tri_region ?_
  all_goals refine oc (x_lss ?_)
  all_goals refine ops_nil ?_
  all_goals refine seqQ_n ?_
  all_goals refine tri_seq ?_
  all_goals (
   first | refine tri_cond_d rfl rfl (fun hc => ?_) (fun hc => ?_) | refine ct (fun hc => ?_) (fun hc => ?_) | refine cf (fun hc => ?_) (fun hc => ?_) | refine cb (fun hc => ?_) (fun hc => ?_)
   focus
    try (exfalso; first | exact hc | omega)
    all_goals refine tri_skip ?_
   rotate_right 1
   focus
    try (exfalso; first | exact hc | omega)
    all_goals refine tri_exit ?_
    all_goals refine seqQ_x ?_
    all_goals refine seqQ_x ?_
    all_goals refine blockQ_x ?_
    all_goals refine seqQ_n ?_
    all_goals refine tri_seq ?_
    all_goals refine tri_region ?_
    all_goals refine oc (x_move ?_)
    all_goals refine oc ?_
    all_goals (first | refine op_nilCheck_ptr rfl rfl rfl ?_ | refine op_nilCheck_rp rfl rfl rfl ?_)
    all_goals refine oc ?_
    all_goals (first | refine x_fa0 ?_ | refine x_far0 ?_ | refine x_fa ?_ | refine x_far ?_)
    all_goals refine oc ?_
    all_goals (first | refine x_st ?_ | refine x_ste ?_)
    all_goals refine ops_nil ?_
    all_goals refine seqQ_n ?_
    all_goals refine tri_seq ?_
    all_goals refine tri_region ?_
    all_goals refine oc (x_assign ?_)
    all_goals refine ops_nil ?_
    all_goals refine seqQ_n ?_
    all_goals refine tri_ret ?_
    all_goals refine retE_r [0] (.cons (.tmp (by conv => lhs; whnf) rfl) .nil) rfl rfl (by first | exact (ren_pure (by rfl)).trans (by conv => lhs; whnf) | ((conv => lhs; whnf); done) | rfl) (.c0 (.nil)) ?_
    all_goals (
     first
     | exact num_fail (.inr (by omega)) hx
     | exact num_fail (.inl (by omega)) hx
     | (have hv := num_found (by omega) hA hcc (by omega) hx
        refine ⟨?_, ?_, rfl⟩
        · rw [hv, and127, or_group (by omega) hA (by omega)]
        · rw [hv]; first | done | rfl)))
  all_goals refine seqQ_n ?_
  all_goals refine tri_seq ?_
  all_goals refine tri_block ?_
  all_goals refine tri_seq ?_
  all_goals refine tri_region ?_
  all_goals refine oc (x_move ?_)
  all_goals (
   obtain ⟨c, hcc⟩ : ∃ c, r.b[i]? = some c := ⟨r.b[i]'(by omega), by simp⟩
   have he : (bytesAV r.b)[i]? = some (.val (.int .u8 c.toNat)) := by simp [bytesAV, hcc])
  all_goals refine oc ?_
  all_goals (first | refine x_ia ?_ | refine x_iao0 ?_ | refine x_iao ?_)
  all_goals refine oc ?_
  all_goals (first | refine x_ld ?_ | refine x_ldr ?_)
  all_goals refine oc (x_assign ?_)
  all_goals refine oc (x_assign ?_)
  all_goals refine ops_nil ?_
  all_goals refine seqQ_n ?_
  all_goals refine tri_seq ?_
  all_goals refine tri_seq ?_
  all_goals refine tri_region ?_
  all_goals refine oc (x_move ?_)
  all_goals refine oc (x_eql ?_)
  all_goals refine ops_nil ?_
  all_goals refine seqQ_n ?_
  all_goals (
   first | refine tri_cond_d rfl rfl (fun hc => ?_) (fun hc => ?_) | refine ct (fun hc => ?_) (fun hc => ?_) | refine cf (fun hc => ?_) (fun hc => ?_) | refine cb (fun hc => ?_) (fun hc => ?_)
   focus
    try (exfalso; first | exact hc | omega)
    all_goals refine tri_exit ?_
    all_goals refine seqQ_x ?_
    all_goals refine blockQ_o rfl ?_
    all_goals refine seqQ_x ?_
    all_goals refine seqQ_x ?_
    all_goals refine blockQ_x ?_
    all_goals refine seqQ_n ?_
    all_goals refine tri_seq ?_
    all_goals refine tri_region ?_
    all_goals refine oc (x_move ?_)
    all_goals refine oc ?_
    all_goals (first | refine op_nilCheck_ptr rfl rfl rfl ?_ | refine op_nilCheck_rp rfl rfl rfl ?_)
    all_goals refine oc ?_
    all_goals (first | refine x_fa0 ?_ | refine x_far0 ?_ | refine x_fa ?_ | refine x_far ?_)
    all_goals refine oc ?_
    all_goals (first | refine x_st ?_ | refine x_ste ?_)
    all_goals refine ops_nil ?_
    all_goals refine seqQ_n ?_
    all_goals refine tri_seq ?_
    all_goals refine tri_region ?_
    all_goals refine oc (x_assign ?_)
    all_goals refine ops_nil ?_
    all_goals refine seqQ_n ?_
    all_goals refine tri_ret ?_
    all_goals refine retE_r [0] (.cons (.tmp (by conv => lhs; whnf) rfl) .nil) rfl rfl (by first | exact (ren_pure (by rfl)).trans (by conv => lhs; whnf) | ((conv => lhs; whnf); done) | rfl) (.c0 (.nil)) ?_
    all_goals (
     first
     | exact num_fail (.inr (by omega)) hx
     | exact num_fail (.inl (by omega)) hx
     | (have hv := num_found (by omega) hA hcc (by omega) hx
        refine ⟨?_, ?_, rfl⟩
        · rw [hv, and127, or_group (by omega) hA (by omega)]
        · rw [hv]; first | done | rfl))
   rotate_right 1
   focus
    try (exfalso; first | exact hc | omega)
    all_goals refine tri_skip ?_)
  all_goals refine seqQ_n ?_
  all_goals refine tri_seq ?_
  all_goals refine tri_region ?_
  all_goals refine oc (x_move ?_)
  all_goals refine oc (x_move ?_)
  all_goals refine oc (x_and ?_)
  all_goals refine oc ?_
  all_goals (first | refine x_ci64 ?_ | refine x_ci ?_)
  all_goals refine oc (x_move ?_)
  all_goals refine oc ?_
  all_goals (first | refine x_mul64 ?_ | refine x_mul ?_)
  all_goals refine oc (x_shl ?_)
  all_goals refine oc (x_or ?_)
  all_goals refine oc (x_assign ?_)
  all_goals refine ops_nil ?_
  all_goals refine seqQ_n ?_
  all_goals refine tri_seq ?_
  all_goals refine tri_region ?_
  all_goals refine oc (x_move ?_)
  all_goals refine oc (x_lss ?_)
  all_goals refine ops_nil ?_
  all_goals refine seqQ_n ?_
  all_goals (
   first | refine tri_cond_d rfl rfl (fun hc => ?_) (fun hc => ?_) | refine ct (fun hc => ?_) (fun hc => ?_) | refine cf (fun hc => ?_) (fun hc => ?_) | refine cb (fun hc => ?_) (fun hc => ?_)
   focus
    try (exfalso; first | exact hc | omega)
    all_goals refine tri_seq ?_
    all_goals refine tri_region ?_
    all_goals refine oc (x_move ?_)
    all_goals refine oc (x_move ?_)
    all_goals refine oc ?_
    all_goals (first | refine op_nilCheck_ptr rfl rfl rfl ?_ | refine op_nilCheck_rp rfl rfl rfl ?_)
    all_goals refine oc ?_
    all_goals (first | refine x_fa0 ?_ | refine x_far0 ?_ | refine x_fa ?_ | refine x_far ?_)
    all_goals refine oc ?_
    all_goals (first | refine x_ld ?_ | refine x_ldr ?_)
    all_goals refine oc (x_move ?_)
    all_goals refine oc ?_
    all_goals (first | refine x_add64 ?_ | refine x_add ?_)
    all_goals refine oc ?_
    all_goals (first | refine op_slice_sl rfl rfl rfl rfl rfl (.to rfl rfl (by first | rw [Int.toNat_natCast] | rw [Int.toNat_zero] | rw [Int.toNat_one] | rw [Int.toNat_ofNat] | exact rfl) (by omega)) .none (by first | omega | simp; omega) (by first | omega | simp; omega) (by conv => lhs; first | rw [sub1] | rw [sub2] | rw [sub3] | skip) ?_ | refine op_slice_osl rfl rfl rfl rfl rfl (.to rfl rfl (by first | rw [Int.toNat_natCast] | rw [Int.toNat_zero] | rw [Int.toNat_one] | rw [Int.toNat_ofNat] | exact rfl) (by omega)) .none (by first | omega | simp) (by omega) ?_)
    all_goals refine oc ?_
    all_goals (first | refine op_nilCheck_ptr rfl rfl rfl ?_ | refine op_nilCheck_rp rfl rfl rfl ?_)
    all_goals refine oc ?_
    all_goals (first | refine x_fa0 ?_ | refine x_far0 ?_ | refine x_fa ?_ | refine x_far ?_)
    all_goals refine oc ?_
    all_goals (first | refine x_st ?_ | refine x_ste ?_)
    all_goals refine ops_nil ?_
    all_goals refine seqQ_n ?_
    all_goals refine tri_seq ?_
    all_goals refine tri_region ?_
    all_goals refine oc (x_move ?_)
    all_goals refine oc (x_assign ?_)
    all_goals refine ops_nil ?_
    all_goals refine seqQ_n ?_
    all_goals refine tri_ret ?_
    all_goals refine blockQ_r ?_
    all_goals refine seqQ_r ?_
    all_goals refine seqQ_r ?_
    all_goals refine blockQ_r ?_
    all_goals refine seqQ_r ?_
    all_goals refine retE_r [0] (.cons (.tmp (by conv => lhs; whnf) rfl) .nil) rfl rfl (by first | exact (ren_pure (by rfl)).trans (by conv => lhs; whnf) | ((conv => lhs; whnf); done) | rfl) (.c0 (.nil)) ?_
    all_goals (
     first
     | exact num_fail (.inr (by omega)) hx
     | exact num_fail (.inl (by omega)) hx
     | (have hv := num_found (by omega) hA hcc (by omega) hx
        refine ⟨?_, ?_, rfl⟩
        · rw [hv, and127, or_group (by omega) hA (by omega)]
        · rw [hv]; first | done | rfl))
   rotate_right 1
   focus
    try (exfalso; first | exact hc | omega)
    all_goals refine tri_skip ?_)
  all_goals refine blockQ_n ?_
  all_goals refine seqQ_n ?_
  all_goals refine tri_region ?_
  all_goals refine oc ?_
  all_goals (first | refine x_add64 ?_ | refine x_add ?_)
  all_goals refine oc (x_move ?_)
  all_goals refine ops_nil ?_
  all_goals refine seqQ_n ?_
  all_goals (exact ⟨⟨(A + 128 ^ i * (c.toNat % 128), i + 1), num_next (by omega) hA hcc (by omega) hx⟩, by dsimp only; omega, le_kept [0] rfl rfl keep00 rfl ⟨by first | rfl | ((conv => lhs; whnf); simp [*]; done) | ((conv => lhs; whnf); rw [and127, or_group (by omega) hA (by omega)]; done), by first | rfl | ((conv => lhs; whnf); simp [*]; done) | ((conv => lhs; whnf); rw [and127, or_group (by omega) hA (by omega)]; done), by first | rfl | ((conv => lhs; whnf); simp [*]; done) | ((conv => lhs; whnf); rw [and127, or_group (by omega) hA (by omega)]; done), by first | rfl | ((conv => lhs; whnf); simp [*]; done) | ((conv => lhs; whnf); rw [and127, or_group (by omega) hA (by omega)]; done), by first | rfl | ((conv => lhs; whnf); simp [*]; done) | ((conv => lhs; whnf); rw [and127, or_group (by omega) hA (by omega)]; done), trivial⟩ ⟨by first | rfl | ((conv => lhs; whnf); simp [*]; done) | ((conv => lhs; whnf); rw [and127, or_group (by omega) hA (by omega)]; done), trivial⟩⟩))

/-- the walk of (*casebook/journal.reader).take -/
theorem rdTake_w (r : Rd) (n : Nat) (hn : n < 2 ^ 57) (hl : r.b.length ≤ 2 ^ 47) : HSpec Try.prog 36 [.ptr 0 2 0 0, iv n] [rdO r] fun v H' m => v = .sl 1 (bytesAV (rdTake n r).1) ∧ H' = [rdO (rdTake n r).2] ∧ m 0 = some 0 := by
 refine hspec_intro Try.func36 rfl rfl ?_
 all_goals refine tri_seq ?_
 all_goals refine tri_region ?_
 all_goals refine oc (x_assign ?_)
 all_goals refine ops_nil ?_
 all_goals refine seqQ_n ?_
 all_goals refine tri_seq ?_
 all_goals refine tri_seq ?_
 all_goals refine tri_region ?_
 all_goals refine oc (x_move ?_)
 all_goals refine oc ?_
 all_goals (first | refine op_nilCheck_ptr rfl rfl rfl ?_ | refine op_nilCheck_rp rfl rfl rfl ?_)
 all_goals refine oc ?_
 all_goals (first | refine x_fa0 ?_ | refine x_far0 ?_ | refine x_fa ?_ | refine x_far ?_)
 all_goals refine oc ?_
 all_goals (first | refine x_ld ?_ | refine x_ldr ?_)
 all_goals refine oc (x_move ?_)
 all_goals (first | refine gU ?_ | refine gY ?_ | refine gN ?_ | refine ops_guardFd rfl rfl rfl rfl rfl rfl (fun hg => ?_) (fun hg => ?_) | refine gF (fun hg => ?_) (fun hg => ?_))
 all_goals try (exfalso; omega)
 all_goals (first | refine ops_here ?_ | (refine x_move ?_))
 all_goals (first | refine gU ?_ | refine gY ?_ | refine gN ?_ | refine ops_guardFd rfl rfl rfl rfl rfl rfl (fun hg => ?_) (fun hg => ?_) | refine gF (fun hg => ?_) (fun hg => ?_))
 all_goals try (exfalso; omega)
 all_goals (first | refine ops_here ?_ | (refine x_move ?_))
 all_goals (first | refine gU ?_ | refine gY ?_ | refine gN ?_ | refine ops_guardFd rfl rfl rfl rfl rfl rfl (fun hg => ?_) (fun hg => ?_) | refine gF (fun hg => ?_) (fun hg => ?_))
 all_goals try (exfalso; omega)
 all_goals (first | refine ops_here ?_ | (first | refine op_nilCheck_ptr rfl rfl rfl ?_ | refine op_nilCheck_rp rfl rfl rfl ?_))
 all_goals (first | refine gU ?_ | refine gY ?_ | refine gN ?_ | refine ops_guardFd rfl rfl rfl rfl rfl rfl (fun hg => ?_) (fun hg => ?_) | refine gF (fun hg => ?_) (fun hg => ?_))
 all_goals try (exfalso; omega)
 all_goals (first | refine ops_here ?_ | (first | refine x_fa0 ?_ | refine x_far0 ?_ | refine x_fa ?_ | refine x_far ?_))
 all_goals (first | refine gU ?_ | refine gY ?_ | refine gN ?_ | refine ops_guardFd rfl rfl rfl rfl rfl rfl (fun hg => ?_) (fun hg => ?_) | refine gF (fun hg => ?_) (fun hg => ?_))
 all_goals try (exfalso; omega)
 all_goals (first | refine ops_here ?_ | (first | refine x_ld ?_ | refine x_ldr ?_))
 all_goals (first | refine gU ?_ | refine gY ?_ | refine gN ?_ | refine ops_guardFd rfl rfl rfl rfl rfl rfl (fun hg => ?_) (fun hg => ?_) | refine gF (fun hg => ?_) (fun hg => ?_))
 all_goals try (exfalso; omega)
 all_goals (first | refine ops_here ?_ | (first | refine op_len_sl rfl (by first | (conv => lhs; simp only [List.length_map, bytesAV_length]) | rfl) rfl rfl rfl ?_ | refine x_leno ?_ | refine x_lenn ?_))
 all_goals (first | refine gU ?_ | refine gY ?_ | refine gN ?_ | refine ops_guardFd rfl rfl rfl rfl rfl rfl (fun hg => ?_) (fun hg => ?_) | refine gF (fun hg => ?_) (fun hg => ?_))
 all_goals try (exfalso; omega)
 all_goals (first | refine ops_here ?_ | (refine x_gtr ?_))
 all_goals refine oc ?_
 all_goals (first | refine x_pt ?_ | refine x_pf ?_ | refine x_pb ?_)
 all_goals refine ops_nil ?_
 all_goals refine seqQ_n ?_
 all_goals (
  first | refine tri_cond_d rfl rfl (fun hc => ?_) (fun hc => ?_) | refine ct (fun hc => ?_) (fun hc => ?_) | refine cf (fun hc => ?_) (fun hc => ?_) | refine cb (fun hc => ?_) (fun hc => ?_)
  focus
   try (exfalso; first | exact hc | omega)
   all_goals refine tri_seq ?_
   all_goals refine tri_region ?_
   all_goals refine oc (x_move ?_)
   all_goals refine oc ?_
   all_goals (first | refine op_nilCheck_ptr rfl rfl rfl ?_ | refine op_nilCheck_rp rfl rfl rfl ?_)
   all_goals refine oc ?_
   all_goals (first | refine x_fa0 ?_ | refine x_far0 ?_ | refine x_fa ?_ | refine x_far ?_)
   all_goals refine oc ?_
   all_goals (first | refine x_st ?_ | refine x_ste ?_)
   all_goals refine ops_nil ?_
   all_goals refine seqQ_n ?_
   all_goals refine tri_seq ?_
   all_goals refine tri_region ?_
   all_goals refine oc (x_assign ?_)
   all_goals refine ops_nil ?_
   all_goals refine seqQ_n ?_
   all_goals (refine tri_le (le_snapT 4 (by conv => lhs; whnf) rfl (by first | exact SnapR.nil (sz := 1) | exact .pure rfl)) ?_)
   all_goals refine tri_ret ?_
   all_goals refine seqQ_r ?_
   all_goals refine retE_r [0] (.cons (.tmp (by conv => lhs; whnf) rfl) .nil) rfl rfl (by first | exact (ren_pure (by rfl)).trans (by conv => lhs; whnf) | ((conv => lhs; whnf); done) | rfl) (.c0 (.nil)) ?_
   all_goals (
    first
    | (have hv : rdTake n r = ([], ⟨r.b, true⟩) := if_pos (by simp_all; try omega)
       rw [hv]; exact ⟨rfl, rfl, rfl⟩)
    | (have hv : rdTake n r = (r.b.take n, ⟨r.b.drop n, r.bad⟩) := if_neg (by simp_all; try omega)
       rw [hv]; exact ⟨rfl, rfl, rfl⟩))
  rotate_right 1
  focus
   try (exfalso; first | exact hc | omega)
   all_goals refine tri_skip ?_)
 all_goals refine seqQ_n ?_
 all_goals refine tri_seq ?_
 all_goals refine tri_region ?_
 all_goals refine oc (x_move ?_)
 all_goals refine oc ?_
 all_goals (first | refine op_nilCheck_ptr rfl rfl rfl ?_ | refine op_nilCheck_rp rfl rfl rfl ?_)
 all_goals refine oc ?_
 all_goals (first | refine x_fa0 ?_ | refine x_far0 ?_ | refine x_fa ?_ | refine x_far ?_)
 all_goals refine oc ?_
 all_goals (first | refine x_ld ?_ | refine x_ldr ?_)
 all_goals refine oc (x_move ?_)
 all_goals refine oc ?_
 all_goals (first | refine op_slice_sl rfl rfl rfl rfl rfl .none (.to rfl rfl (by first | rw [Int.toNat_natCast] | rw [Int.toNat_zero] | rw [Int.toNat_one] | rw [Int.toNat_ofNat] | exact rfl) (by omega)) (by first | omega | simp; omega) (by first | omega | simp; omega) (by conv => lhs; first | rw [sub1] | rw [sub2] | rw [sub3] | skip) ?_ | refine op_slice_osl rfl rfl rfl rfl rfl .none (.to rfl rfl (by first | rw [Int.toNat_natCast] | rw [Int.toNat_zero] | rw [Int.toNat_one] | rw [Int.toNat_ofNat] | exact rfl) (by omega)) (by first | omega | simp) (by omega) ?_)
 all_goals refine oc (x_assign ?_)
 all_goals refine ops_nil ?_
 all_goals refine seqQ_n ?_
 all_goals refine tri_seq ?_
 all_goals refine tri_region ?_
 all_goals refine oc (x_move ?_)
 all_goals refine oc (x_move ?_)
 all_goals refine oc ?_
 all_goals (first | refine op_nilCheck_ptr rfl rfl rfl ?_ | refine op_nilCheck_rp rfl rfl rfl ?_)
 all_goals refine oc ?_
 all_goals (first | refine x_fa0 ?_ | refine x_far0 ?_ | refine x_fa ?_ | refine x_far ?_)
 all_goals refine oc ?_
 all_goals (first | refine x_ld ?_ | refine x_ldr ?_)
 all_goals refine oc (x_move ?_)
 all_goals refine oc ?_
 all_goals (first | refine op_slice_sl rfl rfl rfl rfl rfl (.to rfl rfl (by first | rw [Int.toNat_natCast] | rw [Int.toNat_zero] | rw [Int.toNat_one] | rw [Int.toNat_ofNat] | exact rfl) (by omega)) .none (by first | omega | simp; omega) (by first | omega | simp; omega) (by conv => lhs; first | rw [sub1] | rw [sub2] | rw [sub3] | skip) ?_ | refine op_slice_osl rfl rfl rfl rfl rfl (.to rfl rfl (by first | rw [Int.toNat_natCast] | rw [Int.toNat_zero] | rw [Int.toNat_one] | rw [Int.toNat_ofNat] | exact rfl) (by omega)) .none (by first | omega | simp) (by omega) ?_)
 all_goals refine oc ?_
 all_goals (first | refine op_nilCheck_ptr rfl rfl rfl ?_ | refine op_nilCheck_rp rfl rfl rfl ?_)
 all_goals refine oc ?_
 all_goals (first | refine x_fa0 ?_ | refine x_far0 ?_ | refine x_fa ?_ | refine x_far ?_)
 all_goals refine oc ?_
 all_goals (first | refine x_st ?_ | refine x_ste ?_)
 all_goals refine ops_nil ?_
 all_goals refine seqQ_n ?_
 all_goals refine tri_seq ?_
 all_goals refine tri_region ?_
 all_goals refine oc (x_move ?_)
 all_goals refine oc (x_assign ?_)
 all_goals refine ops_nil ?_
 all_goals refine seqQ_n ?_
 all_goals (refine tri_le (le_snapT 4 (by conv => lhs; whnf) rfl (by first | exact SnapR.nil (sz := 1) | exact .pure rfl)) ?_)
 all_goals refine tri_ret ?_
 all_goals refine retE_r [0] (.cons (.tmp (by conv => lhs; whnf) rfl) .nil) rfl rfl (by first | exact (ren_pure (by rfl)).trans (by conv => lhs; whnf) | ((conv => lhs; whnf); done) | rfl) (.c0 (.nil)) ?_
 all_goals (
  first
  | (have hv : rdTake n r = ([], ⟨r.b, true⟩) := if_pos (by simp_all; try omega)
     rw [hv]; exact ⟨rfl, rfl, rfl⟩)
  | (have hv : rdTake n r = (r.b.take n, ⟨r.b.drop n, r.bad⟩) := if_neg (by simp_all; try omega)
     rw [hv]; exact ⟨rfl, rfl, rfl⟩))

/-- the walk of (*casebook/journal.reader).text -/
theorem rdText_w (r : Rd) (hl : r.b.length ≤ 2 ^ 47) : HSpec Try.prog 50 [.ptr 0 2 0 0] [rdO r] fun v H' m => v = sv ⟨(rdText r).1.toArray⟩ ∧ H' = [rdO (rdText r).2] ∧ m 0 = some 0 := by
 refine hspec_intro Try.func50 rfl rfl ?_
 all_goals refine tri_seq ?_
 all_goals refine tri_region ?_
 all_goals refine oc (x_assign ?_)
 all_goals refine ops_nil ?_
 all_goals refine seqQ_n ?_
 all_goals refine tri_seq ?_
 all_goals refine tri_region ?_
 all_goals refine oc (x_move ?_)
 all_goals refine oc (x_move ?_)
 all_goals refine oc ?_
 all_goals (refine lit_callG [0] [] rfl rfl rfl rfl rfl ⟨_, Try.func37, by decide, rfl⟩ rfl rfl (.cons (.own (by conv => lhs; whnf)) .nil) rfl (by rfl) (rdNum_w r hl) (by rintro r H' m ⟨rfl, rfl, hm⟩; exact hand_one (by simp) hm) (by first | exact (rfl : _ = 0) | exact (rfl : _ = 1) | exact (rfl : _ = 2) | exact (rfl : _ = 3) | exact (rfl : _ = 4) | exact (rfl : _ = 5) | exact (rfl : _ = 6) | exact (rfl : _ = 7) | exact (rfl : _ = 8) | exact (rfl : _ = 9) | exact (rfl : _ = 10) | exact (rfl : _ = 11)) (by conv => lhs; whnf) ?_)
 all_goals (rintro r H' m ⟨rfl, rfl, hm⟩)
 all_goals refine oc ?_
 all_goals (refine lit_callG [0] [] rfl rfl rfl rfl rfl ⟨_, Try.func36, by decide, rfl⟩ rfl rfl (.cons (.own (by conv => lhs; whnf)) (.cons (.snap (.pure rfl)) .nil)) rfl (by rfl) (rdTake_w (rdNum r).2 (rdNum r).1 (by have := rdNum_lt r; omega) (by have := rdNum_len r; omega)) (by rintro r H' m ⟨rfl, rfl, hm⟩; exact hand_one (by simp) hm) (by first | exact (rfl : _ = 0) | exact (rfl : _ = 1) | exact (rfl : _ = 2) | exact (rfl : _ = 3) | exact (rfl : _ = 4) | exact (rfl : _ = 5) | exact (rfl : _ = 6) | exact (rfl : _ = 7) | exact (rfl : _ = 8) | exact (rfl : _ = 9) | exact (rfl : _ = 10) | exact (rfl : _ = 11)) (by conv => lhs; whnf) ?_)
 all_goals (rintro r H' m ⟨rfl, rfl, hm⟩)
 all_goals refine oc ?_
 all_goals (refine op_conv_bytes (by conv => lhs; whnf) (by rfl) (by rfl) (by rfl) (by rfl) (by rfl) (by first | exact Src.sl | exact Src.own rfl (by conv => lhs; first | simp only [List.drop_zero, List.take_succ_cons, List.take_zero, List.take_nil, take_bytes] | whnf) (by first | omega | simp) | exact Src.nil) ?_)
 all_goals refine oc (x_assign ?_)
 all_goals refine ops_nil ?_
 all_goals refine seqQ_n ?_
 all_goals refine tri_ret ?_
 all_goals refine retE_r [0] (.cons (.tmp (by conv => lhs; whnf) rfl) .nil) rfl rfl (by first | exact (ren_pure (by rfl)).trans (by conv => lhs; whnf) | ((conv => lhs; whnf); done) | rfl) (.c0 (.nil)) ?_
 all_goals (exact ⟨rfl, rfl, rfl⟩)

end Go.Proofs.Ytjalgcjllddmhaa

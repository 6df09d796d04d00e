/- A text of the proof of JournalSurvives: JW11 -/
import Derived.Test.YtjalgcjllddmhaaProg
import Derived.Test.YtjalgcjllddmhaaAvAppS
import Derived.Test.YtjalgcjllddmhaaAvSnap
import Derived.Test.YtjalgcjllddmhaaAvAny
import Derived.Test.YtjalgcjllddmhaaAvLit
import Derived.Test.YtjalgcjllddmhaaAvEq
import Derived.Test.YtjalgcjllddmhaaJSame

set_option linter.unusedSimpArgs false
set_option linter.unusedVariables false
set_option maxHeartbeats 8000000
namespace Go.Proofs.Ytjalgcjllddmhaa
open Go.Av
/-- the walk of casebook/casebookref48.same -/
theorem same_w (a b : List UInt8) (ha : a.length ≤ 2 ^ 47) (hb : b.length ≤ 2 ^ 47) : HSpec Try.prog 41 [.sl 1 (bytesAV a), .sl 1 (bytesAV b)] [] fun r H' _ => r = .val (.bool (a == b)) ∧ H' = [] := by
  refine hspec_intro Try.func41 rfl rfl ?_
  have hal := bytesAV_length a
  have hbl := bytesAV_length b
  all_goals refine tri_seq ?_
  all_goals refine tri_region ?_
  all_goals refine ops_cons rfl ?_
  all_goals (refine op_assign (by conv => lhs; whnf) rfl rfl ?_)
  all_goals refine ops_nil ?_
  all_goals refine seqQ_n ?_
  all_goals refine tri_seq ?_
  all_goals refine tri_seq ?_
  all_goals refine tri_region ?_
  all_goals refine ops_cons rfl ?_
  all_goals (refine op_move (by conv => lhs; whnf) rfl rfl ?_)
  all_goals refine ops_cons rfl ?_
  all_goals (first | refine op_len_sl rfl (by first | (conv => lhs; simp only [List.length_map, bytesAV_length]) | rfl) rfl rfl rfl ?_ | refine op_len_osl rfl rfl rfl rfl ?_ | refine op_len_nil rfl rfl rfl rfl ?_)
  all_goals refine ops_cons rfl ?_
  all_goals (refine op_move (by conv => lhs; whnf) rfl rfl ?_)
  all_goals refine ops_cons rfl ?_
  all_goals (first | refine op_len_sl rfl (by first | (conv => lhs; simp only [List.length_map, bytesAV_length]) | rfl) rfl rfl rfl ?_ | refine op_len_osl rfl rfl rfl rfl ?_ | refine op_len_nil rfl rfl rfl rfl ?_)
  all_goals refine ops_cons rfl ?_
  all_goals (refine op_neq rfl rfl rfl rfl rfl ?_)
  all_goals refine ops_nil ?_
  all_goals refine seqQ_n ?_
  all_goals (
    first | refine tri_cond_d rfl rfl (fun hc => ?_) (fun hc => ?_) | refine tri_cond_t rfl rfl (fun hc => ?_) (fun hc => ?_) | refine tri_cond_f rfl rfl (fun hc => ?_) (fun hc => ?_) | refine tri_cond rfl rfl (fun hc => ?_) (fun hc => ?_)
    focus
      try (exfalso; first | exact hc | omega)
      all_goals refine tri_seq ?_
      all_goals refine tri_region ?_
      all_goals refine ops_cons rfl ?_
      all_goals (refine op_assign (by conv => lhs; whnf) rfl rfl ?_)
      all_goals refine ops_nil ?_
      all_goals refine seqQ_n ?_
      all_goals refine tri_ret ?_
      all_goals refine seqQ_r ?_
      all_goals refine retE_r [] (.cons (.tmp (by conv => lhs; whnf) rfl) .nil) rfl rfl (by first | exact (ren_pure (by rfl)).trans (by conv => lhs; whnf) | ((conv => lhs; whnf); done) | rfl) (.nil) ?_
      all_goals (
        refine ⟨congrArg (fun b => AV.val (Value.bool b)) (Eq.symm ?_), rfl⟩
        first
        | exact same_len (by omega)
        | exact same_no hx hy (by omega)
        | exact same_yes hk (by omega) (by omega))
    rotate_right 1
    focus
      try (exfalso; first | exact hc | omega)
      all_goals refine tri_skip ?_)
  all_goals refine seqQ_n ?_
  all_goals refine tri_seq ?_
  all_goals refine tri_seq ?_
  all_goals refine tri_region ?_
  all_goals refine ops_cons rfl ?_
  all_goals (refine op_assign (by conv => lhs; whnf) rfl rfl ?_)
  all_goals refine ops_nil ?_
  all_goals refine seqQ_n ?_
  all_goals refine tri_block ?_
  all_goals (
    refine tri_loop (X := { k : Nat // k ≤ a.length ∧ a.take k = b.take k }) (fun x => ⟨26, noM, [(0, .sl 1 (bytesAV a)), (1, .sl 1 (bytesAV b)), (5, iv x.1)], []⟩) (fun x => a.length - x.1) (⟨0, by simp⟩) (by exact le_kept [] rfl rfl (fun _ _ h => by cases h) rfl ⟨by first | rfl | (simp; done) | (simp; omega) | (congr 2; omega), by first | rfl | (simp; done) | (simp; omega) | (congr 2; omega), by first | rfl | (simp; done) | (simp; omega) | (congr 2; omega), trivial⟩ trivial) (fun x => ?_)
    obtain ⟨k, hkl, hk⟩ := x
    simp only
    all_goals refine tri_seq ?_
    all_goals refine tri_seq ?_
    all_goals refine tri_region ?_
    all_goals refine ops_cons rfl ?_
    all_goals (refine op_move (by conv => lhs; whnf) rfl rfl ?_)
    all_goals refine ops_cons rfl ?_
    all_goals (refine op_move (by conv => lhs; whnf) rfl rfl ?_)
    all_goals refine ops_cons rfl ?_
    all_goals (first | refine op_len_sl rfl (by first | (conv => lhs; simp only [List.length_map, bytesAV_length]) | rfl) rfl rfl rfl ?_ | refine op_len_osl rfl rfl rfl rfl ?_ | refine op_len_nil rfl rfl rfl rfl ?_)
    all_goals refine ops_cons rfl ?_
    all_goals (refine op_lss rfl rfl rfl rfl rfl ?_)
    all_goals refine ops_nil ?_
    all_goals refine seqQ_n ?_
    all_goals (
      first | refine tri_cond_d rfl rfl (fun hc => ?_) (fun hc => ?_) | refine tri_cond_t rfl rfl (fun hc => ?_) (fun hc => ?_) | refine tri_cond_f rfl rfl (fun hc => ?_) (fun hc => ?_) | refine tri_cond rfl rfl (fun hc => ?_) (fun hc => ?_)
      focus
        try (exfalso; first | exact hc | omega)
        all_goals refine tri_skip ?_
      rotate_right 1
      focus
        try (exfalso; first | exact hc | omega)
        all_goals refine tri_exit ?_
        all_goals refine seqQ_x ?_
        all_goals refine seqQ_x ?_
        all_goals refine blockQ_x ?_
        all_goals refine seqQ_n ?_
        all_goals refine tri_seq ?_
        all_goals refine tri_region ?_
        all_goals refine ops_cons rfl ?_
        all_goals (refine op_assign (by conv => lhs; whnf) rfl rfl ?_)
        all_goals refine ops_nil ?_
        all_goals refine seqQ_n ?_
        all_goals refine tri_ret ?_
        all_goals refine retE_r [] (.cons (.tmp (by conv => lhs; whnf) rfl) .nil) rfl rfl (by first | exact (ren_pure (by rfl)).trans (by conv => lhs; whnf) | ((conv => lhs; whnf); done) | rfl) (.nil) ?_
        all_goals (
          refine ⟨congrArg (fun b => AV.val (Value.bool b)) (Eq.symm ?_), rfl⟩
          first
          | exact same_len (by omega)
          | exact same_no hx hy (by omega)
          | exact same_yes hk (by omega) (by omega)))
    all_goals refine seqQ_n ?_
    all_goals refine tri_seq ?_
    all_goals refine tri_block ?_
    all_goals refine tri_seq ?_
    all_goals (
      obtain ⟨x, hx⟩ : ∃ x, a[k]? = some x := ⟨a[k]'(by omega), by simp⟩
      obtain ⟨y, hy⟩ : ∃ y, b[k]? = some y := ⟨b[k]'(by omega), by simp⟩
      have he : (bytesAV a)[k]? = some (.val (.int .u8 x.toNat)) := by simp [bytesAV, hx]
      have he2 : (bytesAV b)[k]? = some (.val (.int .u8 y.toNat)) := by simp [bytesAV, hy])
    all_goals (
      apply tri_anyCut (by rfl)
      focus
        all_goals refine any_take 0 rfl rfl (by kernel_rfl) (by kernel_rfl) (by kernel_rfl) (fun _ _ h => h) (by exact opWF_move) ?_
        all_goals (refine op_move (by conv => lhs; whnf) rfl rfl ?_)
        all_goals refine any_take 1 rfl rfl (by kernel_rfl) (by kernel_rfl) (by kernel_rfl) (fun _ _ h => h) (by exact opWF_move) ?_
        all_goals (refine op_move (by conv => lhs; whnf) rfl rfl ?_)
        all_goals refine any_take 2 rfl rfl (by kernel_rfl) (by kernel_rfl) (by kernel_rfl) (fun _ _ h => h) (by exact opWF_indexAddr) ?_
        all_goals (first | refine step_indexAddr_sl rfl rfl rfl rfl rfl rfl rfl (by first | rw [Int.toNat_natCast] | rw [Int.toNat_zero] | rw [Int.toNat_one] | rw [Int.toNat_ofNat] | exact rfl) (by omega) (by first | rfl | assumption | (simp; done)) (by conv => lhs; whnf) ?_ | refine step_indexAddr_osl0 rfl rfl rfl rfl rfl rfl rfl (by first | rw [Int.toNat_natCast] | rw [Int.toNat_zero] | rw [Int.toNat_one] | rw [Int.toNat_ofNat] | exact rfl) (by omega) (by omega) ?_ | refine step_indexAddr_osl rfl rfl rfl rfl rfl rfl rfl (by first | rw [Int.toNat_natCast] | rw [Int.toNat_zero] | rw [Int.toNat_one] | rw [Int.toNat_ofNat] | exact rfl) (by omega) (by omega) ?_)
        all_goals refine any_take 4 rfl rfl (by kernel_rfl) (by kernel_rfl) (by kernel_rfl) (fun _ _ h => h) (by exact opWF_move) ?_
        all_goals (refine op_move (by conv => lhs; whnf) rfl rfl ?_)
        all_goals refine any_take 5 rfl rfl (by kernel_rfl) (by kernel_rfl) (by kernel_rfl) (fun _ _ h => h) (by exact opWF_move) ?_
        all_goals (refine op_move (by conv => lhs; whnf) rfl rfl ?_)
        all_goals refine any_take 6 rfl rfl (by kernel_rfl) (by kernel_rfl) (by kernel_rfl) (fun _ _ h => h) (by exact opWF_indexAddr) ?_
        all_goals (first | refine step_indexAddr_sl rfl rfl rfl rfl rfl rfl rfl (by first | rw [Int.toNat_natCast] | rw [Int.toNat_zero] | rw [Int.toNat_one] | rw [Int.toNat_ofNat] | exact rfl) (by omega) (by first | rfl | assumption | (simp; done)) (by conv => lhs; whnf) ?_ | refine step_indexAddr_osl0 rfl rfl rfl rfl rfl rfl rfl (by first | rw [Int.toNat_natCast] | rw [Int.toNat_zero] | rw [Int.toNat_one] | rw [Int.toNat_ofNat] | exact rfl) (by omega) (by omega) ?_ | refine step_indexAddr_osl rfl rfl rfl rfl rfl rfl rfl (by first | rw [Int.toNat_natCast] | rw [Int.toNat_zero] | rw [Int.toNat_one] | rw [Int.toNat_ofNat] | exact rfl) (by omega) (by omega) ?_)
        all_goals (
          refine any_all (rs := [3, 7]) (by kernel_rfl) (by simp) (anyL_cons rfl rfl ?_ (anyL_cons rfl rfl ?_ anyL_nil))
          focus
            all_goals (first | refine op_load (by conv => lhs; whnf) (by rfl) (by rfl) (by first | ((conv => lhs; whnf; arg 1; whnf); done) | rfl | assumption | (simp; done)) (by rfl) (by first | ((conv => lhs; whnf; arg 1; whnf); done) | rfl | assumption | (simp; done)) (by first | ((conv => lhs; whnf; arg 1; whnf); done) | rfl | assumption | (simp; done)) (by rfl) ?_ | refine op_load_rp (by conv => lhs; whnf) (by rfl) (by rfl) (by first | ((conv => lhs; whnf; arg 1; whnf); done) | rfl | assumption | (simp; done)) (by rfl) ?_)
            all_goals (
              refine any_all (rs := [7]) (by kernel_rfl) (by simp) (anyL_cons rfl rfl ?_ anyL_nil)
              focus
                all_goals (first | refine op_load (by conv => lhs; whnf) (by rfl) (by rfl) (by first | ((conv => lhs; whnf; arg 1; whnf); done) | rfl | assumption | (simp; done)) (by rfl) (by first | ((conv => lhs; whnf; arg 1; whnf); done) | rfl | assumption | (simp; done)) (by first | ((conv => lhs; whnf; arg 1; whnf); done) | rfl | assumption | (simp; done)) (by rfl) ?_ | refine op_load_rp (by conv => lhs; whnf) (by rfl) (by rfl) (by first | ((conv => lhs; whnf; arg 1; whnf); done) | rfl | assumption | (simp; done)) (by rfl) ?_)
                all_goals refine any_take 8 rfl rfl (by kernel_rfl) (by kernel_rfl) (by kernel_rfl) (fun _ _ h => h) (by exact opWF_bin rfl rfl rfl rfl) ?_
                all_goals (refine op_neq rfl rfl rfl rfl rfl ?_)
                all_goals exact any_leaf (n := 26) [] [0, 1, 4, 5, 10, 14, 25] (by kernel_rfl) rfl rfl rfl (.cons (by first | exact (ren_pure (by rfl)).trans (by conv => lhs; whnf) | ((conv => lhs; whnf); done) | rfl) (.cons (by first | exact (ren_pure (by rfl)).trans (by conv => lhs; whnf) | ((conv => lhs; whnf); done) | rfl) (.cons (by first | exact (ren_pure (by rfl)).trans (by conv => lhs; whnf) | ((conv => lhs; whnf); done) | rfl) (.cons (by first | exact (ren_pure (by rfl)).trans (by conv => lhs; whnf) | ((conv => lhs; whnf); done) | rfl) (.cons (by first | exact (ren_pure (by rfl)).trans (by conv => lhs; whnf) | ((conv => lhs; whnf); done) | rfl) (.cons (by first | exact (ren_pure (by rfl)).trans (by conv => lhs; whnf) | ((conv => lhs; whnf); done) | rfl) (.cons (by first | exact (ren_pure (by rfl)).trans (by conv => lhs; whnf) | ((conv => lhs; whnf); done) | rfl) (.nil)))))))) (.nil))
          focus
            all_goals (first | refine op_load (by conv => lhs; whnf) (by rfl) (by rfl) (by first | ((conv => lhs; whnf; arg 1; whnf); done) | rfl | assumption | (simp; done)) (by rfl) (by first | ((conv => lhs; whnf; arg 1; whnf); done) | rfl | assumption | (simp; done)) (by first | ((conv => lhs; whnf; arg 1; whnf); done) | rfl | assumption | (simp; done)) (by rfl) ?_ | refine op_load_rp (by conv => lhs; whnf) (by rfl) (by rfl) (by first | ((conv => lhs; whnf; arg 1; whnf); done) | rfl | assumption | (simp; done)) (by rfl) ?_)
            all_goals (
              refine any_all (rs := [3]) (by kernel_rfl) (by simp) (anyL_cons rfl rfl ?_ anyL_nil)
              focus
                all_goals (first | refine op_load (by conv => lhs; whnf) (by rfl) (by rfl) (by first | ((conv => lhs; whnf; arg 1; whnf); done) | rfl | assumption | (simp; done)) (by rfl) (by first | ((conv => lhs; whnf; arg 1; whnf); done) | rfl | assumption | (simp; done)) (by first | ((conv => lhs; whnf; arg 1; whnf); done) | rfl | assumption | (simp; done)) (by rfl) ?_ | refine op_load_rp (by conv => lhs; whnf) (by rfl) (by rfl) (by first | ((conv => lhs; whnf; arg 1; whnf); done) | rfl | assumption | (simp; done)) (by rfl) ?_)
                all_goals refine any_take 8 rfl rfl (by kernel_rfl) (by kernel_rfl) (by kernel_rfl) (fun _ _ h => h) (by exact opWF_bin rfl rfl rfl rfl) ?_
                all_goals (refine op_neq rfl rfl rfl rfl rfl ?_)
                all_goals exact any_leaf (n := 26) [] [0, 1, 4, 5, 10, 14, 25] (by kernel_rfl) rfl rfl rfl (.cons (by first | exact (ren_pure (by rfl)).trans (by conv => lhs; whnf) | ((conv => lhs; whnf); done) | rfl) (.cons (by first | exact (ren_pure (by rfl)).trans (by conv => lhs; whnf) | ((conv => lhs; whnf); done) | rfl) (.cons (by first | exact (ren_pure (by rfl)).trans (by conv => lhs; whnf) | ((conv => lhs; whnf); done) | rfl) (.cons (by first | exact (ren_pure (by rfl)).trans (by conv => lhs; whnf) | ((conv => lhs; whnf); done) | rfl) (.cons (by first | exact (ren_pure (by rfl)).trans (by conv => lhs; whnf) | ((conv => lhs; whnf); done) | rfl) (.cons (by first | exact (ren_pure (by rfl)).trans (by conv => lhs; whnf) | ((conv => lhs; whnf); done) | rfl) (.cons (by first | exact (ren_pure (by rfl)).trans (by conv => lhs; whnf) | ((conv => lhs; whnf); done) | rfl) (.nil)))))))) (.nil))))
    all_goals refine seqQ_n ?_
    all_goals (
      first | refine tri_cond_d rfl rfl (fun hc => ?_) (fun hc => ?_) | refine tri_cond_t rfl rfl (fun hc => ?_) (fun hc => ?_) | refine tri_cond_f rfl rfl (fun hc => ?_) (fun hc => ?_) | refine tri_cond rfl rfl (fun hc => ?_) (fun hc => ?_)
      focus
        try (exfalso; first | exact hc | omega)
        all_goals refine tri_seq ?_
        all_goals refine tri_region ?_
        all_goals refine ops_cons rfl ?_
        all_goals (refine op_assign (by conv => lhs; whnf) rfl rfl ?_)
        all_goals refine ops_nil ?_
        all_goals refine seqQ_n ?_
        all_goals refine tri_ret ?_
        all_goals refine blockQ_r ?_
        all_goals refine seqQ_r ?_
        all_goals refine seqQ_r ?_
        all_goals refine blockQ_r ?_
        all_goals refine seqQ_r ?_
        all_goals refine retE_r [] (.cons (.tmp (by conv => lhs; whnf) rfl) .nil) rfl rfl (by first | exact (ren_pure (by rfl)).trans (by conv => lhs; whnf) | ((conv => lhs; whnf); done) | rfl) (.nil) ?_
        all_goals (
          refine ⟨congrArg (fun b => AV.val (Value.bool b)) (Eq.symm ?_), rfl⟩
          first
          | exact same_len (by omega)
          | exact same_no hx hy (by omega)
          | exact same_yes hk (by omega) (by omega))
      rotate_right 1
      focus
        try (exfalso; first | exact hc | omega)
        all_goals refine tri_skip ?_)
    all_goals refine blockQ_n ?_
    all_goals refine seqQ_n ?_
    all_goals refine tri_region ?_
    all_goals refine ops_cons rfl ?_
    all_goals (refine op_move (by conv => lhs; whnf) rfl rfl ?_)
    all_goals refine ops_cons rfl ?_
    all_goals (first | refine op_add64 rfl rfl rfl rfl rfl (by omega) ?_ | refine op_add rfl rfl rfl rfl rfl ?_)
    all_goals refine ops_cons rfl ?_
    all_goals (refine op_assign (by conv => lhs; whnf) rfl rfl ?_)
    all_goals refine ops_nil ?_
    all_goals refine seqQ_n ?_
    all_goals (exact ⟨⟨k + 1, by omega, take_nextB hx hy (by omega) hk⟩, by dsimp only; omega, le_kept [] rfl rfl (fun _ _ h => by cases h) rfl ⟨by first | rfl | (simp; done) | (simp; omega) | (congr 2; omega), by first | rfl | (simp; done) | (simp; omega) | (congr 2; omega), by first | rfl | (simp; done) | (simp; omega) | (congr 2; omega), trivial⟩ trivial⟩))

/-- the walk of casebook/casebookref48.Same -/
theorem Same_w (a b : Sto) (ha : a.bytes.length ≤ 2 ^ 47) (hb : b.bytes.length ≤ 2 ^ 47) : HSpec Try.prog 29 [stoAV a, stoAV b] [] fun r H' _ => r = .val (.bool (sameS a b)) ∧ H' = [] := by
  refine hspec_intro Try.func29 rfl rfl ?_
  all_goals refine tri_seq ?_
  all_goals refine tri_region ?_
  all_goals refine ops_cons rfl ?_
  all_goals (refine lit_box 3 (by conv => lhs; whnf) (by first | exact (rfl : _ = 0) | exact (rfl : _ = 1) | exact (rfl : _ = 2) | exact (rfl : _ = 3) | exact (rfl : _ = 4) | exact (rfl : _ = 5) | exact (rfl : _ = 6) | exact (rfl : _ = 7) | exact (rfl : _ = 8) | exact (rfl : _ = 9) | exact (rfl : _ = 10) | exact (rfl : _ = 11)) (by rfl) (by rfl) (by rfl) (by rfl) (by rfl) ?_)
  all_goals refine ops_cons rfl ?_
  all_goals (refine lit_box 3 (by conv => lhs; whnf) (by first | exact (rfl : _ = 0) | exact (rfl : _ = 1) | exact (rfl : _ = 2) | exact (rfl : _ = 3) | exact (rfl : _ = 4) | exact (rfl : _ = 5) | exact (rfl : _ = 6) | exact (rfl : _ = 7) | exact (rfl : _ = 8) | exact (rfl : _ = 9) | exact (rfl : _ = 10) | exact (rfl : _ = 11)) (by rfl) (by rfl) (by rfl) (by rfl) (by rfl) ?_)
  all_goals refine ops_cons rfl ?_
  all_goals (refine op_assign (by conv => lhs; whnf) rfl rfl ?_)
  all_goals refine ops_nil ?_
  all_goals refine seqQ_n ?_
  all_goals refine tri_seq ?_
  all_goals refine tri_region ?_
  all_goals refine ops_cons rfl ?_
  all_goals (first | refine op_fieldAddr0 rfl rfl rfl rfl rfl rfl (by conv => lhs; whnf) ?_ | refine op_fieldAddr_rp0 rfl rfl rfl rfl rfl rfl (by conv => lhs; whnf) ?_ | refine op_fieldAddr rfl rfl rfl rfl rfl rfl ?_ | refine op_fieldAddr_rp rfl rfl rfl rfl rfl rfl ?_)
  all_goals refine ops_cons rfl ?_
  all_goals (first | refine op_load (by conv => lhs; whnf) (by rfl) (by rfl) (by first | ((conv => lhs; whnf; arg 1; whnf); done) | rfl | assumption | (simp; done)) (by rfl) (by first | ((conv => lhs; whnf; arg 1; whnf); done) | rfl | assumption | (simp; done)) (by first | ((conv => lhs; whnf; arg 1; whnf); done) | rfl | assumption | (simp; done)) (by rfl) ?_ | refine op_load_rp (by conv => lhs; whnf) (by rfl) (by rfl) (by first | ((conv => lhs; whnf; arg 1; whnf); done) | rfl | assumption | (simp; done)) (by rfl) ?_)
  all_goals refine ops_cons rfl ?_
  all_goals (first | refine op_fieldAddr0 rfl rfl rfl rfl rfl rfl (by conv => lhs; whnf) ?_ | refine op_fieldAddr_rp0 rfl rfl rfl rfl rfl rfl (by conv => lhs; whnf) ?_ | refine op_fieldAddr rfl rfl rfl rfl rfl rfl ?_ | refine op_fieldAddr_rp rfl rfl rfl rfl rfl rfl ?_)
  all_goals refine ops_cons rfl ?_
  all_goals (first | refine op_load (by conv => lhs; whnf) (by rfl) (by rfl) (by first | ((conv => lhs; whnf; arg 1; whnf); done) | rfl | assumption | (simp; done)) (by rfl) (by first | ((conv => lhs; whnf; arg 1; whnf); done) | rfl | assumption | (simp; done)) (by first | ((conv => lhs; whnf; arg 1; whnf); done) | rfl | assumption | (simp; done)) (by rfl) ?_ | refine op_load_rp (by conv => lhs; whnf) (by rfl) (by rfl) (by first | ((conv => lhs; whnf; arg 1; whnf); done) | rfl | assumption | (simp; done)) (by rfl) ?_)
  all_goals refine ops_cons rfl ?_
  all_goals (refine op_callA rfl rfl rfl rfl rfl ⟨_, Try.func41, by decide, rfl⟩ (.cons (.pure rfl) (.cons (.pure rfl) .nil)) (same_w a.bytes b.bytes (by omega) (by omega)) (by rintro r H' m ⟨rfl, rfl⟩; exact ⟨rfl, by simp⟩) ?_)
  all_goals (rintro _ H' m ⟨rfl, rfl⟩)
  all_goals refine ops_cons rfl ?_
  all_goals (refine op_move (by conv => lhs; whnf) rfl rfl ?_)
  all_goals (first | refine ops_guardU rfl rfl rfl rfl rfl rfl ?_ | refine ops_guardY rfl rfl rfl rfl ?_ | refine ops_guardN rfl rfl rfl rfl rfl rfl ?_ | refine ops_guardTd rfl rfl rfl rfl rfl rfl (fun hg => ?_) (fun hg => ?_) | refine ops_guardT rfl rfl rfl rfl rfl rfl (fun hg => ?_) (fun hg => ?_))
  all_goals try (exfalso; omega)
  all_goals (first | refine ops_here ?_ | (first | refine op_fieldAddr0 rfl rfl rfl rfl rfl rfl (by conv => lhs; whnf) ?_ | refine op_fieldAddr_rp0 rfl rfl rfl rfl rfl rfl (by conv => lhs; whnf) ?_ | refine op_fieldAddr rfl rfl rfl rfl rfl rfl ?_ | refine op_fieldAddr_rp rfl rfl rfl rfl rfl rfl ?_))
  all_goals (first | refine ops_guardU rfl rfl rfl rfl rfl rfl ?_ | refine ops_guardY rfl rfl rfl rfl ?_ | refine ops_guardN rfl rfl rfl rfl rfl rfl ?_ | refine ops_guardTd rfl rfl rfl rfl rfl rfl (fun hg => ?_) (fun hg => ?_) | refine ops_guardT rfl rfl rfl rfl rfl rfl (fun hg => ?_) (fun hg => ?_))
  all_goals try (exfalso; omega)
  all_goals (first | refine ops_here ?_ | (first | refine op_load (by conv => lhs; whnf) (by rfl) (by rfl) (by first | ((conv => lhs; whnf; arg 1; whnf); done) | rfl | assumption | (simp; done)) (by rfl) (by first | ((conv => lhs; whnf; arg 1; whnf); done) | rfl | assumption | (simp; done)) (by first | ((conv => lhs; whnf; arg 1; whnf); done) | rfl | assumption | (simp; done)) (by rfl) ?_ | refine op_load_rp (by conv => lhs; whnf) (by rfl) (by rfl) (by first | ((conv => lhs; whnf; arg 1; whnf); done) | rfl | assumption | (simp; done)) (by rfl) ?_))
  all_goals (first | refine ops_guardU rfl rfl rfl rfl rfl rfl ?_ | refine ops_guardY rfl rfl rfl rfl ?_ | refine ops_guardN rfl rfl rfl rfl rfl rfl ?_ | refine ops_guardTd rfl rfl rfl rfl rfl rfl (fun hg => ?_) (fun hg => ?_) | refine ops_guardT rfl rfl rfl rfl rfl rfl (fun hg => ?_) (fun hg => ?_))
  all_goals try (exfalso; omega)
  all_goals (first | refine ops_here ?_ | (first | refine op_fieldAddr0 rfl rfl rfl rfl rfl rfl (by conv => lhs; whnf) ?_ | refine op_fieldAddr_rp0 rfl rfl rfl rfl rfl rfl (by conv => lhs; whnf) ?_ | refine op_fieldAddr rfl rfl rfl rfl rfl rfl ?_ | refine op_fieldAddr_rp rfl rfl rfl rfl rfl rfl ?_))
  all_goals (first | refine ops_guardU rfl rfl rfl rfl rfl rfl ?_ | refine ops_guardY rfl rfl rfl rfl ?_ | refine ops_guardN rfl rfl rfl rfl rfl rfl ?_ | refine ops_guardTd rfl rfl rfl rfl rfl rfl (fun hg => ?_) (fun hg => ?_) | refine ops_guardT rfl rfl rfl rfl rfl rfl (fun hg => ?_) (fun hg => ?_))
  all_goals try (exfalso; omega)
  all_goals (first | refine ops_here ?_ | (first | refine op_load (by conv => lhs; whnf) (by rfl) (by rfl) (by first | ((conv => lhs; whnf; arg 1; whnf); done) | rfl | assumption | (simp; done)) (by rfl) (by first | ((conv => lhs; whnf; arg 1; whnf); done) | rfl | assumption | (simp; done)) (by first | ((conv => lhs; whnf; arg 1; whnf); done) | rfl | assumption | (simp; done)) (by rfl) ?_ | refine op_load_rp (by conv => lhs; whnf) (by rfl) (by rfl) (by first | ((conv => lhs; whnf; arg 1; whnf); done) | rfl | assumption | (simp; done)) (by rfl) ?_))
  all_goals (first | refine ops_guardU rfl rfl rfl rfl rfl rfl ?_ | refine ops_guardY rfl rfl rfl rfl ?_ | refine ops_guardN rfl rfl rfl rfl rfl rfl ?_ | refine ops_guardTd rfl rfl rfl rfl rfl rfl (fun hg => ?_) (fun hg => ?_) | refine ops_guardT rfl rfl rfl rfl rfl rfl (fun hg => ?_) (fun hg => ?_))
  all_goals try (exfalso; omega)
  all_goals (first | refine ops_here ?_ | (refine op_eql rfl rfl rfl rfl rfl ?_))
  all_goals refine ops_cons rfl ?_
  all_goals (first | refine op_pick_true rfl (by conv => lhs; whnf) rfl rfl rfl ?_ | refine op_pick_false rfl (by conv => lhs; whnf) rfl rfl rfl ?_ | refine op_pick_bool rfl rfl rfl rfl rfl rfl rfl ?_)
  all_goals refine ops_cons rfl ?_
  all_goals (refine op_move (by conv => lhs; whnf) rfl rfl ?_)
  all_goals (first | refine ops_guardU rfl rfl rfl rfl rfl rfl ?_ | refine ops_guardY rfl rfl rfl rfl ?_ | refine ops_guardN rfl rfl rfl rfl rfl rfl ?_ | refine ops_guardTd rfl rfl rfl rfl rfl rfl (fun hg => ?_) (fun hg => ?_) | refine ops_guardT rfl rfl rfl rfl rfl rfl (fun hg => ?_) (fun hg => ?_))
  all_goals try (exfalso; omega)
  all_goals (first | refine ops_here ?_ | (first | refine op_fieldAddr0 rfl rfl rfl rfl rfl rfl (by conv => lhs; whnf) ?_ | refine op_fieldAddr_rp0 rfl rfl rfl rfl rfl rfl (by conv => lhs; whnf) ?_ | refine op_fieldAddr rfl rfl rfl rfl rfl rfl ?_ | refine op_fieldAddr_rp rfl rfl rfl rfl rfl rfl ?_))
  all_goals (first | refine ops_guardU rfl rfl rfl rfl rfl rfl ?_ | refine ops_guardY rfl rfl rfl rfl ?_ | refine ops_guardN rfl rfl rfl rfl rfl rfl ?_ | refine ops_guardTd rfl rfl rfl rfl rfl rfl (fun hg => ?_) (fun hg => ?_) | refine ops_guardT rfl rfl rfl rfl rfl rfl (fun hg => ?_) (fun hg => ?_))
  all_goals try (exfalso; omega)
  all_goals (first | refine ops_here ?_ | (first | refine op_load (by conv => lhs; whnf) (by rfl) (by rfl) (by first | ((conv => lhs; whnf; arg 1; whnf); done) | rfl | assumption | (simp; done)) (by rfl) (by first | ((conv => lhs; whnf; arg 1; whnf); done) | rfl | assumption | (simp; done)) (by first | ((conv => lhs; whnf; arg 1; whnf); done) | rfl | assumption | (simp; done)) (by rfl) ?_ | refine op_load_rp (by conv => lhs; whnf) (by rfl) (by rfl) (by first | ((conv => lhs; whnf; arg 1; whnf); done) | rfl | assumption | (simp; done)) (by rfl) ?_))
  all_goals (first | refine ops_guardU rfl rfl rfl rfl rfl rfl ?_ | refine ops_guardY rfl rfl rfl rfl ?_ | refine ops_guardN rfl rfl rfl rfl rfl rfl ?_ | refine ops_guardTd rfl rfl rfl rfl rfl rfl (fun hg => ?_) (fun hg => ?_) | refine ops_guardT rfl rfl rfl rfl rfl rfl (fun hg => ?_) (fun hg => ?_))
  all_goals try (exfalso; omega)
  all_goals (first | refine ops_here ?_ | (first | refine op_fieldAddr0 rfl rfl rfl rfl rfl rfl (by conv => lhs; whnf) ?_ | refine op_fieldAddr_rp0 rfl rfl rfl rfl rfl rfl (by conv => lhs; whnf) ?_ | refine op_fieldAddr rfl rfl rfl rfl rfl rfl ?_ | refine op_fieldAddr_rp rfl rfl rfl rfl rfl rfl ?_))
  all_goals (first | refine ops_guardU rfl rfl rfl rfl rfl rfl ?_ | refine ops_guardY rfl rfl rfl rfl ?_ | refine ops_guardN rfl rfl rfl rfl rfl rfl ?_ | refine ops_guardTd rfl rfl rfl rfl rfl rfl (fun hg => ?_) (fun hg => ?_) | refine ops_guardT rfl rfl rfl rfl rfl rfl (fun hg => ?_) (fun hg => ?_))
  all_goals try (exfalso; omega)
  all_goals (first | refine ops_here ?_ | (first | refine op_load (by conv => lhs; whnf) (by rfl) (by rfl) (by first | ((conv => lhs; whnf; arg 1; whnf); done) | rfl | assumption | (simp; done)) (by rfl) (by first | ((conv => lhs; whnf; arg 1; whnf); done) | rfl | assumption | (simp; done)) (by first | ((conv => lhs; whnf; arg 1; whnf); done) | rfl | assumption | (simp; done)) (by rfl) ?_ | refine op_load_rp (by conv => lhs; whnf) (by rfl) (by rfl) (by first | ((conv => lhs; whnf; arg 1; whnf); done) | rfl | assumption | (simp; done)) (by rfl) ?_))
  all_goals (first | refine ops_guardU rfl rfl rfl rfl rfl rfl ?_ | refine ops_guardY rfl rfl rfl rfl ?_ | refine ops_guardN rfl rfl rfl rfl rfl rfl ?_ | refine ops_guardTd rfl rfl rfl rfl rfl rfl (fun hg => ?_) (fun hg => ?_) | refine ops_guardT rfl rfl rfl rfl rfl rfl (fun hg => ?_) (fun hg => ?_))
  all_goals try (exfalso; omega)
  all_goals (first | refine ops_here ?_ | (refine op_eql rfl rfl rfl rfl rfl ?_))
  all_goals refine ops_cons rfl ?_
  all_goals (first | refine op_pick_true rfl (by conv => lhs; whnf) rfl rfl rfl ?_ | refine op_pick_false rfl (by conv => lhs; whnf) rfl rfl rfl ?_ | refine op_pick_bool rfl rfl rfl rfl rfl rfl rfl ?_)
  all_goals refine ops_cons rfl ?_
  all_goals (refine op_assign (by conv => lhs; whnf) rfl rfl ?_)
  all_goals refine ops_nil ?_
  all_goals refine seqQ_n ?_
  all_goals refine tri_ret ?_
  all_goals refine retE_r [] (.cons (.tmp (by conv => lhs; whnf) rfl) .nil) rfl rfl (by first | exact (ren_pure (by rfl)).trans (by conv => lhs; whnf) | ((conv => lhs; whnf); done) | rfl) (.nil) ?_
  all_goals (refine ⟨congrArg (fun b => AV.val (Value.bool b)) (Eq.symm ?_), rfl⟩; simp only [sameS]; simp_all)

/-- the walk of casebook/casebooklaw48.none -/
theorem none_w (a : Sto) (ha : a.bytes.length ≤ 2 ^ 47) : HSpec Try.prog 16 [stoAV a] [] fun r H' _ => r = .val (.bool (sameS a zeroSto)) ∧ H' = [] := by
  refine hspec_intro Try.func16 rfl rfl ?_
  all_goals refine tri_seq ?_
  all_goals refine tri_region ?_
  all_goals refine ops_cons rfl ?_
  all_goals (refine lit_box 3 (by conv => lhs; whnf) (by first | exact (rfl : _ = 0) | exact (rfl : _ = 1) | exact (rfl : _ = 2) | exact (rfl : _ = 3) | exact (rfl : _ = 4) | exact (rfl : _ = 5) | exact (rfl : _ = 6) | exact (rfl : _ = 7) | exact (rfl : _ = 8) | exact (rfl : _ = 9) | exact (rfl : _ = 10) | exact (rfl : _ = 11)) (by rfl) (by rfl) (by rfl) (by rfl) (by rfl) ?_)
  all_goals refine ops_cons rfl ?_
  all_goals (refine op_assign (by conv => lhs; whnf) rfl rfl ?_)
  all_goals refine ops_nil ?_
  all_goals refine seqQ_n ?_
  all_goals refine tri_seq ?_
  all_goals refine tri_region ?_
  all_goals refine ops_cons rfl ?_
  all_goals (first | refine op_load_agg (by conv => lhs; whnf) (by rfl) (by rfl) (by first | ((conv => lhs; whnf; arg 1; whnf); done) | rfl | assumption | (simp; done)) (by rfl) (by first | ((conv => lhs; whnf; arg 1; whnf); done) | rfl | assumption | (simp; done)) (by rfl) (by rfl) (by rfl) ?_ | refine op_load_rp_agg (by conv => lhs; whnf) (by rfl) (by rfl) (by rfl) (by rfl) (by rfl) ?_ | refine op_load_part (by conv => lhs; whnf) (by rfl) (by rfl) (by first | ((conv => lhs; whnf; arg 1; whnf); done) | rfl | assumption | (simp; done)) (by rfl) (by first | ((conv => lhs; whnf; arg 1; whnf); done) | rfl | assumption | (simp; done)) (by rfl) (by rfl) (by rfl) (by conv => lhs; whnf) ?_ | refine op_load_rp_part (by conv => lhs; whnf) (by rfl) (by rfl) (by rfl) (by rfl) (by rfl) (by conv => lhs; whnf) ?_)
  all_goals refine ops_cons rfl ?_
  all_goals (refine op_build (by rfl) (by rfl) (by rfl) (by rfl) (by conv => lhs; whnf) (by conv => lhs; whnf; arg 1; whnf; congr; { whnf }; { whnf; congr; { whnf }; { whnf; congr; { whnf }; { whnf } } }) (by rfl) (by rfl) ?_)
  all_goals refine ops_cons rfl ?_
  all_goals (refine op_callA rfl rfl rfl rfl rfl ⟨_, Try.func29, by decide, rfl⟩ (.cons (.pure rfl) (.cons (.agg (.cons (SnapR.nil (sz := 1)) (.cons (.pure rfl) (.cons (.pure rfl) .nil)))) .nil)) (Same_w a zeroSto ha (by decide)) (by rintro r H' m ⟨rfl, rfl⟩; exact ⟨rfl, by simp⟩) ?_)
  all_goals (rintro _ H' m ⟨rfl, rfl⟩)
  all_goals refine ops_cons rfl ?_
  all_goals (refine op_assign (by conv => lhs; whnf) rfl rfl ?_)
  all_goals refine ops_nil ?_
  all_goals refine seqQ_n ?_
  all_goals refine tri_ret ?_
  all_goals refine retE_r [] (.cons (.tmp (by conv => lhs; whnf) rfl) .nil) rfl rfl (by first | exact (ren_pure (by rfl)).trans (by conv => lhs; whnf) | ((conv => lhs; whnf); done) | rfl) (.nil) ?_
  all_goals (exact ⟨rfl, rfl⟩)

end Go.Proofs.Ytjalgcjllddmhaa

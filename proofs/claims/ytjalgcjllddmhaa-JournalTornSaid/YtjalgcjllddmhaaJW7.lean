/- A text of the proof of JournalTorn: JW7 -/
import Derived.Test.YtjalgcjllddmhaaProg
import Derived.Test.YtjalgcjllddmhaaAvShort
import Derived.Test.YtjalgcjllddmhaaAvAppS
import Derived.Test.YtjalgcjllddmhaaAvSnap
import Derived.Test.YtjalgcjllddmhaaAvAny
import Derived.Test.YtjalgcjllddmhaaAvLit
import Derived.Test.YtjalgcjllddmhaaJDec
import Derived.Test.YtjalgcjllddmhaaJW1
import Derived.Test.YtjalgcjllddmhaaJW2
import Derived.Test.YtjalgcjllddmhaaJW3
import Derived.Test.YtjalgcjllddmhaaJW4
import Derived.Test.YtjalgcjllddmhaaJW5
import Derived.Test.YtjalgcjllddmhaaJW6

set_option linter.unusedSimpArgs false
set_option linter.unusedVariables false
set_option maxHeartbeats 8000000
set_option maxRecDepth 100000
namespace Go.Proofs.Ytjalgcjllddmhaa
open Go.Av
/-- the walk of casebook/journal.records -/
theorem records_w (b : List UInt8) (hl : b.length ≤ 2 ^ 40) : HSpec Try.prog 27 [.sl 1 (bytesAV b)] [] fun r H' _ => r = .tup [.sl 7 ((recs b [] 0).1.map cmdAV), iv (recs b [] 0).2] ∧ H' = [] := by
 refine hspec_intro Try.func27 rfl rfl ?_
 all_goals refine tri_seq ?_
 all_goals refine tri_region ?_
 all_goals refine oc (x_assign ?_)
 all_goals refine oc (x_assign ?_)
 all_goals refine ops_nil ?_
 all_goals refine seqQ_n ?_
 all_goals refine tri_scope ?_
 all_goals refine tri_seq ?_
 all_goals refine tri_region ?_
 all_goals refine oc (x_assign ?_)
 all_goals refine ops_nil ?_
 all_goals refine seqQ_n ?_
 all_goals refine tri_seq ?_
 all_goals refine tri_region ?_
 all_goals (refine ops_le (lit_own 4 26 7 rfl (by first | exact (rfl : _ = 0) | exact (rfl : _ = 1) | exact (rfl : _ = 2) | exact (rfl : _ = 3) | exact (rfl : _ = 4) | exact (rfl : _ = 5) | exact (rfl : _ = 6) | exact (rfl : _ = 7) | exact (rfl : _ = 8) | exact (rfl : _ = 9) | exact (rfl : _ = 10) | exact (rfl : _ = 11))) ?_)
 all_goals refine oc (x_assign ?_)
 all_goals refine ops_nil ?_
 all_goals refine seqQ_n ?_
 all_goals refine tri_seq ?_
 all_goals refine tri_label ?_
 all_goals refine seqQ_n ?_
 all_goals refine tri_seq ?_
 all_goals refine tri_block ?_
 all_goals (
  refine tri_loop (X := { p : List Cmd × Nat // p.1.length ≤ 1000 ∧ p.2 ≤ b.length ∧ recs b p.1 p.2 = recs b [] 0 }) (fun x => ⟨67, noM, [(0, .sl 1 (bytesAV b)), (4, .osl 0 7 0 x.1.1.length), (5, iv x.1.2)], [.mk 26 false false 7 (x.1.1.map cmdAV)]⟩) (fun x => 1000 - x.1.1.length) (⟨([], 0), by simp⟩) (by exact le_kept [0] rfl rfl (fun _ _ h => by cases h) rfl ⟨by first | rfl | ((conv => lhs; whnf); first | rfl | (simp only [take_cmds, List.map_append]; rfl) | (dsimp only [iv]; congr 2; omega) | (rw [List.length_append]; rfl)), by first | rfl | ((conv => lhs; whnf); first | rfl | (simp only [take_cmds, List.map_append]; rfl) | (dsimp only [iv]; congr 2; omega) | (rw [List.length_append]; rfl)), by first | rfl | ((conv => lhs; whnf); first | rfl | (simp only [take_cmds, List.map_append]; rfl) | (dsimp only [iv]; congr 2; omega) | (rw [List.length_append]; rfl)), trivial⟩ ⟨by first | rfl | ((conv => lhs; whnf); first | rfl | (simp only [take_cmds, List.map_append]; rfl) | (dsimp only [iv]; congr 2; omega) | (rw [List.length_append]; rfl)), trivial⟩) (fun x => ?_)
  obtain ⟨⟨out, i⟩, ho, hi, hx⟩ := x
  simp only at ho hi hx ⊢
  have hbl := bytesAV_length b
  all_goals refine tri_seq ?_
  all_goals refine tri_seq ?_
  all_goals refine tri_region ?_
  all_goals refine oc (x_move ?_)
  all_goals refine oc ?_
  all_goals (first | refine op_len_sl rfl (by first | (conv => lhs; simp only [List.length_map, bytesAV_length]) | rfl) rfl rfl rfl ?_ | refine x_leno ?_ | refine x_lenn ?_)
  all_goals refine oc (x_lss ?_)
  all_goals refine ops_nil ?_
  all_goals refine seqQ_n ?_
  all_goals (
   first | refine tri_cond_d rfl rfl (fun hc => ?_) (fun hc => ?_) | refine ct (fun hc => ?_) (fun hc => ?_) | refine cf (fun hc => ?_) (fun hc => ?_) | refine cb (fun hc => ?_) (fun hc => ?_)
   focus
    try (exfalso; first | exact hc | omega)
    all_goals refine tri_skip ?_
   rotate_right 1
   focus
    try (exfalso; first | exact hc | omega)
    all_goals refine tri_exit ?_
    all_goals refine seqQ_x ?_
    all_goals refine seqQ_x ?_
    all_goals refine blockQ_x ?_
    all_goals refine seqQ_n ?_
    all_goals refine tri_seq ?_
    all_goals refine tri_region ?_
    all_goals refine oc (x_move ?_)
    all_goals refine oc (x_move ?_)
    all_goals refine oc (x_assign ?_)
    all_goals refine oc (x_assign ?_)
    all_goals refine ops_nil ?_
    all_goals refine seqQ_n ?_
    all_goals (refine tri_le (le_snapT 2 (by conv => lhs; whnf) rfl (.own (by first | ((conv => lhs; whnf; arg 1; whnf); done) | rfl | assumption | (simp; done)) (by conv => lhs; simp only [List.drop_zero, take_cmds]) (by simp))) ?_)
    all_goals refine tri_ret ?_
    all_goals refine scopeQ_r ?_
    all_goals refine retE_r [] (.cons (.tmp (by conv => lhs; whnf) rfl) (.cons (.tmp (by conv => lhs; whnf) rfl) .nil)) rfl rfl (by first | exact (ren_pure (by rfl)).trans (by conv => lhs; whnf) | ((conv => lhs; whnf); done) | rfl) (.nil) ?_
    all_goals (
     first
     | (have hr := recs_full (b := b) (i := i) (show ¬ out.length < 1000 by omega)
        rw [hr] at hx; rw [← hx]; exact ⟨rfl, rfl⟩)
     | (have hr := recs_stop hi hp hxx hq (by omega) (.inl (by assumption)) hx
        rw [hr]; exact ⟨rfl, rfl⟩)
     | (have hr := recs_stop hi hp hxx hq (by omega) (.inr (.inl (by rw [hd]; decide))) hx
        rw [hr]; exact ⟨rfl, rfl⟩)
     | (have hr := recs_stop hi hp hxx hq (by omega) (.inr (.inr (by assumption))) hx
        rw [hr]; exact ⟨rfl, rfl⟩)))
  all_goals refine seqQ_n ?_
  all_goals refine tri_block ?_
  all_goals refine tri_seq ?_
  all_goals refine tri_region ?_
  all_goals refine oc (x_move ?_)
  all_goals refine oc (x_move ?_)
  all_goals refine oc ?_
  all_goals (first | refine op_slice_sl rfl rfl rfl rfl rfl (.to rfl rfl (by first | rw [Int.toNat_natCast] | rw [Int.toNat_zero] | rw [Int.toNat_one] | rw [Int.toNat_ofNat] | exact rfl) (by omega)) .none (by first | omega | simp; omega) (by first | omega | simp; omega) (by conv => lhs; first | rw [sub1] | rw [sub2] | rw [sub3] | skip) ?_ | refine op_slice_osl rfl rfl rfl rfl rfl (.to rfl rfl (by first | rw [Int.toNat_natCast] | rw [Int.toNat_zero] | rw [Int.toNat_one] | rw [Int.toNat_ofNat] | exact rfl) (by omega)) .none (by first | omega | simp) (by omega) ?_)
  all_goals refine oc (x_b1_2 ?_)
  all_goals refine oc (x_bx 2 ?_)
  all_goals refine oc (x_assign ?_)
  all_goals refine ops_nil ?_
  all_goals refine seqQ_n ?_
  all_goals refine tri_seq ?_
  all_goals refine tri_region ?_
  all_goals refine oc (x_move ?_)
  all_goals refine oc (x_move ?_)
  all_goals refine oc ?_
  all_goals (refine lit_callG [1] [] rfl rfl rfl rfl rfl ⟨_, Try.func37, by decide, rfl⟩ rfl rfl (.cons (.own (by conv => lhs; whnf)) .nil) rfl (by rfl) (rdNum_w (⟨b.drop i, false⟩ : Rd) (by simp; omega)) (by rintro r H' m ⟨rfl, rfl, hm⟩; exact hand_one (by simp) hm) (by first | exact (rfl : _ = 0) | exact (rfl : _ = 1) | exact (rfl : _ = 2) | exact (rfl : _ = 3) | exact (rfl : _ = 4) | exact (rfl : _ = 5) | exact (rfl : _ = 6) | exact (rfl : _ = 7) | exact (rfl : _ = 8) | exact (rfl : _ = 9) | exact (rfl : _ = 10) | exact (rfl : _ = 11)) (by conv => lhs; whnf) ?_)
  all_goals (rintro _ H' m ⟨rfl, rfl, hm⟩)
  all_goals (
   obtain ⟨p, hp⟩ : ∃ p, p = rdNum (⟨b.drop i, false⟩ : Rd) := ⟨_, rfl⟩
   rw [← hp]
   have hp1 := rdNum_lt (⟨b.drop i, false⟩ : Rd)
   have hp2 := rdNum_len (⟨b.drop i, false⟩ : Rd)
   rw [← hp] at hp1 hp2
   simp only [List.length_drop] at hp2)
  all_goals refine oc ?_
  all_goals (refine lit_callG [1] [] rfl rfl rfl rfl rfl ⟨_, Try.func36, by decide, rfl⟩ rfl rfl (.cons (.own (by conv => lhs; whnf)) (.cons (.snap (.pure rfl)) .nil)) rfl (by rfl) (rdTake_w p.2 p.1 (by omega) (by omega)) (by rintro r H' m ⟨rfl, rfl, hm⟩; exact hand_one (by simp) hm) (by first | exact (rfl : _ = 0) | exact (rfl : _ = 1) | exact (rfl : _ = 2) | exact (rfl : _ = 3) | exact (rfl : _ = 4) | exact (rfl : _ = 5) | exact (rfl : _ = 6) | exact (rfl : _ = 7) | exact (rfl : _ = 8) | exact (rfl : _ = 9) | exact (rfl : _ = 10) | exact (rfl : _ = 11)) (by conv => lhs; whnf) ?_)
  all_goals (rintro _ H' m ⟨rfl, rfl, hm⟩)
  all_goals (
   obtain ⟨x, hxx⟩ : ∃ x, x = rdTake p.1 p.2 := ⟨_, rfl⟩
   rw [← hxx]
   have hx1 := rdTake_len p.1 p.2
   rw [← hxx] at hx1)
  all_goals refine oc (x_assign ?_)
  all_goals refine ops_nil ?_
  all_goals refine seqQ_n ?_
  all_goals refine tri_seq ?_
  all_goals refine tri_region ?_
  all_goals refine oc (x_move ?_)
  all_goals refine oc ?_
  all_goals (refine lit_callG [1] [] rfl rfl rfl rfl rfl ⟨_, Try.func36, by decide, rfl⟩ rfl rfl (.cons (.own (by conv => lhs; whnf)) (.cons (.snap (.pure rfl)) .nil)) rfl (by rfl) (rdTake_w x.2 4 (by omega) (by omega)) (by rintro r H' m ⟨rfl, rfl, hm⟩; exact hand_one (by simp) hm) (by first | exact (rfl : _ = 0) | exact (rfl : _ = 1) | exact (rfl : _ = 2) | exact (rfl : _ = 3) | exact (rfl : _ = 4) | exact (rfl : _ = 5) | exact (rfl : _ = 6) | exact (rfl : _ = 7) | exact (rfl : _ = 8) | exact (rfl : _ = 9) | exact (rfl : _ = 10) | exact (rfl : _ = 11)) (by conv => lhs; whnf) ?_)
  all_goals (rintro _ H' m ⟨rfl, rfl, hm⟩)
  all_goals (
   obtain ⟨q, hq⟩ : ∃ q, q = rdTake 4 x.2 := ⟨_, rfl⟩
   rw [← hq]
   have hq1 := rdTake_len 4 x.2
   rw [← hq] at hq1)
  all_goals refine ops_nil ?_
  all_goals refine seqQ_n ?_
  all_goals refine tri_seq ?_
  all_goals refine tri_seq ?_
  all_goals refine tri_region ?_
  all_goals refine oc (x_move ?_)
  all_goals refine oc ?_
  all_goals (first | refine op_nilCheck_ptr rfl rfl rfl ?_ | refine op_nilCheck_rp rfl rfl rfl ?_)
  all_goals refine oc ?_
  all_goals (first | refine x_fa0 ?_ | refine x_far0 ?_ | refine x_fa ?_ | refine x_far ?_)
  all_goals refine oc ?_
  all_goals (first | refine x_ld ?_ | refine x_ldr ?_)
  all_goals refine ops_nil ?_
  all_goals refine seqQ_n ?_
  all_goals (
   first | refine tri_cond_d rfl rfl (fun hc => ?_) (fun hc => ?_) | refine ct (fun hc => ?_) (fun hc => ?_) | refine cf (fun hc => ?_) (fun hc => ?_) | refine cb (fun hc => ?_) (fun hc => ?_)
   focus
    try (exfalso; first | exact hc | omega)
    all_goals refine tri_exit ?_
    all_goals refine seqQ_x ?_
    all_goals refine blockQ_o rfl ?_
    all_goals refine seqQ_x ?_
    all_goals refine blockQ_x ?_
    all_goals refine seqQ_n ?_
    all_goals refine tri_seq ?_
    all_goals refine tri_region ?_
    all_goals refine oc (x_move ?_)
    all_goals refine oc (x_move ?_)
    all_goals refine oc (x_assign ?_)
    all_goals refine oc (x_assign ?_)
    all_goals refine ops_nil ?_
    all_goals refine seqQ_n ?_
    all_goals (refine tri_le (le_snapT 2 (by conv => lhs; whnf) rfl (.own (by first | ((conv => lhs; whnf; arg 1; whnf); done) | rfl | assumption | (simp; done)) (by conv => lhs; simp only [List.drop_zero, take_cmds]) (by simp))) ?_)
    all_goals refine tri_ret ?_
    all_goals refine scopeQ_r ?_
    all_goals refine retE_r [] (.cons (.tmp (by conv => lhs; whnf) rfl) (.cons (.tmp (by conv => lhs; whnf) rfl) .nil)) rfl rfl (by first | exact (ren_pure (by rfl)).trans (by conv => lhs; whnf) | ((conv => lhs; whnf); done) | rfl) (.nil) ?_
    all_goals (
     first
     | (have hr := recs_full (b := b) (i := i) (show ¬ out.length < 1000 by omega)
        rw [hr] at hx; rw [← hx]; exact ⟨rfl, rfl⟩)
     | (have hr := recs_stop hi hp hxx hq (by omega) (.inl (by assumption)) hx
        rw [hr]; exact ⟨rfl, rfl⟩)
     | (have hr := recs_stop hi hp hxx hq (by omega) (.inr (.inl (by rw [hd]; decide))) hx
        rw [hr]; exact ⟨rfl, rfl⟩)
     | (have hr := recs_stop hi hp hxx hq (by omega) (.inr (.inr (by assumption))) hx
        rw [hr]; exact ⟨rfl, rfl⟩))
   rotate_right 1
   focus
    try (exfalso; first | exact hc | omega)
    all_goals refine tri_skip ?_)
  all_goals refine seqQ_n ?_
  all_goals refine tri_seq ?_
  all_goals refine tri_region ?_
  all_goals refine oc (x_move ?_)
  all_goals refine oc ?_
  all_goals (refine op_callB rfl rfl rfl rfl rfl ⟨_, Try.func38, by decide, rfl⟩ (.cons (.pure rfl) .nil) (decode_w x.1 (by omega)) ?_)
  all_goals (rintro _ H' m ⟨rfl, rfl⟩)
  all_goals refine oc (x_move ?_)
  all_goals refine oc (x_ext ?_)
  all_goals refine oc (x_ext ?_)
  all_goals refine oc (x_al 7 ?_)
  all_goals refine oc (x_st7 ?_)
  all_goals refine oc (x_assign ?_)
  all_goals refine ops_nil ?_
  all_goals refine seqQ_n ?_
  all_goals refine tri_seq ?_
  all_goals refine tri_region ?_
  all_goals (rcases decode_cases x.1 with hd | hd | hd <;> rw [hd])
  all_goals refine oc (x_move ?_)
  all_goals refine oc ?_
  all_goals (first | refine op_len_sl rfl (by first | (conv => lhs; simp only [List.length_map, bytesAV_length]) | rfl) rfl rfl rfl ?_ | refine x_leno ?_ | refine x_lenn ?_)
  all_goals refine oc (x_move ?_)
  all_goals refine oc ?_
  all_goals (first | refine x_sub64 ?_ | refine x_sub ?_)
  all_goals refine oc (x_move ?_)
  all_goals refine oc ?_
  all_goals (first | refine op_nilCheck_ptr rfl rfl rfl ?_ | refine op_nilCheck_rp rfl rfl rfl ?_)
  all_goals refine oc ?_
  all_goals (first | refine x_fa0 ?_ | refine x_far0 ?_ | refine x_fa ?_ | refine x_far ?_)
  all_goals refine oc ?_
  all_goals (first | refine x_ld ?_ | refine x_ldr ?_)
  all_goals refine oc ?_
  all_goals (first | refine op_len_sl rfl (by first | (conv => lhs; simp only [List.length_map, bytesAV_length]) | rfl) rfl rfl rfl ?_ | refine x_leno ?_ | refine x_lenn ?_)
  all_goals refine oc ?_
  all_goals (first | refine x_sub64 ?_ | refine x_sub ?_)
  all_goals refine oc (x_assign ?_)
  all_goals refine ops_nil ?_
  all_goals refine seqQ_n ?_
  all_goals refine tri_seq ?_
  all_goals refine tri_seq ?_
  all_goals (
   apply tri_anyCut (by rfl)
   focus
    first
    | (
     all_goals refine x_tk 0 (opWF_move) ?_
     all_goals (refine x_move ?_)
     all_goals refine x_tk 1 (opWF_bin rfl rfl rfl rfl) ?_
     all_goals (refine x_neq ?_)
     all_goals refine x_tk 2 (opWF_move) ?_
     all_goals (refine x_move ?_)
     all_goals refine any_takeY 5 rfl rfl rfl rfl rfl (by kernel_rfl) (by kernel_rfl) (by kernel_rfl) (fun _ _ h => h) (by exact opWF_move) ?_
     all_goals (refine x_move ?_)
     all_goals refine any_takeY 6 rfl rfl rfl rfl rfl (by kernel_rfl) (by kernel_rfl) (by kernel_rfl) (fun _ _ h => h) (by exact opWF_move) ?_
     all_goals (refine x_move ?_)
     all_goals refine any_takeY 7 rfl rfl rfl rfl rfl (by kernel_rfl) (by kernel_rfl) (by kernel_rfl) (fun _ _ h => h) (by exact opWF_move) ?_
     all_goals (refine x_move ?_)
     all_goals refine any_takeY 8 rfl rfl rfl rfl rfl (by kernel_rfl) (by kernel_rfl) (by kernel_rfl) (fun _ _ h => h) (by exact opWF_move) ?_
     all_goals (refine x_move ?_)
     all_goals refine any_takeY 9 rfl rfl rfl rfl rfl (by kernel_rfl) (by kernel_rfl) (by kernel_rfl) (fun _ _ h => h) (by exact opWF_bin rfl rfl rfl rfl) ?_
     all_goals (first | refine x_add64 ?_ | refine x_add ?_)
     all_goals refine any_takeY 10 rfl rfl rfl rfl rfl (by kernel_rfl) (by kernel_rfl) (by kernel_rfl) (fun _ _ h => h) (by exact opWF_slice) ?_
     all_goals (first | refine op_slice_sl rfl rfl rfl rfl rfl (.to rfl rfl (by first | rw [Int.toNat_natCast] | rw [Int.toNat_zero] | rw [Int.toNat_one] | rw [Int.toNat_ofNat] | exact rfl) (by omega)) (.to rfl rfl (by first | rw [Int.toNat_natCast] | rw [Int.toNat_zero] | rw [Int.toNat_one] | rw [Int.toNat_ofNat] | exact rfl) (by omega)) (by first | omega | simp; omega) (by first | omega | simp; omega) (by conv => lhs; first | rw [sub1] | rw [sub2] | rw [sub3] | skip) ?_ | refine op_slice_osl rfl rfl rfl rfl rfl (.to rfl rfl (by first | rw [Int.toNat_natCast] | rw [Int.toNat_zero] | rw [Int.toNat_one] | rw [Int.toNat_ofNat] | exact rfl) (by omega)) (.to rfl rfl (by first | rw [Int.toNat_natCast] | rw [Int.toNat_zero] | rw [Int.toNat_one] | rw [Int.toNat_ofNat] | exact rfl) (by omega)) (by first | omega | simp) (by omega) ?_)
     all_goals (
      refine any_all (rs := [3]) (by kernel_rfl) (by simp) (anyL_consY rfl rfl rfl rfl rfl ?_ anyL_nil)
      focus
       all_goals (first | refine x_lda ?_ | refine x_ldra ?_ | refine x_ldp ?_ | refine x_ldrp ?_)
       all_goals (
        refine any_all (rs := [4]) (by kernel_rfl) (by simp) (anyL_consY rfl rfl rfl rfl rfl ?_ anyL_nil)
        focus
         all_goals (refine op_callB rfl rfl rfl rfl rfl ⟨_, Try.func28, by decide, rfl⟩ (.cons (.pure rfl) .nil) (record_w (decode x.1).1 (decode_ok hd)) ?_)
         all_goals (rintro _ H' m ⟨rfl, rfl⟩)
         all_goals (
          refine any_all (rs := [11]) (by kernel_rfl) (by simp) (anyL_consY rfl rfl rfl rfl rfl ?_ anyL_nil)
          focus
           all_goals (refine op_callA rfl rfl rfl rfl rfl ⟨_, Try.func20, by decide, rfl⟩ (.cons (.pure rfl) (.cons (.pure rfl) .nil)) (bytesEq_w (record (decode x.1).1) _) shut0 ?_)
           all_goals (rintro _ H' m ⟨rfl, rfl⟩)
           all_goals refine any_takeY 12 rfl rfl rfl rfl rfl (by kernel_rfl) (by kernel_rfl) (by kernel_rfl) (fun _ _ h => h) (by exact opWF_not rfl rfl) ?_
           all_goals (first | refine op_not_d rfl rfl rfl ?_ | refine x_not ?_)
           all_goals refine x_tk 13 (opWF_pick) ?_
           all_goals (first | refine x_pt ?_ | refine x_pf ?_ | refine x_pb ?_)
           all_goals exact any_leaf (n := 67) [0, 1, 2] [0, 2, 3, 4, 5, 6, 7, 8, 10, 13, 28, 57] (by kernel_rfl) rfl rfl rfl (.c0 (.c0 (.c0 (.c0 (.c0 (.c0 (.c0 (.c0 (.c0 (.c0 (.c0 (.c0 (.nil))))))))))))) (.c0 (.c0 (.c0 (.nil))))))))
    | (
     all_goals refine x_tk 0 (opWF_move) ?_
     all_goals (refine x_move ?_)
     all_goals refine x_tk 1 (opWF_bin rfl rfl rfl rfl) ?_
     all_goals (refine x_neq ?_)
     all_goals refine x_tk 2 (opWF_move) ?_
     all_goals (refine x_move ?_)
     all_goals refine any_takeN 3 rfl rfl rfl rfl rfl rfl rfl (by kernel_rfl) (by kernel_rfl) (by kernel_rfl) (fun _ _ h => h) ?_
     all_goals refine any_takeN 4 rfl rfl rfl rfl rfl rfl rfl (by kernel_rfl) (by kernel_rfl) (by kernel_rfl) (fun _ _ h => h) ?_
     all_goals refine any_takeN 5 rfl rfl rfl rfl rfl rfl rfl (by kernel_rfl) (by kernel_rfl) (by kernel_rfl) (fun _ _ h => h) ?_
     all_goals refine any_takeN 6 rfl rfl rfl rfl rfl rfl rfl (by kernel_rfl) (by kernel_rfl) (by kernel_rfl) (fun _ _ h => h) ?_
     all_goals refine any_takeN 7 rfl rfl rfl rfl rfl rfl rfl (by kernel_rfl) (by kernel_rfl) (by kernel_rfl) (fun _ _ h => h) ?_
     all_goals refine any_takeN 8 rfl rfl rfl rfl rfl rfl rfl (by kernel_rfl) (by kernel_rfl) (by kernel_rfl) (fun _ _ h => h) ?_
     all_goals refine any_takeN 9 rfl rfl rfl rfl rfl rfl rfl (by kernel_rfl) (by kernel_rfl) (by kernel_rfl) (fun _ _ h => h) ?_
     all_goals refine any_takeN 10 rfl rfl rfl rfl rfl rfl rfl (by kernel_rfl) (by kernel_rfl) (by kernel_rfl) (fun _ _ h => h) ?_
     all_goals refine any_takeN 11 rfl rfl rfl rfl rfl rfl rfl (by kernel_rfl) (by kernel_rfl) (by kernel_rfl) (fun _ _ h => h) ?_
     all_goals refine any_takeN 12 rfl rfl rfl rfl rfl rfl rfl (by kernel_rfl) (by kernel_rfl) (by kernel_rfl) (fun _ _ h => h) ?_
     all_goals refine x_tk 13 (opWF_pick) ?_
     all_goals (first | refine x_pt ?_ | refine x_pf ?_ | refine x_pb ?_)
     all_goals exact any_leaf (n := 67) [0, 1, 2] [0, 2, 3, 4, 5, 6, 7, 8, 10, 13, 28, 57] (by kernel_rfl) rfl rfl rfl (.c0 (.c0 (.c0 (.c0 (.c0 (.c0 (.c0 (.c0 (.c0 (.c0 (.c0 (.c0 (.nil))))))))))))) (.c0 (.c0 (.c0 (.nil))))))
  all_goals refine seqQ_n ?_
  all_goals (
   first | refine tri_cond_d rfl rfl (fun hc => ?_) (fun hc => ?_) | refine ct (fun hc => ?_) (fun hc => ?_) | refine cf (fun hc => ?_) (fun hc => ?_) | refine cb (fun hc => ?_) (fun hc => ?_)
   focus
    try (exfalso; first | exact hc | omega)
    all_goals refine tri_exit ?_
    all_goals refine seqQ_x ?_
    all_goals refine blockQ_o rfl ?_
    all_goals refine seqQ_x ?_
    all_goals refine blockQ_x ?_
    all_goals refine seqQ_n ?_
    all_goals refine tri_seq ?_
    all_goals refine tri_region ?_
    all_goals refine oc (x_move ?_)
    all_goals refine oc (x_move ?_)
    all_goals refine oc (x_assign ?_)
    all_goals refine oc (x_assign ?_)
    all_goals refine ops_nil ?_
    all_goals refine seqQ_n ?_
    all_goals (refine tri_le (le_snapT 2 (by conv => lhs; whnf) rfl (.own (by first | ((conv => lhs; whnf; arg 1; whnf); done) | rfl | assumption | (simp; done)) (by conv => lhs; simp only [List.drop_zero, take_cmds]) (by simp))) ?_)
    all_goals refine tri_ret ?_
    all_goals refine scopeQ_r ?_
    all_goals refine retE_r [] (.cons (.tmp (by conv => lhs; whnf) rfl) (.cons (.tmp (by conv => lhs; whnf) rfl) .nil)) rfl rfl (by first | exact (ren_pure (by rfl)).trans (by conv => lhs; whnf) | ((conv => lhs; whnf); done) | rfl) (.nil) ?_
    all_goals (
     first
     | (have hr := recs_full (b := b) (i := i) (show ¬ out.length < 1000 by omega)
        rw [hr] at hx; rw [← hx]; exact ⟨rfl, rfl⟩)
     | (have hr := recs_stop hi hp hxx hq (by omega) (.inl (by assumption)) hx
        rw [hr]; exact ⟨rfl, rfl⟩)
     | (have hr := recs_stop hi hp hxx hq (by omega) (.inr (.inl (by rw [hd]; decide))) hx
        rw [hr]; exact ⟨rfl, rfl⟩)
     | (have hr := recs_stop hi hp hxx hq (by omega) (.inr (.inr (by assumption))) hx
        rw [hr]; exact ⟨rfl, rfl⟩))
   rotate_right 1
   focus
    try (exfalso; first | exact hc | omega)
    all_goals refine tri_skip ?_)
  all_goals refine seqQ_n ?_
  all_goals refine tri_seq ?_
  all_goals refine tri_region ?_
  all_goals refine oc (x_move ?_)
  all_goals refine oc ?_
  all_goals (first | refine x_lda ?_ | refine x_ldra ?_ | refine x_ldp ?_ | refine x_ldrp ?_)
  all_goals refine oc ?_
  all_goals (refine lit_one (sz := 7) false (by rfl) (by rfl) (by rfl) (by rfl) (by conv => lhs; whnf) (by rfl) (by rfl) (by rfl) (by first | exact (rfl : _ = 0) | exact (rfl : _ = 1) | exact (rfl : _ = 2) | exact (rfl : _ = 3) | exact (rfl : _ = 4) | exact (rfl : _ = 5) | exact (rfl : _ = 6) | exact (rfl : _ = 7) | exact (rfl : _ = 8) | exact (rfl : _ = 9) | exact (rfl : _ = 10) | exact (rfl : _ = 11)) (by rfl) (by conv => lhs; whnf) (by rfl)  (by rfl) (by first | exact .inl rfl | exact .inr rfl) (by rfl) (by rfl) ?_)
  all_goals refine oc ?_
  all_goals (first | refine op_append rfl (by conv => lhs; whnf) rfl rfl rfl (Elem.mk (sz := 7) (by rfl) (by rfl) (by rfl) (by rfl) (by conv => lhs; whnf) (by rfl) (by rfl) (by rfl)) rfl (by first | omega | simp) (by first | exact Src.sl | exact Src.own rfl (by conv => lhs; first | simp only [List.drop_zero, List.take_succ_cons, List.take_zero, List.take_nil, take_bytes] | whnf) (by first | omega | simp) | exact Src.nil) (by first | (simp only [Nat.mul_one, bytesAV_length]; omega) | (simp; omega)) ?_ | refine opTri_le (le_own 58 26 7 rfl) (op_append rfl (by conv => lhs; whnf) rfl rfl rfl (Elem.mk (sz := 7) (by rfl) (by rfl) (by rfl) (by rfl) (by conv => lhs; whnf) (by rfl) (by rfl) (by rfl)) rfl (by first | omega | simp) (by first | exact Src.sl | exact Src.own rfl (by conv => lhs; first | simp only [List.drop_zero, List.take_succ_cons, List.take_zero, List.take_nil, take_bytes] | whnf) (by first | omega | simp) | exact Src.nil) (by first | (simp only [Nat.mul_one, bytesAV_length]; omega) | (simp; omega)) ?_))
  all_goals refine oc (x_assign ?_)
  all_goals refine ops_nil ?_
  all_goals refine seqQ_n ?_
  all_goals refine tri_region ?_
  all_goals refine oc (x_move ?_)
  all_goals refine oc (x_move ?_)
  all_goals refine oc ?_
  all_goals (first | refine x_add64 ?_ | refine x_add ?_)
  all_goals refine oc (x_assign ?_)
  all_goals refine ops_nil ?_
  all_goals refine blockQ_n ?_
  all_goals refine seqQ_n ?_
  all_goals (exact ⟨⟨(out ++ [(decode x.1).1], i + (b.length - i - q.2.b.length)), recs_next (by omega) hi hp hxx hq (by omega) (by assumption) hd (by assumption) hx⟩, by simp; omega, le_kept [0] rfl rfl (fun _ _ h => by cases h) rfl ⟨by first | rfl | ((conv => lhs; whnf); first | rfl | (simp only [take_cmds, List.map_append]; rfl) | (dsimp only [iv]; congr 2; omega) | (rw [List.length_append]; rfl)), by first | rfl | ((conv => lhs; whnf); first | rfl | (simp only [take_cmds, List.map_append]; rfl) | (dsimp only [iv]; congr 2; omega) | (rw [List.length_append]; rfl)), by first | rfl | ((conv => lhs; whnf); first | rfl | (simp only [take_cmds, List.map_append]; rfl) | (dsimp only [iv]; congr 2; omega) | (rw [List.length_append]; rfl)), trivial⟩ ⟨by first | rfl | ((conv => lhs; whnf); first | rfl | (simp only [take_cmds, List.map_append]; rfl) | (dsimp only [iv]; congr 2; omega) | (rw [List.length_append]; rfl)), trivial⟩⟩))

end Go.Proofs.Ytjalgcjllddmhaa

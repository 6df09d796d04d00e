/- A text of the proof of JournalTorn: JW17 -/
import Derived.Test.YtjalgcjllddmhaaProg
import Derived.Test.YtjalgcjllddmhaaAvShort
import Derived.Test.YtjalgcjllddmhaaAvAppS
import Derived.Test.YtjalgcjllddmhaaAvSnap
import Derived.Test.YtjalgcjllddmhaaAvAny
import Derived.Test.YtjalgcjllddmhaaAvMeet
import Derived.Test.YtjalgcjllddmhaaAvEq
import Derived.Test.YtjalgcjllddmhaaAvCat
import Derived.Test.YtjalgcjllddmhaaJTorn
import Derived.Test.YtjalgcjllddmhaaJW5
import Derived.Test.YtjalgcjllddmhaaJW8
import Derived.Test.YtjalgcjllddmhaaJW9
import Derived.Test.YtjalgcjllddmhaaJW11
import Derived.Test.YtjalgcjllddmhaaJW12
import Derived.Test.YtjalgcjllddmhaaJW13
import Derived.Test.YtjalgcjllddmhaaJW14
import Derived.Test.YtjalgcjllddmhaaJW16

set_option linter.unusedSimpArgs false
set_option linter.unusedVariables false
set_option maxHeartbeats 8000000
set_option maxRecDepth 100000
namespace Go.Proofs.Ytjalgcjllddmhaa
open Go.Av
theorem new_m1_w : HSpec Try.prog 9 [iv (-1)] [] fun r H' _ => r = .tup [.agg [.val (.slice none 0 0), iv 0, iv (-1)], iv 0] ∧ H' = [] :=
  (new_w (-1)).post (by rintro r H' m ⟨h1, h2⟩; exact ⟨by rw [h1, if_neg (by omega)], h2⟩)
theorem concat2_w (a b : List UInt8) (hl : a.length + b.length ≤ 2 ^ 40) : HSpec Try.prog 19 [.sl 1 [.sl 1 (bytesAV a), .sl 1 (bytesAV b)]] [] fun r H' _ => r = .osl 0 1 0 (a ++ b).length ∧ H' = [.mk 5 false false 1 (bytesAV (a ++ b))] :=
  (concat_w [a, b] (by simp; omega) (by simp)).post (by rintro r H' m ⟨rfl, rfl⟩; simp)

/-- the walk of casebook/casebooklaw48.JournalTorn -/
theorem torn_w (l : List Cmd) (c : Cmd) (cut change : Int) (hl : l.length ≤ 2 ^ 47) (hok : ∀ c ∈ l, CmdOk c) (hcok : CmdOk c) (hcu : 0 ≤ cut ∧ cut < 256) (hch : 0 ≤ change ∧ change < 256) : HSpec Try.prog 4 [.sl 7 (l.map cmdAV), cmdAV c, .val (.int .u8 cut), .val (.int .u8 change)] [] fun r H' _ => r = .val (.bool (true)) ∧ H' = [] := by
 refine hspec_intro Try.func4 rfl rfl ?_
 all_goals refine tri_seq ?_
 all_goals refine tri_region ?_
 all_goals refine oc (x_bx 7 ?_)
 all_goals refine oc (x_assign ?_)
 all_goals refine ops_nil ?_
 all_goals refine seqQ_n ?_
 all_goals refine tri_seq ?_
 all_goals refine tri_seq ?_
 all_goals refine tri_region ?_
 all_goals refine oc ?_
 all_goals (refine op_callA rfl rfl rfl rfl rfl ⟨_, Try.func5, by decide, rfl⟩ .nil (awake_w) shut0 ?_)
 all_goals (rintro _ H' m ⟨rfl, rfl⟩)
 all_goals refine oc ?_
 all_goals (first | refine op_not_d rfl rfl rfl ?_ | refine x_not ?_)
 all_goals refine oc (x_move ?_)
 all_goals (first | refine gU ?_ | refine gY ?_ | refine gN ?_ | refine ops_guardFd rfl rfl rfl rfl rfl rfl (fun hg => ?_) (fun hg => ?_) | refine gF (fun hg => ?_) (fun hg => ?_))
 all_goals try (exfalso; omega)
 all_goals (first | refine ops_here ?_ | (refine x_move ?_))
 all_goals (first | refine gU ?_ | refine gY ?_ | refine gN ?_ | refine ops_guardFd rfl rfl rfl rfl rfl rfl (fun hg => ?_) (fun hg => ?_) | refine gF (fun hg => ?_) (fun hg => ?_))
 all_goals try (exfalso; omega)
 all_goals (first | refine ops_here ?_ | (first | refine op_len_sl rfl (by first | (conv => lhs; simp only [List.length_map, bytesAV_length]) | rfl) rfl rfl rfl ?_ | refine x_leno ?_ | refine x_lenn ?_))
 all_goals (first | refine gU ?_ | refine gY ?_ | refine gN ?_ | refine ops_guardFd rfl rfl rfl rfl rfl rfl (fun hg => ?_) (fun hg => ?_) | refine gF (fun hg => ?_) (fun hg => ?_))
 all_goals try (exfalso; omega)
 all_goals (first | refine ops_here ?_ | (refine x_gtr ?_))
 all_goals refine oc ?_
 all_goals (first | refine x_pt ?_ | refine x_pf ?_ | refine x_pb ?_)
 all_goals refine oc (x_move ?_)
 all_goals (first | refine gU ?_ | refine gY ?_ | refine gN ?_ | refine ops_guardFd rfl rfl rfl rfl rfl rfl (fun hg => ?_) (fun hg => ?_) | refine gF (fun hg => ?_) (fun hg => ?_))
 all_goals try (exfalso; omega)
 all_goals (first | refine ops_here ?_ | (refine x_move ?_))
 all_goals (first | refine gU ?_ | refine gY ?_ | refine gN ?_ | refine ops_guardFd rfl rfl rfl rfl rfl rfl (fun hg => ?_) (fun hg => ?_) | refine gF (fun hg => ?_) (fun hg => ?_))
 all_goals try (exfalso; omega)
 all_goals (first | refine ops_here ?_ | (refine op_callA rfl rfl rfl rfl rfl ⟨_, Try.func6, by decide, rfl⟩ (.cons (.pure rfl) (.cons .fn0 .nil)) (idxC_c l 17 (fun c => !plainC c) (by first | omega | (simp; omega)) ⟨_, Try.func17, by decide, rfl⟩ (fun x hx => plainTorn_w x (hok x hx))) shut0 ?_; rintro r H' m ⟨rfl, rfl⟩))
 all_goals refine oc ?_
 all_goals (first | refine x_pt ?_ | refine x_pf ?_ | refine x_pb ?_)
 all_goals refine oc (x_move ?_)
 all_goals (first | refine gU ?_ | refine gY ?_ | refine gN ?_ | refine ops_guardFd rfl rfl rfl rfl rfl rfl (fun hg => ?_) (fun hg => ?_) | refine gF (fun hg => ?_) (fun hg => ?_))
 all_goals try (exfalso; omega)
 all_goals (first | refine ops_here ?_ | (first | refine x_lda ?_ | refine x_ldra ?_ | refine x_ldp ?_ | refine x_ldrp ?_))
 all_goals (first | refine gU ?_ | refine gY ?_ | refine gN ?_ | refine ops_guardFd rfl rfl rfl rfl rfl rfl (fun hg => ?_) (fun hg => ?_) | refine gF (fun hg => ?_) (fun hg => ?_))
 all_goals try (exfalso; omega)
 all_goals (first | refine ops_here ?_ | (refine op_callA rfl rfl rfl rfl rfl ⟨_, Try.func8, by decide, rfl⟩ (.cons (.pure rfl) .nil) (plain_w c hcok) shut0 ?_))
 all_goals (first | refine ops_here ?_ | (rintro _ H' m ⟨rfl, rfl⟩))
 all_goals (first | refine gU ?_ | refine gY ?_ | refine gN ?_ | refine ops_guardFd rfl rfl rfl rfl rfl rfl (fun hg => ?_) (fun hg => ?_) | refine gF (fun hg => ?_) (fun hg => ?_))
 all_goals try (exfalso; omega)
 all_goals (first | refine ops_here ?_ | (first | refine op_not_d rfl rfl rfl ?_ | refine x_not ?_))
 all_goals refine oc ?_
 all_goals (first | refine x_pt ?_ | refine x_pf ?_ | refine x_pb ?_)
 all_goals refine ops_nil ?_
 all_goals refine seqQ_n ?_
 all_goals (
  first | refine tri_cond_d rfl rfl (fun hc => ?_) (fun hc => ?_) | refine ct (fun hc => ?_) (fun hc => ?_) | refine cf (fun hc => ?_) (fun hc => ?_) | refine cb (fun hc => ?_) (fun hc => ?_)
  focus
   try (exfalso; first | exact hc | omega)
   all_goals refine tri_seq ?_
   all_goals refine tri_le (le_norm (n := 196) [0] [] (by kernel_rfl) (by rfl) rfl (.nil) (.c7 (.nil))) ?_
   all_goals refine tri_region ?_
   all_goals refine oc ?_
   all_goals (refine op_callA rfl rfl rfl rfl rfl ⟨_, Try.func5, by decide, rfl⟩ .nil (awake_w) shut0 ?_)
   all_goals (rintro _ H' m ⟨rfl, rfl⟩)
   all_goals refine oc (x_assign ?_)
   all_goals refine ops_nil ?_
   all_goals refine seqQ_n ?_
   all_goals refine tri_ret ?_
   all_goals refine seqQ_r ?_
   all_goals refine retE_r [] (.cons (.tmp (by conv => lhs; whnf) rfl) .nil) rfl rfl (by first | exact (ren_pure (by rfl)).trans (by conv => lhs; whnf) | ((conv => lhs; whnf); done) | rfl) (.nil) ?_
   all_goals (
    refine ⟨?_, rfl⟩
    first
    | rfl
    | (rw [hzb, hfb, beq_self_eq_true]; done)
    | (exfalso; omega)
    | (exfalso; rw [sameL_self] at hg; cases hg; done)
    | (exfalso; rw [sameL_self] at hc; cases hc; done)
    | (exfalso; simp_all; done))
  rotate_right 1
  focus
   try (exfalso; first | exact hc | omega)
   all_goals refine tri_skip ?_)
 all_goals refine seqQ_n ?_
 all_goals refine tri_seq ?_
 all_goals refine tri_le (le_norm (n := 196) [0] [0, 2, 3, 5] (by kernel_rfl) (by rfl) rfl (.c0 (.c0 (.c0 (.c0 (.nil))))) (.c7 (.nil))) ?_
 all_goals refine tri_region ?_
 all_goals refine oc ?_
 all_goals (refine op_callA rfl rfl rfl rfl rfl ⟨_, Try.func9, by decide, rfl⟩ (.cons (.pure rfl) .nil) (new_m1_w) shut0 ?_)
 all_goals (rintro _ H' m ⟨rfl, rfl⟩)
 all_goals refine oc (x_move ?_)
 all_goals refine oc (x_ext ?_)
 all_goals refine oc (x_ext ?_)
 all_goals refine oc (x_al 3 ?_)
 all_goals refine oc (x_st3 ?_)
 all_goals refine oc (x_assign ?_)
 all_goals refine ops_nil ?_
 all_goals refine seqQ_n ?_
 all_goals refine tri_seq ?_
 all_goals refine tri_le (le_norm (n := 196) [0, 1] [0, 2, 3, 5, 9] (by kernel_rfl) (by rfl) rfl (.c0 (.c0 (.c0 (.c0 (.c0 (.nil)))))) (.c7 (.c3 (.nil)))) ?_
 all_goals refine tri_region ?_
 all_goals refine oc (x_assign ?_)
 all_goals refine ops_nil ?_
 all_goals refine seqQ_n ?_
 all_goals refine tri_seq ?_
 all_goals refine tri_seq ?_
 all_goals refine tri_region ?_
 all_goals (refine ops_le (lit_own 11 26 7 rfl (by first | exact (rfl : _ = 0) | exact (rfl : _ = 1) | exact (rfl : _ = 2) | exact (rfl : _ = 3) | exact (rfl : _ = 4) | exact (rfl : _ = 5) | exact (rfl : _ = 6) | exact (rfl : _ = 7) | exact (rfl : _ = 8) | exact (rfl : _ = 9) | exact (rfl : _ = 10) | exact (rfl : _ = 11))) ?_)
 all_goals (
  have hpl := any_plain (l := l) (by assumption)
  obtain ⟨hw1, hw2, hw3, hw4, hw5⟩ := wr4 (c := c) (by simp_all))
 all_goals refine oc (x_move ?_)
 all_goals refine oc ?_
 all_goals (first | refine op_len_sl rfl (by first | (conv => lhs; simp only [List.length_map, bytesAV_length]) | rfl) rfl rfl rfl ?_ | refine x_leno ?_ | refine x_lenn ?_)
 all_goals refine oc (x_move ?_)
 all_goals refine ops_nil ?_
 all_goals refine seqQ_n ?_
 all_goals refine tri_block ?_
 all_goals (
  refine tri_loop (X := { p : Nat × Sto × List Cmd // p.1 ≤ l.length ∧ InvR p.2.1 p.2.2 [] ∧ p.2.2.length ≤ p.1 }) (fun x => ⟨196, noM, [(2, .val (.int .u8 cut)), (3, .val (.int .u8 change)), (5, .ptr 0 7 0 0), (9, .ptr 1 3 0 0), (11, .osl 2 7 0 x.1.2.2.length), (51, .sl 7 (l.map cmdAV)), (52, iv l.length), (53, iv x.1.1)], [.mk 26 true false 7 [cmdAV c], .mk 32 true false 3 [stoAV x.1.2.1], .mk 26 false false 7 (x.1.2.2.map cmdAV)]⟩) (fun x => l.length - x.1.1) (⟨(0, ⟨[], 0, -1⟩, []), by dsimp only; omega, InvR.new, by simp⟩) (by exact Le.trans (lit_snapO 1 (by first | ((conv => lhs; whnf; arg 1; whnf); done) | rfl | assumption | (simp; done)) (by conv => lhs; whnf; congr; { whnf }; { whnf; congr; { whnf }; { whnf; congr; { whnf }; { whnf } } }) (by exact .cons (SnapR.nil (sz := 1)) (.cons (.pure rfl) (.cons (.pure rfl) .nil))) (by rfl) (by rfl) (by rfl)) (le_kept [0, 1, 2] rfl rfl (fun _ _ h => by cases h) rfl ⟨by first | rfl | ((conv => lhs; whnf); first | rfl | (simp only [take_cmds, List.map_append]; rfl) | (dsimp only [iv]; congr 2; omega) | (rw [List.length_append]; rfl)), by first | rfl | ((conv => lhs; whnf); first | rfl | (simp only [take_cmds, List.map_append]; rfl) | (dsimp only [iv]; congr 2; omega) | (rw [List.length_append]; rfl)), by first | rfl | ((conv => lhs; whnf); first | rfl | (simp only [take_cmds, List.map_append]; rfl) | (dsimp only [iv]; congr 2; omega) | (rw [List.length_append]; rfl)), by first | rfl | ((conv => lhs; whnf); first | rfl | (simp only [take_cmds, List.map_append]; rfl) | (dsimp only [iv]; congr 2; omega) | (rw [List.length_append]; rfl)), by first | rfl | ((conv => lhs; whnf); first | rfl | (simp only [take_cmds, List.map_append]; rfl) | (dsimp only [iv]; congr 2; omega) | (rw [List.length_append]; rfl)), by first | rfl | ((conv => lhs; whnf); first | rfl | (simp only [take_cmds, List.map_append]; rfl) | (dsimp only [iv]; congr 2; omega) | (rw [List.length_append]; rfl)), by first | rfl | ((conv => lhs; whnf); first | rfl | (simp only [take_cmds, List.map_append]; rfl) | (dsimp only [iv]; congr 2; omega) | (rw [List.length_append]; rfl)), by first | rfl | ((conv => lhs; whnf); first | rfl | (simp only [take_cmds, List.map_append]; rfl) | (dsimp only [iv]; congr 2; omega) | (rw [List.length_append]; rfl)), trivial⟩ ⟨by first | rfl | ((conv => lhs; whnf); first | rfl | (simp only [take_cmds, List.map_append]; rfl) | (dsimp only [iv]; congr 2; omega) | (rw [List.length_append]; rfl)), by first | rfl | ((conv => lhs; whnf); first | rfl | (simp only [take_cmds, List.map_append]; rfl) | (dsimp only [iv]; congr 2; omega) | (rw [List.length_append]; rfl)), by first | rfl | ((conv => lhs; whnf); first | rfl | (simp only [take_cmds, List.map_append]; rfl) | (dsimp only [iv]; congr 2; omega) | (rw [List.length_append]; rfl)), trivial⟩)) (fun x => ?_)
  obtain ⟨⟨k, s, done⟩, hk, hI, hdk⟩ := x
  simp only at hk hI hdk ⊢
  have hsz := hI.sizes
  have hsz2 := hI.len
  have hsa := hI.aft
  all_goals refine tri_seq ?_
  all_goals refine tri_region ?_
  all_goals refine oc (x_lss ?_)
  all_goals refine ops_nil ?_
  all_goals refine seqQ_n ?_
  all_goals refine tri_seq ?_
  all_goals (
   first | refine tri_cond_d rfl rfl (fun hc => ?_) (fun hc => ?_) | refine ct (fun hc => ?_) (fun hc => ?_) | refine cf (fun hc => ?_) (fun hc => ?_) | refine cb (fun hc => ?_) (fun hc => ?_)
   focus
    try (exfalso; first | exact hc | omega)
    all_goals refine tri_skip ?_
   rotate_right 1
   focus
    try (exfalso; first | exact hc | omega)
    all_goals refine tri_exit ?_
    all_goals refine seqQ_x ?_
    all_goals refine seqQ_x ?_
    all_goals refine blockQ_x ?_
    all_goals refine seqQ_n ?_
    all_goals refine tri_seq ?_
    all_goals refine tri_region ?_
    all_goals refine oc ?_
    all_goals (first | refine x_lda ?_ | refine x_ldra ?_ | refine x_ldp ?_ | refine x_ldrp ?_)
    all_goals refine oc ?_
    all_goals (first | refine x_lda ?_ | refine x_ldra ?_ | refine x_ldp ?_ | refine x_ldrp ?_)
    all_goals refine oc ?_
    all_goals (refine op_callB rfl rfl rfl rfl rfl ⟨_, Try.func10, by decide, rfl⟩ (.cons (.pure rfl) (.cons (.pure rfl) .nil)) (write_w s c (by omega) hw1 hw2 hw3 hw4 hw5) ?_)
    all_goals (rintro _ H' m ⟨rfl, rfl⟩)
    all_goals (rcases hI.cases (by omega) c with ⟨hf, hw⟩ | ⟨hf, full, hw, hIf, hfb, hfd, hfl⟩ <;> rw [hw])
    all_goals (
     have hr5 := record_two c
     have hrl := fun h => record_length (c := c) h
     have hfs := fun h : formed c = true => hrl h)
    all_goals refine oc (x_move ?_)
    all_goals refine oc (x_ext ?_)
    all_goals refine oc (x_ext ?_)
    all_goals refine oc (x_al 3 ?_)
    all_goals refine oc (x_st3 ?_)
    all_goals refine oc (x_assign ?_)
    all_goals refine ops_nil ?_
    all_goals refine seqQ_n ?_
    all_goals refine tri_seq ?_
    all_goals refine tri_seq ?_
    all_goals refine tri_le (le_norm (n := 196) [0, 1, 2, 3] [2, 3, 5, 9, 11, 16, 17] (by kernel_rfl) (by rfl) rfl (.c0 (.c0 (.c0 (.c0 (.c0 (.c0 (.c0 (.nil)))))))) (.c7 (.c3 (.c0 (.c3 (.nil)))))) ?_
    all_goals refine tri_region ?_
    all_goals refine oc (x_move ?_)
    all_goals refine oc (x_neq ?_)
    all_goals refine ops_nil ?_
    all_goals refine seqQ_n ?_
    all_goals (
     first | refine tri_cond_d rfl rfl (fun hc => ?_) (fun hc => ?_) | refine ct (fun hc => ?_) (fun hc => ?_) | refine cf (fun hc => ?_) (fun hc => ?_) | refine cb (fun hc => ?_) (fun hc => ?_)
     focus
      try (exfalso; first | exact hc | omega)
      all_goals refine tri_seq ?_
      all_goals refine tri_region ?_
      all_goals refine oc (x_move ?_)
      all_goals refine oc (x_eql ?_)
      all_goals refine oc (x_assign ?_)
      all_goals refine ops_nil ?_
      all_goals refine seqQ_n ?_
      all_goals refine tri_ret ?_
      all_goals refine seqQ_r ?_
      all_goals refine retE_r [] (.cons (.tmp (by conv => lhs; whnf) rfl) .nil) rfl rfl (by first | exact (ren_pure (by rfl)).trans (by conv => lhs; whnf) | ((conv => lhs; whnf); done) | rfl) (.nil) ?_
      all_goals (
       refine ⟨?_, rfl⟩
       first
       | rfl
       | (rw [hzb, hfb, beq_self_eq_true]; done)
       | (exfalso; omega)
       | (exfalso; rw [sameL_self] at hg; cases hg; done)
       | (exfalso; rw [sameL_self] at hc; cases hc; done)
       | (exfalso; simp_all; done))
     rotate_right 1
     focus
      try (exfalso; first | exact hc | omega)
      all_goals refine tri_skip ?_)
    all_goals refine seqQ_n ?_
    all_goals refine tri_seq ?_
    all_goals refine tri_seq ?_
    all_goals refine tri_region ?_
    all_goals (
     have hrl := record_length hf
     have hr5 := record_two c
     have hfd2 := formed_data hI.form)
    all_goals refine oc ?_
    all_goals (first | refine x_fa0 ?_ | refine x_far0 ?_ | refine x_fa ?_ | refine x_far ?_)
    all_goals refine oc ?_
    all_goals (first | refine x_ld ?_ | refine x_ldr ?_)
    all_goals refine oc ?_
    all_goals (first | refine op_len_sl rfl (by first | (conv => lhs; simp only [List.length_map, bytesAV_length]) | rfl) rfl rfl rfl ?_ | refine x_leno ?_ | refine x_lenn ?_)
    all_goals refine oc ?_
    all_goals (first | refine x_fa0 ?_ | refine x_far0 ?_ | refine x_fa ?_ | refine x_far ?_)
    all_goals refine oc ?_
    all_goals (first | refine x_ld ?_ | refine x_ldr ?_)
    all_goals refine oc ?_
    all_goals (first | refine op_len_sl rfl (by first | (conv => lhs; simp only [List.length_map, bytesAV_length]) | rfl) rfl rfl rfl ?_ | refine x_leno ?_ | refine x_lenn ?_)
    all_goals refine oc (x_leq ?_)
    all_goals refine ops_nil ?_
    all_goals refine seqQ_n ?_
    all_goals (
     first | refine tri_cond_d rfl rfl (fun hc => ?_) (fun hc => ?_) | refine ct (fun hc => ?_) (fun hc => ?_) | refine cf (fun hc => ?_) (fun hc => ?_) | refine cb (fun hc => ?_) (fun hc => ?_)
     focus
      try (exfalso; first | exact hc | omega)
      all_goals refine tri_seq ?_
      all_goals refine tri_region ?_
      all_goals refine oc (x_assign ?_)
      all_goals refine ops_nil ?_
      all_goals refine seqQ_n ?_
      all_goals refine tri_ret ?_
      all_goals refine seqQ_r ?_
      all_goals refine retE_r [] (.cons (.tmp (by conv => lhs; whnf) rfl) .nil) rfl rfl (by first | exact (ren_pure (by rfl)).trans (by conv => lhs; whnf) | ((conv => lhs; whnf); done) | rfl) (.nil) ?_
      all_goals (
       refine ⟨?_, rfl⟩
       first
       | rfl
       | (rw [hzb, hfb, beq_self_eq_true]; done)
       | (exfalso; omega)
       | (exfalso; rw [sameL_self] at hg; cases hg; done)
       | (exfalso; rw [sameL_self] at hc; cases hc; done)
       | (exfalso; simp_all; done))
     rotate_right 1
     focus
      try (exfalso; first | exact hc | omega)
      all_goals refine tri_skip ?_)
    all_goals refine seqQ_n ?_
    all_goals refine tri_seq ?_
    all_goals refine tri_region ?_
    all_goals refine oc ?_
    all_goals (first | refine x_fa0 ?_ | refine x_far0 ?_ | refine x_fa ?_ | refine x_far ?_)
    all_goals refine oc ?_
    all_goals (first | refine x_ld ?_ | refine x_ldr ?_)
    all_goals refine oc ?_
    all_goals (first | refine x_fa0 ?_ | refine x_far0 ?_ | refine x_fa ?_ | refine x_far ?_)
    all_goals refine oc ?_
    all_goals (first | refine x_ld ?_ | refine x_ldr ?_)
    all_goals refine oc ?_
    all_goals (first | refine op_len_sl rfl (by first | (conv => lhs; simp only [List.length_map, bytesAV_length]) | rfl) rfl rfl rfl ?_ | refine x_leno ?_ | refine x_lenn ?_)
    all_goals refine oc ?_
    all_goals (first | refine op_slice_sl rfl rfl rfl rfl rfl (.to rfl rfl (by first | rw [Int.toNat_natCast] | rw [Int.toNat_zero] | rw [Int.toNat_one] | rw [Int.toNat_ofNat] | exact rfl) (by omega)) .none (by first | omega | simp; omega) (by first | omega | simp; omega) (by conv => lhs; first | rw [sub1] | rw [sub2] | rw [sub3] | skip) ?_ | refine op_slice_osl rfl rfl rfl rfl rfl (.to rfl rfl (by first | rw [Int.toNat_natCast] | rw [Int.toNat_zero] | rw [Int.toNat_one] | rw [Int.toNat_ofNat] | exact rfl) (by omega)) .none (by first | omega | simp) (by omega) ?_)
    all_goals refine oc ?_
    all_goals (
     rw [hfd]
     refine op_callA rfl rfl rfl rfl rfl ⟨_, Try.func18, by decide, rfl⟩ (.cons (.pure rfl) .nil) (clone_o (record c) (by omega)) (by rintro r H' m ⟨rfl, rfl⟩; refine ⟨rfl, ?_⟩; simp only [List.mem_singleton]; rintro o rfl; exact AObj.shut_vals (fun e he => by obtain ⟨b, _, rfl⟩ := List.mem_map.1 he; exact ⟨_, rfl⟩)) ?_)
    all_goals (rintro r H' m ⟨rfl, rfl⟩)
    all_goals refine oc (x_assign ?_)
    all_goals refine ops_nil ?_
    all_goals refine seqQ_n ?_
    all_goals refine tri_seq ?_
    all_goals refine tri_le (le_norm (n := 196) [0, 1, 2, 3, 4] [2, 3, 5, 9, 11, 16, 18] (by kernel_rfl) (by rfl) rfl (.c0 (.c0 (.c0 (.c0 (.c0 (.c0 (.c0 (.nil)))))))) (.c7 (.c3 (.c0 (.c3 (.c0 (.nil))))))) ?_
    all_goals (
     have hm1 := Int.emod_nonneg cut (b := (record c).length) (by omega)
     have hm2 := Int.emod_lt_of_pos cut (b := (record c).length) (by omega)
     have hm3 := Int.emod_nonneg cut (b := (record c).length - 1) (by omega)
     have hm4 := Int.emod_lt_of_pos cut (b := (record c).length - 1) (by omega)
     obtain ⟨torn, htorn⟩ : ∃ t : Sto, t = ⟨s.bytes ++ (record c).take (cut % (record c).length).toNat, s.durable, -1⟩ := ⟨_, rfl⟩
     have hIt : InvR torn done ((record c).take (cut % (record c).length).toNat) := htorn ▸ hI.behind (rec1_prefix hf (by omega)) (by rw [List.length_take]; omega))
    all_goals (
     apply tri_anyCut (by rfl)
     focus
      all_goals refine x_tk 0 (opWF_fieldAddr rfl rfl rfl) ?_
      all_goals (first | refine x_fa0 ?_ | refine x_far0 ?_ | refine x_fa ?_ | refine x_far ?_)
      all_goals refine x_tk 2 (opWF_move) ?_
      all_goals (refine x_move ?_)
      all_goals refine x_tk 3 (opWF_move) ?_
      all_goals (refine x_move ?_)
      all_goals refine x_tk 4 (opWF_conv rfl rfl rfl rfl) ?_
      all_goals (first | refine x_ci64 ?_ | refine x_ci ?_)
      all_goals refine x_tk 5 (opWF_move) ?_
      all_goals (refine x_move ?_)
      all_goals refine x_tk 11 (opWF_fieldAddr rfl rfl rfl) ?_
      all_goals (first | refine x_fa0 ?_ | refine x_far0 ?_ | refine x_fa ?_ | refine x_far ?_)
      all_goals (
       refine any_all (rs := [1, 6, 12, 14]) (by kernel_rfl) (by simp) (anyL_cons rfl rfl ?_ (anyL_cons rfl rfl ?_ (anyL_cons rfl rfl ?_ (anyL_cons rfl rfl ?_ anyL_nil))))
       focus
        all_goals (first | refine x_ld ?_ | refine x_ldr ?_)
        all_goals (
         refine x_all3 6 12 14 ?_ ?_ ?_
         focus
          all_goals (first | refine op_len_sl rfl (by first | (conv => lhs; simp only [List.length_map, bytesAV_length]) | rfl) rfl rfl rfl ?_ | refine x_leno ?_ | refine x_lenn ?_)
          all_goals refine x_tk 7 (opWF_bin rfl rfl rfl rfl) ?_
          all_goals (first | refine x_rem64 ?_ | refine x_rem ?_)
          all_goals refine x_tk 8 (opWF_slice) ?_
          all_goals (first | refine op_slice_sl rfl rfl rfl rfl rfl .none (.to rfl rfl (by first | rw [Int.toNat_natCast] | rw [Int.toNat_zero] | rw [Int.toNat_one] | rw [Int.toNat_ofNat] | exact rfl) (by omega)) (by first | omega | simp; omega) (by first | omega | simp; omega) (by conv => lhs; first | rw [sub1] | rw [sub2] | rw [sub3] | skip) ?_ | refine op_slice_osl rfl rfl rfl rfl rfl .none (.to rfl rfl (by first | rw [Int.toNat_natCast] | rw [Int.toNat_zero] | rw [Int.toNat_one] | rw [Int.toNat_ofNat] | exact rfl) (by omega)) (by first | omega | simp) (by omega) ?_)
          all_goals (
           refine x_all3 9 12 14 ?_ ?_ ?_
           focus
            all_goals (refine x_bs2 true ?_)
            all_goals (
             refine x_all3 10 12 14 ?_ ?_ ?_
             focus
              all_goals (refine op_callA rfl rfl rfl rfl rfl ⟨_, Try.func19, by decide, rfl⟩ (.cons (.two (by first | ((conv => lhs; whnf; arg 1; whnf); done) | rfl | assumption | (simp; done)) rfl rfl (.pure rfl) (.own (by first | ((conv => lhs; whnf; arg 1; whnf); done) | rfl | assumption | (simp; done)) (own_pre _ _) (own_len _ (by omega))) rfl rfl) .nil) (concat2_w s.bytes ((record c).take (cut % (record c).length).toNat) (by first | omega | (simp; omega))) (by rintro r H' m ⟨rfl, rfl⟩; refine ⟨rfl, ?_⟩; simp only [List.mem_singleton]; rintro o rfl; exact AObj.shut_vals (fun e he => by obtain ⟨b, _, rfl⟩ := List.mem_map.1 he; exact ⟨_, rfl⟩)) ?_)
              all_goals (rintro r H' m ⟨rfl, rfl⟩)
              all_goals (
               refine x_all2 12 14 ?_ ?_
               focus
                all_goals (first | refine x_ld ?_ | refine x_ldr ?_)
                all_goals refine x_tk 13 (opWF_build rfl) ?_
                all_goals (refine x_b3_3 ?_)
                all_goals (
                 refine x_all1 14 ?_
                 focus
                  all_goals (refine x_al 3 ?_)
                  all_goals (
                   refine x_all1 15 ?_
                   focus
                    all_goals (refine x_st3 ?_)
                    all_goals exact any_leaf (n := 196) [0, 1, 2, 3, 4, 5, 6, 7] [2, 3, 5, 9, 11, 16, 18, 19] (by kernel_rfl) rfl rfl rfl (.c0 (.c0 (.c0 (.c0 (.c0 (.c0 (.c0 (.c0 (.nil))))))))) (.c7 (.c3 (.c0 (.c3 (.c0 (.c0 (.c0 (.c3 (.nil)))))))))))
               focus
                all_goals (refine x_al 3 ?_)
                all_goals (
                 refine x_all1 12 ?_
                 focus
                  all_goals (first | refine x_ld ?_ | refine x_ldr ?_)
                  all_goals refine x_tk 13 (opWF_build rfl) ?_
                  all_goals (refine x_b3_3 ?_)
                  all_goals (
                   refine x_all1 15 ?_
                   focus
                    all_goals (refine x_st3 ?_)
                    all_goals exact any_leaf (n := 196) [0, 1, 2, 3, 4, 5, 6, 7] [2, 3, 5, 9, 11, 16, 18, 19] (by kernel_rfl) rfl rfl rfl (.c0 (.c0 (.c0 (.c0 (.c0 (.c0 (.c0 (.c0 (.nil))))))))) (.c7 (.c3 (.c0 (.c3 (.c0 (.c0 (.c0 (.c3 (.nil))))))))))))
             focus
              all_goals (first | refine x_ld ?_ | refine x_ldr ?_)
              all_goals (
               refine x_all2 10 14 ?_ ?_
               focus
                all_goals (refine op_callA rfl rfl rfl rfl rfl ⟨_, Try.func19, by decide, rfl⟩ (.cons (.two (by first | ((conv => lhs; whnf; arg 1; whnf); done) | rfl | assumption | (simp; done)) rfl rfl (.pure rfl) (.own (by first | ((conv => lhs; whnf; arg 1; whnf); done) | rfl | assumption | (simp; done)) (own_pre _ _) (own_len _ (by omega))) rfl rfl) .nil) (concat2_w s.bytes ((record c).take (cut % (record c).length).toNat) (by first | omega | (simp; omega))) (by rintro r H' m ⟨rfl, rfl⟩; refine ⟨rfl, ?_⟩; simp only [List.mem_singleton]; rintro o rfl; exact AObj.shut_vals (fun e he => by obtain ⟨b, _, rfl⟩ := List.mem_map.1 he; exact ⟨_, rfl⟩)) ?_)
                all_goals (rintro r H' m ⟨rfl, rfl⟩)
                all_goals refine x_tk 13 (opWF_build rfl) ?_
                all_goals (refine x_b3_3 ?_)
                all_goals (
                 refine x_all1 14 ?_
                 focus
                  all_goals (refine x_al 3 ?_)
                  all_goals (
                   refine x_all1 15 ?_
                   focus
                    all_goals (refine x_st3 ?_)
                    all_goals exact any_leaf (n := 196) [0, 1, 2, 3, 4, 5, 6, 7] [2, 3, 5, 9, 11, 16, 18, 19] (by kernel_rfl) rfl rfl rfl (.c0 (.c0 (.c0 (.c0 (.c0 (.c0 (.c0 (.c0 (.nil))))))))) (.c7 (.c3 (.c0 (.c3 (.c0 (.c0 (.c0 (.c3 (.nil)))))))))))
               focus
                all_goals (refine x_al 3 ?_)
                all_goals (
                 refine x_all1 10 ?_
                 focus
                  all_goals (refine op_callA rfl rfl rfl rfl rfl ⟨_, Try.func19, by decide, rfl⟩ (.cons (.two (by first | ((conv => lhs; whnf; arg 1; whnf); done) | rfl | assumption | (simp; done)) rfl rfl (.pure rfl) (.own (by first | ((conv => lhs; whnf; arg 1; whnf); done) | rfl | assumption | (simp; done)) (own_pre _ _) (own_len _ (by omega))) rfl rfl) .nil) (concat2_w s.bytes ((record c).take (cut % (record c).length).toNat) (by first | omega | (simp; omega))) (by rintro r H' m ⟨rfl, rfl⟩; refine ⟨rfl, ?_⟩; simp only [List.mem_singleton]; rintro o rfl; exact AObj.shut_vals (fun e he => by obtain ⟨b, _, rfl⟩ := List.mem_map.1 he; exact ⟨_, rfl⟩)) ?_)
                  all_goals (rintro r H' m ⟨rfl, rfl⟩)
                  all_goals refine x_tk 13 (opWF_build rfl) ?_
                  all_goals (refine x_b3_3 ?_)
                  all_goals (
                   refine x_all1 15 ?_
                   focus
                    all_goals (refine x_st3 ?_)
                    all_goals exact any_leaf (n := 196) [0, 1, 2, 3, 4, 5, 7, 6] [2, 3, 5, 9, 11, 16, 18, 19] (by kernel_rfl) rfl rfl rfl (.c0 (.c0 (.c0 (.c0 (.c0 (.c0 (.c0 (.c0 (.nil))))))))) (.c7 (.c3 (.c0 (.c3 (.c0 (.c0 (.c0 (.c3 (.nil))))))))))))
             focus
              all_goals (refine x_al 3 ?_)
              all_goals (
               refine x_all2 10 12 ?_ ?_
               focus
                all_goals (refine op_callA rfl rfl rfl rfl rfl ⟨_, Try.func19, by decide, rfl⟩ (.cons (.two (by first | ((conv => lhs; whnf; arg 1; whnf); done) | rfl | assumption | (simp; done)) rfl rfl (.pure rfl) (.own (by first | ((conv => lhs; whnf; arg 1; whnf); done) | rfl | assumption | (simp; done)) (own_pre _ _) (own_len _ (by omega))) rfl rfl) .nil) (concat2_w s.bytes ((record c).take (cut % (record c).length).toNat) (by first | omega | (simp; omega))) (by rintro r H' m ⟨rfl, rfl⟩; refine ⟨rfl, ?_⟩; simp only [List.mem_singleton]; rintro o rfl; exact AObj.shut_vals (fun e he => by obtain ⟨b, _, rfl⟩ := List.mem_map.1 he; exact ⟨_, rfl⟩)) ?_)
                all_goals (rintro r H' m ⟨rfl, rfl⟩)
                all_goals (
                 refine x_all1 12 ?_
                 focus
                  all_goals (first | refine x_ld ?_ | refine x_ldr ?_)
                  all_goals refine x_tk 13 (opWF_build rfl) ?_
                  all_goals (refine x_b3_3 ?_)
                  all_goals (
                   refine x_all1 15 ?_
                   focus
                    all_goals (refine x_st3 ?_)
                    all_goals exact any_leaf (n := 196) [0, 1, 2, 3, 4, 5, 7, 6] [2, 3, 5, 9, 11, 16, 18, 19] (by kernel_rfl) rfl rfl rfl (.c0 (.c0 (.c0 (.c0 (.c0 (.c0 (.c0 (.c0 (.nil))))))))) (.c7 (.c3 (.c0 (.c3 (.c0 (.c0 (.c0 (.c3 (.nil)))))))))))
               focus
                all_goals (first | refine x_ld ?_ | refine x_ldr ?_)
                all_goals (
                 refine x_all1 10 ?_
                 focus
                  all_goals (refine op_callA rfl rfl rfl rfl rfl ⟨_, Try.func19, by decide, rfl⟩ (.cons (.two (by first | ((conv => lhs; whnf; arg 1; whnf); done) | rfl | assumption | (simp; done)) rfl rfl (.pure rfl) (.own (by first | ((conv => lhs; whnf; arg 1; whnf); done) | rfl | assumption | (simp; done)) (own_pre _ _) (own_len _ (by omega))) rfl rfl) .nil) (concat2_w s.bytes ((record c).take (cut % (record c).length).toNat) (by first | omega | (simp; omega))) (by rintro r H' m ⟨rfl, rfl⟩; refine ⟨rfl, ?_⟩; simp only [List.mem_singleton]; rintro o rfl; exact AObj.shut_vals (fun e he => by obtain ⟨b, _, rfl⟩ := List.mem_map.1 he; exact ⟨_, rfl⟩)) ?_)
                  all_goals (rintro r H' m ⟨rfl, rfl⟩)
                  all_goals refine x_tk 13 (opWF_build rfl) ?_
                  all_goals (refine x_b3_3 ?_)
                  all_goals (
                   refine x_all1 15 ?_
                   focus
                    all_goals (refine x_st3 ?_)
                    all_goals exact any_leaf (n := 196) [0, 1, 2, 3, 4, 5, 7, 6] [2, 3, 5, 9, 11, 16, 18, 19] (by kernel_rfl) rfl rfl rfl (.c0 (.c0 (.c0 (.c0 (.c0 (.c0 (.c0 (.c0 (.nil))))))))) (.c7 (.c3 (.c0 (.c3 (.c0 (.c0 (.c0 (.c3 (.nil)))))))))))))
           focus
            all_goals (first | refine x_ld ?_ | refine x_ldr ?_)
            all_goals (
             refine x_all2 9 14 ?_ ?_
             focus
              all_goals (refine x_bs2 true ?_)
              all_goals (
               refine x_all2 10 14 ?_ ?_
               focus
                all_goals (refine op_callA rfl rfl rfl rfl rfl ⟨_, Try.func19, by decide, rfl⟩ (.cons (.two (by first | ((conv => lhs; whnf; arg 1; whnf); done) | rfl | assumption | (simp; done)) rfl rfl (.pure rfl) (.own (by first | ((conv => lhs; whnf; arg 1; whnf); done) | rfl | assumption | (simp; done)) (own_pre _ _) (own_len _ (by omega))) rfl rfl) .nil) (concat2_w s.bytes ((record c).take (cut % (record c).length).toNat) (by first | omega | (simp; omega))) (by rintro r H' m ⟨rfl, rfl⟩; refine ⟨rfl, ?_⟩; simp only [List.mem_singleton]; rintro o rfl; exact AObj.shut_vals (fun e he => by obtain ⟨b, _, rfl⟩ := List.mem_map.1 he; exact ⟨_, rfl⟩)) ?_)
                all_goals (rintro r H' m ⟨rfl, rfl⟩)
                all_goals refine x_tk 13 (opWF_build rfl) ?_
                all_goals (refine x_b3_3 ?_)
                all_goals (
                 refine x_all1 14 ?_
                 focus
                  all_goals (refine x_al 3 ?_)
                  all_goals (
                   refine x_all1 15 ?_
                   focus
                    all_goals (refine x_st3 ?_)
                    all_goals exact any_leaf (n := 196) [0, 1, 2, 3, 4, 5, 6, 7] [2, 3, 5, 9, 11, 16, 18, 19] (by kernel_rfl) rfl rfl rfl (.c0 (.c0 (.c0 (.c0 (.c0 (.c0 (.c0 (.c0 (.nil))))))))) (.c7 (.c3 (.c0 (.c3 (.c0 (.c0 (.c0 (.c3 (.nil)))))))))))
               focus
                all_goals (refine x_al 3 ?_)
                all_goals (
                 refine x_all1 10 ?_
                 focus
                  all_goals (refine op_callA rfl rfl rfl rfl rfl ⟨_, Try.func19, by decide, rfl⟩ (.cons (.two (by first | ((conv => lhs; whnf; arg 1; whnf); done) | rfl | assumption | (simp; done)) rfl rfl (.pure rfl) (.own (by first | ((conv => lhs; whnf; arg 1; whnf); done) | rfl | assumption | (simp; done)) (own_pre _ _) (own_len _ (by omega))) rfl rfl) .nil) (concat2_w s.bytes ((record c).take (cut % (record c).length).toNat) (by first | omega | (simp; omega))) (by rintro r H' m ⟨rfl, rfl⟩; refine ⟨rfl, ?_⟩; simp only [List.mem_singleton]; rintro o rfl; exact AObj.shut_vals (fun e he => by obtain ⟨b, _, rfl⟩ := List.mem_map.1 he; exact ⟨_, rfl⟩)) ?_)
                  all_goals (rintro r H' m ⟨rfl, rfl⟩)
                  all_goals refine x_tk 13 (opWF_build rfl) ?_
                  all_goals (refine x_b3_3 ?_)
                  all_goals (
                   refine x_all1 15 ?_
                   focus
                    all_goals (refine x_st3 ?_)
                    all_goals exact any_leaf (n := 196) [0, 1, 2, 3, 4, 5, 7, 6] [2, 3, 5, 9, 11, 16, 18, 19] (by kernel_rfl) rfl rfl rfl (.c0 (.c0 (.c0 (.c0 (.c0 (.c0 (.c0 (.c0 (.nil))))))))) (.c7 (.c3 (.c0 (.c3 (.c0 (.c0 (.c0 (.c3 (.nil))))))))))))
             focus
              all_goals (refine x_al 3 ?_)
              all_goals (
               refine x_all1 9 ?_
               focus
                all_goals (refine x_bs2 true ?_)
                all_goals (
                 refine x_all1 10 ?_
                 focus
                  all_goals (refine op_callA rfl rfl rfl rfl rfl ⟨_, Try.func19, by decide, rfl⟩ (.cons (.two (by first | ((conv => lhs; whnf; arg 1; whnf); done) | rfl | assumption | (simp; done)) rfl rfl (.pure rfl) (.own (by first | ((conv => lhs; whnf; arg 1; whnf); done) | rfl | assumption | (simp; done)) (own_pre _ _) (own_len _ (by omega))) rfl rfl) .nil) (concat2_w s.bytes ((record c).take (cut % (record c).length).toNat) (by first | omega | (simp; omega))) (by rintro r H' m ⟨rfl, rfl⟩; refine ⟨rfl, ?_⟩; simp only [List.mem_singleton]; rintro o rfl; exact AObj.shut_vals (fun e he => by obtain ⟨b, _, rfl⟩ := List.mem_map.1 he; exact ⟨_, rfl⟩)) ?_)
                  all_goals (rintro r H' m ⟨rfl, rfl⟩)
                  all_goals refine x_tk 13 (opWF_build rfl) ?_
                  all_goals (refine x_b3_3 ?_)
                  all_goals (
                   refine x_all1 15 ?_
                   focus
                    all_goals (refine x_st3 ?_)
                    all_goals exact any_leaf (n := 196) [0, 1, 2, 3, 4, 6, 7, 5] [2, 3, 5, 9, 11, 16, 18, 19] (by kernel_rfl) rfl rfl rfl (.c0 (.c0 (.c0 (.c0 (.c0 (.c0 (.c0 (.c0 (.nil))))))))) (.c7 (.c3 (.c0 (.c3 (.c0 (.c0 (.c0 (.c3 (.nil)))))))))))))
           focus
            all_goals (refine x_al 3 ?_)
            all_goals (
             refine x_all2 9 12 ?_ ?_
             focus
              all_goals (refine x_bs2 true ?_)
              all_goals (
               refine x_all2 10 12 ?_ ?_
               focus
                all_goals (refine op_callA rfl rfl rfl rfl rfl ⟨_, Try.func19, by decide, rfl⟩ (.cons (.two (by first | ((conv => lhs; whnf; arg 1; whnf); done) | rfl | assumption | (simp; done)) rfl rfl (.pure rfl) (.own (by first | ((conv => lhs; whnf; arg 1; whnf); done) | rfl | assumption | (simp; done)) (own_pre _ _) (own_len _ (by omega))) rfl rfl) .nil) (concat2_w s.bytes ((record c).take (cut % (record c).length).toNat) (by first | omega | (simp; omega))) (by rintro r H' m ⟨rfl, rfl⟩; refine ⟨rfl, ?_⟩; simp only [List.mem_singleton]; rintro o rfl; exact AObj.shut_vals (fun e he => by obtain ⟨b, _, rfl⟩ := List.mem_map.1 he; exact ⟨_, rfl⟩)) ?_)
                all_goals (rintro r H' m ⟨rfl, rfl⟩)
                all_goals (
                 refine x_all1 12 ?_
                 focus
                  all_goals (first | refine x_ld ?_ | refine x_ldr ?_)
                  all_goals refine x_tk 13 (opWF_build rfl) ?_
                  all_goals (refine x_b3_3 ?_)
                  all_goals (
                   refine x_all1 15 ?_
                   focus
                    all_goals (refine x_st3 ?_)
                    all_goals exact any_leaf (n := 196) [0, 1, 2, 3, 4, 6, 7, 5] [2, 3, 5, 9, 11, 16, 18, 19] (by kernel_rfl) rfl rfl rfl (.c0 (.c0 (.c0 (.c0 (.c0 (.c0 (.c0 (.c0 (.nil))))))))) (.c7 (.c3 (.c0 (.c3 (.c0 (.c0 (.c0 (.c3 (.nil)))))))))))
               focus
                all_goals (first | refine x_ld ?_ | refine x_ldr ?_)
                all_goals (
                 refine x_all1 10 ?_
                 focus
                  all_goals (refine op_callA rfl rfl rfl rfl rfl ⟨_, Try.func19, by decide, rfl⟩ (.cons (.two (by first | ((conv => lhs; whnf; arg 1; whnf); done) | rfl | assumption | (simp; done)) rfl rfl (.pure rfl) (.own (by first | ((conv => lhs; whnf; arg 1; whnf); done) | rfl | assumption | (simp; done)) (own_pre _ _) (own_len _ (by omega))) rfl rfl) .nil) (concat2_w s.bytes ((record c).take (cut % (record c).length).toNat) (by first | omega | (simp; omega))) (by rintro r H' m ⟨rfl, rfl⟩; refine ⟨rfl, ?_⟩; simp only [List.mem_singleton]; rintro o rfl; exact AObj.shut_vals (fun e he => by obtain ⟨b, _, rfl⟩ := List.mem_map.1 he; exact ⟨_, rfl⟩)) ?_)
                  all_goals (rintro r H' m ⟨rfl, rfl⟩)
                  all_goals refine x_tk 13 (opWF_build rfl) ?_
                  all_goals (refine x_b3_3 ?_)
                  all_goals (
                   refine x_all1 15 ?_
                   focus
                    all_goals (refine x_st3 ?_)
                    all_goals exact any_leaf (n := 196) [0, 1, 2, 3, 4, 6, 7, 5] [2, 3, 5, 9, 11, 16, 18, 19] (by kernel_rfl) rfl rfl rfl (.c0 (.c0 (.c0 (.c0 (.c0 (.c0 (.c0 (.c0 (.nil))))))))) (.c7 (.c3 (.c0 (.c3 (.c0 (.c0 (.c0 (.c3 (.nil))))))))))))
             focus
              all_goals (first | refine x_ld ?_ | refine x_ldr ?_)
              all_goals (
               refine x_all1 9 ?_
               focus
                all_goals (refine x_bs2 true ?_)
                all_goals (
                 refine x_all1 10 ?_
                 focus
                  all_goals (refine op_callA rfl rfl rfl rfl rfl ⟨_, Try.func19, by decide, rfl⟩ (.cons (.two (by first | ((conv => lhs; whnf; arg 1; whnf); done) | rfl | assumption | (simp; done)) rfl rfl (.pure rfl) (.own (by first | ((conv => lhs; whnf; arg 1; whnf); done) | rfl | assumption | (simp; done)) (own_pre _ _) (own_len _ (by omega))) rfl rfl) .nil) (concat2_w s.bytes ((record c).take (cut % (record c).length).toNat) (by first | omega | (simp; omega))) (by rintro r H' m ⟨rfl, rfl⟩; refine ⟨rfl, ?_⟩; simp only [List.mem_singleton]; rintro o rfl; exact AObj.shut_vals (fun e he => by obtain ⟨b, _, rfl⟩ := List.mem_map.1 he; exact ⟨_, rfl⟩)) ?_)
                  all_goals (rintro r H' m ⟨rfl, rfl⟩)
                  all_goals refine x_tk 13 (opWF_build rfl) ?_
                  all_goals (refine x_b3_3 ?_)
                  all_goals (
                   refine x_all1 15 ?_
                   focus
                    all_goals (refine x_st3 ?_)
                    all_goals exact any_leaf (n := 196) [0, 1, 2, 3, 4, 6, 7, 5] [2, 3, 5, 9, 11, 16, 18, 19] (by kernel_rfl) rfl rfl rfl (.c0 (.c0 (.c0 (.c0 (.c0 (.c0 (.c0 (.c0 (.nil))))))))) (.c7 (.c3 (.c0 (.c3 (.c0 (.c0 (.c0 (.c3 (.nil))))))))))))))
         focus
          all_goals (first | refine x_ld ?_ | refine x_ldr ?_)
          all_goals (
           refine x_all2 6 14 ?_ ?_
           focus
            all_goals (first | refine op_len_sl rfl (by first | (conv => lhs; simp only [List.length_map, bytesAV_length]) | rfl) rfl rfl rfl ?_ | refine x_leno ?_ | refine x_lenn ?_)
            all_goals refine x_tk 7 (opWF_bin rfl rfl rfl rfl) ?_
            all_goals (first | refine x_rem64 ?_ | refine x_rem ?_)
            all_goals refine x_tk 8 (opWF_slice) ?_
            all_goals (first | refine op_slice_sl rfl rfl rfl rfl rfl .none (.to rfl rfl (by first | rw [Int.toNat_natCast] | rw [Int.toNat_zero] | rw [Int.toNat_one] | rw [Int.toNat_ofNat] | exact rfl) (by omega)) (by first | omega | simp; omega) (by first | omega | simp; omega) (by conv => lhs; first | rw [sub1] | rw [sub2] | rw [sub3] | skip) ?_ | refine op_slice_osl rfl rfl rfl rfl rfl .none (.to rfl rfl (by first | rw [Int.toNat_natCast] | rw [Int.toNat_zero] | rw [Int.toNat_one] | rw [Int.toNat_ofNat] | exact rfl) (by omega)) (by first | omega | simp) (by omega) ?_)
            all_goals (
             refine x_all2 9 14 ?_ ?_
             focus
              all_goals (refine x_bs2 true ?_)
              all_goals (
               refine x_all2 10 14 ?_ ?_
               focus
                all_goals (refine op_callA rfl rfl rfl rfl rfl ⟨_, Try.func19, by decide, rfl⟩ (.cons (.two (by first | ((conv => lhs; whnf; arg 1; whnf); done) | rfl | assumption | (simp; done)) rfl rfl (.pure rfl) (.own (by first | ((conv => lhs; whnf; arg 1; whnf); done) | rfl | assumption | (simp; done)) (own_pre _ _) (own_len _ (by omega))) rfl rfl) .nil) (concat2_w s.bytes ((record c).take (cut % (record c).length).toNat) (by first | omega | (simp; omega))) (by rintro r H' m ⟨rfl, rfl⟩; refine ⟨rfl, ?_⟩; simp only [List.mem_singleton]; rintro o rfl; exact AObj.shut_vals (fun e he => by obtain ⟨b, _, rfl⟩ := List.mem_map.1 he; exact ⟨_, rfl⟩)) ?_)
                all_goals (rintro r H' m ⟨rfl, rfl⟩)
                all_goals refine x_tk 13 (opWF_build rfl) ?_
                all_goals (refine x_b3_3 ?_)
                all_goals (
                 refine x_all1 14 ?_
                 focus
                  all_goals (refine x_al 3 ?_)
                  all_goals (
                   refine x_all1 15 ?_
                   focus
                    all_goals (refine x_st3 ?_)
                    all_goals exact any_leaf (n := 196) [0, 1, 2, 3, 4, 5, 6, 7] [2, 3, 5, 9, 11, 16, 18, 19] (by kernel_rfl) rfl rfl rfl (.c0 (.c0 (.c0 (.c0 (.c0 (.c0 (.c0 (.c0 (.nil))))))))) (.c7 (.c3 (.c0 (.c3 (.c0 (.c0 (.c0 (.c3 (.nil)))))))))))
               focus
                all_goals (refine x_al 3 ?_)
                all_goals (
                 refine x_all1 10 ?_
                 focus
                  all_goals (refine op_callA rfl rfl rfl rfl rfl ⟨_, Try.func19, by decide, rfl⟩ (.cons (.two (by first | ((conv => lhs; whnf; arg 1; whnf); done) | rfl | assumption | (simp; done)) rfl rfl (.pure rfl) (.own (by first | ((conv => lhs; whnf; arg 1; whnf); done) | rfl | assumption | (simp; done)) (own_pre _ _) (own_len _ (by omega))) rfl rfl) .nil) (concat2_w s.bytes ((record c).take (cut % (record c).length).toNat) (by first | omega | (simp; omega))) (by rintro r H' m ⟨rfl, rfl⟩; refine ⟨rfl, ?_⟩; simp only [List.mem_singleton]; rintro o rfl; exact AObj.shut_vals (fun e he => by obtain ⟨b, _, rfl⟩ := List.mem_map.1 he; exact ⟨_, rfl⟩)) ?_)
                  all_goals (rintro r H' m ⟨rfl, rfl⟩)
                  all_goals refine x_tk 13 (opWF_build rfl) ?_
                  all_goals (refine x_b3_3 ?_)
                  all_goals (
                   refine x_all1 15 ?_
                   focus
                    all_goals (refine x_st3 ?_)
                    all_goals exact any_leaf (n := 196) [0, 1, 2, 3, 4, 5, 7, 6] [2, 3, 5, 9, 11, 16, 18, 19] (by kernel_rfl) rfl rfl rfl (.c0 (.c0 (.c0 (.c0 (.c0 (.c0 (.c0 (.c0 (.nil))))))))) (.c7 (.c3 (.c0 (.c3 (.c0 (.c0 (.c0 (.c3 (.nil))))))))))))
             focus
              all_goals (refine x_al 3 ?_)
              all_goals (
               refine x_all1 9 ?_
               focus
                all_goals (refine x_bs2 true ?_)
                all_goals (
                 refine x_all1 10 ?_
                 focus
                  all_goals (refine op_callA rfl rfl rfl rfl rfl ⟨_, Try.func19, by decide, rfl⟩ (.cons (.two (by first | ((conv => lhs; whnf; arg 1; whnf); done) | rfl | assumption | (simp; done)) rfl rfl (.pure rfl) (.own (by first | ((conv => lhs; whnf; arg 1; whnf); done) | rfl | assumption | (simp; done)) (own_pre _ _) (own_len _ (by omega))) rfl rfl) .nil) (concat2_w s.bytes ((record c).take (cut % (record c).length).toNat) (by first | omega | (simp; omega))) (by rintro r H' m ⟨rfl, rfl⟩; refine ⟨rfl, ?_⟩; simp only [List.mem_singleton]; rintro o rfl; exact AObj.shut_vals (fun e he => by obtain ⟨b, _, rfl⟩ := List.mem_map.1 he; exact ⟨_, rfl⟩)) ?_)
                  all_goals (rintro r H' m ⟨rfl, rfl⟩)
                  all_goals refine x_tk 13 (opWF_build rfl) ?_
                  all_goals (refine x_b3_3 ?_)
                  all_goals (
                   refine x_all1 15 ?_
                   focus
                    all_goals (refine x_st3 ?_)
                    all_goals exact any_leaf (n := 196) [0, 1, 2, 3, 4, 6, 7, 5] [2, 3, 5, 9, 11, 16, 18, 19] (by kernel_rfl) rfl rfl rfl (.c0 (.c0 (.c0 (.c0 (.c0 (.c0 (.c0 (.c0 (.nil))))))))) (.c7 (.c3 (.c0 (.c3 (.c0 (.c0 (.c0 (.c3 (.nil)))))))))))))
           focus
            all_goals (refine x_al 3 ?_)
            all_goals (
             refine x_all1 6 ?_
             focus
              all_goals (first | refine op_len_sl rfl (by first | (conv => lhs; simp only [List.length_map, bytesAV_length]) | rfl) rfl rfl rfl ?_ | refine x_leno ?_ | refine x_lenn ?_)
              all_goals refine x_tk 7 (opWF_bin rfl rfl rfl rfl) ?_
              all_goals (first | refine x_rem64 ?_ | refine x_rem ?_)
              all_goals refine x_tk 8 (opWF_slice) ?_
              all_goals (first | refine op_slice_sl rfl rfl rfl rfl rfl .none (.to rfl rfl (by first | rw [Int.toNat_natCast] | rw [Int.toNat_zero] | rw [Int.toNat_one] | rw [Int.toNat_ofNat] | exact rfl) (by omega)) (by first | omega | simp; omega) (by first | omega | simp; omega) (by conv => lhs; first | rw [sub1] | rw [sub2] | rw [sub3] | skip) ?_ | refine op_slice_osl rfl rfl rfl rfl rfl .none (.to rfl rfl (by first | rw [Int.toNat_natCast] | rw [Int.toNat_zero] | rw [Int.toNat_one] | rw [Int.toNat_ofNat] | exact rfl) (by omega)) (by first | omega | simp) (by omega) ?_)
              all_goals (
               refine x_all1 9 ?_
               focus
                all_goals (refine x_bs2 true ?_)
                all_goals (
                 refine x_all1 10 ?_
                 focus
                  all_goals (refine op_callA rfl rfl rfl rfl rfl ⟨_, Try.func19, by decide, rfl⟩ (.cons (.two (by first | ((conv => lhs; whnf; arg 1; whnf); done) | rfl | assumption | (simp; done)) rfl rfl (.pure rfl) (.own (by first | ((conv => lhs; whnf; arg 1; whnf); done) | rfl | assumption | (simp; done)) (own_pre _ _) (own_len _ (by omega))) rfl rfl) .nil) (concat2_w s.bytes ((record c).take (cut % (record c).length).toNat) (by first | omega | (simp; omega))) (by rintro r H' m ⟨rfl, rfl⟩; refine ⟨rfl, ?_⟩; simp only [List.mem_singleton]; rintro o rfl; exact AObj.shut_vals (fun e he => by obtain ⟨b, _, rfl⟩ := List.mem_map.1 he; exact ⟨_, rfl⟩)) ?_)
                  all_goals (rintro r H' m ⟨rfl, rfl⟩)
                  all_goals refine x_tk 13 (opWF_build rfl) ?_
                  all_goals (refine x_b3_3 ?_)
                  all_goals (
                   refine x_all1 15 ?_
                   focus
                    all_goals (refine x_st3 ?_)
                    all_goals exact any_leaf (n := 196) [0, 1, 2, 3, 4, 6, 7, 5] [2, 3, 5, 9, 11, 16, 18, 19] (by kernel_rfl) rfl rfl rfl (.c0 (.c0 (.c0 (.c0 (.c0 (.c0 (.c0 (.c0 (.nil))))))))) (.c7 (.c3 (.c0 (.c3 (.c0 (.c0 (.c0 (.c3 (.nil))))))))))))))
         focus
          all_goals (refine x_al 3 ?_)
          all_goals (
           refine x_all2 6 12 ?_ ?_
           focus
            all_goals (first | refine op_len_sl rfl (by first | (conv => lhs; simp only [List.length_map, bytesAV_length]) | rfl) rfl rfl rfl ?_ | refine x_leno ?_ | refine x_lenn ?_)
            all_goals refine x_tk 7 (opWF_bin rfl rfl rfl rfl) ?_
            all_goals (first | refine x_rem64 ?_ | refine x_rem ?_)
            all_goals refine x_tk 8 (opWF_slice) ?_
            all_goals (first | refine op_slice_sl rfl rfl rfl rfl rfl .none (.to rfl rfl (by first | rw [Int.toNat_natCast] | rw [Int.toNat_zero] | rw [Int.toNat_one] | rw [Int.toNat_ofNat] | exact rfl) (by omega)) (by first | omega | simp; omega) (by first | omega | simp; omega) (by conv => lhs; first | rw [sub1] | rw [sub2] | rw [sub3] | skip) ?_ | refine op_slice_osl rfl rfl rfl rfl rfl .none (.to rfl rfl (by first | rw [Int.toNat_natCast] | rw [Int.toNat_zero] | rw [Int.toNat_one] | rw [Int.toNat_ofNat] | exact rfl) (by omega)) (by first | omega | simp) (by omega) ?_)
            all_goals (
             refine x_all2 9 12 ?_ ?_
             focus
              all_goals (refine x_bs2 true ?_)
              all_goals (
               refine x_all2 10 12 ?_ ?_
               focus
                all_goals (refine op_callA rfl rfl rfl rfl rfl ⟨_, Try.func19, by decide, rfl⟩ (.cons (.two (by first | ((conv => lhs; whnf; arg 1; whnf); done) | rfl | assumption | (simp; done)) rfl rfl (.pure rfl) (.own (by first | ((conv => lhs; whnf; arg 1; whnf); done) | rfl | assumption | (simp; done)) (own_pre _ _) (own_len _ (by omega))) rfl rfl) .nil) (concat2_w s.bytes ((record c).take (cut % (record c).length).toNat) (by first | omega | (simp; omega))) (by rintro r H' m ⟨rfl, rfl⟩; refine ⟨rfl, ?_⟩; simp only [List.mem_singleton]; rintro o rfl; exact AObj.shut_vals (fun e he => by obtain ⟨b, _, rfl⟩ := List.mem_map.1 he; exact ⟨_, rfl⟩)) ?_)
                all_goals (rintro r H' m ⟨rfl, rfl⟩)
                all_goals (
                 refine x_all1 12 ?_
                 focus
                  all_goals (first | refine x_ld ?_ | refine x_ldr ?_)
                  all_goals refine x_tk 13 (opWF_build rfl) ?_
                  all_goals (refine x_b3_3 ?_)
                  all_goals (
                   refine x_all1 15 ?_
                   focus
                    all_goals (refine x_st3 ?_)
                    all_goals exact any_leaf (n := 196) [0, 1, 2, 3, 4, 6, 7, 5] [2, 3, 5, 9, 11, 16, 18, 19] (by kernel_rfl) rfl rfl rfl (.c0 (.c0 (.c0 (.c0 (.c0 (.c0 (.c0 (.c0 (.nil))))))))) (.c7 (.c3 (.c0 (.c3 (.c0 (.c0 (.c0 (.c3 (.nil)))))))))))
               focus
                all_goals (first | refine x_ld ?_ | refine x_ldr ?_)
                all_goals (
                 refine x_all1 10 ?_
                 focus
                  all_goals (refine op_callA rfl rfl rfl rfl rfl ⟨_, Try.func19, by decide, rfl⟩ (.cons (.two (by first | ((conv => lhs; whnf; arg 1; whnf); done) | rfl | assumption | (simp; done)) rfl rfl (.pure rfl) (.own (by first | ((conv => lhs; whnf; arg 1; whnf); done) | rfl | assumption | (simp; done)) (own_pre _ _) (own_len _ (by omega))) rfl rfl) .nil) (concat2_w s.bytes ((record c).take (cut % (record c).length).toNat) (by first | omega | (simp; omega))) (by rintro r H' m ⟨rfl, rfl⟩; refine ⟨rfl, ?_⟩; simp only [List.mem_singleton]; rintro o rfl; exact AObj.shut_vals (fun e he => by obtain ⟨b, _, rfl⟩ := List.mem_map.1 he; exact ⟨_, rfl⟩)) ?_)
                  all_goals (rintro r H' m ⟨rfl, rfl⟩)
                  all_goals refine x_tk 13 (opWF_build rfl) ?_
                  all_goals (refine x_b3_3 ?_)
                  all_goals (
                   refine x_all1 15 ?_
                   focus
                    all_goals (refine x_st3 ?_)
                    all_goals exact any_leaf (n := 196) [0, 1, 2, 3, 4, 6, 7, 5] [2, 3, 5, 9, 11, 16, 18, 19] (by kernel_rfl) rfl rfl rfl (.c0 (.c0 (.c0 (.c0 (.c0 (.c0 (.c0 (.c0 (.nil))))))))) (.c7 (.c3 (.c0 (.c3 (.c0 (.c0 (.c0 (.c3 (.nil))))))))))))
             focus
              all_goals (first | refine x_ld ?_ | refine x_ldr ?_)
              all_goals (
               refine x_all1 9 ?_
               focus
                all_goals (refine x_bs2 true ?_)
                all_goals (
                 refine x_all1 10 ?_
                 focus
                  all_goals (refine op_callA rfl rfl rfl rfl rfl ⟨_, Try.func19, by decide, rfl⟩ (.cons (.two (by first | ((conv => lhs; whnf; arg 1; whnf); done) | rfl | assumption | (simp; done)) rfl rfl (.pure rfl) (.own (by first | ((conv => lhs; whnf; arg 1; whnf); done) | rfl | assumption | (simp; done)) (own_pre _ _) (own_len _ (by omega))) rfl rfl) .nil) (concat2_w s.bytes ((record c).take (cut % (record c).length).toNat) (by first | omega | (simp; omega))) (by rintro r H' m ⟨rfl, rfl⟩; refine ⟨rfl, ?_⟩; simp only [List.mem_singleton]; rintro o rfl; exact AObj.shut_vals (fun e he => by obtain ⟨b, _, rfl⟩ := List.mem_map.1 he; exact ⟨_, rfl⟩)) ?_)
                  all_goals (rintro r H' m ⟨rfl, rfl⟩)
                  all_goals refine x_tk 13 (opWF_build rfl) ?_
                  all_goals (refine x_b3_3 ?_)
                  all_goals (
                   refine x_all1 15 ?_
                   focus
                    all_goals (refine x_st3 ?_)
                    all_goals exact any_leaf (n := 196) [0, 1, 2, 3, 4, 6, 7, 5] [2, 3, 5, 9, 11, 16, 18, 19] (by kernel_rfl) rfl rfl rfl (.c0 (.c0 (.c0 (.c0 (.c0 (.c0 (.c0 (.c0 (.nil))))))))) (.c7 (.c3 (.c0 (.c3 (.c0 (.c0 (.c0 (.c3 (.nil)))))))))))))
           focus
            all_goals (first | refine x_ld ?_ | refine x_ldr ?_)
            all_goals (
             refine x_all1 6 ?_
             focus
              all_goals (first | refine op_len_sl rfl (by first | (conv => lhs; simp only [List.length_map, bytesAV_length]) | rfl) rfl rfl rfl ?_ | refine x_leno ?_ | refine x_lenn ?_)
              all_goals refine x_tk 7 (opWF_bin rfl rfl rfl rfl) ?_
              all_goals (first | refine x_rem64 ?_ | refine x_rem ?_)
              all_goals refine x_tk 8 (opWF_slice) ?_
              all_goals (first | refine op_slice_sl rfl rfl rfl rfl rfl .none (.to rfl rfl (by first | rw [Int.toNat_natCast] | rw [Int.toNat_zero] | rw [Int.toNat_one] | rw [Int.toNat_ofNat] | exact rfl) (by omega)) (by first | omega | simp; omega) (by first | omega | simp; omega) (by conv => lhs; first | rw [sub1] | rw [sub2] | rw [sub3] | skip) ?_ | refine op_slice_osl rfl rfl rfl rfl rfl .none (.to rfl rfl (by first | rw [Int.toNat_natCast] | rw [Int.toNat_zero] | rw [Int.toNat_one] | rw [Int.toNat_ofNat] | exact rfl) (by omega)) (by first | omega | simp) (by omega) ?_)
              all_goals (
               refine x_all1 9 ?_
               focus
                all_goals (refine x_bs2 true ?_)
                all_goals (
                 refine x_all1 10 ?_
                 focus
                  all_goals (refine op_callA rfl rfl rfl rfl rfl ⟨_, Try.func19, by decide, rfl⟩ (.cons (.two (by first | ((conv => lhs; whnf; arg 1; whnf); done) | rfl | assumption | (simp; done)) rfl rfl (.pure rfl) (.own (by first | ((conv => lhs; whnf; arg 1; whnf); done) | rfl | assumption | (simp; done)) (own_pre _ _) (own_len _ (by omega))) rfl rfl) .nil) (concat2_w s.bytes ((record c).take (cut % (record c).length).toNat) (by first | omega | (simp; omega))) (by rintro r H' m ⟨rfl, rfl⟩; refine ⟨rfl, ?_⟩; simp only [List.mem_singleton]; rintro o rfl; exact AObj.shut_vals (fun e he => by obtain ⟨b, _, rfl⟩ := List.mem_map.1 he; exact ⟨_, rfl⟩)) ?_)
                  all_goals (rintro r H' m ⟨rfl, rfl⟩)
                  all_goals refine x_tk 13 (opWF_build rfl) ?_
                  all_goals (refine x_b3_3 ?_)
                  all_goals (
                   refine x_all1 15 ?_
                   focus
                    all_goals (refine x_st3 ?_)
                    all_goals exact any_leaf (n := 196) [0, 1, 2, 3, 4, 6, 7, 5] [2, 3, 5, 9, 11, 16, 18, 19] (by kernel_rfl) rfl rfl rfl (.c0 (.c0 (.c0 (.c0 (.c0 (.c0 (.c0 (.c0 (.nil))))))))) (.c7 (.c3 (.c0 (.c3 (.c0 (.c0 (.c0 (.c3 (.nil)))))))))))))))
       focus
        all_goals (first | refine op_len_sl rfl (by first | (conv => lhs; simp only [List.length_map, bytesAV_length]) | rfl) rfl rfl rfl ?_ | refine x_leno ?_ | refine x_lenn ?_)
        all_goals refine x_tk 7 (opWF_bin rfl rfl rfl rfl) ?_
        all_goals (first | refine x_rem64 ?_ | refine x_rem ?_)
        all_goals refine x_tk 8 (opWF_slice) ?_
        all_goals (first | refine op_slice_sl rfl rfl rfl rfl rfl .none (.to rfl rfl (by first | rw [Int.toNat_natCast] | rw [Int.toNat_zero] | rw [Int.toNat_one] | rw [Int.toNat_ofNat] | exact rfl) (by omega)) (by first | omega | simp; omega) (by first | omega | simp; omega) (by conv => lhs; first | rw [sub1] | rw [sub2] | rw [sub3] | skip) ?_ | refine op_slice_osl rfl rfl rfl rfl rfl .none (.to rfl rfl (by first | rw [Int.toNat_natCast] | rw [Int.toNat_zero] | rw [Int.toNat_one] | rw [Int.toNat_ofNat] | exact rfl) (by omega)) (by first | omega | simp) (by omega) ?_)
        all_goals (
         refine x_all3 1 12 14 ?_ ?_ ?_
         focus
          all_goals (first | refine x_ld ?_ | refine x_ldr ?_)
          all_goals (
           refine x_all3 9 12 14 ?_ ?_ ?_
           focus
            all_goals (refine x_bs2 true ?_)
            all_goals (
             refine x_all3 10 12 14 ?_ ?_ ?_
             focus
              all_goals (refine op_callA rfl rfl rfl rfl rfl ⟨_, Try.func19, by decide, rfl⟩ (.cons (.two (by first | ((conv => lhs; whnf; arg 1; whnf); done) | rfl | assumption | (simp; done)) rfl rfl (.pure rfl) (.own (by first | ((conv => lhs; whnf; arg 1; whnf); done) | rfl | assumption | (simp; done)) (own_pre _ _) (own_len _ (by omega))) rfl rfl) .nil) (concat2_w s.bytes ((record c).take (cut % (record c).length).toNat) (by first | omega | (simp; omega))) (by rintro r H' m ⟨rfl, rfl⟩; refine ⟨rfl, ?_⟩; simp only [List.mem_singleton]; rintro o rfl; exact AObj.shut_vals (fun e he => by obtain ⟨b, _, rfl⟩ := List.mem_map.1 he; exact ⟨_, rfl⟩)) ?_)
              all_goals (rintro r H' m ⟨rfl, rfl⟩)
              all_goals (
               refine x_all2 12 14 ?_ ?_
               focus
                all_goals (first | refine x_ld ?_ | refine x_ldr ?_)
                all_goals refine x_tk 13 (opWF_build rfl) ?_
                all_goals (refine x_b3_3 ?_)
                all_goals (
                 refine x_all1 14 ?_
                 focus
                  all_goals (refine x_al 3 ?_)
                  all_goals (
                   refine x_all1 15 ?_
                   focus
                    all_goals (refine x_st3 ?_)
                    all_goals exact any_leaf (n := 196) [0, 1, 2, 3, 4, 5, 6, 7] [2, 3, 5, 9, 11, 16, 18, 19] (by kernel_rfl) rfl rfl rfl (.c0 (.c0 (.c0 (.c0 (.c0 (.c0 (.c0 (.c0 (.nil))))))))) (.c7 (.c3 (.c0 (.c3 (.c0 (.c0 (.c0 (.c3 (.nil)))))))))))
               focus
                all_goals (refine x_al 3 ?_)
                all_goals (
                 refine x_all1 12 ?_
                 focus
                  all_goals (first | refine x_ld ?_ | refine x_ldr ?_)
                  all_goals refine x_tk 13 (opWF_build rfl) ?_
                  all_goals (refine x_b3_3 ?_)
                  all_goals (
                   refine x_all1 15 ?_
                   focus
                    all_goals (refine x_st3 ?_)
                    all_goals exact any_leaf (n := 196) [0, 1, 2, 3, 4, 5, 6, 7] [2, 3, 5, 9, 11, 16, 18, 19] (by kernel_rfl) rfl rfl rfl (.c0 (.c0 (.c0 (.c0 (.c0 (.c0 (.c0 (.c0 (.nil))))))))) (.c7 (.c3 (.c0 (.c3 (.c0 (.c0 (.c0 (.c3 (.nil))))))))))))
             focus
              all_goals (first | refine x_ld ?_ | refine x_ldr ?_)
              all_goals (
               refine x_all2 10 14 ?_ ?_
               focus
                all_goals (refine op_callA rfl rfl rfl rfl rfl ⟨_, Try.func19, by decide, rfl⟩ (.cons (.two (by first | ((conv => lhs; whnf; arg 1; whnf); done) | rfl | assumption | (simp; done)) rfl rfl (.pure rfl) (.own (by first | ((conv => lhs; whnf; arg 1; whnf); done) | rfl | assumption | (simp; done)) (own_pre _ _) (own_len _ (by omega))) rfl rfl) .nil) (concat2_w s.bytes ((record c).take (cut % (record c).length).toNat) (by first | omega | (simp; omega))) (by rintro r H' m ⟨rfl, rfl⟩; refine ⟨rfl, ?_⟩; simp only [List.mem_singleton]; rintro o rfl; exact AObj.shut_vals (fun e he => by obtain ⟨b, _, rfl⟩ := List.mem_map.1 he; exact ⟨_, rfl⟩)) ?_)
                all_goals (rintro r H' m ⟨rfl, rfl⟩)
                all_goals refine x_tk 13 (opWF_build rfl) ?_
                all_goals (refine x_b3_3 ?_)
                all_goals (
                 refine x_all1 14 ?_
                 focus
                  all_goals (refine x_al 3 ?_)
                  all_goals (
                   refine x_all1 15 ?_
                   focus
                    all_goals (refine x_st3 ?_)
                    all_goals exact any_leaf (n := 196) [0, 1, 2, 3, 4, 5, 6, 7] [2, 3, 5, 9, 11, 16, 18, 19] (by kernel_rfl) rfl rfl rfl (.c0 (.c0 (.c0 (.c0 (.c0 (.c0 (.c0 (.c0 (.nil))))))))) (.c7 (.c3 (.c0 (.c3 (.c0 (.c0 (.c0 (.c3 (.nil)))))))))))
               focus
                all_goals (refine x_al 3 ?_)
                all_goals (
                 refine x_all1 10 ?_
                 focus
                  all_goals (refine op_callA rfl rfl rfl rfl rfl ⟨_, Try.func19, by decide, rfl⟩ (.cons (.two (by first | ((conv => lhs; whnf; arg 1; whnf); done) | rfl | assumption | (simp; done)) rfl rfl (.pure rfl) (.own (by first | ((conv => lhs; whnf; arg 1; whnf); done) | rfl | assumption | (simp; done)) (own_pre _ _) (own_len _ (by omega))) rfl rfl) .nil) (concat2_w s.bytes ((record c).take (cut % (record c).length).toNat) (by first | omega | (simp; omega))) (by rintro r H' m ⟨rfl, rfl⟩; refine ⟨rfl, ?_⟩; simp only [List.mem_singleton]; rintro o rfl; exact AObj.shut_vals (fun e he => by obtain ⟨b, _, rfl⟩ := List.mem_map.1 he; exact ⟨_, rfl⟩)) ?_)
                  all_goals (rintro r H' m ⟨rfl, rfl⟩)
                  all_goals refine x_tk 13 (opWF_build rfl) ?_
                  all_goals (refine x_b3_3 ?_)
                  all_goals (
                   refine x_all1 15 ?_
                   focus
                    all_goals (refine x_st3 ?_)
                    all_goals exact any_leaf (n := 196) [0, 1, 2, 3, 4, 5, 7, 6] [2, 3, 5, 9, 11, 16, 18, 19] (by kernel_rfl) rfl rfl rfl (.c0 (.c0 (.c0 (.c0 (.c0 (.c0 (.c0 (.c0 (.nil))))))))) (.c7 (.c3 (.c0 (.c3 (.c0 (.c0 (.c0 (.c3 (.nil))))))))))))
             focus
              all_goals (refine x_al 3 ?_)
              all_goals (
               refine x_all2 10 12 ?_ ?_
               focus
                all_goals (refine op_callA rfl rfl rfl rfl rfl ⟨_, Try.func19, by decide, rfl⟩ (.cons (.two (by first | ((conv => lhs; whnf; arg 1; whnf); done) | rfl | assumption | (simp; done)) rfl rfl (.pure rfl) (.own (by first | ((conv => lhs; whnf; arg 1; whnf); done) | rfl | assumption | (simp; done)) (own_pre _ _) (own_len _ (by omega))) rfl rfl) .nil) (concat2_w s.bytes ((record c).take (cut % (record c).length).toNat) (by first | omega | (simp; omega))) (by rintro r H' m ⟨rfl, rfl⟩; refine ⟨rfl, ?_⟩; simp only [List.mem_singleton]; rintro o rfl; exact AObj.shut_vals (fun e he => by obtain ⟨b, _, rfl⟩ := List.mem_map.1 he; exact ⟨_, rfl⟩)) ?_)
                all_goals (rintro r H' m ⟨rfl, rfl⟩)
                all_goals (
                 refine x_all1 12 ?_
                 focus
                  all_goals (first | refine x_ld ?_ | refine x_ldr ?_)
                  all_goals refine x_tk 13 (opWF_build rfl) ?_
                  all_goals (refine x_b3_3 ?_)
                  all_goals (
                   refine x_all1 15 ?_
                   focus
                    all_goals (refine x_st3 ?_)
                    all_goals exact any_leaf (n := 196) [0, 1, 2, 3, 4, 5, 7, 6] [2, 3, 5, 9, 11, 16, 18, 19] (by kernel_rfl) rfl rfl rfl (.c0 (.c0 (.c0 (.c0 (.c0 (.c0 (.c0 (.c0 (.nil))))))))) (.c7 (.c3 (.c0 (.c3 (.c0 (.c0 (.c0 (.c3 (.nil)))))))))))
               focus
                all_goals (first | refine x_ld ?_ | refine x_ldr ?_)
                all_goals (
                 refine x_all1 10 ?_
                 focus
                  all_goals (refine op_callA rfl rfl rfl rfl rfl ⟨_, Try.func19, by decide, rfl⟩ (.cons (.two (by first | ((conv => lhs; whnf; arg 1; whnf); done) | rfl | assumption | (simp; done)) rfl rfl (.pure rfl) (.own (by first | ((conv => lhs; whnf; arg 1; whnf); done) | rfl | assumption | (simp; done)) (own_pre _ _) (own_len _ (by omega))) rfl rfl) .nil) (concat2_w s.bytes ((record c).take (cut % (record c).length).toNat) (by first | omega | (simp; omega))) (by rintro r H' m ⟨rfl, rfl⟩; refine ⟨rfl, ?_⟩; simp only [List.mem_singleton]; rintro o rfl; exact AObj.shut_vals (fun e he => by obtain ⟨b, _, rfl⟩ := List.mem_map.1 he; exact ⟨_, rfl⟩)) ?_)
                  all_goals (rintro r H' m ⟨rfl, rfl⟩)
                  all_goals refine x_tk 13 (opWF_build rfl) ?_
                  all_goals (refine x_b3_3 ?_)
                  all_goals (
                   refine x_all1 15 ?_
                   focus
                    all_goals (refine x_st3 ?_)
                    all_goals exact any_leaf (n := 196) [0, 1, 2, 3, 4, 5, 7, 6] [2, 3, 5, 9, 11, 16, 18, 19] (by kernel_rfl) rfl rfl rfl (.c0 (.c0 (.c0 (.c0 (.c0 (.c0 (.c0 (.c0 (.nil))))))))) (.c7 (.c3 (.c0 (.c3 (.c0 (.c0 (.c0 (.c3 (.nil)))))))))))))
           focus
            all_goals (first | refine x_ld ?_ | refine x_ldr ?_)
            all_goals (
             refine x_all2 9 14 ?_ ?_
             focus
              all_goals (refine x_bs2 true ?_)
              all_goals (
               refine x_all2 10 14 ?_ ?_
               focus
                all_goals (refine op_callA rfl rfl rfl rfl rfl ⟨_, Try.func19, by decide, rfl⟩ (.cons (.two (by first | ((conv => lhs; whnf; arg 1; whnf); done) | rfl | assumption | (simp; done)) rfl rfl (.pure rfl) (.own (by first | ((conv => lhs; whnf; arg 1; whnf); done) | rfl | assumption | (simp; done)) (own_pre _ _) (own_len _ (by omega))) rfl rfl) .nil) (concat2_w s.bytes ((record c).take (cut % (record c).length).toNat) (by first | omega | (simp; omega))) (by rintro r H' m ⟨rfl, rfl⟩; refine ⟨rfl, ?_⟩; simp only [List.mem_singleton]; rintro o rfl; exact AObj.shut_vals (fun e he => by obtain ⟨b, _, rfl⟩ := List.mem_map.1 he; exact ⟨_, rfl⟩)) ?_)
                all_goals (rintro r H' m ⟨rfl, rfl⟩)
                all_goals refine x_tk 13 (opWF_build rfl) ?_
                all_goals (refine x_b3_3 ?_)
                all_goals (
                 refine x_all1 14 ?_
                 focus
                  all_goals (refine x_al 3 ?_)
                  all_goals (
                   refine x_all1 15 ?_
                   focus
                    all_goals (refine x_st3 ?_)
                    all_goals exact any_leaf (n := 196) [0, 1, 2, 3, 4, 5, 6, 7] [2, 3, 5, 9, 11, 16, 18, 19] (by kernel_rfl) rfl rfl rfl (.c0 (.c0 (.c0 (.c0 (.c0 (.c0 (.c0 (.c0 (.nil))))))))) (.c7 (.c3 (.c0 (.c3 (.c0 (.c0 (.c0 (.c3 (.nil)))))))))))
               focus
                all_goals (refine x_al 3 ?_)
                all_goals (
                 refine x_all1 10 ?_
                 focus
                  all_goals (refine op_callA rfl rfl rfl rfl rfl ⟨_, Try.func19, by decide, rfl⟩ (.cons (.two (by first | ((conv => lhs; whnf; arg 1; whnf); done) | rfl | assumption | (simp; done)) rfl rfl (.pure rfl) (.own (by first | ((conv => lhs; whnf; arg 1; whnf); done) | rfl | assumption | (simp; done)) (own_pre _ _) (own_len _ (by omega))) rfl rfl) .nil) (concat2_w s.bytes ((record c).take (cut % (record c).length).toNat) (by first | omega | (simp; omega))) (by rintro r H' m ⟨rfl, rfl⟩; refine ⟨rfl, ?_⟩; simp only [List.mem_singleton]; rintro o rfl; exact AObj.shut_vals (fun e he => by obtain ⟨b, _, rfl⟩ := List.mem_map.1 he; exact ⟨_, rfl⟩)) ?_)
                  all_goals (rintro r H' m ⟨rfl, rfl⟩)
                  all_goals refine x_tk 13 (opWF_build rfl) ?_
                  all_goals (refine x_b3_3 ?_)
                  all_goals (
                   refine x_all1 15 ?_
                   focus
                    all_goals (refine x_st3 ?_)
                    all_goals exact any_leaf (n := 196) [0, 1, 2, 3, 4, 5, 7, 6] [2, 3, 5, 9, 11, 16, 18, 19] (by kernel_rfl) rfl rfl rfl (.c0 (.c0 (.c0 (.c0 (.c0 (.c0 (.c0 (.c0 (.nil))))))))) (.c7 (.c3 (.c0 (.c3 (.c0 (.c0 (.c0 (.c3 (.nil))))))))))))
             focus
              all_goals (refine x_al 3 ?_)
              all_goals (
               refine x_all1 9 ?_
               focus
                all_goals (refine x_bs2 true ?_)
                all_goals (
                 refine x_all1 10 ?_
                 focus
                  all_goals (refine op_callA rfl rfl rfl rfl rfl ⟨_, Try.func19, by decide, rfl⟩ (.cons (.two (by first | ((conv => lhs; whnf; arg 1; whnf); done) | rfl | assumption | (simp; done)) rfl rfl (.pure rfl) (.own (by first | ((conv => lhs; whnf; arg 1; whnf); done) | rfl | assumption | (simp; done)) (own_pre _ _) (own_len _ (by omega))) rfl rfl) .nil) (concat2_w s.bytes ((record c).take (cut % (record c).length).toNat) (by first | omega | (simp; omega))) (by rintro r H' m ⟨rfl, rfl⟩; refine ⟨rfl, ?_⟩; simp only [List.mem_singleton]; rintro o rfl; exact AObj.shut_vals (fun e he => by obtain ⟨b, _, rfl⟩ := List.mem_map.1 he; exact ⟨_, rfl⟩)) ?_)
                  all_goals (rintro r H' m ⟨rfl, rfl⟩)
                  all_goals refine x_tk 13 (opWF_build rfl) ?_
                  all_goals (refine x_b3_3 ?_)
                  all_goals (
                   refine x_all1 15 ?_
                   focus
                    all_goals (refine x_st3 ?_)
                    all_goals exact any_leaf (n := 196) [0, 1, 2, 3, 4, 6, 7, 5] [2, 3, 5, 9, 11, 16, 18, 19] (by kernel_rfl) rfl rfl rfl (.c0 (.c0 (.c0 (.c0 (.c0 (.c0 (.c0 (.c0 (.nil))))))))) (.c7 (.c3 (.c0 (.c3 (.c0 (.c0 (.c0 (.c3 (.nil)))))))))))))
           focus
            all_goals (refine x_al 3 ?_)
            all_goals (
             refine x_all2 9 12 ?_ ?_
             focus
              all_goals (refine x_bs2 true ?_)
              all_goals (
               refine x_all2 10 12 ?_ ?_
               focus
                all_goals (refine op_callA rfl rfl rfl rfl rfl ⟨_, Try.func19, by decide, rfl⟩ (.cons (.two (by first | ((conv => lhs; whnf; arg 1; whnf); done) | rfl | assumption | (simp; done)) rfl rfl (.pure rfl) (.own (by first | ((conv => lhs; whnf; arg 1; whnf); done) | rfl | assumption | (simp; done)) (own_pre _ _) (own_len _ (by omega))) rfl rfl) .nil) (concat2_w s.bytes ((record c).take (cut % (record c).length).toNat) (by first | omega | (simp; omega))) (by rintro r H' m ⟨rfl, rfl⟩; refine ⟨rfl, ?_⟩; simp only [List.mem_singleton]; rintro o rfl; exact AObj.shut_vals (fun e he => by obtain ⟨b, _, rfl⟩ := List.mem_map.1 he; exact ⟨_, rfl⟩)) ?_)
                all_goals (rintro r H' m ⟨rfl, rfl⟩)
                all_goals (
                 refine x_all1 12 ?_
                 focus
                  all_goals (first | refine x_ld ?_ | refine x_ldr ?_)
                  all_goals refine x_tk 13 (opWF_build rfl) ?_
                  all_goals (refine x_b3_3 ?_)
                  all_goals (
                   refine x_all1 15 ?_
                   focus
                    all_goals (refine x_st3 ?_)
                    all_goals exact any_leaf (n := 196) [0, 1, 2, 3, 4, 6, 7, 5] [2, 3, 5, 9, 11, 16, 18, 19] (by kernel_rfl) rfl rfl rfl (.c0 (.c0 (.c0 (.c0 (.c0 (.c0 (.c0 (.c0 (.nil))))))))) (.c7 (.c3 (.c0 (.c3 (.c0 (.c0 (.c0 (.c3 (.nil)))))))))))
               focus
                all_goals (first | refine x_ld ?_ | refine x_ldr ?_)
                all_goals (
                 refine x_all1 10 ?_
                 focus
                  all_goals (refine op_callA rfl rfl rfl rfl rfl ⟨_, Try.func19, by decide, rfl⟩ (.cons (.two (by first | ((conv => lhs; whnf; arg 1; whnf); done) | rfl | assumption | (simp; done)) rfl rfl (.pure rfl) (.own (by first | ((conv => lhs; whnf; arg 1; whnf); done) | rfl | assumption | (simp; done)) (own_pre _ _) (own_len _ (by omega))) rfl rfl) .nil) (concat2_w s.bytes ((record c).take (cut % (record c).length).toNat) (by first | omega | (simp; omega))) (by rintro r H' m ⟨rfl, rfl⟩; refine ⟨rfl, ?_⟩; simp only [List.mem_singleton]; rintro o rfl; exact AObj.shut_vals (fun e he => by obtain ⟨b, _, rfl⟩ := List.mem_map.1 he; exact ⟨_, rfl⟩)) ?_)
                  all_goals (rintro r H' m ⟨rfl, rfl⟩)
                  all_goals refine x_tk 13 (opWF_build rfl) ?_
                  all_goals (refine x_b3_3 ?_)
                  all_goals (
                   refine x_all1 15 ?_
                   focus
                    all_goals (refine x_st3 ?_)
                    all_goals exact any_leaf (n := 196) [0, 1, 2, 3, 4, 6, 7, 5] [2, 3, 5, 9, 11, 16, 18, 19] (by kernel_rfl) rfl rfl rfl (.c0 (.c0 (.c0 (.c0 (.c0 (.c0 (.c0 (.c0 (.nil))))))))) (.c7 (.c3 (.c0 (.c3 (.c0 (.c0 (.c0 (.c3 (.nil))))))))))))
             focus
              all_goals (first | refine x_ld ?_ | refine x_ldr ?_)
              all_goals (
               refine x_all1 9 ?_
               focus
                all_goals (refine x_bs2 true ?_)
                all_goals (
                 refine x_all1 10 ?_
                 focus
                  all_goals (refine op_callA rfl rfl rfl rfl rfl ⟨_, Try.func19, by decide, rfl⟩ (.cons (.two (by first | ((conv => lhs; whnf; arg 1; whnf); done) | rfl | assumption | (simp; done)) rfl rfl (.pure rfl) (.own (by first | ((conv => lhs; whnf; arg 1; whnf); done) | rfl | assumption | (simp; done)) (own_pre _ _) (own_len _ (by omega))) rfl rfl) .nil) (concat2_w s.bytes ((record c).take (cut % (record c).length).toNat) (by first | omega | (simp; omega))) (by rintro r H' m ⟨rfl, rfl⟩; refine ⟨rfl, ?_⟩; simp only [List.mem_singleton]; rintro o rfl; exact AObj.shut_vals (fun e he => by obtain ⟨b, _, rfl⟩ := List.mem_map.1 he; exact ⟨_, rfl⟩)) ?_)
                  all_goals (rintro r H' m ⟨rfl, rfl⟩)
                  all_goals refine x_tk 13 (opWF_build rfl) ?_
                  all_goals (refine x_b3_3 ?_)
                  all_goals (
                   refine x_all1 15 ?_
                   focus
                    all_goals (refine x_st3 ?_)
                    all_goals exact any_leaf (n := 196) [0, 1, 2, 3, 4, 6, 7, 5] [2, 3, 5, 9, 11, 16, 18, 19] (by kernel_rfl) rfl rfl rfl (.c0 (.c0 (.c0 (.c0 (.c0 (.c0 (.c0 (.c0 (.nil))))))))) (.c7 (.c3 (.c0 (.c3 (.c0 (.c0 (.c0 (.c3 (.nil))))))))))))))
         focus
          all_goals (first | refine x_ld ?_ | refine x_ldr ?_)
          all_goals (
           refine x_all2 1 14 ?_ ?_
           focus
            all_goals (first | refine x_ld ?_ | refine x_ldr ?_)
            all_goals (
             refine x_all2 9 14 ?_ ?_
             focus
              all_goals (refine x_bs2 true ?_)
              all_goals (
               refine x_all2 10 14 ?_ ?_
               focus
                all_goals (refine op_callA rfl rfl rfl rfl rfl ⟨_, Try.func19, by decide, rfl⟩ (.cons (.two (by first | ((conv => lhs; whnf; arg 1; whnf); done) | rfl | assumption | (simp; done)) rfl rfl (.pure rfl) (.own (by first | ((conv => lhs; whnf; arg 1; whnf); done) | rfl | assumption | (simp; done)) (own_pre _ _) (own_len _ (by omega))) rfl rfl) .nil) (concat2_w s.bytes ((record c).take (cut % (record c).length).toNat) (by first | omega | (simp; omega))) (by rintro r H' m ⟨rfl, rfl⟩; refine ⟨rfl, ?_⟩; simp only [List.mem_singleton]; rintro o rfl; exact AObj.shut_vals (fun e he => by obtain ⟨b, _, rfl⟩ := List.mem_map.1 he; exact ⟨_, rfl⟩)) ?_)
                all_goals (rintro r H' m ⟨rfl, rfl⟩)
                all_goals refine x_tk 13 (opWF_build rfl) ?_
                all_goals (refine x_b3_3 ?_)
                all_goals (
                 refine x_all1 14 ?_
                 focus
                  all_goals (refine x_al 3 ?_)
                  all_goals (
                   refine x_all1 15 ?_
                   focus
                    all_goals (refine x_st3 ?_)
                    all_goals exact any_leaf (n := 196) [0, 1, 2, 3, 4, 5, 6, 7] [2, 3, 5, 9, 11, 16, 18, 19] (by kernel_rfl) rfl rfl rfl (.c0 (.c0 (.c0 (.c0 (.c0 (.c0 (.c0 (.c0 (.nil))))))))) (.c7 (.c3 (.c0 (.c3 (.c0 (.c0 (.c0 (.c3 (.nil)))))))))))
               focus
                all_goals (refine x_al 3 ?_)
                all_goals (
                 refine x_all1 10 ?_
                 focus
                  all_goals (refine op_callA rfl rfl rfl rfl rfl ⟨_, Try.func19, by decide, rfl⟩ (.cons (.two (by first | ((conv => lhs; whnf; arg 1; whnf); done) | rfl | assumption | (simp; done)) rfl rfl (.pure rfl) (.own (by first | ((conv => lhs; whnf; arg 1; whnf); done) | rfl | assumption | (simp; done)) (own_pre _ _) (own_len _ (by omega))) rfl rfl) .nil) (concat2_w s.bytes ((record c).take (cut % (record c).length).toNat) (by first | omega | (simp; omega))) (by rintro r H' m ⟨rfl, rfl⟩; refine ⟨rfl, ?_⟩; simp only [List.mem_singleton]; rintro o rfl; exact AObj.shut_vals (fun e he => by obtain ⟨b, _, rfl⟩ := List.mem_map.1 he; exact ⟨_, rfl⟩)) ?_)
                  all_goals (rintro r H' m ⟨rfl, rfl⟩)
                  all_goals refine x_tk 13 (opWF_build rfl) ?_
                  all_goals (refine x_b3_3 ?_)
                  all_goals (
                   refine x_all1 15 ?_
                   focus
                    all_goals (refine x_st3 ?_)
                    all_goals exact any_leaf (n := 196) [0, 1, 2, 3, 4, 5, 7, 6] [2, 3, 5, 9, 11, 16, 18, 19] (by kernel_rfl) rfl rfl rfl (.c0 (.c0 (.c0 (.c0 (.c0 (.c0 (.c0 (.c0 (.nil))))))))) (.c7 (.c3 (.c0 (.c3 (.c0 (.c0 (.c0 (.c3 (.nil))))))))))))
             focus
              all_goals (refine x_al 3 ?_)
              all_goals (
               refine x_all1 9 ?_
               focus
                all_goals (refine x_bs2 true ?_)
                all_goals (
                 refine x_all1 10 ?_
                 focus
                  all_goals (refine op_callA rfl rfl rfl rfl rfl ⟨_, Try.func19, by decide, rfl⟩ (.cons (.two (by first | ((conv => lhs; whnf; arg 1; whnf); done) | rfl | assumption | (simp; done)) rfl rfl (.pure rfl) (.own (by first | ((conv => lhs; whnf; arg 1; whnf); done) | rfl | assumption | (simp; done)) (own_pre _ _) (own_len _ (by omega))) rfl rfl) .nil) (concat2_w s.bytes ((record c).take (cut % (record c).length).toNat) (by first | omega | (simp; omega))) (by rintro r H' m ⟨rfl, rfl⟩; refine ⟨rfl, ?_⟩; simp only [List.mem_singleton]; rintro o rfl; exact AObj.shut_vals (fun e he => by obtain ⟨b, _, rfl⟩ := List.mem_map.1 he; exact ⟨_, rfl⟩)) ?_)
                  all_goals (rintro r H' m ⟨rfl, rfl⟩)
                  all_goals refine x_tk 13 (opWF_build rfl) ?_
                  all_goals (refine x_b3_3 ?_)
                  all_goals (
                   refine x_all1 15 ?_
                   focus
                    all_goals (refine x_st3 ?_)
                    all_goals exact any_leaf (n := 196) [0, 1, 2, 3, 4, 6, 7, 5] [2, 3, 5, 9, 11, 16, 18, 19] (by kernel_rfl) rfl rfl rfl (.c0 (.c0 (.c0 (.c0 (.c0 (.c0 (.c0 (.c0 (.nil))))))))) (.c7 (.c3 (.c0 (.c3 (.c0 (.c0 (.c0 (.c3 (.nil)))))))))))))
           focus
            all_goals (refine x_al 3 ?_)
            all_goals (
             refine x_all1 1 ?_
             focus
              all_goals (first | refine x_ld ?_ | refine x_ldr ?_)
              all_goals (
               refine x_all1 9 ?_
               focus
                all_goals (refine x_bs2 true ?_)
                all_goals (
                 refine x_all1 10 ?_
                 focus
                  all_goals (refine op_callA rfl rfl rfl rfl rfl ⟨_, Try.func19, by decide, rfl⟩ (.cons (.two (by first | ((conv => lhs; whnf; arg 1; whnf); done) | rfl | assumption | (simp; done)) rfl rfl (.pure rfl) (.own (by first | ((conv => lhs; whnf; arg 1; whnf); done) | rfl | assumption | (simp; done)) (own_pre _ _) (own_len _ (by omega))) rfl rfl) .nil) (concat2_w s.bytes ((record c).take (cut % (record c).length).toNat) (by first | omega | (simp; omega))) (by rintro r H' m ⟨rfl, rfl⟩; refine ⟨rfl, ?_⟩; simp only [List.mem_singleton]; rintro o rfl; exact AObj.shut_vals (fun e he => by obtain ⟨b, _, rfl⟩ := List.mem_map.1 he; exact ⟨_, rfl⟩)) ?_)
                  all_goals (rintro r H' m ⟨rfl, rfl⟩)
                  all_goals refine x_tk 13 (opWF_build rfl) ?_
                  all_goals (refine x_b3_3 ?_)
                  all_goals (
                   refine x_all1 15 ?_
                   focus
                    all_goals (refine x_st3 ?_)
                    all_goals exact any_leaf (n := 196) [0, 1, 2, 3, 4, 6, 7, 5] [2, 3, 5, 9, 11, 16, 18, 19] (by kernel_rfl) rfl rfl rfl (.c0 (.c0 (.c0 (.c0 (.c0 (.c0 (.c0 (.c0 (.nil))))))))) (.c7 (.c3 (.c0 (.c3 (.c0 (.c0 (.c0 (.c3 (.nil))))))))))))))
         focus
          all_goals (refine x_al 3 ?_)
          all_goals (
           refine x_all2 1 12 ?_ ?_
           focus
            all_goals (first | refine x_ld ?_ | refine x_ldr ?_)
            all_goals (
             refine x_all2 9 12 ?_ ?_
             focus
              all_goals (refine x_bs2 true ?_)
              all_goals (
               refine x_all2 10 12 ?_ ?_
               focus
                all_goals (refine op_callA rfl rfl rfl rfl rfl ⟨_, Try.func19, by decide, rfl⟩ (.cons (.two (by first | ((conv => lhs; whnf; arg 1; whnf); done) | rfl | assumption | (simp; done)) rfl rfl (.pure rfl) (.own (by first | ((conv => lhs; whnf; arg 1; whnf); done) | rfl | assumption | (simp; done)) (own_pre _ _) (own_len _ (by omega))) rfl rfl) .nil) (concat2_w s.bytes ((record c).take (cut % (record c).length).toNat) (by first | omega | (simp; omega))) (by rintro r H' m ⟨rfl, rfl⟩; refine ⟨rfl, ?_⟩; simp only [List.mem_singleton]; rintro o rfl; exact AObj.shut_vals (fun e he => by obtain ⟨b, _, rfl⟩ := List.mem_map.1 he; exact ⟨_, rfl⟩)) ?_)
                all_goals (rintro r H' m ⟨rfl, rfl⟩)
                all_goals (
                 refine x_all1 12 ?_
                 focus
                  all_goals (first | refine x_ld ?_ | refine x_ldr ?_)
                  all_goals refine x_tk 13 (opWF_build rfl) ?_
                  all_goals (refine x_b3_3 ?_)
                  all_goals (
                   refine x_all1 15 ?_
                   focus
                    all_goals (refine x_st3 ?_)
                    all_goals exact any_leaf (n := 196) [0, 1, 2, 3, 4, 6, 7, 5] [2, 3, 5, 9, 11, 16, 18, 19] (by kernel_rfl) rfl rfl rfl (.c0 (.c0 (.c0 (.c0 (.c0 (.c0 (.c0 (.c0 (.nil))))))))) (.c7 (.c3 (.c0 (.c3 (.c0 (.c0 (.c0 (.c3 (.nil)))))))))))
               focus
                all_goals (first | refine x_ld ?_ | refine x_ldr ?_)
                all_goals (
                 refine x_all1 10 ?_
                 focus
                  all_goals (refine op_callA rfl rfl rfl rfl rfl ⟨_, Try.func19, by decide, rfl⟩ (.cons (.two (by first | ((conv => lhs; whnf; arg 1; whnf); done) | rfl | assumption | (simp; done)) rfl rfl (.pure rfl) (.own (by first | ((conv => lhs; whnf; arg 1; whnf); done) | rfl | assumption | (simp; done)) (own_pre _ _) (own_len _ (by omega))) rfl rfl) .nil) (concat2_w s.bytes ((record c).take (cut % (record c).length).toNat) (by first | omega | (simp; omega))) (by rintro r H' m ⟨rfl, rfl⟩; refine ⟨rfl, ?_⟩; simp only [List.mem_singleton]; rintro o rfl; exact AObj.shut_vals (fun e he => by obtain ⟨b, _, rfl⟩ := List.mem_map.1 he; exact ⟨_, rfl⟩)) ?_)
                  all_goals (rintro r H' m ⟨rfl, rfl⟩)
                  all_goals refine x_tk 13 (opWF_build rfl) ?_
                  all_goals (refine x_b3_3 ?_)
                  all_goals (
                   refine x_all1 15 ?_
                   focus
                    all_goals (refine x_st3 ?_)
                    all_goals exact any_leaf (n := 196) [0, 1, 2, 3, 4, 6, 7, 5] [2, 3, 5, 9, 11, 16, 18, 19] (by kernel_rfl) rfl rfl rfl (.c0 (.c0 (.c0 (.c0 (.c0 (.c0 (.c0 (.c0 (.nil))))))))) (.c7 (.c3 (.c0 (.c3 (.c0 (.c0 (.c0 (.c3 (.nil))))))))))))
             focus
              all_goals (first | refine x_ld ?_ | refine x_ldr ?_)
              all_goals (
               refine x_all1 9 ?_
               focus
                all_goals (refine x_bs2 true ?_)
                all_goals (
                 refine x_all1 10 ?_
                 focus
                  all_goals (refine op_callA rfl rfl rfl rfl rfl ⟨_, Try.func19, by decide, rfl⟩ (.cons (.two (by first | ((conv => lhs; whnf; arg 1; whnf); done) | rfl | assumption | (simp; done)) rfl rfl (.pure rfl) (.own (by first | ((conv => lhs; whnf; arg 1; whnf); done) | rfl | assumption | (simp; done)) (own_pre _ _) (own_len _ (by omega))) rfl rfl) .nil) (concat2_w s.bytes ((record c).take (cut % (record c).length).toNat) (by first | omega | (simp; omega))) (by rintro r H' m ⟨rfl, rfl⟩; refine ⟨rfl, ?_⟩; simp only [List.mem_singleton]; rintro o rfl; exact AObj.shut_vals (fun e he => by obtain ⟨b, _, rfl⟩ := List.mem_map.1 he; exact ⟨_, rfl⟩)) ?_)
                  all_goals (rintro r H' m ⟨rfl, rfl⟩)
                  all_goals refine x_tk 13 (opWF_build rfl) ?_
                  all_goals (refine x_b3_3 ?_)
                  all_goals (
                   refine x_all1 15 ?_
                   focus
                    all_goals (refine x_st3 ?_)
                    all_goals exact any_leaf (n := 196) [0, 1, 2, 3, 4, 6, 7, 5] [2, 3, 5, 9, 11, 16, 18, 19] (by kernel_rfl) rfl rfl rfl (.c0 (.c0 (.c0 (.c0 (.c0 (.c0 (.c0 (.c0 (.nil))))))))) (.c7 (.c3 (.c0 (.c3 (.c0 (.c0 (.c0 (.c3 (.nil)))))))))))))
           focus
            all_goals (first | refine x_ld ?_ | refine x_ldr ?_)
            all_goals (
             refine x_all1 1 ?_
             focus
              all_goals (first | refine x_ld ?_ | refine x_ldr ?_)
              all_goals (
               refine x_all1 9 ?_
               focus
                all_goals (refine x_bs2 true ?_)
                all_goals (
                 refine x_all1 10 ?_
                 focus
                  all_goals (refine op_callA rfl rfl rfl rfl rfl ⟨_, Try.func19, by decide, rfl⟩ (.cons (.two (by first | ((conv => lhs; whnf; arg 1; whnf); done) | rfl | assumption | (simp; done)) rfl rfl (.pure rfl) (.own (by first | ((conv => lhs; whnf; arg 1; whnf); done) | rfl | assumption | (simp; done)) (own_pre _ _) (own_len _ (by omega))) rfl rfl) .nil) (concat2_w s.bytes ((record c).take (cut % (record c).length).toNat) (by first | omega | (simp; omega))) (by rintro r H' m ⟨rfl, rfl⟩; refine ⟨rfl, ?_⟩; simp only [List.mem_singleton]; rintro o rfl; exact AObj.shut_vals (fun e he => by obtain ⟨b, _, rfl⟩ := List.mem_map.1 he; exact ⟨_, rfl⟩)) ?_)
                  all_goals (rintro r H' m ⟨rfl, rfl⟩)
                  all_goals refine x_tk 13 (opWF_build rfl) ?_
                  all_goals (refine x_b3_3 ?_)
                  all_goals (
                   refine x_all1 15 ?_
                   focus
                    all_goals (refine x_st3 ?_)
                    all_goals exact any_leaf (n := 196) [0, 1, 2, 3, 4, 6, 7, 5] [2, 3, 5, 9, 11, 16, 18, 19] (by kernel_rfl) rfl rfl rfl (.c0 (.c0 (.c0 (.c0 (.c0 (.c0 (.c0 (.c0 (.nil))))))))) (.c7 (.c3 (.c0 (.c3 (.c0 (.c0 (.c0 (.c3 (.nil)))))))))))))))
       focus
        all_goals (first | refine x_ld ?_ | refine x_ldr ?_)
        all_goals (
         refine x_all3 1 6 14 ?_ ?_ ?_
         focus
          all_goals (first | refine x_ld ?_ | refine x_ldr ?_)
          all_goals (
           refine x_all2 6 14 ?_ ?_
           focus
            all_goals (first | refine op_len_sl rfl (by first | (conv => lhs; simp only [List.length_map, bytesAV_length]) | rfl) rfl rfl rfl ?_ | refine x_leno ?_ | refine x_lenn ?_)
            all_goals refine x_tk 7 (opWF_bin rfl rfl rfl rfl) ?_
            all_goals (first | refine x_rem64 ?_ | refine x_rem ?_)
            all_goals refine x_tk 8 (opWF_slice) ?_
            all_goals (first | refine op_slice_sl rfl rfl rfl rfl rfl .none (.to rfl rfl (by first | rw [Int.toNat_natCast] | rw [Int.toNat_zero] | rw [Int.toNat_one] | rw [Int.toNat_ofNat] | exact rfl) (by omega)) (by first | omega | simp; omega) (by first | omega | simp; omega) (by conv => lhs; first | rw [sub1] | rw [sub2] | rw [sub3] | skip) ?_ | refine op_slice_osl rfl rfl rfl rfl rfl .none (.to rfl rfl (by first | rw [Int.toNat_natCast] | rw [Int.toNat_zero] | rw [Int.toNat_one] | rw [Int.toNat_ofNat] | exact rfl) (by omega)) (by first | omega | simp) (by omega) ?_)
            all_goals (
             refine x_all2 9 14 ?_ ?_
             focus
              all_goals (refine x_bs2 true ?_)
              all_goals (
               refine x_all2 10 14 ?_ ?_
               focus
                all_goals (refine op_callA rfl rfl rfl rfl rfl ⟨_, Try.func19, by decide, rfl⟩ (.cons (.two (by first | ((conv => lhs; whnf; arg 1; whnf); done) | rfl | assumption | (simp; done)) rfl rfl (.pure rfl) (.own (by first | ((conv => lhs; whnf; arg 1; whnf); done) | rfl | assumption | (simp; done)) (own_pre _ _) (own_len _ (by omega))) rfl rfl) .nil) (concat2_w s.bytes ((record c).take (cut % (record c).length).toNat) (by first | omega | (simp; omega))) (by rintro r H' m ⟨rfl, rfl⟩; refine ⟨rfl, ?_⟩; simp only [List.mem_singleton]; rintro o rfl; exact AObj.shut_vals (fun e he => by obtain ⟨b, _, rfl⟩ := List.mem_map.1 he; exact ⟨_, rfl⟩)) ?_)
                all_goals (rintro r H' m ⟨rfl, rfl⟩)
                all_goals refine x_tk 13 (opWF_build rfl) ?_
                all_goals (refine x_b3_3 ?_)
                all_goals (
                 refine x_all1 14 ?_
                 focus
                  all_goals (refine x_al 3 ?_)
                  all_goals (
                   refine x_all1 15 ?_
                   focus
                    all_goals (refine x_st3 ?_)
                    all_goals exact any_leaf (n := 196) [0, 1, 2, 3, 4, 5, 6, 7] [2, 3, 5, 9, 11, 16, 18, 19] (by kernel_rfl) rfl rfl rfl (.c0 (.c0 (.c0 (.c0 (.c0 (.c0 (.c0 (.c0 (.nil))))))))) (.c7 (.c3 (.c0 (.c3 (.c0 (.c0 (.c0 (.c3 (.nil)))))))))))
               focus
                all_goals (refine x_al 3 ?_)
                all_goals (
                 refine x_all1 10 ?_
                 focus
                  all_goals (refine op_callA rfl rfl rfl rfl rfl ⟨_, Try.func19, by decide, rfl⟩ (.cons (.two (by first | ((conv => lhs; whnf; arg 1; whnf); done) | rfl | assumption | (simp; done)) rfl rfl (.pure rfl) (.own (by first | ((conv => lhs; whnf; arg 1; whnf); done) | rfl | assumption | (simp; done)) (own_pre _ _) (own_len _ (by omega))) rfl rfl) .nil) (concat2_w s.bytes ((record c).take (cut % (record c).length).toNat) (by first | omega | (simp; omega))) (by rintro r H' m ⟨rfl, rfl⟩; refine ⟨rfl, ?_⟩; simp only [List.mem_singleton]; rintro o rfl; exact AObj.shut_vals (fun e he => by obtain ⟨b, _, rfl⟩ := List.mem_map.1 he; exact ⟨_, rfl⟩)) ?_)
                  all_goals (rintro r H' m ⟨rfl, rfl⟩)
                  all_goals refine x_tk 13 (opWF_build rfl) ?_
                  all_goals (refine x_b3_3 ?_)
                  all_goals (
                   refine x_all1 15 ?_
                   focus
                    all_goals (refine x_st3 ?_)
                    all_goals exact any_leaf (n := 196) [0, 1, 2, 3, 4, 5, 7, 6] [2, 3, 5, 9, 11, 16, 18, 19] (by kernel_rfl) rfl rfl rfl (.c0 (.c0 (.c0 (.c0 (.c0 (.c0 (.c0 (.c0 (.nil))))))))) (.c7 (.c3 (.c0 (.c3 (.c0 (.c0 (.c0 (.c3 (.nil))))))))))))
             focus
              all_goals (refine x_al 3 ?_)
              all_goals (
               refine x_all1 9 ?_
               focus
                all_goals (refine x_bs2 true ?_)
                all_goals (
                 refine x_all1 10 ?_
                 focus
                  all_goals (refine op_callA rfl rfl rfl rfl rfl ⟨_, Try.func19, by decide, rfl⟩ (.cons (.two (by first | ((conv => lhs; whnf; arg 1; whnf); done) | rfl | assumption | (simp; done)) rfl rfl (.pure rfl) (.own (by first | ((conv => lhs; whnf; arg 1; whnf); done) | rfl | assumption | (simp; done)) (own_pre _ _) (own_len _ (by omega))) rfl rfl) .nil) (concat2_w s.bytes ((record c).take (cut % (record c).length).toNat) (by first | omega | (simp; omega))) (by rintro r H' m ⟨rfl, rfl⟩; refine ⟨rfl, ?_⟩; simp only [List.mem_singleton]; rintro o rfl; exact AObj.shut_vals (fun e he => by obtain ⟨b, _, rfl⟩ := List.mem_map.1 he; exact ⟨_, rfl⟩)) ?_)
                  all_goals (rintro r H' m ⟨rfl, rfl⟩)
                  all_goals refine x_tk 13 (opWF_build rfl) ?_
                  all_goals (refine x_b3_3 ?_)
                  all_goals (
                   refine x_all1 15 ?_
                   focus
                    all_goals (refine x_st3 ?_)
                    all_goals exact any_leaf (n := 196) [0, 1, 2, 3, 4, 6, 7, 5] [2, 3, 5, 9, 11, 16, 18, 19] (by kernel_rfl) rfl rfl rfl (.c0 (.c0 (.c0 (.c0 (.c0 (.c0 (.c0 (.c0 (.nil))))))))) (.c7 (.c3 (.c0 (.c3 (.c0 (.c0 (.c0 (.c3 (.nil)))))))))))))
           focus
            all_goals (refine x_al 3 ?_)
            all_goals (
             refine x_all1 6 ?_
             focus
              all_goals (first | refine op_len_sl rfl (by first | (conv => lhs; simp only [List.length_map, bytesAV_length]) | rfl) rfl rfl rfl ?_ | refine x_leno ?_ | refine x_lenn ?_)
              all_goals refine x_tk 7 (opWF_bin rfl rfl rfl rfl) ?_
              all_goals (first | refine x_rem64 ?_ | refine x_rem ?_)
              all_goals refine x_tk 8 (opWF_slice) ?_
              all_goals (first | refine op_slice_sl rfl rfl rfl rfl rfl .none (.to rfl rfl (by first | rw [Int.toNat_natCast] | rw [Int.toNat_zero] | rw [Int.toNat_one] | rw [Int.toNat_ofNat] | exact rfl) (by omega)) (by first | omega | simp; omega) (by first | omega | simp; omega) (by conv => lhs; first | rw [sub1] | rw [sub2] | rw [sub3] | skip) ?_ | refine op_slice_osl rfl rfl rfl rfl rfl .none (.to rfl rfl (by first | rw [Int.toNat_natCast] | rw [Int.toNat_zero] | rw [Int.toNat_one] | rw [Int.toNat_ofNat] | exact rfl) (by omega)) (by first | omega | simp) (by omega) ?_)
              all_goals (
               refine x_all1 9 ?_
               focus
                all_goals (refine x_bs2 true ?_)
                all_goals (
                 refine x_all1 10 ?_
                 focus
                  all_goals (refine op_callA rfl rfl rfl rfl rfl ⟨_, Try.func19, by decide, rfl⟩ (.cons (.two (by first | ((conv => lhs; whnf; arg 1; whnf); done) | rfl | assumption | (simp; done)) rfl rfl (.pure rfl) (.own (by first | ((conv => lhs; whnf; arg 1; whnf); done) | rfl | assumption | (simp; done)) (own_pre _ _) (own_len _ (by omega))) rfl rfl) .nil) (concat2_w s.bytes ((record c).take (cut % (record c).length).toNat) (by first | omega | (simp; omega))) (by rintro r H' m ⟨rfl, rfl⟩; refine ⟨rfl, ?_⟩; simp only [List.mem_singleton]; rintro o rfl; exact AObj.shut_vals (fun e he => by obtain ⟨b, _, rfl⟩ := List.mem_map.1 he; exact ⟨_, rfl⟩)) ?_)
                  all_goals (rintro r H' m ⟨rfl, rfl⟩)
                  all_goals refine x_tk 13 (opWF_build rfl) ?_
                  all_goals (refine x_b3_3 ?_)
                  all_goals (
                   refine x_all1 15 ?_
                   focus
                    all_goals (refine x_st3 ?_)
                    all_goals exact any_leaf (n := 196) [0, 1, 2, 3, 4, 6, 7, 5] [2, 3, 5, 9, 11, 16, 18, 19] (by kernel_rfl) rfl rfl rfl (.c0 (.c0 (.c0 (.c0 (.c0 (.c0 (.c0 (.c0 (.nil))))))))) (.c7 (.c3 (.c0 (.c3 (.c0 (.c0 (.c0 (.c3 (.nil))))))))))))))
         focus
          all_goals (first | refine op_len_sl rfl (by first | (conv => lhs; simp only [List.length_map, bytesAV_length]) | rfl) rfl rfl rfl ?_ | refine x_leno ?_ | refine x_lenn ?_)
          all_goals refine x_tk 7 (opWF_bin rfl rfl rfl rfl) ?_
          all_goals (first | refine x_rem64 ?_ | refine x_rem ?_)
          all_goals refine x_tk 8 (opWF_slice) ?_
          all_goals (first | refine op_slice_sl rfl rfl rfl rfl rfl .none (.to rfl rfl (by first | rw [Int.toNat_natCast] | rw [Int.toNat_zero] | rw [Int.toNat_one] | rw [Int.toNat_ofNat] | exact rfl) (by omega)) (by first | omega | simp; omega) (by first | omega | simp; omega) (by conv => lhs; first | rw [sub1] | rw [sub2] | rw [sub3] | skip) ?_ | refine op_slice_osl rfl rfl rfl rfl rfl .none (.to rfl rfl (by first | rw [Int.toNat_natCast] | rw [Int.toNat_zero] | rw [Int.toNat_one] | rw [Int.toNat_ofNat] | exact rfl) (by omega)) (by first | omega | simp) (by omega) ?_)
          all_goals (
           refine x_all2 1 14 ?_ ?_
           focus
            all_goals (first | refine x_ld ?_ | refine x_ldr ?_)
            all_goals (
             refine x_all2 9 14 ?_ ?_
             focus
              all_goals (refine x_bs2 true ?_)
              all_goals (
               refine x_all2 10 14 ?_ ?_
               focus
                all_goals (refine op_callA rfl rfl rfl rfl rfl ⟨_, Try.func19, by decide, rfl⟩ (.cons (.two (by first | ((conv => lhs; whnf; arg 1; whnf); done) | rfl | assumption | (simp; done)) rfl rfl (.pure rfl) (.own (by first | ((conv => lhs; whnf; arg 1; whnf); done) | rfl | assumption | (simp; done)) (own_pre _ _) (own_len _ (by omega))) rfl rfl) .nil) (concat2_w s.bytes ((record c).take (cut % (record c).length).toNat) (by first | omega | (simp; omega))) (by rintro r H' m ⟨rfl, rfl⟩; refine ⟨rfl, ?_⟩; simp only [List.mem_singleton]; rintro o rfl; exact AObj.shut_vals (fun e he => by obtain ⟨b, _, rfl⟩ := List.mem_map.1 he; exact ⟨_, rfl⟩)) ?_)
                all_goals (rintro r H' m ⟨rfl, rfl⟩)
                all_goals refine x_tk 13 (opWF_build rfl) ?_
                all_goals (refine x_b3_3 ?_)
                all_goals (
                 refine x_all1 14 ?_
                 focus
                  all_goals (refine x_al 3 ?_)
                  all_goals (
                   refine x_all1 15 ?_
                   focus
                    all_goals (refine x_st3 ?_)
                    all_goals exact any_leaf (n := 196) [0, 1, 2, 3, 4, 5, 6, 7] [2, 3, 5, 9, 11, 16, 18, 19] (by kernel_rfl) rfl rfl rfl (.c0 (.c0 (.c0 (.c0 (.c0 (.c0 (.c0 (.c0 (.nil))))))))) (.c7 (.c3 (.c0 (.c3 (.c0 (.c0 (.c0 (.c3 (.nil)))))))))))
               focus
                all_goals (refine x_al 3 ?_)
                all_goals (
                 refine x_all1 10 ?_
                 focus
                  all_goals (refine op_callA rfl rfl rfl rfl rfl ⟨_, Try.func19, by decide, rfl⟩ (.cons (.two (by first | ((conv => lhs; whnf; arg 1; whnf); done) | rfl | assumption | (simp; done)) rfl rfl (.pure rfl) (.own (by first | ((conv => lhs; whnf; arg 1; whnf); done) | rfl | assumption | (simp; done)) (own_pre _ _) (own_len _ (by omega))) rfl rfl) .nil) (concat2_w s.bytes ((record c).take (cut % (record c).length).toNat) (by first | omega | (simp; omega))) (by rintro r H' m ⟨rfl, rfl⟩; refine ⟨rfl, ?_⟩; simp only [List.mem_singleton]; rintro o rfl; exact AObj.shut_vals (fun e he => by obtain ⟨b, _, rfl⟩ := List.mem_map.1 he; exact ⟨_, rfl⟩)) ?_)
                  all_goals (rintro r H' m ⟨rfl, rfl⟩)
                  all_goals refine x_tk 13 (opWF_build rfl) ?_
                  all_goals (refine x_b3_3 ?_)
                  all_goals (
                   refine x_all1 15 ?_
                   focus
                    all_goals (refine x_st3 ?_)
                    all_goals exact any_leaf (n := 196) [0, 1, 2, 3, 4, 5, 7, 6] [2, 3, 5, 9, 11, 16, 18, 19] (by kernel_rfl) rfl rfl rfl (.c0 (.c0 (.c0 (.c0 (.c0 (.c0 (.c0 (.c0 (.nil))))))))) (.c7 (.c3 (.c0 (.c3 (.c0 (.c0 (.c0 (.c3 (.nil))))))))))))
             focus
              all_goals (refine x_al 3 ?_)
              all_goals (
               refine x_all1 9 ?_
               focus
                all_goals (refine x_bs2 true ?_)
                all_goals (
                 refine x_all1 10 ?_
                 focus
                  all_goals (refine op_callA rfl rfl rfl rfl rfl ⟨_, Try.func19, by decide, rfl⟩ (.cons (.two (by first | ((conv => lhs; whnf; arg 1; whnf); done) | rfl | assumption | (simp; done)) rfl rfl (.pure rfl) (.own (by first | ((conv => lhs; whnf; arg 1; whnf); done) | rfl | assumption | (simp; done)) (own_pre _ _) (own_len _ (by omega))) rfl rfl) .nil) (concat2_w s.bytes ((record c).take (cut % (record c).length).toNat) (by first | omega | (simp; omega))) (by rintro r H' m ⟨rfl, rfl⟩; refine ⟨rfl, ?_⟩; simp only [List.mem_singleton]; rintro o rfl; exact AObj.shut_vals (fun e he => by obtain ⟨b, _, rfl⟩ := List.mem_map.1 he; exact ⟨_, rfl⟩)) ?_)
                  all_goals (rintro r H' m ⟨rfl, rfl⟩)
                  all_goals refine x_tk 13 (opWF_build rfl) ?_
                  all_goals (refine x_b3_3 ?_)
                  all_goals (
                   refine x_all1 15 ?_
                   focus
                    all_goals (refine x_st3 ?_)
                    all_goals exact any_leaf (n := 196) [0, 1, 2, 3, 4, 6, 7, 5] [2, 3, 5, 9, 11, 16, 18, 19] (by kernel_rfl) rfl rfl rfl (.c0 (.c0 (.c0 (.c0 (.c0 (.c0 (.c0 (.c0 (.nil))))))))) (.c7 (.c3 (.c0 (.c3 (.c0 (.c0 (.c0 (.c3 (.nil)))))))))))))
           focus
            all_goals (refine x_al 3 ?_)
            all_goals (
             refine x_all1 1 ?_
             focus
              all_goals (first | refine x_ld ?_ | refine x_ldr ?_)
              all_goals (
               refine x_all1 9 ?_
               focus
                all_goals (refine x_bs2 true ?_)
                all_goals (
                 refine x_all1 10 ?_
                 focus
                  all_goals (refine op_callA rfl rfl rfl rfl rfl ⟨_, Try.func19, by decide, rfl⟩ (.cons (.two (by first | ((conv => lhs; whnf; arg 1; whnf); done) | rfl | assumption | (simp; done)) rfl rfl (.pure rfl) (.own (by first | ((conv => lhs; whnf; arg 1; whnf); done) | rfl | assumption | (simp; done)) (own_pre _ _) (own_len _ (by omega))) rfl rfl) .nil) (concat2_w s.bytes ((record c).take (cut % (record c).length).toNat) (by first | omega | (simp; omega))) (by rintro r H' m ⟨rfl, rfl⟩; refine ⟨rfl, ?_⟩; simp only [List.mem_singleton]; rintro o rfl; exact AObj.shut_vals (fun e he => by obtain ⟨b, _, rfl⟩ := List.mem_map.1 he; exact ⟨_, rfl⟩)) ?_)
                  all_goals (rintro r H' m ⟨rfl, rfl⟩)
                  all_goals refine x_tk 13 (opWF_build rfl) ?_
                  all_goals (refine x_b3_3 ?_)
                  all_goals (
                   refine x_all1 15 ?_
                   focus
                    all_goals (refine x_st3 ?_)
                    all_goals exact any_leaf (n := 196) [0, 1, 2, 3, 4, 6, 7, 5] [2, 3, 5, 9, 11, 16, 18, 19] (by kernel_rfl) rfl rfl rfl (.c0 (.c0 (.c0 (.c0 (.c0 (.c0 (.c0 (.c0 (.nil))))))))) (.c7 (.c3 (.c0 (.c3 (.c0 (.c0 (.c0 (.c3 (.nil))))))))))))))
         focus
          all_goals (refine x_al 3 ?_)
          all_goals (
           refine x_all2 1 6 ?_ ?_
           focus
            all_goals (first | refine x_ld ?_ | refine x_ldr ?_)
            all_goals (
             refine x_all1 6 ?_
             focus
              all_goals (first | refine op_len_sl rfl (by first | (conv => lhs; simp only [List.length_map, bytesAV_length]) | rfl) rfl rfl rfl ?_ | refine x_leno ?_ | refine x_lenn ?_)
              all_goals refine x_tk 7 (opWF_bin rfl rfl rfl rfl) ?_
              all_goals (first | refine x_rem64 ?_ | refine x_rem ?_)
              all_goals refine x_tk 8 (opWF_slice) ?_
              all_goals (first | refine op_slice_sl rfl rfl rfl rfl rfl .none (.to rfl rfl (by first | rw [Int.toNat_natCast] | rw [Int.toNat_zero] | rw [Int.toNat_one] | rw [Int.toNat_ofNat] | exact rfl) (by omega)) (by first | omega | simp; omega) (by first | omega | simp; omega) (by conv => lhs; first | rw [sub1] | rw [sub2] | rw [sub3] | skip) ?_ | refine op_slice_osl rfl rfl rfl rfl rfl .none (.to rfl rfl (by first | rw [Int.toNat_natCast] | rw [Int.toNat_zero] | rw [Int.toNat_one] | rw [Int.toNat_ofNat] | exact rfl) (by omega)) (by first | omega | simp) (by omega) ?_)
              all_goals (
               refine x_all1 9 ?_
               focus
                all_goals (refine x_bs2 true ?_)
                all_goals (
                 refine x_all1 10 ?_
                 focus
                  all_goals (refine op_callA rfl rfl rfl rfl rfl ⟨_, Try.func19, by decide, rfl⟩ (.cons (.two (by first | ((conv => lhs; whnf; arg 1; whnf); done) | rfl | assumption | (simp; done)) rfl rfl (.pure rfl) (.own (by first | ((conv => lhs; whnf; arg 1; whnf); done) | rfl | assumption | (simp; done)) (own_pre _ _) (own_len _ (by omega))) rfl rfl) .nil) (concat2_w s.bytes ((record c).take (cut % (record c).length).toNat) (by first | omega | (simp; omega))) (by rintro r H' m ⟨rfl, rfl⟩; refine ⟨rfl, ?_⟩; simp only [List.mem_singleton]; rintro o rfl; exact AObj.shut_vals (fun e he => by obtain ⟨b, _, rfl⟩ := List.mem_map.1 he; exact ⟨_, rfl⟩)) ?_)
                  all_goals (rintro r H' m ⟨rfl, rfl⟩)
                  all_goals refine x_tk 13 (opWF_build rfl) ?_
                  all_goals (refine x_b3_3 ?_)
                  all_goals (
                   refine x_all1 15 ?_
                   focus
                    all_goals (refine x_st3 ?_)
                    all_goals exact any_leaf (n := 196) [0, 1, 2, 3, 4, 6, 7, 5] [2, 3, 5, 9, 11, 16, 18, 19] (by kernel_rfl) rfl rfl rfl (.c0 (.c0 (.c0 (.c0 (.c0 (.c0 (.c0 (.c0 (.nil))))))))) (.c7 (.c3 (.c0 (.c3 (.c0 (.c0 (.c0 (.c3 (.nil)))))))))))))
           focus
            all_goals (first | refine op_len_sl rfl (by first | (conv => lhs; simp only [List.length_map, bytesAV_length]) | rfl) rfl rfl rfl ?_ | refine x_leno ?_ | refine x_lenn ?_)
            all_goals refine x_tk 7 (opWF_bin rfl rfl rfl rfl) ?_
            all_goals (first | refine x_rem64 ?_ | refine x_rem ?_)
            all_goals refine x_tk 8 (opWF_slice) ?_
            all_goals (first | refine op_slice_sl rfl rfl rfl rfl rfl .none (.to rfl rfl (by first | rw [Int.toNat_natCast] | rw [Int.toNat_zero] | rw [Int.toNat_one] | rw [Int.toNat_ofNat] | exact rfl) (by omega)) (by first | omega | simp; omega) (by first | omega | simp; omega) (by conv => lhs; first | rw [sub1] | rw [sub2] | rw [sub3] | skip) ?_ | refine op_slice_osl rfl rfl rfl rfl rfl .none (.to rfl rfl (by first | rw [Int.toNat_natCast] | rw [Int.toNat_zero] | rw [Int.toNat_one] | rw [Int.toNat_ofNat] | exact rfl) (by omega)) (by first | omega | simp) (by omega) ?_)
            all_goals (
             refine x_all1 1 ?_
             focus
              all_goals (first | refine x_ld ?_ | refine x_ldr ?_)
              all_goals (
               refine x_all1 9 ?_
               focus
                all_goals (refine x_bs2 true ?_)
                all_goals (
                 refine x_all1 10 ?_
                 focus
                  all_goals (refine op_callA rfl rfl rfl rfl rfl ⟨_, Try.func19, by decide, rfl⟩ (.cons (.two (by first | ((conv => lhs; whnf; arg 1; whnf); done) | rfl | assumption | (simp; done)) rfl rfl (.pure rfl) (.own (by first | ((conv => lhs; whnf; arg 1; whnf); done) | rfl | assumption | (simp; done)) (own_pre _ _) (own_len _ (by omega))) rfl rfl) .nil) (concat2_w s.bytes ((record c).take (cut % (record c).length).toNat) (by first | omega | (simp; omega))) (by rintro r H' m ⟨rfl, rfl⟩; refine ⟨rfl, ?_⟩; simp only [List.mem_singleton]; rintro o rfl; exact AObj.shut_vals (fun e he => by obtain ⟨b, _, rfl⟩ := List.mem_map.1 he; exact ⟨_, rfl⟩)) ?_)
                  all_goals (rintro r H' m ⟨rfl, rfl⟩)
                  all_goals refine x_tk 13 (opWF_build rfl) ?_
                  all_goals (refine x_b3_3 ?_)
                  all_goals (
                   refine x_all1 15 ?_
                   focus
                    all_goals (refine x_st3 ?_)
                    all_goals exact any_leaf (n := 196) [0, 1, 2, 3, 4, 6, 7, 5] [2, 3, 5, 9, 11, 16, 18, 19] (by kernel_rfl) rfl rfl rfl (.c0 (.c0 (.c0 (.c0 (.c0 (.c0 (.c0 (.c0 (.nil))))))))) (.c7 (.c3 (.c0 (.c3 (.c0 (.c0 (.c0 (.c3 (.nil)))))))))))))))
       focus
        all_goals (refine x_al 3 ?_)
        all_goals (
         refine x_all3 1 6 12 ?_ ?_ ?_
         focus
          all_goals (first | refine x_ld ?_ | refine x_ldr ?_)
          all_goals (
           refine x_all2 6 12 ?_ ?_
           focus
            all_goals (first | refine op_len_sl rfl (by first | (conv => lhs; simp only [List.length_map, bytesAV_length]) | rfl) rfl rfl rfl ?_ | refine x_leno ?_ | refine x_lenn ?_)
            all_goals refine x_tk 7 (opWF_bin rfl rfl rfl rfl) ?_
            all_goals (first | refine x_rem64 ?_ | refine x_rem ?_)
            all_goals refine x_tk 8 (opWF_slice) ?_
            all_goals (first | refine op_slice_sl rfl rfl rfl rfl rfl .none (.to rfl rfl (by first | rw [Int.toNat_natCast] | rw [Int.toNat_zero] | rw [Int.toNat_one] | rw [Int.toNat_ofNat] | exact rfl) (by omega)) (by first | omega | simp; omega) (by first | omega | simp; omega) (by conv => lhs; first | rw [sub1] | rw [sub2] | rw [sub3] | skip) ?_ | refine op_slice_osl rfl rfl rfl rfl rfl .none (.to rfl rfl (by first | rw [Int.toNat_natCast] | rw [Int.toNat_zero] | rw [Int.toNat_one] | rw [Int.toNat_ofNat] | exact rfl) (by omega)) (by first | omega | simp) (by omega) ?_)
            all_goals (
             refine x_all2 9 12 ?_ ?_
             focus
              all_goals (refine x_bs2 true ?_)
              all_goals (
               refine x_all2 10 12 ?_ ?_
               focus
                all_goals (refine op_callA rfl rfl rfl rfl rfl ⟨_, Try.func19, by decide, rfl⟩ (.cons (.two (by first | ((conv => lhs; whnf; arg 1; whnf); done) | rfl | assumption | (simp; done)) rfl rfl (.pure rfl) (.own (by first | ((conv => lhs; whnf; arg 1; whnf); done) | rfl | assumption | (simp; done)) (own_pre _ _) (own_len _ (by omega))) rfl rfl) .nil) (concat2_w s.bytes ((record c).take (cut % (record c).length).toNat) (by first | omega | (simp; omega))) (by rintro r H' m ⟨rfl, rfl⟩; refine ⟨rfl, ?_⟩; simp only [List.mem_singleton]; rintro o rfl; exact AObj.shut_vals (fun e he => by obtain ⟨b, _, rfl⟩ := List.mem_map.1 he; exact ⟨_, rfl⟩)) ?_)
                all_goals (rintro r H' m ⟨rfl, rfl⟩)
                all_goals (
                 refine x_all1 12 ?_
                 focus
                  all_goals (first | refine x_ld ?_ | refine x_ldr ?_)
                  all_goals refine x_tk 13 (opWF_build rfl) ?_
                  all_goals (refine x_b3_3 ?_)
                  all_goals (
                   refine x_all1 15 ?_
                   focus
                    all_goals (refine x_st3 ?_)
                    all_goals exact any_leaf (n := 196) [0, 1, 2, 3, 4, 6, 7, 5] [2, 3, 5, 9, 11, 16, 18, 19] (by kernel_rfl) rfl rfl rfl (.c0 (.c0 (.c0 (.c0 (.c0 (.c0 (.c0 (.c0 (.nil))))))))) (.c7 (.c3 (.c0 (.c3 (.c0 (.c0 (.c0 (.c3 (.nil)))))))))))
               focus
                all_goals (first | refine x_ld ?_ | refine x_ldr ?_)
                all_goals (
                 refine x_all1 10 ?_
                 focus
                  all_goals (refine op_callA rfl rfl rfl rfl rfl ⟨_, Try.func19, by decide, rfl⟩ (.cons (.two (by first | ((conv => lhs; whnf; arg 1; whnf); done) | rfl | assumption | (simp; done)) rfl rfl (.pure rfl) (.own (by first | ((conv => lhs; whnf; arg 1; whnf); done) | rfl | assumption | (simp; done)) (own_pre _ _) (own_len _ (by omega))) rfl rfl) .nil) (concat2_w s.bytes ((record c).take (cut % (record c).length).toNat) (by first | omega | (simp; omega))) (by rintro r H' m ⟨rfl, rfl⟩; refine ⟨rfl, ?_⟩; simp only [List.mem_singleton]; rintro o rfl; exact AObj.shut_vals (fun e he => by obtain ⟨b, _, rfl⟩ := List.mem_map.1 he; exact ⟨_, rfl⟩)) ?_)
                  all_goals (rintro r H' m ⟨rfl, rfl⟩)
                  all_goals refine x_tk 13 (opWF_build rfl) ?_
                  all_goals (refine x_b3_3 ?_)
                  all_goals (
                   refine x_all1 15 ?_
                   focus
                    all_goals (refine x_st3 ?_)
                    all_goals exact any_leaf (n := 196) [0, 1, 2, 3, 4, 6, 7, 5] [2, 3, 5, 9, 11, 16, 18, 19] (by kernel_rfl) rfl rfl rfl (.c0 (.c0 (.c0 (.c0 (.c0 (.c0 (.c0 (.c0 (.nil))))))))) (.c7 (.c3 (.c0 (.c3 (.c0 (.c0 (.c0 (.c3 (.nil))))))))))))
             focus
              all_goals (first | refine x_ld ?_ | refine x_ldr ?_)
              all_goals (
               refine x_all1 9 ?_
               focus
                all_goals (refine x_bs2 true ?_)
                all_goals (
                 refine x_all1 10 ?_
                 focus
                  all_goals (refine op_callA rfl rfl rfl rfl rfl ⟨_, Try.func19, by decide, rfl⟩ (.cons (.two (by first | ((conv => lhs; whnf; arg 1; whnf); done) | rfl | assumption | (simp; done)) rfl rfl (.pure rfl) (.own (by first | ((conv => lhs; whnf; arg 1; whnf); done) | rfl | assumption | (simp; done)) (own_pre _ _) (own_len _ (by omega))) rfl rfl) .nil) (concat2_w s.bytes ((record c).take (cut % (record c).length).toNat) (by first | omega | (simp; omega))) (by rintro r H' m ⟨rfl, rfl⟩; refine ⟨rfl, ?_⟩; simp only [List.mem_singleton]; rintro o rfl; exact AObj.shut_vals (fun e he => by obtain ⟨b, _, rfl⟩ := List.mem_map.1 he; exact ⟨_, rfl⟩)) ?_)
                  all_goals (rintro r H' m ⟨rfl, rfl⟩)
                  all_goals refine x_tk 13 (opWF_build rfl) ?_
                  all_goals (refine x_b3_3 ?_)
                  all_goals (
                   refine x_all1 15 ?_
                   focus
                    all_goals (refine x_st3 ?_)
                    all_goals exact any_leaf (n := 196) [0, 1, 2, 3, 4, 6, 7, 5] [2, 3, 5, 9, 11, 16, 18, 19] (by kernel_rfl) rfl rfl rfl (.c0 (.c0 (.c0 (.c0 (.c0 (.c0 (.c0 (.c0 (.nil))))))))) (.c7 (.c3 (.c0 (.c3 (.c0 (.c0 (.c0 (.c3 (.nil)))))))))))))
           focus
            all_goals (first | refine x_ld ?_ | refine x_ldr ?_)
            all_goals (
             refine x_all1 6 ?_
             focus
              all_goals (first | refine op_len_sl rfl (by first | (conv => lhs; simp only [List.length_map, bytesAV_length]) | rfl) rfl rfl rfl ?_ | refine x_leno ?_ | refine x_lenn ?_)
              all_goals refine x_tk 7 (opWF_bin rfl rfl rfl rfl) ?_
              all_goals (first | refine x_rem64 ?_ | refine x_rem ?_)
              all_goals refine x_tk 8 (opWF_slice) ?_
              all_goals (first | refine op_slice_sl rfl rfl rfl rfl rfl .none (.to rfl rfl (by first | rw [Int.toNat_natCast] | rw [Int.toNat_zero] | rw [Int.toNat_one] | rw [Int.toNat_ofNat] | exact rfl) (by omega)) (by first | omega | simp; omega) (by first | omega | simp; omega) (by conv => lhs; first | rw [sub1] | rw [sub2] | rw [sub3] | skip) ?_ | refine op_slice_osl rfl rfl rfl rfl rfl .none (.to rfl rfl (by first | rw [Int.toNat_natCast] | rw [Int.toNat_zero] | rw [Int.toNat_one] | rw [Int.toNat_ofNat] | exact rfl) (by omega)) (by first | omega | simp) (by omega) ?_)
              all_goals (
               refine x_all1 9 ?_
               focus
                all_goals (refine x_bs2 true ?_)
                all_goals (
                 refine x_all1 10 ?_
                 focus
                  all_goals (refine op_callA rfl rfl rfl rfl rfl ⟨_, Try.func19, by decide, rfl⟩ (.cons (.two (by first | ((conv => lhs; whnf; arg 1; whnf); done) | rfl | assumption | (simp; done)) rfl rfl (.pure rfl) (.own (by first | ((conv => lhs; whnf; arg 1; whnf); done) | rfl | assumption | (simp; done)) (own_pre _ _) (own_len _ (by omega))) rfl rfl) .nil) (concat2_w s.bytes ((record c).take (cut % (record c).length).toNat) (by first | omega | (simp; omega))) (by rintro r H' m ⟨rfl, rfl⟩; refine ⟨rfl, ?_⟩; simp only [List.mem_singleton]; rintro o rfl; exact AObj.shut_vals (fun e he => by obtain ⟨b, _, rfl⟩ := List.mem_map.1 he; exact ⟨_, rfl⟩)) ?_)
                  all_goals (rintro r H' m ⟨rfl, rfl⟩)
                  all_goals refine x_tk 13 (opWF_build rfl) ?_
                  all_goals (refine x_b3_3 ?_)
                  all_goals (
                   refine x_all1 15 ?_
                   focus
                    all_goals (refine x_st3 ?_)
                    all_goals exact any_leaf (n := 196) [0, 1, 2, 3, 4, 6, 7, 5] [2, 3, 5, 9, 11, 16, 18, 19] (by kernel_rfl) rfl rfl rfl (.c0 (.c0 (.c0 (.c0 (.c0 (.c0 (.c0 (.c0 (.nil))))))))) (.c7 (.c3 (.c0 (.c3 (.c0 (.c0 (.c0 (.c3 (.nil))))))))))))))
         focus
          all_goals (first | refine op_len_sl rfl (by first | (conv => lhs; simp only [List.length_map, bytesAV_length]) | rfl) rfl rfl rfl ?_ | refine x_leno ?_ | refine x_lenn ?_)
          all_goals refine x_tk 7 (opWF_bin rfl rfl rfl rfl) ?_
          all_goals (first | refine x_rem64 ?_ | refine x_rem ?_)
          all_goals refine x_tk 8 (opWF_slice) ?_
          all_goals (first | refine op_slice_sl rfl rfl rfl rfl rfl .none (.to rfl rfl (by first | rw [Int.toNat_natCast] | rw [Int.toNat_zero] | rw [Int.toNat_one] | rw [Int.toNat_ofNat] | exact rfl) (by omega)) (by first | omega | simp; omega) (by first | omega | simp; omega) (by conv => lhs; first | rw [sub1] | rw [sub2] | rw [sub3] | skip) ?_ | refine op_slice_osl rfl rfl rfl rfl rfl .none (.to rfl rfl (by first | rw [Int.toNat_natCast] | rw [Int.toNat_zero] | rw [Int.toNat_one] | rw [Int.toNat_ofNat] | exact rfl) (by omega)) (by first | omega | simp) (by omega) ?_)
          all_goals (
           refine x_all2 1 12 ?_ ?_
           focus
            all_goals (first | refine x_ld ?_ | refine x_ldr ?_)
            all_goals (
             refine x_all2 9 12 ?_ ?_
             focus
              all_goals (refine x_bs2 true ?_)
              all_goals (
               refine x_all2 10 12 ?_ ?_
               focus
                all_goals (refine op_callA rfl rfl rfl rfl rfl ⟨_, Try.func19, by decide, rfl⟩ (.cons (.two (by first | ((conv => lhs; whnf; arg 1; whnf); done) | rfl | assumption | (simp; done)) rfl rfl (.pure rfl) (.own (by first | ((conv => lhs; whnf; arg 1; whnf); done) | rfl | assumption | (simp; done)) (own_pre _ _) (own_len _ (by omega))) rfl rfl) .nil) (concat2_w s.bytes ((record c).take (cut % (record c).length).toNat) (by first | omega | (simp; omega))) (by rintro r H' m ⟨rfl, rfl⟩; refine ⟨rfl, ?_⟩; simp only [List.mem_singleton]; rintro o rfl; exact AObj.shut_vals (fun e he => by obtain ⟨b, _, rfl⟩ := List.mem_map.1 he; exact ⟨_, rfl⟩)) ?_)
                all_goals (rintro r H' m ⟨rfl, rfl⟩)
                all_goals (
                 refine x_all1 12 ?_
                 focus
                  all_goals (first | refine x_ld ?_ | refine x_ldr ?_)
                  all_goals refine x_tk 13 (opWF_build rfl) ?_
                  all_goals (refine x_b3_3 ?_)
                  all_goals (
                   refine x_all1 15 ?_
                   focus
                    all_goals (refine x_st3 ?_)
                    all_goals exact any_leaf (n := 196) [0, 1, 2, 3, 4, 6, 7, 5] [2, 3, 5, 9, 11, 16, 18, 19] (by kernel_rfl) rfl rfl rfl (.c0 (.c0 (.c0 (.c0 (.c0 (.c0 (.c0 (.c0 (.nil))))))))) (.c7 (.c3 (.c0 (.c3 (.c0 (.c0 (.c0 (.c3 (.nil)))))))))))
               focus
                all_goals (first | refine x_ld ?_ | refine x_ldr ?_)
                all_goals (
                 refine x_all1 10 ?_
                 focus
                  all_goals (refine op_callA rfl rfl rfl rfl rfl ⟨_, Try.func19, by decide, rfl⟩ (.cons (.two (by first | ((conv => lhs; whnf; arg 1; whnf); done) | rfl | assumption | (simp; done)) rfl rfl (.pure rfl) (.own (by first | ((conv => lhs; whnf; arg 1; whnf); done) | rfl | assumption | (simp; done)) (own_pre _ _) (own_len _ (by omega))) rfl rfl) .nil) (concat2_w s.bytes ((record c).take (cut % (record c).length).toNat) (by first | omega | (simp; omega))) (by rintro r H' m ⟨rfl, rfl⟩; refine ⟨rfl, ?_⟩; simp only [List.mem_singleton]; rintro o rfl; exact AObj.shut_vals (fun e he => by obtain ⟨b, _, rfl⟩ := List.mem_map.1 he; exact ⟨_, rfl⟩)) ?_)
                  all_goals (rintro r H' m ⟨rfl, rfl⟩)
                  all_goals refine x_tk 13 (opWF_build rfl) ?_
                  all_goals (refine x_b3_3 ?_)
                  all_goals (
                   refine x_all1 15 ?_
                   focus
                    all_goals (refine x_st3 ?_)
                    all_goals exact any_leaf (n := 196) [0, 1, 2, 3, 4, 6, 7, 5] [2, 3, 5, 9, 11, 16, 18, 19] (by kernel_rfl) rfl rfl rfl (.c0 (.c0 (.c0 (.c0 (.c0 (.c0 (.c0 (.c0 (.nil))))))))) (.c7 (.c3 (.c0 (.c3 (.c0 (.c0 (.c0 (.c3 (.nil))))))))))))
             focus
              all_goals (first | refine x_ld ?_ | refine x_ldr ?_)
              all_goals (
               refine x_all1 9 ?_
               focus
                all_goals (refine x_bs2 true ?_)
                all_goals (
                 refine x_all1 10 ?_
                 focus
                  all_goals (refine op_callA rfl rfl rfl rfl rfl ⟨_, Try.func19, by decide, rfl⟩ (.cons (.two (by first | ((conv => lhs; whnf; arg 1; whnf); done) | rfl | assumption | (simp; done)) rfl rfl (.pure rfl) (.own (by first | ((conv => lhs; whnf; arg 1; whnf); done) | rfl | assumption | (simp; done)) (own_pre _ _) (own_len _ (by omega))) rfl rfl) .nil) (concat2_w s.bytes ((record c).take (cut % (record c).length).toNat) (by first | omega | (simp; omega))) (by rintro r H' m ⟨rfl, rfl⟩; refine ⟨rfl, ?_⟩; simp only [List.mem_singleton]; rintro o rfl; exact AObj.shut_vals (fun e he => by obtain ⟨b, _, rfl⟩ := List.mem_map.1 he; exact ⟨_, rfl⟩)) ?_)
                  all_goals (rintro r H' m ⟨rfl, rfl⟩)
                  all_goals refine x_tk 13 (opWF_build rfl) ?_
                  all_goals (refine x_b3_3 ?_)
                  all_goals (
                   refine x_all1 15 ?_
                   focus
                    all_goals (refine x_st3 ?_)
                    all_goals exact any_leaf (n := 196) [0, 1, 2, 3, 4, 6, 7, 5] [2, 3, 5, 9, 11, 16, 18, 19] (by kernel_rfl) rfl rfl rfl (.c0 (.c0 (.c0 (.c0 (.c0 (.c0 (.c0 (.c0 (.nil))))))))) (.c7 (.c3 (.c0 (.c3 (.c0 (.c0 (.c0 (.c3 (.nil)))))))))))))
           focus
            all_goals (first | refine x_ld ?_ | refine x_ldr ?_)
            all_goals (
             refine x_all1 1 ?_
             focus
              all_goals (first | refine x_ld ?_ | refine x_ldr ?_)
              all_goals (
               refine x_all1 9 ?_
               focus
                all_goals (refine x_bs2 true ?_)
                all_goals (
                 refine x_all1 10 ?_
                 focus
                  all_goals (refine op_callA rfl rfl rfl rfl rfl ⟨_, Try.func19, by decide, rfl⟩ (.cons (.two (by first | ((conv => lhs; whnf; arg 1; whnf); done) | rfl | assumption | (simp; done)) rfl rfl (.pure rfl) (.own (by first | ((conv => lhs; whnf; arg 1; whnf); done) | rfl | assumption | (simp; done)) (own_pre _ _) (own_len _ (by omega))) rfl rfl) .nil) (concat2_w s.bytes ((record c).take (cut % (record c).length).toNat) (by first | omega | (simp; omega))) (by rintro r H' m ⟨rfl, rfl⟩; refine ⟨rfl, ?_⟩; simp only [List.mem_singleton]; rintro o rfl; exact AObj.shut_vals (fun e he => by obtain ⟨b, _, rfl⟩ := List.mem_map.1 he; exact ⟨_, rfl⟩)) ?_)
                  all_goals (rintro r H' m ⟨rfl, rfl⟩)
                  all_goals refine x_tk 13 (opWF_build rfl) ?_
                  all_goals (refine x_b3_3 ?_)
                  all_goals (
                   refine x_all1 15 ?_
                   focus
                    all_goals (refine x_st3 ?_)
                    all_goals exact any_leaf (n := 196) [0, 1, 2, 3, 4, 6, 7, 5] [2, 3, 5, 9, 11, 16, 18, 19] (by kernel_rfl) rfl rfl rfl (.c0 (.c0 (.c0 (.c0 (.c0 (.c0 (.c0 (.c0 (.nil))))))))) (.c7 (.c3 (.c0 (.c3 (.c0 (.c0 (.c0 (.c3 (.nil))))))))))))))
         focus
          all_goals (first | refine x_ld ?_ | refine x_ldr ?_)
          all_goals (
           refine x_all2 1 6 ?_ ?_
           focus
            all_goals (first | refine x_ld ?_ | refine x_ldr ?_)
            all_goals (
             refine x_all1 6 ?_
             focus
              all_goals (first | refine op_len_sl rfl (by first | (conv => lhs; simp only [List.length_map, bytesAV_length]) | rfl) rfl rfl rfl ?_ | refine x_leno ?_ | refine x_lenn ?_)
              all_goals refine x_tk 7 (opWF_bin rfl rfl rfl rfl) ?_
              all_goals (first | refine x_rem64 ?_ | refine x_rem ?_)
              all_goals refine x_tk 8 (opWF_slice) ?_
              all_goals (first | refine op_slice_sl rfl rfl rfl rfl rfl .none (.to rfl rfl (by first | rw [Int.toNat_natCast] | rw [Int.toNat_zero] | rw [Int.toNat_one] | rw [Int.toNat_ofNat] | exact rfl) (by omega)) (by first | omega | simp; omega) (by first | omega | simp; omega) (by conv => lhs; first | rw [sub1] | rw [sub2] | rw [sub3] | skip) ?_ | refine op_slice_osl rfl rfl rfl rfl rfl .none (.to rfl rfl (by first | rw [Int.toNat_natCast] | rw [Int.toNat_zero] | rw [Int.toNat_one] | rw [Int.toNat_ofNat] | exact rfl) (by omega)) (by first | omega | simp) (by omega) ?_)
              all_goals (
               refine x_all1 9 ?_
               focus
                all_goals (refine x_bs2 true ?_)
                all_goals (
                 refine x_all1 10 ?_
                 focus
                  all_goals (refine op_callA rfl rfl rfl rfl rfl ⟨_, Try.func19, by decide, rfl⟩ (.cons (.two (by first | ((conv => lhs; whnf; arg 1; whnf); done) | rfl | assumption | (simp; done)) rfl rfl (.pure rfl) (.own (by first | ((conv => lhs; whnf; arg 1; whnf); done) | rfl | assumption | (simp; done)) (own_pre _ _) (own_len _ (by omega))) rfl rfl) .nil) (concat2_w s.bytes ((record c).take (cut % (record c).length).toNat) (by first | omega | (simp; omega))) (by rintro r H' m ⟨rfl, rfl⟩; refine ⟨rfl, ?_⟩; simp only [List.mem_singleton]; rintro o rfl; exact AObj.shut_vals (fun e he => by obtain ⟨b, _, rfl⟩ := List.mem_map.1 he; exact ⟨_, rfl⟩)) ?_)
                  all_goals (rintro r H' m ⟨rfl, rfl⟩)
                  all_goals refine x_tk 13 (opWF_build rfl) ?_
                  all_goals (refine x_b3_3 ?_)
                  all_goals (
                   refine x_all1 15 ?_
                   focus
                    all_goals (refine x_st3 ?_)
                    all_goals exact any_leaf (n := 196) [0, 1, 2, 3, 4, 6, 7, 5] [2, 3, 5, 9, 11, 16, 18, 19] (by kernel_rfl) rfl rfl rfl (.c0 (.c0 (.c0 (.c0 (.c0 (.c0 (.c0 (.c0 (.nil))))))))) (.c7 (.c3 (.c0 (.c3 (.c0 (.c0 (.c0 (.c3 (.nil)))))))))))))
           focus
            all_goals (first | refine op_len_sl rfl (by first | (conv => lhs; simp only [List.length_map, bytesAV_length]) | rfl) rfl rfl rfl ?_ | refine x_leno ?_ | refine x_lenn ?_)
            all_goals refine x_tk 7 (opWF_bin rfl rfl rfl rfl) ?_
            all_goals (first | refine x_rem64 ?_ | refine x_rem ?_)
            all_goals refine x_tk 8 (opWF_slice) ?_
            all_goals (first | refine op_slice_sl rfl rfl rfl rfl rfl .none (.to rfl rfl (by first | rw [Int.toNat_natCast] | rw [Int.toNat_zero] | rw [Int.toNat_one] | rw [Int.toNat_ofNat] | exact rfl) (by omega)) (by first | omega | simp; omega) (by first | omega | simp; omega) (by conv => lhs; first | rw [sub1] | rw [sub2] | rw [sub3] | skip) ?_ | refine op_slice_osl rfl rfl rfl rfl rfl .none (.to rfl rfl (by first | rw [Int.toNat_natCast] | rw [Int.toNat_zero] | rw [Int.toNat_one] | rw [Int.toNat_ofNat] | exact rfl) (by omega)) (by first | omega | simp) (by omega) ?_)
            all_goals (
             refine x_all1 1 ?_
             focus
              all_goals (first | refine x_ld ?_ | refine x_ldr ?_)
              all_goals (
               refine x_all1 9 ?_
               focus
                all_goals (refine x_bs2 true ?_)
                all_goals (
                 refine x_all1 10 ?_
                 focus
                  all_goals (refine op_callA rfl rfl rfl rfl rfl ⟨_, Try.func19, by decide, rfl⟩ (.cons (.two (by first | ((conv => lhs; whnf; arg 1; whnf); done) | rfl | assumption | (simp; done)) rfl rfl (.pure rfl) (.own (by first | ((conv => lhs; whnf; arg 1; whnf); done) | rfl | assumption | (simp; done)) (own_pre _ _) (own_len _ (by omega))) rfl rfl) .nil) (concat2_w s.bytes ((record c).take (cut % (record c).length).toNat) (by first | omega | (simp; omega))) (by rintro r H' m ⟨rfl, rfl⟩; refine ⟨rfl, ?_⟩; simp only [List.mem_singleton]; rintro o rfl; exact AObj.shut_vals (fun e he => by obtain ⟨b, _, rfl⟩ := List.mem_map.1 he; exact ⟨_, rfl⟩)) ?_)
                  all_goals (rintro r H' m ⟨rfl, rfl⟩)
                  all_goals refine x_tk 13 (opWF_build rfl) ?_
                  all_goals (refine x_b3_3 ?_)
                  all_goals (
                   refine x_all1 15 ?_
                   focus
                    all_goals (refine x_st3 ?_)
                    all_goals exact any_leaf (n := 196) [0, 1, 2, 3, 4, 6, 7, 5] [2, 3, 5, 9, 11, 16, 18, 19] (by kernel_rfl) rfl rfl rfl (.c0 (.c0 (.c0 (.c0 (.c0 (.c0 (.c0 (.c0 (.nil))))))))) (.c7 (.c3 (.c0 (.c3 (.c0 (.c0 (.c0 (.c3 (.nil)))))))))))))))))
    all_goals refine seqQ_n ?_
    all_goals (
     refine tri_seq_meet (Y := Unit) (fun x => ⟨196, noM, [(5, .ptr 0 7 0 0), (11, .osl 1 7 0 done.length), (16, .ptr 2 3 0 0), (19, .ptr 3 3 0 0)], [.mk 26 true false 7 [cmdAV c], .mk 26 false false 7 (done.map cmdAV), .mk 32 true false 3 [stoAV full], .mk 32 true false 3 [stoAV torn]]⟩) ?_ (fun x => ?_)
     focus
      all_goals refine tri_seq ?_
      all_goals refine tri_region ?_
      all_goals (refine ops_le (lit_snapO 7 (by first | ((conv => lhs; whnf; arg 1; whnf); done) | rfl | assumption | (simp; done)) (by conv => lhs; whnf; congr; { whnf }; { whnf; congr; { whnf }; { whnf; congr; { whnf }; { whnf } } }) (by exact .cons (.own (by first | ((conv => lhs; whnf; arg 1; whnf); done) | rfl | assumption | (simp; done)) (own_all _ (by simp)) (own_len _ (by simp))) (.cons (.pure rfl) (.cons (.pure rfl) .nil))) (by rfl) (by rfl) (by rfl)) ?_)
      all_goals (rw [show AV.agg [AV.sl 1 (bytesAV (s.bytes ++ (record c).take (cut % (record c).length).toNat)), AV.val (Value.int .i64 s.durable), AV.val (Value.int .i64 (-1))] = stoAV torn by rw [htorn]; rfl])
      all_goals refine oc (x_move ?_)
      all_goals refine oc ?_
      all_goals (first | refine x_ci64 ?_ | refine x_ci ?_)
      all_goals refine oc (x_move ?_)
      all_goals refine oc ?_
      all_goals (first | refine op_len_sl rfl (by first | (conv => lhs; simp only [List.length_map, bytesAV_length]) | rfl) rfl rfl rfl ?_ | refine x_leno ?_ | refine x_lenn ?_)
      all_goals refine oc ?_
      all_goals (first | refine x_sub64 ?_ | refine x_sub ?_)
      all_goals refine oc ?_
      all_goals (first | refine x_rem64 ?_ | refine x_rem ?_)
      all_goals refine oc ?_
      all_goals (first | refine x_add64 ?_ | refine x_add ?_)
      all_goals refine oc (x_assign ?_)
      all_goals refine ops_nil ?_
      all_goals refine seqQ_n ?_
      all_goals refine tri_seq ?_
      all_goals refine tri_region ?_
      all_goals refine oc (x_move ?_)
      all_goals refine oc (x_neq ?_)
      all_goals refine oc (x_move ?_)
      all_goals (first | refine gU ?_ | refine gY ?_ | refine gN ?_ | refine ops_guardTd rfl rfl rfl rfl rfl rfl (fun hg => ?_) (fun hg => ?_) | refine gT (fun hg => ?_) (fun hg => ?_))
      all_goals try (exfalso; omega)
      all_goals (first | refine ops_here ?_ | (refine x_move ?_))
      all_goals (first | refine gU ?_ | refine gY ?_ | refine gN ?_ | refine ops_guardTd rfl rfl rfl rfl rfl rfl (fun hg => ?_) (fun hg => ?_) | refine gT (fun hg => ?_) (fun hg => ?_))
      all_goals try (exfalso; omega)
      all_goals (first | refine ops_here ?_ | (first | refine op_len_sl rfl (by first | (conv => lhs; simp only [List.length_map, bytesAV_length]) | rfl) rfl rfl rfl ?_ | refine x_leno ?_ | refine x_lenn ?_))
      all_goals (first | refine gU ?_ | refine gY ?_ | refine gN ?_ | refine ops_guardTd rfl rfl rfl rfl rfl rfl (fun hg => ?_) (fun hg => ?_) | refine gT (fun hg => ?_) (fun hg => ?_))
      all_goals try (exfalso; omega)
      all_goals (first | refine ops_here ?_ | (refine x_lss ?_))
      all_goals refine oc ?_
      all_goals (first | refine x_pt ?_ | refine x_pf ?_ | refine x_pb ?_)
      all_goals refine ops_nil ?_
      all_goals refine seqQ_n ?_
      all_goals (
       first | refine tri_cond_d rfl rfl (fun hc => ?_) (fun hc => ?_) | refine ct (fun hc => ?_) (fun hc => ?_) | refine cf (fun hc => ?_) (fun hc => ?_) | refine cb (fun hc => ?_) (fun hc => ?_)
       focus
        try (exfalso; first | exact hc | omega)
        all_goals refine tri_seq ?_
        all_goals refine tri_le (le_norm (n := 196) [0, 1, 2, 3, 4, 5, 6, 7] [3, 5, 9, 11, 16, 18, 19, 20] (by kernel_rfl) (by rfl) rfl (.c0 (.c0 (.c0 (.c0 (.c0 (.c0 (.c0 (.c0 (.nil))))))))) (.c7 (.c3 (.c0 (.c3 (.c0 (.c0 (.c0 (.c3 (.nil)))))))))) ?_
        all_goals refine tri_region ?_
        all_goals (
         obtain ⟨b, hb⟩ : ∃ b, (record c)[(1 + cut % ((record c).length - 1)).toNat]? = some b := ⟨(record c)[(1 + cut % ((record c).length - 1)).toNat]'(by omega), by simp⟩
         have he : (bytesAV (record c))[(1 + cut % ((record c).length - 1)).toNat]? = some (.val (.int .u8 b.toNat)) := by simp [bytesAV, hb])
        all_goals refine oc (x_move ?_)
        all_goals refine oc (x_move ?_)
        all_goals refine oc ?_
        all_goals (first | refine x_ia ?_ | refine x_iao0 ?_ | refine x_iao ?_)
        all_goals refine oc ?_
        all_goals (first | refine x_ld ?_ | refine x_ldr ?_)
        all_goals refine oc (x_move ?_)
        all_goals refine oc (x_xor ?_)
        all_goals (rw [xor8 b hch])
        all_goals refine oc ?_
        all_goals (first | refine x_ia ?_ | refine x_iao0 ?_ | refine x_iao ?_)
        all_goals refine oc ?_
        all_goals (first | refine x_st ?_ | refine x_ste ?_)
        all_goals refine ops_nil ?_
        all_goals refine seqQ_n ?_
        all_goals refine tri_seq ?_
        all_goals (
         rw [set_bytes]
         obtain ⟨bad, hbad⟩ : ∃ t : Sto, t = ⟨s.bytes ++ (record c).set (1 + cut % ((record c).length - 1)).toNat (b ^^^ UInt8.ofNat change.toNat), s.durable, -1⟩ := ⟨_, rfl⟩
         have hIb : InvR bad done ((record c).set (1 + cut % ((record c).length - 1)).toNat (b ^^^ UInt8.ofNat change.toNat)) := hbad ▸ hI.behind (rec1_changed (by omega) (by omega) hb (xor_ne b hch (by omega))) (by rw [List.length_set]; omega))
        all_goals (
         apply tri_anyCut (by rfl)
         focus
          all_goals refine x_tk 0 (opWF_fieldAddr rfl rfl rfl) ?_
          all_goals (first | refine x_fa0 ?_ | refine x_far0 ?_ | refine x_fa ?_ | refine x_far ?_)
          all_goals refine x_tk 2 (opWF_move) ?_
          all_goals (refine x_move ?_)
          all_goals refine x_tk 5 (opWF_fieldAddr rfl rfl rfl) ?_
          all_goals (first | refine x_fa0 ?_ | refine x_far0 ?_ | refine x_fa ?_ | refine x_far ?_)
          all_goals (
           refine x_all3 1 6 8 ?_ ?_ ?_
           focus
            all_goals (first | refine x_ld ?_ | refine x_ldr ?_)
            all_goals (
             refine x_all3 3 6 8 ?_ ?_ ?_
             focus
              all_goals (refine x_bs2 true ?_)
              all_goals (
               refine x_all3 4 6 8 ?_ ?_ ?_
               focus
                all_goals (refine op_callA rfl rfl rfl rfl rfl ⟨_, Try.func19, by decide, rfl⟩ (.cons (.two (by first | ((conv => lhs; whnf; arg 1; whnf); done) | rfl | assumption | (simp; done)) rfl rfl (.pure rfl) (.own (by first | ((conv => lhs; whnf; arg 1; whnf); done) | rfl | assumption | (simp; done)) (own_all _ (by simp)) (own_len _ (by simp))) rfl rfl) .nil) (concat2_w s.bytes ((record c).set (1 + cut % ((record c).length - 1)).toNat (b ^^^ UInt8.ofNat change.toNat)) (by first | omega | (simp; omega))) (by rintro r H' m ⟨rfl, rfl⟩; refine ⟨rfl, ?_⟩; simp only [List.mem_singleton]; rintro o rfl; exact AObj.shut_vals (fun e he => by obtain ⟨b, _, rfl⟩ := List.mem_map.1 he; exact ⟨_, rfl⟩)) ?_)
                all_goals (rintro r H' m ⟨rfl, rfl⟩)
                all_goals (
                 refine x_all2 6 8 ?_ ?_
                 focus
                  all_goals (first | refine x_ld ?_ | refine x_ldr ?_)
                  all_goals refine x_tk 7 (opWF_build rfl) ?_
                  all_goals (refine x_b3_3 ?_)
                  all_goals (
                   refine x_all1 8 ?_
                   focus
                    all_goals (refine x_al 3 ?_)
                    all_goals (
                     refine x_all1 9 ?_
                     focus
                      all_goals (refine x_st3 ?_)
                      all_goals exact any_leaf (n := 196) [0, 1, 2, 3, 4, 5, 6, 7, 8, 9, 10] [5, 11, 16, 19, 21] (by kernel_rfl) rfl rfl rfl (.c0 (.c0 (.c0 (.c0 (.c0 (.nil)))))) (.c7 (.c3 (.c0 (.c3 (.c0 (.c0 (.c0 (.c3 (.c0 (.c0 (.c3 (.nil))))))))))))))
                 focus
                  all_goals (refine x_al 3 ?_)
                  all_goals (
                   refine x_all1 6 ?_
                   focus
                    all_goals (first | refine x_ld ?_ | refine x_ldr ?_)
                    all_goals refine x_tk 7 (opWF_build rfl) ?_
                    all_goals (refine x_b3_3 ?_)
                    all_goals (
                     refine x_all1 9 ?_
                     focus
                      all_goals (refine x_st3 ?_)
                      all_goals exact any_leaf (n := 196) [0, 1, 2, 3, 4, 5, 6, 7, 8, 9, 10] [5, 11, 16, 19, 21] (by kernel_rfl) rfl rfl rfl (.c0 (.c0 (.c0 (.c0 (.c0 (.nil)))))) (.c7 (.c3 (.c0 (.c3 (.c0 (.c0 (.c0 (.c3 (.c0 (.c0 (.c3 (.nil)))))))))))))))
               focus
                all_goals (first | refine x_ld ?_ | refine x_ldr ?_)
                all_goals (
                 refine x_all2 4 8 ?_ ?_
                 focus
                  all_goals (refine op_callA rfl rfl rfl rfl rfl ⟨_, Try.func19, by decide, rfl⟩ (.cons (.two (by first | ((conv => lhs; whnf; arg 1; whnf); done) | rfl | assumption | (simp; done)) rfl rfl (.pure rfl) (.own (by first | ((conv => lhs; whnf; arg 1; whnf); done) | rfl | assumption | (simp; done)) (own_all _ (by simp)) (own_len _ (by simp))) rfl rfl) .nil) (concat2_w s.bytes ((record c).set (1 + cut % ((record c).length - 1)).toNat (b ^^^ UInt8.ofNat change.toNat)) (by first | omega | (simp; omega))) (by rintro r H' m ⟨rfl, rfl⟩; refine ⟨rfl, ?_⟩; simp only [List.mem_singleton]; rintro o rfl; exact AObj.shut_vals (fun e he => by obtain ⟨b, _, rfl⟩ := List.mem_map.1 he; exact ⟨_, rfl⟩)) ?_)
                  all_goals (rintro r H' m ⟨rfl, rfl⟩)
                  all_goals refine x_tk 7 (opWF_build rfl) ?_
                  all_goals (refine x_b3_3 ?_)
                  all_goals (
                   refine x_all1 8 ?_
                   focus
                    all_goals (refine x_al 3 ?_)
                    all_goals (
                     refine x_all1 9 ?_
                     focus
                      all_goals (refine x_st3 ?_)
                      all_goals exact any_leaf (n := 196) [0, 1, 2, 3, 4, 5, 6, 7, 8, 9, 10] [5, 11, 16, 19, 21] (by kernel_rfl) rfl rfl rfl (.c0 (.c0 (.c0 (.c0 (.c0 (.nil)))))) (.c7 (.c3 (.c0 (.c3 (.c0 (.c0 (.c0 (.c3 (.c0 (.c0 (.c3 (.nil))))))))))))))
                 focus
                  all_goals (refine x_al 3 ?_)
                  all_goals (
                   refine x_all1 4 ?_
                   focus
                    all_goals (refine op_callA rfl rfl rfl rfl rfl ⟨_, Try.func19, by decide, rfl⟩ (.cons (.two (by first | ((conv => lhs; whnf; arg 1; whnf); done) | rfl | assumption | (simp; done)) rfl rfl (.pure rfl) (.own (by first | ((conv => lhs; whnf; arg 1; whnf); done) | rfl | assumption | (simp; done)) (own_all _ (by simp)) (own_len _ (by simp))) rfl rfl) .nil) (concat2_w s.bytes ((record c).set (1 + cut % ((record c).length - 1)).toNat (b ^^^ UInt8.ofNat change.toNat)) (by first | omega | (simp; omega))) (by rintro r H' m ⟨rfl, rfl⟩; refine ⟨rfl, ?_⟩; simp only [List.mem_singleton]; rintro o rfl; exact AObj.shut_vals (fun e he => by obtain ⟨b, _, rfl⟩ := List.mem_map.1 he; exact ⟨_, rfl⟩)) ?_)
                    all_goals (rintro r H' m ⟨rfl, rfl⟩)
                    all_goals refine x_tk 7 (opWF_build rfl) ?_
                    all_goals (refine x_b3_3 ?_)
                    all_goals (
                     refine x_all1 9 ?_
                     focus
                      all_goals (refine x_st3 ?_)
                      all_goals exact any_leaf (n := 196) [0, 1, 2, 3, 4, 5, 6, 7, 8, 10, 9] [5, 11, 16, 19, 21] (by kernel_rfl) rfl rfl rfl (.c0 (.c0 (.c0 (.c0 (.c0 (.nil)))))) (.c7 (.c3 (.c0 (.c3 (.c0 (.c0 (.c0 (.c3 (.c0 (.c0 (.c3 (.nil)))))))))))))))
               focus
                all_goals (refine x_al 3 ?_)
                all_goals (
                 refine x_all2 4 6 ?_ ?_
                 focus
                  all_goals (refine op_callA rfl rfl rfl rfl rfl ⟨_, Try.func19, by decide, rfl⟩ (.cons (.two (by first | ((conv => lhs; whnf; arg 1; whnf); done) | rfl | assumption | (simp; done)) rfl rfl (.pure rfl) (.own (by first | ((conv => lhs; whnf; arg 1; whnf); done) | rfl | assumption | (simp; done)) (own_all _ (by simp)) (own_len _ (by simp))) rfl rfl) .nil) (concat2_w s.bytes ((record c).set (1 + cut % ((record c).length - 1)).toNat (b ^^^ UInt8.ofNat change.toNat)) (by first | omega | (simp; omega))) (by rintro r H' m ⟨rfl, rfl⟩; refine ⟨rfl, ?_⟩; simp only [List.mem_singleton]; rintro o rfl; exact AObj.shut_vals (fun e he => by obtain ⟨b, _, rfl⟩ := List.mem_map.1 he; exact ⟨_, rfl⟩)) ?_)
                  all_goals (rintro r H' m ⟨rfl, rfl⟩)
                  all_goals (
                   refine x_all1 6 ?_
                   focus
                    all_goals (first | refine x_ld ?_ | refine x_ldr ?_)
                    all_goals refine x_tk 7 (opWF_build rfl) ?_
                    all_goals (refine x_b3_3 ?_)
                    all_goals (
                     refine x_all1 9 ?_
                     focus
                      all_goals (refine x_st3 ?_)
                      all_goals exact any_leaf (n := 196) [0, 1, 2, 3, 4, 5, 6, 7, 8, 10, 9] [5, 11, 16, 19, 21] (by kernel_rfl) rfl rfl rfl (.c0 (.c0 (.c0 (.c0 (.c0 (.nil)))))) (.c7 (.c3 (.c0 (.c3 (.c0 (.c0 (.c0 (.c3 (.c0 (.c0 (.c3 (.nil))))))))))))))
                 focus
                  all_goals (first | refine x_ld ?_ | refine x_ldr ?_)
                  all_goals (
                   refine x_all1 4 ?_
                   focus
                    all_goals (refine op_callA rfl rfl rfl rfl rfl ⟨_, Try.func19, by decide, rfl⟩ (.cons (.two (by first | ((conv => lhs; whnf; arg 1; whnf); done) | rfl | assumption | (simp; done)) rfl rfl (.pure rfl) (.own (by first | ((conv => lhs; whnf; arg 1; whnf); done) | rfl | assumption | (simp; done)) (own_all _ (by simp)) (own_len _ (by simp))) rfl rfl) .nil) (concat2_w s.bytes ((record c).set (1 + cut % ((record c).length - 1)).toNat (b ^^^ UInt8.ofNat change.toNat)) (by first | omega | (simp; omega))) (by rintro r H' m ⟨rfl, rfl⟩; refine ⟨rfl, ?_⟩; simp only [List.mem_singleton]; rintro o rfl; exact AObj.shut_vals (fun e he => by obtain ⟨b, _, rfl⟩ := List.mem_map.1 he; exact ⟨_, rfl⟩)) ?_)
                    all_goals (rintro r H' m ⟨rfl, rfl⟩)
                    all_goals refine x_tk 7 (opWF_build rfl) ?_
                    all_goals (refine x_b3_3 ?_)
                    all_goals (
                     refine x_all1 9 ?_
                     focus
                      all_goals (refine x_st3 ?_)
                      all_goals exact any_leaf (n := 196) [0, 1, 2, 3, 4, 5, 6, 7, 8, 10, 9] [5, 11, 16, 19, 21] (by kernel_rfl) rfl rfl rfl (.c0 (.c0 (.c0 (.c0 (.c0 (.nil)))))) (.c7 (.c3 (.c0 (.c3 (.c0 (.c0 (.c0 (.c3 (.c0 (.c0 (.c3 (.nil))))))))))))))))
             focus
              all_goals (first | refine x_ld ?_ | refine x_ldr ?_)
              all_goals (
               refine x_all2 3 8 ?_ ?_
               focus
                all_goals (refine x_bs2 true ?_)
                all_goals (
                 refine x_all2 4 8 ?_ ?_
                 focus
                  all_goals (refine op_callA rfl rfl rfl rfl rfl ⟨_, Try.func19, by decide, rfl⟩ (.cons (.two (by first | ((conv => lhs; whnf; arg 1; whnf); done) | rfl | assumption | (simp; done)) rfl rfl (.pure rfl) (.own (by first | ((conv => lhs; whnf; arg 1; whnf); done) | rfl | assumption | (simp; done)) (own_all _ (by simp)) (own_len _ (by simp))) rfl rfl) .nil) (concat2_w s.bytes ((record c).set (1 + cut % ((record c).length - 1)).toNat (b ^^^ UInt8.ofNat change.toNat)) (by first | omega | (simp; omega))) (by rintro r H' m ⟨rfl, rfl⟩; refine ⟨rfl, ?_⟩; simp only [List.mem_singleton]; rintro o rfl; exact AObj.shut_vals (fun e he => by obtain ⟨b, _, rfl⟩ := List.mem_map.1 he; exact ⟨_, rfl⟩)) ?_)
                  all_goals (rintro r H' m ⟨rfl, rfl⟩)
                  all_goals refine x_tk 7 (opWF_build rfl) ?_
                  all_goals (refine x_b3_3 ?_)
                  all_goals (
                   refine x_all1 8 ?_
                   focus
                    all_goals (refine x_al 3 ?_)
                    all_goals (
                     refine x_all1 9 ?_
                     focus
                      all_goals (refine x_st3 ?_)
                      all_goals exact any_leaf (n := 196) [0, 1, 2, 3, 4, 5, 6, 7, 8, 9, 10] [5, 11, 16, 19, 21] (by kernel_rfl) rfl rfl rfl (.c0 (.c0 (.c0 (.c0 (.c0 (.nil)))))) (.c7 (.c3 (.c0 (.c3 (.c0 (.c0 (.c0 (.c3 (.c0 (.c0 (.c3 (.nil))))))))))))))
                 focus
                  all_goals (refine x_al 3 ?_)
                  all_goals (
                   refine x_all1 4 ?_
                   focus
                    all_goals (refine op_callA rfl rfl rfl rfl rfl ⟨_, Try.func19, by decide, rfl⟩ (.cons (.two (by first | ((conv => lhs; whnf; arg 1; whnf); done) | rfl | assumption | (simp; done)) rfl rfl (.pure rfl) (.own (by first | ((conv => lhs; whnf; arg 1; whnf); done) | rfl | assumption | (simp; done)) (own_all _ (by simp)) (own_len _ (by simp))) rfl rfl) .nil) (concat2_w s.bytes ((record c).set (1 + cut % ((record c).length - 1)).toNat (b ^^^ UInt8.ofNat change.toNat)) (by first | omega | (simp; omega))) (by rintro r H' m ⟨rfl, rfl⟩; refine ⟨rfl, ?_⟩; simp only [List.mem_singleton]; rintro o rfl; exact AObj.shut_vals (fun e he => by obtain ⟨b, _, rfl⟩ := List.mem_map.1 he; exact ⟨_, rfl⟩)) ?_)
                    all_goals (rintro r H' m ⟨rfl, rfl⟩)
                    all_goals refine x_tk 7 (opWF_build rfl) ?_
                    all_goals (refine x_b3_3 ?_)
                    all_goals (
                     refine x_all1 9 ?_
                     focus
                      all_goals (refine x_st3 ?_)
                      all_goals exact any_leaf (n := 196) [0, 1, 2, 3, 4, 5, 6, 7, 8, 10, 9] [5, 11, 16, 19, 21] (by kernel_rfl) rfl rfl rfl (.c0 (.c0 (.c0 (.c0 (.c0 (.nil)))))) (.c7 (.c3 (.c0 (.c3 (.c0 (.c0 (.c0 (.c3 (.c0 (.c0 (.c3 (.nil)))))))))))))))
               focus
                all_goals (refine x_al 3 ?_)
                all_goals (
                 refine x_all1 3 ?_
                 focus
                  all_goals (refine x_bs2 true ?_)
                  all_goals (
                   refine x_all1 4 ?_
                   focus
                    all_goals (refine op_callA rfl rfl rfl rfl rfl ⟨_, Try.func19, by decide, rfl⟩ (.cons (.two (by first | ((conv => lhs; whnf; arg 1; whnf); done) | rfl | assumption | (simp; done)) rfl rfl (.pure rfl) (.own (by first | ((conv => lhs; whnf; arg 1; whnf); done) | rfl | assumption | (simp; done)) (own_all _ (by simp)) (own_len _ (by simp))) rfl rfl) .nil) (concat2_w s.bytes ((record c).set (1 + cut % ((record c).length - 1)).toNat (b ^^^ UInt8.ofNat change.toNat)) (by first | omega | (simp; omega))) (by rintro r H' m ⟨rfl, rfl⟩; refine ⟨rfl, ?_⟩; simp only [List.mem_singleton]; rintro o rfl; exact AObj.shut_vals (fun e he => by obtain ⟨b, _, rfl⟩ := List.mem_map.1 he; exact ⟨_, rfl⟩)) ?_)
                    all_goals (rintro r H' m ⟨rfl, rfl⟩)
                    all_goals refine x_tk 7 (opWF_build rfl) ?_
                    all_goals (refine x_b3_3 ?_)
                    all_goals (
                     refine x_all1 9 ?_
                     focus
                      all_goals (refine x_st3 ?_)
                      all_goals exact any_leaf (n := 196) [0, 1, 2, 3, 4, 5, 6, 7, 9, 10, 8] [5, 11, 16, 19, 21] (by kernel_rfl) rfl rfl rfl (.c0 (.c0 (.c0 (.c0 (.c0 (.nil)))))) (.c7 (.c3 (.c0 (.c3 (.c0 (.c0 (.c0 (.c3 (.c0 (.c0 (.c3 (.nil))))))))))))))))
             focus
              all_goals (refine x_al 3 ?_)
              all_goals (
               refine x_all2 3 6 ?_ ?_
               focus
                all_goals (refine x_bs2 true ?_)
                all_goals (
                 refine x_all2 4 6 ?_ ?_
                 focus
                  all_goals (refine op_callA rfl rfl rfl rfl rfl ⟨_, Try.func19, by decide, rfl⟩ (.cons (.two (by first | ((conv => lhs; whnf; arg 1; whnf); done) | rfl | assumption | (simp; done)) rfl rfl (.pure rfl) (.own (by first | ((conv => lhs; whnf; arg 1; whnf); done) | rfl | assumption | (simp; done)) (own_all _ (by simp)) (own_len _ (by simp))) rfl rfl) .nil) (concat2_w s.bytes ((record c).set (1 + cut % ((record c).length - 1)).toNat (b ^^^ UInt8.ofNat change.toNat)) (by first | omega | (simp; omega))) (by rintro r H' m ⟨rfl, rfl⟩; refine ⟨rfl, ?_⟩; simp only [List.mem_singleton]; rintro o rfl; exact AObj.shut_vals (fun e he => by obtain ⟨b, _, rfl⟩ := List.mem_map.1 he; exact ⟨_, rfl⟩)) ?_)
                  all_goals (rintro r H' m ⟨rfl, rfl⟩)
                  all_goals (
                   refine x_all1 6 ?_
                   focus
                    all_goals (first | refine x_ld ?_ | refine x_ldr ?_)
                    all_goals refine x_tk 7 (opWF_build rfl) ?_
                    all_goals (refine x_b3_3 ?_)
                    all_goals (
                     refine x_all1 9 ?_
                     focus
                      all_goals (refine x_st3 ?_)
                      all_goals exact any_leaf (n := 196) [0, 1, 2, 3, 4, 5, 6, 7, 9, 10, 8] [5, 11, 16, 19, 21] (by kernel_rfl) rfl rfl rfl (.c0 (.c0 (.c0 (.c0 (.c0 (.nil)))))) (.c7 (.c3 (.c0 (.c3 (.c0 (.c0 (.c0 (.c3 (.c0 (.c0 (.c3 (.nil))))))))))))))
                 focus
                  all_goals (first | refine x_ld ?_ | refine x_ldr ?_)
                  all_goals (
                   refine x_all1 4 ?_
                   focus
                    all_goals (refine op_callA rfl rfl rfl rfl rfl ⟨_, Try.func19, by decide, rfl⟩ (.cons (.two (by first | ((conv => lhs; whnf; arg 1; whnf); done) | rfl | assumption | (simp; done)) rfl rfl (.pure rfl) (.own (by first | ((conv => lhs; whnf; arg 1; whnf); done) | rfl | assumption | (simp; done)) (own_all _ (by simp)) (own_len _ (by simp))) rfl rfl) .nil) (concat2_w s.bytes ((record c).set (1 + cut % ((record c).length - 1)).toNat (b ^^^ UInt8.ofNat change.toNat)) (by first | omega | (simp; omega))) (by rintro r H' m ⟨rfl, rfl⟩; refine ⟨rfl, ?_⟩; simp only [List.mem_singleton]; rintro o rfl; exact AObj.shut_vals (fun e he => by obtain ⟨b, _, rfl⟩ := List.mem_map.1 he; exact ⟨_, rfl⟩)) ?_)
                    all_goals (rintro r H' m ⟨rfl, rfl⟩)
                    all_goals refine x_tk 7 (opWF_build rfl) ?_
                    all_goals (refine x_b3_3 ?_)
                    all_goals (
                     refine x_all1 9 ?_
                     focus
                      all_goals (refine x_st3 ?_)
                      all_goals exact any_leaf (n := 196) [0, 1, 2, 3, 4, 5, 6, 7, 9, 10, 8] [5, 11, 16, 19, 21] (by kernel_rfl) rfl rfl rfl (.c0 (.c0 (.c0 (.c0 (.c0 (.nil)))))) (.c7 (.c3 (.c0 (.c3 (.c0 (.c0 (.c0 (.c3 (.c0 (.c0 (.c3 (.nil)))))))))))))))
               focus
                all_goals (first | refine x_ld ?_ | refine x_ldr ?_)
                all_goals (
                 refine x_all1 3 ?_
                 focus
                  all_goals (refine x_bs2 true ?_)
                  all_goals (
                   refine x_all1 4 ?_
                   focus
                    all_goals (refine op_callA rfl rfl rfl rfl rfl ⟨_, Try.func19, by decide, rfl⟩ (.cons (.two (by first | ((conv => lhs; whnf; arg 1; whnf); done) | rfl | assumption | (simp; done)) rfl rfl (.pure rfl) (.own (by first | ((conv => lhs; whnf; arg 1; whnf); done) | rfl | assumption | (simp; done)) (own_all _ (by simp)) (own_len _ (by simp))) rfl rfl) .nil) (concat2_w s.bytes ((record c).set (1 + cut % ((record c).length - 1)).toNat (b ^^^ UInt8.ofNat change.toNat)) (by first | omega | (simp; omega))) (by rintro r H' m ⟨rfl, rfl⟩; refine ⟨rfl, ?_⟩; simp only [List.mem_singleton]; rintro o rfl; exact AObj.shut_vals (fun e he => by obtain ⟨b, _, rfl⟩ := List.mem_map.1 he; exact ⟨_, rfl⟩)) ?_)
                    all_goals (rintro r H' m ⟨rfl, rfl⟩)
                    all_goals refine x_tk 7 (opWF_build rfl) ?_
                    all_goals (refine x_b3_3 ?_)
                    all_goals (
                     refine x_all1 9 ?_
                     focus
                      all_goals (refine x_st3 ?_)
                      all_goals exact any_leaf (n := 196) [0, 1, 2, 3, 4, 5, 6, 7, 9, 10, 8] [5, 11, 16, 19, 21] (by kernel_rfl) rfl rfl rfl (.c0 (.c0 (.c0 (.c0 (.c0 (.nil)))))) (.c7 (.c3 (.c0 (.c3 (.c0 (.c0 (.c0 (.c3 (.c0 (.c0 (.c3 (.nil)))))))))))))))))
           focus
            all_goals (first | refine x_ld ?_ | refine x_ldr ?_)
            all_goals (
             refine x_all2 1 8 ?_ ?_
             focus
              all_goals (first | refine x_ld ?_ | refine x_ldr ?_)
              all_goals (
               refine x_all2 3 8 ?_ ?_
               focus
                all_goals (refine x_bs2 true ?_)
                all_goals (
                 refine x_all2 4 8 ?_ ?_
                 focus
                  all_goals (refine op_callA rfl rfl rfl rfl rfl ⟨_, Try.func19, by decide, rfl⟩ (.cons (.two (by first | ((conv => lhs; whnf; arg 1; whnf); done) | rfl | assumption | (simp; done)) rfl rfl (.pure rfl) (.own (by first | ((conv => lhs; whnf; arg 1; whnf); done) | rfl | assumption | (simp; done)) (own_all _ (by simp)) (own_len _ (by simp))) rfl rfl) .nil) (concat2_w s.bytes ((record c).set (1 + cut % ((record c).length - 1)).toNat (b ^^^ UInt8.ofNat change.toNat)) (by first | omega | (simp; omega))) (by rintro r H' m ⟨rfl, rfl⟩; refine ⟨rfl, ?_⟩; simp only [List.mem_singleton]; rintro o rfl; exact AObj.shut_vals (fun e he => by obtain ⟨b, _, rfl⟩ := List.mem_map.1 he; exact ⟨_, rfl⟩)) ?_)
                  all_goals (rintro r H' m ⟨rfl, rfl⟩)
                  all_goals refine x_tk 7 (opWF_build rfl) ?_
                  all_goals (refine x_b3_3 ?_)
                  all_goals (
                   refine x_all1 8 ?_
                   focus
                    all_goals (refine x_al 3 ?_)
                    all_goals (
                     refine x_all1 9 ?_
                     focus
                      all_goals (refine x_st3 ?_)
                      all_goals exact any_leaf (n := 196) [0, 1, 2, 3, 4, 5, 6, 7, 8, 9, 10] [5, 11, 16, 19, 21] (by kernel_rfl) rfl rfl rfl (.c0 (.c0 (.c0 (.c0 (.c0 (.nil)))))) (.c7 (.c3 (.c0 (.c3 (.c0 (.c0 (.c0 (.c3 (.c0 (.c0 (.c3 (.nil))))))))))))))
                 focus
                  all_goals (refine x_al 3 ?_)
                  all_goals (
                   refine x_all1 4 ?_
                   focus
                    all_goals (refine op_callA rfl rfl rfl rfl rfl ⟨_, Try.func19, by decide, rfl⟩ (.cons (.two (by first | ((conv => lhs; whnf; arg 1; whnf); done) | rfl | assumption | (simp; done)) rfl rfl (.pure rfl) (.own (by first | ((conv => lhs; whnf; arg 1; whnf); done) | rfl | assumption | (simp; done)) (own_all _ (by simp)) (own_len _ (by simp))) rfl rfl) .nil) (concat2_w s.bytes ((record c).set (1 + cut % ((record c).length - 1)).toNat (b ^^^ UInt8.ofNat change.toNat)) (by first | omega | (simp; omega))) (by rintro r H' m ⟨rfl, rfl⟩; refine ⟨rfl, ?_⟩; simp only [List.mem_singleton]; rintro o rfl; exact AObj.shut_vals (fun e he => by obtain ⟨b, _, rfl⟩ := List.mem_map.1 he; exact ⟨_, rfl⟩)) ?_)
                    all_goals (rintro r H' m ⟨rfl, rfl⟩)
                    all_goals refine x_tk 7 (opWF_build rfl) ?_
                    all_goals (refine x_b3_3 ?_)
                    all_goals (
                     refine x_all1 9 ?_
                     focus
                      all_goals (refine x_st3 ?_)
                      all_goals exact any_leaf (n := 196) [0, 1, 2, 3, 4, 5, 6, 7, 8, 10, 9] [5, 11, 16, 19, 21] (by kernel_rfl) rfl rfl rfl (.c0 (.c0 (.c0 (.c0 (.c0 (.nil)))))) (.c7 (.c3 (.c0 (.c3 (.c0 (.c0 (.c0 (.c3 (.c0 (.c0 (.c3 (.nil)))))))))))))))
               focus
                all_goals (refine x_al 3 ?_)
                all_goals (
                 refine x_all1 3 ?_
                 focus
                  all_goals (refine x_bs2 true ?_)
                  all_goals (
                   refine x_all1 4 ?_
                   focus
                    all_goals (refine op_callA rfl rfl rfl rfl rfl ⟨_, Try.func19, by decide, rfl⟩ (.cons (.two (by first | ((conv => lhs; whnf; arg 1; whnf); done) | rfl | assumption | (simp; done)) rfl rfl (.pure rfl) (.own (by first | ((conv => lhs; whnf; arg 1; whnf); done) | rfl | assumption | (simp; done)) (own_all _ (by simp)) (own_len _ (by simp))) rfl rfl) .nil) (concat2_w s.bytes ((record c).set (1 + cut % ((record c).length - 1)).toNat (b ^^^ UInt8.ofNat change.toNat)) (by first | omega | (simp; omega))) (by rintro r H' m ⟨rfl, rfl⟩; refine ⟨rfl, ?_⟩; simp only [List.mem_singleton]; rintro o rfl; exact AObj.shut_vals (fun e he => by obtain ⟨b, _, rfl⟩ := List.mem_map.1 he; exact ⟨_, rfl⟩)) ?_)
                    all_goals (rintro r H' m ⟨rfl, rfl⟩)
                    all_goals refine x_tk 7 (opWF_build rfl) ?_
                    all_goals (refine x_b3_3 ?_)
                    all_goals (
                     refine x_all1 9 ?_
                     focus
                      all_goals (refine x_st3 ?_)
                      all_goals exact any_leaf (n := 196) [0, 1, 2, 3, 4, 5, 6, 7, 9, 10, 8] [5, 11, 16, 19, 21] (by kernel_rfl) rfl rfl rfl (.c0 (.c0 (.c0 (.c0 (.c0 (.nil)))))) (.c7 (.c3 (.c0 (.c3 (.c0 (.c0 (.c0 (.c3 (.c0 (.c0 (.c3 (.nil))))))))))))))))
             focus
              all_goals (refine x_al 3 ?_)
              all_goals (
               refine x_all1 1 ?_
               focus
                all_goals (first | refine x_ld ?_ | refine x_ldr ?_)
                all_goals (
                 refine x_all1 3 ?_
                 focus
                  all_goals (refine x_bs2 true ?_)
                  all_goals (
                   refine x_all1 4 ?_
                   focus
                    all_goals (refine op_callA rfl rfl rfl rfl rfl ⟨_, Try.func19, by decide, rfl⟩ (.cons (.two (by first | ((conv => lhs; whnf; arg 1; whnf); done) | rfl | assumption | (simp; done)) rfl rfl (.pure rfl) (.own (by first | ((conv => lhs; whnf; arg 1; whnf); done) | rfl | assumption | (simp; done)) (own_all _ (by simp)) (own_len _ (by simp))) rfl rfl) .nil) (concat2_w s.bytes ((record c).set (1 + cut % ((record c).length - 1)).toNat (b ^^^ UInt8.ofNat change.toNat)) (by first | omega | (simp; omega))) (by rintro r H' m ⟨rfl, rfl⟩; refine ⟨rfl, ?_⟩; simp only [List.mem_singleton]; rintro o rfl; exact AObj.shut_vals (fun e he => by obtain ⟨b, _, rfl⟩ := List.mem_map.1 he; exact ⟨_, rfl⟩)) ?_)
                    all_goals (rintro r H' m ⟨rfl, rfl⟩)
                    all_goals refine x_tk 7 (opWF_build rfl) ?_
                    all_goals (refine x_b3_3 ?_)
                    all_goals (
                     refine x_all1 9 ?_
                     focus
                      all_goals (refine x_st3 ?_)
                      all_goals exact any_leaf (n := 196) [0, 1, 2, 3, 4, 5, 6, 7, 9, 10, 8] [5, 11, 16, 19, 21] (by kernel_rfl) rfl rfl rfl (.c0 (.c0 (.c0 (.c0 (.c0 (.nil)))))) (.c7 (.c3 (.c0 (.c3 (.c0 (.c0 (.c0 (.c3 (.c0 (.c0 (.c3 (.nil)))))))))))))))))
           focus
            all_goals (refine x_al 3 ?_)
            all_goals (
             refine x_all2 1 6 ?_ ?_
             focus
              all_goals (first | refine x_ld ?_ | refine x_ldr ?_)
              all_goals (
               refine x_all2 3 6 ?_ ?_
               focus
                all_goals (refine x_bs2 true ?_)
                all_goals (
                 refine x_all2 4 6 ?_ ?_
                 focus
                  all_goals (refine op_callA rfl rfl rfl rfl rfl ⟨_, Try.func19, by decide, rfl⟩ (.cons (.two (by first | ((conv => lhs; whnf; arg 1; whnf); done) | rfl | assumption | (simp; done)) rfl rfl (.pure rfl) (.own (by first | ((conv => lhs; whnf; arg 1; whnf); done) | rfl | assumption | (simp; done)) (own_all _ (by simp)) (own_len _ (by simp))) rfl rfl) .nil) (concat2_w s.bytes ((record c).set (1 + cut % ((record c).length - 1)).toNat (b ^^^ UInt8.ofNat change.toNat)) (by first | omega | (simp; omega))) (by rintro r H' m ⟨rfl, rfl⟩; refine ⟨rfl, ?_⟩; simp only [List.mem_singleton]; rintro o rfl; exact AObj.shut_vals (fun e he => by obtain ⟨b, _, rfl⟩ := List.mem_map.1 he; exact ⟨_, rfl⟩)) ?_)
                  all_goals (rintro r H' m ⟨rfl, rfl⟩)
                  all_goals (
                   refine x_all1 6 ?_
                   focus
                    all_goals (first | refine x_ld ?_ | refine x_ldr ?_)
                    all_goals refine x_tk 7 (opWF_build rfl) ?_
                    all_goals (refine x_b3_3 ?_)
                    all_goals (
                     refine x_all1 9 ?_
                     focus
                      all_goals (refine x_st3 ?_)
                      all_goals exact any_leaf (n := 196) [0, 1, 2, 3, 4, 5, 6, 7, 9, 10, 8] [5, 11, 16, 19, 21] (by kernel_rfl) rfl rfl rfl (.c0 (.c0 (.c0 (.c0 (.c0 (.nil)))))) (.c7 (.c3 (.c0 (.c3 (.c0 (.c0 (.c0 (.c3 (.c0 (.c0 (.c3 (.nil))))))))))))))
                 focus
                  all_goals (first | refine x_ld ?_ | refine x_ldr ?_)
                  all_goals (
                   refine x_all1 4 ?_
                   focus
                    all_goals (refine op_callA rfl rfl rfl rfl rfl ⟨_, Try.func19, by decide, rfl⟩ (.cons (.two (by first | ((conv => lhs; whnf; arg 1; whnf); done) | rfl | assumption | (simp; done)) rfl rfl (.pure rfl) (.own (by first | ((conv => lhs; whnf; arg 1; whnf); done) | rfl | assumption | (simp; done)) (own_all _ (by simp)) (own_len _ (by simp))) rfl rfl) .nil) (concat2_w s.bytes ((record c).set (1 + cut % ((record c).length - 1)).toNat (b ^^^ UInt8.ofNat change.toNat)) (by first | omega | (simp; omega))) (by rintro r H' m ⟨rfl, rfl⟩; refine ⟨rfl, ?_⟩; simp only [List.mem_singleton]; rintro o rfl; exact AObj.shut_vals (fun e he => by obtain ⟨b, _, rfl⟩ := List.mem_map.1 he; exact ⟨_, rfl⟩)) ?_)
                    all_goals (rintro r H' m ⟨rfl, rfl⟩)
                    all_goals refine x_tk 7 (opWF_build rfl) ?_
                    all_goals (refine x_b3_3 ?_)
                    all_goals (
                     refine x_all1 9 ?_
                     focus
                      all_goals (refine x_st3 ?_)
                      all_goals exact any_leaf (n := 196) [0, 1, 2, 3, 4, 5, 6, 7, 9, 10, 8] [5, 11, 16, 19, 21] (by kernel_rfl) rfl rfl rfl (.c0 (.c0 (.c0 (.c0 (.c0 (.nil)))))) (.c7 (.c3 (.c0 (.c3 (.c0 (.c0 (.c0 (.c3 (.c0 (.c0 (.c3 (.nil)))))))))))))))
               focus
                all_goals (first | refine x_ld ?_ | refine x_ldr ?_)
                all_goals (
                 refine x_all1 3 ?_
                 focus
                  all_goals (refine x_bs2 true ?_)
                  all_goals (
                   refine x_all1 4 ?_
                   focus
                    all_goals (refine op_callA rfl rfl rfl rfl rfl ⟨_, Try.func19, by decide, rfl⟩ (.cons (.two (by first | ((conv => lhs; whnf; arg 1; whnf); done) | rfl | assumption | (simp; done)) rfl rfl (.pure rfl) (.own (by first | ((conv => lhs; whnf; arg 1; whnf); done) | rfl | assumption | (simp; done)) (own_all _ (by simp)) (own_len _ (by simp))) rfl rfl) .nil) (concat2_w s.bytes ((record c).set (1 + cut % ((record c).length - 1)).toNat (b ^^^ UInt8.ofNat change.toNat)) (by first | omega | (simp; omega))) (by rintro r H' m ⟨rfl, rfl⟩; refine ⟨rfl, ?_⟩; simp only [List.mem_singleton]; rintro o rfl; exact AObj.shut_vals (fun e he => by obtain ⟨b, _, rfl⟩ := List.mem_map.1 he; exact ⟨_, rfl⟩)) ?_)
                    all_goals (rintro r H' m ⟨rfl, rfl⟩)
                    all_goals refine x_tk 7 (opWF_build rfl) ?_
                    all_goals (refine x_b3_3 ?_)
                    all_goals (
                     refine x_all1 9 ?_
                     focus
                      all_goals (refine x_st3 ?_)
                      all_goals exact any_leaf (n := 196) [0, 1, 2, 3, 4, 5, 6, 7, 9, 10, 8] [5, 11, 16, 19, 21] (by kernel_rfl) rfl rfl rfl (.c0 (.c0 (.c0 (.c0 (.c0 (.nil)))))) (.c7 (.c3 (.c0 (.c3 (.c0 (.c0 (.c0 (.c3 (.c0 (.c0 (.c3 (.nil))))))))))))))))
             focus
              all_goals (first | refine x_ld ?_ | refine x_ldr ?_)
              all_goals (
               refine x_all1 1 ?_
               focus
                all_goals (first | refine x_ld ?_ | refine x_ldr ?_)
                all_goals (
                 refine x_all1 3 ?_
                 focus
                  all_goals (refine x_bs2 true ?_)
                  all_goals (
                   refine x_all1 4 ?_
                   focus
                    all_goals (refine op_callA rfl rfl rfl rfl rfl ⟨_, Try.func19, by decide, rfl⟩ (.cons (.two (by first | ((conv => lhs; whnf; arg 1; whnf); done) | rfl | assumption | (simp; done)) rfl rfl (.pure rfl) (.own (by first | ((conv => lhs; whnf; arg 1; whnf); done) | rfl | assumption | (simp; done)) (own_all _ (by simp)) (own_len _ (by simp))) rfl rfl) .nil) (concat2_w s.bytes ((record c).set (1 + cut % ((record c).length - 1)).toNat (b ^^^ UInt8.ofNat change.toNat)) (by first | omega | (simp; omega))) (by rintro r H' m ⟨rfl, rfl⟩; refine ⟨rfl, ?_⟩; simp only [List.mem_singleton]; rintro o rfl; exact AObj.shut_vals (fun e he => by obtain ⟨b, _, rfl⟩ := List.mem_map.1 he; exact ⟨_, rfl⟩)) ?_)
                    all_goals (rintro r H' m ⟨rfl, rfl⟩)
                    all_goals refine x_tk 7 (opWF_build rfl) ?_
                    all_goals (refine x_b3_3 ?_)
                    all_goals (
                     refine x_all1 9 ?_
                     focus
                      all_goals (refine x_st3 ?_)
                      all_goals exact any_leaf (n := 196) [0, 1, 2, 3, 4, 5, 6, 7, 9, 10, 8] [5, 11, 16, 19, 21] (by kernel_rfl) rfl rfl rfl (.c0 (.c0 (.c0 (.c0 (.c0 (.nil)))))) (.c7 (.c3 (.c0 (.c3 (.c0 (.c0 (.c0 (.c3 (.c0 (.c0 (.c3 (.nil)))))))))))))))))))
        all_goals refine seqQ_n ?_
        all_goals refine tri_seq ?_
        all_goals refine tri_seq ?_
        all_goals refine tri_region ?_
        all_goals (refine ops_le (lit_snapO 10 (by first | ((conv => lhs; whnf; arg 1; whnf); done) | rfl | assumption | (simp; done)) (by conv => lhs; whnf; congr; { whnf }; { whnf; congr; { whnf }; { whnf; congr; { whnf }; { whnf } } }) (by exact .cons (.own (by first | ((conv => lhs; whnf; arg 1; whnf); done) | rfl | assumption | (simp; done)) (own_all _ (by simp)) (own_len _ (by simp))) (.cons (.pure rfl) (.cons (.pure rfl) .nil))) (by rfl) (by rfl) (by rfl)) ?_)
        all_goals (rw [show AV.agg [AV.sl 1 (bytesAV (s.bytes ++ (record c).set (1 + cut % ((record c).length - 1)).toNat (b ^^^ UInt8.ofNat change.toNat))), AV.val (Value.int .i64 s.durable), AV.val (Value.int .i64 (-1))] = stoAV bad by rw [hbad]; rfl])
        all_goals refine oc ?_
        all_goals (first | refine x_lda ?_ | refine x_ldra ?_ | refine x_ldp ?_ | refine x_ldrp ?_)
        all_goals refine oc ?_
        all_goals (refine op_callB rfl rfl rfl rfl rfl ⟨_, Try.func13, by decide, rfl⟩ (.cons (.pure rfl) .nil) (read_w bad (by have := hIb.sizes; omega)) ?_)
        all_goals (rintro _ H' m ⟨rfl, rfl⟩)
        all_goals (rw [hIb.read])
        all_goals refine oc (x_move ?_)
        all_goals refine oc (x_ext ?_)
        all_goals refine oc (x_ext ?_)
        all_goals refine oc (x_assign ?_)
        all_goals refine oc (x_assign ?_)
        all_goals refine ops_nil ?_
        all_goals refine seqQ_n ?_
        all_goals refine tri_seq ?_
        all_goals refine tri_le (le_norm (n := 196) [0, 1, 2, 3, 4, 5, 6, 7, 8, 9, 10] [5, 11, 16, 19, 21, 22, 23] (by kernel_rfl) (by rfl) rfl (.c0 (.c0 (.c0 (.c0 (.c0 (.c0 (.c0 (.nil)))))))) (.c7 (.c3 (.c0 (.c3 (.c0 (.c0 (.c0 (.c3 (.c0 (.c0 (.c3 (.nil))))))))))))) ?_
        all_goals refine tri_region ?_
        all_goals refine oc (x_move ?_)
        all_goals refine oc (x_neq ?_)
        all_goals refine oc (x_move ?_)
        all_goals (first | refine gU ?_ | refine gY ?_ | refine gN ?_ | refine ops_guardFd rfl rfl rfl rfl rfl rfl (fun hg => ?_) (fun hg => ?_) | refine gF (fun hg => ?_) (fun hg => ?_))
        all_goals try (exfalso; omega)
        all_goals (first | refine ops_here ?_ | (refine x_move ?_))
        all_goals (first | refine gU ?_ | refine gY ?_ | refine gN ?_ | refine ops_guardFd rfl rfl rfl rfl rfl rfl (fun hg => ?_) (fun hg => ?_) | refine gF (fun hg => ?_) (fun hg => ?_))
        all_goals try (exfalso; omega)
        all_goals (first | refine ops_here ?_ | (refine x_move ?_))
        all_goals (first | refine gU ?_ | refine gY ?_ | refine gN ?_ | refine ops_guardFd rfl rfl rfl rfl rfl rfl (fun hg => ?_) (fun hg => ?_) | refine gF (fun hg => ?_) (fun hg => ?_))
        all_goals try (exfalso; omega)
        all_goals (first | refine ops_here ?_ | (refine op_callA rfl rfl rfl rfl rfl ⟨_, Try.func14, by decide, rfl⟩ (.cons (.pure rfl) (.cons (.own (by first | ((conv => lhs; whnf; arg 1; whnf); done) | rfl | assumption | (simp; done)) (by conv => lhs; simp only [List.drop_zero, take_cmds]) (by simp)) (.cons SnapR.fn0 .nil))) (eqC_w done done (by omega) (by omega) hfd2 hfd2) shut0 ?_))
        all_goals (first | refine ops_here ?_ | (rintro _ H' m ⟨rfl, rfl⟩))
        all_goals (first | refine ops_here ?_ | (rw [sameL_self]))
        all_goals (first | refine gU ?_ | refine gY ?_ | refine gN ?_ | refine ops_guardFd rfl rfl rfl rfl rfl rfl (fun hg => ?_) (fun hg => ?_) | refine gF (fun hg => ?_) (fun hg => ?_))
        all_goals try (exfalso; omega)
        all_goals (first | refine ops_here ?_ | (first | refine op_not_d rfl rfl rfl ?_ | refine x_not ?_))
        all_goals refine oc ?_
        all_goals (first | refine x_pt ?_ | refine x_pf ?_ | refine x_pb ?_)
        all_goals refine ops_nil ?_
        all_goals refine seqQ_n ?_
        all_goals (
         first | refine tri_cond_d rfl rfl (fun hc => ?_) (fun hc => ?_) | refine ct (fun hc => ?_) (fun hc => ?_) | refine cf (fun hc => ?_) (fun hc => ?_) | refine cb (fun hc => ?_) (fun hc => ?_)
         focus
          try (exfalso; first | exact hc | omega)
          all_goals refine tri_seq ?_
          all_goals refine tri_le (le_norm (n := 196) [0, 1, 2, 3, 4, 5, 6, 7, 8, 9, 10] [] (by kernel_rfl) (by rfl) rfl (.nil) (.c7 (.c3 (.c0 (.c3 (.c0 (.c0 (.c0 (.c3 (.c0 (.c0 (.c3 (.nil))))))))))))) ?_
          all_goals refine tri_region ?_
          all_goals refine oc (x_assign ?_)
          all_goals refine ops_nil ?_
          all_goals refine seqQ_n ?_
          all_goals refine tri_ret ?_
          all_goals refine seqQ_r ?_
          all_goals refine seqQ_r ?_
          all_goals refine retE_r [] (.cons (.tmp (by conv => lhs; whnf) rfl) .nil) rfl rfl (by first | exact (ren_pure (by rfl)).trans (by conv => lhs; whnf) | ((conv => lhs; whnf); done) | rfl) (.nil) ?_
          all_goals (
           refine ⟨?_, rfl⟩
           first
           | rfl
           | (rw [hzb, hfb, beq_self_eq_true]; done)
           | (exfalso; omega)
           | (exfalso; rw [sameL_self] at hg; cases hg; done)
           | (exfalso; rw [sameL_self] at hc; cases hc; done)
           | (exfalso; simp_all; done))
         rotate_right 1
         focus
          try (exfalso; first | exact hc | omega)
          all_goals refine tri_skip ?_)
        all_goals refine seqQ_n ?_
        all_goals refine tri_seq ?_
        all_goals refine tri_le (le_norm (n := 196) [0, 1, 2, 3, 4, 5, 6, 7, 8, 9, 10] [5, 11, 16, 19, 21] (by kernel_rfl) (by rfl) rfl (.c0 (.c0 (.c0 (.c0 (.c0 (.nil)))))) (.c7 (.c3 (.c0 (.c3 (.c0 (.c0 (.c0 (.c3 (.c0 (.c0 (.c3 (.nil))))))))))))) ?_
        all_goals refine tri_region ?_
        all_goals refine oc ?_
        all_goals (first | refine x_lda ?_ | refine x_ldra ?_ | refine x_ldp ?_ | refine x_ldrp ?_)
        all_goals refine oc ?_
        all_goals (first | refine x_lda ?_ | refine x_ldra ?_ | refine x_ldp ?_ | refine x_ldrp ?_)
        all_goals refine oc ?_
        all_goals (refine op_callB rfl rfl rfl rfl rfl ⟨_, Try.func10, by decide, rfl⟩ (.cons (.pure rfl) (.cons (.pure rfl) .nil)) (write_w bad c (by have := hIb.sizes; omega) hw1 hw2 hw3 hw4 hw5) ?_)
        all_goals (rintro _ H' m ⟨rfl, rfl⟩)
        all_goals (
         obtain ⟨z, hz, hzb⟩ := hI.again hIb hf
         rw [hz])
        all_goals refine oc (x_move ?_)
        all_goals refine oc (x_ext ?_)
        all_goals refine oc (x_ext ?_)
        all_goals refine oc (x_al 3 ?_)
        all_goals refine oc (x_st3 ?_)
        all_goals refine oc (x_assign ?_)
        all_goals refine ops_nil ?_
        all_goals refine seqQ_n ?_
        all_goals refine tri_seq ?_
        all_goals refine tri_le (le_norm (n := 196) [0, 1, 2, 3, 4, 5, 6, 7, 8, 9, 10, 11] [5, 11, 16, 19, 24, 25] (by kernel_rfl) (by rfl) rfl (.c0 (.c0 (.c0 (.c0 (.c0 (.c0 (.nil))))))) (.c7 (.c3 (.c0 (.c3 (.c0 (.c0 (.c0 (.c3 (.c0 (.c0 (.c3 (.c3 (.nil)))))))))))))) ?_
        all_goals refine tri_region ?_
        all_goals refine oc (x_move ?_)
        all_goals refine oc (x_neq ?_)
        all_goals refine oc (x_move ?_)
        all_goals (first | refine gU ?_ | refine gY ?_ | refine gN ?_ | refine ops_guardFd rfl rfl rfl rfl rfl rfl (fun hg => ?_) (fun hg => ?_) | refine gF (fun hg => ?_) (fun hg => ?_))
        all_goals try (exfalso; omega)
        all_goals (first | refine ops_here ?_ | (first | refine x_fa0 ?_ | refine x_far0 ?_ | refine x_fa ?_ | refine x_far ?_))
        all_goals (first | refine gU ?_ | refine gY ?_ | refine gN ?_ | refine ops_guardFd rfl rfl rfl rfl rfl rfl (fun hg => ?_) (fun hg => ?_) | refine gF (fun hg => ?_) (fun hg => ?_))
        all_goals try (exfalso; omega)
        all_goals (first | refine ops_here ?_ | (first | refine x_ld ?_ | refine x_ldr ?_))
        all_goals (first | refine gU ?_ | refine gY ?_ | refine gN ?_ | refine ops_guardFd rfl rfl rfl rfl rfl rfl (fun hg => ?_) (fun hg => ?_) | refine gF (fun hg => ?_) (fun hg => ?_))
        all_goals try (exfalso; omega)
        all_goals (first | refine ops_here ?_ | (first | refine x_fa0 ?_ | refine x_far0 ?_ | refine x_fa ?_ | refine x_far ?_))
        all_goals (first | refine gU ?_ | refine gY ?_ | refine gN ?_ | refine ops_guardFd rfl rfl rfl rfl rfl rfl (fun hg => ?_) (fun hg => ?_) | refine gF (fun hg => ?_) (fun hg => ?_))
        all_goals try (exfalso; omega)
        all_goals (first | refine ops_here ?_ | (first | refine x_ld ?_ | refine x_ldr ?_))
        all_goals (first | refine gU ?_ | refine gY ?_ | refine gN ?_ | refine ops_guardFd rfl rfl rfl rfl rfl rfl (fun hg => ?_) (fun hg => ?_) | refine gF (fun hg => ?_) (fun hg => ?_))
        all_goals try (exfalso; omega)
        all_goals (first | refine ops_here ?_ | (refine op_callA rfl rfl rfl rfl rfl ⟨_, Try.func20, by decide, rfl⟩ (.cons (.pure rfl) (.cons (.pure rfl) .nil)) (bytesEq_w z.bytes full.bytes) shut0 ?_))
        all_goals (first | refine ops_here ?_ | (rintro _ H' m ⟨rfl, rfl⟩))
        all_goals (first | refine ops_here ?_ | (rw [hzb, hfb, beq_self_eq_true]))
        all_goals (first | refine gU ?_ | refine gY ?_ | refine gN ?_ | refine ops_guardFd rfl rfl rfl rfl rfl rfl (fun hg => ?_) (fun hg => ?_) | refine gF (fun hg => ?_) (fun hg => ?_))
        all_goals try (exfalso; omega)
        all_goals (first | refine ops_here ?_ | (first | refine op_not_d rfl rfl rfl ?_ | refine x_not ?_))
        all_goals refine oc ?_
        all_goals (first | refine x_pt ?_ | refine x_pf ?_ | refine x_pb ?_)
        all_goals refine ops_nil ?_
        all_goals refine seqQ_n ?_
        all_goals (
         first | refine tri_cond_d rfl rfl (fun hc => ?_) (fun hc => ?_) | refine ct (fun hc => ?_) (fun hc => ?_) | refine cf (fun hc => ?_) (fun hc => ?_) | refine cb (fun hc => ?_) (fun hc => ?_)
         focus
          try (exfalso; first | exact hc | omega)
          all_goals refine tri_seq ?_
          all_goals refine tri_le (le_norm (n := 196) [0, 1, 2, 3, 4, 5, 6, 7, 8, 9, 10, 11] [] (by kernel_rfl) (by rfl) rfl (.nil) (.c7 (.c3 (.c0 (.c3 (.c0 (.c0 (.c0 (.c3 (.c0 (.c0 (.c3 (.c3 (.nil)))))))))))))) ?_
          all_goals refine tri_region ?_
          all_goals refine oc (x_assign ?_)
          all_goals refine ops_nil ?_
          all_goals refine seqQ_n ?_
          all_goals refine tri_ret ?_
          all_goals refine seqQ_r ?_
          all_goals refine retE_r [] (.cons (.tmp (by conv => lhs; whnf) rfl) .nil) rfl rfl (by first | exact (ren_pure (by rfl)).trans (by conv => lhs; whnf) | ((conv => lhs; whnf); done) | rfl) (.nil) ?_
          all_goals (
           refine ⟨?_, rfl⟩
           first
           | rfl
           | (rw [hzb, hfb, beq_self_eq_true]; done)
           | (exfalso; omega)
           | (exfalso; rw [sameL_self] at hg; cases hg; done)
           | (exfalso; rw [sameL_self] at hc; cases hc; done)
           | (exfalso; simp_all; done))
         rotate_right 1
         focus
          try (exfalso; first | exact hc | omega)
          all_goals refine tri_skip ?_)
       rotate_right 1
       focus
        try (exfalso; first | exact hc | omega)
        all_goals refine tri_skip ?_)
      all_goals refine seqQ_n ?_
      all_goals (exact ⟨(), le_kept [0, 2, 3, 7] rfl rfl (fun _ _ h => by cases h) rfl ⟨by first | rfl | (simp; done) | (simp; omega) | (congr 2; omega), by first | rfl | (simp; done) | (simp; omega) | (congr 2; omega), by first | rfl | (simp; done) | (simp; omega) | (congr 2; omega), by first | rfl | (simp; done) | (simp; omega) | (congr 2; omega), trivial⟩ ⟨by first | rfl | (simp; done) | (simp; omega) | (congr 2; omega), by first | rfl | (simp; done) | (simp; omega) | (congr 2; omega), by first | rfl | (simp; done) | (simp; omega) | (congr 2; omega), by first | rfl | (simp; done) | (simp; omega) | (congr 2; omega), trivial⟩⟩)
     focus
      all_goals refine tri_seq ?_
      all_goals refine tri_region ?_
      all_goals refine oc ?_
      all_goals (first | refine x_lda ?_ | refine x_ldra ?_ | refine x_ldp ?_ | refine x_ldrp ?_)
      all_goals refine oc ?_
      all_goals (refine op_callB rfl rfl rfl rfl rfl ⟨_, Try.func13, by decide, rfl⟩ (.cons (.pure rfl) .nil) (read_w torn (by have := hIt.sizes; omega)) ?_)
      all_goals (rintro _ H' m ⟨rfl, rfl⟩)
      all_goals (rw [hIt.read])
      all_goals refine oc (x_move ?_)
      all_goals refine oc (x_ext ?_)
      all_goals refine oc (x_ext ?_)
      all_goals refine oc (x_assign ?_)
      all_goals refine oc (x_assign ?_)
      all_goals refine ops_nil ?_
      all_goals refine seqQ_n ?_
      all_goals refine tri_seq ?_
      all_goals refine tri_le (le_norm (n := 196) [0, 1, 2, 3] [5, 11, 16, 19, 26, 27] (by kernel_rfl) (by rfl) rfl (.c0 (.c0 (.c0 (.c0 (.c0 (.c0 (.nil))))))) (.c7 (.c0 (.c3 (.c3 (.nil)))))) ?_
      all_goals refine tri_region ?_
      all_goals refine oc ?_
      all_goals (first | refine x_lda ?_ | refine x_ldra ?_ | refine x_ldp ?_ | refine x_ldrp ?_)
      all_goals refine oc ?_
      all_goals (first | refine x_lda ?_ | refine x_ldra ?_ | refine x_ldp ?_ | refine x_ldrp ?_)
      all_goals refine oc ?_
      all_goals (refine op_callB rfl rfl rfl rfl rfl ⟨_, Try.func10, by decide, rfl⟩ (.cons (.pure rfl) (.cons (.pure rfl) .nil)) (write_w torn c (by have := hIt.sizes; omega) hw1 hw2 hw3 hw4 hw5) ?_)
      all_goals (rintro _ H' m ⟨rfl, rfl⟩)
      all_goals (
       obtain ⟨z, hz, hzb⟩ := hI.again hIt hf
       rw [hz])
      all_goals refine oc (x_move ?_)
      all_goals refine oc (x_ext ?_)
      all_goals refine oc (x_ext ?_)
      all_goals refine oc (x_al 3 ?_)
      all_goals refine oc (x_st3 ?_)
      all_goals refine oc (x_assign ?_)
      all_goals refine ops_nil ?_
      all_goals refine seqQ_n ?_
      all_goals refine tri_seq ?_
      all_goals refine tri_le (le_norm (n := 196) [0, 1, 2, 3, 4] [11, 16, 26, 27, 28, 29] (by kernel_rfl) (by rfl) rfl (.c0 (.c0 (.c0 (.c0 (.c0 (.c0 (.nil))))))) (.c7 (.c0 (.c3 (.c3 (.c3 (.nil))))))) ?_
      all_goals refine tri_region ?_
      all_goals refine oc (x_move ?_)
      all_goals refine oc (x_eql ?_)
      all_goals refine oc (x_move ?_)
      all_goals (first | refine gU ?_ | refine gY ?_ | refine gN ?_ | refine ops_guardTd rfl rfl rfl rfl rfl rfl (fun hg => ?_) (fun hg => ?_) | refine gT (fun hg => ?_) (fun hg => ?_))
      all_goals try (exfalso; omega)
      all_goals (first | refine ops_here ?_ | (refine x_move ?_))
      all_goals (first | refine gU ?_ | refine gY ?_ | refine gN ?_ | refine ops_guardTd rfl rfl rfl rfl rfl rfl (fun hg => ?_) (fun hg => ?_) | refine gT (fun hg => ?_) (fun hg => ?_))
      all_goals try (exfalso; omega)
      all_goals (first | refine ops_here ?_ | (refine x_move ?_))
      all_goals (first | refine gU ?_ | refine gY ?_ | refine gN ?_ | refine ops_guardTd rfl rfl rfl rfl rfl rfl (fun hg => ?_) (fun hg => ?_) | refine gT (fun hg => ?_) (fun hg => ?_))
      all_goals try (exfalso; omega)
      all_goals (first | refine ops_here ?_ | (refine op_callA rfl rfl rfl rfl rfl ⟨_, Try.func14, by decide, rfl⟩ (.cons (.pure rfl) (.cons (.own (by first | ((conv => lhs; whnf; arg 1; whnf); done) | rfl | assumption | (simp; done)) (by conv => lhs; simp only [List.drop_zero, take_cmds]) (by simp)) (.cons SnapR.fn0 .nil))) (eqC_w done done (by omega) (by omega) hfd2 hfd2) shut0 ?_))
      all_goals (first | refine ops_here ?_ | (rintro _ H' m ⟨rfl, rfl⟩))
      all_goals (first | refine ops_here ?_ | (rw [sameL_self]))
      all_goals refine oc ?_
      all_goals (first | refine x_pt ?_ | refine x_pf ?_ | refine x_pb ?_)
      all_goals refine oc (x_move ?_)
      all_goals (first | refine gU ?_ | refine gY ?_ | refine gN ?_ | refine ops_guardTd rfl rfl rfl rfl rfl rfl (fun hg => ?_) (fun hg => ?_) | refine gT (fun hg => ?_) (fun hg => ?_))
      all_goals try (exfalso; omega)
      all_goals (first | refine ops_here ?_ | (refine x_move ?_))
      all_goals (first | refine gU ?_ | refine gY ?_ | refine gN ?_ | refine ops_guardTd rfl rfl rfl rfl rfl rfl (fun hg => ?_) (fun hg => ?_) | refine gT (fun hg => ?_) (fun hg => ?_))
      all_goals try (exfalso; omega)
      all_goals (first | refine ops_here ?_ | (refine x_eql ?_))
      all_goals refine oc ?_
      all_goals (first | refine x_pt ?_ | refine x_pf ?_ | refine x_pb ?_)
      all_goals refine oc (x_move ?_)
      all_goals (first | refine gU ?_ | refine gY ?_ | refine gN ?_ | refine ops_guardTd rfl rfl rfl rfl rfl rfl (fun hg => ?_) (fun hg => ?_) | refine gT (fun hg => ?_) (fun hg => ?_))
      all_goals try (exfalso; omega)
      all_goals (first | refine ops_here ?_ | (first | refine x_fa0 ?_ | refine x_far0 ?_ | refine x_fa ?_ | refine x_far ?_))
      all_goals (first | refine gU ?_ | refine gY ?_ | refine gN ?_ | refine ops_guardTd rfl rfl rfl rfl rfl rfl (fun hg => ?_) (fun hg => ?_) | refine gT (fun hg => ?_) (fun hg => ?_))
      all_goals try (exfalso; omega)
      all_goals (first | refine ops_here ?_ | (first | refine x_ld ?_ | refine x_ldr ?_))
      all_goals (first | refine gU ?_ | refine gY ?_ | refine gN ?_ | refine ops_guardTd rfl rfl rfl rfl rfl rfl (fun hg => ?_) (fun hg => ?_) | refine gT (fun hg => ?_) (fun hg => ?_))
      all_goals try (exfalso; omega)
      all_goals (first | refine ops_here ?_ | (first | refine x_fa0 ?_ | refine x_far0 ?_ | refine x_fa ?_ | refine x_far ?_))
      all_goals (first | refine gU ?_ | refine gY ?_ | refine gN ?_ | refine ops_guardTd rfl rfl rfl rfl rfl rfl (fun hg => ?_) (fun hg => ?_) | refine gT (fun hg => ?_) (fun hg => ?_))
      all_goals try (exfalso; omega)
      all_goals (first | refine ops_here ?_ | (first | refine x_ld ?_ | refine x_ldr ?_))
      all_goals (first | refine gU ?_ | refine gY ?_ | refine gN ?_ | refine ops_guardTd rfl rfl rfl rfl rfl rfl (fun hg => ?_) (fun hg => ?_) | refine gT (fun hg => ?_) (fun hg => ?_))
      all_goals try (exfalso; omega)
      all_goals (first | refine ops_here ?_ | (refine op_callA rfl rfl rfl rfl rfl ⟨_, Try.func20, by decide, rfl⟩ (.cons (.pure rfl) (.cons (.pure rfl) .nil)) (bytesEq_w z.bytes full.bytes) shut0 ?_))
      all_goals (first | refine ops_here ?_ | (rintro _ H' m ⟨rfl, rfl⟩))
      all_goals (first | refine ops_here ?_ | (rw [hzb, hfb, beq_self_eq_true]))
      all_goals refine oc ?_
      all_goals (first | refine x_pt ?_ | refine x_pf ?_ | refine x_pb ?_)
      all_goals refine oc (x_assign ?_)
      all_goals refine ops_nil ?_
      all_goals refine seqQ_n ?_
      all_goals refine tri_ret ?_
      all_goals refine retE_r [] (.cons (.tmp (by conv => lhs; whnf) rfl) .nil) rfl rfl (by first | exact (ren_pure (by rfl)).trans (by conv => lhs; whnf) | ((conv => lhs; whnf); done) | rfl) (.nil) ?_
      all_goals (
       refine ⟨?_, rfl⟩
       first
       | rfl
       | (rw [hzb, hfb, beq_self_eq_true]; done)
       | (exfalso; omega)
       | (exfalso; rw [sameL_self] at hg; cases hg; done)
       | (exfalso; rw [sameL_self] at hc; cases hc; done)
       | (exfalso; simp_all; done))))
  all_goals refine seqQ_n ?_
  all_goals refine tri_seq ?_
  all_goals refine tri_block ?_
  all_goals refine tri_seq ?_
  all_goals refine tri_region ?_
  all_goals (
   clear hw1 hw2 hw3 hw4 hw5
   obtain ⟨x, hcc⟩ : ∃ c, l[k]? = some c := ⟨l[k]'(by omega), by simp⟩
   have he : (l.map cmdAV)[k]? = some (cmdAV x) := by simp [hcc]
   obtain ⟨hw1, hw2, hw3, hw4, hw5⟩ := wr4 (hpl x (List.mem_of_getElem? hcc)))
  all_goals refine oc ?_
  all_goals (first | refine x_ia ?_ | refine x_iao0 ?_ | refine x_iao ?_)
  all_goals refine oc ?_
  all_goals (first | refine x_lda ?_ | refine x_ldra ?_ | refine x_ldp ?_ | refine x_ldrp ?_)
  all_goals refine oc (x_al 7 ?_)
  all_goals refine oc (x_st7 ?_)
  all_goals refine ops_nil ?_
  all_goals refine seqQ_n ?_
  all_goals refine tri_seq ?_
  all_goals refine tri_region ?_
  all_goals refine oc ?_
  all_goals (first | refine x_lda ?_ | refine x_ldra ?_ | refine x_ldp ?_ | refine x_ldrp ?_)
  all_goals refine oc ?_
  all_goals (first | refine x_lda ?_ | refine x_ldra ?_ | refine x_ldp ?_ | refine x_ldrp ?_)
  all_goals refine oc ?_
  all_goals (refine op_callB rfl rfl rfl rfl rfl ⟨_, Try.func10, by decide, rfl⟩ (.cons (.pure rfl) (.cons (.pure rfl) .nil)) (write_w s x (by omega) hw1 hw2 hw3 hw4 hw5) ?_)
  all_goals (rintro _ H' m ⟨rfl, rfl⟩)
  all_goals (rcases hI.cases (by omega) x with ⟨hf, hw⟩ | ⟨hf, s2, hw, hI2, _⟩ <;> rw [hw])
  all_goals refine oc (x_move ?_)
  all_goals refine oc (x_ext ?_)
  all_goals refine oc (x_ext ?_)
  all_goals refine oc (x_al 3 ?_)
  all_goals refine oc (x_st3 ?_)
  all_goals refine oc (x_assign ?_)
  all_goals refine ops_nil ?_
  all_goals refine seqQ_n ?_
  all_goals refine tri_seq ?_
  all_goals refine tri_le (le_norm (n := 196) [0, 1, 2, 3, 4] [2, 3, 5, 9, 11, 13, 14, 15, 51, 52, 53] (by kernel_rfl) (by rfl) rfl (.c0 (.c0 (.c0 (.c0 (.c0 (.c0 (.c0 (.c0 (.c0 (.c0 (.c0 (.nil)))))))))))) (.c7 (.c3 (.c0 (.c7 (.c3 (.nil))))))) ?_
  all_goals refine tri_region ?_
  all_goals refine oc (x_move ?_)
  all_goals refine oc (x_eql ?_)
  all_goals refine ops_nil ?_
  all_goals refine seqQ_n ?_
  all_goals (
   first | refine tri_cond_d rfl rfl (fun hc => ?_) (fun hc => ?_) | refine ct (fun hc => ?_) (fun hc => ?_) | refine cf (fun hc => ?_) (fun hc => ?_) | refine cb (fun hc => ?_) (fun hc => ?_)
   focus
    try (exfalso; first | exact hc | omega)
    all_goals (
     apply tri_anyCut (by rfl)
     focus
      all_goals refine x_tk 1 (opWF_move) ?_
      all_goals (refine x_move ?_)
      all_goals (
       refine x_all2 0 2 ?_ ?_
       focus
        all_goals (first | refine x_lda ?_ | refine x_ldra ?_ | refine x_ldp ?_ | refine x_ldrp ?_)
        all_goals (
         refine x_all1 2 ?_
         focus
          all_goals (first | refine x_lda ?_ | refine x_ldra ?_ | refine x_ldp ?_ | refine x_ldrp ?_)
          all_goals (
           refine x_all1 3 ?_
           focus
            all_goals (refine lit_one (sz := 7) false (by rfl) (by rfl) (by rfl) (by rfl) (by conv => lhs; whnf) (by rfl) (by rfl) (by rfl) (by first | exact (rfl : _ = 0) | exact (rfl : _ = 1) | exact (rfl : _ = 2) | exact (rfl : _ = 3) | exact (rfl : _ = 4) | exact (rfl : _ = 5) | exact (rfl : _ = 6) | exact (rfl : _ = 7) | exact (rfl : _ = 8) | exact (rfl : _ = 9) | exact (rfl : _ = 10) | exact (rfl : _ = 11)) (by rfl) (by conv => lhs; whnf) (by rfl)  (by rfl) (by first | exact .inl rfl | exact .inr rfl) (by rfl) (by rfl) ?_)
            all_goals (
             refine x_all1 4 ?_
             focus
              all_goals (first | refine op_append rfl (by conv => lhs; whnf) rfl rfl rfl (Elem.mk (sz := 7) (by rfl) (by rfl) (by rfl) (by rfl) (by conv => lhs; whnf) (by rfl) (by rfl) (by rfl)) rfl (by first | omega | simp) (by first | exact Src.sl | exact Src.own rfl (by conv => lhs; first | simp only [List.drop_zero, List.take_succ_cons, List.take_zero, List.take_nil, take_bytes] | whnf) (by first | omega | simp) | exact Src.nil) (by first | (simp only [Nat.mul_one, bytesAV_length]; omega) | (simp; omega)) ?_ | refine opTri_le (le_own 66 26 7 rfl) (op_append rfl (by conv => lhs; whnf) rfl rfl rfl (Elem.mk (sz := 7) (by rfl) (by rfl) (by rfl) (by rfl) (by conv => lhs; whnf) (by rfl) (by rfl) (by rfl)) rfl (by first | omega | simp) (by first | exact Src.sl | exact Src.own rfl (by conv => lhs; first | simp only [List.drop_zero, List.take_succ_cons, List.take_zero, List.take_nil, take_bytes] | whnf) (by first | omega | simp) | exact Src.nil) (by first | (simp only [Nat.mul_one, bytesAV_length]; omega) | (simp; omega)) ?_))
              all_goals (
               refine x_all1 5 ?_
               focus
                all_goals (refine x_st3 ?_)
                all_goals refine x_tk 6 (opWF_assign) ?_
                all_goals (refine x_assign ?_)
                all_goals exact any_leaf (n := 196) [0, 1, 2, 3, 4, 5] [2, 3, 5, 9, 11, 51, 52, 53] (by kernel_rfl) rfl rfl rfl (.c0 (.c0 (.c0 (.c0 (.c0 (.c0 (.c0 (.c0 (.nil))))))))) (.c7 (.c3 (.c0 (.c7 (.c3 (.c0 (.nil)))))))))))
       focus
        all_goals (first | refine x_lda ?_ | refine x_ldra ?_ | refine x_ldp ?_ | refine x_ldrp ?_)
        all_goals (
         refine x_all2 0 3 ?_ ?_
         focus
          all_goals (first | refine x_lda ?_ | refine x_ldra ?_ | refine x_ldp ?_ | refine x_ldrp ?_)
          all_goals (
           refine x_all1 3 ?_
           focus
            all_goals (refine lit_one (sz := 7) false (by rfl) (by rfl) (by rfl) (by rfl) (by conv => lhs; whnf) (by rfl) (by rfl) (by rfl) (by first | exact (rfl : _ = 0) | exact (rfl : _ = 1) | exact (rfl : _ = 2) | exact (rfl : _ = 3) | exact (rfl : _ = 4) | exact (rfl : _ = 5) | exact (rfl : _ = 6) | exact (rfl : _ = 7) | exact (rfl : _ = 8) | exact (rfl : _ = 9) | exact (rfl : _ = 10) | exact (rfl : _ = 11)) (by rfl) (by conv => lhs; whnf) (by rfl)  (by rfl) (by first | exact .inl rfl | exact .inr rfl) (by rfl) (by rfl) ?_)
            all_goals (
             refine x_all1 4 ?_
             focus
              all_goals (first | refine op_append rfl (by conv => lhs; whnf) rfl rfl rfl (Elem.mk (sz := 7) (by rfl) (by rfl) (by rfl) (by rfl) (by conv => lhs; whnf) (by rfl) (by rfl) (by rfl)) rfl (by first | omega | simp) (by first | exact Src.sl | exact Src.own rfl (by conv => lhs; first | simp only [List.drop_zero, List.take_succ_cons, List.take_zero, List.take_nil, take_bytes] | whnf) (by first | omega | simp) | exact Src.nil) (by first | (simp only [Nat.mul_one, bytesAV_length]; omega) | (simp; omega)) ?_ | refine opTri_le (le_own 66 26 7 rfl) (op_append rfl (by conv => lhs; whnf) rfl rfl rfl (Elem.mk (sz := 7) (by rfl) (by rfl) (by rfl) (by rfl) (by conv => lhs; whnf) (by rfl) (by rfl) (by rfl)) rfl (by first | omega | simp) (by first | exact Src.sl | exact Src.own rfl (by conv => lhs; first | simp only [List.drop_zero, List.take_succ_cons, List.take_zero, List.take_nil, take_bytes] | whnf) (by first | omega | simp) | exact Src.nil) (by first | (simp only [Nat.mul_one, bytesAV_length]; omega) | (simp; omega)) ?_))
              all_goals (
               refine x_all1 5 ?_
               focus
                all_goals (refine x_st3 ?_)
                all_goals refine x_tk 6 (opWF_assign) ?_
                all_goals (refine x_assign ?_)
                all_goals exact any_leaf (n := 196) [0, 1, 2, 3, 4, 5] [2, 3, 5, 9, 11, 51, 52, 53] (by kernel_rfl) rfl rfl rfl (.c0 (.c0 (.c0 (.c0 (.c0 (.c0 (.c0 (.c0 (.nil))))))))) (.c7 (.c3 (.c0 (.c7 (.c3 (.c0 (.nil))))))))))
         focus
          all_goals (refine lit_one (sz := 7) false (by rfl) (by rfl) (by rfl) (by rfl) (by conv => lhs; whnf) (by rfl) (by rfl) (by rfl) (by first | exact (rfl : _ = 0) | exact (rfl : _ = 1) | exact (rfl : _ = 2) | exact (rfl : _ = 3) | exact (rfl : _ = 4) | exact (rfl : _ = 5) | exact (rfl : _ = 6) | exact (rfl : _ = 7) | exact (rfl : _ = 8) | exact (rfl : _ = 9) | exact (rfl : _ = 10) | exact (rfl : _ = 11)) (by rfl) (by conv => lhs; whnf) (by rfl)  (by rfl) (by first | exact .inl rfl | exact .inr rfl) (by rfl) (by rfl) ?_)
          all_goals (
           refine x_all2 0 4 ?_ ?_
           focus
            all_goals (first | refine x_lda ?_ | refine x_ldra ?_ | refine x_ldp ?_ | refine x_ldrp ?_)
            all_goals (
             refine x_all1 4 ?_
             focus
              all_goals (first | refine op_append rfl (by conv => lhs; whnf) rfl rfl rfl (Elem.mk (sz := 7) (by rfl) (by rfl) (by rfl) (by rfl) (by conv => lhs; whnf) (by rfl) (by rfl) (by rfl)) rfl (by first | omega | simp) (by first | exact Src.sl | exact Src.own rfl (by conv => lhs; first | simp only [List.drop_zero, List.take_succ_cons, List.take_zero, List.take_nil, take_bytes] | whnf) (by first | omega | simp) | exact Src.nil) (by first | (simp only [Nat.mul_one, bytesAV_length]; omega) | (simp; omega)) ?_ | refine opTri_le (le_own 66 26 7 rfl) (op_append rfl (by conv => lhs; whnf) rfl rfl rfl (Elem.mk (sz := 7) (by rfl) (by rfl) (by rfl) (by rfl) (by conv => lhs; whnf) (by rfl) (by rfl) (by rfl)) rfl (by first | omega | simp) (by first | exact Src.sl | exact Src.own rfl (by conv => lhs; first | simp only [List.drop_zero, List.take_succ_cons, List.take_zero, List.take_nil, take_bytes] | whnf) (by first | omega | simp) | exact Src.nil) (by first | (simp only [Nat.mul_one, bytesAV_length]; omega) | (simp; omega)) ?_))
              all_goals (
               refine x_all1 5 ?_
               focus
                all_goals (refine x_st3 ?_)
                all_goals refine x_tk 6 (opWF_assign) ?_
                all_goals (refine x_assign ?_)
                all_goals exact any_leaf (n := 196) [0, 1, 2, 3, 4, 5] [2, 3, 5, 9, 11, 51, 52, 53] (by kernel_rfl) rfl rfl rfl (.c0 (.c0 (.c0 (.c0 (.c0 (.c0 (.c0 (.c0 (.nil))))))))) (.c7 (.c3 (.c0 (.c7 (.c3 (.c0 (.nil)))))))))
           focus
            all_goals (first | refine op_append rfl (by conv => lhs; whnf) rfl rfl rfl (Elem.mk (sz := 7) (by rfl) (by rfl) (by rfl) (by rfl) (by conv => lhs; whnf) (by rfl) (by rfl) (by rfl)) rfl (by first | omega | simp) (by first | exact Src.sl | exact Src.own rfl (by conv => lhs; first | simp only [List.drop_zero, List.take_succ_cons, List.take_zero, List.take_nil, take_bytes] | whnf) (by first | omega | simp) | exact Src.nil) (by first | (simp only [Nat.mul_one, bytesAV_length]; omega) | (simp; omega)) ?_ | refine opTri_le (le_own 66 26 7 rfl) (op_append rfl (by conv => lhs; whnf) rfl rfl rfl (Elem.mk (sz := 7) (by rfl) (by rfl) (by rfl) (by rfl) (by conv => lhs; whnf) (by rfl) (by rfl) (by rfl)) rfl (by first | omega | simp) (by first | exact Src.sl | exact Src.own rfl (by conv => lhs; first | simp only [List.drop_zero, List.take_succ_cons, List.take_zero, List.take_nil, take_bytes] | whnf) (by first | omega | simp) | exact Src.nil) (by first | (simp only [Nat.mul_one, bytesAV_length]; omega) | (simp; omega)) ?_))
            all_goals (
             refine x_all1 0 ?_
             focus
              all_goals (first | refine x_lda ?_ | refine x_ldra ?_ | refine x_ldp ?_ | refine x_ldrp ?_)
              all_goals (
               refine x_all1 5 ?_
               focus
                all_goals (refine x_st3 ?_)
                all_goals refine x_tk 6 (opWF_assign) ?_
                all_goals (refine x_assign ?_)
                all_goals exact any_leaf (n := 196) [0, 1, 2, 3, 4, 5] [2, 3, 5, 9, 11, 51, 52, 53] (by kernel_rfl) rfl rfl rfl (.c0 (.c0 (.c0 (.c0 (.c0 (.c0 (.c0 (.c0 (.nil))))))))) (.c7 (.c3 (.c0 (.c7 (.c3 (.c0 (.nil)))))))))))))
   rotate_right 1
   focus
    try (exfalso; first | exact hc | omega)
    all_goals refine tri_skip ?_)
  all_goals refine blockQ_n ?_
  all_goals refine seqQ_n ?_
  all_goals refine tri_region ?_
  all_goals refine oc ?_
  all_goals (first | refine x_add64 ?_ | refine x_add ?_)
  all_goals refine oc (x_move ?_)
  all_goals refine ops_nil ?_
  all_goals refine seqQ_n ?_
  all_goals (
   first
   | exact ⟨⟨(k + 1, s, done), by dsimp only; omega, hI, by dsimp only; omega⟩, by dsimp only; omega, le_kept [0, 1, 2] rfl rfl (fun _ _ h => by cases h) rfl ⟨by first | rfl | ((conv => lhs; whnf); first | rfl | (simp only [take_cmds, List.map_append]; rfl) | (dsimp only [iv]; congr 2; omega) | (rw [List.length_append]; rfl)), by first | rfl | ((conv => lhs; whnf); first | rfl | (simp only [take_cmds, List.map_append]; rfl) | (dsimp only [iv]; congr 2; omega) | (rw [List.length_append]; rfl)), by first | rfl | ((conv => lhs; whnf); first | rfl | (simp only [take_cmds, List.map_append]; rfl) | (dsimp only [iv]; congr 2; omega) | (rw [List.length_append]; rfl)), by first | rfl | ((conv => lhs; whnf); first | rfl | (simp only [take_cmds, List.map_append]; rfl) | (dsimp only [iv]; congr 2; omega) | (rw [List.length_append]; rfl)), by first | rfl | ((conv => lhs; whnf); first | rfl | (simp only [take_cmds, List.map_append]; rfl) | (dsimp only [iv]; congr 2; omega) | (rw [List.length_append]; rfl)), by first | rfl | ((conv => lhs; whnf); first | rfl | (simp only [take_cmds, List.map_append]; rfl) | (dsimp only [iv]; congr 2; omega) | (rw [List.length_append]; rfl)), by first | rfl | ((conv => lhs; whnf); first | rfl | (simp only [take_cmds, List.map_append]; rfl) | (dsimp only [iv]; congr 2; omega) | (rw [List.length_append]; rfl)), by first | rfl | ((conv => lhs; whnf); first | rfl | (simp only [take_cmds, List.map_append]; rfl) | (dsimp only [iv]; congr 2; omega) | (rw [List.length_append]; rfl)), trivial⟩ ⟨by first | rfl | ((conv => lhs; whnf); first | rfl | (simp only [take_cmds, List.map_append]; rfl) | (dsimp only [iv]; congr 2; omega) | (rw [List.length_append]; rfl)), by first | rfl | ((conv => lhs; whnf); first | rfl | (simp only [take_cmds, List.map_append]; rfl) | (dsimp only [iv]; congr 2; omega) | (rw [List.length_append]; rfl)), by first | rfl | ((conv => lhs; whnf); first | rfl | (simp only [take_cmds, List.map_append]; rfl) | (dsimp only [iv]; congr 2; omega) | (rw [List.length_append]; rfl)), trivial⟩⟩
   | exact ⟨⟨(k + 1, s2, done ++ [x]), by dsimp only; omega, hI2, by simp; omega⟩, by dsimp only; omega, le_kept [0, 1, 2] rfl rfl (fun _ _ h => by cases h) rfl ⟨by first | rfl | ((conv => lhs; whnf); first | rfl | (simp only [take_cmds, List.map_append]; rfl) | (dsimp only [iv]; congr 2; omega) | (rw [List.length_append]; rfl)), by first | rfl | ((conv => lhs; whnf); first | rfl | (simp only [take_cmds, List.map_append]; rfl) | (dsimp only [iv]; congr 2; omega) | (rw [List.length_append]; rfl)), by first | rfl | ((conv => lhs; whnf); first | rfl | (simp only [take_cmds, List.map_append]; rfl) | (dsimp only [iv]; congr 2; omega) | (rw [List.length_append]; rfl)), by first | rfl | ((conv => lhs; whnf); first | rfl | (simp only [take_cmds, List.map_append]; rfl) | (dsimp only [iv]; congr 2; omega) | (rw [List.length_append]; rfl)), by first | rfl | ((conv => lhs; whnf); first | rfl | (simp only [take_cmds, List.map_append]; rfl) | (dsimp only [iv]; congr 2; omega) | (rw [List.length_append]; rfl)), by first | rfl | ((conv => lhs; whnf); first | rfl | (simp only [take_cmds, List.map_append]; rfl) | (dsimp only [iv]; congr 2; omega) | (rw [List.length_append]; rfl)), by first | rfl | ((conv => lhs; whnf); first | rfl | (simp only [take_cmds, List.map_append]; rfl) | (dsimp only [iv]; congr 2; omega) | (rw [List.length_append]; rfl)), by first | rfl | ((conv => lhs; whnf); first | rfl | (simp only [take_cmds, List.map_append]; rfl) | (dsimp only [iv]; congr 2; omega) | (rw [List.length_append]; rfl)), trivial⟩ ⟨by first | rfl | ((conv => lhs; whnf); first | rfl | (simp only [take_cmds, List.map_append]; rfl) | (dsimp only [iv]; congr 2; omega) | (rw [List.length_append]; rfl)), by first | rfl | ((conv => lhs; whnf); first | rfl | (simp only [take_cmds, List.map_append]; rfl) | (dsimp only [iv]; congr 2; omega) | (rw [List.length_append]; rfl)), by first | rfl | ((conv => lhs; whnf); first | rfl | (simp only [take_cmds, List.map_append]; rfl) | (dsimp only [iv]; congr 2; omega) | (rw [List.length_append]; rfl)), trivial⟩⟩))

end Go.Proofs.Ytjalgcjllddmhaa

/- A text of the proof of JournalSurvives: JW15 -/
import Derived.Test.YtjalgcjllddmhaaProg
import Derived.Test.YtjalgcjllddmhaaAvShort
import Derived.Test.YtjalgcjllddmhaaAvAppS
import Derived.Test.YtjalgcjllddmhaaAvSnap
import Derived.Test.YtjalgcjllddmhaaAvAny
import Derived.Test.YtjalgcjllddmhaaAvMeet
import Derived.Test.YtjalgcjllddmhaaAvEq
import Derived.Test.YtjalgcjllddmhaaJInv
import Derived.Test.YtjalgcjllddmhaaJW8
import Derived.Test.YtjalgcjllddmhaaJW9
import Derived.Test.YtjalgcjllddmhaaJW11
import Derived.Test.YtjalgcjllddmhaaJW12
import Derived.Test.YtjalgcjllddmhaaJW13
import Derived.Test.YtjalgcjllddmhaaJW14

set_option linter.unusedSimpArgs false
set_option linter.unusedVariables false
set_option maxHeartbeats 8000000
set_option maxRecDepth 100000
namespace Go.Proofs.Ytjalgcjllddmhaa
open Go.Av
theorem new_ok_w (n : Int) (h : -1 ≤ n ∧ n ≤ 262144) : HSpec Try.prog 9 [iv n] [] fun r H' _ => r = .tup [.agg [.val (.slice none 0 0), iv 0, iv n], iv 0] ∧ H' = [] :=
  (new_w n).post (by rintro r H' m ⟨h1, h2⟩; exact ⟨by rw [h1, if_neg (by omega)], h2⟩)

/-- the walk of casebook/casebooklaw48.JournalSurvives -/
theorem survives_w (l : List Cmd) (after keep : Int) (again : Cmd) (hl : l.length ≤ 2 ^ 47) (hok : ∀ c ∈ l, CmdOk c) (hag : CmdOk again) (ha : 0 ≤ after ∧ after < 65536) (hkp : 0 ≤ keep ∧ keep < 65536) : HSpec Try.prog 3 [.sl 7 (l.map cmdAV), .val (.int .u16 after), .val (.int .u16 keep), cmdAV again] [] fun r H' _ => r = .val (.bool (true)) ∧ H' = [] := by
 refine hspec_intro Try.func3 rfl rfl ?_
 all_goals refine tri_seq ?_
 all_goals refine tri_region ?_
 all_goals refine oc (x_bx 7 ?_)
 all_goals refine oc (x_assign ?_)
 all_goals refine ops_nil ?_
 all_goals refine seqQ_n ?_
 all_goals refine tri_seq ?_
 all_goals refine tri_seq ?_
 all_goals refine tri_region ?_
 all_goals refine oc ?_
 all_goals (refine op_callA rfl rfl rfl rfl rfl ⟨_, Try.func5, by decide, rfl⟩ .nil (awake_w) shut0 ?_)
 all_goals (rintro _ H' m ⟨rfl, rfl⟩)
 all_goals refine oc ?_
 all_goals (first | refine op_not_d rfl rfl rfl ?_ | refine x_not ?_)
 all_goals refine oc (x_move ?_)
 all_goals (first | refine gU ?_ | refine gY ?_ | refine gN ?_ | refine ops_guardFd rfl rfl rfl rfl rfl rfl (fun hg => ?_) (fun hg => ?_) | refine gF (fun hg => ?_) (fun hg => ?_))
 all_goals try (exfalso; omega)
 all_goals (first | refine ops_here ?_ | (refine x_move ?_))
 all_goals (first | refine gU ?_ | refine gY ?_ | refine gN ?_ | refine ops_guardFd rfl rfl rfl rfl rfl rfl (fun hg => ?_) (fun hg => ?_) | refine gF (fun hg => ?_) (fun hg => ?_))
 all_goals try (exfalso; omega)
 all_goals (first | refine ops_here ?_ | (first | refine op_len_sl rfl (by first | (conv => lhs; simp only [List.length_map, bytesAV_length]) | rfl) rfl rfl rfl ?_ | refine x_leno ?_ | refine x_lenn ?_))
 all_goals (first | refine gU ?_ | refine gY ?_ | refine gN ?_ | refine ops_guardFd rfl rfl rfl rfl rfl rfl (fun hg => ?_) (fun hg => ?_) | refine gF (fun hg => ?_) (fun hg => ?_))
 all_goals try (exfalso; omega)
 all_goals (first | refine ops_here ?_ | (refine x_gtr ?_))
 all_goals refine oc ?_
 all_goals (first | refine x_pt ?_ | refine x_pf ?_ | refine x_pb ?_)
 all_goals refine oc (x_move ?_)
 all_goals (first | refine gU ?_ | refine gY ?_ | refine gN ?_ | refine ops_guardFd rfl rfl rfl rfl rfl rfl (fun hg => ?_) (fun hg => ?_) | refine gF (fun hg => ?_) (fun hg => ?_))
 all_goals try (exfalso; omega)
 all_goals (first | refine ops_here ?_ | (refine x_move ?_))
 all_goals (first | refine gU ?_ | refine gY ?_ | refine gN ?_ | refine ops_guardFd rfl rfl rfl rfl rfl rfl (fun hg => ?_) (fun hg => ?_) | refine gF (fun hg => ?_) (fun hg => ?_))
 all_goals try (exfalso; omega)
 all_goals (first | refine ops_here ?_ | (refine op_callA rfl rfl rfl rfl rfl ⟨_, Try.func6, by decide, rfl⟩ (.cons (.pure rfl) (.cons .fn0 .nil)) (idxC_c l 7 (fun c => !plainC c) (by first | omega | (simp; omega)) ⟨_, Try.func7, by decide, rfl⟩ (fun x hx => plainSurvives_w x (hok x hx))) shut0 ?_; rintro r H' m ⟨rfl, rfl⟩))
 all_goals refine oc ?_
 all_goals (first | refine x_pt ?_ | refine x_pf ?_ | refine x_pb ?_)
 all_goals refine oc (x_move ?_)
 all_goals (first | refine gU ?_ | refine gY ?_ | refine gN ?_ | refine ops_guardFd rfl rfl rfl rfl rfl rfl (fun hg => ?_) (fun hg => ?_) | refine gF (fun hg => ?_) (fun hg => ?_))
 all_goals try (exfalso; omega)
 all_goals (first | refine ops_here ?_ | (first | refine x_lda ?_ | refine x_ldra ?_ | refine x_ldp ?_ | refine x_ldrp ?_))
 all_goals (first | refine gU ?_ | refine gY ?_ | refine gN ?_ | refine ops_guardFd rfl rfl rfl rfl rfl rfl (fun hg => ?_) (fun hg => ?_) | refine gF (fun hg => ?_) (fun hg => ?_))
 all_goals try (exfalso; omega)
 all_goals (first | refine ops_here ?_ | (refine op_callA rfl rfl rfl rfl rfl ⟨_, Try.func8, by decide, rfl⟩ (.cons (.pure rfl) .nil) (plain_w again hag) shut0 ?_))
 all_goals (first | refine ops_here ?_ | (rintro _ H' m ⟨rfl, rfl⟩))
 all_goals (first | refine gU ?_ | refine gY ?_ | refine gN ?_ | refine ops_guardFd rfl rfl rfl rfl rfl rfl (fun hg => ?_) (fun hg => ?_) | refine gF (fun hg => ?_) (fun hg => ?_))
 all_goals try (exfalso; omega)
 all_goals (first | refine ops_here ?_ | (first | refine op_not_d rfl rfl rfl ?_ | refine x_not ?_))
 all_goals refine oc ?_
 all_goals (first | refine x_pt ?_ | refine x_pf ?_ | refine x_pb ?_)
 all_goals refine ops_nil ?_
 all_goals refine seqQ_n ?_
 all_goals (
  first | refine tri_cond_d rfl rfl (fun hc => ?_) (fun hc => ?_) | refine ct (fun hc => ?_) (fun hc => ?_) | refine cf (fun hc => ?_) (fun hc => ?_) | refine cb (fun hc => ?_) (fun hc => ?_)
  focus
   try (exfalso; first | exact hc | omega)
   all_goals refine tri_seq ?_
   all_goals refine tri_region ?_
   all_goals refine oc ?_
   all_goals (refine op_callA rfl rfl rfl rfl rfl ⟨_, Try.func5, by decide, rfl⟩ .nil (awake_w) shut0 ?_)
   all_goals (rintro _ H' m ⟨rfl, rfl⟩)
   all_goals refine oc (x_assign ?_)
   all_goals refine ops_nil ?_
   all_goals refine seqQ_n ?_
   all_goals refine tri_ret ?_
   all_goals refine seqQ_r ?_
   all_goals refine retE_r [] (.cons (.tmp (by conv => lhs; whnf) rfl) .nil) rfl rfl (by first | exact (ren_pure (by rfl)).trans (by conv => lhs; whnf) | ((conv => lhs; whnf); done) | rfl) (.nil) ?_
   all_goals (
    refine ⟨?_, rfl⟩
    first
    | rfl
    | (exfalso; omega)
    | (exfalso; rw [sameL_self] at hg; cases hg; done)
    | (exfalso; rw [sameL_self] at hc; cases hc; done)
    | (exfalso; rw [hI2.valid] at hc; cases hc; done)
    | exact congrArg (fun b => AV.val (Value.bool b)) (decide_eq_true hs3)
    | (exfalso; simp_all; done))
  rotate_right 1
  focus
   try (exfalso; first | exact hc | omega)
   all_goals refine tri_skip ?_)
 all_goals refine seqQ_n ?_
 all_goals refine tri_seq ?_
 all_goals refine tri_region ?_
 all_goals refine oc (x_move ?_)
 all_goals refine oc ?_
 all_goals (first | refine x_ci64 ?_ | refine x_ci ?_)
 all_goals refine oc ?_
 all_goals (first | refine x_rem64 ?_ | refine x_rem ?_)
 all_goals refine oc ?_
 all_goals (refine op_callA rfl rfl rfl rfl rfl ⟨_, Try.func9, by decide, rfl⟩ (.cons (.pure rfl) .nil) (new_ok_w (after % 3000) (by omega)) shut0 ?_)
 all_goals (rintro _ H' m ⟨rfl, rfl⟩)
 all_goals refine oc (x_move ?_)
 all_goals refine oc (x_ext ?_)
 all_goals refine oc (x_ext ?_)
 all_goals refine oc (x_al 3 ?_)
 all_goals refine oc (x_st3 ?_)
 all_goals refine oc (x_assign ?_)
 all_goals refine ops_nil ?_
 all_goals refine seqQ_n ?_
 all_goals refine tri_seq ?_
 all_goals refine tri_seq ?_
 all_goals refine tri_region ?_
 all_goals refine oc (x_move ?_)
 all_goals refine oc (x_neq ?_)
 all_goals refine ops_nil ?_
 all_goals refine seqQ_n ?_
 all_goals (
  first | refine tri_cond_d rfl rfl (fun hc => ?_) (fun hc => ?_) | refine ct (fun hc => ?_) (fun hc => ?_) | refine cf (fun hc => ?_) (fun hc => ?_) | refine cb (fun hc => ?_) (fun hc => ?_)
  focus
   try (exfalso; first | exact hc | omega)
   all_goals refine tri_seq ?_
   all_goals refine tri_region ?_
   all_goals refine oc (x_assign ?_)
   all_goals refine ops_nil ?_
   all_goals refine seqQ_n ?_
   all_goals refine tri_ret ?_
   all_goals refine seqQ_r ?_
   all_goals refine retE_r [] (.cons (.tmp (by conv => lhs; whnf) rfl) .nil) rfl rfl (by first | exact (ren_pure (by rfl)).trans (by conv => lhs; whnf) | ((conv => lhs; whnf); done) | rfl) (.nil) ?_
   all_goals (
    refine ⟨?_, rfl⟩
    first
    | rfl
    | (exfalso; omega)
    | (exfalso; rw [sameL_self] at hg; cases hg; done)
    | (exfalso; rw [sameL_self] at hc; cases hc; done)
    | (exfalso; rw [hI2.valid] at hc; cases hc; done)
    | exact congrArg (fun b => AV.val (Value.bool b)) (decide_eq_true hs3)
    | (exfalso; simp_all; done))
  rotate_right 1
  focus
   try (exfalso; first | exact hc | omega)
   all_goals refine tri_skip ?_)
 all_goals refine seqQ_n ?_
 all_goals refine tri_seq ?_
 all_goals refine tri_region ?_
 all_goals refine oc (x_assign ?_)
 all_goals refine ops_nil ?_
 all_goals refine seqQ_n ?_
 all_goals (
  refine tri_seq_meet (Y := { p : Sto × List Cmd × List UInt8 // Inv p.1 p.2.1 p.2.2 ∧ p.2.1.length ≤ 8 }) (fun x => ⟨165, noM, [(2, .val (.int .u16 keep)), (7, .ptr 0 7 0 0), (9, .ptr 1 3 0 0), (11, .osl 2 7 0 x.1.2.1.length)], [.mk 26 true false 7 [cmdAV again], .mk 32 true false 3 [stoAV x.1.1], .mk 26 false false 7 (x.1.2.1.map cmdAV)]⟩) ?_ (fun x => ?_)
  focus
   all_goals refine tri_seq ?_
   all_goals refine tri_region ?_
   all_goals (refine ops_le (lit_own 11 26 7 rfl (by first | exact (rfl : _ = 0) | exact (rfl : _ = 1) | exact (rfl : _ = 2) | exact (rfl : _ = 3) | exact (rfl : _ = 4) | exact (rfl : _ = 5) | exact (rfl : _ = 6) | exact (rfl : _ = 7) | exact (rfl : _ = 8) | exact (rfl : _ = 9) | exact (rfl : _ = 10) | exact (rfl : _ = 11))) ?_)
   all_goals (have hpl := any_plain (l := l) (by assumption))
   all_goals refine oc (x_move ?_)
   all_goals refine oc ?_
   all_goals (first | refine op_len_sl rfl (by first | (conv => lhs; simp only [List.length_map, bytesAV_length]) | rfl) rfl rfl rfl ?_ | refine x_leno ?_ | refine x_lenn ?_)
   all_goals refine oc (x_move ?_)
   all_goals refine ops_nil ?_
   all_goals refine seqQ_n ?_
   all_goals refine tri_block ?_
   all_goals (
    refine tri_loop (X := { p : Nat × Sto × List Cmd // p.1 ≤ l.length ∧ Inv p.2.1 p.2.2 [] ∧ p.2.2.length ≤ p.1 }) (fun x => ⟨165, noM, [(2, .val (.int .u16 keep)), (7, .ptr 0 7 0 0), (9, .ptr 1 3 0 0), (11, .osl 2 7 0 x.1.2.2.length), (53, .sl 7 (l.map cmdAV)), (54, iv l.length), (55, iv x.1.1)], [.mk 26 true false 7 [cmdAV again], .mk 32 true false 3 [stoAV x.1.2.1], .mk 26 false false 7 (x.1.2.2.map cmdAV)]⟩) (fun x => l.length - x.1.1) (⟨(0, ⟨[], 0, after % 3000⟩, []), by dsimp only; omega, Inv.new (by omega), by simp⟩) (by exact Le.trans (lit_snapO 1 (by first | ((conv => lhs; whnf; arg 1; whnf); done) | rfl | assumption | (simp; done)) (by conv => lhs; whnf; congr; { whnf }; { whnf; congr; { whnf }; { whnf; congr; { whnf }; { whnf } } }) (by exact .cons (SnapR.nil (sz := 1)) (.cons (.pure rfl) (.cons (.pure rfl) .nil))) (by rfl) (by rfl) (by rfl)) (le_kept [0, 1, 2] rfl rfl (fun _ _ h => by cases h) rfl ⟨by first | rfl | ((conv => lhs; whnf); first | rfl | (simp only [take_cmds, List.map_append]; rfl) | (dsimp only [iv]; congr 2; omega) | (rw [List.length_append]; rfl)), by first | rfl | ((conv => lhs; whnf); first | rfl | (simp only [take_cmds, List.map_append]; rfl) | (dsimp only [iv]; congr 2; omega) | (rw [List.length_append]; rfl)), by first | rfl | ((conv => lhs; whnf); first | rfl | (simp only [take_cmds, List.map_append]; rfl) | (dsimp only [iv]; congr 2; omega) | (rw [List.length_append]; rfl)), by first | rfl | ((conv => lhs; whnf); first | rfl | (simp only [take_cmds, List.map_append]; rfl) | (dsimp only [iv]; congr 2; omega) | (rw [List.length_append]; rfl)), by first | rfl | ((conv => lhs; whnf); first | rfl | (simp only [take_cmds, List.map_append]; rfl) | (dsimp only [iv]; congr 2; omega) | (rw [List.length_append]; rfl)), by first | rfl | ((conv => lhs; whnf); first | rfl | (simp only [take_cmds, List.map_append]; rfl) | (dsimp only [iv]; congr 2; omega) | (rw [List.length_append]; rfl)), by first | rfl | ((conv => lhs; whnf); first | rfl | (simp only [take_cmds, List.map_append]; rfl) | (dsimp only [iv]; congr 2; omega) | (rw [List.length_append]; rfl)), trivial⟩ ⟨by first | rfl | ((conv => lhs; whnf); first | rfl | (simp only [take_cmds, List.map_append]; rfl) | (dsimp only [iv]; congr 2; omega) | (rw [List.length_append]; rfl)), by first | rfl | ((conv => lhs; whnf); first | rfl | (simp only [take_cmds, List.map_append]; rfl) | (dsimp only [iv]; congr 2; omega) | (rw [List.length_append]; rfl)), by first | rfl | ((conv => lhs; whnf); first | rfl | (simp only [take_cmds, List.map_append]; rfl) | (dsimp only [iv]; congr 2; omega) | (rw [List.length_append]; rfl)), trivial⟩)) (fun x => ?_)
    obtain ⟨⟨k, s, done⟩, hk, hI, hdk⟩ := x
    simp only at hk hI hdk ⊢
    have hsz := hI.sizes
    have hsz2 := hI.len
    all_goals refine tri_seq ?_
    all_goals refine tri_region ?_
    all_goals refine oc (x_lss ?_)
    all_goals refine ops_nil ?_
    all_goals refine seqQ_n ?_
    all_goals refine tri_seq ?_
    all_goals (
     first | refine tri_cond_d rfl rfl (fun hc => ?_) (fun hc => ?_) | refine ct (fun hc => ?_) (fun hc => ?_) | refine cf (fun hc => ?_) (fun hc => ?_) | refine cb (fun hc => ?_) (fun hc => ?_)
     focus
      try (exfalso; first | exact hc | omega)
      all_goals refine tri_skip ?_
     rotate_right 1
     focus
      try (exfalso; first | exact hc | omega)
      all_goals refine tri_exit ?_
      all_goals refine seqQ_x ?_
      all_goals refine seqQ_x ?_
      all_goals refine blockQ_x ?_
      all_goals refine seqQ_n ?_
      all_goals (first | exact ⟨⟨(s, done, []), hI, by dsimp only; omega⟩, le_kept [0, 1, 2] rfl rfl (fun _ _ h => by cases h) rfl ⟨by first | rfl | (simp; done) | (simp; omega) | (congr 2; omega), by first | rfl | (simp; done) | (simp; omega) | (congr 2; omega), by first | rfl | (simp; done) | (simp; omega) | (congr 2; omega), by first | rfl | (simp; done) | (simp; omega) | (congr 2; omega), trivial⟩ ⟨by first | rfl | (simp; done) | (simp; omega) | (congr 2; omega), by first | rfl | (simp; done) | (simp; omega) | (congr 2; omega), by first | rfl | (simp; done) | (simp; omega) | (congr 2; omega), trivial⟩⟩ | exact ⟨⟨(s2, done, t2), hI2, by dsimp only; omega⟩, le_kept [0, 1, 2] rfl rfl (fun _ _ h => by cases h) rfl ⟨by first | rfl | (simp; done) | (simp; omega) | (congr 2; omega), by first | rfl | (simp; done) | (simp; omega) | (congr 2; omega), by first | rfl | (simp; done) | (simp; omega) | (congr 2; omega), by first | rfl | (simp; done) | (simp; omega) | (congr 2; omega), trivial⟩ ⟨by first | rfl | (simp; done) | (simp; omega) | (congr 2; omega), by first | rfl | (simp; done) | (simp; omega) | (congr 2; omega), by first | rfl | (simp; done) | (simp; omega) | (congr 2; omega), trivial⟩⟩))
    all_goals refine seqQ_n ?_
    all_goals refine tri_seq ?_
    all_goals refine tri_block ?_
    all_goals refine tri_seq ?_
    all_goals refine tri_region ?_
    all_goals (
     obtain ⟨c, hcc⟩ : ∃ c, l[k]? = some c := ⟨l[k]'(by omega), by simp⟩
     have he : (l.map cmdAV)[k]? = some (cmdAV c) := by simp [hcc]
     obtain ⟨hw1, hw2, hw3, hw4, hw5⟩ := wr4 (hpl c (List.mem_of_getElem? hcc)))
    all_goals refine oc ?_
    all_goals (first | refine x_ia ?_ | refine x_iao0 ?_ | refine x_iao ?_)
    all_goals refine oc ?_
    all_goals (first | refine x_lda ?_ | refine x_ldra ?_ | refine x_ldp ?_ | refine x_ldrp ?_)
    all_goals refine oc (x_al 7 ?_)
    all_goals refine oc (x_st7 ?_)
    all_goals refine ops_nil ?_
    all_goals refine seqQ_n ?_
    all_goals refine tri_seq ?_
    all_goals refine tri_region ?_
    all_goals refine oc ?_
    all_goals (first | refine x_lda ?_ | refine x_ldra ?_ | refine x_ldp ?_ | refine x_ldrp ?_)
    all_goals refine oc ?_
    all_goals (first | refine x_lda ?_ | refine x_ldra ?_ | refine x_ldp ?_ | refine x_ldrp ?_)
    all_goals refine oc ?_
    all_goals (refine op_callB rfl rfl rfl rfl rfl ⟨_, Try.func10, by decide, rfl⟩ (.cons (.pure rfl) (.cons (.pure rfl) .nil)) (write_w s c (by omega) hw1 hw2 hw3 hw4 hw5) ?_)
    all_goals (rintro _ H' m ⟨rfl, rfl⟩)
    all_goals (rcases hI.write_cases (by omega) c with ⟨hf, hw⟩ | ⟨hf, s2, t2, hw, hI2⟩ | ⟨hf, s2, hw, hI2⟩ <;> rw [hw])
    all_goals refine oc (x_move ?_)
    all_goals refine oc (x_ext ?_)
    all_goals refine oc (x_ext ?_)
    all_goals refine oc (x_al 3 ?_)
    all_goals refine oc (x_st3 ?_)
    all_goals refine oc (x_assign ?_)
    all_goals refine ops_nil ?_
    all_goals refine seqQ_n ?_
    all_goals refine tri_seq ?_
    all_goals refine tri_seq ?_
    all_goals refine tri_region ?_
    all_goals refine oc (x_move ?_)
    all_goals refine oc (x_eql ?_)
    all_goals refine ops_nil ?_
    all_goals refine seqQ_n ?_
    all_goals (
     first | refine tri_cond_d rfl rfl (fun hc => ?_) (fun hc => ?_) | refine ct (fun hc => ?_) (fun hc => ?_) | refine cf (fun hc => ?_) (fun hc => ?_) | refine cb (fun hc => ?_) (fun hc => ?_)
     focus
      try (exfalso; first | exact hc | omega)
      all_goals refine tri_exit ?_
      all_goals refine seqQ_x ?_
      all_goals refine blockQ_x ?_
      all_goals refine seqQ_n ?_
      all_goals refine tri_region ?_
      all_goals refine oc ?_
      all_goals (first | refine x_add64 ?_ | refine x_add ?_)
      all_goals refine oc (x_move ?_)
      all_goals refine ops_nil ?_
      all_goals refine seqQ_n ?_
      all_goals (
       first
       | exact ⟨⟨(k + 1, s, done), by dsimp only; omega, hI, by dsimp only; omega⟩, by dsimp only; omega, le_kept [0, 1, 2] rfl rfl (fun _ _ h => by cases h) rfl ⟨by first | rfl | ((conv => lhs; whnf); first | rfl | (simp only [take_cmds, List.map_append]; rfl) | (dsimp only [iv]; congr 2; omega) | (rw [List.length_append]; rfl)), by first | rfl | ((conv => lhs; whnf); first | rfl | (simp only [take_cmds, List.map_append]; rfl) | (dsimp only [iv]; congr 2; omega) | (rw [List.length_append]; rfl)), by first | rfl | ((conv => lhs; whnf); first | rfl | (simp only [take_cmds, List.map_append]; rfl) | (dsimp only [iv]; congr 2; omega) | (rw [List.length_append]; rfl)), by first | rfl | ((conv => lhs; whnf); first | rfl | (simp only [take_cmds, List.map_append]; rfl) | (dsimp only [iv]; congr 2; omega) | (rw [List.length_append]; rfl)), by first | rfl | ((conv => lhs; whnf); first | rfl | (simp only [take_cmds, List.map_append]; rfl) | (dsimp only [iv]; congr 2; omega) | (rw [List.length_append]; rfl)), by first | rfl | ((conv => lhs; whnf); first | rfl | (simp only [take_cmds, List.map_append]; rfl) | (dsimp only [iv]; congr 2; omega) | (rw [List.length_append]; rfl)), by first | rfl | ((conv => lhs; whnf); first | rfl | (simp only [take_cmds, List.map_append]; rfl) | (dsimp only [iv]; congr 2; omega) | (rw [List.length_append]; rfl)), trivial⟩ ⟨by first | rfl | ((conv => lhs; whnf); first | rfl | (simp only [take_cmds, List.map_append]; rfl) | (dsimp only [iv]; congr 2; omega) | (rw [List.length_append]; rfl)), by first | rfl | ((conv => lhs; whnf); first | rfl | (simp only [take_cmds, List.map_append]; rfl) | (dsimp only [iv]; congr 2; omega) | (rw [List.length_append]; rfl)), by first | rfl | ((conv => lhs; whnf); first | rfl | (simp only [take_cmds, List.map_append]; rfl) | (dsimp only [iv]; congr 2; omega) | (rw [List.length_append]; rfl)), trivial⟩⟩
       | exact ⟨⟨(k + 1, s2, done ++ [c]), by dsimp only; omega, hI2, by simp; omega⟩, by dsimp only; omega, le_kept [0, 1, 2] rfl rfl (fun _ _ h => by cases h) rfl ⟨by first | rfl | ((conv => lhs; whnf); first | rfl | (simp only [take_cmds, List.map_append]; rfl) | (dsimp only [iv]; congr 2; omega) | (rw [List.length_append]; rfl)), by first | rfl | ((conv => lhs; whnf); first | rfl | (simp only [take_cmds, List.map_append]; rfl) | (dsimp only [iv]; congr 2; omega) | (rw [List.length_append]; rfl)), by first | rfl | ((conv => lhs; whnf); first | rfl | (simp only [take_cmds, List.map_append]; rfl) | (dsimp only [iv]; congr 2; omega) | (rw [List.length_append]; rfl)), by first | rfl | ((conv => lhs; whnf); first | rfl | (simp only [take_cmds, List.map_append]; rfl) | (dsimp only [iv]; congr 2; omega) | (rw [List.length_append]; rfl)), by first | rfl | ((conv => lhs; whnf); first | rfl | (simp only [take_cmds, List.map_append]; rfl) | (dsimp only [iv]; congr 2; omega) | (rw [List.length_append]; rfl)), by first | rfl | ((conv => lhs; whnf); first | rfl | (simp only [take_cmds, List.map_append]; rfl) | (dsimp only [iv]; congr 2; omega) | (rw [List.length_append]; rfl)), by first | rfl | ((conv => lhs; whnf); first | rfl | (simp only [take_cmds, List.map_append]; rfl) | (dsimp only [iv]; congr 2; omega) | (rw [List.length_append]; rfl)), trivial⟩ ⟨by first | rfl | ((conv => lhs; whnf); first | rfl | (simp only [take_cmds, List.map_append]; rfl) | (dsimp only [iv]; congr 2; omega) | (rw [List.length_append]; rfl)), by first | rfl | ((conv => lhs; whnf); first | rfl | (simp only [take_cmds, List.map_append]; rfl) | (dsimp only [iv]; congr 2; omega) | (rw [List.length_append]; rfl)), by first | rfl | ((conv => lhs; whnf); first | rfl | (simp only [take_cmds, List.map_append]; rfl) | (dsimp only [iv]; congr 2; omega) | (rw [List.length_append]; rfl)), trivial⟩⟩)
     rotate_right 1
     focus
      try (exfalso; first | exact hc | omega)
      all_goals refine tri_skip ?_)
    all_goals refine seqQ_n ?_
    all_goals refine tri_seq ?_
    all_goals refine tri_seq ?_
    all_goals refine tri_region ?_
    all_goals refine oc (x_move ?_)
    all_goals refine oc (x_neq ?_)
    all_goals refine oc (x_move ?_)
    all_goals (first | refine gU ?_ | refine gY ?_ | refine gN ?_ | refine ops_guardTd rfl rfl rfl rfl rfl rfl (fun hg => ?_) (fun hg => ?_) | refine gT (fun hg => ?_) (fun hg => ?_))
    all_goals try (exfalso; omega)
    all_goals (first | refine ops_here ?_ | (refine x_move ?_))
    all_goals (first | refine gU ?_ | refine gY ?_ | refine gN ?_ | refine ops_guardTd rfl rfl rfl rfl rfl rfl (fun hg => ?_) (fun hg => ?_) | refine gT (fun hg => ?_) (fun hg => ?_))
    all_goals try (exfalso; omega)
    all_goals (first | refine ops_here ?_ | (refine x_neq ?_))
    all_goals refine oc ?_
    all_goals (first | refine x_pt ?_ | refine x_pf ?_ | refine x_pb ?_)
    all_goals refine oc (x_move ?_)
    all_goals (first | refine gU ?_ | refine gY ?_ | refine gN ?_ | refine ops_guardFd rfl rfl rfl rfl rfl rfl (fun hg => ?_) (fun hg => ?_) | refine gF (fun hg => ?_) (fun hg => ?_))
    all_goals try (exfalso; omega)
    all_goals (first | refine ops_here ?_ | (first | refine x_lda ?_ | refine x_ldra ?_ | refine x_ldp ?_ | refine x_ldrp ?_))
    all_goals (first | refine gU ?_ | refine gY ?_ | refine gN ?_ | refine ops_guardFd rfl rfl rfl rfl rfl rfl (fun hg => ?_) (fun hg => ?_) | refine gF (fun hg => ?_) (fun hg => ?_))
    all_goals try (exfalso; omega)
    all_goals (first | refine ops_here ?_ | (refine op_callA rfl rfl rfl rfl rfl ⟨_, Try.func11, by decide, rfl⟩ (.cons (.pure rfl) .nil) (valid_w s2 (by have := hI2.sizes; omega)) shut0 ?_))
    all_goals (first | refine ops_here ?_ | (rintro _ H' m ⟨rfl, rfl⟩))
    all_goals (first | refine ops_here ?_ | (rw [hI2.valid]))
    all_goals (first | refine gU ?_ | refine gY ?_ | refine gN ?_ | refine ops_guardFd rfl rfl rfl rfl rfl rfl (fun hg => ?_) (fun hg => ?_) | refine gF (fun hg => ?_) (fun hg => ?_))
    all_goals try (exfalso; omega)
    all_goals (first | refine ops_here ?_ | (first | refine op_not_d rfl rfl rfl ?_ | refine x_not ?_))
    all_goals refine oc ?_
    all_goals (first | refine x_pt ?_ | refine x_pf ?_ | refine x_pb ?_)
    all_goals refine ops_nil ?_
    all_goals refine seqQ_n ?_
    all_goals (
     first | refine tri_cond_d rfl rfl (fun hc => ?_) (fun hc => ?_) | refine ct (fun hc => ?_) (fun hc => ?_) | refine cf (fun hc => ?_) (fun hc => ?_) | refine cb (fun hc => ?_) (fun hc => ?_)
     focus
      try (exfalso; first | exact hc | omega)
      all_goals refine tri_seq ?_
      all_goals refine tri_region ?_
      all_goals refine oc (x_assign ?_)
      all_goals refine ops_nil ?_
      all_goals refine seqQ_n ?_
      all_goals refine tri_ret ?_
      all_goals refine seqQ_r ?_
      all_goals refine blockQ_r ?_
      all_goals refine seqQ_r ?_
      all_goals refine seqQ_r ?_
      all_goals refine blockQ_r ?_
      all_goals refine seqQ_r ?_
      all_goals refine retE_r [] (.cons (.tmp (by conv => lhs; whnf) rfl) .nil) rfl rfl (by first | exact (ren_pure (by rfl)).trans (by conv => lhs; whnf) | ((conv => lhs; whnf); done) | rfl) (.nil) ?_
      all_goals (
       refine ⟨?_, rfl⟩
       first
       | rfl
       | (exfalso; omega)
       | (exfalso; rw [sameL_self] at hg; cases hg; done)
       | (exfalso; rw [sameL_self] at hc; cases hc; done)
       | (exfalso; rw [hI2.valid] at hc; cases hc; done)
       | exact congrArg (fun b => AV.val (Value.bool b)) (decide_eq_true hs3)
       | (exfalso; simp_all; done))
     rotate_right 1
     focus
      try (exfalso; first | exact hc | omega)
      all_goals refine tri_skip ?_)
    all_goals refine seqQ_n ?_
    all_goals refine tri_seq ?_
    all_goals refine tri_region ?_
    all_goals refine oc ?_
    all_goals (first | refine x_lda ?_ | refine x_ldra ?_ | refine x_ldp ?_ | refine x_ldrp ?_)
    all_goals refine oc (x_st3 ?_)
    all_goals refine ops_nil ?_
    all_goals refine seqQ_n ?_
    all_goals refine tri_seq ?_
    all_goals refine tri_seq ?_
    all_goals refine tri_region ?_
    all_goals refine oc (x_move ?_)
    all_goals refine oc (x_eql ?_)
    all_goals refine ops_nil ?_
    all_goals refine seqQ_n ?_
    all_goals (
     first | refine tri_cond_d rfl rfl (fun hc => ?_) (fun hc => ?_) | refine ct (fun hc => ?_) (fun hc => ?_) | refine cf (fun hc => ?_) (fun hc => ?_) | refine cb (fun hc => ?_) (fun hc => ?_)
     focus
      try (exfalso; first | exact hc | omega)
      all_goals refine tri_exit ?_
      all_goals refine seqQ_x ?_
      all_goals refine blockQ_o rfl ?_
      all_goals refine seqQ_x ?_
      all_goals refine seqQ_x ?_
      all_goals refine blockQ_x ?_
      all_goals refine seqQ_n ?_
      all_goals (first | exact ⟨⟨(s, done, []), hI, by dsimp only; omega⟩, le_kept [0, 1, 2] rfl rfl (fun _ _ h => by cases h) rfl ⟨by first | rfl | (simp; done) | (simp; omega) | (congr 2; omega), by first | rfl | (simp; done) | (simp; omega) | (congr 2; omega), by first | rfl | (simp; done) | (simp; omega) | (congr 2; omega), by first | rfl | (simp; done) | (simp; omega) | (congr 2; omega), trivial⟩ ⟨by first | rfl | (simp; done) | (simp; omega) | (congr 2; omega), by first | rfl | (simp; done) | (simp; omega) | (congr 2; omega), by first | rfl | (simp; done) | (simp; omega) | (congr 2; omega), trivial⟩⟩ | exact ⟨⟨(s2, done, t2), hI2, by dsimp only; omega⟩, le_kept [0, 1, 2] rfl rfl (fun _ _ h => by cases h) rfl ⟨by first | rfl | (simp; done) | (simp; omega) | (congr 2; omega), by first | rfl | (simp; done) | (simp; omega) | (congr 2; omega), by first | rfl | (simp; done) | (simp; omega) | (congr 2; omega), by first | rfl | (simp; done) | (simp; omega) | (congr 2; omega), trivial⟩ ⟨by first | rfl | (simp; done) | (simp; omega) | (congr 2; omega), by first | rfl | (simp; done) | (simp; omega) | (congr 2; omega), by first | rfl | (simp; done) | (simp; omega) | (congr 2; omega), trivial⟩⟩)
     rotate_right 1
     focus
      try (exfalso; first | exact hc | omega)
      all_goals refine tri_skip ?_)
    all_goals refine seqQ_n ?_
    all_goals refine tri_region ?_
    all_goals refine oc (x_move ?_)
    all_goals refine oc ?_
    all_goals (first | refine x_lda ?_ | refine x_ldra ?_ | refine x_ldp ?_ | refine x_ldrp ?_)
    all_goals refine oc ?_
    all_goals (refine lit_one (sz := 7) false (by rfl) (by rfl) (by rfl) (by rfl) (by conv => lhs; whnf) (by rfl) (by rfl) (by rfl) (by first | exact (rfl : _ = 0) | exact (rfl : _ = 1) | exact (rfl : _ = 2) | exact (rfl : _ = 3) | exact (rfl : _ = 4) | exact (rfl : _ = 5) | exact (rfl : _ = 6) | exact (rfl : _ = 7) | exact (rfl : _ = 8) | exact (rfl : _ = 9) | exact (rfl : _ = 10) | exact (rfl : _ = 11)) (by rfl) (by conv => lhs; whnf) (by rfl)  (by rfl) (by first | exact .inl rfl | exact .inr rfl) (by rfl) (by rfl) ?_)
    all_goals refine oc ?_
    all_goals (first | refine op_append rfl (by conv => lhs; whnf) rfl rfl rfl (Elem.mk (sz := 7) (by rfl) (by rfl) (by rfl) (by rfl) (by conv => lhs; whnf) (by rfl) (by rfl) (by rfl)) rfl (by first | omega | simp) (by first | exact Src.sl | exact Src.own rfl (by conv => lhs; first | simp only [List.drop_zero, List.take_succ_cons, List.take_zero, List.take_nil, take_bytes] | whnf) (by first | omega | simp) | exact Src.nil) (by first | (simp only [Nat.mul_one, bytesAV_length]; omega) | (simp; omega)) ?_ | refine opTri_le (le_own 81 26 7 rfl) (op_append rfl (by conv => lhs; whnf) rfl rfl rfl (Elem.mk (sz := 7) (by rfl) (by rfl) (by rfl) (by rfl) (by conv => lhs; whnf) (by rfl) (by rfl) (by rfl)) rfl (by first | omega | simp) (by first | exact Src.sl | exact Src.own rfl (by conv => lhs; first | simp only [List.drop_zero, List.take_succ_cons, List.take_zero, List.take_nil, take_bytes] | whnf) (by first | omega | simp) | exact Src.nil) (by first | (simp only [Nat.mul_one, bytesAV_length]; omega) | (simp; omega)) ?_))
    all_goals refine oc (x_assign ?_)
    all_goals refine ops_nil ?_
    all_goals refine blockQ_n ?_
    all_goals refine seqQ_n ?_
    all_goals refine tri_region ?_
    all_goals refine oc ?_
    all_goals (first | refine x_add64 ?_ | refine x_add ?_)
    all_goals refine oc (x_move ?_)
    all_goals refine ops_nil ?_
    all_goals refine seqQ_n ?_
    all_goals (
     first
     | exact ⟨⟨(k + 1, s, done), by dsimp only; omega, hI, by dsimp only; omega⟩, by dsimp only; omega, le_kept [0, 1, 2] rfl rfl (fun _ _ h => by cases h) rfl ⟨by first | rfl | ((conv => lhs; whnf); first | rfl | (simp only [take_cmds, List.map_append]; rfl) | (dsimp only [iv]; congr 2; omega) | (rw [List.length_append]; rfl)), by first | rfl | ((conv => lhs; whnf); first | rfl | (simp only [take_cmds, List.map_append]; rfl) | (dsimp only [iv]; congr 2; omega) | (rw [List.length_append]; rfl)), by first | rfl | ((conv => lhs; whnf); first | rfl | (simp only [take_cmds, List.map_append]; rfl) | (dsimp only [iv]; congr 2; omega) | (rw [List.length_append]; rfl)), by first | rfl | ((conv => lhs; whnf); first | rfl | (simp only [take_cmds, List.map_append]; rfl) | (dsimp only [iv]; congr 2; omega) | (rw [List.length_append]; rfl)), by first | rfl | ((conv => lhs; whnf); first | rfl | (simp only [take_cmds, List.map_append]; rfl) | (dsimp only [iv]; congr 2; omega) | (rw [List.length_append]; rfl)), by first | rfl | ((conv => lhs; whnf); first | rfl | (simp only [take_cmds, List.map_append]; rfl) | (dsimp only [iv]; congr 2; omega) | (rw [List.length_append]; rfl)), by first | rfl | ((conv => lhs; whnf); first | rfl | (simp only [take_cmds, List.map_append]; rfl) | (dsimp only [iv]; congr 2; omega) | (rw [List.length_append]; rfl)), trivial⟩ ⟨by first | rfl | ((conv => lhs; whnf); first | rfl | (simp only [take_cmds, List.map_append]; rfl) | (dsimp only [iv]; congr 2; omega) | (rw [List.length_append]; rfl)), by first | rfl | ((conv => lhs; whnf); first | rfl | (simp only [take_cmds, List.map_append]; rfl) | (dsimp only [iv]; congr 2; omega) | (rw [List.length_append]; rfl)), by first | rfl | ((conv => lhs; whnf); first | rfl | (simp only [take_cmds, List.map_append]; rfl) | (dsimp only [iv]; congr 2; omega) | (rw [List.length_append]; rfl)), trivial⟩⟩
     | exact ⟨⟨(k + 1, s2, done ++ [c]), by dsimp only; omega, hI2, by simp; omega⟩, by dsimp only; omega, le_kept [0, 1, 2] rfl rfl (fun _ _ h => by cases h) rfl ⟨by first | rfl | ((conv => lhs; whnf); first | rfl | (simp only [take_cmds, List.map_append]; rfl) | (dsimp only [iv]; congr 2; omega) | (rw [List.length_append]; rfl)), by first | rfl | ((conv => lhs; whnf); first | rfl | (simp only [take_cmds, List.map_append]; rfl) | (dsimp only [iv]; congr 2; omega) | (rw [List.length_append]; rfl)), by first | rfl | ((conv => lhs; whnf); first | rfl | (simp only [take_cmds, List.map_append]; rfl) | (dsimp only [iv]; congr 2; omega) | (rw [List.length_append]; rfl)), by first | rfl | ((conv => lhs; whnf); first | rfl | (simp only [take_cmds, List.map_append]; rfl) | (dsimp only [iv]; congr 2; omega) | (rw [List.length_append]; rfl)), by first | rfl | ((conv => lhs; whnf); first | rfl | (simp only [take_cmds, List.map_append]; rfl) | (dsimp only [iv]; congr 2; omega) | (rw [List.length_append]; rfl)), by first | rfl | ((conv => lhs; whnf); first | rfl | (simp only [take_cmds, List.map_append]; rfl) | (dsimp only [iv]; congr 2; omega) | (rw [List.length_append]; rfl)), by first | rfl | ((conv => lhs; whnf); first | rfl | (simp only [take_cmds, List.map_append]; rfl) | (dsimp only [iv]; congr 2; omega) | (rw [List.length_append]; rfl)), trivial⟩ ⟨by first | rfl | ((conv => lhs; whnf); first | rfl | (simp only [take_cmds, List.map_append]; rfl) | (dsimp only [iv]; congr 2; omega) | (rw [List.length_append]; rfl)), by first | rfl | ((conv => lhs; whnf); first | rfl | (simp only [take_cmds, List.map_append]; rfl) | (dsimp only [iv]; congr 2; omega) | (rw [List.length_append]; rfl)), by first | rfl | ((conv => lhs; whnf); first | rfl | (simp only [take_cmds, List.map_append]; rfl) | (dsimp only [iv]; congr 2; omega) | (rw [List.length_append]; rfl)), trivial⟩⟩))
  focus
   obtain ⟨⟨s, done, tail⟩, hI, hdl⟩ := x
   simp only at hI hdl ⊢
   have hsz := hI.sizes
   have hfd := formed_data hI.form
   have hkm := Int.emod_nonneg keep (b := (s.bytes.length : Int) - s.durable + 1) (by omega)
   have hkm2 := Int.emod_lt_of_pos keep (b := (s.bytes.length : Int) - s.durable + 1) (by omega)
   all_goals refine tri_seq ?_
   all_goals refine tri_region ?_
   all_goals refine oc ?_
   all_goals (first | refine x_fa0 ?_ | refine x_far0 ?_ | refine x_fa ?_ | refine x_far ?_)
   all_goals refine oc ?_
   all_goals (first | refine x_ld ?_ | refine x_ldr ?_)
   all_goals refine oc ?_
   all_goals (first | refine op_len_sl rfl (by first | (conv => lhs; simp only [List.length_map, bytesAV_length]) | rfl) rfl rfl rfl ?_ | refine x_leno ?_ | refine x_lenn ?_)
   all_goals refine oc ?_
   all_goals (first | refine x_fa0 ?_ | refine x_far0 ?_ | refine x_fa ?_ | refine x_far ?_)
   all_goals refine oc ?_
   all_goals (first | refine x_ld ?_ | refine x_ldr ?_)
   all_goals refine oc ?_
   all_goals (first | refine x_sub64 ?_ | refine x_sub ?_)
   all_goals refine oc (x_assign ?_)
   all_goals refine ops_nil ?_
   all_goals refine seqQ_n ?_
   all_goals refine tri_seq ?_
   all_goals refine tri_seq ?_
   all_goals refine tri_region ?_
   all_goals refine oc (x_move ?_)
   all_goals refine oc (x_lss ?_)
   all_goals refine ops_nil ?_
   all_goals refine seqQ_n ?_
   all_goals (
    first | refine tri_cond_d rfl rfl (fun hc => ?_) (fun hc => ?_) | refine ct (fun hc => ?_) (fun hc => ?_) | refine cf (fun hc => ?_) (fun hc => ?_) | refine cb (fun hc => ?_) (fun hc => ?_)
    focus
     try (exfalso; first | exact hc | omega)
     all_goals refine tri_seq ?_
     all_goals refine tri_region ?_
     all_goals refine oc (x_assign ?_)
     all_goals refine ops_nil ?_
     all_goals refine seqQ_n ?_
     all_goals refine tri_ret ?_
     all_goals refine seqQ_r ?_
     all_goals refine retE_r [] (.cons (.tmp (by conv => lhs; whnf) rfl) .nil) rfl rfl (by first | exact (ren_pure (by rfl)).trans (by conv => lhs; whnf) | ((conv => lhs; whnf); done) | rfl) (.nil) ?_
     all_goals (
      refine ⟨?_, rfl⟩
      first
      | rfl
      | (exfalso; omega)
      | (exfalso; rw [sameL_self] at hg; cases hg; done)
      | (exfalso; rw [sameL_self] at hc; cases hc; done)
      | (exfalso; rw [hI2.valid] at hc; cases hc; done)
      | exact congrArg (fun b => AV.val (Value.bool b)) (decide_eq_true hs3)
      | (exfalso; simp_all; done))
    rotate_right 1
    focus
     try (exfalso; first | exact hc | omega)
     all_goals refine tri_skip ?_)
   all_goals refine seqQ_n ?_
   all_goals refine tri_seq ?_
   all_goals (
    obtain ⟨s2, t2, hcr, hI2, hs2a⟩ : ∃ s2 t2, crash s (keep % (s.bytes.length - s.durable + 1)) = (s2, 0) ∧ Inv s2 done t2 ∧ s2.after = -1 := ⟨_, _, (hI.crash (by omega) (by omega)).1, (hI.crash (by omega) (by omega)).2, rfl⟩
    have hsz2 := hI2.sizes
    obtain ⟨hw1, hw2, hw3, hw4, hw5⟩ := wr4 (c := again) (by simp_all))
   all_goals (
    apply tri_anyCut (by rfl)
    focus
     all_goals refine x_tk 1 (opWF_move) ?_
     all_goals (refine x_move ?_)
     all_goals refine x_tk 2 (opWF_conv rfl rfl rfl rfl) ?_
     all_goals (first | refine x_ci64 ?_ | refine x_ci ?_)
     all_goals refine x_tk 3 (opWF_move) ?_
     all_goals (refine x_move ?_)
     all_goals refine x_tk 4 (opWF_bin rfl rfl rfl rfl) ?_
     all_goals (first | refine x_add64 ?_ | refine x_add ?_)
     all_goals refine x_tk 5 (opWF_bin rfl rfl rfl rfl) ?_
     all_goals (first | refine x_rem64 ?_ | refine x_rem ?_)
     all_goals (
      refine x_all2 0 10 ?_ ?_
      focus
       all_goals (first | refine x_lda ?_ | refine x_ldra ?_ | refine x_ldp ?_ | refine x_ldrp ?_)
       all_goals (
        refine x_all2 6 10 ?_ ?_
        focus
         all_goals (refine op_callB rfl rfl rfl rfl rfl ⟨_, Try.func12, by decide, rfl⟩ (.cons (.pure rfl) (.cons (.pure rfl) .nil)) (crash_w s _ (by omega) (by omega)) ?_)
         all_goals (rintro _ H' m ⟨rfl, rfl⟩)
         all_goals (rw [hcr])
         all_goals refine x_tk 7 (opWF_move) ?_
         all_goals (refine x_move ?_)
         all_goals refine x_tk 8 (opWF_extract) ?_
         all_goals (refine x_ext ?_)
         all_goals refine x_tk 9 (opWF_extract) ?_
         all_goals (refine x_ext ?_)
         all_goals (
          refine x_all1 10 ?_
          focus
           all_goals (refine x_al 3 ?_)
           all_goals (
            refine x_all1 11 ?_
            focus
             all_goals (refine x_st3 ?_)
             all_goals refine x_tk 12 (opWF_assign) ?_
             all_goals (refine x_assign ?_)
             all_goals exact any_leaf (n := 165) [0, 1, 2, 3] [0, 1, 3, 7, 8, 9, 10, 11, 13, 14, 15, 16, 17, 18, 20, 21, 22, 23, 24, 25, 26, 42, 52, 53, 54, 55, 56, 66, 77, 80, 93, 105, 108, 109, 110, 111, 126, 135] (by kernel_rfl) rfl rfl rfl (.c0 (.c0 (.c0 (.c0 (.c0 (.c0 (.c0 (.c0 (.c0 (.c0 (.c0 (.c0 (.c0 (.c0 (.c0 (.c0 (.c0 (.c0 (.c0 (.c0 (.c0 (.c0 (.c0 (.c0 (.c0 (.c0 (.c0 (.c0 (.c0 (.c0 (.c0 (.c0 (.c0 (.c0 (.c0 (.c0 (.c0 (.c0 (.nil))))))))))))))))))))))))))))))))))))))) (.c0 (.c0 (.c0 (.c0 (.nil)))))))
        focus
         all_goals (refine x_al 3 ?_)
         all_goals (
          refine x_all1 6 ?_
          focus
           all_goals (refine op_callB rfl rfl rfl rfl rfl ⟨_, Try.func12, by decide, rfl⟩ (.cons (.pure rfl) (.cons (.pure rfl) .nil)) (crash_w s _ (by omega) (by omega)) ?_)
           all_goals (rintro _ H' m ⟨rfl, rfl⟩)
           all_goals (rw [hcr])
           all_goals refine x_tk 7 (opWF_move) ?_
           all_goals (refine x_move ?_)
           all_goals refine x_tk 8 (opWF_extract) ?_
           all_goals (refine x_ext ?_)
           all_goals refine x_tk 9 (opWF_extract) ?_
           all_goals (refine x_ext ?_)
           all_goals (
            refine x_all1 11 ?_
            focus
             all_goals (refine x_st3 ?_)
             all_goals refine x_tk 12 (opWF_assign) ?_
             all_goals (refine x_assign ?_)
             all_goals exact any_leaf (n := 165) [0, 1, 2, 3] [0, 1, 3, 7, 8, 9, 10, 11, 13, 14, 15, 16, 17, 18, 20, 21, 22, 23, 24, 25, 26, 42, 52, 53, 54, 55, 56, 66, 77, 80, 93, 105, 108, 109, 110, 111, 126, 135] (by kernel_rfl) rfl rfl rfl (.c0 (.c0 (.c0 (.c0 (.c0 (.c0 (.c0 (.c0 (.c0 (.c0 (.c0 (.c0 (.c0 (.c0 (.c0 (.c0 (.c0 (.c0 (.c0 (.c0 (.c0 (.c0 (.c0 (.c0 (.c0 (.c0 (.c0 (.c0 (.c0 (.c0 (.c0 (.c0 (.c0 (.c0 (.c0 (.c0 (.c0 (.c0 (.nil))))))))))))))))))))))))))))))))))))))) (.c0 (.c0 (.c0 (.c0 (.nil))))))))
      focus
       all_goals (refine x_al 3 ?_)
       all_goals (
        refine x_all1 0 ?_
        focus
         all_goals (first | refine x_lda ?_ | refine x_ldra ?_ | refine x_ldp ?_ | refine x_ldrp ?_)
         all_goals (
          refine x_all1 6 ?_
          focus
           all_goals (refine op_callB rfl rfl rfl rfl rfl ⟨_, Try.func12, by decide, rfl⟩ (.cons (.pure rfl) (.cons (.pure rfl) .nil)) (crash_w s _ (by omega) (by omega)) ?_)
           all_goals (rintro _ H' m ⟨rfl, rfl⟩)
           all_goals (rw [hcr])
           all_goals refine x_tk 7 (opWF_move) ?_
           all_goals (refine x_move ?_)
           all_goals refine x_tk 8 (opWF_extract) ?_
           all_goals (refine x_ext ?_)
           all_goals refine x_tk 9 (opWF_extract) ?_
           all_goals (refine x_ext ?_)
           all_goals (
            refine x_all1 11 ?_
            focus
             all_goals (refine x_st3 ?_)
             all_goals refine x_tk 12 (opWF_assign) ?_
             all_goals (refine x_assign ?_)
             all_goals exact any_leaf (n := 165) [0, 1, 2, 3] [0, 1, 3, 7, 8, 9, 10, 11, 13, 14, 15, 16, 17, 18, 20, 21, 22, 23, 24, 25, 26, 42, 52, 53, 54, 55, 56, 66, 77, 80, 93, 105, 108, 109, 110, 111, 126, 135] (by kernel_rfl) rfl rfl rfl (.c0 (.c0 (.c0 (.c0 (.c0 (.c0 (.c0 (.c0 (.c0 (.c0 (.c0 (.c0 (.c0 (.c0 (.c0 (.c0 (.c0 (.c0 (.c0 (.c0 (.c0 (.c0 (.c0 (.c0 (.c0 (.c0 (.c0 (.c0 (.c0 (.c0 (.c0 (.c0 (.c0 (.c0 (.c0 (.c0 (.c0 (.c0 (.nil))))))))))))))))))))))))))))))))))))))) (.c0 (.c0 (.c0 (.c0 (.nil))))))))))
   all_goals refine seqQ_n ?_
   all_goals refine tri_seq ?_
   all_goals refine tri_seq ?_
   all_goals refine tri_region ?_
   all_goals refine oc (x_move ?_)
   all_goals refine oc (x_neq ?_)
   all_goals refine ops_nil ?_
   all_goals refine seqQ_n ?_
   all_goals (
    first | refine tri_cond_d rfl rfl (fun hc => ?_) (fun hc => ?_) | refine ct (fun hc => ?_) (fun hc => ?_) | refine cf (fun hc => ?_) (fun hc => ?_) | refine cb (fun hc => ?_) (fun hc => ?_)
    focus
     try (exfalso; first | exact hc | omega)
     all_goals refine tri_seq ?_
     all_goals refine tri_region ?_
     all_goals refine oc (x_assign ?_)
     all_goals refine ops_nil ?_
     all_goals refine seqQ_n ?_
     all_goals refine tri_ret ?_
     all_goals refine seqQ_r ?_
     all_goals refine retE_r [] (.cons (.tmp (by conv => lhs; whnf) rfl) .nil) rfl rfl (by first | exact (ren_pure (by rfl)).trans (by conv => lhs; whnf) | ((conv => lhs; whnf); done) | rfl) (.nil) ?_
     all_goals (
      refine ⟨?_, rfl⟩
      first
      | rfl
      | (exfalso; omega)
      | (exfalso; rw [sameL_self] at hg; cases hg; done)
      | (exfalso; rw [sameL_self] at hc; cases hc; done)
      | (exfalso; rw [hI2.valid] at hc; cases hc; done)
      | exact congrArg (fun b => AV.val (Value.bool b)) (decide_eq_true hs3)
      | (exfalso; simp_all; done))
    rotate_right 1
    focus
     try (exfalso; first | exact hc | omega)
     all_goals refine tri_skip ?_)
   all_goals refine seqQ_n ?_
   all_goals refine tri_seq ?_
   all_goals refine tri_seq ?_
   all_goals refine tri_region ?_
   all_goals refine oc ?_
   all_goals (first | refine x_lda ?_ | refine x_ldra ?_ | refine x_ldp ?_ | refine x_ldrp ?_)
   all_goals refine oc ?_
   all_goals (first | refine x_lda ?_ | refine x_ldra ?_ | refine x_ldp ?_ | refine x_ldrp ?_)
   all_goals refine oc ?_
   all_goals (refine lit_buildSlice (ag := true) (sz := 3) false (by rfl) (by rfl) (by rfl) (by rfl) (by conv => lhs; whnf) (by rfl) (by rfl) (by rfl) (by first | exact (rfl : _ = 0) | exact (rfl : _ = 1) | exact (rfl : _ = 2) | exact (rfl : _ = 3) | exact (rfl : _ = 4) | exact (rfl : _ = 5) | exact (rfl : _ = 6) | exact (rfl : _ = 7) | exact (rfl : _ = 8) | exact (rfl : _ = 9) | exact (rfl : _ = 10) | exact (rfl : _ = 11)) (by rfl) (by rfl) (by conv => lhs; whnf; congr; { whnf; congr; { whnf }; { whnf } }; { whnf; congr; { whnf; congr; { whnf }; { whnf } }; { whnf } }) (by conv => lhs; whnf; arg 1; whnf; congr; { whnf }; { whnf; congr; { whnf }; { whnf; congr; { whnf }; { whnf; congr; { whnf }; { whnf; congr; { whnf }; { whnf; congr; { whnf }; { whnf } } } } } }) (by conv => lhs; whnf; congr; { whnf; congr; { whnf; congr; { whnf }; { whnf; congr; { whnf }; { whnf; congr; { whnf }; { whnf } } } } }; { whnf; congr; { whnf; congr; { whnf; congr; { whnf }; { whnf; congr; { whnf }; { whnf; congr; { whnf }; { whnf } } } } }; { whnf } }) (by rfl) (by rfl) (by rfl) (by rfl) (.inr rfl) (by rfl) (by rfl) ?_)
   all_goals refine oc ?_
   all_goals (first | refine op_len_sl rfl (by first | (conv => lhs; simp only [List.length_map, bytesAV_length]) | rfl) rfl rfl rfl ?_ | refine x_leno ?_ | refine x_lenn ?_)
   all_goals refine oc (x_move ?_)
   all_goals refine ops_nil ?_
   all_goals refine seqQ_n ?_
   all_goals refine tri_block ?_
   all_goals (
    refine tri_loop (X := { j : Nat // j ≤ 2 }) (fun x => ⟨165, noM, [(7, .ptr 0 7 0 0), (11, .osl 1 7 0 done.length), (17, .ptr 2 3 0 0), (108, .osl 3 3 0 2), (109, iv 2), (110, iv x.1)], [.mk 26 true false 7 [cmdAV again], .mk 26 false false 7 (done.map cmdAV), .mk 32 true false 3 [stoAV s2], .mk 32 false false 3 [stoAV s, stoAV s2]]⟩) (fun x => 2 - x.1) (⟨0, by omega⟩) (by exact le_kept [0, 2, 3, 4] rfl rfl (fun _ _ h => by cases h) rfl ⟨by first | rfl | (simp; done) | (simp; omega) | (congr 2; omega), by first | rfl | (simp; done) | (simp; omega) | (congr 2; omega), by first | rfl | (simp; done) | (simp; omega) | (congr 2; omega), by first | rfl | (simp; done) | (simp; omega) | (congr 2; omega), by first | rfl | (simp; done) | (simp; omega) | (congr 2; omega), by first | rfl | (simp; done) | (simp; omega) | (congr 2; omega), trivial⟩ ⟨by first | rfl | (simp; done) | (simp; omega) | (congr 2; omega), by first | rfl | (simp; done) | (simp; omega) | (congr 2; omega), by first | rfl | (simp; done) | (simp; omega) | (congr 2; omega), by first | rfl | (simp; done) | (simp; omega) | (congr 2; omega), trivial⟩) (fun x => ?_)
    obtain ⟨j, hj⟩ := x
    simp only
    all_goals refine tri_seq ?_
    all_goals refine tri_region ?_
    all_goals refine oc (x_lss ?_)
    all_goals refine ops_nil ?_
    all_goals refine seqQ_n ?_
    all_goals refine tri_seq ?_
    all_goals (
     first | refine tri_cond_d rfl rfl (fun hc => ?_) (fun hc => ?_) | refine ct (fun hc => ?_) (fun hc => ?_) | refine cf (fun hc => ?_) (fun hc => ?_) | refine cb (fun hc => ?_) (fun hc => ?_)
     focus
      try (exfalso; first | exact hc | omega)
      all_goals refine tri_skip ?_
     rotate_right 1
     focus
      try (exfalso; first | exact hc | omega)
      all_goals refine tri_exit ?_
      all_goals refine seqQ_x ?_
      all_goals refine seqQ_x ?_
      all_goals refine blockQ_x ?_
      all_goals refine seqQ_n ?_
      all_goals refine tri_seq ?_
      all_goals refine tri_region ?_
      all_goals refine oc ?_
      all_goals (first | refine x_lda ?_ | refine x_ldra ?_ | refine x_ldp ?_ | refine x_ldrp ?_)
      all_goals refine oc ?_
      all_goals (first | refine x_lda ?_ | refine x_ldra ?_ | refine x_ldp ?_ | refine x_ldrp ?_)
      all_goals refine oc ?_
      all_goals (refine op_callB rfl rfl rfl rfl rfl ⟨_, Try.func10, by decide, rfl⟩ (.cons (.pure rfl) (.cons (.pure rfl) .nil)) (write_w s2 again (by omega) hw1 hw2 hw3 hw4 hw5) ?_)
      all_goals (rintro _ H' m ⟨rfl, rfl⟩)
      all_goals (rcases hI2.write_m1c (by omega) hs2a again with ⟨hf, hw⟩ | ⟨hf, s3, hw, hI3, hs3⟩ <;> rw [hw])
      all_goals refine oc (x_move ?_)
      all_goals refine oc (x_ext ?_)
      all_goals refine oc (x_ext ?_)
      all_goals refine oc (x_al 3 ?_)
      all_goals refine oc (x_st3 ?_)
      all_goals refine oc (x_assign ?_)
      all_goals refine ops_nil ?_
      all_goals refine seqQ_n ?_
      all_goals refine tri_seq ?_
      all_goals refine tri_seq ?_
      all_goals refine tri_region ?_
      all_goals refine oc (x_move ?_)
      all_goals refine oc (x_eql ?_)
      all_goals refine ops_nil ?_
      all_goals refine seqQ_n ?_
      all_goals (
       first | refine tri_cond_d rfl rfl (fun hc => ?_) (fun hc => ?_) | refine ct (fun hc => ?_) (fun hc => ?_) | refine cf (fun hc => ?_) (fun hc => ?_) | refine cb (fun hc => ?_) (fun hc => ?_)
       focus
        try (exfalso; first | exact hc | omega)
        all_goals refine tri_seq ?_
        all_goals refine tri_region ?_
        all_goals refine oc ?_
        all_goals (first | refine x_lda ?_ | refine x_ldra ?_ | refine x_ldp ?_ | refine x_ldrp ?_)
        all_goals refine oc ?_
        all_goals (refine op_callA rfl rfl rfl rfl rfl ⟨_, Try.func16, by decide, rfl⟩ (.cons (.pure rfl) .nil) (none_w zeroSto (by decide)) shut0 ?_)
        all_goals (rintro _ H' m ⟨rfl, rfl⟩)
        all_goals refine oc (x_assign ?_)
        all_goals refine ops_nil ?_
        all_goals refine seqQ_n ?_
        all_goals refine tri_ret ?_
        all_goals refine seqQ_r ?_
        all_goals refine retE_r [] (.cons (.tmp (by conv => lhs; whnf) rfl) .nil) rfl rfl (by first | exact (ren_pure (by rfl)).trans (by conv => lhs; whnf) | ((conv => lhs; whnf); done) | rfl) (.nil) ?_
        all_goals (
         refine ⟨?_, rfl⟩
         first
         | rfl
         | (exfalso; omega)
         | (exfalso; rw [sameL_self] at hg; cases hg; done)
         | (exfalso; rw [sameL_self] at hc; cases hc; done)
         | (exfalso; rw [hI2.valid] at hc; cases hc; done)
         | exact congrArg (fun b => AV.val (Value.bool b)) (decide_eq_true hs3)
         | (exfalso; simp_all; done))
       rotate_right 1
       focus
        try (exfalso; first | exact hc | omega)
        all_goals refine tri_skip ?_)
      all_goals refine seqQ_n ?_
      all_goals refine tri_seq ?_
      all_goals refine tri_region ?_
      all_goals refine oc ?_
      all_goals (first | refine x_lda ?_ | refine x_ldra ?_ | refine x_ldp ?_ | refine x_ldrp ?_)
      all_goals refine oc ?_
      all_goals (refine op_callB rfl rfl rfl rfl rfl ⟨_, Try.func13, by decide, rfl⟩ (.cons (.pure rfl) .nil) (read_w s3 (by have := hI3.sizes; omega)) ?_)
      all_goals (rintro _ H' m ⟨rfl, rfl⟩)
      all_goals (rw [hI3.read])
      all_goals refine oc (x_move ?_)
      all_goals refine oc (x_ext ?_)
      all_goals refine oc (x_ext ?_)
      all_goals refine oc (x_assign ?_)
      all_goals refine oc (x_assign ?_)
      all_goals refine ops_nil ?_
      all_goals refine seqQ_n ?_
      all_goals refine tri_seq ?_
      all_goals refine tri_region ?_
      all_goals refine oc (x_move ?_)
      all_goals refine oc (x_eql ?_)
      all_goals refine oc (x_move ?_)
      all_goals (first | refine gU ?_ | refine gY ?_ | refine gN ?_ | refine ops_guardTd rfl rfl rfl rfl rfl rfl (fun hg => ?_) (fun hg => ?_) | refine gT (fun hg => ?_) (fun hg => ?_))
      all_goals try (exfalso; omega)
      all_goals (first | refine ops_here ?_ | (refine x_move ?_))
      all_goals (first | refine gU ?_ | refine gY ?_ | refine gN ?_ | refine ops_guardTd rfl rfl rfl rfl rfl rfl (fun hg => ?_) (fun hg => ?_) | refine gT (fun hg => ?_) (fun hg => ?_))
      all_goals try (exfalso; omega)
      all_goals (first | refine ops_here ?_ | (refine x_eql ?_))
      all_goals refine oc ?_
      all_goals (first | refine x_pt ?_ | refine x_pf ?_ | refine x_pb ?_)
      all_goals refine oc (x_move ?_)
      all_goals (first | refine gU ?_ | refine gY ?_ | refine gN ?_ | refine ops_guardTd rfl rfl rfl rfl rfl rfl (fun hg => ?_) (fun hg => ?_) | refine gT (fun hg => ?_) (fun hg => ?_))
      all_goals try (exfalso; omega)
      all_goals (first | refine ops_here ?_ | (refine x_move ?_))
      all_goals (first | refine gU ?_ | refine gY ?_ | refine gN ?_ | refine ops_guardTd rfl rfl rfl rfl rfl rfl (fun hg => ?_) (fun hg => ?_) | refine gT (fun hg => ?_) (fun hg => ?_))
      all_goals try (exfalso; omega)
      all_goals (first | refine ops_here ?_ | (refine x_move ?_))
      all_goals (first | refine gU ?_ | refine gY ?_ | refine gN ?_ | refine ops_guardTd rfl rfl rfl rfl rfl rfl (fun hg => ?_) (fun hg => ?_) | refine gT (fun hg => ?_) (fun hg => ?_))
      all_goals try (exfalso; omega)
      all_goals (first | refine ops_here ?_ | (first | refine x_lda ?_ | refine x_ldra ?_ | refine x_ldp ?_ | refine x_ldrp ?_))
      all_goals (first | refine gU ?_ | refine gY ?_ | refine gN ?_ | refine ops_guardTd rfl rfl rfl rfl rfl rfl (fun hg => ?_) (fun hg => ?_) | refine gT (fun hg => ?_) (fun hg => ?_))
      all_goals try (exfalso; omega)
      all_goals (first | refine ops_here ?_ | (refine lit_one (sz := 7) false (by rfl) (by rfl) (by rfl) (by rfl) (by conv => lhs; whnf) (by rfl) (by rfl) (by rfl) (by first | exact (rfl : _ = 0) | exact (rfl : _ = 1) | exact (rfl : _ = 2) | exact (rfl : _ = 3) | exact (rfl : _ = 4) | exact (rfl : _ = 5) | exact (rfl : _ = 6) | exact (rfl : _ = 7) | exact (rfl : _ = 8) | exact (rfl : _ = 9) | exact (rfl : _ = 10) | exact (rfl : _ = 11)) (by rfl) (by conv => lhs; whnf) (by rfl)  (by rfl) (by first | exact .inl rfl | exact .inr rfl) (by rfl) (by rfl) ?_))
      all_goals (first | refine gU ?_ | refine gY ?_ | refine gN ?_ | refine ops_guardTd rfl rfl rfl rfl rfl rfl (fun hg => ?_) (fun hg => ?_) | refine gT (fun hg => ?_) (fun hg => ?_))
      all_goals try (exfalso; omega)
      all_goals (first | refine ops_here ?_ | (first | refine op_append rfl (by conv => lhs; whnf) rfl rfl rfl (Elem.mk (sz := 7) (by rfl) (by rfl) (by rfl) (by rfl) (by conv => lhs; whnf) (by rfl) (by rfl) (by rfl)) rfl (by first | omega | simp) (by first | exact Src.sl | exact Src.own rfl (by conv => lhs; first | simp only [List.drop_zero, List.take_succ_cons, List.take_zero, List.take_nil, take_bytes] | whnf) (by first | omega | simp) | exact Src.nil) (by first | (simp only [Nat.mul_one, bytesAV_length]; omega) | (simp; omega)) ?_ | refine opTri_le (le_own 151 26 7 rfl) (op_append rfl (by conv => lhs; whnf) rfl rfl rfl (Elem.mk (sz := 7) (by rfl) (by rfl) (by rfl) (by rfl) (by conv => lhs; whnf) (by rfl) (by rfl) (by rfl)) rfl (by first | omega | simp) (by first | exact Src.sl | exact Src.own rfl (by conv => lhs; first | simp only [List.drop_zero, List.take_succ_cons, List.take_zero, List.take_nil, take_bytes] | whnf) (by first | omega | simp) | exact Src.nil) (by first | (simp only [Nat.mul_one, bytesAV_length]; omega) | (simp; omega)) ?_)))
      all_goals (first | refine gU ?_ | refine gY ?_ | refine gN ?_ | refine ops_guardTd rfl rfl rfl rfl rfl rfl (fun hg => ?_) (fun hg => ?_) | refine gT (fun hg => ?_) (fun hg => ?_))
      all_goals try (exfalso; omega)
      all_goals (first | refine ops_here ?_ | (refine op_callA rfl rfl rfl rfl rfl ⟨_, Try.func14, by decide, rfl⟩ (.cons (.pure rfl) (.cons (.own (by first | ((conv => lhs; whnf; arg 1; whnf); done) | rfl | assumption | (simp; done)) (own_snoc done again) (own_snoc_len done again)) (.cons SnapR.fn0 .nil))) (eqC_w (done ++ [again]) (done ++ [again]) (by simp; omega) (by simp; omega) (formed_data hI3.form) (formed_data hI3.form)) shut0 ?_))
      all_goals (first | refine ops_here ?_ | (rintro _ H' m ⟨rfl, rfl⟩))
      all_goals (first | refine ops_here ?_ | (rw [sameL_self]))
      all_goals refine oc ?_
      all_goals (first | refine x_pt ?_ | refine x_pf ?_ | refine x_pb ?_)
      all_goals refine oc (x_move ?_)
      all_goals (first | refine gU ?_ | refine gY ?_ | refine gN ?_ | refine ops_guardTd rfl rfl rfl rfl rfl rfl (fun hg => ?_) (fun hg => ?_) | refine gT (fun hg => ?_) (fun hg => ?_))
      all_goals try (exfalso; omega)
      all_goals (first | refine ops_here ?_ | (first | refine x_fa0 ?_ | refine x_far0 ?_ | refine x_fa ?_ | refine x_far ?_))
      all_goals (first | refine gU ?_ | refine gY ?_ | refine gN ?_ | refine ops_guardTd rfl rfl rfl rfl rfl rfl (fun hg => ?_) (fun hg => ?_) | refine gT (fun hg => ?_) (fun hg => ?_))
      all_goals try (exfalso; omega)
      all_goals (first | refine ops_here ?_ | (first | refine x_ld ?_ | refine x_ldr ?_))
      all_goals (first | refine gU ?_ | refine gY ?_ | refine gN ?_ | refine ops_guardTd rfl rfl rfl rfl rfl rfl (fun hg => ?_) (fun hg => ?_) | refine gT (fun hg => ?_) (fun hg => ?_))
      all_goals try (exfalso; omega)
      all_goals (first | refine ops_here ?_ | (first | refine x_fa0 ?_ | refine x_far0 ?_ | refine x_fa ?_ | refine x_far ?_))
      all_goals (first | refine gU ?_ | refine gY ?_ | refine gN ?_ | refine ops_guardTd rfl rfl rfl rfl rfl rfl (fun hg => ?_) (fun hg => ?_) | refine gT (fun hg => ?_) (fun hg => ?_))
      all_goals try (exfalso; omega)
      all_goals (first | refine ops_here ?_ | (first | refine x_ld ?_ | refine x_ldr ?_))
      all_goals (first | refine gU ?_ | refine gY ?_ | refine gN ?_ | refine ops_guardTd rfl rfl rfl rfl rfl rfl (fun hg => ?_) (fun hg => ?_) | refine gT (fun hg => ?_) (fun hg => ?_))
      all_goals try (exfalso; omega)
      all_goals (first | refine ops_here ?_ | (first | refine op_len_sl rfl (by first | (conv => lhs; simp only [List.length_map, bytesAV_length]) | rfl) rfl rfl rfl ?_ | refine x_leno ?_ | refine x_lenn ?_))
      all_goals (first | refine gU ?_ | refine gY ?_ | refine gN ?_ | refine ops_guardTd rfl rfl rfl rfl rfl rfl (fun hg => ?_) (fun hg => ?_) | refine gT (fun hg => ?_) (fun hg => ?_))
      all_goals try (exfalso; omega)
      all_goals (first | refine ops_here ?_ | (refine x_eql ?_))
      all_goals refine oc ?_
      all_goals (first | refine x_pt ?_ | refine x_pf ?_ | refine x_pb ?_)
      all_goals refine oc (x_assign ?_)
      all_goals refine ops_nil ?_
      all_goals refine seqQ_n ?_
      all_goals refine tri_ret ?_
      all_goals refine retE_r [] (.cons (.tmp (by conv => lhs; whnf) rfl) .nil) rfl rfl (by first | exact (ren_pure (by rfl)).trans (by conv => lhs; whnf) | ((conv => lhs; whnf); done) | rfl) (.nil) ?_
      all_goals (
       refine ⟨?_, rfl⟩
       first
       | rfl
       | (exfalso; omega)
       | (exfalso; rw [sameL_self] at hg; cases hg; done)
       | (exfalso; rw [sameL_self] at hc; cases hc; done)
       | (exfalso; rw [hI2.valid] at hc; cases hc; done)
       | exact congrArg (fun b => AV.val (Value.bool b)) (decide_eq_true hs3)
       | (exfalso; simp_all; done)))
    all_goals refine seqQ_n ?_
    all_goals refine tri_seq ?_
    all_goals refine tri_block ?_
    all_goals refine tri_seq ?_
    all_goals refine tri_region ?_
    all_goals (
     obtain ⟨y, ty, hy, hyI⟩ : ∃ y ty, [stoAV s, stoAV s2][j]? = some (stoAV y) ∧ Inv y done ty := by
       have : j = 0 ∨ j = 1 := by omega
       rcases this with rfl | rfl
       · exact ⟨s, tail, rfl, hI⟩
       · exact ⟨s2, t2, rfl, hI2⟩)
    all_goals refine oc ?_
    all_goals (first | refine x_ia ?_ | refine x_iao0 ?_ | refine x_iao ?_)
    all_goals refine oc ?_
    all_goals (first | refine x_lda ?_ | refine x_ldra ?_ | refine x_ldp ?_ | refine x_ldrp ?_)
    all_goals refine oc (x_al 3 ?_)
    all_goals refine oc (x_st3 ?_)
    all_goals refine ops_nil ?_
    all_goals refine seqQ_n ?_
    all_goals refine tri_seq ?_
    all_goals refine tri_region ?_
    all_goals refine oc ?_
    all_goals (first | refine x_lda ?_ | refine x_ldra ?_ | refine x_ldp ?_ | refine x_ldrp ?_)
    all_goals refine oc ?_
    all_goals (refine op_callB rfl rfl rfl rfl rfl ⟨_, Try.func13, by decide, rfl⟩ (.cons (.pure rfl) .nil) (read_w y (by have := hyI.sizes; omega)) ?_)
    all_goals (rintro _ H' m ⟨rfl, rfl⟩)
    all_goals (rw [hyI.read])
    all_goals refine oc (x_move ?_)
    all_goals refine oc (x_ext ?_)
    all_goals refine oc (x_ext ?_)
    all_goals refine oc (x_assign ?_)
    all_goals refine oc (x_assign ?_)
    all_goals refine ops_nil ?_
    all_goals refine seqQ_n ?_
    all_goals refine tri_seq ?_
    all_goals refine tri_region ?_
    all_goals refine oc (x_move ?_)
    all_goals refine oc (x_neq ?_)
    all_goals refine oc (x_move ?_)
    all_goals (first | refine gU ?_ | refine gY ?_ | refine gN ?_ | refine ops_guardFd rfl rfl rfl rfl rfl rfl (fun hg => ?_) (fun hg => ?_) | refine gF (fun hg => ?_) (fun hg => ?_))
    all_goals try (exfalso; omega)
    all_goals (first | refine ops_here ?_ | (refine x_move ?_))
    all_goals (first | refine gU ?_ | refine gY ?_ | refine gN ?_ | refine ops_guardFd rfl rfl rfl rfl rfl rfl (fun hg => ?_) (fun hg => ?_) | refine gF (fun hg => ?_) (fun hg => ?_))
    all_goals try (exfalso; omega)
    all_goals (first | refine ops_here ?_ | (refine x_move ?_))
    all_goals (first | refine gU ?_ | refine gY ?_ | refine gN ?_ | refine ops_guardFd rfl rfl rfl rfl rfl rfl (fun hg => ?_) (fun hg => ?_) | refine gF (fun hg => ?_) (fun hg => ?_))
    all_goals try (exfalso; omega)
    all_goals (first | refine ops_here ?_ | (refine op_callA rfl rfl rfl rfl rfl ⟨_, Try.func14, by decide, rfl⟩ (.cons (.pure rfl) (.cons (.own (by first | ((conv => lhs; whnf; arg 1; whnf); done) | rfl | assumption | (simp; done)) (by conv => lhs; simp only [List.drop_zero, take_cmds]) (by simp)) (.cons SnapR.fn0 .nil))) (eqC_w done done (by omega) (by omega) hfd hfd) shut0 ?_))
    all_goals (first | refine ops_here ?_ | (rintro _ H' m ⟨rfl, rfl⟩))
    all_goals (first | refine ops_here ?_ | (rw [sameL_self]))
    all_goals (first | refine gU ?_ | refine gY ?_ | refine gN ?_ | refine ops_guardFd rfl rfl rfl rfl rfl rfl (fun hg => ?_) (fun hg => ?_) | refine gF (fun hg => ?_) (fun hg => ?_))
    all_goals try (exfalso; omega)
    all_goals (first | refine ops_here ?_ | (first | refine op_not_d rfl rfl rfl ?_ | refine x_not ?_))
    all_goals refine oc ?_
    all_goals (first | refine x_pt ?_ | refine x_pf ?_ | refine x_pb ?_)
    all_goals refine ops_nil ?_
    all_goals refine seqQ_n ?_
    all_goals (
     first | refine tri_cond_d rfl rfl (fun hc => ?_) (fun hc => ?_) | refine ct (fun hc => ?_) (fun hc => ?_) | refine cf (fun hc => ?_) (fun hc => ?_) | refine cb (fun hc => ?_) (fun hc => ?_)
     focus
      try (exfalso; first | exact hc | omega)
      all_goals refine tri_seq ?_
      all_goals refine tri_region ?_
      all_goals refine oc (x_assign ?_)
      all_goals refine ops_nil ?_
      all_goals refine seqQ_n ?_
      all_goals refine tri_ret ?_
      all_goals refine blockQ_r ?_
      all_goals refine seqQ_r ?_
      all_goals refine seqQ_r ?_
      all_goals refine blockQ_r ?_
      all_goals refine seqQ_r ?_
      all_goals refine retE_r [] (.cons (.tmp (by conv => lhs; whnf) rfl) .nil) rfl rfl (by first | exact (ren_pure (by rfl)).trans (by conv => lhs; whnf) | ((conv => lhs; whnf); done) | rfl) (.nil) ?_
      all_goals (
       refine ⟨?_, rfl⟩
       first
       | rfl
       | (exfalso; omega)
       | (exfalso; rw [sameL_self] at hg; cases hg; done)
       | (exfalso; rw [sameL_self] at hc; cases hc; done)
       | (exfalso; rw [hI2.valid] at hc; cases hc; done)
       | exact congrArg (fun b => AV.val (Value.bool b)) (decide_eq_true hs3)
       | (exfalso; simp_all; done))
     rotate_right 1
     focus
      try (exfalso; first | exact hc | omega)
      all_goals refine tri_skip ?_)
    all_goals refine blockQ_n ?_
    all_goals refine seqQ_n ?_
    all_goals refine tri_region ?_
    all_goals refine oc ?_
    all_goals (first | refine x_add64 ?_ | refine x_add ?_)
    all_goals refine oc (x_move ?_)
    all_goals refine ops_nil ?_
    all_goals refine seqQ_n ?_
    all_goals (exact ⟨⟨j + 1, by omega⟩, by dsimp only; omega, le_kept [0, 1, 2, 3] rfl rfl (fun _ _ h => by cases h) rfl ⟨by first | rfl | (simp; done) | (simp; omega) | (congr 2; omega), by first | rfl | (simp; done) | (simp; omega) | (congr 2; omega), by first | rfl | (simp; done) | (simp; omega) | (congr 2; omega), by first | rfl | (simp; done) | (simp; omega) | (congr 2; omega), by first | rfl | (simp; done) | (simp; omega) | (congr 2; omega), by first | rfl | (simp; done) | (simp; omega) | (congr 2; omega), trivial⟩ ⟨by first | rfl | (simp; done) | (simp; omega) | (congr 2; omega), by first | rfl | (simp; done) | (simp; omega) | (congr 2; omega), by first | rfl | (simp; done) | (simp; omega) | (congr 2; omega), by first | rfl | (simp; done) | (simp; omega) | (congr 2; omega), trivial⟩⟩)))

end Go.Proofs.Ytjalgcjllddmhaa

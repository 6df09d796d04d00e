/- A text of the proof of JournalTorn: JW3 -/
import Derived.Test.YtjalgcjllddmhaaProg
import Derived.Test.YtjalgcjllddmhaaAvShort
import Derived.Test.YtjalgcjllddmhaaAvAppS
import Derived.Test.YtjalgcjllddmhaaAvSnap
import Derived.Test.YtjalgcjllddmhaaAvAny
import Derived.Test.YtjalgcjllddmhaaAvLit
import Derived.Test.YtjalgcjllddmhaaJW2

set_option linter.unusedSimpArgs false
set_option linter.unusedVariables false
set_option maxHeartbeats 8000000
set_option maxRecDepth 100000
namespace Go.Proofs.Ytjalgcjllddmhaa
open Go.Av
/-- the walk of (*casebook/journal.reader).command -/
theorem rdCmd_w (r : Rd) (hl : r.b.length ≤ 2 ^ 47) : HSpec Try.prog 47 [.ptr 0 2 0 0] [rdO r] fun v H' m => v = cmdAV (rdCmd r).1 ∧ H' = [rdO (rdCmd r).2] ∧ m 0 = some 0 := by
 obtain ⟨r1, e1⟩ : ∃ x, x = (rdNum r).2 := ⟨_, rfl⟩
 obtain ⟨r2, e2⟩ : ∃ x, x = (rdNum r1).2 := ⟨_, rfl⟩
 obtain ⟨r3, e3⟩ : ∃ x, x = (rdNum r2).2 := ⟨_, rfl⟩
 obtain ⟨r4, e4⟩ : ∃ x, x = (rdText r3).2 := ⟨_, rfl⟩
 obtain ⟨r5, e5⟩ : ∃ x, x = (rdText r4).2 := ⟨_, rfl⟩
 obtain ⟨r6, e6⟩ : ∃ x, x = (rdText r5).2 := ⟨_, rfl⟩
 obtain ⟨r7, e7⟩ : ∃ x, x = (rdNum r6).2 := ⟨_, rfl⟩
 have l1 := rdNum_len r
 have l2 := rdNum_len r1
 have l3 := rdNum_len r2
 have l4 := rdText_len r3
 have l5 := rdText_len r4
 have l6 := rdText_len r5
 have l7 := rdNum_len r6
 rw [← e1] at l1; rw [← e2] at l2; rw [← e3] at l3; rw [← e4] at l4; rw [← e5] at l5; rw [← e6] at l6; rw [← e7] at l7
 refine hspec_intro Try.func47 rfl rfl ?_
 all_goals refine tri_seq ?_
 all_goals refine tri_region ?_
 all_goals refine oc (x_al 7 ?_)
 all_goals refine ops_nil ?_
 all_goals refine seqQ_n ?_
 all_goals refine tri_seq ?_
 all_goals refine tri_region ?_
 all_goals refine oc (x_move ?_)
 all_goals refine oc ?_
 all_goals (refine lit_callG [0] [] rfl rfl rfl rfl rfl ⟨_, Try.func37, by decide, rfl⟩ rfl rfl (.cons (.own (by conv => lhs; whnf)) .nil) rfl (by rfl) (rdNum_w r (by omega)) (by rintro r H' m ⟨rfl, rfl, hm⟩; exact hand_one (by simp) hm) (by first | exact (rfl : _ = 0) | exact (rfl : _ = 1) | exact (rfl : _ = 2) | exact (rfl : _ = 3) | exact (rfl : _ = 4) | exact (rfl : _ = 5) | exact (rfl : _ = 6) | exact (rfl : _ = 7) | exact (rfl : _ = 8) | exact (rfl : _ = 9) | exact (rfl : _ = 10) | exact (rfl : _ = 11)) (by conv => lhs; whnf) ?_)
 all_goals (rintro _ H' m ⟨rfl, rfl, hm⟩)
 all_goals (rw [← e1])
 all_goals refine oc (x_move ?_)
 all_goals refine oc ?_
 all_goals (refine lit_callG [0] [] rfl rfl rfl rfl rfl ⟨_, Try.func37, by decide, rfl⟩ rfl rfl (.cons (.own (by conv => lhs; whnf)) .nil) rfl (by rfl) (rdNum_w r1 (by omega)) (by rintro r H' m ⟨rfl, rfl, hm⟩; exact hand_one (by simp) hm) (by first | exact (rfl : _ = 0) | exact (rfl : _ = 1) | exact (rfl : _ = 2) | exact (rfl : _ = 3) | exact (rfl : _ = 4) | exact (rfl : _ = 5) | exact (rfl : _ = 6) | exact (rfl : _ = 7) | exact (rfl : _ = 8) | exact (rfl : _ = 9) | exact (rfl : _ = 10) | exact (rfl : _ = 11)) (by conv => lhs; whnf) ?_)
 all_goals (rintro _ H' m ⟨rfl, rfl, hm⟩)
 all_goals (rw [← e2])
 all_goals refine oc (x_move ?_)
 all_goals refine oc ?_
 all_goals (refine lit_callG [0] [] rfl rfl rfl rfl rfl ⟨_, Try.func37, by decide, rfl⟩ rfl rfl (.cons (.own (by conv => lhs; whnf)) .nil) rfl (by rfl) (rdNum_w r2 (by omega)) (by rintro r H' m ⟨rfl, rfl, hm⟩; exact hand_one (by simp) hm) (by first | exact (rfl : _ = 0) | exact (rfl : _ = 1) | exact (rfl : _ = 2) | exact (rfl : _ = 3) | exact (rfl : _ = 4) | exact (rfl : _ = 5) | exact (rfl : _ = 6) | exact (rfl : _ = 7) | exact (rfl : _ = 8) | exact (rfl : _ = 9) | exact (rfl : _ = 10) | exact (rfl : _ = 11)) (by conv => lhs; whnf) ?_)
 all_goals (rintro _ H' m ⟨rfl, rfl, hm⟩)
 all_goals (rw [← e3])
 all_goals refine oc (x_move ?_)
 all_goals refine oc ?_
 all_goals (refine lit_callG [0] [] rfl rfl rfl rfl rfl ⟨_, Try.func50, by decide, rfl⟩ rfl rfl (.cons (.own (by conv => lhs; whnf)) .nil) rfl (by rfl) (rdText_w r3 (by omega)) (by rintro r H' m ⟨rfl, rfl, hm⟩; exact hand_one (by simp) hm) (by first | exact (rfl : _ = 0) | exact (rfl : _ = 1) | exact (rfl : _ = 2) | exact (rfl : _ = 3) | exact (rfl : _ = 4) | exact (rfl : _ = 5) | exact (rfl : _ = 6) | exact (rfl : _ = 7) | exact (rfl : _ = 8) | exact (rfl : _ = 9) | exact (rfl : _ = 10) | exact (rfl : _ = 11)) (by conv => lhs; whnf) ?_)
 all_goals (rintro _ H' m ⟨rfl, rfl, hm⟩)
 all_goals (rw [← e4])
 all_goals refine oc (x_move ?_)
 all_goals refine oc ?_
 all_goals (refine lit_callG [0] [] rfl rfl rfl rfl rfl ⟨_, Try.func50, by decide, rfl⟩ rfl rfl (.cons (.own (by conv => lhs; whnf)) .nil) rfl (by rfl) (rdText_w r4 (by omega)) (by rintro r H' m ⟨rfl, rfl, hm⟩; exact hand_one (by simp) hm) (by first | exact (rfl : _ = 0) | exact (rfl : _ = 1) | exact (rfl : _ = 2) | exact (rfl : _ = 3) | exact (rfl : _ = 4) | exact (rfl : _ = 5) | exact (rfl : _ = 6) | exact (rfl : _ = 7) | exact (rfl : _ = 8) | exact (rfl : _ = 9) | exact (rfl : _ = 10) | exact (rfl : _ = 11)) (by conv => lhs; whnf) ?_)
 all_goals (rintro _ H' m ⟨rfl, rfl, hm⟩)
 all_goals (rw [← e5])
 all_goals refine oc (x_move ?_)
 all_goals refine oc ?_
 all_goals (refine lit_callG [0] [] rfl rfl rfl rfl rfl ⟨_, Try.func50, by decide, rfl⟩ rfl rfl (.cons (.own (by conv => lhs; whnf)) .nil) rfl (by rfl) (rdText_w r5 (by omega)) (by rintro r H' m ⟨rfl, rfl, hm⟩; exact hand_one (by simp) hm) (by first | exact (rfl : _ = 0) | exact (rfl : _ = 1) | exact (rfl : _ = 2) | exact (rfl : _ = 3) | exact (rfl : _ = 4) | exact (rfl : _ = 5) | exact (rfl : _ = 6) | exact (rfl : _ = 7) | exact (rfl : _ = 8) | exact (rfl : _ = 9) | exact (rfl : _ = 10) | exact (rfl : _ = 11)) (by conv => lhs; whnf) ?_)
 all_goals (rintro _ H' m ⟨rfl, rfl, hm⟩)
 all_goals (rw [← e6])
 all_goals refine oc (x_b6_7 ?_)
 all_goals (refine ops_le (lit_ownA 19 6 54 3 (by conv => lhs; whnf) (by first | exact (rfl : _ = 0) | exact (rfl : _ = 1) | exact (rfl : _ = 2) | exact (rfl : _ = 3) | exact (rfl : _ = 4) | exact (rfl : _ = 5) | exact (rfl : _ = 6) | exact (rfl : _ = 7) | exact (rfl : _ = 8) | exact (rfl : _ = 9) | exact (rfl : _ = 10) | exact (rfl : _ = 11)) (by rfl) (by conv => lhs; simp only [List.set_cons_zero, List.set_cons_succ])) ?_)
 all_goals refine oc (x_al 7 ?_)
 all_goals refine oc (x_st7 ?_)
 all_goals refine ops_nil ?_
 all_goals refine seqQ_n ?_
 all_goals refine tri_seq ?_
 all_goals refine tri_seq ?_
 all_goals refine tri_region ?_
 all_goals refine oc (x_move ?_)
 all_goals refine oc ?_
 all_goals (refine lit_callG [0] [] rfl rfl rfl rfl rfl ⟨_, Try.func37, by decide, rfl⟩ rfl rfl (.cons (.own (by conv => lhs; whnf)) .nil) rfl (by rfl) (rdNum_w r6 (by omega)) (by rintro r H' m ⟨rfl, rfl, hm⟩; exact hand_one (by simp) hm) (by first | exact (rfl : _ = 0) | exact (rfl : _ = 1) | exact (rfl : _ = 2) | exact (rfl : _ = 3) | exact (rfl : _ = 4) | exact (rfl : _ = 5) | exact (rfl : _ = 6) | exact (rfl : _ = 7) | exact (rfl : _ = 8) | exact (rfl : _ = 9) | exact (rfl : _ = 10) | exact (rfl : _ = 11)) (by conv => lhs; whnf) ?_)
 all_goals (rintro _ H' m ⟨rfl, rfl, hm⟩)
 all_goals (rw [← e7])
 all_goals refine oc (x_assign ?_)
 all_goals refine ops_nil ?_
 all_goals refine seqQ_n ?_
 all_goals refine tri_block ?_
 all_goals (
  refine tri_loop (X := { p : (List Val × Nat) × Rd // p.1.1.length ≤ 9 ∧ p.1.2 < 2 ^ 57 ∧ p.2.b.length ≤ 2 ^ 47 ∧ rdVals p.1.2 p.1.1 p.2 = rdVals (rdNum r6).1 [] r7 }) (fun x => ⟨74, keepMap [0], [(0, .ptr 0 2 0 0), (2, .ptr 1 7 0 0), (3, .ptr 3 7 0 0), (4, iv x.1.1.2)], [.mk 68 true false 2 [.agg [.sl 1 (bytesAV x.1.2.b), bv x.1.2.bad]], .mk 26 true false 7 [.agg [iv 0, iv 0, iv 0, sv noS, sv noS, sv noS, .val (.slice none 0 0)]], .mk 54 false false 3 (x.1.1.1.map valAV), .mk 26 true false 7 [.agg [iv (rdNum r).1, iv (rdNum r1).1, iv (rdNum r2).1, sv (bs (rdText r3).1), sv (bs (rdText r4).1), sv (bs (rdText r5).1), .osl 2 3 0 x.1.1.1.length]]]⟩) (fun x => x.1.1.2) (⟨(([], (rdNum r6).1), r7), by simp, by have := rdNum_lt r6; dsimp only; omega, by dsimp only; omega, rfl⟩) (by exact le_kept [0, 1, 2, 3] rfl rfl (fun i k h => by obtain ⟨rfl, rfl⟩ := keep_zero h; rfl) rfl ⟨by first | rfl | ((conv => lhs; whnf); dsimp only [iv]; congr 2; omega) | ((conv => lhs; whnf); dsimp only; rw [hval]; (try rw [quo2 hq]); (try rw [neg2 hq]); (try rw [show ((rdNum r8).1 : Int) = 3 by assumption]); (try rw [show ((rdNum r8).1 : Int) = 2 by assumption]); first | rfl | (rw [List.length_append]; rfl) | (simp only [take_vals, List.map_append]; rfl) | (simp [valAV]; done)), by first | rfl | ((conv => lhs; whnf); dsimp only [iv]; congr 2; omega) | ((conv => lhs; whnf); dsimp only; rw [hval]; (try rw [quo2 hq]); (try rw [neg2 hq]); (try rw [show ((rdNum r8).1 : Int) = 3 by assumption]); (try rw [show ((rdNum r8).1 : Int) = 2 by assumption]); first | rfl | (rw [List.length_append]; rfl) | (simp only [take_vals, List.map_append]; rfl) | (simp [valAV]; done)), by first | rfl | ((conv => lhs; whnf); dsimp only [iv]; congr 2; omega) | ((conv => lhs; whnf); dsimp only; rw [hval]; (try rw [quo2 hq]); (try rw [neg2 hq]); (try rw [show ((rdNum r8).1 : Int) = 3 by assumption]); (try rw [show ((rdNum r8).1 : Int) = 2 by assumption]); first | rfl | (rw [List.length_append]; rfl) | (simp only [take_vals, List.map_append]; rfl) | (simp [valAV]; done)), by first | rfl | ((conv => lhs; whnf); dsimp only [iv]; congr 2; omega) | ((conv => lhs; whnf); dsimp only; rw [hval]; (try rw [quo2 hq]); (try rw [neg2 hq]); (try rw [show ((rdNum r8).1 : Int) = 3 by assumption]); (try rw [show ((rdNum r8).1 : Int) = 2 by assumption]); first | rfl | (rw [List.length_append]; rfl) | (simp only [take_vals, List.map_append]; rfl) | (simp [valAV]; done)), trivial⟩ ⟨by first | rfl | ((conv => lhs; whnf); dsimp only [iv]; congr 2; omega) | ((conv => lhs; whnf); dsimp only; rw [hval]; (try rw [quo2 hq]); (try rw [neg2 hq]); (try rw [show ((rdNum r8).1 : Int) = 3 by assumption]); (try rw [show ((rdNum r8).1 : Int) = 2 by assumption]); first | rfl | (rw [List.length_append]; rfl) | (simp only [take_vals, List.map_append]; rfl) | (simp [valAV]; done)), by first | rfl | ((conv => lhs; whnf); dsimp only [iv]; congr 2; omega) | ((conv => lhs; whnf); dsimp only; rw [hval]; (try rw [quo2 hq]); (try rw [neg2 hq]); (try rw [show ((rdNum r8).1 : Int) = 3 by assumption]); (try rw [show ((rdNum r8).1 : Int) = 2 by assumption]); first | rfl | (rw [List.length_append]; rfl) | (simp only [take_vals, List.map_append]; rfl) | (simp [valAV]; done)), by first | rfl | ((conv => lhs; whnf); dsimp only [iv]; congr 2; omega) | ((conv => lhs; whnf); dsimp only; rw [hval]; (try rw [quo2 hq]); (try rw [neg2 hq]); (try rw [show ((rdNum r8).1 : Int) = 3 by assumption]); (try rw [show ((rdNum r8).1 : Int) = 2 by assumption]); first | rfl | (rw [List.length_append]; rfl) | (simp only [take_vals, List.map_append]; rfl) | (simp [valAV]; done)), by first | rfl | ((conv => lhs; whnf); dsimp only [iv]; congr 2; omega) | ((conv => lhs; whnf); dsimp only; rw [hval]; (try rw [quo2 hq]); (try rw [neg2 hq]); (try rw [show ((rdNum r8).1 : Int) = 3 by assumption]); (try rw [show ((rdNum r8).1 : Int) = 2 by assumption]); first | rfl | (rw [List.length_append]; rfl) | (simp only [take_vals, List.map_append]; rfl) | (simp [valAV]; done)), trivial⟩) (fun x => ?_)
  obtain ⟨⟨⟨acc, n⟩, r8⟩, ha, hn, hr, hx⟩ := x
  simp only at ha hn hr hx ⊢
  have l8 := rdNum_len r8
  have hq := rdNum_lt (rdNum r8).2
  all_goals refine tri_seq ?_
  all_goals refine tri_seq ?_
  all_goals refine tri_region ?_
  all_goals refine oc (x_move ?_)
  all_goals refine oc (x_gtr ?_)
  all_goals refine oc (x_move ?_)
  all_goals (first | refine gU ?_ | refine gY ?_ | refine gN ?_ | refine ops_guardTd rfl rfl rfl rfl rfl rfl (fun hg => ?_) (fun hg => ?_) | refine gT (fun hg => ?_) (fun hg => ?_))
  all_goals try (exfalso; omega)
  all_goals (first | refine ops_here ?_ | (refine x_move ?_))
  all_goals (first | refine gU ?_ | refine gY ?_ | refine gN ?_ | refine ops_guardTd rfl rfl rfl rfl rfl rfl (fun hg => ?_) (fun hg => ?_) | refine gT (fun hg => ?_) (fun hg => ?_))
  all_goals try (exfalso; omega)
  all_goals (first | refine ops_here ?_ | (first | refine op_nilCheck_ptr rfl rfl rfl ?_ | refine op_nilCheck_rp rfl rfl rfl ?_))
  all_goals (first | refine gU ?_ | refine gY ?_ | refine gN ?_ | refine ops_guardTd rfl rfl rfl rfl rfl rfl (fun hg => ?_) (fun hg => ?_) | refine gT (fun hg => ?_) (fun hg => ?_))
  all_goals try (exfalso; omega)
  all_goals (first | refine ops_here ?_ | (first | refine x_fa0 ?_ | refine x_far0 ?_ | refine x_fa ?_ | refine x_far ?_))
  all_goals (first | refine gU ?_ | refine gY ?_ | refine gN ?_ | refine ops_guardTd rfl rfl rfl rfl rfl rfl (fun hg => ?_) (fun hg => ?_) | refine gT (fun hg => ?_) (fun hg => ?_))
  all_goals try (exfalso; omega)
  all_goals (first | refine ops_here ?_ | (first | refine x_ld ?_ | refine x_ldr ?_))
  all_goals (first | refine gU ?_ | refine gY ?_ | refine gN ?_ | refine ops_guardTd rfl rfl rfl rfl rfl rfl (fun hg => ?_) (fun hg => ?_) | refine gT (fun hg => ?_) (fun hg => ?_))
  all_goals try (exfalso; omega)
  all_goals (first | refine ops_here ?_ | (first | refine op_not_d rfl rfl rfl ?_ | refine x_not ?_))
  all_goals refine oc ?_
  all_goals (first | refine x_pt ?_ | refine x_pf ?_ | refine x_pb ?_)
  all_goals refine oc (x_move ?_)
  all_goals (first | refine gU ?_ | refine gY ?_ | refine gN ?_ | refine ops_guardTd rfl rfl rfl rfl rfl rfl (fun hg => ?_) (fun hg => ?_) | refine gT (fun hg => ?_) (fun hg => ?_))
  all_goals try (exfalso; omega)
  all_goals (first | refine ops_here ?_ | (first | refine x_fa0 ?_ | refine x_far0 ?_ | refine x_fa ?_ | refine x_far ?_))
  all_goals (first | refine gU ?_ | refine gY ?_ | refine gN ?_ | refine ops_guardTd rfl rfl rfl rfl rfl rfl (fun hg => ?_) (fun hg => ?_) | refine gT (fun hg => ?_) (fun hg => ?_))
  all_goals try (exfalso; omega)
  all_goals (first | refine ops_here ?_ | (first | refine x_ld ?_ | refine x_ldr ?_))
  all_goals (first | refine gU ?_ | refine gY ?_ | refine gN ?_ | refine ops_guardTd rfl rfl rfl rfl rfl rfl (fun hg => ?_) (fun hg => ?_) | refine gT (fun hg => ?_) (fun hg => ?_))
  all_goals try (exfalso; omega)
  all_goals (first | refine ops_here ?_ | (first | refine op_len_sl rfl (by first | (conv => lhs; simp only [List.length_map, bytesAV_length]) | rfl) rfl rfl rfl ?_ | refine x_leno ?_ | refine x_lenn ?_))
  all_goals (first | refine gU ?_ | refine gY ?_ | refine gN ?_ | refine ops_guardTd rfl rfl rfl rfl rfl rfl (fun hg => ?_) (fun hg => ?_) | refine gT (fun hg => ?_) (fun hg => ?_))
  all_goals try (exfalso; omega)
  all_goals (first | refine ops_here ?_ | (refine x_leq ?_))
  all_goals refine oc ?_
  all_goals (first | refine x_pt ?_ | refine x_pf ?_ | refine x_pb ?_)
  all_goals refine ops_nil ?_
  all_goals refine seqQ_n ?_
  all_goals (
   first | refine tri_cond_d rfl rfl (fun hc => ?_) (fun hc => ?_) | refine ct (fun hc => ?_) (fun hc => ?_) | refine cf (fun hc => ?_) (fun hc => ?_) | refine cb (fun hc => ?_) (fun hc => ?_)
   focus
    try (exfalso; first | exact hc | omega)
    all_goals refine tri_skip ?_
   rotate_right 1
   focus
    try (exfalso; first | exact hc | omega)
    all_goals refine tri_exit ?_
    all_goals refine seqQ_x ?_
    all_goals refine seqQ_x ?_
    all_goals refine blockQ_x ?_
    all_goals refine seqQ_n ?_
    all_goals refine tri_seq ?_
    all_goals refine tri_region ?_
    all_goals refine oc ?_
    all_goals (first | refine x_lda ?_ | refine x_ldra ?_ | refine x_ldp ?_ | refine x_ldrp ?_)
    all_goals refine oc (x_st7 ?_)
    all_goals refine ops_nil ?_
    all_goals refine seqQ_n ?_
    all_goals (refine tri_le (lit_snapO 1 (by first | ((conv => lhs; whnf; arg 1; whnf); done) | rfl | assumption | (simp; done)) (by conv => lhs; whnf; congr; { whnf }; { whnf; congr; { whnf }; { whnf; congr; { whnf }; { whnf; congr; { whnf }; { whnf; congr; { whnf }; { whnf; congr; { whnf }; { whnf; congr; { whnf }; { whnf } } } } } } }) (by exact .cons (.pure rfl) (.cons (.pure rfl) (.cons (.pure rfl) (.cons (.pure rfl) (.cons (.pure rfl) (.cons (.pure rfl) (.cons (.own (by first | ((conv => lhs; whnf; arg 1; whnf); done) | rfl | assumption | (simp; done)) (by conv => lhs; simp only [List.drop_zero, take_vals]) (by simp)) .nil))))))) (by rfl) (by rfl) (by rfl)) ?_)
    all_goals refine tri_ret ?_
    all_goals refine retE_r [0] (.cons (by first | exact .cellAgg rfl rfl rfl rfl rfl rfl rfl rfl | exact .cell1 rfl rfl rfl rfl rfl rfl rfl) .nil) rfl rfl (by first | exact (ren_pure (by rfl)).trans (by conv => lhs; whnf) | ((conv => lhs; whnf); done) | rfl) (.c0 (.nil)) ?_
    all_goals (
     have hv : rdVals (rdNum r6).1 [] r7 = (acc, r8) := by rw [← hx]; exact rdVals_end (by simp_all; try omega)
     have hc0 : rdCmd r = (⟨(rdNum r).1, (rdNum r1).1, (rdNum r2).1, bs (rdText r3).1, bs (rdText r4).1, bs (rdText r5).1, acc⟩, r8) := by
       subst e1 e2 e3 e4 e5 e6 e7; unfold rdCmd; dsimp only; rw [hv]
     rw [hc0]
     exact ⟨rfl, rfl, rfl⟩))
  all_goals refine seqQ_n ?_
  all_goals refine tri_seq ?_
  all_goals refine tri_block ?_
  all_goals refine tri_seq ?_
  all_goals refine tri_region ?_
  all_goals refine oc (x_move ?_)
  all_goals refine oc ?_
  all_goals (refine lit_callG [0] [] rfl rfl rfl rfl rfl ⟨_, Try.func37, by decide, rfl⟩ rfl rfl (.cons (.own (by conv => lhs; whnf)) .nil) rfl (by rfl) (rdNum_w r8 (by omega)) (by rintro r H' m ⟨rfl, rfl, hm⟩; exact hand_one (by simp) hm) (by first | exact (rfl : _ = 0) | exact (rfl : _ = 1) | exact (rfl : _ = 2) | exact (rfl : _ = 3) | exact (rfl : _ = 4) | exact (rfl : _ = 5) | exact (rfl : _ = 6) | exact (rfl : _ = 7) | exact (rfl : _ = 8) | exact (rfl : _ = 9) | exact (rfl : _ = 10) | exact (rfl : _ = 11)) (by conv => lhs; whnf) ?_)
  all_goals (rintro _ H' m ⟨rfl, rfl, hm⟩)
  all_goals refine oc (x_b1_3 ?_)
  all_goals refine oc (x_al 3 ?_)
  all_goals refine oc (x_st3 ?_)
  all_goals refine ops_nil ?_
  all_goals refine seqQ_n ?_
  all_goals refine tri_seq ?_
  all_goals refine tri_seq ?_
  all_goals refine tri_region ?_
  all_goals refine oc ?_
  all_goals (first | refine x_fa0 ?_ | refine x_far0 ?_ | refine x_fa ?_ | refine x_far ?_)
  all_goals refine oc ?_
  all_goals (first | refine x_ld ?_ | refine x_ldr ?_)
  all_goals refine ops_nil ?_
  all_goals refine seqQ_n ?_
  all_goals refine tri_block ?_
  all_goals refine tri_seq ?_
  all_goals refine tri_region ?_
  all_goals refine oc (x_eql ?_)
  all_goals refine oc (x_assign ?_)
  all_goals refine ops_nil ?_
  all_goals refine seqQ_n ?_
  all_goals (
   first | refine tri_cond_d rfl rfl (fun hc => ?_) (fun hc => ?_) | refine ct (fun hc => ?_) (fun hc => ?_) | refine cf (fun hc => ?_) (fun hc => ?_) | refine cb (fun hc => ?_) (fun hc => ?_)
   focus
    try (exfalso; first | exact hc | omega)
    all_goals refine tri_region ?_
    all_goals refine oc (x_move ?_)
    all_goals refine oc ?_
    all_goals (refine lit_callG [0] [] rfl rfl rfl rfl rfl ⟨_, Try.func50, by decide, rfl⟩ rfl rfl (.cons (.own (by conv => lhs; whnf)) .nil) rfl (by rfl) (rdText_w (rdNum r8).2 (by omega)) (by rintro r H' m ⟨rfl, rfl, hm⟩; exact hand_one (by simp) hm) (by first | exact (rfl : _ = 0) | exact (rfl : _ = 1) | exact (rfl : _ = 2) | exact (rfl : _ = 3) | exact (rfl : _ = 4) | exact (rfl : _ = 5) | exact (rfl : _ = 6) | exact (rfl : _ = 7) | exact (rfl : _ = 8) | exact (rfl : _ = 9) | exact (rfl : _ = 10) | exact (rfl : _ = 11)) (by conv => lhs; whnf) ?_)
    all_goals (rintro _ H' m ⟨rfl, rfl, hm⟩)
    all_goals refine oc ?_
    all_goals (first | refine x_fa0 ?_ | refine x_far0 ?_ | refine x_fa ?_ | refine x_far ?_)
    all_goals refine oc ?_
    all_goals (first | refine x_st ?_ | refine x_ste ?_)
    all_goals refine ops_nil ?_
   rotate_right 1
   focus
    try (exfalso; first | exact hc | omega)
    all_goals refine tri_seq ?_
    all_goals refine tri_region ?_
    all_goals refine oc (x_eql ?_)
    all_goals refine oc (x_assign ?_)
    all_goals refine ops_nil ?_
    all_goals refine seqQ_n ?_
    all_goals (
     first | refine tri_cond_d rfl rfl (fun hc => ?_) (fun hc => ?_) | refine ct (fun hc => ?_) (fun hc => ?_) | refine cf (fun hc => ?_) (fun hc => ?_) | refine cb (fun hc => ?_) (fun hc => ?_)
     focus
      try (exfalso; first | exact hc | omega)
      all_goals refine tri_seq ?_
      all_goals refine tri_region ?_
      all_goals refine oc (x_move ?_)
      all_goals refine oc ?_
      all_goals (refine lit_callG [0] [] rfl rfl rfl rfl rfl ⟨_, Try.func37, by decide, rfl⟩ rfl rfl (.cons (.own (by conv => lhs; whnf)) .nil) rfl (by rfl) (rdNum_w (rdNum r8).2 (by omega)) (by rintro r H' m ⟨rfl, rfl, hm⟩; exact hand_one (by simp) hm) (by first | exact (rfl : _ = 0) | exact (rfl : _ = 1) | exact (rfl : _ = 2) | exact (rfl : _ = 3) | exact (rfl : _ = 4) | exact (rfl : _ = 5) | exact (rfl : _ = 6) | exact (rfl : _ = 7) | exact (rfl : _ = 8) | exact (rfl : _ = 9) | exact (rfl : _ = 10) | exact (rfl : _ = 11)) (by conv => lhs; whnf) ?_)
      all_goals (rintro _ H' m ⟨rfl, rfl, hm⟩)
      all_goals refine oc (x_assign ?_)
      all_goals refine ops_nil ?_
      all_goals refine seqQ_n ?_
      all_goals refine tri_seq ?_
      all_goals refine tri_region ?_
      all_goals refine oc (x_move ?_)
      all_goals refine oc ?_
      all_goals (first | refine x_quo64 ?_ | refine x_quo ?_)
      all_goals refine oc ?_
      all_goals (first | refine x_fa0 ?_ | refine x_far0 ?_ | refine x_fa ?_ | refine x_far ?_)
      all_goals refine oc ?_
      all_goals (first | refine x_st ?_ | refine x_ste ?_)
      all_goals refine ops_nil ?_
      all_goals refine seqQ_n ?_
      all_goals refine tri_seq ?_
      all_goals refine tri_region ?_
      all_goals refine oc (x_move ?_)
      all_goals refine oc ?_
      all_goals (first | refine x_rem64 ?_ | refine x_rem ?_)
      all_goals refine oc (x_eql ?_)
      all_goals refine ops_nil ?_
      all_goals refine seqQ_n ?_
      all_goals (
       first | refine tri_cond_d rfl rfl (fun hc => ?_) (fun hc => ?_) | refine ct (fun hc => ?_) (fun hc => ?_) | refine cf (fun hc => ?_) (fun hc => ?_) | refine cb (fun hc => ?_) (fun hc => ?_)
       focus
        try (exfalso; first | exact hc | omega)
        all_goals refine tri_region ?_
        all_goals refine oc ?_
        all_goals (first | refine x_fa0 ?_ | refine x_far0 ?_ | refine x_fa ?_ | refine x_far ?_)
        all_goals refine oc ?_
        all_goals (first | refine x_ld ?_ | refine x_ldr ?_)
        all_goals refine oc (x_neg ?_)
        all_goals refine oc ?_
        all_goals (first | refine x_sub64 ?_ | refine x_sub ?_)
        all_goals refine oc ?_
        all_goals (first | refine x_fa0 ?_ | refine x_far0 ?_ | refine x_fa ?_ | refine x_far ?_)
        all_goals refine oc ?_
        all_goals (first | refine x_st ?_ | refine x_ste ?_)
        all_goals refine ops_nil ?_
       rotate_right 1
       focus
        try (exfalso; first | exact hc | omega)
        all_goals refine tri_skip ?_)
     rotate_right 1
     focus
      try (exfalso; first | exact hc | omega)
      all_goals refine tri_region ?_
      all_goals refine oc (x_move ?_)
      all_goals refine oc ?_
      all_goals (refine lit_callG [0] [] rfl rfl rfl rfl rfl ⟨_, Try.func37, by decide, rfl⟩ rfl rfl (.cons (.own (by conv => lhs; whnf)) .nil) rfl (by rfl) (rdNum_w (rdNum r8).2 (by omega)) (by rintro r H' m ⟨rfl, rfl, hm⟩; exact hand_one (by simp) hm) (by first | exact (rfl : _ = 0) | exact (rfl : _ = 1) | exact (rfl : _ = 2) | exact (rfl : _ = 3) | exact (rfl : _ = 4) | exact (rfl : _ = 5) | exact (rfl : _ = 6) | exact (rfl : _ = 7) | exact (rfl : _ = 8) | exact (rfl : _ = 9) | exact (rfl : _ = 10) | exact (rfl : _ = 11)) (by conv => lhs; whnf) ?_)
      all_goals (rintro _ H' m ⟨rfl, rfl, hm⟩)
      all_goals refine oc ?_
      all_goals (first | refine x_fa0 ?_ | refine x_far0 ?_ | refine x_fa ?_ | refine x_far ?_)
      all_goals refine oc ?_
      all_goals (first | refine x_st ?_ | refine x_ste ?_)
      all_goals refine ops_nil ?_))
  all_goals refine blockQ_n ?_
  all_goals refine seqQ_n ?_
  all_goals refine tri_region ?_
  all_goals refine oc ?_
  all_goals (first | refine x_fa0 ?_ | refine x_far0 ?_ | refine x_fa ?_ | refine x_far ?_)
  all_goals refine oc ?_
  all_goals (first | refine x_ld ?_ | refine x_ldr ?_)
  all_goals refine oc ?_
  all_goals (first | refine x_lda ?_ | refine x_ldra ?_ | refine x_ldp ?_ | refine x_ldrp ?_)
  all_goals refine oc ?_
  all_goals (refine lit_one (sz := 3) false (by rfl) (by rfl) (by rfl) (by rfl) (by conv => lhs; whnf) (by rfl) (by rfl) (by rfl) (by first | exact (rfl : _ = 0) | exact (rfl : _ = 1) | exact (rfl : _ = 2) | exact (rfl : _ = 3) | exact (rfl : _ = 4) | exact (rfl : _ = 5) | exact (rfl : _ = 6) | exact (rfl : _ = 7) | exact (rfl : _ = 8) | exact (rfl : _ = 9) | exact (rfl : _ = 10) | exact (rfl : _ = 11)) (by rfl) (by conv => lhs; whnf) (by rfl)  (by rfl) (by first | exact .inl rfl | exact .inr rfl) (by rfl) (by rfl) ?_)
  all_goals refine oc ?_
  all_goals (first | refine op_append rfl (by conv => lhs; whnf) rfl rfl rfl (Elem.mk (sz := 3) (by rfl) (by rfl) (by rfl) (by rfl) (by conv => lhs; whnf) (by rfl) (by rfl) (by rfl)) rfl (by first | omega | simp) (by first | exact Src.sl | exact Src.own rfl (by conv => lhs; first | simp only [List.drop_zero, List.take_succ_cons, List.take_zero, List.take_nil, take_bytes] | whnf) (by first | omega | simp) | exact Src.nil) (by first | (simp only [Nat.mul_one, bytesAV_length]; omega) | (simp; omega)) ?_ | refine opTri_le (le_own 68 54 3 rfl) (op_append rfl (by conv => lhs; whnf) rfl rfl rfl (Elem.mk (sz := 3) (by rfl) (by rfl) (by rfl) (by rfl) (by conv => lhs; whnf) (by rfl) (by rfl) (by rfl)) rfl (by first | omega | simp) (by first | exact Src.sl | exact Src.own rfl (by conv => lhs; first | simp only [List.drop_zero, List.take_succ_cons, List.take_zero, List.take_nil, take_bytes] | whnf) (by first | omega | simp) | exact Src.nil) (by first | (simp only [Nat.mul_one, bytesAV_length]; omega) | (simp; omega)) ?_))
  all_goals refine oc ?_
  all_goals (first | refine x_fa0 ?_ | refine x_far0 ?_ | refine x_fa ?_ | refine x_far ?_)
  all_goals refine oc ?_
  all_goals (first | refine x_st ?_ | refine x_ste ?_)
  all_goals refine ops_nil ?_
  all_goals refine blockQ_n ?_
  all_goals refine seqQ_n ?_
  all_goals refine tri_region ?_
  all_goals (first | have hval := rdVal_3 (r := r8) (by assumption) | have hval := rdVal_odd (r := r8) (by assumption) (by assumption) | have hval := rdVal_even (r := r8) (by assumption) (by assumption) | have hval := rdVal_else (r := r8) (by assumption) (by assumption))
  all_goals refine oc (x_move ?_)
  all_goals refine oc ?_
  all_goals (first | refine x_sub64 ?_ | refine x_sub ?_)
  all_goals refine oc (x_assign ?_)
  all_goals refine ops_nil ?_
  all_goals refine seqQ_n ?_
  all_goals (exact ⟨⟨((acc ++ [(rdVal r8).1], n - 1), (rdVal r8).2), by dsimp only; have := rdVal_len r8; refine ⟨by simp; omega, by omega, by omega, ?_⟩; rw [← hx]; exact (rdVals_step (by simp_all; omega)).symm⟩, by dsimp only; omega, le_kept [0, 1, 2, 3] rfl rfl (fun i k h => by obtain ⟨rfl, rfl⟩ := keep_zero h; rfl) rfl ⟨by first | rfl | ((conv => lhs; whnf); dsimp only [iv]; congr 2; omega) | ((conv => lhs; whnf); dsimp only; rw [hval]; (try rw [quo2 hq]); (try rw [neg2 hq]); (try rw [show ((rdNum r8).1 : Int) = 3 by assumption]); (try rw [show ((rdNum r8).1 : Int) = 2 by assumption]); first | rfl | (rw [List.length_append]; rfl) | (simp only [take_vals, List.map_append]; rfl) | (simp [valAV]; done)), by first | rfl | ((conv => lhs; whnf); dsimp only [iv]; congr 2; omega) | ((conv => lhs; whnf); dsimp only; rw [hval]; (try rw [quo2 hq]); (try rw [neg2 hq]); (try rw [show ((rdNum r8).1 : Int) = 3 by assumption]); (try rw [show ((rdNum r8).1 : Int) = 2 by assumption]); first | rfl | (rw [List.length_append]; rfl) | (simp only [take_vals, List.map_append]; rfl) | (simp [valAV]; done)), by first | rfl | ((conv => lhs; whnf); dsimp only [iv]; congr 2; omega) | ((conv => lhs; whnf); dsimp only; rw [hval]; (try rw [quo2 hq]); (try rw [neg2 hq]); (try rw [show ((rdNum r8).1 : Int) = 3 by assumption]); (try rw [show ((rdNum r8).1 : Int) = 2 by assumption]); first | rfl | (rw [List.length_append]; rfl) | (simp only [take_vals, List.map_append]; rfl) | (simp [valAV]; done)), by first | rfl | ((conv => lhs; whnf); dsimp only [iv]; congr 2; omega) | ((conv => lhs; whnf); dsimp only; rw [hval]; (try rw [quo2 hq]); (try rw [neg2 hq]); (try rw [show ((rdNum r8).1 : Int) = 3 by assumption]); (try rw [show ((rdNum r8).1 : Int) = 2 by assumption]); first | rfl | (rw [List.length_append]; rfl) | (simp only [take_vals, List.map_append]; rfl) | (simp [valAV]; done)), trivial⟩ ⟨by first | rfl | ((conv => lhs; whnf); dsimp only [iv]; congr 2; omega) | ((conv => lhs; whnf); dsimp only; rw [hval]; (try rw [quo2 hq]); (try rw [neg2 hq]); (try rw [show ((rdNum r8).1 : Int) = 3 by assumption]); (try rw [show ((rdNum r8).1 : Int) = 2 by assumption]); first | rfl | (rw [List.length_append]; rfl) | (simp only [take_vals, List.map_append]; rfl) | (simp [valAV]; done)), by first | rfl | ((conv => lhs; whnf); dsimp only [iv]; congr 2; omega) | ((conv => lhs; whnf); dsimp only; rw [hval]; (try rw [quo2 hq]); (try rw [neg2 hq]); (try rw [show ((rdNum r8).1 : Int) = 3 by assumption]); (try rw [show ((rdNum r8).1 : Int) = 2 by assumption]); first | rfl | (rw [List.length_append]; rfl) | (simp only [take_vals, List.map_append]; rfl) | (simp [valAV]; done)), by first | rfl | ((conv => lhs; whnf); dsimp only [iv]; congr 2; omega) | ((conv => lhs; whnf); dsimp only; rw [hval]; (try rw [quo2 hq]); (try rw [neg2 hq]); (try rw [show ((rdNum r8).1 : Int) = 3 by assumption]); (try rw [show ((rdNum r8).1 : Int) = 2 by assumption]); first | rfl | (rw [List.length_append]; rfl) | (simp only [take_vals, List.map_append]; rfl) | (simp [valAV]; done)), by first | rfl | ((conv => lhs; whnf); dsimp only [iv]; congr 2; omega) | ((conv => lhs; whnf); dsimp only; rw [hval]; (try rw [quo2 hq]); (try rw [neg2 hq]); (try rw [show ((rdNum r8).1 : Int) = 3 by assumption]); (try rw [show ((rdNum r8).1 : Int) = 2 by assumption]); first | rfl | (rw [List.length_append]; rfl) | (simp only [take_vals, List.map_append]; rfl) | (simp [valAV]; done)), trivial⟩⟩))

end Go.Proofs.Ytjalgcjllddmhaa

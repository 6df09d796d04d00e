/- A text of the proof of JournalTorn: JW9 -/
import Derived.Test.YtjalgcjllddmhaaProg
import Derived.Test.YtjalgcjllddmhaaAvShort
import Derived.Test.YtjalgcjllddmhaaAvAppS
import Derived.Test.YtjalgcjllddmhaaAvSnap
import Derived.Test.YtjalgcjllddmhaaAvAny
import Derived.Test.YtjalgcjllddmhaaAvLit
import Derived.Test.YtjalgcjllddmhaaJSto
import Derived.Test.YtjalgcjllddmhaaJW8
import Derived.Test.YtjalgcjllddmhaaJW4

set_option linter.unusedSimpArgs false
set_option linter.unusedVariables false
set_option maxHeartbeats 8000000
set_option maxRecDepth 100000
namespace Go.Proofs.Ytjalgcjllddmhaa
open Go.Av
/-- the walk of slices.Clone[[]byte,byte] -/
theorem clone_o (l : List UInt8) (hl : l.length ≤ 2 ^ 46) : HSpec Try.prog 18 [.sl 1 (bytesAV l)] [] fun r H' _ => r = .osl 0 1 0 l.length ∧ H' = [.mk 5 false false 1 (bytesAV l)] := by
 refine hspec_intro Try.func18 rfl rfl ?_
 all_goals refine tri_seq ?_
 all_goals refine tri_region ?_
 all_goals refine oc (x_assign ?_)
 all_goals refine ops_nil ?_
 all_goals refine seqQ_n ?_
 all_goals refine tri_seq ?_
 all_goals refine tri_seq ?_
 all_goals refine tri_region ?_
 all_goals refine oc (x_move ?_)
 all_goals refine oc ?_
 all_goals (refine op_eql_nil (by conv => lhs; whnf) (by rfl) (by rfl) (by rfl) (by rfl) (by rfl) ?_)
 all_goals (rintro nb hnb)
 all_goals refine ops_nil ?_
 all_goals refine seqQ_n ?_
 all_goals (
  first | refine tri_cond_d rfl rfl (fun hc => ?_) (fun hc => ?_) | refine ct (fun hc => ?_) (fun hc => ?_) | refine cf (fun hc => ?_) (fun hc => ?_) | refine cb (fun hc => ?_) (fun hc => ?_)
  focus
   try (exfalso; first | exact hc | omega)
   all_goals refine tri_seq ?_
   all_goals refine tri_region ?_
   all_goals refine oc (x_assign ?_)
   all_goals refine ops_nil ?_
   all_goals refine seqQ_n ?_
   all_goals (first | refine tri_le (lit_own 2 5 1 rfl (by rfl)) ?_ | skip)
   all_goals refine tri_ret ?_
   all_goals refine seqQ_r ?_
   all_goals refine retE_r [0] (.cons (.tmp (by conv => lhs; whnf) rfl) .nil) rfl rfl (by first | exact (ren_pure (by rfl)).trans (by conv => lhs; whnf) | ((conv => lhs; whnf); done) | rfl) (.c0 (.nil)) ?_
   all_goals (
    first
    | (have := hnb hc; simp only [bytesAV, List.map_eq_nil_iff] at this; subst this; exact ⟨rfl, rfl⟩)
    | (refine ⟨?_, ?_⟩
       · simp
       · simp))
  rotate_right 1
  focus
   try (exfalso; first | exact hc | omega)
   all_goals refine tri_skip ?_)
 all_goals refine seqQ_n ?_
 all_goals refine tri_seq ?_
 all_goals refine tri_region ?_
 all_goals refine oc ?_
 all_goals (refine op_buildSlice0 (sz := 1) (by rfl) (by rfl) (by rfl) (by rfl) ?_)
 all_goals refine oc (x_move ?_)
 all_goals refine oc ?_
 all_goals (first | refine op_append rfl (by conv => lhs; whnf) rfl rfl rfl (Elem.mk (sz := 1) (by rfl) (by rfl) (by rfl) (by rfl) (by conv => lhs; whnf) (by rfl) (by rfl) (by rfl)) rfl (by first | omega | simp) (by first | exact Src.sl | exact Src.own rfl (by conv => lhs; first | simp only [List.drop_zero, List.take_succ_cons, List.take_zero, List.take_nil, take_bytes] | whnf) (by first | omega | simp) | exact Src.nil) (by first | (simp only [Nat.mul_one, bytesAV_length]; omega) | (simp; omega)) ?_ | refine opTri_le (le_own 5 5 1 rfl) (op_append rfl (by conv => lhs; whnf) rfl rfl rfl (Elem.mk (sz := 1) (by rfl) (by rfl) (by rfl) (by rfl) (by conv => lhs; whnf) (by rfl) (by rfl) (by rfl)) rfl (by first | omega | simp) (by first | exact Src.sl | exact Src.own rfl (by conv => lhs; first | simp only [List.drop_zero, List.take_succ_cons, List.take_zero, List.take_nil, take_bytes] | whnf) (by first | omega | simp) | exact Src.nil) (by first | (simp only [Nat.mul_one, bytesAV_length]; omega) | (simp; omega)) ?_))
 all_goals refine oc (x_assign ?_)
 all_goals refine ops_nil ?_
 all_goals refine seqQ_n ?_
 all_goals (first | refine tri_le (lit_own 2 5 1 rfl (by rfl)) ?_ | skip)
 all_goals refine tri_ret ?_
 all_goals refine retE_r [0] (.cons (.tmp (by conv => lhs; whnf) rfl) .nil) rfl rfl (by first | exact (ren_pure (by rfl)).trans (by conv => lhs; whnf) | ((conv => lhs; whnf); done) | rfl) (.c0 (.nil)) ?_
 all_goals (
  first
  | (have := hnb hc; simp only [bytesAV, List.map_eq_nil_iff] at this; subst this; exact ⟨rfl, rfl⟩)
  | (refine ⟨?_, ?_⟩
     · simp
     · simp))

/-- the walk of casebook/journal.copied -/
theorem copied_w (s : Sto) (hl : s.bytes.length ≤ 2 ^ 40) : HSpec Try.prog 26 [stoAV s] [] fun r H' _ => r = stoAV s ∧ H' = [] := by
 refine hspec_intro Try.func26 rfl rfl ?_
 all_goals refine tri_seq ?_
 all_goals refine tri_region ?_
 all_goals refine oc (x_bx 3 ?_)
 all_goals refine oc (x_al 3 ?_)
 all_goals refine ops_nil ?_
 all_goals refine seqQ_n ?_
 all_goals refine tri_seq ?_
 all_goals refine tri_region ?_
 all_goals refine oc ?_
 all_goals (first | refine x_fa0 ?_ | refine x_far0 ?_ | refine x_fa ?_ | refine x_far ?_)
 all_goals refine oc ?_
 all_goals (first | refine x_ld ?_ | refine x_ldr ?_)
 all_goals refine oc ?_
 all_goals (refine op_callB rfl rfl rfl rfl rfl ⟨_, Try.func18, by decide, rfl⟩ (.cons (.pure rfl) .nil) (clone_w s.bytes (by omega)) ?_)
 all_goals (rintro _ H' m ⟨rfl, rfl⟩)
 all_goals refine oc ?_
 all_goals (first | refine x_fa0 ?_ | refine x_far0 ?_ | refine x_fa ?_ | refine x_far ?_)
 all_goals refine oc ?_
 all_goals (first | refine x_st ?_ | refine x_ste ?_)
 all_goals refine ops_nil ?_
 all_goals refine seqQ_n ?_
 all_goals refine tri_seq ?_
 all_goals refine tri_region ?_
 all_goals refine oc ?_
 all_goals (first | refine x_lda ?_ | refine x_ldra ?_ | refine x_ldp ?_ | refine x_ldrp ?_)
 all_goals refine oc (x_st3 ?_)
 all_goals refine ops_nil ?_
 all_goals refine seqQ_n ?_
 all_goals refine tri_ret ?_
 all_goals refine retE_r [] (.cons (by first | exact .cellAgg rfl rfl rfl rfl rfl rfl rfl rfl | exact .cell1 rfl rfl rfl rfl rfl rfl rfl) .nil) rfl rfl (by first | exact (ren_pure (by rfl)).trans (by conv => lhs; whnf) | ((conv => lhs; whnf); done) | rfl) (.nil) ?_
 all_goals (exact ⟨rfl, rfl⟩)

/-- the walk of casebook/journal.Write -/
theorem write_w (s : Sto) (c : Cmd) (hl : s.bytes.length ≤ 2 ^ 40) (h1 : c.case.size ≤ 2 ^ 47) (h2 : c.person.size ≤ 2 ^ 47) (h3 : c.to.size ≤ 2 ^ 47) (h4 : c.data.length ≤ 2 ^ 40) (hv : ∀ v ∈ c.data, v.s.size ≤ 2 ^ 47) : HSpec Try.prog 10 [stoAV s, cmdAV c] [] fun r H' _ => r = .tup [stoAV (write s c).1, iv (write s c).2] ∧ H' = [] := by
 refine hspec_intro Try.func10 rfl rfl ?_
 all_goals refine tri_seq ?_
 all_goals refine tri_region ?_
 all_goals refine oc (x_bx 3 ?_)
 all_goals refine oc (x_bx 7 ?_)
 all_goals refine oc (x_al 3 ?_)
 all_goals refine oc (x_assign ?_)
 all_goals refine ops_nil ?_
 all_goals refine seqQ_n ?_
 all_goals refine tri_seq ?_
 all_goals refine tri_seq ?_
 all_goals refine tri_region ?_
 all_goals refine oc ?_
 all_goals (first | refine x_lda ?_ | refine x_ldra ?_ | refine x_ldp ?_ | refine x_ldrp ?_)
 all_goals refine oc ?_
 all_goals (refine op_callA rfl rfl rfl rfl rfl ⟨_, Try.func11, by decide, rfl⟩ (.cons (.pure rfl) .nil) (valid_w s hl) shut0 ?_)
 all_goals (rintro _ H' m ⟨rfl, rfl⟩)
 all_goals refine oc ?_
 all_goals (first | refine op_not_d rfl rfl rfl ?_ | refine x_not ?_)
 all_goals refine oc (x_move ?_)
 all_goals (first | refine gU ?_ | refine gY ?_ | refine gN ?_ | refine ops_guardFd rfl rfl rfl rfl rfl rfl (fun hg => ?_) (fun hg => ?_) | refine gF (fun hg => ?_) (fun hg => ?_))
 all_goals try (exfalso; omega)
 all_goals (first | refine ops_here ?_ | (first | refine x_lda ?_ | refine x_ldra ?_ | refine x_ldp ?_ | refine x_ldrp ?_))
 all_goals (first | refine gU ?_ | refine gY ?_ | refine gN ?_ | refine ops_guardFd rfl rfl rfl rfl rfl rfl (fun hg => ?_) (fun hg => ?_) | refine gF (fun hg => ?_) (fun hg => ?_))
 all_goals try (exfalso; omega)
 all_goals (first | refine ops_here ?_ | (refine op_callA rfl rfl rfl rfl rfl ⟨_, Try.func25, by decide, rfl⟩ (.cons (.pure rfl) .nil) (formed_w c h1 h2 h3 h4 hv) shut0 ?_))
 all_goals (first | refine ops_here ?_ | (rintro _ H' m ⟨rfl, rfl⟩))
 all_goals (first | refine gU ?_ | refine gY ?_ | refine gN ?_ | refine ops_guardFd rfl rfl rfl rfl rfl rfl (fun hg => ?_) (fun hg => ?_) | refine gF (fun hg => ?_) (fun hg => ?_))
 all_goals try (exfalso; omega)
 all_goals (first | refine ops_here ?_ | (first | refine op_not_d rfl rfl rfl ?_ | refine x_not ?_))
 all_goals refine oc ?_
 all_goals (first | refine x_pt ?_ | refine x_pf ?_ | refine x_pb ?_)
 all_goals refine ops_nil ?_
 all_goals refine seqQ_n ?_
 all_goals (
  first | refine tri_cond_d rfl rfl (fun hc => ?_) (fun hc => ?_) | refine ct (fun hc => ?_) (fun hc => ?_) | refine cf (fun hc => ?_) (fun hc => ?_) | refine cb (fun hc => ?_) (fun hc => ?_)
  focus
   try (exfalso; first | exact hc | omega)
   all_goals refine tri_seq ?_
   all_goals refine tri_region ?_
   all_goals refine oc (x_b0_3 ?_)
   all_goals refine oc (x_st3 ?_)
   all_goals refine oc (x_assign ?_)
   all_goals refine ops_nil ?_
   all_goals refine seqQ_n ?_
   all_goals (refine tri_le (lit_snapO 2 (by first | ((conv => lhs; whnf; arg 1; whnf); done) | rfl | assumption | (simp; done)) (by conv => lhs; whnf; congr; { whnf }; { whnf; congr; { whnf }; { whnf; congr; { whnf }; { whnf } } }) (by exact .cons (by first | exact SnapR.nil (sz := 1) | exact .pure rfl | exact .own (by first | ((conv => lhs; whnf; arg 1; whnf); done) | rfl | assumption | (simp; done)) (by conv => lhs; first | simp only [List.drop_zero, List.take_succ_cons, List.take_zero, List.take_nil, take_bytes] | whnf) (by simp)) (.cons (.pure rfl) (.cons (.pure rfl) .nil))) (by rfl) (by rfl) (by rfl)) ?_)
   all_goals refine tri_ret ?_
   all_goals refine seqQ_r ?_
   all_goals refine retE_r [] (.cons (by first | exact .cellAgg rfl rfl rfl rfl rfl rfl rfl rfl | exact .cell1 rfl rfl rfl rfl rfl rfl rfl) (.cons (.tmp (by conv => lhs; whnf) rfl) .nil)) rfl rfl (by first | exact (ren_pure (by rfl)).trans (by conv => lhs; whnf) | ((conv => lhs; whnf); done) | rfl) (.nil) ?_
   all_goals (
    first
    | (have hd : write s c = (zeroSto, 1) := if_pos (by simp_all)
       rw [hd]; exact ⟨rfl, rfl⟩)
    | (have hd : write s c = (s, 15) := (if_neg (by simp_all)).trans (if_pos (by assumption))
       rw [hd]; exact ⟨rfl, rfl⟩)
    | (have hd : write s c = (zeroSto, 5) := (if_neg (by simp_all)).trans ((if_neg (by assumption)).trans (if_pos (by omega)))
       rw [hd]; exact ⟨rfl, rfl⟩)
    | (have hd : write s c = (⟨s.bytes.take (recs s.bytes [] 0).2 ++ (record c).take s.after.toNat, (recs s.bytes [] 0).2, 0⟩, 15) := by
         unfold write; dsimp only; rw [if_neg (by simp_all), if_neg (by assumption), if_neg (by omega), if_pos (by omega)]
       rw [hd, join_take]; exact ⟨rfl, rfl⟩)
    | (have hd : write s c = (⟨s.bytes.take (recs s.bytes [] 0).2 ++ record c, (s.bytes.take (recs s.bytes [] 0).2 ++ record c).length, if 0 ≤ s.after then s.after - (record c).length else s.after⟩, 0) := by
         unfold write; dsimp only; rw [if_neg (by simp_all), if_neg (by assumption), if_neg (by omega), if_neg (by omega)]
       rw [hd, join_take, List.length_append, bytesAV_length]
       first | rw [if_pos (by assumption)] | rw [if_neg (by assumption)]
       exact ⟨rfl, rfl⟩))
  rotate_right 1
  focus
   try (exfalso; first | exact hc | omega)
   all_goals refine tri_skip ?_)
 all_goals refine seqQ_n ?_
 all_goals refine tri_seq ?_
 all_goals refine tri_seq ?_
 all_goals refine tri_region ?_
 all_goals (
  have hva : valid s = true := (by simp_all)
  have hfm : formed c = true := (by simp_all)
  have hvf := valid_facts hva
  have hrl := recs_len s.bytes
  have hrc := record_length hfm)
 all_goals refine oc ?_
 all_goals (first | refine x_fa0 ?_ | refine x_far0 ?_ | refine x_fa ?_ | refine x_far ?_)
 all_goals refine oc ?_
 all_goals (first | refine x_ld ?_ | refine x_ldr ?_)
 all_goals refine oc (x_eql ?_)
 all_goals refine ops_nil ?_
 all_goals refine seqQ_n ?_
 all_goals (
  first | refine tri_cond_d rfl rfl (fun hc => ?_) (fun hc => ?_) | refine ct (fun hc => ?_) (fun hc => ?_) | refine cf (fun hc => ?_) (fun hc => ?_) | refine cb (fun hc => ?_) (fun hc => ?_)
  focus
   try (exfalso; first | exact hc | omega)
   all_goals refine tri_seq ?_
   all_goals refine tri_region ?_
   all_goals refine oc ?_
   all_goals (first | refine x_lda ?_ | refine x_ldra ?_ | refine x_ldp ?_ | refine x_ldrp ?_)
   all_goals refine oc ?_
   all_goals (refine op_callB rfl rfl rfl rfl rfl ⟨_, Try.func26, by decide, rfl⟩ (.cons (.pure rfl) .nil) (copied_w s hl) ?_)
   all_goals (rintro _ H' m ⟨rfl, rfl⟩)
   all_goals refine oc (x_st3 ?_)
   all_goals refine oc (x_assign ?_)
   all_goals refine ops_nil ?_
   all_goals refine seqQ_n ?_
   all_goals (refine tri_le (lit_snapO 2 (by first | ((conv => lhs; whnf; arg 1; whnf); done) | rfl | assumption | (simp; done)) (by conv => lhs; whnf; congr; { whnf }; { whnf; congr; { whnf }; { whnf; congr; { whnf }; { whnf } } }) (by exact .cons (by first | exact SnapR.nil (sz := 1) | exact .pure rfl | exact .own (by first | ((conv => lhs; whnf; arg 1; whnf); done) | rfl | assumption | (simp; done)) (by conv => lhs; first | simp only [List.drop_zero, List.take_succ_cons, List.take_zero, List.take_nil, take_bytes] | whnf) (by simp)) (.cons (.pure rfl) (.cons (.pure rfl) .nil))) (by rfl) (by rfl) (by rfl)) ?_)
   all_goals refine tri_ret ?_
   all_goals refine seqQ_r ?_
   all_goals refine retE_r [] (.cons (by first | exact .cellAgg rfl rfl rfl rfl rfl rfl rfl rfl | exact .cell1 rfl rfl rfl rfl rfl rfl rfl) (.cons (.tmp (by conv => lhs; whnf) rfl) .nil)) rfl rfl (by first | exact (ren_pure (by rfl)).trans (by conv => lhs; whnf) | ((conv => lhs; whnf); done) | rfl) (.nil) ?_
   all_goals (
    first
    | (have hd : write s c = (zeroSto, 1) := if_pos (by simp_all)
       rw [hd]; exact ⟨rfl, rfl⟩)
    | (have hd : write s c = (s, 15) := (if_neg (by simp_all)).trans (if_pos (by assumption))
       rw [hd]; exact ⟨rfl, rfl⟩)
    | (have hd : write s c = (zeroSto, 5) := (if_neg (by simp_all)).trans ((if_neg (by assumption)).trans (if_pos (by omega)))
       rw [hd]; exact ⟨rfl, rfl⟩)
    | (have hd : write s c = (⟨s.bytes.take (recs s.bytes [] 0).2 ++ (record c).take s.after.toNat, (recs s.bytes [] 0).2, 0⟩, 15) := by
         unfold write; dsimp only; rw [if_neg (by simp_all), if_neg (by assumption), if_neg (by omega), if_pos (by omega)]
       rw [hd, join_take]; exact ⟨rfl, rfl⟩)
    | (have hd : write s c = (⟨s.bytes.take (recs s.bytes [] 0).2 ++ record c, (s.bytes.take (recs s.bytes [] 0).2 ++ record c).length, if 0 ≤ s.after then s.after - (record c).length else s.after⟩, 0) := by
         unfold write; dsimp only; rw [if_neg (by simp_all), if_neg (by assumption), if_neg (by omega), if_neg (by omega)]
       rw [hd, join_take, List.length_append, bytesAV_length]
       first | rw [if_pos (by assumption)] | rw [if_neg (by assumption)]
       exact ⟨rfl, rfl⟩))
  rotate_right 1
  focus
   try (exfalso; first | exact hc | omega)
   all_goals refine tri_skip ?_)
 all_goals refine seqQ_n ?_
 all_goals refine tri_seq ?_
 all_goals refine tri_region ?_
 all_goals refine oc ?_
 all_goals (first | refine x_fa0 ?_ | refine x_far0 ?_ | refine x_fa ?_ | refine x_far ?_)
 all_goals refine oc ?_
 all_goals (first | refine x_ld ?_ | refine x_ldr ?_)
 all_goals refine oc ?_
 all_goals (refine op_callB rfl rfl rfl rfl rfl ⟨_, Try.func27, by decide, rfl⟩ (.cons (.pure rfl) .nil) (records_w s.bytes (by omega)) ?_)
 all_goals (rintro _ H' m ⟨rfl, rfl⟩)
 all_goals refine oc (x_move ?_)
 all_goals refine oc (x_ext ?_)
 all_goals refine oc (x_ext ?_)
 all_goals refine oc (x_assign ?_)
 all_goals refine oc (x_assign ?_)
 all_goals refine ops_nil ?_
 all_goals refine seqQ_n ?_
 all_goals refine tri_seq ?_
 all_goals refine tri_region ?_
 all_goals refine oc ?_
 all_goals (first | refine x_lda ?_ | refine x_ldra ?_ | refine x_ldp ?_ | refine x_ldrp ?_)
 all_goals refine oc ?_
 all_goals (refine op_callB rfl rfl rfl rfl rfl ⟨_, Try.func28, by decide, rfl⟩ (.cons (.pure rfl) .nil) (record_w c hfm) ?_)
 all_goals (rintro _ H' m ⟨rfl, rfl⟩)
 all_goals refine oc (x_assign ?_)
 all_goals refine ops_nil ?_
 all_goals refine seqQ_n ?_
 all_goals refine tri_seq ?_
 all_goals refine tri_seq ?_
 all_goals refine tri_region ?_
 all_goals refine oc (x_move ?_)
 all_goals refine oc ?_
 all_goals (first | refine op_len_sl rfl (by first | (conv => lhs; simp only [List.length_map, bytesAV_length]) | rfl) rfl rfl rfl ?_ | refine x_leno ?_ | refine x_lenn ?_)
 all_goals refine oc (x_eql ?_)
 all_goals refine oc (x_move ?_)
 all_goals (first | refine gU ?_ | refine gY ?_ | refine gN ?_ | refine ops_guardFd rfl rfl rfl rfl rfl rfl (fun hg => ?_) (fun hg => ?_) | refine gF (fun hg => ?_) (fun hg => ?_))
 all_goals try (exfalso; omega)
 all_goals (first | refine ops_here ?_ | (refine x_move ?_))
 all_goals (first | refine gU ?_ | refine gY ?_ | refine gN ?_ | refine ops_guardFd rfl rfl rfl rfl rfl rfl (fun hg => ?_) (fun hg => ?_) | refine gF (fun hg => ?_) (fun hg => ?_))
 all_goals try (exfalso; omega)
 all_goals (first | refine ops_here ?_ | (refine x_move ?_))
 all_goals (first | refine gU ?_ | refine gY ?_ | refine gN ?_ | refine ops_guardFd rfl rfl rfl rfl rfl rfl (fun hg => ?_) (fun hg => ?_) | refine gF (fun hg => ?_) (fun hg => ?_))
 all_goals try (exfalso; omega)
 all_goals (first | refine ops_here ?_ | (first | refine op_len_sl rfl (by first | (conv => lhs; simp only [List.length_map, bytesAV_length]) | rfl) rfl rfl rfl ?_ | refine x_leno ?_ | refine x_lenn ?_))
 all_goals (first | refine gU ?_ | refine gY ?_ | refine gN ?_ | refine ops_guardFd rfl rfl rfl rfl rfl rfl (fun hg => ?_) (fun hg => ?_) | refine gF (fun hg => ?_) (fun hg => ?_))
 all_goals try (exfalso; omega)
 all_goals (first | refine ops_here ?_ | (first | refine x_add64 ?_ | refine x_add ?_))
 all_goals (first | refine gU ?_ | refine gY ?_ | refine gN ?_ | refine ops_guardFd rfl rfl rfl rfl rfl rfl (fun hg => ?_) (fun hg => ?_) | refine gF (fun hg => ?_) (fun hg => ?_))
 all_goals try (exfalso; omega)
 all_goals (first | refine ops_here ?_ | (refine x_gtr ?_))
 all_goals refine oc ?_
 all_goals (first | refine x_pt ?_ | refine x_pf ?_ | refine x_pb ?_)
 all_goals refine ops_nil ?_
 all_goals refine seqQ_n ?_
 all_goals (
  first | refine tri_cond_d rfl rfl (fun hc => ?_) (fun hc => ?_) | refine ct (fun hc => ?_) (fun hc => ?_) | refine cf (fun hc => ?_) (fun hc => ?_) | refine cb (fun hc => ?_) (fun hc => ?_)
  focus
   try (exfalso; first | exact hc | omega)
   all_goals refine tri_seq ?_
   all_goals refine tri_region ?_
   all_goals refine oc (x_b0_3 ?_)
   all_goals refine oc (x_st3 ?_)
   all_goals refine oc (x_assign ?_)
   all_goals refine ops_nil ?_
   all_goals refine seqQ_n ?_
   all_goals (refine tri_le (lit_snapO 2 (by first | ((conv => lhs; whnf; arg 1; whnf); done) | rfl | assumption | (simp; done)) (by conv => lhs; whnf; congr; { whnf }; { whnf; congr; { whnf }; { whnf; congr; { whnf }; { whnf } } }) (by exact .cons (by first | exact SnapR.nil (sz := 1) | exact .pure rfl | exact .own (by first | ((conv => lhs; whnf; arg 1; whnf); done) | rfl | assumption | (simp; done)) (by conv => lhs; first | simp only [List.drop_zero, List.take_succ_cons, List.take_zero, List.take_nil, take_bytes] | whnf) (by simp)) (.cons (.pure rfl) (.cons (.pure rfl) .nil))) (by rfl) (by rfl) (by rfl)) ?_)
   all_goals refine tri_ret ?_
   all_goals refine seqQ_r ?_
   all_goals refine retE_r [] (.cons (by first | exact .cellAgg rfl rfl rfl rfl rfl rfl rfl rfl | exact .cell1 rfl rfl rfl rfl rfl rfl rfl) (.cons (.tmp (by conv => lhs; whnf) rfl) .nil)) rfl rfl (by first | exact (ren_pure (by rfl)).trans (by conv => lhs; whnf) | ((conv => lhs; whnf); done) | rfl) (.nil) ?_
   all_goals (
    first
    | (have hd : write s c = (zeroSto, 1) := if_pos (by simp_all)
       rw [hd]; exact ⟨rfl, rfl⟩)
    | (have hd : write s c = (s, 15) := (if_neg (by simp_all)).trans (if_pos (by assumption))
       rw [hd]; exact ⟨rfl, rfl⟩)
    | (have hd : write s c = (zeroSto, 5) := (if_neg (by simp_all)).trans ((if_neg (by assumption)).trans (if_pos (by omega)))
       rw [hd]; exact ⟨rfl, rfl⟩)
    | (have hd : write s c = (⟨s.bytes.take (recs s.bytes [] 0).2 ++ (record c).take s.after.toNat, (recs s.bytes [] 0).2, 0⟩, 15) := by
         unfold write; dsimp only; rw [if_neg (by simp_all), if_neg (by assumption), if_neg (by omega), if_pos (by omega)]
       rw [hd, join_take]; exact ⟨rfl, rfl⟩)
    | (have hd : write s c = (⟨s.bytes.take (recs s.bytes [] 0).2 ++ record c, (s.bytes.take (recs s.bytes [] 0).2 ++ record c).length, if 0 ≤ s.after then s.after - (record c).length else s.after⟩, 0) := by
         unfold write; dsimp only; rw [if_neg (by simp_all), if_neg (by assumption), if_neg (by omega), if_neg (by omega)]
       rw [hd, join_take, List.length_append, bytesAV_length]
       first | rw [if_pos (by assumption)] | rw [if_neg (by assumption)]
       exact ⟨rfl, rfl⟩))
  rotate_right 1
  focus
   try (exfalso; first | exact hc | omega)
   all_goals refine tri_skip ?_)
 all_goals refine seqQ_n ?_
 all_goals refine tri_seq ?_
 all_goals (
  apply tri_anyCut (by rfl)
  focus
   all_goals refine x_tk 0 (opWF_fieldAddr rfl rfl rfl) ?_
   all_goals (first | refine x_fa0 ?_ | refine x_far0 ?_ | refine x_fa ?_ | refine x_far ?_)
   all_goals refine x_tk 2 (opWF_move) ?_
   all_goals (refine x_move ?_)
   all_goals refine x_tk 5 (opWF_move) ?_
   all_goals (refine x_move ?_)
   all_goals refine x_tk 6 (opWF_fieldAddr rfl rfl rfl) ?_
   all_goals (first | refine x_fa0 ?_ | refine x_far0 ?_ | refine x_fa ?_ | refine x_far ?_)
   all_goals (
    refine x_all3 1 7 9 ?_ ?_ ?_
    focus
     all_goals (first | refine x_ld ?_ | refine x_ldr ?_)
     all_goals refine x_tk 3 (opWF_slice) ?_
     all_goals (first | refine op_slice_sl rfl rfl rfl rfl rfl .none (.to rfl rfl (by first | rw [Int.toNat_natCast] | rw [Int.toNat_zero] | rw [Int.toNat_one] | rw [Int.toNat_ofNat] | exact rfl) (by omega)) (by first | omega | simp; omega) (by first | omega | simp; omega) (by conv => lhs; first | rw [sub1] | rw [sub2] | rw [sub3] | skip) ?_ | refine op_slice_osl rfl rfl rfl rfl rfl .none (.to rfl rfl (by first | rw [Int.toNat_natCast] | rw [Int.toNat_zero] | rw [Int.toNat_one] | rw [Int.toNat_ofNat] | exact rfl) (by omega)) (by first | omega | simp) (by omega) ?_)
     all_goals (
      refine x_all3 4 7 9 ?_ ?_ ?_
      focus
       all_goals (refine op_callA rfl rfl rfl rfl rfl ⟨_, Try.func18, by decide, rfl⟩ (.cons (.pure rfl) .nil) (clone_o _ (by first | omega | (simp; omega))) (by rintro r H' m ⟨rfl, rfl⟩; refine ⟨rfl, ?_⟩; simp only [List.mem_singleton]; rintro o rfl; exact AObj.shut_vals (fun e he => by obtain ⟨b, _, rfl⟩ := List.mem_map.1 he; exact ⟨_, rfl⟩)) ?_)
       all_goals (rintro r H' m ⟨rfl, rfl⟩)
       all_goals (
        refine x_all2 7 9 ?_ ?_
        focus
         all_goals (first | refine x_ld ?_ | refine x_ldr ?_)
         all_goals refine x_tk 8 (opWF_build rfl) ?_
         all_goals (refine x_b3_3 ?_)
         all_goals (
          refine x_all1 9 ?_
          focus
           all_goals (refine x_al 3 ?_)
           all_goals (
            refine x_all1 10 ?_
            focus
             all_goals (refine x_st3 ?_)
             all_goals exact any_leaf (n := 91) [0, 1, 2, 3, 4] [0, 1, 2, 3, 4, 5, 6, 7, 8, 9, 17, 21, 41, 61, 83] (by kernel_rfl) rfl rfl rfl (.c0 (.c0 (.c0 (.c0 (.c0 (.c0 (.c0 (.c0 (.c0 (.c0 (.c0 (.c0 (.c0 (.c0 (.c0 (.nil)))))))))))))))) (.c0 (.c0 (.c0 (.c0 (.c0 (.nil))))))))
        focus
         all_goals (refine x_al 3 ?_)
         all_goals (
          refine x_all1 7 ?_
          focus
           all_goals (first | refine x_ld ?_ | refine x_ldr ?_)
           all_goals refine x_tk 8 (opWF_build rfl) ?_
           all_goals (refine x_b3_3 ?_)
           all_goals (
            refine x_all1 10 ?_
            focus
             all_goals (refine x_st3 ?_)
             all_goals exact any_leaf (n := 91) [0, 1, 2, 3, 4] [0, 1, 2, 3, 4, 5, 6, 7, 8, 9, 17, 21, 41, 61, 83] (by kernel_rfl) rfl rfl rfl (.c0 (.c0 (.c0 (.c0 (.c0 (.c0 (.c0 (.c0 (.c0 (.c0 (.c0 (.c0 (.c0 (.c0 (.c0 (.nil)))))))))))))))) (.c0 (.c0 (.c0 (.c0 (.c0 (.nil)))))))))
      focus
       all_goals (first | refine x_ld ?_ | refine x_ldr ?_)
       all_goals (
        refine x_all2 4 9 ?_ ?_
        focus
         all_goals (refine op_callA rfl rfl rfl rfl rfl ⟨_, Try.func18, by decide, rfl⟩ (.cons (.pure rfl) .nil) (clone_o _ (by first | omega | (simp; omega))) (by rintro r H' m ⟨rfl, rfl⟩; refine ⟨rfl, ?_⟩; simp only [List.mem_singleton]; rintro o rfl; exact AObj.shut_vals (fun e he => by obtain ⟨b, _, rfl⟩ := List.mem_map.1 he; exact ⟨_, rfl⟩)) ?_)
         all_goals (rintro r H' m ⟨rfl, rfl⟩)
         all_goals refine x_tk 8 (opWF_build rfl) ?_
         all_goals (refine x_b3_3 ?_)
         all_goals (
          refine x_all1 9 ?_
          focus
           all_goals (refine x_al 3 ?_)
           all_goals (
            refine x_all1 10 ?_
            focus
             all_goals (refine x_st3 ?_)
             all_goals exact any_leaf (n := 91) [0, 1, 2, 3, 4] [0, 1, 2, 3, 4, 5, 6, 7, 8, 9, 17, 21, 41, 61, 83] (by kernel_rfl) rfl rfl rfl (.c0 (.c0 (.c0 (.c0 (.c0 (.c0 (.c0 (.c0 (.c0 (.c0 (.c0 (.c0 (.c0 (.c0 (.c0 (.nil)))))))))))))))) (.c0 (.c0 (.c0 (.c0 (.c0 (.nil))))))))
        focus
         all_goals (refine x_al 3 ?_)
         all_goals (
          refine x_all1 4 ?_
          focus
           all_goals (refine op_callA rfl rfl rfl rfl rfl ⟨_, Try.func18, by decide, rfl⟩ (.cons (.pure rfl) .nil) (clone_o _ (by first | omega | (simp; omega))) (by rintro r H' m ⟨rfl, rfl⟩; refine ⟨rfl, ?_⟩; simp only [List.mem_singleton]; rintro o rfl; exact AObj.shut_vals (fun e he => by obtain ⟨b, _, rfl⟩ := List.mem_map.1 he; exact ⟨_, rfl⟩)) ?_)
           all_goals (rintro r H' m ⟨rfl, rfl⟩)
           all_goals refine x_tk 8 (opWF_build rfl) ?_
           all_goals (refine x_b3_3 ?_)
           all_goals (
            refine x_all1 10 ?_
            focus
             all_goals (refine x_st3 ?_)
             all_goals exact any_leaf (n := 91) [0, 1, 2, 4, 3] [0, 1, 2, 3, 4, 5, 6, 7, 8, 9, 17, 21, 41, 61, 83] (by kernel_rfl) rfl rfl rfl (.c0 (.c0 (.c0 (.c0 (.c0 (.c0 (.c0 (.c0 (.c0 (.c0 (.c0 (.c0 (.c0 (.c0 (.c0 (.nil)))))))))))))))) (.c0 (.c0 (.c0 (.c0 (.c0 (.nil)))))))))
      focus
       all_goals (refine x_al 3 ?_)
       all_goals (
        refine x_all2 4 7 ?_ ?_
        focus
         all_goals (refine op_callA rfl rfl rfl rfl rfl ⟨_, Try.func18, by decide, rfl⟩ (.cons (.pure rfl) .nil) (clone_o _ (by first | omega | (simp; omega))) (by rintro r H' m ⟨rfl, rfl⟩; refine ⟨rfl, ?_⟩; simp only [List.mem_singleton]; rintro o rfl; exact AObj.shut_vals (fun e he => by obtain ⟨b, _, rfl⟩ := List.mem_map.1 he; exact ⟨_, rfl⟩)) ?_)
         all_goals (rintro r H' m ⟨rfl, rfl⟩)
         all_goals (
          refine x_all1 7 ?_
          focus
           all_goals (first | refine x_ld ?_ | refine x_ldr ?_)
           all_goals refine x_tk 8 (opWF_build rfl) ?_
           all_goals (refine x_b3_3 ?_)
           all_goals (
            refine x_all1 10 ?_
            focus
             all_goals (refine x_st3 ?_)
             all_goals exact any_leaf (n := 91) [0, 1, 2, 4, 3] [0, 1, 2, 3, 4, 5, 6, 7, 8, 9, 17, 21, 41, 61, 83] (by kernel_rfl) rfl rfl rfl (.c0 (.c0 (.c0 (.c0 (.c0 (.c0 (.c0 (.c0 (.c0 (.c0 (.c0 (.c0 (.c0 (.c0 (.c0 (.nil)))))))))))))))) (.c0 (.c0 (.c0 (.c0 (.c0 (.nil))))))))
        focus
         all_goals (first | refine x_ld ?_ | refine x_ldr ?_)
         all_goals (
          refine x_all1 4 ?_
          focus
           all_goals (refine op_callA rfl rfl rfl rfl rfl ⟨_, Try.func18, by decide, rfl⟩ (.cons (.pure rfl) .nil) (clone_o _ (by first | omega | (simp; omega))) (by rintro r H' m ⟨rfl, rfl⟩; refine ⟨rfl, ?_⟩; simp only [List.mem_singleton]; rintro o rfl; exact AObj.shut_vals (fun e he => by obtain ⟨b, _, rfl⟩ := List.mem_map.1 he; exact ⟨_, rfl⟩)) ?_)
           all_goals (rintro r H' m ⟨rfl, rfl⟩)
           all_goals refine x_tk 8 (opWF_build rfl) ?_
           all_goals (refine x_b3_3 ?_)
           all_goals (
            refine x_all1 10 ?_
            focus
             all_goals (refine x_st3 ?_)
             all_goals exact any_leaf (n := 91) [0, 1, 2, 4, 3] [0, 1, 2, 3, 4, 5, 6, 7, 8, 9, 17, 21, 41, 61, 83] (by kernel_rfl) rfl rfl rfl (.c0 (.c0 (.c0 (.c0 (.c0 (.c0 (.c0 (.c0 (.c0 (.c0 (.c0 (.c0 (.c0 (.c0 (.c0 (.nil)))))))))))))))) (.c0 (.c0 (.c0 (.c0 (.c0 (.nil))))))))))
    focus
     all_goals (first | refine x_ld ?_ | refine x_ldr ?_)
     all_goals (
      refine x_all2 1 9 ?_ ?_
      focus
       all_goals (first | refine x_ld ?_ | refine x_ldr ?_)
       all_goals refine x_tk 3 (opWF_slice) ?_
       all_goals (first | refine op_slice_sl rfl rfl rfl rfl rfl .none (.to rfl rfl (by first | rw [Int.toNat_natCast] | rw [Int.toNat_zero] | rw [Int.toNat_one] | rw [Int.toNat_ofNat] | exact rfl) (by omega)) (by first | omega | simp; omega) (by first | omega | simp; omega) (by conv => lhs; first | rw [sub1] | rw [sub2] | rw [sub3] | skip) ?_ | refine op_slice_osl rfl rfl rfl rfl rfl .none (.to rfl rfl (by first | rw [Int.toNat_natCast] | rw [Int.toNat_zero] | rw [Int.toNat_one] | rw [Int.toNat_ofNat] | exact rfl) (by omega)) (by first | omega | simp) (by omega) ?_)
       all_goals (
        refine x_all2 4 9 ?_ ?_
        focus
         all_goals (refine op_callA rfl rfl rfl rfl rfl ⟨_, Try.func18, by decide, rfl⟩ (.cons (.pure rfl) .nil) (clone_o _ (by first | omega | (simp; omega))) (by rintro r H' m ⟨rfl, rfl⟩; refine ⟨rfl, ?_⟩; simp only [List.mem_singleton]; rintro o rfl; exact AObj.shut_vals (fun e he => by obtain ⟨b, _, rfl⟩ := List.mem_map.1 he; exact ⟨_, rfl⟩)) ?_)
         all_goals (rintro r H' m ⟨rfl, rfl⟩)
         all_goals refine x_tk 8 (opWF_build rfl) ?_
         all_goals (refine x_b3_3 ?_)
         all_goals (
          refine x_all1 9 ?_
          focus
           all_goals (refine x_al 3 ?_)
           all_goals (
            refine x_all1 10 ?_
            focus
             all_goals (refine x_st3 ?_)
             all_goals exact any_leaf (n := 91) [0, 1, 2, 3, 4] [0, 1, 2, 3, 4, 5, 6, 7, 8, 9, 17, 21, 41, 61, 83] (by kernel_rfl) rfl rfl rfl (.c0 (.c0 (.c0 (.c0 (.c0 (.c0 (.c0 (.c0 (.c0 (.c0 (.c0 (.c0 (.c0 (.c0 (.c0 (.nil)))))))))))))))) (.c0 (.c0 (.c0 (.c0 (.c0 (.nil))))))))
        focus
         all_goals (refine x_al 3 ?_)
         all_goals (
          refine x_all1 4 ?_
          focus
           all_goals (refine op_callA rfl rfl rfl rfl rfl ⟨_, Try.func18, by decide, rfl⟩ (.cons (.pure rfl) .nil) (clone_o _ (by first | omega | (simp; omega))) (by rintro r H' m ⟨rfl, rfl⟩; refine ⟨rfl, ?_⟩; simp only [List.mem_singleton]; rintro o rfl; exact AObj.shut_vals (fun e he => by obtain ⟨b, _, rfl⟩ := List.mem_map.1 he; exact ⟨_, rfl⟩)) ?_)
           all_goals (rintro r H' m ⟨rfl, rfl⟩)
           all_goals refine x_tk 8 (opWF_build rfl) ?_
           all_goals (refine x_b3_3 ?_)
           all_goals (
            refine x_all1 10 ?_
            focus
             all_goals (refine x_st3 ?_)
             all_goals exact any_leaf (n := 91) [0, 1, 2, 4, 3] [0, 1, 2, 3, 4, 5, 6, 7, 8, 9, 17, 21, 41, 61, 83] (by kernel_rfl) rfl rfl rfl (.c0 (.c0 (.c0 (.c0 (.c0 (.c0 (.c0 (.c0 (.c0 (.c0 (.c0 (.c0 (.c0 (.c0 (.c0 (.nil)))))))))))))))) (.c0 (.c0 (.c0 (.c0 (.c0 (.nil)))))))))
      focus
       all_goals (refine x_al 3 ?_)
       all_goals (
        refine x_all1 1 ?_
        focus
         all_goals (first | refine x_ld ?_ | refine x_ldr ?_)
         all_goals refine x_tk 3 (opWF_slice) ?_
         all_goals (first | refine op_slice_sl rfl rfl rfl rfl rfl .none (.to rfl rfl (by first | rw [Int.toNat_natCast] | rw [Int.toNat_zero] | rw [Int.toNat_one] | rw [Int.toNat_ofNat] | exact rfl) (by omega)) (by first | omega | simp; omega) (by first | omega | simp; omega) (by conv => lhs; first | rw [sub1] | rw [sub2] | rw [sub3] | skip) ?_ | refine op_slice_osl rfl rfl rfl rfl rfl .none (.to rfl rfl (by first | rw [Int.toNat_natCast] | rw [Int.toNat_zero] | rw [Int.toNat_one] | rw [Int.toNat_ofNat] | exact rfl) (by omega)) (by first | omega | simp) (by omega) ?_)
         all_goals (
          refine x_all1 4 ?_
          focus
           all_goals (refine op_callA rfl rfl rfl rfl rfl ⟨_, Try.func18, by decide, rfl⟩ (.cons (.pure rfl) .nil) (clone_o _ (by first | omega | (simp; omega))) (by rintro r H' m ⟨rfl, rfl⟩; refine ⟨rfl, ?_⟩; simp only [List.mem_singleton]; rintro o rfl; exact AObj.shut_vals (fun e he => by obtain ⟨b, _, rfl⟩ := List.mem_map.1 he; exact ⟨_, rfl⟩)) ?_)
           all_goals (rintro r H' m ⟨rfl, rfl⟩)
           all_goals refine x_tk 8 (opWF_build rfl) ?_
           all_goals (refine x_b3_3 ?_)
           all_goals (
            refine x_all1 10 ?_
            focus
             all_goals (refine x_st3 ?_)
             all_goals exact any_leaf (n := 91) [0, 1, 2, 4, 3] [0, 1, 2, 3, 4, 5, 6, 7, 8, 9, 17, 21, 41, 61, 83] (by kernel_rfl) rfl rfl rfl (.c0 (.c0 (.c0 (.c0 (.c0 (.c0 (.c0 (.c0 (.c0 (.c0 (.c0 (.c0 (.c0 (.c0 (.c0 (.nil)))))))))))))))) (.c0 (.c0 (.c0 (.c0 (.c0 (.nil))))))))))
    focus
     all_goals (refine x_al 3 ?_)
     all_goals (
      refine x_all2 1 7 ?_ ?_
      focus
       all_goals (first | refine x_ld ?_ | refine x_ldr ?_)
       all_goals refine x_tk 3 (opWF_slice) ?_
       all_goals (first | refine op_slice_sl rfl rfl rfl rfl rfl .none (.to rfl rfl (by first | rw [Int.toNat_natCast] | rw [Int.toNat_zero] | rw [Int.toNat_one] | rw [Int.toNat_ofNat] | exact rfl) (by omega)) (by first | omega | simp; omega) (by first | omega | simp; omega) (by conv => lhs; first | rw [sub1] | rw [sub2] | rw [sub3] | skip) ?_ | refine op_slice_osl rfl rfl rfl rfl rfl .none (.to rfl rfl (by first | rw [Int.toNat_natCast] | rw [Int.toNat_zero] | rw [Int.toNat_one] | rw [Int.toNat_ofNat] | exact rfl) (by omega)) (by first | omega | simp) (by omega) ?_)
       all_goals (
        refine x_all2 4 7 ?_ ?_
        focus
         all_goals (refine op_callA rfl rfl rfl rfl rfl ⟨_, Try.func18, by decide, rfl⟩ (.cons (.pure rfl) .nil) (clone_o _ (by first | omega | (simp; omega))) (by rintro r H' m ⟨rfl, rfl⟩; refine ⟨rfl, ?_⟩; simp only [List.mem_singleton]; rintro o rfl; exact AObj.shut_vals (fun e he => by obtain ⟨b, _, rfl⟩ := List.mem_map.1 he; exact ⟨_, rfl⟩)) ?_)
         all_goals (rintro r H' m ⟨rfl, rfl⟩)
         all_goals (
          refine x_all1 7 ?_
          focus
           all_goals (first | refine x_ld ?_ | refine x_ldr ?_)
           all_goals refine x_tk 8 (opWF_build rfl) ?_
           all_goals (refine x_b3_3 ?_)
           all_goals (
            refine x_all1 10 ?_
            focus
             all_goals (refine x_st3 ?_)
             all_goals exact any_leaf (n := 91) [0, 1, 2, 4, 3] [0, 1, 2, 3, 4, 5, 6, 7, 8, 9, 17, 21, 41, 61, 83] (by kernel_rfl) rfl rfl rfl (.c0 (.c0 (.c0 (.c0 (.c0 (.c0 (.c0 (.c0 (.c0 (.c0 (.c0 (.c0 (.c0 (.c0 (.c0 (.nil)))))))))))))))) (.c0 (.c0 (.c0 (.c0 (.c0 (.nil))))))))
        focus
         all_goals (first | refine x_ld ?_ | refine x_ldr ?_)
         all_goals (
          refine x_all1 4 ?_
          focus
           all_goals (refine op_callA rfl rfl rfl rfl rfl ⟨_, Try.func18, by decide, rfl⟩ (.cons (.pure rfl) .nil) (clone_o _ (by first | omega | (simp; omega))) (by rintro r H' m ⟨rfl, rfl⟩; refine ⟨rfl, ?_⟩; simp only [List.mem_singleton]; rintro o rfl; exact AObj.shut_vals (fun e he => by obtain ⟨b, _, rfl⟩ := List.mem_map.1 he; exact ⟨_, rfl⟩)) ?_)
           all_goals (rintro r H' m ⟨rfl, rfl⟩)
           all_goals refine x_tk 8 (opWF_build rfl) ?_
           all_goals (refine x_b3_3 ?_)
           all_goals (
            refine x_all1 10 ?_
            focus
             all_goals (refine x_st3 ?_)
             all_goals exact any_leaf (n := 91) [0, 1, 2, 4, 3] [0, 1, 2, 3, 4, 5, 6, 7, 8, 9, 17, 21, 41, 61, 83] (by kernel_rfl) rfl rfl rfl (.c0 (.c0 (.c0 (.c0 (.c0 (.c0 (.c0 (.c0 (.c0 (.c0 (.c0 (.c0 (.c0 (.c0 (.c0 (.nil)))))))))))))))) (.c0 (.c0 (.c0 (.c0 (.c0 (.nil)))))))))
      focus
       all_goals (first | refine x_ld ?_ | refine x_ldr ?_)
       all_goals (
        refine x_all1 1 ?_
        focus
         all_goals (first | refine x_ld ?_ | refine x_ldr ?_)
         all_goals refine x_tk 3 (opWF_slice) ?_
         all_goals (first | refine op_slice_sl rfl rfl rfl rfl rfl .none (.to rfl rfl (by first | rw [Int.toNat_natCast] | rw [Int.toNat_zero] | rw [Int.toNat_one] | rw [Int.toNat_ofNat] | exact rfl) (by omega)) (by first | omega | simp; omega) (by first | omega | simp; omega) (by conv => lhs; first | rw [sub1] | rw [sub2] | rw [sub3] | skip) ?_ | refine op_slice_osl rfl rfl rfl rfl rfl .none (.to rfl rfl (by first | rw [Int.toNat_natCast] | rw [Int.toNat_zero] | rw [Int.toNat_one] | rw [Int.toNat_ofNat] | exact rfl) (by omega)) (by first | omega | simp) (by omega) ?_)
         all_goals (
          refine x_all1 4 ?_
          focus
           all_goals (refine op_callA rfl rfl rfl rfl rfl ⟨_, Try.func18, by decide, rfl⟩ (.cons (.pure rfl) .nil) (clone_o _ (by first | omega | (simp; omega))) (by rintro r H' m ⟨rfl, rfl⟩; refine ⟨rfl, ?_⟩; simp only [List.mem_singleton]; rintro o rfl; exact AObj.shut_vals (fun e he => by obtain ⟨b, _, rfl⟩ := List.mem_map.1 he; exact ⟨_, rfl⟩)) ?_)
           all_goals (rintro r H' m ⟨rfl, rfl⟩)
           all_goals refine x_tk 8 (opWF_build rfl) ?_
           all_goals (refine x_b3_3 ?_)
           all_goals (
            refine x_all1 10 ?_
            focus
             all_goals (refine x_st3 ?_)
             all_goals exact any_leaf (n := 91) [0, 1, 2, 4, 3] [0, 1, 2, 3, 4, 5, 6, 7, 8, 9, 17, 21, 41, 61, 83] (by kernel_rfl) rfl rfl rfl (.c0 (.c0 (.c0 (.c0 (.c0 (.c0 (.c0 (.c0 (.c0 (.c0 (.c0 (.c0 (.c0 (.c0 (.c0 (.nil)))))))))))))))) (.c0 (.c0 (.c0 (.c0 (.c0 (.nil))))))))))))
 all_goals refine seqQ_n ?_
 all_goals refine tri_seq ?_
 all_goals refine tri_seq ?_
 all_goals refine tri_region ?_
 all_goals refine oc ?_
 all_goals (first | refine x_fa0 ?_ | refine x_far0 ?_ | refine x_fa ?_ | refine x_far ?_)
 all_goals refine oc ?_
 all_goals (first | refine x_ld ?_ | refine x_ldr ?_)
 all_goals refine oc (x_geq ?_)
 all_goals refine oc (x_move ?_)
 all_goals (first | refine gU ?_ | refine gY ?_ | refine gN ?_ | refine ops_guardTd rfl rfl rfl rfl rfl rfl (fun hg => ?_) (fun hg => ?_) | refine gT (fun hg => ?_) (fun hg => ?_))
 all_goals try (exfalso; omega)
 all_goals (first | refine ops_here ?_ | (first | refine x_fa0 ?_ | refine x_far0 ?_ | refine x_fa ?_ | refine x_far ?_))
 all_goals (first | refine gU ?_ | refine gY ?_ | refine gN ?_ | refine ops_guardTd rfl rfl rfl rfl rfl rfl (fun hg => ?_) (fun hg => ?_) | refine gT (fun hg => ?_) (fun hg => ?_))
 all_goals try (exfalso; omega)
 all_goals (first | refine ops_here ?_ | (first | refine x_ld ?_ | refine x_ldr ?_))
 all_goals (first | refine gU ?_ | refine gY ?_ | refine gN ?_ | refine ops_guardTd rfl rfl rfl rfl rfl rfl (fun hg => ?_) (fun hg => ?_) | refine gT (fun hg => ?_) (fun hg => ?_))
 all_goals try (exfalso; omega)
 all_goals (first | refine ops_here ?_ | (refine x_move ?_))
 all_goals (first | refine gU ?_ | refine gY ?_ | refine gN ?_ | refine ops_guardTd rfl rfl rfl rfl rfl rfl (fun hg => ?_) (fun hg => ?_) | refine gT (fun hg => ?_) (fun hg => ?_))
 all_goals try (exfalso; omega)
 all_goals (first | refine ops_here ?_ | (first | refine op_len_sl rfl (by first | (conv => lhs; simp only [List.length_map, bytesAV_length]) | rfl) rfl rfl rfl ?_ | refine x_leno ?_ | refine x_lenn ?_))
 all_goals (first | refine gU ?_ | refine gY ?_ | refine gN ?_ | refine ops_guardTd rfl rfl rfl rfl rfl rfl (fun hg => ?_) (fun hg => ?_) | refine gT (fun hg => ?_) (fun hg => ?_))
 all_goals try (exfalso; omega)
 all_goals (first | refine ops_here ?_ | (refine x_lss ?_))
 all_goals refine oc ?_
 all_goals (first | refine x_pt ?_ | refine x_pf ?_ | refine x_pb ?_)
 all_goals refine ops_nil ?_
 all_goals refine seqQ_n ?_
 all_goals (
  first | refine tri_cond_d rfl rfl (fun hc => ?_) (fun hc => ?_) | refine ct (fun hc => ?_) (fun hc => ?_) | refine cf (fun hc => ?_) (fun hc => ?_) | refine cb (fun hc => ?_) (fun hc => ?_)
  focus
   try (exfalso; first | exact hc | omega)
   all_goals refine tri_seq ?_
   all_goals (
    apply tri_anyCut (by rfl)
    focus
     all_goals refine x_tk 0 (opWF_fieldAddr rfl rfl rfl) ?_
     all_goals (first | refine x_fa0 ?_ | refine x_far0 ?_ | refine x_fa ?_ | refine x_far ?_)
     all_goals refine x_tk 2 (opWF_move) ?_
     all_goals (refine x_move ?_)
     all_goals refine x_tk 3 (opWF_fieldAddr rfl rfl rfl) ?_
     all_goals (first | refine x_fa0 ?_ | refine x_far0 ?_ | refine x_fa ?_ | refine x_far ?_)
     all_goals (
      refine x_all2 1 4 ?_ ?_
      focus
       all_goals (first | refine x_ld ?_ | refine x_ldr ?_)
       all_goals (
        refine x_all1 4 ?_
        focus
         all_goals (first | refine x_ld ?_ | refine x_ldr ?_)
         all_goals refine x_tk 5 (opWF_slice) ?_
         all_goals (first | refine op_slice_sl rfl rfl rfl rfl rfl .none (.to rfl rfl (by first | rw [Int.toNat_natCast] | rw [Int.toNat_zero] | rw [Int.toNat_one] | rw [Int.toNat_ofNat] | exact rfl) (by omega)) (by first | omega | simp; omega) (by first | omega | simp; omega) (by conv => lhs; first | rw [sub1] | rw [sub2] | rw [sub3] | skip) ?_ | refine op_slice_osl rfl rfl rfl rfl rfl .none (.to rfl rfl (by first | rw [Int.toNat_natCast] | rw [Int.toNat_zero] | rw [Int.toNat_one] | rw [Int.toNat_ofNat] | exact rfl) (by omega)) (by first | omega | simp) (by omega) ?_)
         all_goals (
          refine x_all1 6 ?_
          focus
           all_goals (first | refine op_append rfl (by conv => lhs; whnf) rfl rfl rfl (Elem.mk (sz := 1) (by rfl) (by rfl) (by rfl) (by rfl) (by conv => lhs; whnf) (by rfl) (by rfl) (by rfl)) rfl (by first | omega | simp) (by first | exact Src.sl | exact Src.own rfl (by conv => lhs; first | simp only [List.drop_zero, List.take_succ_cons, List.take_zero, List.take_nil, take_bytes] | whnf) (by first | omega | simp) | exact Src.nil) (by first | (simp only [Nat.mul_one, bytesAV_length]; omega) | (simp; omega)) ?_ | refine opTri_le (le_own 63 5 1 rfl) (op_append rfl (by conv => lhs; whnf) rfl rfl rfl (Elem.mk (sz := 1) (by rfl) (by rfl) (by rfl) (by rfl) (by conv => lhs; whnf) (by rfl) (by rfl) (by rfl)) rfl (by first | omega | simp) (by first | exact Src.sl | exact Src.own rfl (by conv => lhs; first | simp only [List.drop_zero, List.take_succ_cons, List.take_zero, List.take_nil, take_bytes] | whnf) (by first | omega | simp) | exact Src.nil) (by first | (simp only [Nat.mul_one, bytesAV_length]; omega) | (simp; omega)) ?_))
           all_goals refine x_tk 7 (opWF_fieldAddr rfl rfl rfl) ?_
           all_goals (first | refine x_fa0 ?_ | refine x_far0 ?_ | refine x_fa ?_ | refine x_far ?_)
           all_goals (
            refine x_all1 8 ?_
            focus
             all_goals (first | refine x_st ?_ | refine x_ste ?_)
             all_goals exact any_leaf (n := 91) [0, 1, 2, 3, 4] [0, 1, 2, 3, 4, 5, 6, 7, 8, 9, 17, 21, 41, 61, 83] (by kernel_rfl) rfl rfl rfl (.c0 (.c0 (.c0 (.c0 (.c0 (.c0 (.c0 (.c0 (.c0 (.c0 (.c0 (.c0 (.c0 (.c0 (.c0 (.nil)))))))))))))))) (.c0 (.c0 (.c0 (.c0 (.c0 (.nil)))))))))
      focus
       all_goals (first | refine x_ld ?_ | refine x_ldr ?_)
       all_goals refine x_tk 5 (opWF_slice) ?_
       all_goals (first | refine op_slice_sl rfl rfl rfl rfl rfl .none (.to rfl rfl (by first | rw [Int.toNat_natCast] | rw [Int.toNat_zero] | rw [Int.toNat_one] | rw [Int.toNat_ofNat] | exact rfl) (by omega)) (by first | omega | simp; omega) (by first | omega | simp; omega) (by conv => lhs; first | rw [sub1] | rw [sub2] | rw [sub3] | skip) ?_ | refine op_slice_osl rfl rfl rfl rfl rfl .none (.to rfl rfl (by first | rw [Int.toNat_natCast] | rw [Int.toNat_zero] | rw [Int.toNat_one] | rw [Int.toNat_ofNat] | exact rfl) (by omega)) (by first | omega | simp) (by omega) ?_)
       all_goals (
        refine x_all1 1 ?_
        focus
         all_goals (first | refine x_ld ?_ | refine x_ldr ?_)
         all_goals (
          refine x_all1 6 ?_
          focus
           all_goals (first | refine op_append rfl (by conv => lhs; whnf) rfl rfl rfl (Elem.mk (sz := 1) (by rfl) (by rfl) (by rfl) (by rfl) (by conv => lhs; whnf) (by rfl) (by rfl) (by rfl)) rfl (by first | omega | simp) (by first | exact Src.sl | exact Src.own rfl (by conv => lhs; first | simp only [List.drop_zero, List.take_succ_cons, List.take_zero, List.take_nil, take_bytes] | whnf) (by first | omega | simp) | exact Src.nil) (by first | (simp only [Nat.mul_one, bytesAV_length]; omega) | (simp; omega)) ?_ | refine opTri_le (le_own 63 5 1 rfl) (op_append rfl (by conv => lhs; whnf) rfl rfl rfl (Elem.mk (sz := 1) (by rfl) (by rfl) (by rfl) (by rfl) (by conv => lhs; whnf) (by rfl) (by rfl) (by rfl)) rfl (by first | omega | simp) (by first | exact Src.sl | exact Src.own rfl (by conv => lhs; first | simp only [List.drop_zero, List.take_succ_cons, List.take_zero, List.take_nil, take_bytes] | whnf) (by first | omega | simp) | exact Src.nil) (by first | (simp only [Nat.mul_one, bytesAV_length]; omega) | (simp; omega)) ?_))
           all_goals refine x_tk 7 (opWF_fieldAddr rfl rfl rfl) ?_
           all_goals (first | refine x_fa0 ?_ | refine x_far0 ?_ | refine x_fa ?_ | refine x_far ?_)
           all_goals (
            refine x_all1 8 ?_
            focus
             all_goals (first | refine x_st ?_ | refine x_ste ?_)
             all_goals exact any_leaf (n := 91) [0, 1, 2, 3, 4] [0, 1, 2, 3, 4, 5, 6, 7, 8, 9, 17, 21, 41, 61, 83] (by kernel_rfl) rfl rfl rfl (.c0 (.c0 (.c0 (.c0 (.c0 (.c0 (.c0 (.c0 (.c0 (.c0 (.c0 (.c0 (.c0 (.c0 (.c0 (.nil)))))))))))))))) (.c0 (.c0 (.c0 (.c0 (.c0 (.nil)))))))))))
   all_goals refine seqQ_n ?_
   all_goals refine tri_seq ?_
   all_goals refine tri_region ?_
   all_goals refine oc ?_
   all_goals (first | refine x_fa0 ?_ | refine x_far0 ?_ | refine x_fa ?_ | refine x_far ?_)
   all_goals refine oc ?_
   all_goals (first | refine x_st ?_ | refine x_ste ?_)
   all_goals refine ops_nil ?_
   all_goals refine seqQ_n ?_
   all_goals refine tri_seq ?_
   all_goals refine tri_region ?_
   all_goals refine oc ?_
   all_goals (first | refine x_lda ?_ | refine x_ldra ?_ | refine x_ldp ?_ | refine x_ldrp ?_)
   all_goals refine oc (x_st3 ?_)
   all_goals refine oc (x_assign ?_)
   all_goals refine ops_nil ?_
   all_goals refine seqQ_n ?_
   all_goals (refine tri_le (lit_snapO 2 (by first | ((conv => lhs; whnf; arg 1; whnf); done) | rfl | assumption | (simp; done)) (by conv => lhs; whnf; congr; { whnf }; { whnf; congr; { whnf }; { whnf; congr; { whnf }; { whnf } } }) (by exact .cons (by first | exact SnapR.nil (sz := 1) | exact .pure rfl | exact .own (by first | ((conv => lhs; whnf; arg 1; whnf); done) | rfl | assumption | (simp; done)) (by conv => lhs; first | simp only [List.drop_zero, List.take_succ_cons, List.take_zero, List.take_nil, take_bytes] | whnf) (by simp)) (.cons (.pure rfl) (.cons (.pure rfl) .nil))) (by rfl) (by rfl) (by rfl)) ?_)
   all_goals refine tri_ret ?_
   all_goals refine seqQ_r ?_
   all_goals refine retE_r [] (.cons (by first | exact .cellAgg rfl rfl rfl rfl rfl rfl rfl rfl | exact .cell1 rfl rfl rfl rfl rfl rfl rfl) (.cons (.tmp (by conv => lhs; whnf) rfl) .nil)) rfl rfl (by first | exact (ren_pure (by rfl)).trans (by conv => lhs; whnf) | ((conv => lhs; whnf); done) | rfl) (.nil) ?_
   all_goals (
    first
    | (have hd : write s c = (zeroSto, 1) := if_pos (by simp_all)
       rw [hd]; exact ⟨rfl, rfl⟩)
    | (have hd : write s c = (s, 15) := (if_neg (by simp_all)).trans (if_pos (by assumption))
       rw [hd]; exact ⟨rfl, rfl⟩)
    | (have hd : write s c = (zeroSto, 5) := (if_neg (by simp_all)).trans ((if_neg (by assumption)).trans (if_pos (by omega)))
       rw [hd]; exact ⟨rfl, rfl⟩)
    | (have hd : write s c = (⟨s.bytes.take (recs s.bytes [] 0).2 ++ (record c).take s.after.toNat, (recs s.bytes [] 0).2, 0⟩, 15) := by
         unfold write; dsimp only; rw [if_neg (by simp_all), if_neg (by assumption), if_neg (by omega), if_pos (by omega)]
       rw [hd, join_take]; exact ⟨rfl, rfl⟩)
    | (have hd : write s c = (⟨s.bytes.take (recs s.bytes [] 0).2 ++ record c, (s.bytes.take (recs s.bytes [] 0).2 ++ record c).length, if 0 ≤ s.after then s.after - (record c).length else s.after⟩, 0) := by
         unfold write; dsimp only; rw [if_neg (by simp_all), if_neg (by assumption), if_neg (by omega), if_neg (by omega)]
       rw [hd, join_take, List.length_append, bytesAV_length]
       first | rw [if_pos (by assumption)] | rw [if_neg (by assumption)]
       exact ⟨rfl, rfl⟩))
  rotate_right 1
  focus
   try (exfalso; first | exact hc | omega)
   all_goals refine tri_skip ?_)
 all_goals refine seqQ_n ?_
 all_goals refine tri_seq ?_
 all_goals refine tri_region ?_
 all_goals refine oc ?_
 all_goals (first | refine x_fa0 ?_ | refine x_far0 ?_ | refine x_fa ?_ | refine x_far ?_)
 all_goals refine oc ?_
 all_goals (first | refine x_ld ?_ | refine x_ldr ?_)
 all_goals refine oc (x_move ?_)
 all_goals refine oc ?_
 all_goals (first | refine op_append rfl (by conv => lhs; whnf) rfl rfl rfl (Elem.mk (sz := 1) (by rfl) (by rfl) (by rfl) (by rfl) (by conv => lhs; whnf) (by rfl) (by rfl) (by rfl)) rfl (by first | omega | simp) (by first | exact Src.sl | exact Src.own rfl (by conv => lhs; first | simp only [List.drop_zero, List.take_succ_cons, List.take_zero, List.take_nil, take_bytes] | whnf) (by first | omega | simp) | exact Src.nil) (by first | (simp only [Nat.mul_one, bytesAV_length]; omega) | (simp; omega)) ?_ | refine opTri_le (le_own 73 5 1 rfl) (op_append rfl (by conv => lhs; whnf) rfl rfl rfl (Elem.mk (sz := 1) (by rfl) (by rfl) (by rfl) (by rfl) (by conv => lhs; whnf) (by rfl) (by rfl) (by rfl)) rfl (by first | omega | simp) (by first | exact Src.sl | exact Src.own rfl (by conv => lhs; first | simp only [List.drop_zero, List.take_succ_cons, List.take_zero, List.take_nil, take_bytes] | whnf) (by first | omega | simp) | exact Src.nil) (by first | (simp only [Nat.mul_one, bytesAV_length]; omega) | (simp; omega)) ?_))
 all_goals refine oc ?_
 all_goals (first | refine x_fa0 ?_ | refine x_far0 ?_ | refine x_fa ?_ | refine x_far ?_)
 all_goals refine oc ?_
 all_goals (first | refine x_st ?_ | refine x_ste ?_)
 all_goals refine ops_nil ?_
 all_goals refine seqQ_n ?_
 all_goals refine tri_seq ?_
 all_goals refine tri_region ?_
 all_goals refine oc ?_
 all_goals (first | refine x_fa0 ?_ | refine x_far0 ?_ | refine x_fa ?_ | refine x_far ?_)
 all_goals refine oc ?_
 all_goals (first | refine x_ld ?_ | refine x_ldr ?_)
 all_goals refine oc ?_
 all_goals (first | refine op_len_sl rfl (by first | (conv => lhs; simp only [List.length_map, bytesAV_length]) | rfl) rfl rfl rfl ?_ | refine x_leno ?_ | refine x_lenn ?_)
 all_goals refine oc ?_
 all_goals (first | refine x_fa0 ?_ | refine x_far0 ?_ | refine x_fa ?_ | refine x_far ?_)
 all_goals refine oc ?_
 all_goals (first | refine x_st ?_ | refine x_ste ?_)
 all_goals refine ops_nil ?_
 all_goals refine seqQ_n ?_
 all_goals refine tri_seq ?_
 all_goals refine tri_seq ?_
 all_goals refine tri_region ?_
 all_goals refine oc ?_
 all_goals (first | refine x_fa0 ?_ | refine x_far0 ?_ | refine x_fa ?_ | refine x_far ?_)
 all_goals refine oc ?_
 all_goals (first | refine x_ld ?_ | refine x_ldr ?_)
 all_goals refine oc (x_geq ?_)
 all_goals refine ops_nil ?_
 all_goals refine seqQ_n ?_
 all_goals (
  first | refine tri_cond_d rfl rfl (fun hc => ?_) (fun hc => ?_) | refine ct (fun hc => ?_) (fun hc => ?_) | refine cf (fun hc => ?_) (fun hc => ?_) | refine cb (fun hc => ?_) (fun hc => ?_)
  focus
   try (exfalso; first | exact hc | omega)
   all_goals refine tri_region ?_
   all_goals refine oc ?_
   all_goals (first | refine x_fa0 ?_ | refine x_far0 ?_ | refine x_fa ?_ | refine x_far ?_)
   all_goals refine oc ?_
   all_goals (first | refine x_ld ?_ | refine x_ldr ?_)
   all_goals refine oc (x_move ?_)
   all_goals refine oc ?_
   all_goals (first | refine op_len_sl rfl (by first | (conv => lhs; simp only [List.length_map, bytesAV_length]) | rfl) rfl rfl rfl ?_ | refine x_leno ?_ | refine x_lenn ?_)
   all_goals refine oc ?_
   all_goals (first | refine x_sub64 ?_ | refine x_sub ?_)
   all_goals refine oc ?_
   all_goals (first | refine x_fa0 ?_ | refine x_far0 ?_ | refine x_fa ?_ | refine x_far ?_)
   all_goals refine oc ?_
   all_goals (first | refine x_st ?_ | refine x_ste ?_)
   all_goals refine ops_nil ?_
  rotate_right 1
  focus
   try (exfalso; first | exact hc | omega)
   all_goals refine tri_skip ?_)
 all_goals refine seqQ_n ?_
 all_goals refine tri_seq ?_
 all_goals refine tri_region ?_
 all_goals refine oc ?_
 all_goals (first | refine x_lda ?_ | refine x_ldra ?_ | refine x_ldp ?_ | refine x_ldrp ?_)
 all_goals refine oc (x_st3 ?_)
 all_goals refine oc (x_assign ?_)
 all_goals refine ops_nil ?_
 all_goals refine seqQ_n ?_
 all_goals (refine tri_le (lit_snapO 2 (by first | ((conv => lhs; whnf; arg 1; whnf); done) | rfl | assumption | (simp; done)) (by conv => lhs; whnf; congr; { whnf }; { whnf; congr; { whnf }; { whnf; congr; { whnf }; { whnf } } }) (by exact .cons (by first | exact SnapR.nil (sz := 1) | exact .pure rfl | exact .own (by first | ((conv => lhs; whnf; arg 1; whnf); done) | rfl | assumption | (simp; done)) (by conv => lhs; first | simp only [List.drop_zero, List.take_succ_cons, List.take_zero, List.take_nil, take_bytes] | whnf) (by simp)) (.cons (.pure rfl) (.cons (.pure rfl) .nil))) (by rfl) (by rfl) (by rfl)) ?_)
 all_goals refine tri_ret ?_
 all_goals refine retE_r [] (.cons (by first | exact .cellAgg rfl rfl rfl rfl rfl rfl rfl rfl | exact .cell1 rfl rfl rfl rfl rfl rfl rfl) (.cons (.tmp (by conv => lhs; whnf) rfl) .nil)) rfl rfl (by first | exact (ren_pure (by rfl)).trans (by conv => lhs; whnf) | ((conv => lhs; whnf); done) | rfl) (.nil) ?_
 all_goals (
  first
  | (have hd : write s c = (zeroSto, 1) := if_pos (by simp_all)
     rw [hd]; exact ⟨rfl, rfl⟩)
  | (have hd : write s c = (s, 15) := (if_neg (by simp_all)).trans (if_pos (by assumption))
     rw [hd]; exact ⟨rfl, rfl⟩)
  | (have hd : write s c = (zeroSto, 5) := (if_neg (by simp_all)).trans ((if_neg (by assumption)).trans (if_pos (by omega)))
     rw [hd]; exact ⟨rfl, rfl⟩)
  | (have hd : write s c = (⟨s.bytes.take (recs s.bytes [] 0).2 ++ (record c).take s.after.toNat, (recs s.bytes [] 0).2, 0⟩, 15) := by
       unfold write; dsimp only; rw [if_neg (by simp_all), if_neg (by assumption), if_neg (by omega), if_pos (by omega)]
     rw [hd, join_take]; exact ⟨rfl, rfl⟩)
  | (have hd : write s c = (⟨s.bytes.take (recs s.bytes [] 0).2 ++ record c, (s.bytes.take (recs s.bytes [] 0).2 ++ record c).length, if 0 ≤ s.after then s.after - (record c).length else s.after⟩, 0) := by
       unfold write; dsimp only; rw [if_neg (by simp_all), if_neg (by assumption), if_neg (by omega), if_neg (by omega)]
     rw [hd, join_take, List.length_append, bytesAV_length]
     first | rw [if_pos (by assumption)] | rw [if_neg (by assumption)]
     exact ⟨rfl, rfl⟩))

end Go.Proofs.Ytjalgcjllddmhaa

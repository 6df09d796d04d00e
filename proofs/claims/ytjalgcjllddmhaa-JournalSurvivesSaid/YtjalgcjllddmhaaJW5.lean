/- A text of the proof of JournalSurvives: JW5 -/
import Derived.Test.YtjalgcjllddmhaaProg
import Derived.Test.YtjalgcjllddmhaaAvShort
import Derived.Test.YtjalgcjllddmhaaAvAppS
import Derived.Test.YtjalgcjllddmhaaAvSnap
import Derived.Test.YtjalgcjllddmhaaAvAny
import Derived.Test.YtjalgcjllddmhaaAvLit
import Derived.Test.YtjalgcjllddmhaaJSum
import Derived.Test.YtjalgcjllddmhaaJW1

set_option linter.unusedSimpArgs false
set_option linter.unusedVariables false
set_option maxHeartbeats 8000000
set_option maxRecDepth 100000
namespace Go.Proofs.Ytjalgcjllddmhaa
open Go.Av
/-- the walk of bytes.Equal -/
theorem bytesEq_w (a b : List UInt8) : HSpec Try.prog 20 [.sl 1 (bytesAV a), .sl 1 (bytesAV b)] [] fun r H' _ => r = .val (.bool (a == b)) ∧ H' = [] := by
 refine hspec_intro Try.func20 rfl rfl ?_
 all_goals refine tri_seq ?_
 all_goals refine tri_region ?_
 all_goals refine oc (x_assign ?_)
 all_goals refine ops_nil ?_
 all_goals refine seqQ_n ?_
 all_goals refine tri_seq ?_
 all_goals refine tri_region ?_
 all_goals refine oc (x_move ?_)
 all_goals refine oc ?_
 all_goals (refine op_conv_bytes (by conv => lhs; whnf) (by rfl) (by rfl) (by rfl) (by rfl) (by rfl) (by first | exact Src.sl | exact Src.own rfl (by conv => lhs; first | simp only [List.drop_zero, List.take_succ_cons, List.take_zero, List.take_nil, take_bytes] | whnf) (by first | omega | simp) | exact Src.nil) ?_)
 all_goals refine oc (x_move ?_)
 all_goals refine oc ?_
 all_goals (refine op_conv_bytes (by conv => lhs; whnf) (by rfl) (by rfl) (by rfl) (by rfl) (by rfl) (by first | exact Src.sl | exact Src.own rfl (by conv => lhs; first | simp only [List.drop_zero, List.take_succ_cons, List.take_zero, List.take_nil, take_bytes] | whnf) (by first | omega | simp) | exact Src.nil) ?_)
 all_goals refine oc (x_seql ?_)
 all_goals refine oc (x_assign ?_)
 all_goals refine ops_nil ?_
 all_goals refine seqQ_n ?_
 all_goals refine tri_ret ?_
 all_goals refine retE_r [] (.cons (.tmp (by conv => lhs; whnf) rfl) .nil) rfl rfl (by first | exact (ren_pure (by rfl)).trans (by conv => lhs; whnf) | ((conv => lhs; whnf); done) | rfl) (.nil) ?_
 all_goals (refine ⟨?_, rfl⟩; rw [ba_toList, ba_toList])

/-- the walk of casebook/archive.Sum -/
theorem sum_w (l : List UInt8) (hl : l.length ≤ 2 ^ 47) : HSpec Try.prog 40 [.sl 1 (bytesAV l)] [] fun r H' _ => r = iv (sum l) ∧ H' = [] := by
 refine hspec_intro Try.func40 rfl rfl ?_
 all_goals refine tri_seq ?_
 all_goals refine tri_region ?_
 all_goals refine oc (x_assign ?_)
 all_goals refine ops_nil ?_
 all_goals refine seqQ_n ?_
 all_goals refine tri_seq ?_
 all_goals refine tri_region ?_
 all_goals refine oc (x_assign ?_)
 all_goals refine ops_nil ?_
 all_goals refine seqQ_n ?_
 all_goals refine tri_seq ?_
 all_goals refine tri_seq ?_
 all_goals refine tri_region ?_
 all_goals refine oc (x_move ?_)
 all_goals refine oc ?_
 all_goals (first | refine op_len_sl rfl (by first | (conv => lhs; simp only [List.length_map, bytesAV_length]) | rfl) rfl rfl rfl ?_ | refine x_leno ?_ | refine x_lenn ?_)
 all_goals refine oc (x_move ?_)
 all_goals refine ops_nil ?_
 all_goals refine seqQ_n ?_
 all_goals refine tri_block ?_
 all_goals (
  refine tri_loop (X := { k : Nat // k ≤ l.length }) (fun x => ⟨32, noM, [(3, uv (crc (l.take x.1))), (7, .sl 1 (bytesAV l)), (8, iv l.length), (9, iv x.1)], []⟩) (fun x => l.length - x.1) (⟨0, by simp⟩) (by exact le_kept [] rfl rfl (fun _ _ h => by cases h) rfl ⟨by first | rfl | ((conv => lhs; whnf); dsimp only [uv]; rw [crc_next hcc]; have hj8 : j = 8 := (by omega); subst hj8; rfl), by first | rfl | ((conv => lhs; whnf); dsimp only [uv]; rw [crc_next hcc]; have hj8 : j = 8 := (by omega); subst hj8; rfl), by first | rfl | ((conv => lhs; whnf); dsimp only [uv]; rw [crc_next hcc]; have hj8 : j = 8 := (by omega); subst hj8; rfl), by first | rfl | ((conv => lhs; whnf); dsimp only [uv]; rw [crc_next hcc]; have hj8 : j = 8 := (by omega); subst hj8; rfl), trivial⟩ trivial) (fun x => ?_)
  obtain ⟨k, hk⟩ := x
  simp only
  all_goals refine tri_seq ?_
  all_goals refine tri_region ?_
  all_goals refine oc (x_lss ?_)
  all_goals refine ops_nil ?_
  all_goals refine seqQ_n ?_
  all_goals refine tri_seq ?_
  all_goals (
   first | refine tri_cond_d rfl rfl (fun hc => ?_) (fun hc => ?_) | refine ct (fun hc => ?_) (fun hc => ?_) | refine cf (fun hc => ?_) (fun hc => ?_) | refine cb (fun hc => ?_) (fun hc => ?_)
   focus
    try (exfalso; first | exact hc | omega)
    all_goals refine tri_skip ?_
   rotate_right 1
   focus
    try (exfalso; first | exact hc | omega)
    all_goals refine tri_exit ?_
    all_goals refine seqQ_x ?_
    all_goals refine seqQ_x ?_
    all_goals refine blockQ_x ?_
    all_goals refine seqQ_n ?_
    all_goals refine tri_seq ?_
    all_goals refine tri_region ?_
    all_goals refine oc (x_move ?_)
    all_goals refine oc ?_
    all_goals (refine op_compl rfl rfl rfl ?_)
    all_goals refine oc ?_
    all_goals (first | refine x_ci64 ?_ | refine x_ci ?_)
    all_goals refine oc (x_assign ?_)
    all_goals refine ops_nil ?_
    all_goals refine seqQ_n ?_
    all_goals refine tri_ret ?_
    all_goals refine retE_r [] (.cons (.tmp (by conv => lhs; whnf) rfl) .nil) rfl rfl (by first | exact (ren_pure (by rfl)).trans (by conv => lhs; whnf) | ((conv => lhs; whnf); done) | rfl) (.nil) ?_
    all_goals (
     have hk2 : l.take k = l := List.take_of_length_le (by omega)
     refine ⟨?_, rfl⟩
     first
     | rw [compl32', hk2]; rfl
     | rw [compl32, hk2]; rfl))
  all_goals refine seqQ_n ?_
  all_goals refine tri_seq ?_
  all_goals refine tri_block ?_
  all_goals refine tri_seq ?_
  all_goals refine tri_region ?_
  all_goals (
   obtain ⟨c, hcc⟩ : ∃ c, l[k]? = some c := ⟨l[k]'(by omega), by simp⟩
   have he : (bytesAV l)[k]? = some (.val (.int .u8 c.toNat)) := by simp [bytesAV, hcc])
  all_goals refine oc ?_
  all_goals (first | refine x_ia ?_ | refine x_iao0 ?_ | refine x_iao ?_)
  all_goals refine oc ?_
  all_goals (first | refine x_ld ?_ | refine x_ldr ?_)
  all_goals refine oc (x_assign ?_)
  all_goals refine ops_nil ?_
  all_goals refine seqQ_n ?_
  all_goals refine tri_seq ?_
  all_goals refine tri_region ?_
  all_goals refine oc (x_move ?_)
  all_goals refine oc (x_move ?_)
  all_goals refine oc (x_ci ?_)
  all_goals refine oc (x_xor ?_)
  all_goals refine oc (x_assign ?_)
  all_goals refine ops_nil ?_
  all_goals refine seqQ_n ?_
  all_goals refine tri_seq ?_
  all_goals refine tri_region ?_
  all_goals refine oc (x_move ?_)
  all_goals refine ops_nil ?_
  all_goals refine seqQ_n ?_
  all_goals refine tri_block ?_
  all_goals (
   refine tri_loop (X := { j : Nat // j ≤ 8 }) (fun x => ⟨32, noM, [(3, uv (crcBits x.1 (crc (l.take k) ^^^ BitVec.ofNat 32 c.toNat))), (7, .sl 1 (bytesAV l)), (8, iv l.length), (9, iv k), (17, iv x.1)], []⟩) (fun x => 8 - x.1) (⟨0, by omega⟩) (by exact le_kept [] rfl rfl (fun _ _ h => by cases h) rfl ⟨by first | rfl | ((conv => lhs; whnf); dsimp only [uv]; first | (rw [conv8, xor32]; rfl) | (rw [and1] at hc; rw [shr1]; simp only [crcBits, crcBit]; rw [if_neg (by omega)]; done) | (rw [and1] at hc; rw [shr1, xorP]; simp only [crcBits, crcBit]; rw [if_pos (by omega)]; done)), by first | rfl | ((conv => lhs; whnf); dsimp only [uv]; first | (rw [conv8, xor32]; rfl) | (rw [and1] at hc; rw [shr1]; simp only [crcBits, crcBit]; rw [if_neg (by omega)]; done) | (rw [and1] at hc; rw [shr1, xorP]; simp only [crcBits, crcBit]; rw [if_pos (by omega)]; done)), by first | rfl | ((conv => lhs; whnf); dsimp only [uv]; first | (rw [conv8, xor32]; rfl) | (rw [and1] at hc; rw [shr1]; simp only [crcBits, crcBit]; rw [if_neg (by omega)]; done) | (rw [and1] at hc; rw [shr1, xorP]; simp only [crcBits, crcBit]; rw [if_pos (by omega)]; done)), by first | rfl | ((conv => lhs; whnf); dsimp only [uv]; first | (rw [conv8, xor32]; rfl) | (rw [and1] at hc; rw [shr1]; simp only [crcBits, crcBit]; rw [if_neg (by omega)]; done) | (rw [and1] at hc; rw [shr1, xorP]; simp only [crcBits, crcBit]; rw [if_pos (by omega)]; done)), by first | rfl | ((conv => lhs; whnf); dsimp only [uv]; first | (rw [conv8, xor32]; rfl) | (rw [and1] at hc; rw [shr1]; simp only [crcBits, crcBit]; rw [if_neg (by omega)]; done) | (rw [and1] at hc; rw [shr1, xorP]; simp only [crcBits, crcBit]; rw [if_pos (by omega)]; done)), trivial⟩ trivial) (fun x => ?_)
   obtain ⟨j, hj⟩ := x
   simp only
   all_goals refine tri_seq ?_
   all_goals refine tri_region ?_
   all_goals refine oc (x_lss ?_)
   all_goals refine ops_nil ?_
   all_goals refine seqQ_n ?_
   all_goals refine tri_seq ?_
   all_goals (
    first | refine tri_cond_d rfl rfl (fun hc => ?_) (fun hc => ?_) | refine ct (fun hc => ?_) (fun hc => ?_) | refine cf (fun hc => ?_) (fun hc => ?_) | refine cb (fun hc => ?_) (fun hc => ?_)
    focus
     try (exfalso; first | exact hc | omega)
     all_goals refine tri_skip ?_
    rotate_right 1
    focus
     try (exfalso; first | exact hc | omega)
     all_goals refine tri_exit ?_
     all_goals refine seqQ_x ?_
     all_goals refine seqQ_x ?_
     all_goals refine blockQ_x ?_
     all_goals refine blockQ_n ?_
     all_goals refine seqQ_n ?_
     all_goals refine tri_region ?_
     all_goals refine oc ?_
     all_goals (first | refine x_add64 ?_ | refine x_add ?_)
     all_goals refine oc (x_move ?_)
     all_goals refine ops_nil ?_
     all_goals refine seqQ_n ?_
     all_goals (exact ⟨⟨k + 1, by omega⟩, by dsimp only; omega, le_kept [] rfl rfl (fun _ _ h => by cases h) rfl ⟨by first | rfl | ((conv => lhs; whnf); dsimp only [uv]; rw [crc_next hcc]; have hj8 : j = 8 := (by omega); subst hj8; rfl), by first | rfl | ((conv => lhs; whnf); dsimp only [uv]; rw [crc_next hcc]; have hj8 : j = 8 := (by omega); subst hj8; rfl), by first | rfl | ((conv => lhs; whnf); dsimp only [uv]; rw [crc_next hcc]; have hj8 : j = 8 := (by omega); subst hj8; rfl), by first | rfl | ((conv => lhs; whnf); dsimp only [uv]; rw [crc_next hcc]; have hj8 : j = 8 := (by omega); subst hj8; rfl), trivial⟩ trivial⟩))
   all_goals refine seqQ_n ?_
   all_goals refine tri_seq ?_
   all_goals refine tri_block ?_
   all_goals refine tri_seq ?_
   all_goals refine tri_region ?_
   all_goals refine oc (x_move ?_)
   all_goals refine oc (x_and ?_)
   all_goals refine oc (x_assign ?_)
   all_goals refine ops_nil ?_
   all_goals refine seqQ_n ?_
   all_goals refine tri_seq ?_
   all_goals refine tri_region ?_
   all_goals refine oc (x_move ?_)
   all_goals refine oc (x_shr ?_)
   all_goals refine oc (x_assign ?_)
   all_goals refine ops_nil ?_
   all_goals refine seqQ_n ?_
   all_goals refine tri_seq ?_
   all_goals refine tri_region ?_
   all_goals refine oc (x_move ?_)
   all_goals refine oc (x_eql ?_)
   all_goals refine ops_nil ?_
   all_goals refine seqQ_n ?_
   all_goals (
    first | refine tri_cond_d rfl rfl (fun hc => ?_) (fun hc => ?_) | refine ct (fun hc => ?_) (fun hc => ?_) | refine cf (fun hc => ?_) (fun hc => ?_) | refine cb (fun hc => ?_) (fun hc => ?_)
    focus
     try (exfalso; first | exact hc | omega)
     all_goals refine tri_region ?_
     all_goals refine oc (x_move ?_)
     all_goals refine oc (x_xor ?_)
     all_goals refine oc (x_assign ?_)
     all_goals refine ops_nil ?_
    rotate_right 1
    focus
     try (exfalso; first | exact hc | omega)
     all_goals refine tri_skip ?_)
   all_goals refine blockQ_n ?_
   all_goals refine seqQ_n ?_
   all_goals refine tri_region ?_
   all_goals refine oc ?_
   all_goals (first | refine x_add64 ?_ | refine x_add ?_)
   all_goals refine oc (x_move ?_)
   all_goals refine ops_nil ?_
   all_goals refine seqQ_n ?_
   all_goals (exact ⟨⟨j + 1, by omega⟩, by dsimp only; omega, le_kept [] rfl rfl (fun _ _ h => by cases h) rfl ⟨by first | rfl | ((conv => lhs; whnf); dsimp only [uv]; first | (rw [conv8, xor32]; rfl) | (rw [and1] at hc; rw [shr1]; simp only [crcBits, crcBit]; rw [if_neg (by omega)]; done) | (rw [and1] at hc; rw [shr1, xorP]; simp only [crcBits, crcBit]; rw [if_pos (by omega)]; done)), by first | rfl | ((conv => lhs; whnf); dsimp only [uv]; first | (rw [conv8, xor32]; rfl) | (rw [and1] at hc; rw [shr1]; simp only [crcBits, crcBit]; rw [if_neg (by omega)]; done) | (rw [and1] at hc; rw [shr1, xorP]; simp only [crcBits, crcBit]; rw [if_pos (by omega)]; done)), by first | rfl | ((conv => lhs; whnf); dsimp only [uv]; first | (rw [conv8, xor32]; rfl) | (rw [and1] at hc; rw [shr1]; simp only [crcBits, crcBit]; rw [if_neg (by omega)]; done) | (rw [and1] at hc; rw [shr1, xorP]; simp only [crcBits, crcBit]; rw [if_pos (by omega)]; done)), by first | rfl | ((conv => lhs; whnf); dsimp only [uv]; first | (rw [conv8, xor32]; rfl) | (rw [and1] at hc; rw [shr1]; simp only [crcBits, crcBit]; rw [if_neg (by omega)]; done) | (rw [and1] at hc; rw [shr1, xorP]; simp only [crcBits, crcBit]; rw [if_pos (by omega)]; done)), by first | rfl | ((conv => lhs; whnf); dsimp only [uv]; first | (rw [conv8, xor32]; rfl) | (rw [and1] at hc; rw [shr1]; simp only [crcBits, crcBit]; rw [if_neg (by omega)]; done) | (rw [and1] at hc; rw [shr1, xorP]; simp only [crcBits, crcBit]; rw [if_pos (by omega)]; done)), trivial⟩ trivial⟩)))

/-- the walk of casebook/journal.record -/
theorem record_w (c : Cmd) (hf : formed c = true) : HSpec Try.prog 28 [cmdAV c] [] fun r H' _ => r = .sl 1 (bytesAV (record c)) ∧ H' = [] := by
 have g1 := code_length hf
 have g2 := enc_length (n := (code c).length) (by omega)
 have g3 : (body c).length ≤ 2009 := by simp only [body, List.length_append]; omega
 have g4 := sum_lt (body c)
 refine hspec_intro Try.func28 rfl rfl ?_
 all_goals refine tri_seq ?_
 all_goals refine tri_region ?_
 all_goals refine oc (x_bx 7 ?_)
 all_goals refine oc (x_assign ?_)
 all_goals refine ops_nil ?_
 all_goals refine seqQ_n ?_
 all_goals refine tri_seq ?_
 all_goals refine tri_region ?_
 all_goals refine oc ?_
 all_goals (first | refine x_lda ?_ | refine x_ldra ?_ | refine x_ldp ?_ | refine x_ldrp ?_)
 all_goals refine oc ?_
 all_goals (refine op_callB rfl rfl rfl rfl rfl ⟨_, Try.func31, by decide, rfl⟩ (.cons (.pure rfl) .nil) (code_w c hf) ?_)
 all_goals (rintro _ H' m ⟨rfl, rfl⟩)
 all_goals refine oc (x_assign ?_)
 all_goals refine ops_nil ?_
 all_goals refine seqQ_n ?_
 all_goals refine tri_seq ?_
 all_goals refine tri_region ?_
 all_goals refine oc (x_move ?_)
 all_goals refine oc ?_
 all_goals (first | refine op_len_sl rfl (by first | (conv => lhs; simp only [List.length_map, bytesAV_length]) | rfl) rfl rfl rfl ?_ | refine x_leno ?_ | refine x_lenn ?_)
 all_goals refine oc ?_
 all_goals (refine op_callA rfl rfl rfl rfl rfl ⟨_, Try.func39, by decide, rfl⟩ (.cons (.pure rfl) (.cons (.pure rfl) .nil)) (number_nil_w _ (by omega)) (by rintro r H' m ⟨rfl, rfl⟩; refine ⟨rfl, ?_⟩; simp only [List.mem_singleton]; rintro o rfl; exact AObj.shut_vals (by simp [bytesAV])) ?_)
 all_goals (rintro r H' m ⟨rfl, rfl⟩)
 all_goals refine oc (x_move ?_)
 all_goals refine oc ?_
 all_goals (first | refine op_append rfl (by conv => lhs; whnf) rfl rfl rfl (Elem.mk (sz := 1) (by rfl) (by rfl) (by rfl) (by rfl) (by conv => lhs; whnf) (by rfl) (by rfl) (by rfl)) rfl (by first | omega | simp) (by first | exact Src.sl | exact Src.own rfl (by conv => lhs; first | simp only [List.drop_zero, List.take_succ_cons, List.take_zero, List.take_nil, take_bytes] | whnf) (by first | omega | simp) | exact Src.nil) (by first | (simp only [Nat.mul_one, bytesAV_length]; omega) | (simp; omega)) ?_ | refine opTri_le (le_own 10 5 1 rfl) (op_append rfl (by conv => lhs; whnf) rfl rfl rfl (Elem.mk (sz := 1) (by rfl) (by rfl) (by rfl) (by rfl) (by conv => lhs; whnf) (by rfl) (by rfl) (by rfl)) rfl (by first | omega | simp) (by first | exact Src.sl | exact Src.own rfl (by conv => lhs; first | simp only [List.drop_zero, List.take_succ_cons, List.take_zero, List.take_nil, take_bytes] | whnf) (by first | omega | simp) | exact Src.nil) (by first | (simp only [Nat.mul_one, bytesAV_length]; omega) | (simp; omega)) ?_))
 all_goals refine oc (x_assign ?_)
 all_goals refine ops_nil ?_
 all_goals refine seqQ_n ?_
 all_goals refine tri_seq ?_
 all_goals refine tri_region ?_
 all_goals refine oc (x_move ?_)
 all_goals refine oc ?_
 all_goals (refine op_callA rfl rfl rfl rfl rfl ⟨_, Try.func40, by decide, rfl⟩ (.cons (.own (by first | ((conv => lhs; whnf; arg 1; whnf); done) | rfl | assumption | (simp; done)) (by conv => lhs; simp only [List.drop_zero, body_take]) (by simp)) .nil) (sum_w (body c) (by omega)) shut0 ?_)
 all_goals (rintro _ H' m ⟨rfl, rfl⟩)
 all_goals refine oc (x_assign ?_)
 all_goals refine ops_nil ?_
 all_goals refine seqQ_n ?_
 all_goals refine tri_seq ?_
 all_goals refine tri_region ?_
 all_goals refine oc (x_move ?_)
 all_goals refine oc (x_move ?_)
 all_goals refine oc (x_ci ?_)
 all_goals refine oc (x_move ?_)
 all_goals refine oc (x_shr ?_)
 all_goals refine oc (x_ci ?_)
 all_goals refine oc (x_move ?_)
 all_goals refine oc (x_shr ?_)
 all_goals refine oc (x_ci ?_)
 all_goals refine oc (x_move ?_)
 all_goals refine oc (x_shr ?_)
 all_goals refine oc (x_ci ?_)
 all_goals refine oc ?_
 all_goals (refine x_bs4 false ?_)
 all_goals refine oc ?_
 all_goals (first | refine op_append rfl (by conv => lhs; whnf) rfl rfl rfl (Elem.mk (sz := 1) (by rfl) (by rfl) (by rfl) (by rfl) (by conv => lhs; whnf) (by rfl) (by rfl) (by rfl)) rfl (by first | omega | simp) (by first | exact Src.sl | exact Src.own rfl (by conv => lhs; first | simp only [List.drop_zero, List.take_succ_cons, List.take_zero, List.take_nil, take_bytes] | whnf) (by first | omega | simp) | exact Src.nil) (by first | (simp only [Nat.mul_one, bytesAV_length]; omega) | (simp; omega)) ?_ | refine opTri_le (le_own 15 5 1 rfl) (op_append rfl (by conv => lhs; whnf) rfl rfl rfl (Elem.mk (sz := 1) (by rfl) (by rfl) (by rfl) (by rfl) (by conv => lhs; whnf) (by rfl) (by rfl) (by rfl)) rfl (by first | omega | simp) (by first | exact Src.sl | exact Src.own rfl (by conv => lhs; first | simp only [List.drop_zero, List.take_succ_cons, List.take_zero, List.take_nil, take_bytes] | whnf) (by first | omega | simp) | exact Src.nil) (by first | (simp only [Nat.mul_one, bytesAV_length]; omega) | (simp; omega)) ?_))
 all_goals refine oc (x_assign ?_)
 all_goals refine ops_nil ?_
 all_goals refine seqQ_n ?_
 all_goals (refine tri_le (le_snapT 2 (by conv => lhs; whnf) rfl (.own (by first | ((conv => lhs; whnf; arg 1; whnf); done) | rfl | assumption | (simp; done)) (by conv => lhs; simp only [List.drop_zero]) (by simp))) ?_)
 all_goals refine tri_ret ?_
 all_goals refine retE_r [] (.cons (.tmp (by conv => lhs; whnf) rfl) .nil) rfl rfl (by first | exact (ren_pure (by rfl)).trans (by conv => lhs; whnf) | ((conv => lhs; whnf); done) | rfl) (.nil) ?_
 all_goals (
  refine ⟨congrArg (AV.sl 1) ?_, rfl⟩
  rw [List.take_of_length_le (by simp), body_take, ← le32_AV, record, bytesAV_append])

/-- the walk of slices.Clone[[]byte,byte] -/
theorem clone_w (l : List UInt8) (hl : l.length ≤ 2 ^ 46) : HSpec Try.prog 18 [.sl 1 (bytesAV l)] [] fun r H' _ => r = .sl 1 (bytesAV l) ∧ H' = [] := by
 refine hspec_intro Try.func18 rfl rfl ?_
 all_goals refine tri_seq ?_
 all_goals refine tri_region ?_
 all_goals refine oc (x_assign ?_)
 all_goals refine ops_nil ?_
 all_goals refine seqQ_n ?_
 all_goals refine tri_seq ?_
 all_goals refine tri_seq ?_
 all_goals refine tri_region ?_
 all_goals refine oc (x_move ?_)
 all_goals refine oc ?_
 all_goals (refine op_eql_nil (by conv => lhs; whnf) (by rfl) (by rfl) (by rfl) (by rfl) (by rfl) ?_)
 all_goals (rintro nb hnb)
 all_goals refine ops_nil ?_
 all_goals refine seqQ_n ?_
 all_goals (
  first | refine tri_cond_d rfl rfl (fun hc => ?_) (fun hc => ?_) | refine ct (fun hc => ?_) (fun hc => ?_) | refine cf (fun hc => ?_) (fun hc => ?_) | refine cb (fun hc => ?_) (fun hc => ?_)
  focus
   try (exfalso; first | exact hc | omega)
   all_goals refine tri_seq ?_
   all_goals refine tri_region ?_
   all_goals refine oc (x_assign ?_)
   all_goals refine ops_nil ?_
   all_goals refine seqQ_n ?_
   all_goals (refine tri_le (le_snapT 2 (by conv => lhs; whnf) rfl (by first | exact SnapR.nil (sz := 1) | exact .own (by first | ((conv => lhs; whnf; arg 1; whnf); done) | rfl | assumption | (simp; done)) (by conv => lhs; simp only [List.drop_zero, List.take_zero, List.nil_append]) (by simp))) ?_)
   all_goals refine tri_ret ?_
   all_goals refine seqQ_r ?_
   all_goals refine retE_r [] (.cons (.tmp (by conv => lhs; whnf) rfl) .nil) rfl rfl (by first | exact (ren_pure (by rfl)).trans (by conv => lhs; whnf) | ((conv => lhs; whnf); done) | rfl) (.nil) ?_
   all_goals (
    first
    | (have := hnb hc; simp only [bytesAV, List.map_eq_nil_iff] at this; subst this; exact ⟨rfl, rfl⟩)
    | (refine ⟨congrArg (AV.sl 1) ?_, rfl⟩; rw [List.take_of_length_le (by simp)]))
  rotate_right 1
  focus
   try (exfalso; first | exact hc | omega)
   all_goals refine tri_skip ?_)
 all_goals refine seqQ_n ?_
 all_goals refine tri_seq ?_
 all_goals refine tri_region ?_
 all_goals refine oc ?_
 all_goals (refine op_buildSlice0 (sz := 1) (by rfl) (by rfl) (by rfl) (by rfl) ?_)
 all_goals refine oc (x_move ?_)
 all_goals refine oc ?_
 all_goals (first | refine op_append rfl (by conv => lhs; whnf) rfl rfl rfl (Elem.mk (sz := 1) (by rfl) (by rfl) (by rfl) (by rfl) (by conv => lhs; whnf) (by rfl) (by rfl) (by rfl)) rfl (by first | omega | simp) (by first | exact Src.sl | exact Src.own rfl (by conv => lhs; first | simp only [List.drop_zero, List.take_succ_cons, List.take_zero, List.take_nil, take_bytes] | whnf) (by first | omega | simp) | exact Src.nil) (by first | (simp only [Nat.mul_one, bytesAV_length]; omega) | (simp; omega)) ?_ | refine opTri_le (le_own 5 5 1 rfl) (op_append rfl (by conv => lhs; whnf) rfl rfl rfl (Elem.mk (sz := 1) (by rfl) (by rfl) (by rfl) (by rfl) (by conv => lhs; whnf) (by rfl) (by rfl) (by rfl)) rfl (by first | omega | simp) (by first | exact Src.sl | exact Src.own rfl (by conv => lhs; first | simp only [List.drop_zero, List.take_succ_cons, List.take_zero, List.take_nil, take_bytes] | whnf) (by first | omega | simp) | exact Src.nil) (by first | (simp only [Nat.mul_one, bytesAV_length]; omega) | (simp; omega)) ?_))
 all_goals refine oc (x_assign ?_)
 all_goals refine ops_nil ?_
 all_goals refine seqQ_n ?_
 all_goals (refine tri_le (le_snapT 2 (by conv => lhs; whnf) rfl (by first | exact SnapR.nil (sz := 1) | exact .own (by first | ((conv => lhs; whnf; arg 1; whnf); done) | rfl | assumption | (simp; done)) (by conv => lhs; simp only [List.drop_zero, List.take_zero, List.nil_append]) (by simp))) ?_)
 all_goals refine tri_ret ?_
 all_goals refine retE_r [] (.cons (.tmp (by conv => lhs; whnf) rfl) .nil) rfl rfl (by first | exact (ren_pure (by rfl)).trans (by conv => lhs; whnf) | ((conv => lhs; whnf); done) | rfl) (.nil) ?_
 all_goals (
  first
  | (have := hnb hc; simp only [bytesAV, List.map_eq_nil_iff] at this; subst this; exact ⟨rfl, rfl⟩)
  | (refine ⟨congrArg (AV.sl 1) ?_, rfl⟩; rw [List.take_of_length_le (by simp)]))

/-- the walk of casebook/journal.New -/
theorem new_w (n : Int) : HSpec Try.prog 9 [iv n] [] fun r H' _ => (r = if n < -1 ∨ 262144 < n then .tup [.agg [.val (.slice none 0 0), iv 0, iv 0], iv 2] else .tup [.agg [.val (.slice none 0 0), iv 0, iv n], iv 0]) ∧ H' = [] := by
 refine hspec_intro Try.func9 rfl rfl ?_
 all_goals refine tri_seq ?_
 all_goals refine tri_region ?_
 all_goals refine oc (x_al 3 ?_)
 all_goals refine oc (x_assign ?_)
 all_goals refine ops_nil ?_
 all_goals refine seqQ_n ?_
 all_goals refine tri_seq ?_
 all_goals refine tri_seq ?_
 all_goals refine tri_region ?_
 all_goals refine oc (x_move ?_)
 all_goals refine oc (x_lss ?_)
 all_goals refine oc (x_move ?_)
 all_goals (first | refine gU ?_ | refine gY ?_ | refine gN ?_ | refine ops_guardFd rfl rfl rfl rfl rfl rfl (fun hg => ?_) (fun hg => ?_) | refine gF (fun hg => ?_) (fun hg => ?_))
 all_goals try (exfalso; omega)
 all_goals (first | refine ops_here ?_ | (refine x_move ?_))
 all_goals (first | refine gU ?_ | refine gY ?_ | refine gN ?_ | refine ops_guardFd rfl rfl rfl rfl rfl rfl (fun hg => ?_) (fun hg => ?_) | refine gF (fun hg => ?_) (fun hg => ?_))
 all_goals try (exfalso; omega)
 all_goals (first | refine ops_here ?_ | (refine x_gtr ?_))
 all_goals refine oc ?_
 all_goals (first | refine x_pt ?_ | refine x_pf ?_ | refine x_pb ?_)
 all_goals refine ops_nil ?_
 all_goals refine seqQ_n ?_
 all_goals (
  first | refine tri_cond_d rfl rfl (fun hc => ?_) (fun hc => ?_) | refine ct (fun hc => ?_) (fun hc => ?_) | refine cf (fun hc => ?_) (fun hc => ?_) | refine cb (fun hc => ?_) (fun hc => ?_)
  focus
   try (exfalso; first | exact hc | omega)
   all_goals refine tri_seq ?_
   all_goals refine tri_region ?_
   all_goals refine oc (x_b0_3 ?_)
   all_goals refine oc (x_st3 ?_)
   all_goals refine oc (x_assign ?_)
   all_goals refine ops_nil ?_
   all_goals refine seqQ_n ?_
   all_goals refine tri_ret ?_
   all_goals refine seqQ_r ?_
   all_goals refine retE_r [] (.cons (by first | exact .cellAgg rfl rfl rfl rfl rfl rfl rfl rfl | exact .cell1 rfl rfl rfl rfl rfl rfl rfl) (.cons (.tmp (by conv => lhs; whnf) rfl) .nil)) rfl rfl (by first | exact (ren_pure (by rfl)).trans (by conv => lhs; whnf) | ((conv => lhs; whnf); done) | rfl) (.nil) ?_
   all_goals (refine ⟨?_, rfl⟩; first | rw [if_pos (by omega)] | rw [if_neg (by omega)])
  rotate_right 1
  focus
   try (exfalso; first | exact hc | omega)
   all_goals refine tri_skip ?_)
 all_goals refine seqQ_n ?_
 all_goals refine tri_seq ?_
 all_goals refine tri_region ?_
 all_goals refine oc (x_move ?_)
 all_goals refine oc (x_b1_3 ?_)
 all_goals refine oc (x_st3 ?_)
 all_goals refine oc (x_assign ?_)
 all_goals refine ops_nil ?_
 all_goals refine seqQ_n ?_
 all_goals refine tri_ret ?_
 all_goals refine retE_r [] (.cons (by first | exact .cellAgg rfl rfl rfl rfl rfl rfl rfl rfl | exact .cell1 rfl rfl rfl rfl rfl rfl rfl) (.cons (.tmp (by conv => lhs; whnf) rfl) .nil)) rfl rfl (by first | exact (ren_pure (by rfl)).trans (by conv => lhs; whnf) | ((conv => lhs; whnf); done) | rfl) (.nil) ?_
 all_goals (refine ⟨?_, rfl⟩; first | rw [if_pos (by omega)] | rw [if_neg (by omega)])

end Go.Proofs.Ytjalgcjllddmhaa

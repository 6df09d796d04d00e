/- A text of the proof of JournalTorn: JW16 -/
import Derived.Test.YtjalgcjllddmhaaProg
import Derived.Test.YtjalgcjllddmhaaAvShort
import Derived.Test.YtjalgcjllddmhaaAvAppS
import Derived.Test.YtjalgcjllddmhaaAvSnap
import Derived.Test.YtjalgcjllddmhaaAvAny
import Derived.Test.YtjalgcjllddmhaaAvMeet
import Derived.Test.YtjalgcjllddmhaaAvCat
import Derived.Test.YtjalgcjllddmhaaJCat

set_option linter.unusedSimpArgs false
set_option linter.unusedVariables false
set_option maxHeartbeats 8000000
set_option maxRecDepth 100000
namespace Go.Proofs.Ytjalgcjllddmhaa
open Go.Av
/-- the walk of slices.Grow[[]byte,byte] -/
theorem grow_w (n : Nat) (h0 : 0 < n) (hn : n ≤ 2 ^ 42) : HSpec Try.prog 30 [.val (.slice none 0 0), iv n] [] fun r H' _ => r = .osl 0 1 0 0 ∧ H' = [.mk 5 false false 1 []] := by
 refine hspec_intro Try.func30 rfl rfl ?_
 all_goals refine tri_seq ?_
 all_goals refine tri_region ?_
 all_goals refine oc (x_assign ?_)
 all_goals refine ops_nil ?_
 all_goals refine seqQ_n ?_
 all_goals refine tri_seq ?_
 all_goals refine tri_seq ?_
 all_goals refine tri_region ?_
 all_goals refine oc (x_move ?_)
 all_goals refine oc (x_lss ?_)
 all_goals refine ops_nil ?_
 all_goals refine seqQ_n ?_
 all_goals (
  first | refine tri_cond_d rfl rfl (fun hc => ?_) (fun hc => ?_) | refine ct (fun hc => ?_) (fun hc => ?_) | refine cf (fun hc => ?_) (fun hc => ?_) | refine cb (fun hc => ?_) (fun hc => ?_)
  focus
   try (exfalso; first | exact hc | omega)
   all_goals refine tri_region ?_
   all_goals refine oc ?_
   all_goals (exfalso; omega)
   all_goals refine oc ?_
   all_goals (exfalso; omega)
   all_goals refine ops_nil ?_
  rotate_right 1
  focus
   try (exfalso; first | exact hc | omega)
   all_goals refine tri_skip ?_)
 all_goals refine seqQ_n ?_
 all_goals refine tri_seq ?_
 all_goals refine tri_seq ?_
 all_goals refine tri_region ?_
 all_goals refine oc (x_move ?_)
 all_goals refine oc (x_move ?_)
 all_goals refine oc ?_
 all_goals (refine op_cap_nil rfl rfl rfl rfl ?_)
 all_goals refine oc (x_move ?_)
 all_goals refine oc ?_
 all_goals (first | refine op_len_sl rfl (by first | (conv => lhs; simp only [List.length_map, bytesAV_length]) | rfl) rfl rfl rfl ?_ | refine x_leno ?_ | refine x_lenn ?_)
 all_goals refine oc ?_
 all_goals (first | refine x_sub64 ?_ | refine x_sub ?_)
 all_goals refine oc ?_
 all_goals (first | refine x_sub64 ?_ | refine x_sub ?_)
 all_goals refine oc (x_assign ?_)
 all_goals refine ops_nil ?_
 all_goals refine seqQ_n ?_
 all_goals refine tri_seq ?_
 all_goals refine tri_region ?_
 all_goals refine oc (x_move ?_)
 all_goals refine oc (x_gtr ?_)
 all_goals refine ops_nil ?_
 all_goals refine seqQ_n ?_
 all_goals (
  first | refine tri_cond_d rfl rfl (fun hc => ?_) (fun hc => ?_) | refine ct (fun hc => ?_) (fun hc => ?_) | refine cf (fun hc => ?_) (fun hc => ?_) | refine cb (fun hc => ?_) (fun hc => ?_)
  focus
   try (exfalso; first | exact hc | omega)
   all_goals refine tri_region ?_
   all_goals refine oc (x_move ?_)
   all_goals refine oc (x_move ?_)
   all_goals refine oc ?_
   all_goals (refine op_cap_nil rfl rfl rfl rfl ?_)
   all_goals refine oc ?_
   all_goals (first | refine op_slice_nil rfl rfl rfl rfl rfl .none (.to rfl rfl (by first | rw [Int.toNat_natCast] | rw [Int.toNat_zero] | rw [Int.toNat_one] | rw [Int.toNat_ofNat] | exact rfl) (by omega)) ?_ | refine op_slice_sl rfl rfl rfl rfl rfl .none (.to rfl rfl (by first | rw [Int.toNat_natCast] | rw [Int.toNat_zero] | rw [Int.toNat_one] | rw [Int.toNat_ofNat] | exact rfl) (by omega)) (by first | omega | simp; omega) (by first | omega | simp; omega) (by conv => lhs; first | rw [sub1] | rw [sub2] | rw [sub3] | skip) ?_ | refine op_slice_osl rfl rfl rfl rfl rfl .none (.to rfl rfl (by first | rw [Int.toNat_natCast] | rw [Int.toNat_zero] | rw [Int.toNat_one] | rw [Int.toNat_ofNat] | exact rfl) (by omega)) (by first | omega | simp) (by omega) ?_)
   all_goals refine oc (x_move ?_)
   all_goals refine oc ?_
   all_goals (refine op_append_make (n := n) rfl rfl rfl rfl rfl (Elem.mk (sz := 1) (by rfl) (by rfl) (by rfl) (by rfl) (by conv => lhs; whnf) (by rfl) (by rfl) (by rfl)) rfl (by first | exact (rfl : _ = 0) | exact (rfl : _ = 1) | exact (rfl : _ = 2) | exact (rfl : _ = 3) | exact (rfl : _ = 4) | exact (rfl : _ = 5) | exact (rfl : _ = 6) | exact (rfl : _ = 7) | exact (rfl : _ = 8) | exact (rfl : _ = 9) | exact (rfl : _ = 10) | exact (rfl : _ = 11)) (by omega) (by omega) (by simp; omega) ?_)
   all_goals refine oc (x_move ?_)
   all_goals refine oc ?_
   all_goals (first | refine op_len_sl rfl (by first | (conv => lhs; simp only [List.length_map, bytesAV_length]) | rfl) rfl rfl rfl ?_ | refine x_leno ?_ | refine x_lenn ?_)
   all_goals refine oc ?_
   all_goals (first | refine op_slice_sl rfl rfl rfl rfl rfl .none (.to rfl rfl (by first | rw [Int.toNat_natCast] | rw [Int.toNat_zero] | rw [Int.toNat_one] | rw [Int.toNat_ofNat] | exact rfl) (by omega)) (by first | omega | simp; omega) (by first | omega | simp; omega) (by conv => lhs; first | rw [sub1] | rw [sub2] | rw [sub3] | skip) ?_ | refine op_slice_osl rfl rfl rfl rfl rfl .none (.to rfl rfl (by first | rw [Int.toNat_natCast] | rw [Int.toNat_zero] | rw [Int.toNat_one] | rw [Int.toNat_ofNat] | exact rfl) (by omega)) (by first | omega | simp) (by omega) ?_)
   all_goals refine oc (x_assign ?_)
   all_goals refine ops_nil ?_
  rotate_right 1
  focus
   try (exfalso; first | exact hc | omega)
   all_goals refine tri_skip ?_)
 all_goals refine seqQ_n ?_
 all_goals refine tri_seq ?_
 all_goals refine tri_region ?_
 all_goals refine oc (x_move ?_)
 all_goals refine oc (x_assign ?_)
 all_goals refine ops_nil ?_
 all_goals refine seqQ_n ?_
 all_goals refine tri_ret ?_
 all_goals refine retE_r [0] (.cons (.tmp (by conv => lhs; whnf) rfl) .nil) rfl rfl (by first | exact (ren_pure (by rfl)).trans (by conv => lhs; whnf) | ((conv => lhs; whnf); done) | rfl) (.c0 (.nil)) ?_
 all_goals (first | exact ⟨rfl, rfl⟩ | (exfalso; omega))

/-- the walk of slices.Grow[[]byte,byte] -/
theorem grow0_w : HSpec Try.prog 30 [.val (.slice none 0 0), iv ((0 : Nat) : Int)] [] fun r H' _ => r = .val (.slice none 0 0) ∧ H' = [] := by
 refine hspec_intro Try.func30 rfl rfl ?_
 all_goals refine tri_seq ?_
 all_goals refine tri_region ?_
 all_goals refine oc (x_assign ?_)
 all_goals refine ops_nil ?_
 all_goals refine seqQ_n ?_
 all_goals refine tri_seq ?_
 all_goals refine tri_seq ?_
 all_goals refine tri_region ?_
 all_goals refine oc (x_move ?_)
 all_goals refine oc (x_lss ?_)
 all_goals refine ops_nil ?_
 all_goals refine seqQ_n ?_
 all_goals (
  first | refine tri_cond_d rfl rfl (fun hc => ?_) (fun hc => ?_) | refine ct (fun hc => ?_) (fun hc => ?_) | refine cf (fun hc => ?_) (fun hc => ?_) | refine cb (fun hc => ?_) (fun hc => ?_)
  focus
   try (exfalso; first | exact hc | omega)
   all_goals refine tri_region ?_
   all_goals refine oc ?_
   all_goals (exfalso; omega)
   all_goals refine oc ?_
   all_goals (exfalso; omega)
   all_goals refine ops_nil ?_
  rotate_right 1
  focus
   try (exfalso; first | exact hc | omega)
   all_goals refine tri_skip ?_)
 all_goals refine seqQ_n ?_
 all_goals refine tri_seq ?_
 all_goals refine tri_seq ?_
 all_goals refine tri_region ?_
 all_goals refine oc (x_move ?_)
 all_goals refine oc (x_move ?_)
 all_goals refine oc ?_
 all_goals (refine op_cap_nil rfl rfl rfl rfl ?_)
 all_goals refine oc (x_move ?_)
 all_goals refine oc ?_
 all_goals (first | refine op_len_sl rfl (by first | (conv => lhs; simp only [List.length_map, bytesAV_length]) | rfl) rfl rfl rfl ?_ | refine x_leno ?_ | refine x_lenn ?_)
 all_goals refine oc ?_
 all_goals (first | refine x_sub64 ?_ | refine x_sub ?_)
 all_goals refine oc ?_
 all_goals (first | refine x_sub64 ?_ | refine x_sub ?_)
 all_goals refine oc (x_assign ?_)
 all_goals refine ops_nil ?_
 all_goals refine seqQ_n ?_
 all_goals refine tri_seq ?_
 all_goals refine tri_region ?_
 all_goals refine oc (x_move ?_)
 all_goals refine oc (x_gtr ?_)
 all_goals refine ops_nil ?_
 all_goals refine seqQ_n ?_
 all_goals (
  first | refine tri_cond_d rfl rfl (fun hc => ?_) (fun hc => ?_) | refine ct (fun hc => ?_) (fun hc => ?_) | refine cf (fun hc => ?_) (fun hc => ?_) | refine cb (fun hc => ?_) (fun hc => ?_)
  focus
   try (exfalso; first | exact hc | omega)
   all_goals refine tri_region ?_
   all_goals refine oc (x_move ?_)
   all_goals refine oc (x_move ?_)
   all_goals refine oc ?_
   all_goals (refine op_cap_nil rfl rfl rfl rfl ?_)
   all_goals refine oc ?_
   all_goals (first | refine op_slice_nil rfl rfl rfl rfl rfl .none (.to rfl rfl (by first | rw [Int.toNat_natCast] | rw [Int.toNat_zero] | rw [Int.toNat_one] | rw [Int.toNat_ofNat] | exact rfl) (by omega)) ?_ | refine op_slice_sl rfl rfl rfl rfl rfl .none (.to rfl rfl (by first | rw [Int.toNat_natCast] | rw [Int.toNat_zero] | rw [Int.toNat_one] | rw [Int.toNat_ofNat] | exact rfl) (by omega)) (by first | omega | simp; omega) (by first | omega | simp; omega) (by conv => lhs; first | rw [sub1] | rw [sub2] | rw [sub3] | skip) ?_ | refine op_slice_osl rfl rfl rfl rfl rfl .none (.to rfl rfl (by first | rw [Int.toNat_natCast] | rw [Int.toNat_zero] | rw [Int.toNat_one] | rw [Int.toNat_ofNat] | exact rfl) (by omega)) (by first | omega | simp) (by omega) ?_)
   all_goals refine oc (x_move ?_)
   all_goals refine oc ?_
   all_goals (refine op_append_make (n := 0) rfl rfl rfl rfl rfl (Elem.mk (sz := 1) (by rfl) (by rfl) (by rfl) (by rfl) (by conv => lhs; whnf) (by rfl) (by rfl) (by rfl)) rfl (by first | exact (rfl : _ = 0) | exact (rfl : _ = 1) | exact (rfl : _ = 2) | exact (rfl : _ = 3) | exact (rfl : _ = 4) | exact (rfl : _ = 5) | exact (rfl : _ = 6) | exact (rfl : _ = 7) | exact (rfl : _ = 8) | exact (rfl : _ = 9) | exact (rfl : _ = 10) | exact (rfl : _ = 11)) (by omega) (by omega) (by simp; omega) ?_)
   all_goals refine oc (x_move ?_)
   all_goals refine oc ?_
   all_goals (first | refine op_len_sl rfl (by first | (conv => lhs; simp only [List.length_map, bytesAV_length]) | rfl) rfl rfl rfl ?_ | refine x_leno ?_ | refine x_lenn ?_)
   all_goals refine oc ?_
   all_goals (first | refine op_slice_sl rfl rfl rfl rfl rfl .none (.to rfl rfl (by first | rw [Int.toNat_natCast] | rw [Int.toNat_zero] | rw [Int.toNat_one] | rw [Int.toNat_ofNat] | exact rfl) (by omega)) (by first | omega | simp; omega) (by first | omega | simp; omega) (by conv => lhs; first | rw [sub1] | rw [sub2] | rw [sub3] | skip) ?_ | refine op_slice_osl rfl rfl rfl rfl rfl .none (.to rfl rfl (by first | rw [Int.toNat_natCast] | rw [Int.toNat_zero] | rw [Int.toNat_one] | rw [Int.toNat_ofNat] | exact rfl) (by omega)) (by first | omega | simp) (by omega) ?_)
   all_goals refine oc (x_assign ?_)
   all_goals refine ops_nil ?_
  rotate_right 1
  focus
   try (exfalso; first | exact hc | omega)
   all_goals refine tri_skip ?_)
 all_goals refine seqQ_n ?_
 all_goals refine tri_seq ?_
 all_goals refine tri_region ?_
 all_goals refine oc (x_move ?_)
 all_goals refine oc (x_assign ?_)
 all_goals refine ops_nil ?_
 all_goals refine seqQ_n ?_
 all_goals refine tri_ret ?_
 all_goals refine retE_r [] (.cons (.tmp (by conv => lhs; whnf) rfl) .nil) rfl rfl (by first | exact (ren_pure (by rfl)).trans (by conv => lhs; whnf) | ((conv => lhs; whnf); done) | rfl) (.nil) ?_
 all_goals (first | exact ⟨rfl, rfl⟩ | (exfalso; omega))

/-- the walk of slices.Concat[[]byte,byte] -/
theorem concat_w (ss : List (List UInt8)) (hl : ss.flatten.length ≤ 2 ^ 40) (hl2 : ss.length ≤ 2 ^ 40) : HSpec Try.prog 19 [.sl 1 (ss.map sbAV)] [] fun r H' _ => r = .osl 0 1 0 ss.flatten.length ∧ H' = [.mk 5 false false 1 (bytesAV ss.flatten)] := by
 refine hspec_intro Try.func19 rfl rfl ?_
 all_goals refine tri_seq ?_
 all_goals refine tri_region ?_
 all_goals refine oc (x_assign ?_)
 all_goals refine ops_nil ?_
 all_goals refine seqQ_n ?_
 all_goals refine tri_seq ?_
 all_goals refine tri_region ?_
 all_goals refine oc (x_assign ?_)
 all_goals refine ops_nil ?_
 all_goals refine seqQ_n ?_
 all_goals refine tri_seq ?_
 all_goals refine tri_seq ?_
 all_goals refine tri_region ?_
 all_goals refine oc (x_move ?_)
 all_goals refine oc ?_
 all_goals (first | refine op_len_sl rfl (by first | (conv => lhs; simp only [List.length_map, bytesAV_length]) | rfl) rfl rfl rfl ?_ | refine x_leno ?_ | refine x_lenn ?_)
 all_goals refine oc (x_move ?_)
 all_goals refine ops_nil ?_
 all_goals refine seqQ_n ?_
 all_goals refine tri_block ?_
 all_goals (
  refine tri_loop (X := { k : Nat // k ≤ ss.length }) (fun x => ⟨36, noM, [(0, .sl 1 (ss.map sbAV)), (3, iv (ss.take x.1).flatten.length), (9, .sl 1 (ss.map sbAV)), (10, iv ss.length), (11, iv x.1)], []⟩) (fun x => ss.length - x.1) (⟨0, by simp⟩) (by exact le_kept [] rfl rfl (fun _ _ h => by cases h) rfl ⟨by first | rfl | ((conv => lhs; whnf); dsimp only [iv]; congr 2; rw [hfl]; simp; done), by first | rfl | ((conv => lhs; whnf); dsimp only [iv]; congr 2; rw [hfl]; simp; done), by first | rfl | ((conv => lhs; whnf); dsimp only [iv]; congr 2; rw [hfl]; simp; done), by first | rfl | ((conv => lhs; whnf); dsimp only [iv]; congr 2; rw [hfl]; simp; done), by first | rfl | ((conv => lhs; whnf); dsimp only [iv]; congr 2; rw [hfl]; simp; done), trivial⟩ trivial) (fun x => ?_)
  obtain ⟨k, hk⟩ := x
  simp only
  all_goals refine tri_seq ?_
  all_goals refine tri_region ?_
  all_goals refine oc (x_lss ?_)
  all_goals refine ops_nil ?_
  all_goals refine seqQ_n ?_
  all_goals refine tri_seq ?_
  all_goals (
   first | refine tri_cond_d rfl rfl (fun hc => ?_) (fun hc => ?_) | refine ct (fun hc => ?_) (fun hc => ?_) | refine cf (fun hc => ?_) (fun hc => ?_) | refine cb (fun hc => ?_) (fun hc => ?_)
   focus
    try (exfalso; first | exact hc | omega)
    all_goals refine tri_skip ?_
   rotate_right 1
   focus
    try (exfalso; first | exact hc | omega)
    all_goals refine tri_exit ?_
    all_goals refine seqQ_x ?_
    all_goals refine seqQ_x ?_
    all_goals refine blockQ_x ?_
    all_goals refine seqQ_n ?_
    all_goals refine tri_seq ?_
    all_goals refine tri_region ?_
    all_goals (
     have htk : ss.take k = ss := List.take_of_length_le (by omega)
     rw [htk]
     rcases Nat.eq_zero_or_pos ss.flatten.length with h0 | h0
     rw [h0])
    all_goals refine oc (x_move ?_)
    all_goals refine oc ?_
    all_goals (first | (refine op_callA rfl rfl rfl rfl rfl ⟨_, Try.func30, by decide, rfl⟩ (.cons (.pure rfl) (.cons (.pure rfl) .nil)) grow0_w shut0 ?_; rintro r H' m ⟨rfl, rfl⟩) | (refine op_callA rfl rfl rfl rfl rfl ⟨_, Try.func30, by decide, rfl⟩ (.cons (.pure rfl) (.cons (.pure rfl) .nil)) (grow_w _ h0 (by omega)) (by rintro r H' m ⟨rfl, rfl⟩; refine ⟨rfl, ?_⟩; simp only [List.mem_singleton]; rintro o rfl; exact AObj.shut_vals (by simp)) ?_; rintro r H' m ⟨rfl, rfl⟩))
    all_goals refine oc (x_assign ?_)
    all_goals refine ops_nil ?_
    all_goals refine seqQ_n ?_
    all_goals refine tri_seq ?_
    all_goals refine tri_seq ?_
    all_goals refine tri_region ?_
    all_goals (first | refine ops_le (lit_own 6 5 1 rfl (by first | exact (rfl : _ = 0) | exact (rfl : _ = 1) | exact (rfl : _ = 2) | exact (rfl : _ = 3) | exact (rfl : _ = 4) | exact (rfl : _ = 5) | exact (rfl : _ = 6) | exact (rfl : _ = 7) | exact (rfl : _ = 8) | exact (rfl : _ = 9) | exact (rfl : _ = 10) | exact (rfl : _ = 11))) ?_ | skip)
    all_goals refine oc (x_move ?_)
    all_goals refine oc ?_
    all_goals (first | refine op_len_sl rfl (by first | (conv => lhs; simp only [List.length_map, bytesAV_length]) | rfl) rfl rfl rfl ?_ | refine x_leno ?_ | refine x_lenn ?_)
    all_goals refine oc (x_move ?_)
    all_goals refine ops_nil ?_
    all_goals refine seqQ_n ?_
    all_goals refine tri_block ?_
    all_goals (
     refine tri_loop (X := { k : Nat // k ≤ ss.length }) (fun x => ⟨36, noM, [(0, .sl 1 (ss.map sbAV)), (6, .osl 0 1 0 (ss.take x.1).flatten.length), (25, .sl 1 (ss.map sbAV)), (26, iv ss.length), (27, iv x.1)], [.mk 5 false false 1 (bytesAV (ss.take x.1).flatten)]⟩) (fun x => ss.length - x.1) (⟨0, by simp⟩) (by exact le_kept [0] rfl rfl (fun _ _ h => by cases h) rfl ⟨by first | rfl | ((conv => lhs; whnf); first | (rw [hfl]; simp; done) | (simp only [take_bytes]; rw [hfl, bytesAV_append]; done)), by first | rfl | ((conv => lhs; whnf); first | (rw [hfl]; simp; done) | (simp only [take_bytes]; rw [hfl, bytesAV_append]; done)), by first | rfl | ((conv => lhs; whnf); first | (rw [hfl]; simp; done) | (simp only [take_bytes]; rw [hfl, bytesAV_append]; done)), by first | rfl | ((conv => lhs; whnf); first | (rw [hfl]; simp; done) | (simp only [take_bytes]; rw [hfl, bytesAV_append]; done)), by first | rfl | ((conv => lhs; whnf); first | (rw [hfl]; simp; done) | (simp only [take_bytes]; rw [hfl, bytesAV_append]; done)), trivial⟩ ⟨by first | rfl | ((conv => lhs; whnf); first | (rw [hfl]; simp; done) | (simp only [take_bytes]; rw [hfl, bytesAV_append]; done)), trivial⟩) (fun x => ?_)
     obtain ⟨k, hk⟩ := x
     simp only
     all_goals refine tri_seq ?_
     all_goals refine tri_region ?_
     all_goals refine oc (x_lss ?_)
     all_goals refine ops_nil ?_
     all_goals refine seqQ_n ?_
     all_goals refine tri_seq ?_
     all_goals (
      first | refine tri_cond_d rfl rfl (fun hc => ?_) (fun hc => ?_) | refine ct (fun hc => ?_) (fun hc => ?_) | refine cf (fun hc => ?_) (fun hc => ?_) | refine cb (fun hc => ?_) (fun hc => ?_)
      focus
       try (exfalso; first | exact hc | omega)
       all_goals refine tri_skip ?_
      rotate_right 1
      focus
       try (exfalso; first | exact hc | omega)
       all_goals refine tri_exit ?_
       all_goals refine seqQ_x ?_
       all_goals refine seqQ_x ?_
       all_goals refine blockQ_x ?_
       all_goals refine seqQ_n ?_
       all_goals refine tri_seq ?_
       all_goals refine tri_region ?_
       all_goals refine oc (x_move ?_)
       all_goals refine oc (x_assign ?_)
       all_goals refine ops_nil ?_
       all_goals refine seqQ_n ?_
       all_goals refine tri_ret ?_
       all_goals refine retE_r [0] (.cons (.tmp (by conv => lhs; whnf) rfl) .nil) rfl rfl (by first | exact (ren_pure (by rfl)).trans (by conv => lhs; whnf) | ((conv => lhs; whnf); done) | rfl) (.c0 (.nil)) ?_
       all_goals (
        have htk : ss.take k = ss := List.take_of_length_le (by omega)
        rw [htk]
        first
        | exact ⟨rfl, rfl⟩
        | exact ⟨by rw [h0], rfl⟩))
     all_goals refine seqQ_n ?_
     all_goals refine tri_seq ?_
     all_goals refine tri_block ?_
     all_goals refine tri_seq ?_
     all_goals refine tri_region ?_
     all_goals (
      obtain ⟨b, hb⟩ : ∃ b, ss[k]? = some b := ⟨ss[k]'(by omega), by simp⟩
      have he : (ss.map sbAV)[k]? = some (.sl 1 (bytesAV b)) := by simp [hb, sbAV]
      have hfl := flatten_next hb
      have hfl4 := congrArg List.length hfl
      simp only [List.length_append] at hfl4
      have hfl2 := flatten_le ss k
      have hfl3 := flatten_le ss (k + 1))
     all_goals refine oc ?_
     all_goals (first | refine x_ia ?_ | refine x_iao0 ?_ | refine x_iao ?_)
     all_goals refine oc ?_
     all_goals (first | refine x_ld ?_ | refine x_ldr ?_)
     all_goals refine oc (x_assign ?_)
     all_goals refine ops_nil ?_
     all_goals refine seqQ_n ?_
     all_goals refine tri_region ?_
     all_goals refine oc (x_move ?_)
     all_goals refine oc (x_move ?_)
     all_goals refine oc ?_
     all_goals (first | refine op_append rfl (by conv => lhs; whnf) rfl rfl rfl (Elem.mk (sz := 1) (by rfl) (by rfl) (by rfl) (by rfl) (by conv => lhs; whnf) (by rfl) (by rfl) (by rfl)) rfl (by first | omega | simp) (by first | exact Src.sl | exact Src.own rfl (by conv => lhs; first | simp only [List.drop_zero, List.take_succ_cons, List.take_zero, List.take_nil, take_bytes] | whnf) (by first | omega | simp) | exact Src.nil) (by first | (simp only [Nat.mul_one, bytesAV_length]; omega) | (simp; omega)) ?_ | refine opTri_le (le_own 31 5 1 rfl) (op_append rfl (by conv => lhs; whnf) rfl rfl rfl (Elem.mk (sz := 1) (by rfl) (by rfl) (by rfl) (by rfl) (by conv => lhs; whnf) (by rfl) (by rfl) (by rfl)) rfl (by first | omega | simp) (by first | exact Src.sl | exact Src.own rfl (by conv => lhs; first | simp only [List.drop_zero, List.take_succ_cons, List.take_zero, List.take_nil, take_bytes] | whnf) (by first | omega | simp) | exact Src.nil) (by first | (simp only [Nat.mul_one, bytesAV_length]; omega) | (simp; omega)) ?_))
     all_goals refine oc (x_assign ?_)
     all_goals refine ops_nil ?_
     all_goals refine blockQ_n ?_
     all_goals refine seqQ_n ?_
     all_goals refine tri_region ?_
     all_goals refine oc ?_
     all_goals (first | refine x_add64 ?_ | refine x_add ?_)
     all_goals refine oc (x_move ?_)
     all_goals refine ops_nil ?_
     all_goals refine seqQ_n ?_
     all_goals (exact ⟨⟨k + 1, by omega⟩, by dsimp only; omega, le_kept [0] rfl rfl (fun _ _ h => by cases h) rfl ⟨by first | rfl | ((conv => lhs; whnf); first | (rw [hfl]; simp; done) | (simp only [take_bytes]; rw [hfl, bytesAV_append]; done)), by first | rfl | ((conv => lhs; whnf); first | (rw [hfl]; simp; done) | (simp only [take_bytes]; rw [hfl, bytesAV_append]; done)), by first | rfl | ((conv => lhs; whnf); first | (rw [hfl]; simp; done) | (simp only [take_bytes]; rw [hfl, bytesAV_append]; done)), by first | rfl | ((conv => lhs; whnf); first | (rw [hfl]; simp; done) | (simp only [take_bytes]; rw [hfl, bytesAV_append]; done)), by first | rfl | ((conv => lhs; whnf); first | (rw [hfl]; simp; done) | (simp only [take_bytes]; rw [hfl, bytesAV_append]; done)), trivial⟩ ⟨by first | rfl | ((conv => lhs; whnf); first | (rw [hfl]; simp; done) | (simp only [take_bytes]; rw [hfl, bytesAV_append]; done)), trivial⟩⟩)))
  all_goals refine seqQ_n ?_
  all_goals refine tri_seq ?_
  all_goals refine tri_block ?_
  all_goals refine tri_seq ?_
  all_goals refine tri_region ?_
  all_goals (
   obtain ⟨b, hb⟩ : ∃ b, ss[k]? = some b := ⟨ss[k]'(by omega), by simp⟩
   have he : (ss.map sbAV)[k]? = some (.sl 1 (bytesAV b)) := by simp [hb, sbAV]
   have hfl := flatten_next hb
   have hfl4 := congrArg List.length hfl
   simp only [List.length_append] at hfl4
   have hfl2 := flatten_le ss k
   have hfl3 := flatten_le ss (k + 1))
  all_goals refine oc ?_
  all_goals (first | refine x_ia ?_ | refine x_iao0 ?_ | refine x_iao ?_)
  all_goals refine oc ?_
  all_goals (first | refine x_ld ?_ | refine x_ldr ?_)
  all_goals refine oc (x_assign ?_)
  all_goals refine ops_nil ?_
  all_goals refine seqQ_n ?_
  all_goals refine tri_seq ?_
  all_goals refine tri_region ?_
  all_goals refine oc (x_move ?_)
  all_goals refine oc (x_move ?_)
  all_goals refine oc ?_
  all_goals (first | refine op_len_sl rfl (by first | (conv => lhs; simp only [List.length_map, bytesAV_length]) | rfl) rfl rfl rfl ?_ | refine x_leno ?_ | refine x_lenn ?_)
  all_goals refine oc ?_
  all_goals (first | refine x_add64 ?_ | refine x_add ?_)
  all_goals refine oc (x_assign ?_)
  all_goals refine ops_nil ?_
  all_goals refine seqQ_n ?_
  all_goals refine tri_seq ?_
  all_goals refine tri_region ?_
  all_goals refine oc (x_move ?_)
  all_goals refine oc (x_lss ?_)
  all_goals refine ops_nil ?_
  all_goals refine seqQ_n ?_
  all_goals (
   first | refine tri_cond_d rfl rfl (fun hc => ?_) (fun hc => ?_) | refine ct (fun hc => ?_) (fun hc => ?_) | refine cf (fun hc => ?_) (fun hc => ?_) | refine cb (fun hc => ?_) (fun hc => ?_)
   focus
    try (exfalso; first | exact hc | omega)
    all_goals refine tri_region ?_
    all_goals refine oc ?_
    all_goals (exfalso; omega)
    all_goals refine oc ?_
    all_goals (exfalso; omega)
    all_goals refine ops_nil ?_
   rotate_right 1
   focus
    try (exfalso; first | exact hc | omega)
    all_goals refine tri_skip ?_)
  all_goals refine blockQ_n ?_
  all_goals refine seqQ_n ?_
  all_goals refine tri_region ?_
  all_goals refine oc ?_
  all_goals (first | refine x_add64 ?_ | refine x_add ?_)
  all_goals refine oc (x_move ?_)
  all_goals refine ops_nil ?_
  all_goals refine seqQ_n ?_
  all_goals (exact ⟨⟨k + 1, by omega⟩, by dsimp only; omega, le_kept [] rfl rfl (fun _ _ h => by cases h) rfl ⟨by first | rfl | ((conv => lhs; whnf); dsimp only [iv]; congr 2; rw [hfl]; simp; done), by first | rfl | ((conv => lhs; whnf); dsimp only [iv]; congr 2; rw [hfl]; simp; done), by first | rfl | ((conv => lhs; whnf); dsimp only [iv]; congr 2; rw [hfl]; simp; done), by first | rfl | ((conv => lhs; whnf); dsimp only [iv]; congr 2; rw [hfl]; simp; done), by first | rfl | ((conv => lhs; whnf); dsimp only [iv]; congr 2; rw [hfl]; simp; done), trivial⟩ trivial⟩))

end Go.Proofs.Ytjalgcjllddmhaa

/- A text of the proof of JournalSurvives: JW1 -/
import Derived.Test.YtjalgcjllddmhaaProg
import Derived.Test.YtjalgcjllddmhaaAvShort
import Derived.Test.YtjalgcjllddmhaaAvAppS
import Derived.Test.YtjalgcjllddmhaaAvSnap
import Derived.Test.YtjalgcjllddmhaaAvAny
import Derived.Test.YtjalgcjllddmhaaAvLit
import Derived.Test.YtjalgcjllddmhaaJBase

set_option linter.unusedSimpArgs false
set_option linter.unusedVariables false
set_option maxHeartbeats 8000000
set_option maxRecDepth 100000
namespace Go.Proofs.Ytjalgcjllddmhaa
open Go.Av
/-- the walk of casebook/journal.number -/
theorem number_w (l : List UInt8) (n : Nat) (hn : n < 2 ^ 63) (hl : l.length ≤ 2 ^ 46) : HSpec Try.prog 39 [.osl 0 1 0 l.length, iv n] [.mk 5 false false 1 (bytesAV l)] fun r H' _ =>
    r = .osl 0 1 0 (l ++ enc n).length ∧ H' = [.mk 5 false false 1 (bytesAV (l ++ enc n))] := by
 refine hspec_intro Try.func39 rfl rfl ?_
 all_goals refine tri_seq ?_
 all_goals refine tri_region ?_
 all_goals refine oc (x_assign ?_)
 all_goals refine ops_nil ?_
 all_goals refine seqQ_n ?_
 all_goals refine tri_seq ?_
 all_goals refine tri_block ?_
 all_goals (
  refine tri_loop (X := { p : List UInt8 × Nat // p.1 ++ enc p.2 = l ++ enc n ∧ p.2 < 2 ^ 63 }) (fun x => ⟨21, noM, [(0, .osl 0 1 0 x.1.1.length), (1, iv x.1.2)], [.mk 5 false false 1 (bytesAV x.1.1)]⟩) (fun x => x.1.2) (⟨(l, n), rfl, hn⟩) (by exact le_kept [0] rfl rfl (fun _ _ h => by cases h) rfl ⟨by first | rfl | ((conv => lhs; whnf); simp only [take_bytes, bytesAV_append, wrap_hi, bytesAV, List.map_cons, List.map_nil]; done) | ((conv => lhs; whnf); simp only [take_bytes, bytesAV_append]; simp only [wrap_hi, bytesAV, List.map_cons, List.map_nil]; done) | ((conv => lhs; whnf); simp; done), by first | rfl | ((conv => lhs; whnf); simp only [take_bytes, bytesAV_append, wrap_hi, bytesAV, List.map_cons, List.map_nil]; done) | ((conv => lhs; whnf); simp only [take_bytes, bytesAV_append]; simp only [wrap_hi, bytesAV, List.map_cons, List.map_nil]; done) | ((conv => lhs; whnf); simp; done), trivial⟩ ⟨by first | rfl | ((conv => lhs; whnf); simp only [take_bytes, bytesAV_append, wrap_hi, bytesAV, List.map_cons, List.map_nil]; done) | ((conv => lhs; whnf); simp only [take_bytes, bytesAV_append]; simp only [wrap_hi, bytesAV, List.map_cons, List.map_nil]; done) | ((conv => lhs; whnf); simp; done), trivial⟩) (fun x => ?_)
  obtain ⟨⟨l2, n2⟩, hx, hn2⟩ := x
  have hx2 := congrArg List.length hx
  have hx3 := enc_length hn
  have hx4 := enc_pos n2
  simp only [List.length_append] at hx hx2 hn2 ⊢
  all_goals refine tri_seq ?_
  all_goals refine tri_seq ?_
  all_goals refine tri_region ?_
  all_goals refine oc (x_move ?_)
  all_goals refine oc (x_geq ?_)
  all_goals refine ops_nil ?_
  all_goals refine seqQ_n ?_
  all_goals (
   first | refine tri_cond_d rfl rfl (fun hc => ?_) (fun hc => ?_) | refine ct (fun hc => ?_) (fun hc => ?_) | refine cf (fun hc => ?_) (fun hc => ?_) | refine cb (fun hc => ?_) (fun hc => ?_)
   focus
    try (exfalso; first | exact hc | omega)
    all_goals refine tri_skip ?_
   rotate_right 1
   focus
    try (exfalso; first | exact hc | omega)
    all_goals refine tri_exit ?_
    all_goals refine seqQ_x ?_
    all_goals refine seqQ_x ?_
    all_goals refine blockQ_x ?_
    all_goals refine seqQ_n ?_
    all_goals refine tri_seq ?_
    all_goals refine tri_region ?_
    all_goals refine oc (x_move ?_)
    all_goals refine oc (x_move ?_)
    all_goals refine oc (x_ci ?_)
    all_goals refine oc ?_
    all_goals (refine x_bs1 false ?_)
    all_goals refine oc ?_
    all_goals (first | refine op_append rfl (by conv => lhs; whnf) rfl rfl rfl (Elem.mk (sz := 1) (by rfl) (by rfl) (by rfl) (by rfl) (by conv => lhs; whnf) (by rfl) (by rfl) (by rfl)) rfl (by first | omega | simp) (by first | exact Src.sl | exact Src.own rfl (by conv => lhs; first | simp only [List.drop_zero, List.take_succ_cons, List.take_zero, List.take_nil, take_bytes] | whnf) (by first | omega | simp) | exact Src.nil) (by first | (simp only [Nat.mul_one, bytesAV_length]; omega) | (simp; omega)) ?_ | refine opTri_le (le_own 16 5 1 rfl) (op_append rfl (by conv => lhs; whnf) rfl rfl rfl (Elem.mk (sz := 1) (by rfl) (by rfl) (by rfl) (by rfl) (by conv => lhs; whnf) (by rfl) (by rfl) (by rfl)) rfl (by first | omega | simp) (by first | exact Src.sl | exact Src.own rfl (by conv => lhs; first | simp only [List.drop_zero, List.take_succ_cons, List.take_zero, List.take_nil, take_bytes] | whnf) (by first | omega | simp) | exact Src.nil) (by first | (simp only [Nat.mul_one, bytesAV_length]; omega) | (simp; omega)) ?_))
    all_goals refine oc (x_assign ?_)
    all_goals refine ops_nil ?_
    all_goals refine seqQ_n ?_
    all_goals refine tri_ret ?_
    all_goals refine retE_r [0] (.cons (.tmp (by conv => lhs; whnf) rfl) .nil) rfl rfl (by first | exact (ren_pure (by rfl)).trans (by conv => lhs; whnf) | ((conv => lhs; whnf); done) | rfl) (.c0 (.nil)) ?_
    all_goals (
     have hlt : n2 < 128 := by omega
     have hx5 : l2 ++ [UInt8.ofNat n2] = l ++ enc n := by rw [← enc_lt hlt]; exact hx
     have hx6 := congrArg List.length hx5
     simp only [List.length_append, List.length_singleton] at hx6
     rw [← hx5]
     refine ⟨by simp [retAV, AV.ren, keepMap, keepMap.go, ← hx6], ?_⟩
     conv => lhs; whnf; congr; { whnf }; { whnf }
     simp only [take_bytes, bytesAV_append]
     simp [wrap_lo hlt, bytesAV]))
  all_goals refine seqQ_n ?_
  all_goals refine tri_block ?_
  all_goals refine tri_seq ?_
  all_goals refine tri_region ?_
  all_goals refine oc (x_move ?_)
  all_goals refine oc (x_move ?_)
  all_goals refine oc ?_
  all_goals (first | refine x_rem64 ?_ | refine x_rem ?_)
  all_goals refine oc (x_ci ?_)
  all_goals refine oc (x_or ?_)
  all_goals refine oc ?_
  all_goals (refine x_bs1 false ?_)
  all_goals refine oc ?_
  all_goals (first | refine op_append rfl (by conv => lhs; whnf) rfl rfl rfl (Elem.mk (sz := 1) (by rfl) (by rfl) (by rfl) (by rfl) (by conv => lhs; whnf) (by rfl) (by rfl) (by rfl)) rfl (by first | omega | simp) (by first | exact Src.sl | exact Src.own rfl (by conv => lhs; first | simp only [List.drop_zero, List.take_succ_cons, List.take_zero, List.take_nil, take_bytes] | whnf) (by first | omega | simp) | exact Src.nil) (by first | (simp only [Nat.mul_one, bytesAV_length]; omega) | (simp; omega)) ?_ | refine opTri_le (le_own 7 5 1 rfl) (op_append rfl (by conv => lhs; whnf) rfl rfl rfl (Elem.mk (sz := 1) (by rfl) (by rfl) (by rfl) (by rfl) (by conv => lhs; whnf) (by rfl) (by rfl) (by rfl)) rfl (by first | omega | simp) (by first | exact Src.sl | exact Src.own rfl (by conv => lhs; first | simp only [List.drop_zero, List.take_succ_cons, List.take_zero, List.take_nil, take_bytes] | whnf) (by first | omega | simp) | exact Src.nil) (by first | (simp only [Nat.mul_one, bytesAV_length]; omega) | (simp; omega)) ?_))
  all_goals refine oc (x_assign ?_)
  all_goals refine ops_nil ?_
  all_goals refine seqQ_n ?_
  all_goals refine tri_region ?_
  all_goals refine oc (x_move ?_)
  all_goals refine oc ?_
  all_goals (first | refine x_quo64 ?_ | refine x_quo ?_)
  all_goals refine oc (x_assign ?_)
  all_goals refine ops_nil ?_
  all_goals refine blockQ_n ?_
  all_goals refine seqQ_n ?_
  all_goals (exact ⟨⟨(l2 ++ [UInt8.ofNat (n2 % 128 + 128)], n2 / 128), (enc_step (by omega) l2).trans hx, by dsimp only; omega⟩, by dsimp only; omega, le_kept [0] rfl rfl (fun _ _ h => by cases h) rfl ⟨by first | rfl | ((conv => lhs; whnf); simp only [take_bytes, bytesAV_append, wrap_hi, bytesAV, List.map_cons, List.map_nil]; done) | ((conv => lhs; whnf); simp only [take_bytes, bytesAV_append]; simp only [wrap_hi, bytesAV, List.map_cons, List.map_nil]; done) | ((conv => lhs; whnf); simp; done), by first | rfl | ((conv => lhs; whnf); simp only [take_bytes, bytesAV_append, wrap_hi, bytesAV, List.map_cons, List.map_nil]; done) | ((conv => lhs; whnf); simp only [take_bytes, bytesAV_append]; simp only [wrap_hi, bytesAV, List.map_cons, List.map_nil]; done) | ((conv => lhs; whnf); simp; done), trivial⟩ ⟨by first | rfl | ((conv => lhs; whnf); simp only [take_bytes, bytesAV_append, wrap_hi, bytesAV, List.map_cons, List.map_nil]; done) | ((conv => lhs; whnf); simp only [take_bytes, bytesAV_append]; simp only [wrap_hi, bytesAV, List.map_cons, List.map_nil]; done) | ((conv => lhs; whnf); simp; done), trivial⟩⟩))

/-- the walk of casebook/journal.number -/
theorem number_nil_w (n : Nat) (hn : n < 2 ^ 63) : HSpec Try.prog 39 [.val (.slice none 0 0), iv n] [] fun r H' _ =>
    r = .osl 0 1 0 (enc n).length ∧ H' = [.mk 5 false false 1 (bytesAV (enc n))] := by
 refine hspec_intro Try.func39 rfl rfl ?_
 refine tri_le (lit_own 0 5 1 rfl rfl) ?_
 all_goals refine tri_seq ?_
 all_goals refine tri_region ?_
 all_goals refine oc (x_assign ?_)
 all_goals refine ops_nil ?_
 all_goals refine seqQ_n ?_
 all_goals refine tri_seq ?_
 all_goals refine tri_block ?_
 all_goals (
  refine tri_loop (X := { p : List UInt8 × Nat // p.1 ++ enc p.2 = [] ++ enc n ∧ p.2 < 2 ^ 63 }) (fun x => ⟨21, noM, [(0, .osl 0 1 0 x.1.1.length), (1, iv x.1.2)], [.mk 5 false false 1 (bytesAV x.1.1)]⟩) (fun x => x.1.2) (⟨([], n), rfl, hn⟩) (by exact le_kept [0] rfl rfl (fun _ _ h => by cases h) rfl ⟨by first | rfl | ((conv => lhs; whnf); simp only [take_bytes, bytesAV_append, wrap_hi, bytesAV, List.map_cons, List.map_nil]; done) | ((conv => lhs; whnf); simp only [take_bytes, bytesAV_append]; simp only [wrap_hi, bytesAV, List.map_cons, List.map_nil]; done) | ((conv => lhs; whnf); simp; done), by first | rfl | ((conv => lhs; whnf); simp only [take_bytes, bytesAV_append, wrap_hi, bytesAV, List.map_cons, List.map_nil]; done) | ((conv => lhs; whnf); simp only [take_bytes, bytesAV_append]; simp only [wrap_hi, bytesAV, List.map_cons, List.map_nil]; done) | ((conv => lhs; whnf); simp; done), trivial⟩ ⟨by first | rfl | ((conv => lhs; whnf); simp only [take_bytes, bytesAV_append, wrap_hi, bytesAV, List.map_cons, List.map_nil]; done) | ((conv => lhs; whnf); simp only [take_bytes, bytesAV_append]; simp only [wrap_hi, bytesAV, List.map_cons, List.map_nil]; done) | ((conv => lhs; whnf); simp; done), trivial⟩) (fun x => ?_)
  obtain ⟨⟨l2, n2⟩, hx, hn2⟩ := x
  have hx2 := congrArg List.length hx
  have hx3 := enc_length hn
  have hx4 := enc_pos n2
  simp only [List.length_append, List.nil_append] at hx hx2 hn2 ⊢
  all_goals refine tri_seq ?_
  all_goals refine tri_seq ?_
  all_goals refine tri_region ?_
  all_goals refine oc (x_move ?_)
  all_goals refine oc (x_geq ?_)
  all_goals refine ops_nil ?_
  all_goals refine seqQ_n ?_
  all_goals (
   first | refine tri_cond_d rfl rfl (fun hc => ?_) (fun hc => ?_) | refine ct (fun hc => ?_) (fun hc => ?_) | refine cf (fun hc => ?_) (fun hc => ?_) | refine cb (fun hc => ?_) (fun hc => ?_)
   focus
    try (exfalso; first | exact hc | omega)
    all_goals refine tri_skip ?_
   rotate_right 1
   focus
    try (exfalso; first | exact hc | omega)
    all_goals refine tri_exit ?_
    all_goals refine seqQ_x ?_
    all_goals refine seqQ_x ?_
    all_goals refine blockQ_x ?_
    all_goals refine seqQ_n ?_
    all_goals refine tri_seq ?_
    all_goals refine tri_region ?_
    all_goals refine oc (x_move ?_)
    all_goals refine oc (x_move ?_)
    all_goals refine oc (x_ci ?_)
    all_goals refine oc ?_
    all_goals (refine x_bs1 false ?_)
    all_goals refine oc ?_
    all_goals (first | refine op_append rfl (by conv => lhs; whnf) rfl rfl rfl (Elem.mk (sz := 1) (by rfl) (by rfl) (by rfl) (by rfl) (by conv => lhs; whnf) (by rfl) (by rfl) (by rfl)) rfl (by first | omega | simp) (by first | exact Src.sl | exact Src.own rfl (by conv => lhs; first | simp only [List.drop_zero, List.take_succ_cons, List.take_zero, List.take_nil, take_bytes] | whnf) (by first | omega | simp) | exact Src.nil) (by first | (simp only [Nat.mul_one, bytesAV_length]; omega) | (simp; omega)) ?_ | refine opTri_le (le_own 16 5 1 rfl) (op_append rfl (by conv => lhs; whnf) rfl rfl rfl (Elem.mk (sz := 1) (by rfl) (by rfl) (by rfl) (by rfl) (by conv => lhs; whnf) (by rfl) (by rfl) (by rfl)) rfl (by first | omega | simp) (by first | exact Src.sl | exact Src.own rfl (by conv => lhs; first | simp only [List.drop_zero, List.take_succ_cons, List.take_zero, List.take_nil, take_bytes] | whnf) (by first | omega | simp) | exact Src.nil) (by first | (simp only [Nat.mul_one, bytesAV_length]; omega) | (simp; omega)) ?_))
    all_goals refine oc (x_assign ?_)
    all_goals refine ops_nil ?_
    all_goals refine seqQ_n ?_
    all_goals refine tri_ret ?_
    all_goals refine retE_r [0] (.cons (.tmp (by conv => lhs; whnf) rfl) .nil) rfl rfl (by first | exact (ren_pure (by rfl)).trans (by conv => lhs; whnf) | ((conv => lhs; whnf); done) | rfl) (.c0 (.nil)) ?_
    all_goals (
     have hlt : n2 < 128 := by omega
     have hx5 : l2 ++ [UInt8.ofNat n2] = enc n := by rw [← enc_lt hlt]; exact hx
     have hx6 := congrArg List.length hx5
     simp only [List.length_append, List.length_singleton] at hx6
     rw [← hx5]
     refine ⟨by simp [retAV, AV.ren, keepMap, keepMap.go, ← hx6], ?_⟩
     conv => lhs; whnf; congr; { whnf }; { whnf }
     simp only [take_bytes, bytesAV_append]
     simp [wrap_lo hlt, bytesAV]))
  all_goals refine seqQ_n ?_
  all_goals refine tri_block ?_
  all_goals refine tri_seq ?_
  all_goals refine tri_region ?_
  all_goals refine oc (x_move ?_)
  all_goals refine oc (x_move ?_)
  all_goals refine oc ?_
  all_goals (first | refine x_rem64 ?_ | refine x_rem ?_)
  all_goals refine oc (x_ci ?_)
  all_goals refine oc (x_or ?_)
  all_goals refine oc ?_
  all_goals (refine x_bs1 false ?_)
  all_goals refine oc ?_
  all_goals (first | refine op_append rfl (by conv => lhs; whnf) rfl rfl rfl (Elem.mk (sz := 1) (by rfl) (by rfl) (by rfl) (by rfl) (by conv => lhs; whnf) (by rfl) (by rfl) (by rfl)) rfl (by first | omega | simp) (by first | exact Src.sl | exact Src.own rfl (by conv => lhs; first | simp only [List.drop_zero, List.take_succ_cons, List.take_zero, List.take_nil, take_bytes] | whnf) (by first | omega | simp) | exact Src.nil) (by first | (simp only [Nat.mul_one, bytesAV_length]; omega) | (simp; omega)) ?_ | refine opTri_le (le_own 7 5 1 rfl) (op_append rfl (by conv => lhs; whnf) rfl rfl rfl (Elem.mk (sz := 1) (by rfl) (by rfl) (by rfl) (by rfl) (by conv => lhs; whnf) (by rfl) (by rfl) (by rfl)) rfl (by first | omega | simp) (by first | exact Src.sl | exact Src.own rfl (by conv => lhs; first | simp only [List.drop_zero, List.take_succ_cons, List.take_zero, List.take_nil, take_bytes] | whnf) (by first | omega | simp) | exact Src.nil) (by first | (simp only [Nat.mul_one, bytesAV_length]; omega) | (simp; omega)) ?_))
  all_goals refine oc (x_assign ?_)
  all_goals refine ops_nil ?_
  all_goals refine seqQ_n ?_
  all_goals refine tri_region ?_
  all_goals refine oc (x_move ?_)
  all_goals refine oc ?_
  all_goals (first | refine x_quo64 ?_ | refine x_quo ?_)
  all_goals refine oc (x_assign ?_)
  all_goals refine ops_nil ?_
  all_goals refine blockQ_n ?_
  all_goals refine seqQ_n ?_
  all_goals (exact ⟨⟨(l2 ++ [UInt8.ofNat (n2 % 128 + 128)], n2 / 128), (enc_step (by omega) l2).trans hx, by dsimp only; omega⟩, by dsimp only; omega, le_kept [0] rfl rfl (fun _ _ h => by cases h) rfl ⟨by first | rfl | ((conv => lhs; whnf); simp only [take_bytes, bytesAV_append, wrap_hi, bytesAV, List.map_cons, List.map_nil]; done) | ((conv => lhs; whnf); simp only [take_bytes, bytesAV_append]; simp only [wrap_hi, bytesAV, List.map_cons, List.map_nil]; done) | ((conv => lhs; whnf); simp; done), by first | rfl | ((conv => lhs; whnf); simp only [take_bytes, bytesAV_append, wrap_hi, bytesAV, List.map_cons, List.map_nil]; done) | ((conv => lhs; whnf); simp only [take_bytes, bytesAV_append]; simp only [wrap_hi, bytesAV, List.map_cons, List.map_nil]; done) | ((conv => lhs; whnf); simp; done), trivial⟩ ⟨by first | rfl | ((conv => lhs; whnf); simp only [take_bytes, bytesAV_append, wrap_hi, bytesAV, List.map_cons, List.map_nil]; done) | ((conv => lhs; whnf); simp only [take_bytes, bytesAV_append]; simp only [wrap_hi, bytesAV, List.map_cons, List.map_nil]; done) | ((conv => lhs; whnf); simp; done), trivial⟩⟩))


theorem number_i (l : List UInt8) (n : Int) (h0 : 0 ≤ n) (hn : n < 9223372036854775808) (hl : l.length ≤ 2 ^ 46) : HSpec Try.prog 39 [.osl 0 1 0 l.length, iv n] [.mk 5 false false 1 (bytesAV l)] fun r H' _ =>
    r = .osl 0 1 0 (l ++ enc n.toNat).length ∧ H' = [.mk 5 false false 1 (bytesAV (l ++ enc n.toNat))] := by
  have := number_w l n.toNat (by omega) hl
  rwa [Int.toNat_of_nonneg h0] at this
theorem number_nil_i (n : Int) (h0 : 0 ≤ n) (hn : n < 9223372036854775808) : HSpec Try.prog 39 [.val (.slice none 0 0), iv n] [] fun r H' _ =>
    r = .osl 0 1 0 (enc n.toNat).length ∧ H' = [.mk 5 false false 1 (bytesAV (enc n.toNat))] := by
  have := number_nil_w n.toNat (by omega)
  rwa [Int.toNat_of_nonneg h0] at this

/-- the walk of casebook/journal.text -/
theorem text_w (l : List UInt8) (s : ByteArray) (hs : s.size ≤ 2 ^ 40) (hl : l.length ≤ 2 ^ 45) : HSpec Try.prog 42 [.osl 0 1 0 l.length, sv s] [.mk 5 false false 1 (bytesAV l)] fun r H' _ =>
    r = .osl 0 1 0 (l ++ encS s).length ∧ H' = [.mk 5 false false 1 (bytesAV (l ++ encS s))] := by
 have he1 := enc_length (n := s.size) (by omega)
 refine hspec_intro Try.func42 rfl rfl ?_
 all_goals refine tri_seq ?_
 all_goals refine tri_region ?_
 all_goals refine oc (x_assign ?_)
 all_goals refine ops_nil ?_
 all_goals refine seqQ_n ?_
 all_goals refine tri_seq ?_
 all_goals refine tri_region ?_
 all_goals refine oc (x_move ?_)
 all_goals refine oc (x_move ?_)
 all_goals refine oc (x_lens ?_)
 all_goals refine oc ?_
 all_goals (refine lit_callG [0] [0] rfl rfl rfl rfl rfl ⟨_, Try.func39, by decide, rfl⟩ rfl rfl (.cons (.own (by conv => lhs; whnf)) (.cons (.snap (.pure rfl)) .nil)) rfl (by conv => lhs; whnf; congr; { whnf }; { whnf }) (number_w _ _ (by omega) (by first | omega | (simp only [List.length_append]; omega))) (by rintro r H' m ⟨rfl, rfl⟩; exact hand_kill (by simp)) (by first | exact (rfl : _ = 0) | exact (rfl : _ = 1) | exact (rfl : _ = 2) | exact (rfl : _ = 3) | exact (rfl : _ = 4) | exact (rfl : _ = 5) | exact (rfl : _ = 6) | exact (rfl : _ = 7) | exact (rfl : _ = 8) | exact (rfl : _ = 9) | exact (rfl : _ = 10) | exact (rfl : _ = 11)) (by conv => lhs; whnf) ?_)
 all_goals (rintro r H' m ⟨rfl, rfl⟩)
 all_goals refine oc (x_move ?_)
 all_goals refine oc ?_
 all_goals (first | refine op_append_str rfl rfl rfl rfl rfl (Elem.mk (sz := 1) (by rfl) (by rfl) (by rfl) (by rfl) (by conv => lhs; whnf) (by rfl) (by rfl) (by rfl)) rfl (by first | omega | simp) rfl rfl (by simp; omega) ?_ | refine opTri_le (le_own 8 5 1 rfl) (op_append_str rfl rfl rfl rfl rfl (Elem.mk (sz := 1) (by rfl) (by rfl) (by rfl) (by rfl) (by conv => lhs; whnf) (by rfl) (by rfl) (by rfl)) rfl (by first | omega | simp) rfl rfl (by simp; omega) ?_))
 all_goals refine oc (x_assign ?_)
 all_goals refine ops_nil ?_
 all_goals refine seqQ_n ?_
 all_goals refine tri_ret ?_
 all_goals refine retE_r [0] (.cons (.tmp (by conv => lhs; whnf) rfl) .nil) rfl rfl (by first | exact (ren_pure (by rfl)).trans (by conv => lhs; whnf) | ((conv => lhs; whnf); done) | rfl) (.c0 (.nil)) ?_
 all_goals (
  refine ⟨by simp [retAV, AV.ren, keepMap, keepMap.go, encS, Nat.add_assoc], ?_⟩
  conv => lhs; whnf; congr; { whnf }; { whnf }
  simp only [take_bytes]
  simp [encS, bytesAV])

/-- the walk of casebook/journal.code -/
theorem code_w (c : Cmd) (hf : formed c = true) : HSpec Try.prog 31 [cmdAV c] [] fun r H' _ =>
    r = .sl 1 (bytesAV (code c)) ∧ H' = [] := by
 obtain ⟨f1, f2, f3, f4, f5, f6, f7, f8, f9, f10, f11⟩ := formed_facts hf
 have g1 := enc_length (n := c.kind.toNat) (by omega)
 have g2 := enc_length (n := c.trans.toNat) (by omega)
 have g3 := enc_length (n := c.time.toNat) (by omega)
 have g4 := encS_length c.case
 have g5 := encS_length c.person
 have g6 := encS_length c.to
 have g7 := enc_length (n := c.case.size) (by omega)
 have g8 := enc_length (n := c.person.size) (by omega)
 have g9 := enc_length (n := c.to.size) (by omega)
 have g10 := enc_length (n := c.data.length) (by omega)
 have g11 := code_length hf
 refine hspec_intro Try.func31 rfl rfl ?_
 all_goals refine tri_seq ?_
 all_goals refine tri_region ?_
 all_goals refine oc (x_bx 7 ?_)
 all_goals refine oc (x_assign ?_)
 all_goals refine ops_nil ?_
 all_goals refine seqQ_n ?_
 all_goals refine tri_seq ?_
 all_goals (
  apply tri_anyCut (by rfl)
  focus
   all_goals refine x_tk 0 (opWF_fieldAddr rfl rfl rfl) ?_
   all_goals (first | refine x_fa0 ?_ | refine x_far0 ?_ | refine x_fa ?_ | refine x_far ?_)
   all_goals refine x_tk 3 (opWF_fieldAddr rfl rfl rfl) ?_
   all_goals (first | refine x_fa0 ?_ | refine x_far0 ?_ | refine x_fa ?_ | refine x_far ?_)
   all_goals refine x_tk 6 (opWF_fieldAddr rfl rfl rfl) ?_
   all_goals (first | refine x_fa0 ?_ | refine x_far0 ?_ | refine x_fa ?_ | refine x_far ?_)
   all_goals (
    refine x_all3 1 4 7 ?_ ?_ ?_
    focus
     all_goals (first | refine x_ld ?_ | refine x_ldr ?_)
     all_goals (
      refine x_all3 2 4 7 ?_ ?_ ?_
      focus
       all_goals (refine op_callA rfl rfl rfl rfl rfl ⟨_, Try.func39, by decide, rfl⟩ (.cons (.pure rfl) (.cons (.pure rfl) .nil)) (number_nil_i _ (by omega) (by omega)) (by rintro r H' m ⟨rfl, rfl⟩; refine ⟨rfl, ?_⟩; simp only [List.mem_singleton]; rintro o rfl; exact AObj.shut_vals (by simp [bytesAV])) ?_)
       all_goals (rintro r H' m ⟨rfl, rfl⟩)
       all_goals (
        refine x_all2 4 7 ?_ ?_
        focus
         all_goals (first | refine x_ld ?_ | refine x_ldr ?_)
         all_goals (
          refine x_all2 5 7 ?_ ?_
          focus
           all_goals (refine lit_callG [1] [1] rfl rfl rfl rfl rfl ⟨_, Try.func39, by decide, rfl⟩ rfl rfl (.cons (.own (by conv => lhs; whnf)) (.cons (.snap (.pure rfl)) .nil)) rfl (by conv => lhs; whnf; congr; { whnf }; { whnf }) (number_i _ _ (by omega) (by omega) (by first | omega | (simp only [List.length_append]; omega))) (by rintro r H' m ⟨rfl, rfl⟩; exact hand_kill (by simp)) (by first | exact (rfl : _ = 0) | exact (rfl : _ = 1) | exact (rfl : _ = 2) | exact (rfl : _ = 3) | exact (rfl : _ = 4) | exact (rfl : _ = 5) | exact (rfl : _ = 6) | exact (rfl : _ = 7) | exact (rfl : _ = 8) | exact (rfl : _ = 9) | exact (rfl : _ = 10) | exact (rfl : _ = 11)) (by conv => lhs; whnf) ?_)
           all_goals (rintro r H' m ⟨rfl, rfl⟩)
           all_goals (
            refine x_all1 7 ?_
            focus
             all_goals (first | refine x_ld ?_ | refine x_ldr ?_)
             all_goals (
              refine x_all1 8 ?_
              focus
               all_goals (refine lit_callG [1] [1] rfl rfl rfl rfl rfl ⟨_, Try.func39, by decide, rfl⟩ rfl rfl (.cons (.own (by conv => lhs; whnf)) (.cons (.snap (.pure rfl)) .nil)) rfl (by conv => lhs; whnf; congr; { whnf }; { whnf }) (number_i _ _ (by omega) (by omega) (by first | omega | (simp only [List.length_append]; omega))) (by rintro r H' m ⟨rfl, rfl⟩; exact hand_kill (by simp)) (by first | exact (rfl : _ = 0) | exact (rfl : _ = 1) | exact (rfl : _ = 2) | exact (rfl : _ = 3) | exact (rfl : _ = 4) | exact (rfl : _ = 5) | exact (rfl : _ = 6) | exact (rfl : _ = 7) | exact (rfl : _ = 8) | exact (rfl : _ = 9) | exact (rfl : _ = 10) | exact (rfl : _ = 11)) (by conv => lhs; whnf) ?_)
               all_goals (rintro r H' m ⟨rfl, rfl⟩)
               all_goals refine x_tk 9 (opWF_assign) ?_
               all_goals (refine x_assign ?_)
               all_goals exact any_leaf (n := 74) [0, 1] [0, 1, 2, 3, 5, 31, 32, 33, 34, 46, 54, 62] (by kernel_rfl) rfl rfl rfl (.c0 (.c0 (.c0 (.c0 (.c0 (.c0 (.c0 (.c0 (.c0 (.c0 (.c0 (.c0 (.nil))))))))))))) (.c0 (.c0 (.nil)))))
          focus
           all_goals (first | refine x_ld ?_ | refine x_ldr ?_)
           all_goals (
            refine x_all1 5 ?_
            focus
             all_goals (refine lit_callG [1] [1] rfl rfl rfl rfl rfl ⟨_, Try.func39, by decide, rfl⟩ rfl rfl (.cons (.own (by conv => lhs; whnf)) (.cons (.snap (.pure rfl)) .nil)) rfl (by conv => lhs; whnf; congr; { whnf }; { whnf }) (number_i _ _ (by omega) (by omega) (by first | omega | (simp only [List.length_append]; omega))) (by rintro r H' m ⟨rfl, rfl⟩; exact hand_kill (by simp)) (by first | exact (rfl : _ = 0) | exact (rfl : _ = 1) | exact (rfl : _ = 2) | exact (rfl : _ = 3) | exact (rfl : _ = 4) | exact (rfl : _ = 5) | exact (rfl : _ = 6) | exact (rfl : _ = 7) | exact (rfl : _ = 8) | exact (rfl : _ = 9) | exact (rfl : _ = 10) | exact (rfl : _ = 11)) (by conv => lhs; whnf) ?_)
             all_goals (rintro r H' m ⟨rfl, rfl⟩)
             all_goals (
              refine x_all1 8 ?_
              focus
               all_goals (refine lit_callG [1] [1] rfl rfl rfl rfl rfl ⟨_, Try.func39, by decide, rfl⟩ rfl rfl (.cons (.own (by conv => lhs; whnf)) (.cons (.snap (.pure rfl)) .nil)) rfl (by conv => lhs; whnf; congr; { whnf }; { whnf }) (number_i _ _ (by omega) (by omega) (by first | omega | (simp only [List.length_append]; omega))) (by rintro r H' m ⟨rfl, rfl⟩; exact hand_kill (by simp)) (by first | exact (rfl : _ = 0) | exact (rfl : _ = 1) | exact (rfl : _ = 2) | exact (rfl : _ = 3) | exact (rfl : _ = 4) | exact (rfl : _ = 5) | exact (rfl : _ = 6) | exact (rfl : _ = 7) | exact (rfl : _ = 8) | exact (rfl : _ = 9) | exact (rfl : _ = 10) | exact (rfl : _ = 11)) (by conv => lhs; whnf) ?_)
               all_goals (rintro r H' m ⟨rfl, rfl⟩)
               all_goals refine x_tk 9 (opWF_assign) ?_
               all_goals (refine x_assign ?_)
               all_goals exact any_leaf (n := 74) [0, 1] [0, 1, 2, 3, 5, 31, 32, 33, 34, 46, 54, 62] (by kernel_rfl) rfl rfl rfl (.c0 (.c0 (.c0 (.c0 (.c0 (.c0 (.c0 (.c0 (.c0 (.c0 (.c0 (.c0 (.nil))))))))))))) (.c0 (.c0 (.nil))))))
        focus
         all_goals (first | refine x_ld ?_ | refine x_ldr ?_)
         all_goals (
          refine x_all1 4 ?_
          focus
           all_goals (first | refine x_ld ?_ | refine x_ldr ?_)
           all_goals (
            refine x_all1 5 ?_
            focus
             all_goals (refine lit_callG [1] [1] rfl rfl rfl rfl rfl ⟨_, Try.func39, by decide, rfl⟩ rfl rfl (.cons (.own (by conv => lhs; whnf)) (.cons (.snap (.pure rfl)) .nil)) rfl (by conv => lhs; whnf; congr; { whnf }; { whnf }) (number_i _ _ (by omega) (by omega) (by first | omega | (simp only [List.length_append]; omega))) (by rintro r H' m ⟨rfl, rfl⟩; exact hand_kill (by simp)) (by first | exact (rfl : _ = 0) | exact (rfl : _ = 1) | exact (rfl : _ = 2) | exact (rfl : _ = 3) | exact (rfl : _ = 4) | exact (rfl : _ = 5) | exact (rfl : _ = 6) | exact (rfl : _ = 7) | exact (rfl : _ = 8) | exact (rfl : _ = 9) | exact (rfl : _ = 10) | exact (rfl : _ = 11)) (by conv => lhs; whnf) ?_)
             all_goals (rintro r H' m ⟨rfl, rfl⟩)
             all_goals (
              refine x_all1 8 ?_
              focus
               all_goals (refine lit_callG [1] [1] rfl rfl rfl rfl rfl ⟨_, Try.func39, by decide, rfl⟩ rfl rfl (.cons (.own (by conv => lhs; whnf)) (.cons (.snap (.pure rfl)) .nil)) rfl (by conv => lhs; whnf; congr; { whnf }; { whnf }) (number_i _ _ (by omega) (by omega) (by first | omega | (simp only [List.length_append]; omega))) (by rintro r H' m ⟨rfl, rfl⟩; exact hand_kill (by simp)) (by first | exact (rfl : _ = 0) | exact (rfl : _ = 1) | exact (rfl : _ = 2) | exact (rfl : _ = 3) | exact (rfl : _ = 4) | exact (rfl : _ = 5) | exact (rfl : _ = 6) | exact (rfl : _ = 7) | exact (rfl : _ = 8) | exact (rfl : _ = 9) | exact (rfl : _ = 10) | exact (rfl : _ = 11)) (by conv => lhs; whnf) ?_)
               all_goals (rintro r H' m ⟨rfl, rfl⟩)
               all_goals refine x_tk 9 (opWF_assign) ?_
               all_goals (refine x_assign ?_)
               all_goals exact any_leaf (n := 74) [0, 1] [0, 1, 2, 3, 5, 31, 32, 33, 34, 46, 54, 62] (by kernel_rfl) rfl rfl rfl (.c0 (.c0 (.c0 (.c0 (.c0 (.c0 (.c0 (.c0 (.c0 (.c0 (.c0 (.c0 (.nil))))))))))))) (.c0 (.c0 (.nil)))))))
      focus
       all_goals (first | refine x_ld ?_ | refine x_ldr ?_)
       all_goals (
        refine x_all2 2 7 ?_ ?_
        focus
         all_goals (refine op_callA rfl rfl rfl rfl rfl ⟨_, Try.func39, by decide, rfl⟩ (.cons (.pure rfl) (.cons (.pure rfl) .nil)) (number_nil_i _ (by omega) (by omega)) (by rintro r H' m ⟨rfl, rfl⟩; refine ⟨rfl, ?_⟩; simp only [List.mem_singleton]; rintro o rfl; exact AObj.shut_vals (by simp [bytesAV])) ?_)
         all_goals (rintro r H' m ⟨rfl, rfl⟩)
         all_goals (
          refine x_all2 5 7 ?_ ?_
          focus
           all_goals (refine lit_callG [1] [1] rfl rfl rfl rfl rfl ⟨_, Try.func39, by decide, rfl⟩ rfl rfl (.cons (.own (by conv => lhs; whnf)) (.cons (.snap (.pure rfl)) .nil)) rfl (by conv => lhs; whnf; congr; { whnf }; { whnf }) (number_i _ _ (by omega) (by omega) (by first | omega | (simp only [List.length_append]; omega))) (by rintro r H' m ⟨rfl, rfl⟩; exact hand_kill (by simp)) (by first | exact (rfl : _ = 0) | exact (rfl : _ = 1) | exact (rfl : _ = 2) | exact (rfl : _ = 3) | exact (rfl : _ = 4) | exact (rfl : _ = 5) | exact (rfl : _ = 6) | exact (rfl : _ = 7) | exact (rfl : _ = 8) | exact (rfl : _ = 9) | exact (rfl : _ = 10) | exact (rfl : _ = 11)) (by conv => lhs; whnf) ?_)
           all_goals (rintro r H' m ⟨rfl, rfl⟩)
           all_goals (
            refine x_all1 7 ?_
            focus
             all_goals (first | refine x_ld ?_ | refine x_ldr ?_)
             all_goals (
              refine x_all1 8 ?_
              focus
               all_goals (refine lit_callG [1] [1] rfl rfl rfl rfl rfl ⟨_, Try.func39, by decide, rfl⟩ rfl rfl (.cons (.own (by conv => lhs; whnf)) (.cons (.snap (.pure rfl)) .nil)) rfl (by conv => lhs; whnf; congr; { whnf }; { whnf }) (number_i _ _ (by omega) (by omega) (by first | omega | (simp only [List.length_append]; omega))) (by rintro r H' m ⟨rfl, rfl⟩; exact hand_kill (by simp)) (by first | exact (rfl : _ = 0) | exact (rfl : _ = 1) | exact (rfl : _ = 2) | exact (rfl : _ = 3) | exact (rfl : _ = 4) | exact (rfl : _ = 5) | exact (rfl : _ = 6) | exact (rfl : _ = 7) | exact (rfl : _ = 8) | exact (rfl : _ = 9) | exact (rfl : _ = 10) | exact (rfl : _ = 11)) (by conv => lhs; whnf) ?_)
               all_goals (rintro r H' m ⟨rfl, rfl⟩)
               all_goals refine x_tk 9 (opWF_assign) ?_
               all_goals (refine x_assign ?_)
               all_goals exact any_leaf (n := 74) [0, 1] [0, 1, 2, 3, 5, 31, 32, 33, 34, 46, 54, 62] (by kernel_rfl) rfl rfl rfl (.c0 (.c0 (.c0 (.c0 (.c0 (.c0 (.c0 (.c0 (.c0 (.c0 (.c0 (.c0 (.nil))))))))))))) (.c0 (.c0 (.nil)))))
          focus
           all_goals (first | refine x_ld ?_ | refine x_ldr ?_)
           all_goals (
            refine x_all1 5 ?_
            focus
             all_goals (refine lit_callG [1] [1] rfl rfl rfl rfl rfl ⟨_, Try.func39, by decide, rfl⟩ rfl rfl (.cons (.own (by conv => lhs; whnf)) (.cons (.snap (.pure rfl)) .nil)) rfl (by conv => lhs; whnf; congr; { whnf }; { whnf }) (number_i _ _ (by omega) (by omega) (by first | omega | (simp only [List.length_append]; omega))) (by rintro r H' m ⟨rfl, rfl⟩; exact hand_kill (by simp)) (by first | exact (rfl : _ = 0) | exact (rfl : _ = 1) | exact (rfl : _ = 2) | exact (rfl : _ = 3) | exact (rfl : _ = 4) | exact (rfl : _ = 5) | exact (rfl : _ = 6) | exact (rfl : _ = 7) | exact (rfl : _ = 8) | exact (rfl : _ = 9) | exact (rfl : _ = 10) | exact (rfl : _ = 11)) (by conv => lhs; whnf) ?_)
             all_goals (rintro r H' m ⟨rfl, rfl⟩)
             all_goals (
              refine x_all1 8 ?_
              focus
               all_goals (refine lit_callG [1] [1] rfl rfl rfl rfl rfl ⟨_, Try.func39, by decide, rfl⟩ rfl rfl (.cons (.own (by conv => lhs; whnf)) (.cons (.snap (.pure rfl)) .nil)) rfl (by conv => lhs; whnf; congr; { whnf }; { whnf }) (number_i _ _ (by omega) (by omega) (by first | omega | (simp only [List.length_append]; omega))) (by rintro r H' m ⟨rfl, rfl⟩; exact hand_kill (by simp)) (by first | exact (rfl : _ = 0) | exact (rfl : _ = 1) | exact (rfl : _ = 2) | exact (rfl : _ = 3) | exact (rfl : _ = 4) | exact (rfl : _ = 5) | exact (rfl : _ = 6) | exact (rfl : _ = 7) | exact (rfl : _ = 8) | exact (rfl : _ = 9) | exact (rfl : _ = 10) | exact (rfl : _ = 11)) (by conv => lhs; whnf) ?_)
               all_goals (rintro r H' m ⟨rfl, rfl⟩)
               all_goals refine x_tk 9 (opWF_assign) ?_
               all_goals (refine x_assign ?_)
               all_goals exact any_leaf (n := 74) [0, 1] [0, 1, 2, 3, 5, 31, 32, 33, 34, 46, 54, 62] (by kernel_rfl) rfl rfl rfl (.c0 (.c0 (.c0 (.c0 (.c0 (.c0 (.c0 (.c0 (.c0 (.c0 (.c0 (.c0 (.nil))))))))))))) (.c0 (.c0 (.nil))))))
        focus
         all_goals (first | refine x_ld ?_ | refine x_ldr ?_)
         all_goals (
          refine x_all1 2 ?_
          focus
           all_goals (refine op_callA rfl rfl rfl rfl rfl ⟨_, Try.func39, by decide, rfl⟩ (.cons (.pure rfl) (.cons (.pure rfl) .nil)) (number_nil_i _ (by omega) (by omega)) (by rintro r H' m ⟨rfl, rfl⟩; refine ⟨rfl, ?_⟩; simp only [List.mem_singleton]; rintro o rfl; exact AObj.shut_vals (by simp [bytesAV])) ?_)
           all_goals (rintro r H' m ⟨rfl, rfl⟩)
           all_goals (
            refine x_all1 5 ?_
            focus
             all_goals (refine lit_callG [1] [1] rfl rfl rfl rfl rfl ⟨_, Try.func39, by decide, rfl⟩ rfl rfl (.cons (.own (by conv => lhs; whnf)) (.cons (.snap (.pure rfl)) .nil)) rfl (by conv => lhs; whnf; congr; { whnf }; { whnf }) (number_i _ _ (by omega) (by omega) (by first | omega | (simp only [List.length_append]; omega))) (by rintro r H' m ⟨rfl, rfl⟩; exact hand_kill (by simp)) (by first | exact (rfl : _ = 0) | exact (rfl : _ = 1) | exact (rfl : _ = 2) | exact (rfl : _ = 3) | exact (rfl : _ = 4) | exact (rfl : _ = 5) | exact (rfl : _ = 6) | exact (rfl : _ = 7) | exact (rfl : _ = 8) | exact (rfl : _ = 9) | exact (rfl : _ = 10) | exact (rfl : _ = 11)) (by conv => lhs; whnf) ?_)
             all_goals (rintro r H' m ⟨rfl, rfl⟩)
             all_goals (
              refine x_all1 8 ?_
              focus
               all_goals (refine lit_callG [1] [1] rfl rfl rfl rfl rfl ⟨_, Try.func39, by decide, rfl⟩ rfl rfl (.cons (.own (by conv => lhs; whnf)) (.cons (.snap (.pure rfl)) .nil)) rfl (by conv => lhs; whnf; congr; { whnf }; { whnf }) (number_i _ _ (by omega) (by omega) (by first | omega | (simp only [List.length_append]; omega))) (by rintro r H' m ⟨rfl, rfl⟩; exact hand_kill (by simp)) (by first | exact (rfl : _ = 0) | exact (rfl : _ = 1) | exact (rfl : _ = 2) | exact (rfl : _ = 3) | exact (rfl : _ = 4) | exact (rfl : _ = 5) | exact (rfl : _ = 6) | exact (rfl : _ = 7) | exact (rfl : _ = 8) | exact (rfl : _ = 9) | exact (rfl : _ = 10) | exact (rfl : _ = 11)) (by conv => lhs; whnf) ?_)
               all_goals (rintro r H' m ⟨rfl, rfl⟩)
               all_goals refine x_tk 9 (opWF_assign) ?_
               all_goals (refine x_assign ?_)
               all_goals exact any_leaf (n := 74) [0, 1] [0, 1, 2, 3, 5, 31, 32, 33, 34, 46, 54, 62] (by kernel_rfl) rfl rfl rfl (.c0 (.c0 (.c0 (.c0 (.c0 (.c0 (.c0 (.c0 (.c0 (.c0 (.c0 (.c0 (.nil))))))))))))) (.c0 (.c0 (.nil)))))))
      focus
       all_goals (first | refine x_ld ?_ | refine x_ldr ?_)
       all_goals (
        refine x_all2 2 4 ?_ ?_
        focus
         all_goals (refine op_callA rfl rfl rfl rfl rfl ⟨_, Try.func39, by decide, rfl⟩ (.cons (.pure rfl) (.cons (.pure rfl) .nil)) (number_nil_i _ (by omega) (by omega)) (by rintro r H' m ⟨rfl, rfl⟩; refine ⟨rfl, ?_⟩; simp only [List.mem_singleton]; rintro o rfl; exact AObj.shut_vals (by simp [bytesAV])) ?_)
         all_goals (rintro r H' m ⟨rfl, rfl⟩)
         all_goals (
          refine x_all1 4 ?_
          focus
           all_goals (first | refine x_ld ?_ | refine x_ldr ?_)
           all_goals (
            refine x_all1 5 ?_
            focus
             all_goals (refine lit_callG [1] [1] rfl rfl rfl rfl rfl ⟨_, Try.func39, by decide, rfl⟩ rfl rfl (.cons (.own (by conv => lhs; whnf)) (.cons (.snap (.pure rfl)) .nil)) rfl (by conv => lhs; whnf; congr; { whnf }; { whnf }) (number_i _ _ (by omega) (by omega) (by first | omega | (simp only [List.length_append]; omega))) (by rintro r H' m ⟨rfl, rfl⟩; exact hand_kill (by simp)) (by first | exact (rfl : _ = 0) | exact (rfl : _ = 1) | exact (rfl : _ = 2) | exact (rfl : _ = 3) | exact (rfl : _ = 4) | exact (rfl : _ = 5) | exact (rfl : _ = 6) | exact (rfl : _ = 7) | exact (rfl : _ = 8) | exact (rfl : _ = 9) | exact (rfl : _ = 10) | exact (rfl : _ = 11)) (by conv => lhs; whnf) ?_)
             all_goals (rintro r H' m ⟨rfl, rfl⟩)
             all_goals (
              refine x_all1 8 ?_
              focus
               all_goals (refine lit_callG [1] [1] rfl rfl rfl rfl rfl ⟨_, Try.func39, by decide, rfl⟩ rfl rfl (.cons (.own (by conv => lhs; whnf)) (.cons (.snap (.pure rfl)) .nil)) rfl (by conv => lhs; whnf; congr; { whnf }; { whnf }) (number_i _ _ (by omega) (by omega) (by first | omega | (simp only [List.length_append]; omega))) (by rintro r H' m ⟨rfl, rfl⟩; exact hand_kill (by simp)) (by first | exact (rfl : _ = 0) | exact (rfl : _ = 1) | exact (rfl : _ = 2) | exact (rfl : _ = 3) | exact (rfl : _ = 4) | exact (rfl : _ = 5) | exact (rfl : _ = 6) | exact (rfl : _ = 7) | exact (rfl : _ = 8) | exact (rfl : _ = 9) | exact (rfl : _ = 10) | exact (rfl : _ = 11)) (by conv => lhs; whnf) ?_)
               all_goals (rintro r H' m ⟨rfl, rfl⟩)
               all_goals refine x_tk 9 (opWF_assign) ?_
               all_goals (refine x_assign ?_)
               all_goals exact any_leaf (n := 74) [0, 1] [0, 1, 2, 3, 5, 31, 32, 33, 34, 46, 54, 62] (by kernel_rfl) rfl rfl rfl (.c0 (.c0 (.c0 (.c0 (.c0 (.c0 (.c0 (.c0 (.c0 (.c0 (.c0 (.c0 (.nil))))))))))))) (.c0 (.c0 (.nil))))))
        focus
         all_goals (first | refine x_ld ?_ | refine x_ldr ?_)
         all_goals (
          refine x_all1 2 ?_
          focus
           all_goals (refine op_callA rfl rfl rfl rfl rfl ⟨_, Try.func39, by decide, rfl⟩ (.cons (.pure rfl) (.cons (.pure rfl) .nil)) (number_nil_i _ (by omega) (by omega)) (by rintro r H' m ⟨rfl, rfl⟩; refine ⟨rfl, ?_⟩; simp only [List.mem_singleton]; rintro o rfl; exact AObj.shut_vals (by simp [bytesAV])) ?_)
           all_goals (rintro r H' m ⟨rfl, rfl⟩)
           all_goals (
            refine x_all1 5 ?_
            focus
             all_goals (refine lit_callG [1] [1] rfl rfl rfl rfl rfl ⟨_, Try.func39, by decide, rfl⟩ rfl rfl (.cons (.own (by conv => lhs; whnf)) (.cons (.snap (.pure rfl)) .nil)) rfl (by conv => lhs; whnf; congr; { whnf }; { whnf }) (number_i _ _ (by omega) (by omega) (by first | omega | (simp only [List.length_append]; omega))) (by rintro r H' m ⟨rfl, rfl⟩; exact hand_kill (by simp)) (by first | exact (rfl : _ = 0) | exact (rfl : _ = 1) | exact (rfl : _ = 2) | exact (rfl : _ = 3) | exact (rfl : _ = 4) | exact (rfl : _ = 5) | exact (rfl : _ = 6) | exact (rfl : _ = 7) | exact (rfl : _ = 8) | exact (rfl : _ = 9) | exact (rfl : _ = 10) | exact (rfl : _ = 11)) (by conv => lhs; whnf) ?_)
             all_goals (rintro r H' m ⟨rfl, rfl⟩)
             all_goals (
              refine x_all1 8 ?_
              focus
               all_goals (refine lit_callG [1] [1] rfl rfl rfl rfl rfl ⟨_, Try.func39, by decide, rfl⟩ rfl rfl (.cons (.own (by conv => lhs; whnf)) (.cons (.snap (.pure rfl)) .nil)) rfl (by conv => lhs; whnf; congr; { whnf }; { whnf }) (number_i _ _ (by omega) (by omega) (by first | omega | (simp only [List.length_append]; omega))) (by rintro r H' m ⟨rfl, rfl⟩; exact hand_kill (by simp)) (by first | exact (rfl : _ = 0) | exact (rfl : _ = 1) | exact (rfl : _ = 2) | exact (rfl : _ = 3) | exact (rfl : _ = 4) | exact (rfl : _ = 5) | exact (rfl : _ = 6) | exact (rfl : _ = 7) | exact (rfl : _ = 8) | exact (rfl : _ = 9) | exact (rfl : _ = 10) | exact (rfl : _ = 11)) (by conv => lhs; whnf) ?_)
               all_goals (rintro r H' m ⟨rfl, rfl⟩)
               all_goals refine x_tk 9 (opWF_assign) ?_
               all_goals (refine x_assign ?_)
               all_goals exact any_leaf (n := 74) [0, 1] [0, 1, 2, 3, 5, 31, 32, 33, 34, 46, 54, 62] (by kernel_rfl) rfl rfl rfl (.c0 (.c0 (.c0 (.c0 (.c0 (.c0 (.c0 (.c0 (.c0 (.c0 (.c0 (.c0 (.nil))))))))))))) (.c0 (.c0 (.nil))))))))
    focus
     all_goals (first | refine x_ld ?_ | refine x_ldr ?_)
     all_goals (
      refine x_all2 1 7 ?_ ?_
      focus
       all_goals (first | refine x_ld ?_ | refine x_ldr ?_)
       all_goals (
        refine x_all2 2 7 ?_ ?_
        focus
         all_goals (refine op_callA rfl rfl rfl rfl rfl ⟨_, Try.func39, by decide, rfl⟩ (.cons (.pure rfl) (.cons (.pure rfl) .nil)) (number_nil_i _ (by omega) (by omega)) (by rintro r H' m ⟨rfl, rfl⟩; refine ⟨rfl, ?_⟩; simp only [List.mem_singleton]; rintro o rfl; exact AObj.shut_vals (by simp [bytesAV])) ?_)
         all_goals (rintro r H' m ⟨rfl, rfl⟩)
         all_goals (
          refine x_all2 5 7 ?_ ?_
          focus
           all_goals (refine lit_callG [1] [1] rfl rfl rfl rfl rfl ⟨_, Try.func39, by decide, rfl⟩ rfl rfl (.cons (.own (by conv => lhs; whnf)) (.cons (.snap (.pure rfl)) .nil)) rfl (by conv => lhs; whnf; congr; { whnf }; { whnf }) (number_i _ _ (by omega) (by omega) (by first | omega | (simp only [List.length_append]; omega))) (by rintro r H' m ⟨rfl, rfl⟩; exact hand_kill (by simp)) (by first | exact (rfl : _ = 0) | exact (rfl : _ = 1) | exact (rfl : _ = 2) | exact (rfl : _ = 3) | exact (rfl : _ = 4) | exact (rfl : _ = 5) | exact (rfl : _ = 6) | exact (rfl : _ = 7) | exact (rfl : _ = 8) | exact (rfl : _ = 9) | exact (rfl : _ = 10) | exact (rfl : _ = 11)) (by conv => lhs; whnf) ?_)
           all_goals (rintro r H' m ⟨rfl, rfl⟩)
           all_goals (
            refine x_all1 7 ?_
            focus
             all_goals (first | refine x_ld ?_ | refine x_ldr ?_)
             all_goals (
              refine x_all1 8 ?_
              focus
               all_goals (refine lit_callG [1] [1] rfl rfl rfl rfl rfl ⟨_, Try.func39, by decide, rfl⟩ rfl rfl (.cons (.own (by conv => lhs; whnf)) (.cons (.snap (.pure rfl)) .nil)) rfl (by conv => lhs; whnf; congr; { whnf }; { whnf }) (number_i _ _ (by omega) (by omega) (by first | omega | (simp only [List.length_append]; omega))) (by rintro r H' m ⟨rfl, rfl⟩; exact hand_kill (by simp)) (by first | exact (rfl : _ = 0) | exact (rfl : _ = 1) | exact (rfl : _ = 2) | exact (rfl : _ = 3) | exact (rfl : _ = 4) | exact (rfl : _ = 5) | exact (rfl : _ = 6) | exact (rfl : _ = 7) | exact (rfl : _ = 8) | exact (rfl : _ = 9) | exact (rfl : _ = 10) | exact (rfl : _ = 11)) (by conv => lhs; whnf) ?_)
               all_goals (rintro r H' m ⟨rfl, rfl⟩)
               all_goals refine x_tk 9 (opWF_assign) ?_
               all_goals (refine x_assign ?_)
               all_goals exact any_leaf (n := 74) [0, 1] [0, 1, 2, 3, 5, 31, 32, 33, 34, 46, 54, 62] (by kernel_rfl) rfl rfl rfl (.c0 (.c0 (.c0 (.c0 (.c0 (.c0 (.c0 (.c0 (.c0 (.c0 (.c0 (.c0 (.nil))))))))))))) (.c0 (.c0 (.nil)))))
          focus
           all_goals (first | refine x_ld ?_ | refine x_ldr ?_)
           all_goals (
            refine x_all1 5 ?_
            focus
             all_goals (refine lit_callG [1] [1] rfl rfl rfl rfl rfl ⟨_, Try.func39, by decide, rfl⟩ rfl rfl (.cons (.own (by conv => lhs; whnf)) (.cons (.snap (.pure rfl)) .nil)) rfl (by conv => lhs; whnf; congr; { whnf }; { whnf }) (number_i _ _ (by omega) (by omega) (by first | omega | (simp only [List.length_append]; omega))) (by rintro r H' m ⟨rfl, rfl⟩; exact hand_kill (by simp)) (by first | exact (rfl : _ = 0) | exact (rfl : _ = 1) | exact (rfl : _ = 2) | exact (rfl : _ = 3) | exact (rfl : _ = 4) | exact (rfl : _ = 5) | exact (rfl : _ = 6) | exact (rfl : _ = 7) | exact (rfl : _ = 8) | exact (rfl : _ = 9) | exact (rfl : _ = 10) | exact (rfl : _ = 11)) (by conv => lhs; whnf) ?_)
             all_goals (rintro r H' m ⟨rfl, rfl⟩)
             all_goals (
              refine x_all1 8 ?_
              focus
               all_goals (refine lit_callG [1] [1] rfl rfl rfl rfl rfl ⟨_, Try.func39, by decide, rfl⟩ rfl rfl (.cons (.own (by conv => lhs; whnf)) (.cons (.snap (.pure rfl)) .nil)) rfl (by conv => lhs; whnf; congr; { whnf }; { whnf }) (number_i _ _ (by omega) (by omega) (by first | omega | (simp only [List.length_append]; omega))) (by rintro r H' m ⟨rfl, rfl⟩; exact hand_kill (by simp)) (by first | exact (rfl : _ = 0) | exact (rfl : _ = 1) | exact (rfl : _ = 2) | exact (rfl : _ = 3) | exact (rfl : _ = 4) | exact (rfl : _ = 5) | exact (rfl : _ = 6) | exact (rfl : _ = 7) | exact (rfl : _ = 8) | exact (rfl : _ = 9) | exact (rfl : _ = 10) | exact (rfl : _ = 11)) (by conv => lhs; whnf) ?_)
               all_goals (rintro r H' m ⟨rfl, rfl⟩)
               all_goals refine x_tk 9 (opWF_assign) ?_
               all_goals (refine x_assign ?_)
               all_goals exact any_leaf (n := 74) [0, 1] [0, 1, 2, 3, 5, 31, 32, 33, 34, 46, 54, 62] (by kernel_rfl) rfl rfl rfl (.c0 (.c0 (.c0 (.c0 (.c0 (.c0 (.c0 (.c0 (.c0 (.c0 (.c0 (.c0 (.nil))))))))))))) (.c0 (.c0 (.nil))))))
        focus
         all_goals (first | refine x_ld ?_ | refine x_ldr ?_)
         all_goals (
          refine x_all1 2 ?_
          focus
           all_goals (refine op_callA rfl rfl rfl rfl rfl ⟨_, Try.func39, by decide, rfl⟩ (.cons (.pure rfl) (.cons (.pure rfl) .nil)) (number_nil_i _ (by omega) (by omega)) (by rintro r H' m ⟨rfl, rfl⟩; refine ⟨rfl, ?_⟩; simp only [List.mem_singleton]; rintro o rfl; exact AObj.shut_vals (by simp [bytesAV])) ?_)
           all_goals (rintro r H' m ⟨rfl, rfl⟩)
           all_goals (
            refine x_all1 5 ?_
            focus
             all_goals (refine lit_callG [1] [1] rfl rfl rfl rfl rfl ⟨_, Try.func39, by decide, rfl⟩ rfl rfl (.cons (.own (by conv => lhs; whnf)) (.cons (.snap (.pure rfl)) .nil)) rfl (by conv => lhs; whnf; congr; { whnf }; { whnf }) (number_i _ _ (by omega) (by omega) (by first | omega | (simp only [List.length_append]; omega))) (by rintro r H' m ⟨rfl, rfl⟩; exact hand_kill (by simp)) (by first | exact (rfl : _ = 0) | exact (rfl : _ = 1) | exact (rfl : _ = 2) | exact (rfl : _ = 3) | exact (rfl : _ = 4) | exact (rfl : _ = 5) | exact (rfl : _ = 6) | exact (rfl : _ = 7) | exact (rfl : _ = 8) | exact (rfl : _ = 9) | exact (rfl : _ = 10) | exact (rfl : _ = 11)) (by conv => lhs; whnf) ?_)
             all_goals (rintro r H' m ⟨rfl, rfl⟩)
             all_goals (
              refine x_all1 8 ?_
              focus
               all_goals (refine lit_callG [1] [1] rfl rfl rfl rfl rfl ⟨_, Try.func39, by decide, rfl⟩ rfl rfl (.cons (.own (by conv => lhs; whnf)) (.cons (.snap (.pure rfl)) .nil)) rfl (by conv => lhs; whnf; congr; { whnf }; { whnf }) (number_i _ _ (by omega) (by omega) (by first | omega | (simp only [List.length_append]; omega))) (by rintro r H' m ⟨rfl, rfl⟩; exact hand_kill (by simp)) (by first | exact (rfl : _ = 0) | exact (rfl : _ = 1) | exact (rfl : _ = 2) | exact (rfl : _ = 3) | exact (rfl : _ = 4) | exact (rfl : _ = 5) | exact (rfl : _ = 6) | exact (rfl : _ = 7) | exact (rfl : _ = 8) | exact (rfl : _ = 9) | exact (rfl : _ = 10) | exact (rfl : _ = 11)) (by conv => lhs; whnf) ?_)
               all_goals (rintro r H' m ⟨rfl, rfl⟩)
               all_goals refine x_tk 9 (opWF_assign) ?_
               all_goals (refine x_assign ?_)
               all_goals exact any_leaf (n := 74) [0, 1] [0, 1, 2, 3, 5, 31, 32, 33, 34, 46, 54, 62] (by kernel_rfl) rfl rfl rfl (.c0 (.c0 (.c0 (.c0 (.c0 (.c0 (.c0 (.c0 (.c0 (.c0 (.c0 (.c0 (.nil))))))))))))) (.c0 (.c0 (.nil)))))))
      focus
       all_goals (first | refine x_ld ?_ | refine x_ldr ?_)
       all_goals (
        refine x_all1 1 ?_
        focus
         all_goals (first | refine x_ld ?_ | refine x_ldr ?_)
         all_goals (
          refine x_all1 2 ?_
          focus
           all_goals (refine op_callA rfl rfl rfl rfl rfl ⟨_, Try.func39, by decide, rfl⟩ (.cons (.pure rfl) (.cons (.pure rfl) .nil)) (number_nil_i _ (by omega) (by omega)) (by rintro r H' m ⟨rfl, rfl⟩; refine ⟨rfl, ?_⟩; simp only [List.mem_singleton]; rintro o rfl; exact AObj.shut_vals (by simp [bytesAV])) ?_)
           all_goals (rintro r H' m ⟨rfl, rfl⟩)
           all_goals (
            refine x_all1 5 ?_
            focus
             all_goals (refine lit_callG [1] [1] rfl rfl rfl rfl rfl ⟨_, Try.func39, by decide, rfl⟩ rfl rfl (.cons (.own (by conv => lhs; whnf)) (.cons (.snap (.pure rfl)) .nil)) rfl (by conv => lhs; whnf; congr; { whnf }; { whnf }) (number_i _ _ (by omega) (by omega) (by first | omega | (simp only [List.length_append]; omega))) (by rintro r H' m ⟨rfl, rfl⟩; exact hand_kill (by simp)) (by first | exact (rfl : _ = 0) | exact (rfl : _ = 1) | exact (rfl : _ = 2) | exact (rfl : _ = 3) | exact (rfl : _ = 4) | exact (rfl : _ = 5) | exact (rfl : _ = 6) | exact (rfl : _ = 7) | exact (rfl : _ = 8) | exact (rfl : _ = 9) | exact (rfl : _ = 10) | exact (rfl : _ = 11)) (by conv => lhs; whnf) ?_)
             all_goals (rintro r H' m ⟨rfl, rfl⟩)
             all_goals (
              refine x_all1 8 ?_
              focus
               all_goals (refine lit_callG [1] [1] rfl rfl rfl rfl rfl ⟨_, Try.func39, by decide, rfl⟩ rfl rfl (.cons (.own (by conv => lhs; whnf)) (.cons (.snap (.pure rfl)) .nil)) rfl (by conv => lhs; whnf; congr; { whnf }; { whnf }) (number_i _ _ (by omega) (by omega) (by first | omega | (simp only [List.length_append]; omega))) (by rintro r H' m ⟨rfl, rfl⟩; exact hand_kill (by simp)) (by first | exact (rfl : _ = 0) | exact (rfl : _ = 1) | exact (rfl : _ = 2) | exact (rfl : _ = 3) | exact (rfl : _ = 4) | exact (rfl : _ = 5) | exact (rfl : _ = 6) | exact (rfl : _ = 7) | exact (rfl : _ = 8) | exact (rfl : _ = 9) | exact (rfl : _ = 10) | exact (rfl : _ = 11)) (by conv => lhs; whnf) ?_)
               all_goals (rintro r H' m ⟨rfl, rfl⟩)
               all_goals refine x_tk 9 (opWF_assign) ?_
               all_goals (refine x_assign ?_)
               all_goals exact any_leaf (n := 74) [0, 1] [0, 1, 2, 3, 5, 31, 32, 33, 34, 46, 54, 62] (by kernel_rfl) rfl rfl rfl (.c0 (.c0 (.c0 (.c0 (.c0 (.c0 (.c0 (.c0 (.c0 (.c0 (.c0 (.c0 (.nil))))))))))))) (.c0 (.c0 (.nil))))))))
    focus
     all_goals (first | refine x_ld ?_ | refine x_ldr ?_)
     all_goals (
      refine x_all2 1 4 ?_ ?_
      focus
       all_goals (first | refine x_ld ?_ | refine x_ldr ?_)
       all_goals (
        refine x_all2 2 4 ?_ ?_
        focus
         all_goals (refine op_callA rfl rfl rfl rfl rfl ⟨_, Try.func39, by decide, rfl⟩ (.cons (.pure rfl) (.cons (.pure rfl) .nil)) (number_nil_i _ (by omega) (by omega)) (by rintro r H' m ⟨rfl, rfl⟩; refine ⟨rfl, ?_⟩; simp only [List.mem_singleton]; rintro o rfl; exact AObj.shut_vals (by simp [bytesAV])) ?_)
         all_goals (rintro r H' m ⟨rfl, rfl⟩)
         all_goals (
          refine x_all1 4 ?_
          focus
           all_goals (first | refine x_ld ?_ | refine x_ldr ?_)
           all_goals (
            refine x_all1 5 ?_
            focus
             all_goals (refine lit_callG [1] [1] rfl rfl rfl rfl rfl ⟨_, Try.func39, by decide, rfl⟩ rfl rfl (.cons (.own (by conv => lhs; whnf)) (.cons (.snap (.pure rfl)) .nil)) rfl (by conv => lhs; whnf; congr; { whnf }; { whnf }) (number_i _ _ (by omega) (by omega) (by first | omega | (simp only [List.length_append]; omega))) (by rintro r H' m ⟨rfl, rfl⟩; exact hand_kill (by simp)) (by first | exact (rfl : _ = 0) | exact (rfl : _ = 1) | exact (rfl : _ = 2) | exact (rfl : _ = 3) | exact (rfl : _ = 4) | exact (rfl : _ = 5) | exact (rfl : _ = 6) | exact (rfl : _ = 7) | exact (rfl : _ = 8) | exact (rfl : _ = 9) | exact (rfl : _ = 10) | exact (rfl : _ = 11)) (by conv => lhs; whnf) ?_)
             all_goals (rintro r H' m ⟨rfl, rfl⟩)
             all_goals (
              refine x_all1 8 ?_
              focus
               all_goals (refine lit_callG [1] [1] rfl rfl rfl rfl rfl ⟨_, Try.func39, by decide, rfl⟩ rfl rfl (.cons (.own (by conv => lhs; whnf)) (.cons (.snap (.pure rfl)) .nil)) rfl (by conv => lhs; whnf; congr; { whnf }; { whnf }) (number_i _ _ (by omega) (by omega) (by first | omega | (simp only [List.length_append]; omega))) (by rintro r H' m ⟨rfl, rfl⟩; exact hand_kill (by simp)) (by first | exact (rfl : _ = 0) | exact (rfl : _ = 1) | exact (rfl : _ = 2) | exact (rfl : _ = 3) | exact (rfl : _ = 4) | exact (rfl : _ = 5) | exact (rfl : _ = 6) | exact (rfl : _ = 7) | exact (rfl : _ = 8) | exact (rfl : _ = 9) | exact (rfl : _ = 10) | exact (rfl : _ = 11)) (by conv => lhs; whnf) ?_)
               all_goals (rintro r H' m ⟨rfl, rfl⟩)
               all_goals refine x_tk 9 (opWF_assign) ?_
               all_goals (refine x_assign ?_)
               all_goals exact any_leaf (n := 74) [0, 1] [0, 1, 2, 3, 5, 31, 32, 33, 34, 46, 54, 62] (by kernel_rfl) rfl rfl rfl (.c0 (.c0 (.c0 (.c0 (.c0 (.c0 (.c0 (.c0 (.c0 (.c0 (.c0 (.c0 (.nil))))))))))))) (.c0 (.c0 (.nil))))))
        focus
         all_goals (first | refine x_ld ?_ | refine x_ldr ?_)
         all_goals (
          refine x_all1 2 ?_
          focus
           all_goals (refine op_callA rfl rfl rfl rfl rfl ⟨_, Try.func39, by decide, rfl⟩ (.cons (.pure rfl) (.cons (.pure rfl) .nil)) (number_nil_i _ (by omega) (by omega)) (by rintro r H' m ⟨rfl, rfl⟩; refine ⟨rfl, ?_⟩; simp only [List.mem_singleton]; rintro o rfl; exact AObj.shut_vals (by simp [bytesAV])) ?_)
           all_goals (rintro r H' m ⟨rfl, rfl⟩)
           all_goals (
            refine x_all1 5 ?_
            focus
             all_goals (refine lit_callG [1] [1] rfl rfl rfl rfl rfl ⟨_, Try.func39, by decide, rfl⟩ rfl rfl (.cons (.own (by conv => lhs; whnf)) (.cons (.snap (.pure rfl)) .nil)) rfl (by conv => lhs; whnf; congr; { whnf }; { whnf }) (number_i _ _ (by omega) (by omega) (by first | omega | (simp only [List.length_append]; omega))) (by rintro r H' m ⟨rfl, rfl⟩; exact hand_kill (by simp)) (by first | exact (rfl : _ = 0) | exact (rfl : _ = 1) | exact (rfl : _ = 2) | exact (rfl : _ = 3) | exact (rfl : _ = 4) | exact (rfl : _ = 5) | exact (rfl : _ = 6) | exact (rfl : _ = 7) | exact (rfl : _ = 8) | exact (rfl : _ = 9) | exact (rfl : _ = 10) | exact (rfl : _ = 11)) (by conv => lhs; whnf) ?_)
             all_goals (rintro r H' m ⟨rfl, rfl⟩)
             all_goals (
              refine x_all1 8 ?_
              focus
               all_goals (refine lit_callG [1] [1] rfl rfl rfl rfl rfl ⟨_, Try.func39, by decide, rfl⟩ rfl rfl (.cons (.own (by conv => lhs; whnf)) (.cons (.snap (.pure rfl)) .nil)) rfl (by conv => lhs; whnf; congr; { whnf }; { whnf }) (number_i _ _ (by omega) (by omega) (by first | omega | (simp only [List.length_append]; omega))) (by rintro r H' m ⟨rfl, rfl⟩; exact hand_kill (by simp)) (by first | exact (rfl : _ = 0) | exact (rfl : _ = 1) | exact (rfl : _ = 2) | exact (rfl : _ = 3) | exact (rfl : _ = 4) | exact (rfl : _ = 5) | exact (rfl : _ = 6) | exact (rfl : _ = 7) | exact (rfl : _ = 8) | exact (rfl : _ = 9) | exact (rfl : _ = 10) | exact (rfl : _ = 11)) (by conv => lhs; whnf) ?_)
               all_goals (rintro r H' m ⟨rfl, rfl⟩)
               all_goals refine x_tk 9 (opWF_assign) ?_
               all_goals (refine x_assign ?_)
               all_goals exact any_leaf (n := 74) [0, 1] [0, 1, 2, 3, 5, 31, 32, 33, 34, 46, 54, 62] (by kernel_rfl) rfl rfl rfl (.c0 (.c0 (.c0 (.c0 (.c0 (.c0 (.c0 (.c0 (.c0 (.c0 (.c0 (.c0 (.nil))))))))))))) (.c0 (.c0 (.nil)))))))
      focus
       all_goals (first | refine x_ld ?_ | refine x_ldr ?_)
       all_goals (
        refine x_all1 1 ?_
        focus
         all_goals (first | refine x_ld ?_ | refine x_ldr ?_)
         all_goals (
          refine x_all1 2 ?_
          focus
           all_goals (refine op_callA rfl rfl rfl rfl rfl ⟨_, Try.func39, by decide, rfl⟩ (.cons (.pure rfl) (.cons (.pure rfl) .nil)) (number_nil_i _ (by omega) (by omega)) (by rintro r H' m ⟨rfl, rfl⟩; refine ⟨rfl, ?_⟩; simp only [List.mem_singleton]; rintro o rfl; exact AObj.shut_vals (by simp [bytesAV])) ?_)
           all_goals (rintro r H' m ⟨rfl, rfl⟩)
           all_goals (
            refine x_all1 5 ?_
            focus
             all_goals (refine lit_callG [1] [1] rfl rfl rfl rfl rfl ⟨_, Try.func39, by decide, rfl⟩ rfl rfl (.cons (.own (by conv => lhs; whnf)) (.cons (.snap (.pure rfl)) .nil)) rfl (by conv => lhs; whnf; congr; { whnf }; { whnf }) (number_i _ _ (by omega) (by omega) (by first | omega | (simp only [List.length_append]; omega))) (by rintro r H' m ⟨rfl, rfl⟩; exact hand_kill (by simp)) (by first | exact (rfl : _ = 0) | exact (rfl : _ = 1) | exact (rfl : _ = 2) | exact (rfl : _ = 3) | exact (rfl : _ = 4) | exact (rfl : _ = 5) | exact (rfl : _ = 6) | exact (rfl : _ = 7) | exact (rfl : _ = 8) | exact (rfl : _ = 9) | exact (rfl : _ = 10) | exact (rfl : _ = 11)) (by conv => lhs; whnf) ?_)
             all_goals (rintro r H' m ⟨rfl, rfl⟩)
             all_goals (
              refine x_all1 8 ?_
              focus
               all_goals (refine lit_callG [1] [1] rfl rfl rfl rfl rfl ⟨_, Try.func39, by decide, rfl⟩ rfl rfl (.cons (.own (by conv => lhs; whnf)) (.cons (.snap (.pure rfl)) .nil)) rfl (by conv => lhs; whnf; congr; { whnf }; { whnf }) (number_i _ _ (by omega) (by omega) (by first | omega | (simp only [List.length_append]; omega))) (by rintro r H' m ⟨rfl, rfl⟩; exact hand_kill (by simp)) (by first | exact (rfl : _ = 0) | exact (rfl : _ = 1) | exact (rfl : _ = 2) | exact (rfl : _ = 3) | exact (rfl : _ = 4) | exact (rfl : _ = 5) | exact (rfl : _ = 6) | exact (rfl : _ = 7) | exact (rfl : _ = 8) | exact (rfl : _ = 9) | exact (rfl : _ = 10) | exact (rfl : _ = 11)) (by conv => lhs; whnf) ?_)
               all_goals (rintro r H' m ⟨rfl, rfl⟩)
               all_goals refine x_tk 9 (opWF_assign) ?_
               all_goals (refine x_assign ?_)
               all_goals exact any_leaf (n := 74) [0, 1] [0, 1, 2, 3, 5, 31, 32, 33, 34, 46, 54, 62] (by kernel_rfl) rfl rfl rfl (.c0 (.c0 (.c0 (.c0 (.c0 (.c0 (.c0 (.c0 (.c0 (.c0 (.c0 (.c0 (.nil))))))))))))) (.c0 (.c0 (.nil))))))))))
 all_goals refine seqQ_n ?_
 all_goals refine tri_seq ?_
 all_goals (
  apply tri_anyCut (by rfl)
  focus
   all_goals refine x_tk 0 (opWF_move) ?_
   all_goals (refine x_move ?_)
   all_goals refine x_tk 1 (opWF_fieldAddr rfl rfl rfl) ?_
   all_goals (first | refine x_fa0 ?_ | refine x_far0 ?_ | refine x_fa ?_ | refine x_far ?_)
   all_goals refine x_tk 4 (opWF_fieldAddr rfl rfl rfl) ?_
   all_goals (first | refine x_fa0 ?_ | refine x_far0 ?_ | refine x_fa ?_ | refine x_far ?_)
   all_goals refine x_tk 7 (opWF_fieldAddr rfl rfl rfl) ?_
   all_goals (first | refine x_fa0 ?_ | refine x_far0 ?_ | refine x_fa ?_ | refine x_far ?_)
   all_goals (
    refine x_all3 2 5 8 ?_ ?_ ?_
    focus
     all_goals (first | refine x_ld ?_ | refine x_ldr ?_)
     all_goals (
      refine x_all3 3 5 8 ?_ ?_ ?_
      focus
       all_goals (refine lit_callG [1] [1] rfl rfl rfl rfl rfl ⟨_, Try.func42, by decide, rfl⟩ rfl rfl (.cons (.own (by conv => lhs; whnf)) (.cons (.snap (.pure rfl)) .nil)) rfl (by conv => lhs; whnf; congr; { whnf }; { whnf }) (text_w _ _ (by omega) (by first | omega | (simp only [List.length_append]; omega))) (by rintro r H' m ⟨rfl, rfl⟩; exact hand_kill (by simp)) (by first | exact (rfl : _ = 0) | exact (rfl : _ = 1) | exact (rfl : _ = 2) | exact (rfl : _ = 3) | exact (rfl : _ = 4) | exact (rfl : _ = 5) | exact (rfl : _ = 6) | exact (rfl : _ = 7) | exact (rfl : _ = 8) | exact (rfl : _ = 9) | exact (rfl : _ = 10) | exact (rfl : _ = 11)) (by conv => lhs; whnf) ?_)
       all_goals (rintro r H' m ⟨rfl, rfl⟩)
       all_goals (
        refine x_all2 5 8 ?_ ?_
        focus
         all_goals (first | refine x_ld ?_ | refine x_ldr ?_)
         all_goals (
          refine x_all2 6 8 ?_ ?_
          focus
           all_goals (refine lit_callG [1] [1] rfl rfl rfl rfl rfl ⟨_, Try.func42, by decide, rfl⟩ rfl rfl (.cons (.own (by conv => lhs; whnf)) (.cons (.snap (.pure rfl)) .nil)) rfl (by conv => lhs; whnf; congr; { whnf }; { whnf }) (text_w _ _ (by omega) (by first | omega | (simp only [List.length_append]; omega))) (by rintro r H' m ⟨rfl, rfl⟩; exact hand_kill (by simp)) (by first | exact (rfl : _ = 0) | exact (rfl : _ = 1) | exact (rfl : _ = 2) | exact (rfl : _ = 3) | exact (rfl : _ = 4) | exact (rfl : _ = 5) | exact (rfl : _ = 6) | exact (rfl : _ = 7) | exact (rfl : _ = 8) | exact (rfl : _ = 9) | exact (rfl : _ = 10) | exact (rfl : _ = 11)) (by conv => lhs; whnf) ?_)
           all_goals (rintro r H' m ⟨rfl, rfl⟩)
           all_goals (
            refine x_all1 8 ?_
            focus
             all_goals (first | refine x_ld ?_ | refine x_ldr ?_)
             all_goals (
              refine x_all1 9 ?_
              focus
               all_goals (refine lit_callG [1] [1] rfl rfl rfl rfl rfl ⟨_, Try.func42, by decide, rfl⟩ rfl rfl (.cons (.own (by conv => lhs; whnf)) (.cons (.snap (.pure rfl)) .nil)) rfl (by conv => lhs; whnf; congr; { whnf }; { whnf }) (text_w _ _ (by omega) (by first | omega | (simp only [List.length_append]; omega))) (by rintro r H' m ⟨rfl, rfl⟩; exact hand_kill (by simp)) (by first | exact (rfl : _ = 0) | exact (rfl : _ = 1) | exact (rfl : _ = 2) | exact (rfl : _ = 3) | exact (rfl : _ = 4) | exact (rfl : _ = 5) | exact (rfl : _ = 6) | exact (rfl : _ = 7) | exact (rfl : _ = 8) | exact (rfl : _ = 9) | exact (rfl : _ = 10) | exact (rfl : _ = 11)) (by conv => lhs; whnf) ?_)
               all_goals (rintro r H' m ⟨rfl, rfl⟩)
               all_goals refine x_tk 10 (opWF_assign) ?_
               all_goals (refine x_assign ?_)
               all_goals exact any_leaf (n := 74) [0, 1] [0, 1, 2, 3, 5, 31, 32, 33, 34, 46, 54, 62] (by kernel_rfl) rfl rfl rfl (.c0 (.c0 (.c0 (.c0 (.c0 (.c0 (.c0 (.c0 (.c0 (.c0 (.c0 (.c0 (.nil))))))))))))) (.c0 (.c0 (.nil)))))
          focus
           all_goals (first | refine x_ld ?_ | refine x_ldr ?_)
           all_goals (
            refine x_all1 6 ?_
            focus
             all_goals (refine lit_callG [1] [1] rfl rfl rfl rfl rfl ⟨_, Try.func42, by decide, rfl⟩ rfl rfl (.cons (.own (by conv => lhs; whnf)) (.cons (.snap (.pure rfl)) .nil)) rfl (by conv => lhs; whnf; congr; { whnf }; { whnf }) (text_w _ _ (by omega) (by first | omega | (simp only [List.length_append]; omega))) (by rintro r H' m ⟨rfl, rfl⟩; exact hand_kill (by simp)) (by first | exact (rfl : _ = 0) | exact (rfl : _ = 1) | exact (rfl : _ = 2) | exact (rfl : _ = 3) | exact (rfl : _ = 4) | exact (rfl : _ = 5) | exact (rfl : _ = 6) | exact (rfl : _ = 7) | exact (rfl : _ = 8) | exact (rfl : _ = 9) | exact (rfl : _ = 10) | exact (rfl : _ = 11)) (by conv => lhs; whnf) ?_)
             all_goals (rintro r H' m ⟨rfl, rfl⟩)
             all_goals (
              refine x_all1 9 ?_
              focus
               all_goals (refine lit_callG [1] [1] rfl rfl rfl rfl rfl ⟨_, Try.func42, by decide, rfl⟩ rfl rfl (.cons (.own (by conv => lhs; whnf)) (.cons (.snap (.pure rfl)) .nil)) rfl (by conv => lhs; whnf; congr; { whnf }; { whnf }) (text_w _ _ (by omega) (by first | omega | (simp only [List.length_append]; omega))) (by rintro r H' m ⟨rfl, rfl⟩; exact hand_kill (by simp)) (by first | exact (rfl : _ = 0) | exact (rfl : _ = 1) | exact (rfl : _ = 2) | exact (rfl : _ = 3) | exact (rfl : _ = 4) | exact (rfl : _ = 5) | exact (rfl : _ = 6) | exact (rfl : _ = 7) | exact (rfl : _ = 8) | exact (rfl : _ = 9) | exact (rfl : _ = 10) | exact (rfl : _ = 11)) (by conv => lhs; whnf) ?_)
               all_goals (rintro r H' m ⟨rfl, rfl⟩)
               all_goals refine x_tk 10 (opWF_assign) ?_
               all_goals (refine x_assign ?_)
               all_goals exact any_leaf (n := 74) [0, 1] [0, 1, 2, 3, 5, 31, 32, 33, 34, 46, 54, 62] (by kernel_rfl) rfl rfl rfl (.c0 (.c0 (.c0 (.c0 (.c0 (.c0 (.c0 (.c0 (.c0 (.c0 (.c0 (.c0 (.nil))))))))))))) (.c0 (.c0 (.nil))))))
        focus
         all_goals (first | refine x_ld ?_ | refine x_ldr ?_)
         all_goals (
          refine x_all1 5 ?_
          focus
           all_goals (first | refine x_ld ?_ | refine x_ldr ?_)
           all_goals (
            refine x_all1 6 ?_
            focus
             all_goals (refine lit_callG [1] [1] rfl rfl rfl rfl rfl ⟨_, Try.func42, by decide, rfl⟩ rfl rfl (.cons (.own (by conv => lhs; whnf)) (.cons (.snap (.pure rfl)) .nil)) rfl (by conv => lhs; whnf; congr; { whnf }; { whnf }) (text_w _ _ (by omega) (by first | omega | (simp only [List.length_append]; omega))) (by rintro r H' m ⟨rfl, rfl⟩; exact hand_kill (by simp)) (by first | exact (rfl : _ = 0) | exact (rfl : _ = 1) | exact (rfl : _ = 2) | exact (rfl : _ = 3) | exact (rfl : _ = 4) | exact (rfl : _ = 5) | exact (rfl : _ = 6) | exact (rfl : _ = 7) | exact (rfl : _ = 8) | exact (rfl : _ = 9) | exact (rfl : _ = 10) | exact (rfl : _ = 11)) (by conv => lhs; whnf) ?_)
             all_goals (rintro r H' m ⟨rfl, rfl⟩)
             all_goals (
              refine x_all1 9 ?_
              focus
               all_goals (refine lit_callG [1] [1] rfl rfl rfl rfl rfl ⟨_, Try.func42, by decide, rfl⟩ rfl rfl (.cons (.own (by conv => lhs; whnf)) (.cons (.snap (.pure rfl)) .nil)) rfl (by conv => lhs; whnf; congr; { whnf }; { whnf }) (text_w _ _ (by omega) (by first | omega | (simp only [List.length_append]; omega))) (by rintro r H' m ⟨rfl, rfl⟩; exact hand_kill (by simp)) (by first | exact (rfl : _ = 0) | exact (rfl : _ = 1) | exact (rfl : _ = 2) | exact (rfl : _ = 3) | exact (rfl : _ = 4) | exact (rfl : _ = 5) | exact (rfl : _ = 6) | exact (rfl : _ = 7) | exact (rfl : _ = 8) | exact (rfl : _ = 9) | exact (rfl : _ = 10) | exact (rfl : _ = 11)) (by conv => lhs; whnf) ?_)
               all_goals (rintro r H' m ⟨rfl, rfl⟩)
               all_goals refine x_tk 10 (opWF_assign) ?_
               all_goals (refine x_assign ?_)
               all_goals exact any_leaf (n := 74) [0, 1] [0, 1, 2, 3, 5, 31, 32, 33, 34, 46, 54, 62] (by kernel_rfl) rfl rfl rfl (.c0 (.c0 (.c0 (.c0 (.c0 (.c0 (.c0 (.c0 (.c0 (.c0 (.c0 (.c0 (.nil))))))))))))) (.c0 (.c0 (.nil)))))))
      focus
       all_goals (first | refine x_ld ?_ | refine x_ldr ?_)
       all_goals (
        refine x_all2 3 8 ?_ ?_
        focus
         all_goals (refine lit_callG [1] [1] rfl rfl rfl rfl rfl ⟨_, Try.func42, by decide, rfl⟩ rfl rfl (.cons (.own (by conv => lhs; whnf)) (.cons (.snap (.pure rfl)) .nil)) rfl (by conv => lhs; whnf; congr; { whnf }; { whnf }) (text_w _ _ (by omega) (by first | omega | (simp only [List.length_append]; omega))) (by rintro r H' m ⟨rfl, rfl⟩; exact hand_kill (by simp)) (by first | exact (rfl : _ = 0) | exact (rfl : _ = 1) | exact (rfl : _ = 2) | exact (rfl : _ = 3) | exact (rfl : _ = 4) | exact (rfl : _ = 5) | exact (rfl : _ = 6) | exact (rfl : _ = 7) | exact (rfl : _ = 8) | exact (rfl : _ = 9) | exact (rfl : _ = 10) | exact (rfl : _ = 11)) (by conv => lhs; whnf) ?_)
         all_goals (rintro r H' m ⟨rfl, rfl⟩)
         all_goals (
          refine x_all2 6 8 ?_ ?_
          focus
           all_goals (refine lit_callG [1] [1] rfl rfl rfl rfl rfl ⟨_, Try.func42, by decide, rfl⟩ rfl rfl (.cons (.own (by conv => lhs; whnf)) (.cons (.snap (.pure rfl)) .nil)) rfl (by conv => lhs; whnf; congr; { whnf }; { whnf }) (text_w _ _ (by omega) (by first | omega | (simp only [List.length_append]; omega))) (by rintro r H' m ⟨rfl, rfl⟩; exact hand_kill (by simp)) (by first | exact (rfl : _ = 0) | exact (rfl : _ = 1) | exact (rfl : _ = 2) | exact (rfl : _ = 3) | exact (rfl : _ = 4) | exact (rfl : _ = 5) | exact (rfl : _ = 6) | exact (rfl : _ = 7) | exact (rfl : _ = 8) | exact (rfl : _ = 9) | exact (rfl : _ = 10) | exact (rfl : _ = 11)) (by conv => lhs; whnf) ?_)
           all_goals (rintro r H' m ⟨rfl, rfl⟩)
           all_goals (
            refine x_all1 8 ?_
            focus
             all_goals (first | refine x_ld ?_ | refine x_ldr ?_)
             all_goals (
              refine x_all1 9 ?_
              focus
               all_goals (refine lit_callG [1] [1] rfl rfl rfl rfl rfl ⟨_, Try.func42, by decide, rfl⟩ rfl rfl (.cons (.own (by conv => lhs; whnf)) (.cons (.snap (.pure rfl)) .nil)) rfl (by conv => lhs; whnf; congr; { whnf }; { whnf }) (text_w _ _ (by omega) (by first | omega | (simp only [List.length_append]; omega))) (by rintro r H' m ⟨rfl, rfl⟩; exact hand_kill (by simp)) (by first | exact (rfl : _ = 0) | exact (rfl : _ = 1) | exact (rfl : _ = 2) | exact (rfl : _ = 3) | exact (rfl : _ = 4) | exact (rfl : _ = 5) | exact (rfl : _ = 6) | exact (rfl : _ = 7) | exact (rfl : _ = 8) | exact (rfl : _ = 9) | exact (rfl : _ = 10) | exact (rfl : _ = 11)) (by conv => lhs; whnf) ?_)
               all_goals (rintro r H' m ⟨rfl, rfl⟩)
               all_goals refine x_tk 10 (opWF_assign) ?_
               all_goals (refine x_assign ?_)
               all_goals exact any_leaf (n := 74) [0, 1] [0, 1, 2, 3, 5, 31, 32, 33, 34, 46, 54, 62] (by kernel_rfl) rfl rfl rfl (.c0 (.c0 (.c0 (.c0 (.c0 (.c0 (.c0 (.c0 (.c0 (.c0 (.c0 (.c0 (.nil))))))))))))) (.c0 (.c0 (.nil)))))
          focus
           all_goals (first | refine x_ld ?_ | refine x_ldr ?_)
           all_goals (
            refine x_all1 6 ?_
            focus
             all_goals (refine lit_callG [1] [1] rfl rfl rfl rfl rfl ⟨_, Try.func42, by decide, rfl⟩ rfl rfl (.cons (.own (by conv => lhs; whnf)) (.cons (.snap (.pure rfl)) .nil)) rfl (by conv => lhs; whnf; congr; { whnf }; { whnf }) (text_w _ _ (by omega) (by first | omega | (simp only [List.length_append]; omega))) (by rintro r H' m ⟨rfl, rfl⟩; exact hand_kill (by simp)) (by first | exact (rfl : _ = 0) | exact (rfl : _ = 1) | exact (rfl : _ = 2) | exact (rfl : _ = 3) | exact (rfl : _ = 4) | exact (rfl : _ = 5) | exact (rfl : _ = 6) | exact (rfl : _ = 7) | exact (rfl : _ = 8) | exact (rfl : _ = 9) | exact (rfl : _ = 10) | exact (rfl : _ = 11)) (by conv => lhs; whnf) ?_)
             all_goals (rintro r H' m ⟨rfl, rfl⟩)
             all_goals (
              refine x_all1 9 ?_
              focus
               all_goals (refine lit_callG [1] [1] rfl rfl rfl rfl rfl ⟨_, Try.func42, by decide, rfl⟩ rfl rfl (.cons (.own (by conv => lhs; whnf)) (.cons (.snap (.pure rfl)) .nil)) rfl (by conv => lhs; whnf; congr; { whnf }; { whnf }) (text_w _ _ (by omega) (by first | omega | (simp only [List.length_append]; omega))) (by rintro r H' m ⟨rfl, rfl⟩; exact hand_kill (by simp)) (by first | exact (rfl : _ = 0) | exact (rfl : _ = 1) | exact (rfl : _ = 2) | exact (rfl : _ = 3) | exact (rfl : _ = 4) | exact (rfl : _ = 5) | exact (rfl : _ = 6) | exact (rfl : _ = 7) | exact (rfl : _ = 8) | exact (rfl : _ = 9) | exact (rfl : _ = 10) | exact (rfl : _ = 11)) (by conv => lhs; whnf) ?_)
               all_goals (rintro r H' m ⟨rfl, rfl⟩)
               all_goals refine x_tk 10 (opWF_assign) ?_
               all_goals (refine x_assign ?_)
               all_goals exact any_leaf (n := 74) [0, 1] [0, 1, 2, 3, 5, 31, 32, 33, 34, 46, 54, 62] (by kernel_rfl) rfl rfl rfl (.c0 (.c0 (.c0 (.c0 (.c0 (.c0 (.c0 (.c0 (.c0 (.c0 (.c0 (.c0 (.nil))))))))))))) (.c0 (.c0 (.nil))))))
        focus
         all_goals (first | refine x_ld ?_ | refine x_ldr ?_)
         all_goals (
          refine x_all1 3 ?_
          focus
           all_goals (refine lit_callG [1] [1] rfl rfl rfl rfl rfl ⟨_, Try.func42, by decide, rfl⟩ rfl rfl (.cons (.own (by conv => lhs; whnf)) (.cons (.snap (.pure rfl)) .nil)) rfl (by conv => lhs; whnf; congr; { whnf }; { whnf }) (text_w _ _ (by omega) (by first | omega | (simp only [List.length_append]; omega))) (by rintro r H' m ⟨rfl, rfl⟩; exact hand_kill (by simp)) (by first | exact (rfl : _ = 0) | exact (rfl : _ = 1) | exact (rfl : _ = 2) | exact (rfl : _ = 3) | exact (rfl : _ = 4) | exact (rfl : _ = 5) | exact (rfl : _ = 6) | exact (rfl : _ = 7) | exact (rfl : _ = 8) | exact (rfl : _ = 9) | exact (rfl : _ = 10) | exact (rfl : _ = 11)) (by conv => lhs; whnf) ?_)
           all_goals (rintro r H' m ⟨rfl, rfl⟩)
           all_goals (
            refine x_all1 6 ?_
            focus
             all_goals (refine lit_callG [1] [1] rfl rfl rfl rfl rfl ⟨_, Try.func42, by decide, rfl⟩ rfl rfl (.cons (.own (by conv => lhs; whnf)) (.cons (.snap (.pure rfl)) .nil)) rfl (by conv => lhs; whnf; congr; { whnf }; { whnf }) (text_w _ _ (by omega) (by first | omega | (simp only [List.length_append]; omega))) (by rintro r H' m ⟨rfl, rfl⟩; exact hand_kill (by simp)) (by first | exact (rfl : _ = 0) | exact (rfl : _ = 1) | exact (rfl : _ = 2) | exact (rfl : _ = 3) | exact (rfl : _ = 4) | exact (rfl : _ = 5) | exact (rfl : _ = 6) | exact (rfl : _ = 7) | exact (rfl : _ = 8) | exact (rfl : _ = 9) | exact (rfl : _ = 10) | exact (rfl : _ = 11)) (by conv => lhs; whnf) ?_)
             all_goals (rintro r H' m ⟨rfl, rfl⟩)
             all_goals (
              refine x_all1 9 ?_
              focus
               all_goals (refine lit_callG [1] [1] rfl rfl rfl rfl rfl ⟨_, Try.func42, by decide, rfl⟩ rfl rfl (.cons (.own (by conv => lhs; whnf)) (.cons (.snap (.pure rfl)) .nil)) rfl (by conv => lhs; whnf; congr; { whnf }; { whnf }) (text_w _ _ (by omega) (by first | omega | (simp only [List.length_append]; omega))) (by rintro r H' m ⟨rfl, rfl⟩; exact hand_kill (by simp)) (by first | exact (rfl : _ = 0) | exact (rfl : _ = 1) | exact (rfl : _ = 2) | exact (rfl : _ = 3) | exact (rfl : _ = 4) | exact (rfl : _ = 5) | exact (rfl : _ = 6) | exact (rfl : _ = 7) | exact (rfl : _ = 8) | exact (rfl : _ = 9) | exact (rfl : _ = 10) | exact (rfl : _ = 11)) (by conv => lhs; whnf) ?_)
               all_goals (rintro r H' m ⟨rfl, rfl⟩)
               all_goals refine x_tk 10 (opWF_assign) ?_
               all_goals (refine x_assign ?_)
               all_goals exact any_leaf (n := 74) [0, 1] [0, 1, 2, 3, 5, 31, 32, 33, 34, 46, 54, 62] (by kernel_rfl) rfl rfl rfl (.c0 (.c0 (.c0 (.c0 (.c0 (.c0 (.c0 (.c0 (.c0 (.c0 (.c0 (.c0 (.nil))))))))))))) (.c0 (.c0 (.nil)))))))
      focus
       all_goals (first | refine x_ld ?_ | refine x_ldr ?_)
       all_goals (
        refine x_all2 3 5 ?_ ?_
        focus
         all_goals (refine lit_callG [1] [1] rfl rfl rfl rfl rfl ⟨_, Try.func42, by decide, rfl⟩ rfl rfl (.cons (.own (by conv => lhs; whnf)) (.cons (.snap (.pure rfl)) .nil)) rfl (by conv => lhs; whnf; congr; { whnf }; { whnf }) (text_w _ _ (by omega) (by first | omega | (simp only [List.length_append]; omega))) (by rintro r H' m ⟨rfl, rfl⟩; exact hand_kill (by simp)) (by first | exact (rfl : _ = 0) | exact (rfl : _ = 1) | exact (rfl : _ = 2) | exact (rfl : _ = 3) | exact (rfl : _ = 4) | exact (rfl : _ = 5) | exact (rfl : _ = 6) | exact (rfl : _ = 7) | exact (rfl : _ = 8) | exact (rfl : _ = 9) | exact (rfl : _ = 10) | exact (rfl : _ = 11)) (by conv => lhs; whnf) ?_)
         all_goals (rintro r H' m ⟨rfl, rfl⟩)
         all_goals (
          refine x_all1 5 ?_
          focus
           all_goals (first | refine x_ld ?_ | refine x_ldr ?_)
           all_goals (
            refine x_all1 6 ?_
            focus
             all_goals (refine lit_callG [1] [1] rfl rfl rfl rfl rfl ⟨_, Try.func42, by decide, rfl⟩ rfl rfl (.cons (.own (by conv => lhs; whnf)) (.cons (.snap (.pure rfl)) .nil)) rfl (by conv => lhs; whnf; congr; { whnf }; { whnf }) (text_w _ _ (by omega) (by first | omega | (simp only [List.length_append]; omega))) (by rintro r H' m ⟨rfl, rfl⟩; exact hand_kill (by simp)) (by first | exact (rfl : _ = 0) | exact (rfl : _ = 1) | exact (rfl : _ = 2) | exact (rfl : _ = 3) | exact (rfl : _ = 4) | exact (rfl : _ = 5) | exact (rfl : _ = 6) | exact (rfl : _ = 7) | exact (rfl : _ = 8) | exact (rfl : _ = 9) | exact (rfl : _ = 10) | exact (rfl : _ = 11)) (by conv => lhs; whnf) ?_)
             all_goals (rintro r H' m ⟨rfl, rfl⟩)
             all_goals (
              refine x_all1 9 ?_
              focus
               all_goals (refine lit_callG [1] [1] rfl rfl rfl rfl rfl ⟨_, Try.func42, by decide, rfl⟩ rfl rfl (.cons (.own (by conv => lhs; whnf)) (.cons (.snap (.pure rfl)) .nil)) rfl (by conv => lhs; whnf; congr; { whnf }; { whnf }) (text_w _ _ (by omega) (by first | omega | (simp only [List.length_append]; omega))) (by rintro r H' m ⟨rfl, rfl⟩; exact hand_kill (by simp)) (by first | exact (rfl : _ = 0) | exact (rfl : _ = 1) | exact (rfl : _ = 2) | exact (rfl : _ = 3) | exact (rfl : _ = 4) | exact (rfl : _ = 5) | exact (rfl : _ = 6) | exact (rfl : _ = 7) | exact (rfl : _ = 8) | exact (rfl : _ = 9) | exact (rfl : _ = 10) | exact (rfl : _ = 11)) (by conv => lhs; whnf) ?_)
               all_goals (rintro r H' m ⟨rfl, rfl⟩)
               all_goals refine x_tk 10 (opWF_assign) ?_
               all_goals (refine x_assign ?_)
               all_goals exact any_leaf (n := 74) [0, 1] [0, 1, 2, 3, 5, 31, 32, 33, 34, 46, 54, 62] (by kernel_rfl) rfl rfl rfl (.c0 (.c0 (.c0 (.c0 (.c0 (.c0 (.c0 (.c0 (.c0 (.c0 (.c0 (.c0 (.nil))))))))))))) (.c0 (.c0 (.nil))))))
        focus
         all_goals (first | refine x_ld ?_ | refine x_ldr ?_)
         all_goals (
          refine x_all1 3 ?_
          focus
           all_goals (refine lit_callG [1] [1] rfl rfl rfl rfl rfl ⟨_, Try.func42, by decide, rfl⟩ rfl rfl (.cons (.own (by conv => lhs; whnf)) (.cons (.snap (.pure rfl)) .nil)) rfl (by conv => lhs; whnf; congr; { whnf }; { whnf }) (text_w _ _ (by omega) (by first | omega | (simp only [List.length_append]; omega))) (by rintro r H' m ⟨rfl, rfl⟩; exact hand_kill (by simp)) (by first | exact (rfl : _ = 0) | exact (rfl : _ = 1) | exact (rfl : _ = 2) | exact (rfl : _ = 3) | exact (rfl : _ = 4) | exact (rfl : _ = 5) | exact (rfl : _ = 6) | exact (rfl : _ = 7) | exact (rfl : _ = 8) | exact (rfl : _ = 9) | exact (rfl : _ = 10) | exact (rfl : _ = 11)) (by conv => lhs; whnf) ?_)
           all_goals (rintro r H' m ⟨rfl, rfl⟩)
           all_goals (
            refine x_all1 6 ?_
            focus
             all_goals (refine lit_callG [1] [1] rfl rfl rfl rfl rfl ⟨_, Try.func42, by decide, rfl⟩ rfl rfl (.cons (.own (by conv => lhs; whnf)) (.cons (.snap (.pure rfl)) .nil)) rfl (by conv => lhs; whnf; congr; { whnf }; { whnf }) (text_w _ _ (by omega) (by first | omega | (simp only [List.length_append]; omega))) (by rintro r H' m ⟨rfl, rfl⟩; exact hand_kill (by simp)) (by first | exact (rfl : _ = 0) | exact (rfl : _ = 1) | exact (rfl : _ = 2) | exact (rfl : _ = 3) | exact (rfl : _ = 4) | exact (rfl : _ = 5) | exact (rfl : _ = 6) | exact (rfl : _ = 7) | exact (rfl : _ = 8) | exact (rfl : _ = 9) | exact (rfl : _ = 10) | exact (rfl : _ = 11)) (by conv => lhs; whnf) ?_)
             all_goals (rintro r H' m ⟨rfl, rfl⟩)
             all_goals (
              refine x_all1 9 ?_
              focus
               all_goals (refine lit_callG [1] [1] rfl rfl rfl rfl rfl ⟨_, Try.func42, by decide, rfl⟩ rfl rfl (.cons (.own (by conv => lhs; whnf)) (.cons (.snap (.pure rfl)) .nil)) rfl (by conv => lhs; whnf; congr; { whnf }; { whnf }) (text_w _ _ (by omega) (by first | omega | (simp only [List.length_append]; omega))) (by rintro r H' m ⟨rfl, rfl⟩; exact hand_kill (by simp)) (by first | exact (rfl : _ = 0) | exact (rfl : _ = 1) | exact (rfl : _ = 2) | exact (rfl : _ = 3) | exact (rfl : _ = 4) | exact (rfl : _ = 5) | exact (rfl : _ = 6) | exact (rfl : _ = 7) | exact (rfl : _ = 8) | exact (rfl : _ = 9) | exact (rfl : _ = 10) | exact (rfl : _ = 11)) (by conv => lhs; whnf) ?_)
               all_goals (rintro r H' m ⟨rfl, rfl⟩)
               all_goals refine x_tk 10 (opWF_assign) ?_
               all_goals (refine x_assign ?_)
               all_goals exact any_leaf (n := 74) [0, 1] [0, 1, 2, 3, 5, 31, 32, 33, 34, 46, 54, 62] (by kernel_rfl) rfl rfl rfl (.c0 (.c0 (.c0 (.c0 (.c0 (.c0 (.c0 (.c0 (.c0 (.c0 (.c0 (.c0 (.nil))))))))))))) (.c0 (.c0 (.nil))))))))
    focus
     all_goals (first | refine x_ld ?_ | refine x_ldr ?_)
     all_goals (
      refine x_all2 2 8 ?_ ?_
      focus
       all_goals (first | refine x_ld ?_ | refine x_ldr ?_)
       all_goals (
        refine x_all2 3 8 ?_ ?_
        focus
         all_goals (refine lit_callG [1] [1] rfl rfl rfl rfl rfl ⟨_, Try.func42, by decide, rfl⟩ rfl rfl (.cons (.own (by conv => lhs; whnf)) (.cons (.snap (.pure rfl)) .nil)) rfl (by conv => lhs; whnf; congr; { whnf }; { whnf }) (text_w _ _ (by omega) (by first | omega | (simp only [List.length_append]; omega))) (by rintro r H' m ⟨rfl, rfl⟩; exact hand_kill (by simp)) (by first | exact (rfl : _ = 0) | exact (rfl : _ = 1) | exact (rfl : _ = 2) | exact (rfl : _ = 3) | exact (rfl : _ = 4) | exact (rfl : _ = 5) | exact (rfl : _ = 6) | exact (rfl : _ = 7) | exact (rfl : _ = 8) | exact (rfl : _ = 9) | exact (rfl : _ = 10) | exact (rfl : _ = 11)) (by conv => lhs; whnf) ?_)
         all_goals (rintro r H' m ⟨rfl, rfl⟩)
         all_goals (
          refine x_all2 6 8 ?_ ?_
          focus
           all_goals (refine lit_callG [1] [1] rfl rfl rfl rfl rfl ⟨_, Try.func42, by decide, rfl⟩ rfl rfl (.cons (.own (by conv => lhs; whnf)) (.cons (.snap (.pure rfl)) .nil)) rfl (by conv => lhs; whnf; congr; { whnf }; { whnf }) (text_w _ _ (by omega) (by first | omega | (simp only [List.length_append]; omega))) (by rintro r H' m ⟨rfl, rfl⟩; exact hand_kill (by simp)) (by first | exact (rfl : _ = 0) | exact (rfl : _ = 1) | exact (rfl : _ = 2) | exact (rfl : _ = 3) | exact (rfl : _ = 4) | exact (rfl : _ = 5) | exact (rfl : _ = 6) | exact (rfl : _ = 7) | exact (rfl : _ = 8) | exact (rfl : _ = 9) | exact (rfl : _ = 10) | exact (rfl : _ = 11)) (by conv => lhs; whnf) ?_)
           all_goals (rintro r H' m ⟨rfl, rfl⟩)
           all_goals (
            refine x_all1 8 ?_
            focus
             all_goals (first | refine x_ld ?_ | refine x_ldr ?_)
             all_goals (
              refine x_all1 9 ?_
              focus
               all_goals (refine lit_callG [1] [1] rfl rfl rfl rfl rfl ⟨_, Try.func42, by decide, rfl⟩ rfl rfl (.cons (.own (by conv => lhs; whnf)) (.cons (.snap (.pure rfl)) .nil)) rfl (by conv => lhs; whnf; congr; { whnf }; { whnf }) (text_w _ _ (by omega) (by first | omega | (simp only [List.length_append]; omega))) (by rintro r H' m ⟨rfl, rfl⟩; exact hand_kill (by simp)) (by first | exact (rfl : _ = 0) | exact (rfl : _ = 1) | exact (rfl : _ = 2) | exact (rfl : _ = 3) | exact (rfl : _ = 4) | exact (rfl : _ = 5) | exact (rfl : _ = 6) | exact (rfl : _ = 7) | exact (rfl : _ = 8) | exact (rfl : _ = 9) | exact (rfl : _ = 10) | exact (rfl : _ = 11)) (by conv => lhs; whnf) ?_)
               all_goals (rintro r H' m ⟨rfl, rfl⟩)
               all_goals refine x_tk 10 (opWF_assign) ?_
               all_goals (refine x_assign ?_)
               all_goals exact any_leaf (n := 74) [0, 1] [0, 1, 2, 3, 5, 31, 32, 33, 34, 46, 54, 62] (by kernel_rfl) rfl rfl rfl (.c0 (.c0 (.c0 (.c0 (.c0 (.c0 (.c0 (.c0 (.c0 (.c0 (.c0 (.c0 (.nil))))))))))))) (.c0 (.c0 (.nil)))))
          focus
           all_goals (first | refine x_ld ?_ | refine x_ldr ?_)
           all_goals (
            refine x_all1 6 ?_
            focus
             all_goals (refine lit_callG [1] [1] rfl rfl rfl rfl rfl ⟨_, Try.func42, by decide, rfl⟩ rfl rfl (.cons (.own (by conv => lhs; whnf)) (.cons (.snap (.pure rfl)) .nil)) rfl (by conv => lhs; whnf; congr; { whnf }; { whnf }) (text_w _ _ (by omega) (by first | omega | (simp only [List.length_append]; omega))) (by rintro r H' m ⟨rfl, rfl⟩; exact hand_kill (by simp)) (by first | exact (rfl : _ = 0) | exact (rfl : _ = 1) | exact (rfl : _ = 2) | exact (rfl : _ = 3) | exact (rfl : _ = 4) | exact (rfl : _ = 5) | exact (rfl : _ = 6) | exact (rfl : _ = 7) | exact (rfl : _ = 8) | exact (rfl : _ = 9) | exact (rfl : _ = 10) | exact (rfl : _ = 11)) (by conv => lhs; whnf) ?_)
             all_goals (rintro r H' m ⟨rfl, rfl⟩)
             all_goals (
              refine x_all1 9 ?_
              focus
               all_goals (refine lit_callG [1] [1] rfl rfl rfl rfl rfl ⟨_, Try.func42, by decide, rfl⟩ rfl rfl (.cons (.own (by conv => lhs; whnf)) (.cons (.snap (.pure rfl)) .nil)) rfl (by conv => lhs; whnf; congr; { whnf }; { whnf }) (text_w _ _ (by omega) (by first | omega | (simp only [List.length_append]; omega))) (by rintro r H' m ⟨rfl, rfl⟩; exact hand_kill (by simp)) (by first | exact (rfl : _ = 0) | exact (rfl : _ = 1) | exact (rfl : _ = 2) | exact (rfl : _ = 3) | exact (rfl : _ = 4) | exact (rfl : _ = 5) | exact (rfl : _ = 6) | exact (rfl : _ = 7) | exact (rfl : _ = 8) | exact (rfl : _ = 9) | exact (rfl : _ = 10) | exact (rfl : _ = 11)) (by conv => lhs; whnf) ?_)
               all_goals (rintro r H' m ⟨rfl, rfl⟩)
               all_goals refine x_tk 10 (opWF_assign) ?_
               all_goals (refine x_assign ?_)
               all_goals exact any_leaf (n := 74) [0, 1] [0, 1, 2, 3, 5, 31, 32, 33, 34, 46, 54, 62] (by kernel_rfl) rfl rfl rfl (.c0 (.c0 (.c0 (.c0 (.c0 (.c0 (.c0 (.c0 (.c0 (.c0 (.c0 (.c0 (.nil))))))))))))) (.c0 (.c0 (.nil))))))
        focus
         all_goals (first | refine x_ld ?_ | refine x_ldr ?_)
         all_goals (
          refine x_all1 3 ?_
          focus
           all_goals (refine lit_callG [1] [1] rfl rfl rfl rfl rfl ⟨_, Try.func42, by decide, rfl⟩ rfl rfl (.cons (.own (by conv => lhs; whnf)) (.cons (.snap (.pure rfl)) .nil)) rfl (by conv => lhs; whnf; congr; { whnf }; { whnf }) (text_w _ _ (by omega) (by first | omega | (simp only [List.length_append]; omega))) (by rintro r H' m ⟨rfl, rfl⟩; exact hand_kill (by simp)) (by first | exact (rfl : _ = 0) | exact (rfl : _ = 1) | exact (rfl : _ = 2) | exact (rfl : _ = 3) | exact (rfl : _ = 4) | exact (rfl : _ = 5) | exact (rfl : _ = 6) | exact (rfl : _ = 7) | exact (rfl : _ = 8) | exact (rfl : _ = 9) | exact (rfl : _ = 10) | exact (rfl : _ = 11)) (by conv => lhs; whnf) ?_)
           all_goals (rintro r H' m ⟨rfl, rfl⟩)
           all_goals (
            refine x_all1 6 ?_
            focus
             all_goals (refine lit_callG [1] [1] rfl rfl rfl rfl rfl ⟨_, Try.func42, by decide, rfl⟩ rfl rfl (.cons (.own (by conv => lhs; whnf)) (.cons (.snap (.pure rfl)) .nil)) rfl (by conv => lhs; whnf; congr; { whnf }; { whnf }) (text_w _ _ (by omega) (by first | omega | (simp only [List.length_append]; omega))) (by rintro r H' m ⟨rfl, rfl⟩; exact hand_kill (by simp)) (by first | exact (rfl : _ = 0) | exact (rfl : _ = 1) | exact (rfl : _ = 2) | exact (rfl : _ = 3) | exact (rfl : _ = 4) | exact (rfl : _ = 5) | exact (rfl : _ = 6) | exact (rfl : _ = 7) | exact (rfl : _ = 8) | exact (rfl : _ = 9) | exact (rfl : _ = 10) | exact (rfl : _ = 11)) (by conv => lhs; whnf) ?_)
             all_goals (rintro r H' m ⟨rfl, rfl⟩)
             all_goals (
              refine x_all1 9 ?_
              focus
               all_goals (refine lit_callG [1] [1] rfl rfl rfl rfl rfl ⟨_, Try.func42, by decide, rfl⟩ rfl rfl (.cons (.own (by conv => lhs; whnf)) (.cons (.snap (.pure rfl)) .nil)) rfl (by conv => lhs; whnf; congr; { whnf }; { whnf }) (text_w _ _ (by omega) (by first | omega | (simp only [List.length_append]; omega))) (by rintro r H' m ⟨rfl, rfl⟩; exact hand_kill (by simp)) (by first | exact (rfl : _ = 0) | exact (rfl : _ = 1) | exact (rfl : _ = 2) | exact (rfl : _ = 3) | exact (rfl : _ = 4) | exact (rfl : _ = 5) | exact (rfl : _ = 6) | exact (rfl : _ = 7) | exact (rfl : _ = 8) | exact (rfl : _ = 9) | exact (rfl : _ = 10) | exact (rfl : _ = 11)) (by conv => lhs; whnf) ?_)
               all_goals (rintro r H' m ⟨rfl, rfl⟩)
               all_goals refine x_tk 10 (opWF_assign) ?_
               all_goals (refine x_assign ?_)
               all_goals exact any_leaf (n := 74) [0, 1] [0, 1, 2, 3, 5, 31, 32, 33, 34, 46, 54, 62] (by kernel_rfl) rfl rfl rfl (.c0 (.c0 (.c0 (.c0 (.c0 (.c0 (.c0 (.c0 (.c0 (.c0 (.c0 (.c0 (.nil))))))))))))) (.c0 (.c0 (.nil)))))))
      focus
       all_goals (first | refine x_ld ?_ | refine x_ldr ?_)
       all_goals (
        refine x_all1 2 ?_
        focus
         all_goals (first | refine x_ld ?_ | refine x_ldr ?_)
         all_goals (
          refine x_all1 3 ?_
          focus
           all_goals (refine lit_callG [1] [1] rfl rfl rfl rfl rfl ⟨_, Try.func42, by decide, rfl⟩ rfl rfl (.cons (.own (by conv => lhs; whnf)) (.cons (.snap (.pure rfl)) .nil)) rfl (by conv => lhs; whnf; congr; { whnf }; { whnf }) (text_w _ _ (by omega) (by first | omega | (simp only [List.length_append]; omega))) (by rintro r H' m ⟨rfl, rfl⟩; exact hand_kill (by simp)) (by first | exact (rfl : _ = 0) | exact (rfl : _ = 1) | exact (rfl : _ = 2) | exact (rfl : _ = 3) | exact (rfl : _ = 4) | exact (rfl : _ = 5) | exact (rfl : _ = 6) | exact (rfl : _ = 7) | exact (rfl : _ = 8) | exact (rfl : _ = 9) | exact (rfl : _ = 10) | exact (rfl : _ = 11)) (by conv => lhs; whnf) ?_)
           all_goals (rintro r H' m ⟨rfl, rfl⟩)
           all_goals (
            refine x_all1 6 ?_
            focus
             all_goals (refine lit_callG [1] [1] rfl rfl rfl rfl rfl ⟨_, Try.func42, by decide, rfl⟩ rfl rfl (.cons (.own (by conv => lhs; whnf)) (.cons (.snap (.pure rfl)) .nil)) rfl (by conv => lhs; whnf; congr; { whnf }; { whnf }) (text_w _ _ (by omega) (by first | omega | (simp only [List.length_append]; omega))) (by rintro r H' m ⟨rfl, rfl⟩; exact hand_kill (by simp)) (by first | exact (rfl : _ = 0) | exact (rfl : _ = 1) | exact (rfl : _ = 2) | exact (rfl : _ = 3) | exact (rfl : _ = 4) | exact (rfl : _ = 5) | exact (rfl : _ = 6) | exact (rfl : _ = 7) | exact (rfl : _ = 8) | exact (rfl : _ = 9) | exact (rfl : _ = 10) | exact (rfl : _ = 11)) (by conv => lhs; whnf) ?_)
             all_goals (rintro r H' m ⟨rfl, rfl⟩)
             all_goals (
              refine x_all1 9 ?_
              focus
               all_goals (refine lit_callG [1] [1] rfl rfl rfl rfl rfl ⟨_, Try.func42, by decide, rfl⟩ rfl rfl (.cons (.own (by conv => lhs; whnf)) (.cons (.snap (.pure rfl)) .nil)) rfl (by conv => lhs; whnf; congr; { whnf }; { whnf }) (text_w _ _ (by omega) (by first | omega | (simp only [List.length_append]; omega))) (by rintro r H' m ⟨rfl, rfl⟩; exact hand_kill (by simp)) (by first | exact (rfl : _ = 0) | exact (rfl : _ = 1) | exact (rfl : _ = 2) | exact (rfl : _ = 3) | exact (rfl : _ = 4) | exact (rfl : _ = 5) | exact (rfl : _ = 6) | exact (rfl : _ = 7) | exact (rfl : _ = 8) | exact (rfl : _ = 9) | exact (rfl : _ = 10) | exact (rfl : _ = 11)) (by conv => lhs; whnf) ?_)
               all_goals (rintro r H' m ⟨rfl, rfl⟩)
               all_goals refine x_tk 10 (opWF_assign) ?_
               all_goals (refine x_assign ?_)
               all_goals exact any_leaf (n := 74) [0, 1] [0, 1, 2, 3, 5, 31, 32, 33, 34, 46, 54, 62] (by kernel_rfl) rfl rfl rfl (.c0 (.c0 (.c0 (.c0 (.c0 (.c0 (.c0 (.c0 (.c0 (.c0 (.c0 (.c0 (.nil))))))))))))) (.c0 (.c0 (.nil))))))))
    focus
     all_goals (first | refine x_ld ?_ | refine x_ldr ?_)
     all_goals (
      refine x_all2 2 5 ?_ ?_
      focus
       all_goals (first | refine x_ld ?_ | refine x_ldr ?_)
       all_goals (
        refine x_all2 3 5 ?_ ?_
        focus
         all_goals (refine lit_callG [1] [1] rfl rfl rfl rfl rfl ⟨_, Try.func42, by decide, rfl⟩ rfl rfl (.cons (.own (by conv => lhs; whnf)) (.cons (.snap (.pure rfl)) .nil)) rfl (by conv => lhs; whnf; congr; { whnf }; { whnf }) (text_w _ _ (by omega) (by first | omega | (simp only [List.length_append]; omega))) (by rintro r H' m ⟨rfl, rfl⟩; exact hand_kill (by simp)) (by first | exact (rfl : _ = 0) | exact (rfl : _ = 1) | exact (rfl : _ = 2) | exact (rfl : _ = 3) | exact (rfl : _ = 4) | exact (rfl : _ = 5) | exact (rfl : _ = 6) | exact (rfl : _ = 7) | exact (rfl : _ = 8) | exact (rfl : _ = 9) | exact (rfl : _ = 10) | exact (rfl : _ = 11)) (by conv => lhs; whnf) ?_)
         all_goals (rintro r H' m ⟨rfl, rfl⟩)
         all_goals (
          refine x_all1 5 ?_
          focus
           all_goals (first | refine x_ld ?_ | refine x_ldr ?_)
           all_goals (
            refine x_all1 6 ?_
            focus
             all_goals (refine lit_callG [1] [1] rfl rfl rfl rfl rfl ⟨_, Try.func42, by decide, rfl⟩ rfl rfl (.cons (.own (by conv => lhs; whnf)) (.cons (.snap (.pure rfl)) .nil)) rfl (by conv => lhs; whnf; congr; { whnf }; { whnf }) (text_w _ _ (by omega) (by first | omega | (simp only [List.length_append]; omega))) (by rintro r H' m ⟨rfl, rfl⟩; exact hand_kill (by simp)) (by first | exact (rfl : _ = 0) | exact (rfl : _ = 1) | exact (rfl : _ = 2) | exact (rfl : _ = 3) | exact (rfl : _ = 4) | exact (rfl : _ = 5) | exact (rfl : _ = 6) | exact (rfl : _ = 7) | exact (rfl : _ = 8) | exact (rfl : _ = 9) | exact (rfl : _ = 10) | exact (rfl : _ = 11)) (by conv => lhs; whnf) ?_)
             all_goals (rintro r H' m ⟨rfl, rfl⟩)
             all_goals (
              refine x_all1 9 ?_
              focus
               all_goals (refine lit_callG [1] [1] rfl rfl rfl rfl rfl ⟨_, Try.func42, by decide, rfl⟩ rfl rfl (.cons (.own (by conv => lhs; whnf)) (.cons (.snap (.pure rfl)) .nil)) rfl (by conv => lhs; whnf; congr; { whnf }; { whnf }) (text_w _ _ (by omega) (by first | omega | (simp only [List.length_append]; omega))) (by rintro r H' m ⟨rfl, rfl⟩; exact hand_kill (by simp)) (by first | exact (rfl : _ = 0) | exact (rfl : _ = 1) | exact (rfl : _ = 2) | exact (rfl : _ = 3) | exact (rfl : _ = 4) | exact (rfl : _ = 5) | exact (rfl : _ = 6) | exact (rfl : _ = 7) | exact (rfl : _ = 8) | exact (rfl : _ = 9) | exact (rfl : _ = 10) | exact (rfl : _ = 11)) (by conv => lhs; whnf) ?_)
               all_goals (rintro r H' m ⟨rfl, rfl⟩)
               all_goals refine x_tk 10 (opWF_assign) ?_
               all_goals (refine x_assign ?_)
               all_goals exact any_leaf (n := 74) [0, 1] [0, 1, 2, 3, 5, 31, 32, 33, 34, 46, 54, 62] (by kernel_rfl) rfl rfl rfl (.c0 (.c0 (.c0 (.c0 (.c0 (.c0 (.c0 (.c0 (.c0 (.c0 (.c0 (.c0 (.nil))))))))))))) (.c0 (.c0 (.nil))))))
        focus
         all_goals (first | refine x_ld ?_ | refine x_ldr ?_)
         all_goals (
          refine x_all1 3 ?_
          focus
           all_goals (refine lit_callG [1] [1] rfl rfl rfl rfl rfl ⟨_, Try.func42, by decide, rfl⟩ rfl rfl (.cons (.own (by conv => lhs; whnf)) (.cons (.snap (.pure rfl)) .nil)) rfl (by conv => lhs; whnf; congr; { whnf }; { whnf }) (text_w _ _ (by omega) (by first | omega | (simp only [List.length_append]; omega))) (by rintro r H' m ⟨rfl, rfl⟩; exact hand_kill (by simp)) (by first | exact (rfl : _ = 0) | exact (rfl : _ = 1) | exact (rfl : _ = 2) | exact (rfl : _ = 3) | exact (rfl : _ = 4) | exact (rfl : _ = 5) | exact (rfl : _ = 6) | exact (rfl : _ = 7) | exact (rfl : _ = 8) | exact (rfl : _ = 9) | exact (rfl : _ = 10) | exact (rfl : _ = 11)) (by conv => lhs; whnf) ?_)
           all_goals (rintro r H' m ⟨rfl, rfl⟩)
           all_goals (
            refine x_all1 6 ?_
            focus
             all_goals (refine lit_callG [1] [1] rfl rfl rfl rfl rfl ⟨_, Try.func42, by decide, rfl⟩ rfl rfl (.cons (.own (by conv => lhs; whnf)) (.cons (.snap (.pure rfl)) .nil)) rfl (by conv => lhs; whnf; congr; { whnf }; { whnf }) (text_w _ _ (by omega) (by first | omega | (simp only [List.length_append]; omega))) (by rintro r H' m ⟨rfl, rfl⟩; exact hand_kill (by simp)) (by first | exact (rfl : _ = 0) | exact (rfl : _ = 1) | exact (rfl : _ = 2) | exact (rfl : _ = 3) | exact (rfl : _ = 4) | exact (rfl : _ = 5) | exact (rfl : _ = 6) | exact (rfl : _ = 7) | exact (rfl : _ = 8) | exact (rfl : _ = 9) | exact (rfl : _ = 10) | exact (rfl : _ = 11)) (by conv => lhs; whnf) ?_)
             all_goals (rintro r H' m ⟨rfl, rfl⟩)
             all_goals (
              refine x_all1 9 ?_
              focus
               all_goals (refine lit_callG [1] [1] rfl rfl rfl rfl rfl ⟨_, Try.func42, by decide, rfl⟩ rfl rfl (.cons (.own (by conv => lhs; whnf)) (.cons (.snap (.pure rfl)) .nil)) rfl (by conv => lhs; whnf; congr; { whnf }; { whnf }) (text_w _ _ (by omega) (by first | omega | (simp only [List.length_append]; omega))) (by rintro r H' m ⟨rfl, rfl⟩; exact hand_kill (by simp)) (by first | exact (rfl : _ = 0) | exact (rfl : _ = 1) | exact (rfl : _ = 2) | exact (rfl : _ = 3) | exact (rfl : _ = 4) | exact (rfl : _ = 5) | exact (rfl : _ = 6) | exact (rfl : _ = 7) | exact (rfl : _ = 8) | exact (rfl : _ = 9) | exact (rfl : _ = 10) | exact (rfl : _ = 11)) (by conv => lhs; whnf) ?_)
               all_goals (rintro r H' m ⟨rfl, rfl⟩)
               all_goals refine x_tk 10 (opWF_assign) ?_
               all_goals (refine x_assign ?_)
               all_goals exact any_leaf (n := 74) [0, 1] [0, 1, 2, 3, 5, 31, 32, 33, 34, 46, 54, 62] (by kernel_rfl) rfl rfl rfl (.c0 (.c0 (.c0 (.c0 (.c0 (.c0 (.c0 (.c0 (.c0 (.c0 (.c0 (.c0 (.nil))))))))))))) (.c0 (.c0 (.nil)))))))
      focus
       all_goals (first | refine x_ld ?_ | refine x_ldr ?_)
       all_goals (
        refine x_all1 2 ?_
        focus
         all_goals (first | refine x_ld ?_ | refine x_ldr ?_)
         all_goals (
          refine x_all1 3 ?_
          focus
           all_goals (refine lit_callG [1] [1] rfl rfl rfl rfl rfl ⟨_, Try.func42, by decide, rfl⟩ rfl rfl (.cons (.own (by conv => lhs; whnf)) (.cons (.snap (.pure rfl)) .nil)) rfl (by conv => lhs; whnf; congr; { whnf }; { whnf }) (text_w _ _ (by omega) (by first | omega | (simp only [List.length_append]; omega))) (by rintro r H' m ⟨rfl, rfl⟩; exact hand_kill (by simp)) (by first | exact (rfl : _ = 0) | exact (rfl : _ = 1) | exact (rfl : _ = 2) | exact (rfl : _ = 3) | exact (rfl : _ = 4) | exact (rfl : _ = 5) | exact (rfl : _ = 6) | exact (rfl : _ = 7) | exact (rfl : _ = 8) | exact (rfl : _ = 9) | exact (rfl : _ = 10) | exact (rfl : _ = 11)) (by conv => lhs; whnf) ?_)
           all_goals (rintro r H' m ⟨rfl, rfl⟩)
           all_goals (
            refine x_all1 6 ?_
            focus
             all_goals (refine lit_callG [1] [1] rfl rfl rfl rfl rfl ⟨_, Try.func42, by decide, rfl⟩ rfl rfl (.cons (.own (by conv => lhs; whnf)) (.cons (.snap (.pure rfl)) .nil)) rfl (by conv => lhs; whnf; congr; { whnf }; { whnf }) (text_w _ _ (by omega) (by first | omega | (simp only [List.length_append]; omega))) (by rintro r H' m ⟨rfl, rfl⟩; exact hand_kill (by simp)) (by first | exact (rfl : _ = 0) | exact (rfl : _ = 1) | exact (rfl : _ = 2) | exact (rfl : _ = 3) | exact (rfl : _ = 4) | exact (rfl : _ = 5) | exact (rfl : _ = 6) | exact (rfl : _ = 7) | exact (rfl : _ = 8) | exact (rfl : _ = 9) | exact (rfl : _ = 10) | exact (rfl : _ = 11)) (by conv => lhs; whnf) ?_)
             all_goals (rintro r H' m ⟨rfl, rfl⟩)
             all_goals (
              refine x_all1 9 ?_
              focus
               all_goals (refine lit_callG [1] [1] rfl rfl rfl rfl rfl ⟨_, Try.func42, by decide, rfl⟩ rfl rfl (.cons (.own (by conv => lhs; whnf)) (.cons (.snap (.pure rfl)) .nil)) rfl (by conv => lhs; whnf; congr; { whnf }; { whnf }) (text_w _ _ (by omega) (by first | omega | (simp only [List.length_append]; omega))) (by rintro r H' m ⟨rfl, rfl⟩; exact hand_kill (by simp)) (by first | exact (rfl : _ = 0) | exact (rfl : _ = 1) | exact (rfl : _ = 2) | exact (rfl : _ = 3) | exact (rfl : _ = 4) | exact (rfl : _ = 5) | exact (rfl : _ = 6) | exact (rfl : _ = 7) | exact (rfl : _ = 8) | exact (rfl : _ = 9) | exact (rfl : _ = 10) | exact (rfl : _ = 11)) (by conv => lhs; whnf) ?_)
               all_goals (rintro r H' m ⟨rfl, rfl⟩)
               all_goals refine x_tk 10 (opWF_assign) ?_
               all_goals (refine x_assign ?_)
               all_goals exact any_leaf (n := 74) [0, 1] [0, 1, 2, 3, 5, 31, 32, 33, 34, 46, 54, 62] (by kernel_rfl) rfl rfl rfl (.c0 (.c0 (.c0 (.c0 (.c0 (.c0 (.c0 (.c0 (.c0 (.c0 (.c0 (.c0 (.nil))))))))))))) (.c0 (.c0 (.nil))))))))))
 all_goals refine seqQ_n ?_
 all_goals refine tri_seq ?_
 all_goals refine tri_region ?_
 all_goals refine oc (x_move ?_)
 all_goals refine oc ?_
 all_goals (first | refine x_fa0 ?_ | refine x_far0 ?_ | refine x_fa ?_ | refine x_far ?_)
 all_goals refine oc ?_
 all_goals (first | refine x_ld ?_ | refine x_ldr ?_)
 all_goals refine oc ?_
 all_goals (first | refine op_len_sl rfl (by first | (conv => lhs; simp only [List.length_map, bytesAV_length]) | rfl) rfl rfl rfl ?_ | refine x_leno ?_ | refine x_lenn ?_)
 all_goals refine oc ?_
 all_goals (refine lit_callG [1] [1] rfl rfl rfl rfl rfl ⟨_, Try.func39, by decide, rfl⟩ rfl rfl (.cons (.own (by conv => lhs; whnf)) (.cons (.snap (.pure rfl)) .nil)) rfl (by conv => lhs; whnf; congr; { whnf }; { whnf }) (number_i _ _ (by omega) (by omega) (by first | omega | (simp only [List.length_append]; omega))) (by rintro r H' m ⟨rfl, rfl⟩; exact hand_kill (by simp)) (by first | exact (rfl : _ = 0) | exact (rfl : _ = 1) | exact (rfl : _ = 2) | exact (rfl : _ = 3) | exact (rfl : _ = 4) | exact (rfl : _ = 5) | exact (rfl : _ = 6) | exact (rfl : _ = 7) | exact (rfl : _ = 8) | exact (rfl : _ = 9) | exact (rfl : _ = 10) | exact (rfl : _ = 11)) (by conv => lhs; whnf) ?_)
 all_goals (rintro r H' m ⟨rfl, rfl⟩)
 all_goals refine oc (x_assign ?_)
 all_goals refine ops_nil ?_
 all_goals refine seqQ_n ?_
 all_goals refine tri_seq ?_
 all_goals refine tri_seq ?_
 all_goals refine tri_region ?_
 all_goals refine oc ?_
 all_goals (first | refine x_fa0 ?_ | refine x_far0 ?_ | refine x_fa ?_ | refine x_far ?_)
 all_goals refine oc ?_
 all_goals (first | refine x_ld ?_ | refine x_ldr ?_)
 all_goals refine oc ?_
 all_goals (first | refine op_len_sl rfl (by first | (conv => lhs; simp only [List.length_map, bytesAV_length]) | rfl) rfl rfl rfl ?_ | refine x_leno ?_ | refine x_lenn ?_)
 all_goals refine oc (x_move ?_)
 all_goals refine ops_nil ?_
 all_goals refine seqQ_n ?_
 all_goals refine tri_block ?_
 all_goals (
  refine tri_loop (X := { p : List UInt8 × Nat // p.2 ≤ c.data.length ∧ p.1 ++ (c.data.drop p.2).flatMap encV = code c }) (fun x => ⟨74, noM, [(1, .ptr 0 7 0 0), (3, .osl 1 1 0 x.1.1.length), (31, .sl 3 (c.data.map valAV)), (32, iv c.data.length), (33, iv x.1.2)], [.mk 26 true false 7 [cmdAV c], .mk 5 false false 1 (bytesAV x.1.1)]⟩) (fun x => c.data.length - x.1.2) (⟨(head3 c, 0), by simp, by simp [code]⟩) (by exact le_kept [0, 1] rfl rfl (fun _ _ h => by cases h) rfl ⟨by first | rfl | ((conv => lhs; whnf); simp [head3, head2, head1, encV, *]; done), by first | rfl | ((conv => lhs; whnf); simp [head3, head2, head1, encV, *]; done), by first | rfl | ((conv => lhs; whnf); simp [head3, head2, head1, encV, *]; done), by first | rfl | ((conv => lhs; whnf); simp [head3, head2, head1, encV, *]; done), by first | rfl | ((conv => lhs; whnf); simp [head3, head2, head1, encV, *]; done), trivial⟩ ⟨by first | rfl | ((conv => lhs; whnf); simp [head3, head2, head1, encV, *]; done), by first | rfl | ((conv => lhs; whnf); simp [head3, head2, head1, encV, *]; done), trivial⟩) (fun x => ?_)
  obtain ⟨⟨l2, k⟩, hk, hx⟩ := x
  have hx2 := congrArg List.length hx
  simp only [List.length_append] at hk hx hx2 ⊢
  all_goals refine tri_seq ?_
  all_goals refine tri_region ?_
  all_goals refine oc (x_lss ?_)
  all_goals refine ops_nil ?_
  all_goals refine seqQ_n ?_
  all_goals refine tri_seq ?_
  all_goals (
   first | refine tri_cond_d rfl rfl (fun hc => ?_) (fun hc => ?_) | refine ct (fun hc => ?_) (fun hc => ?_) | refine cf (fun hc => ?_) (fun hc => ?_) | refine cb (fun hc => ?_) (fun hc => ?_)
   focus
    try (exfalso; first | exact hc | omega)
    all_goals refine tri_skip ?_
   rotate_right 1
   focus
    try (exfalso; first | exact hc | omega)
    all_goals refine tri_exit ?_
    all_goals refine seqQ_x ?_
    all_goals refine seqQ_x ?_
    all_goals refine blockQ_x ?_
    all_goals refine seqQ_n ?_
    all_goals refine tri_seq ?_
    all_goals refine tri_region ?_
    all_goals refine oc (x_move ?_)
    all_goals refine oc (x_assign ?_)
    all_goals refine ops_nil ?_
    all_goals refine seqQ_n ?_
    all_goals (refine tri_le (le_snapT 2 rfl rfl (.own rfl (by conv => lhs; first | simp only [List.drop_zero, List.take_succ_cons, List.take_zero, List.take_nil, take_bytes] | whnf) (by simp))) ?_)
    all_goals refine tri_ret ?_
    all_goals refine retE_r [] (.cons (.tmp (by conv => lhs; whnf) rfl) .nil) rfl rfl (by first | exact (ren_pure (by rfl)).trans (by conv => lhs; whnf) | ((conv => lhs; whnf); done) | rfl) (.nil) ?_
    all_goals (
     have hnil : c.data.drop k = [] := List.drop_eq_nil_of_le (by omega)
     rw [hnil] at hx
     simp only [List.flatMap_nil, List.append_nil] at hx
     rw [← hx]
     exact ⟨rfl, rfl⟩))
  all_goals refine seqQ_n ?_
  all_goals refine tri_seq ?_
  all_goals refine tri_block ?_
  all_goals refine tri_seq ?_
  all_goals refine tri_region ?_
  all_goals (
   obtain ⟨v, hv⟩ : ∃ v, c.data[k]? = some v := ⟨c.data[k]'(by omega), by simp⟩
   have he : (c.data.map valAV)[k]? = some (valAV v) := by simp [hv]
   have hv2 := f11 v (List.mem_of_getElem? hv)
   obtain ⟨w1, w2, w3, w4, w5, w6⟩ := validV_facts hv2
   have g12 := enc_length (n := v.kind.toNat) (by omega)
   have g13 := enc_length (n := v.s.size) (by omega)
   have g14 := encS_length v.s
   have hdr : c.data.drop k = v :: c.data.drop (k + 1) := by obtain ⟨h1, h2⟩ := List.getElem?_eq_some_iff.1 hv; rw [List.drop_eq_getElem_cons h1, h2])
  all_goals refine oc ?_
  all_goals (first | refine x_ia ?_ | refine x_iao0 ?_ | refine x_iao ?_)
  all_goals refine oc ?_
  all_goals (first | refine x_lda ?_ | refine x_ldra ?_ | refine x_ldp ?_ | refine x_ldrp ?_)
  all_goals refine oc (x_al 3 ?_)
  all_goals refine oc (x_st3 ?_)
  all_goals refine ops_nil ?_
  all_goals refine seqQ_n ?_
  all_goals refine tri_seq ?_
  all_goals refine tri_region ?_
  all_goals refine oc (x_move ?_)
  all_goals refine oc ?_
  all_goals (first | refine x_fa0 ?_ | refine x_far0 ?_ | refine x_fa ?_ | refine x_far ?_)
  all_goals refine oc ?_
  all_goals (first | refine x_ld ?_ | refine x_ldr ?_)
  all_goals refine oc ?_
  all_goals (refine lit_callG [1] [1] rfl rfl rfl rfl rfl ⟨_, Try.func39, by decide, rfl⟩ rfl rfl (.cons (.own (by conv => lhs; whnf)) (.cons (.snap (.pure rfl)) .nil)) rfl (by conv => lhs; whnf; congr; { whnf }; { whnf }) (number_i _ _ (by omega) (by omega) (by first | omega | (simp only [List.length_append]; omega))) (by rintro r H' m ⟨rfl, rfl⟩; exact hand_kill (by simp)) (by first | exact (rfl : _ = 0) | exact (rfl : _ = 1) | exact (rfl : _ = 2) | exact (rfl : _ = 3) | exact (rfl : _ = 4) | exact (rfl : _ = 5) | exact (rfl : _ = 6) | exact (rfl : _ = 7) | exact (rfl : _ = 8) | exact (rfl : _ = 9) | exact (rfl : _ = 10) | exact (rfl : _ = 11)) (by conv => lhs; whnf) ?_)
  all_goals (rintro r H' m ⟨rfl, rfl⟩)
  all_goals refine oc (x_assign ?_)
  all_goals refine ops_nil ?_
  all_goals refine seqQ_n ?_
  all_goals refine tri_block ?_
  all_goals refine tri_seq ?_
  all_goals refine tri_region ?_
  all_goals refine oc ?_
  all_goals (first | refine x_fa0 ?_ | refine x_far0 ?_ | refine x_fa ?_ | refine x_far ?_)
  all_goals refine oc ?_
  all_goals (first | refine x_ld ?_ | refine x_ldr ?_)
  all_goals refine oc (x_eql ?_)
  all_goals refine oc (x_assign ?_)
  all_goals refine ops_nil ?_
  all_goals refine seqQ_n ?_
  all_goals (
   first | refine tri_cond_d rfl rfl (fun hc => ?_) (fun hc => ?_) | refine ct (fun hc => ?_) (fun hc => ?_) | refine cf (fun hc => ?_) (fun hc => ?_) | refine cb (fun hc => ?_) (fun hc => ?_)
   focus
    try (exfalso; first | exact hc | omega)
    all_goals refine tri_region ?_
    all_goals refine oc (x_move ?_)
    all_goals refine oc ?_
    all_goals (first | refine x_fa0 ?_ | refine x_far0 ?_ | refine x_fa ?_ | refine x_far ?_)
    all_goals refine oc ?_
    all_goals (first | refine x_ld ?_ | refine x_ldr ?_)
    all_goals refine oc ?_
    all_goals (refine lit_callG [1] [1] rfl rfl rfl rfl rfl ⟨_, Try.func42, by decide, rfl⟩ rfl rfl (.cons (.own (by conv => lhs; whnf)) (.cons (.snap (.pure rfl)) .nil)) rfl (by conv => lhs; whnf; congr; { whnf }; { whnf }) (text_w _ _ (by omega) (by first | omega | (simp only [List.length_append]; omega))) (by rintro r H' m ⟨rfl, rfl⟩; exact hand_kill (by simp)) (by first | exact (rfl : _ = 0) | exact (rfl : _ = 1) | exact (rfl : _ = 2) | exact (rfl : _ = 3) | exact (rfl : _ = 4) | exact (rfl : _ = 5) | exact (rfl : _ = 6) | exact (rfl : _ = 7) | exact (rfl : _ = 8) | exact (rfl : _ = 9) | exact (rfl : _ = 10) | exact (rfl : _ = 11)) (by conv => lhs; whnf) ?_)
    all_goals (rintro r H' m ⟨rfl, rfl⟩)
    all_goals refine oc (x_assign ?_)
    all_goals refine ops_nil ?_
   rotate_right 1
   focus
    try (exfalso; first | exact hc | omega)
    all_goals refine tri_seq ?_
    all_goals refine tri_region ?_
    all_goals refine oc ?_
    all_goals (first | refine x_fa0 ?_ | refine x_far0 ?_ | refine x_fa ?_ | refine x_far ?_)
    all_goals refine oc ?_
    all_goals (first | refine x_ld ?_ | refine x_ldr ?_)
    all_goals refine oc (x_eql ?_)
    all_goals refine oc (x_assign ?_)
    all_goals refine ops_nil ?_
    all_goals refine seqQ_n ?_
    all_goals (
     first | refine tri_cond_d rfl rfl (fun hc => ?_) (fun hc => ?_) | refine ct (fun hc => ?_) (fun hc => ?_) | refine cf (fun hc => ?_) (fun hc => ?_) | refine cb (fun hc => ?_) (fun hc => ?_)
     focus
      try (exfalso; first | exact hc | omega)
      all_goals refine tri_region ?_
      all_goals refine oc (x_move ?_)
      all_goals refine oc ?_
      all_goals (first | refine x_fa0 ?_ | refine x_far0 ?_ | refine x_fa ?_ | refine x_far ?_)
      all_goals refine oc ?_
      all_goals (first | refine x_ld ?_ | refine x_ldr ?_)
      all_goals refine oc ?_
      all_goals (refine lit_callG [1] [1] rfl rfl rfl rfl rfl ⟨_, Try.func39, by decide, rfl⟩ rfl rfl (.cons (.own (by conv => lhs; whnf)) (.cons (.snap (.pure rfl)) .nil)) rfl (by conv => lhs; whnf; congr; { whnf }; { whnf }) (number_i _ _ (by omega) (by omega) (by first | omega | (simp only [List.length_append]; omega))) (by rintro r H' m ⟨rfl, rfl⟩; exact hand_kill (by simp)) (by first | exact (rfl : _ = 0) | exact (rfl : _ = 1) | exact (rfl : _ = 2) | exact (rfl : _ = 3) | exact (rfl : _ = 4) | exact (rfl : _ = 5) | exact (rfl : _ = 6) | exact (rfl : _ = 7) | exact (rfl : _ = 8) | exact (rfl : _ = 9) | exact (rfl : _ = 10) | exact (rfl : _ = 11)) (by conv => lhs; whnf) ?_)
      all_goals (rintro r H' m ⟨rfl, rfl⟩)
      all_goals refine oc (x_assign ?_)
      all_goals refine ops_nil ?_
     rotate_right 1
     focus
      try (exfalso; first | exact hc | omega)
      all_goals refine tri_seq ?_
      all_goals refine tri_region ?_
      all_goals refine oc ?_
      all_goals (first | refine x_fa0 ?_ | refine x_far0 ?_ | refine x_fa ?_ | refine x_far ?_)
      all_goals refine oc ?_
      all_goals (first | refine x_ld ?_ | refine x_ldr ?_)
      all_goals refine oc (x_lss ?_)
      all_goals refine oc (x_assign ?_)
      all_goals refine ops_nil ?_
      all_goals refine seqQ_n ?_
      all_goals (
       first | refine tri_cond_d rfl rfl (fun hc => ?_) (fun hc => ?_) | refine ct (fun hc => ?_) (fun hc => ?_) | refine cf (fun hc => ?_) (fun hc => ?_) | refine cb (fun hc => ?_) (fun hc => ?_)
       focus
        try (exfalso; first | exact hc | omega)
        all_goals refine tri_region ?_
        all_goals refine oc (x_move ?_)
        all_goals refine oc ?_
        all_goals (first | refine x_fa0 ?_ | refine x_far0 ?_ | refine x_fa ?_ | refine x_far ?_)
        all_goals refine oc ?_
        all_goals (first | refine x_ld ?_ | refine x_ldr ?_)
        all_goals refine oc ?_
        all_goals (first | refine x_mul64 ?_ | refine x_mul ?_)
        all_goals refine oc ?_
        all_goals (first | refine x_sub64 ?_ | refine x_sub ?_)
        all_goals refine oc ?_
        all_goals (refine lit_callG [1] [1] rfl rfl rfl rfl rfl ⟨_, Try.func39, by decide, rfl⟩ rfl rfl (.cons (.own (by conv => lhs; whnf)) (.cons (.snap (.pure rfl)) .nil)) rfl (by conv => lhs; whnf; congr; { whnf }; { whnf }) (number_i _ _ (by omega) (by omega) (by first | omega | (simp only [List.length_append]; omega))) (by rintro r H' m ⟨rfl, rfl⟩; exact hand_kill (by simp)) (by first | exact (rfl : _ = 0) | exact (rfl : _ = 1) | exact (rfl : _ = 2) | exact (rfl : _ = 3) | exact (rfl : _ = 4) | exact (rfl : _ = 5) | exact (rfl : _ = 6) | exact (rfl : _ = 7) | exact (rfl : _ = 8) | exact (rfl : _ = 9) | exact (rfl : _ = 10) | exact (rfl : _ = 11)) (by conv => lhs; whnf) ?_)
        all_goals (rintro r H' m ⟨rfl, rfl⟩)
        all_goals refine oc (x_assign ?_)
        all_goals refine ops_nil ?_
       rotate_right 1
       focus
        try (exfalso; first | exact hc | omega)
        all_goals refine tri_region ?_
        all_goals refine oc (x_move ?_)
        all_goals refine oc ?_
        all_goals (first | refine x_fa0 ?_ | refine x_far0 ?_ | refine x_fa ?_ | refine x_far ?_)
        all_goals refine oc ?_
        all_goals (first | refine x_ld ?_ | refine x_ldr ?_)
        all_goals refine oc ?_
        all_goals (first | refine x_mul64 ?_ | refine x_mul ?_)
        all_goals refine oc ?_
        all_goals (refine lit_callG [1] [1] rfl rfl rfl rfl rfl ⟨_, Try.func39, by decide, rfl⟩ rfl rfl (.cons (.own (by conv => lhs; whnf)) (.cons (.snap (.pure rfl)) .nil)) rfl (by conv => lhs; whnf; congr; { whnf }; { whnf }) (number_i _ _ (by omega) (by omega) (by first | omega | (simp only [List.length_append]; omega))) (by rintro r H' m ⟨rfl, rfl⟩; exact hand_kill (by simp)) (by first | exact (rfl : _ = 0) | exact (rfl : _ = 1) | exact (rfl : _ = 2) | exact (rfl : _ = 3) | exact (rfl : _ = 4) | exact (rfl : _ = 5) | exact (rfl : _ = 6) | exact (rfl : _ = 7) | exact (rfl : _ = 8) | exact (rfl : _ = 9) | exact (rfl : _ = 10) | exact (rfl : _ = 11)) (by conv => lhs; whnf) ?_)
        all_goals (rintro r H' m ⟨rfl, rfl⟩)
        all_goals refine oc (x_assign ?_)
        all_goals refine ops_nil ?_)))
  all_goals refine blockQ_n ?_
  all_goals refine blockQ_n ?_
  all_goals refine seqQ_n ?_
  all_goals refine tri_region ?_
  all_goals refine oc ?_
  all_goals (first | refine x_add64 ?_ | refine x_add ?_)
  all_goals refine oc (x_move ?_)
  all_goals refine ops_nil ?_
  all_goals refine seqQ_n ?_
  all_goals (exact ⟨⟨(l2 ++ encV v, k + 1), by dsimp only; omega, by dsimp only; rw [List.append_assoc, ← List.flatMap_cons, ← hdr]; exact hx⟩, by dsimp only; omega, le_kept [0, 1] rfl rfl (fun _ _ h => by cases h) rfl ⟨by first | rfl | ((conv => lhs; whnf); simp [head3, head2, head1, encV, *]; done), by first | rfl | ((conv => lhs; whnf); simp [head3, head2, head1, encV, *]; done), by first | rfl | ((conv => lhs; whnf); simp [head3, head2, head1, encV, *]; done), by first | rfl | ((conv => lhs; whnf); simp [head3, head2, head1, encV, *]; done), by first | rfl | ((conv => lhs; whnf); simp [head3, head2, head1, encV, *]; done), trivial⟩ ⟨by first | rfl | ((conv => lhs; whnf); simp [head3, head2, head1, encV, *]; done), by first | rfl | ((conv => lhs; whnf); simp [head3, head2, head1, encV, *]; done), trivial⟩⟩))

end Go.Proofs.Ytjalgcjllddmhaa

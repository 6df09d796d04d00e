/- A text of the proof of JournalTorn: AvOps -/
import Derived.Test.YtjalgcjllddmhaaAvCore
/- The operations: those that only compute. -/
namespace Go.Av

def aggT (P : Program) (t : TypeId) : Option Bool := match P.underlying t with
  | some (.struct _) | some (.array _ _) => some true
  | some _ => some false
  | none => none
def szT (P : Program) (t : TypeId) : Option Nat := (P.info? t).map (·.size)

theorem run_isAgg {P : Program} {t : TypeId} {b : Bool} (h : aggT P t = some b) (w : World) : (isAgg t).run P w = .ok b w := by
  unfold aggT at h
  split at h
  · rename_i fs hu; simp at h; subst h; simp [isAgg, run_underlying hu]
  · rename_i n e hu; simp at h; subst h; simp [isAgg, run_underlying hu]
  · rename_i d h1 h2 hu
    simp at h; subst h
    simp only [isAgg, Sem.run_bind, run_underlying hu, Result.andThen]
    cases d <;> first | rfl | exact absurd hu (h1 _) | exact absurd hu (h2 _ _)
  · simp at h
theorem run_sizeOf {P : Program} {t : TypeId} {n : Nat} (h : szT P t = some n) (w : World) : (sizeOf t).run P w = .ok n w := by
  unfold szT at h
  cases hi : P.info? t with
  | none => simp [hi] at h
  | some i => simp [hi] at h; simp [sizeOf, typeInfo, hi, h]

section
variable {P : Program} {K : St → Prop} {st : St} {ty : TypeId} {pos : String} {aft : Array Edge} {g : Option (Nat × Bool)} {d : Nat}

theorem op_pure {o : Oper} {x : AV} (ho : o.dst = some d) (hd : Nat.blt d st.n = true)
    (h : ∀ ρ0 Z w ρ a, SR ρ0 Z w ρ a st → ∃ v, (execOp a.eval o).run P w = .ok (.value v) w ∧ VR Z w ρ x v) (hk : K (st.put d x)) : OpTri P o K st := by
  intro ρ0 Z w ρ a hs
  obtain ⟨v, hr, hv⟩ := h ρ0 Z w ρ a hs
  unfold Oper.wp
  rw [hr]
  refine ⟨st.put d x, Z, ρ, hk, ?_, Ext.refl _ _ _⟩
  rw [ho]
  exact hs.put hd hv

theorem SR.evv {Z : Nat → Prop} {w : World} {ρ : Loc} {a : Act} {ρ0 : Loc} (h : SR ρ0 Z w ρ a st) {x : Operand} {v : Value} (hx : st.ev x = .val v) (hn : opIn st.n x = true) : a.eval x = v := by
  have := h.ev hn; rw [hx] at this; exact this.val_eq
theorem SR.eva {Z : Nat → Prop} {w : World} {ρ : Loc} {a : Act} {ρ0 : Loc} (h : SR ρ0 Z w ρ a st) {x : Operand} {y : AV} (hx : st.ev x = y) (hn : opIn st.n x = true) : VR Z w ρ y (a.eval x) := by
  have := h.ev hn; rw [hx] at this; exact this

theorem op_move {x : Operand} {y : AV} (hx : st.ev x = y) (hn : opIn st.n x = true) (hd : Nat.blt d st.n = true) (hk : K (st.put d y)) : OpTri P ⟨some d, .move x, ty, pos, aft, g⟩ K st :=
  op_pure rfl hd (fun _ _ _ _ _ hs => ⟨_, rfl, hs.eva hx hn⟩) hk
theorem op_assign {x : Operand} {y : AV} (hx : st.ev x = y) (hn : opIn st.n x = true) (hd : Nat.blt d st.n = true) (hk : K (st.put d y)) : OpTri P ⟨some d, .assign x, ty, pos, aft, g⟩ K st :=
  op_pure rfl hd (fun _ _ _ _ _ hs => ⟨_, rfl, hs.eva hx hn⟩) hk

/-- Two truths out of a third one. -/
theorem op_pick_bool {c x y : Operand} {b p q : Bool} (hc : st.ev c = .val (.bool b)) (hx : st.ev x = .val (.bool p)) (hy : st.ev y = .val (.bool q)) (nc : opIn st.n c = true) (nx : opIn st.n x = true)
    (ny : opIn st.n y = true) (hd : Nat.blt d st.n = true) (hk : K (st.put d (.val (.bool (bif b then p else q))))) : OpTri P ⟨some d, .pick c x y, ty, pos, aft, g⟩ K st :=
  op_pure rfl hd (fun _ _ _ _ _ hs => ⟨.bool (bif b then p else q), by
    simp only [execOp, hs.evv hc nc, hs.evv hx nx, hs.evv hy ny, asBool]; cases b <;> rfl, .val _⟩) hk
/-- The truth that decides is known. -/
theorem op_pick_lit {c x y : Operand} {b : Bool} {z : AV} (hc : st.ev c = .val (.bool b)) (hz : st.ev (bif b then x else y) = z) (nc : opIn st.n c = true) (nz : opIn st.n (bif b then x else y) = true)
    (hd : Nat.blt d st.n = true) (hk : K (st.put d z)) : OpTri P ⟨some d, .pick c x y, ty, pos, aft, g⟩ K st :=
  op_pure rfl hd (fun _ _ _ _ _ hs => ⟨_, by
    simp only [execOp, hs.evv hc nc, asBool]; rfl, by have := hs.eva hz nz; cases b <;> exact this⟩) hk

theorem op_nilCheck_ptr {x : Operand} {id sz i j : Nat} (hx : st.ev x = .ptr id sz i j) (hn : opIn st.n x = true) (hd : Nat.blt d st.n = true) (hk : K (st.put d (.ptr id sz i j))) : OpTri P ⟨some d, .nilCheck x, ty, pos, aft, g⟩ K st :=
  op_pure rfl hd (fun _ _ _ _ a hs => ⟨a.eval x, by have h := hs.eva hx hn; simp only [execOp]; generalize a.eval x = v at h ⊢; cases h; rfl, hs.eva hx hn⟩) hk
theorem op_nilCheck_rp {x : Operand} {cs : List AV} {j : Nat} (hx : st.ev x = .rp cs j) (hn : opIn st.n x = true) (hd : Nat.blt d st.n = true) (hk : K (st.put d (.rp cs j))) : OpTri P ⟨some d, .nilCheck x, ty, pos, aft, g⟩ K st :=
  op_pure rfl hd (fun _ _ _ _ a hs => ⟨a.eval x, by have h := hs.eva hx hn; simp only [execOp]; generalize a.eval x = v at h ⊢; cases h; rfl, hs.eva hx hn⟩) hk

theorem op_extract {x : Operand} {vs : List AV} {n : Nat} {y : AV} (hx : st.ev x = .tup vs) (hy : vs[n]? = some y) (hn : opIn st.n x = true) (hd : Nat.blt d st.n = true) (hk : K (st.put d y)) :
    OpTri P ⟨some d, .extract x n, ty, pos, aft, g⟩ K st :=
  op_pure rfl hd (fun ρ0 Z w ρ a hs => by
    have h := hs.eva hx hn
    generalize hv : a.eval x = v at h
    cases h with
    | tup he hl =>
      obtain ⟨u, hu, hvr⟩ := hl.get n y hy
      subst he
      exact ⟨u, by simp [execOp, hv, Instr.extract, hu], hvr⟩) hk

theorem op_makeFunc {fn : Fn} {fs cs : Array Operand} {xs ys : List AV} (hx : fs.toList.map st.ev = xs) (hy : cs.toList.map st.ev = ys) (nx : fs.toList.all (opIn st.n) = true) (ny : cs.toList.all (opIn st.n) = true)
    (hd : Nat.blt d st.n = true) (hk : K (st.put d (.fn fn xs ys))) : OpTri P ⟨some d, .makeFunc fn fs cs, ty, pos, aft, g⟩ K st :=
  op_pure rfl hd (fun ρ0 Z w ρ a hs => by
    have aux : ∀ l : List Operand, l.all (opIn st.n) = true → VRs Z w ρ (l.map st.ev) (l.map a.eval) := by
      intro l
      induction l with
      | nil => intro _; exact .nil
      | cons o r ih => intro h; simp only [List.all_cons, Bool.and_eq_true] at h; exact .cons (hs.ev h.1) (ih h.2)
    refine ⟨.func fn (fs.map a.eval) (cs.map a.eval), rfl, .fn (l := fs.toList.map a.eval) (m := cs.toList.map a.eval) (Array.ext' (by simp)) (Array.ext' (by simp)) ?_ ?_⟩
    · rw [← hx]; exact aux _ nx
    · rw [← hy]; exact aux _ ny) hk

/- integers -/

theorem op_int {op : BinOp} {t yt : TypeId} {x y : Operand} {k : IntKind} {m n : Int} {v : Value} (hx : st.ev x = .val (.int k m)) (hy : st.ev y = .val (.int k n)) (nx : opIn st.n x = true) (ny : opIn st.n y = true)
    (hd : Nat.blt d st.n = true) (hv : ∀ w, (Sem.run P (do eqGuard op t x y (.int k m) (.int k n); binOp op t (.int k m) (.int k n)) w) = .ok v w) (hk : K (st.put d (.val v))) :
    OpTri P ⟨some d, .binOp op t x y yt, ty, pos, aft, g⟩ K st :=
  op_pure rfl hd (fun _ _ w _ _ hs => ⟨v, by
    simp only [execOp, hs.evv hx nx, hs.evv hy ny]
    have := hv w
    simp only [Sem.run_bind] at this ⊢
    rw [this]; rfl, .val _⟩) hk

section
variable {t yt : TypeId} {x y : Operand} {k : IntKind} {m n : Int} (hx : st.ev x = .val (.int k m)) (hy : st.ev y = .val (.int k n)) (nx : opIn st.n x = true) (ny : opIn st.n y = true) (hd : Nat.blt d st.n = true)
include hx hy nx ny hd
theorem op_eql (hk : K (st.put d (.val (.bool (decide (m = n)))))) : OpTri P ⟨some d, .binOp .eql t x y yt, ty, pos, aft, g⟩ K st :=
  op_int hx hy nx ny hd (fun w => by simp [eqGuard, binOp, Op.intCmp]; rfl) hk
theorem op_neq (hk : K (st.put d (.val (.bool (decide (¬ m = n)))))) : OpTri P ⟨some d, .binOp .neq t x y yt, ty, pos, aft, g⟩ K st :=
  op_int hx hy nx ny hd (fun w => by simp [eqGuard, binOp, Op.intCmp]; rfl) hk
theorem op_lss (hk : K (st.put d (.val (.bool (decide (m < n)))))) : OpTri P ⟨some d, .binOp .lss t x y yt, ty, pos, aft, g⟩ K st :=
  op_int hx hy nx ny hd (fun w => by simp [eqGuard, binOp, Op.intCmp]) hk
theorem op_leq (hk : K (st.put d (.val (.bool (decide (m ≤ n)))))) : OpTri P ⟨some d, .binOp .leq t x y yt, ty, pos, aft, g⟩ K st :=
  op_int hx hy nx ny hd (fun w => by simp [eqGuard, binOp, Op.intCmp]) hk
theorem op_gtr (hk : K (st.put d (.val (.bool (decide (n < m)))))) : OpTri P ⟨some d, .binOp .gtr t x y yt, ty, pos, aft, g⟩ K st :=
  op_int hx hy nx ny hd (fun w => by simp [eqGuard, binOp, Op.intCmp]) hk
theorem op_geq (hk : K (st.put d (.val (.bool (decide (n ≤ m)))))) : OpTri P ⟨some d, .binOp .geq t x y yt, ty, pos, aft, g⟩ K st :=
  op_int hx hy nx ny hd (fun w => by simp [eqGuard, binOp, Op.intCmp]) hk
theorem op_add (hk : K (st.put d (.val (.int k (k.wrap (m + n)))))) : OpTri P ⟨some d, .binOp .add t x y yt, ty, pos, aft, g⟩ K st :=
  op_int hx hy nx ny hd (fun w => by simp [eqGuard, binOp, Op.intArith]) hk
theorem op_sub (hk : K (st.put d (.val (.int k (k.wrap (m - n)))))) : OpTri P ⟨some d, .binOp .sub t x y yt, ty, pos, aft, g⟩ K st :=
  op_int hx hy nx ny hd (fun w => by simp [eqGuard, binOp, Op.intArith]) hk
theorem op_mul (hk : K (st.put d (.val (.int k (k.wrap (m * n)))))) : OpTri P ⟨some d, .binOp .mul t x y yt, ty, pos, aft, g⟩ K st :=
  op_int hx hy nx ny hd (fun w => by simp [eqGuard, binOp, Op.intArith]) hk
theorem op_quo (h0 : n ≠ 0) (hk : K (st.put d (.val (.int k (k.wrap (m.tdiv n)))))) : OpTri P ⟨some d, .binOp .quo t x y yt, ty, pos, aft, g⟩ K st :=
  op_int hx hy nx ny hd (fun w => by simp [eqGuard, binOp, Op.intDiv, h0]) hk
theorem op_rem (h0 : n ≠ 0) (hk : K (st.put d (.val (.int k (m.tmod n))))) : OpTri P ⟨some d, .binOp .rem t x y yt, ty, pos, aft, g⟩ K st :=
  op_int hx hy nx ny hd (fun w => by simp [eqGuard, binOp, Op.intDiv, h0]) hk
theorem op_and (hk : K (st.put d (.val (.int k (k.wrap (BitVec.ofInt k.bits m &&& BitVec.ofInt k.bits n).toNat))))) : OpTri P ⟨some d, .binOp .and t x y yt, ty, pos, aft, g⟩ K st :=
  op_int hx hy nx ny hd (fun w => by simp [eqGuard, binOp, Op.intBits]) hk
theorem op_or (hk : K (st.put d (.val (.int k (k.wrap (BitVec.ofInt k.bits m ||| BitVec.ofInt k.bits n).toNat))))) : OpTri P ⟨some d, .binOp .or t x y yt, ty, pos, aft, g⟩ K st :=
  op_int hx hy nx ny hd (fun w => by simp [eqGuard, binOp, Op.intBits]) hk
theorem op_xor (hk : K (st.put d (.val (.int k (k.wrap (BitVec.ofInt k.bits m ^^^ BitVec.ofInt k.bits n).toNat))))) : OpTri P ⟨some d, .binOp .xor t x y yt, ty, pos, aft, g⟩ K st :=
  op_int hx hy nx ny hd (fun w => by simp [eqGuard, binOp, Op.intBits]) hk
end
section
variable {t yt : TypeId} {x y : Operand} {m n : Int} (hx : st.ev x = .val (.int .i64 m)) (hy : st.ev y = .val (.int .i64 n)) (nx : opIn st.n x = true) (ny : opIn st.n y = true) (hd : Nat.blt d st.n = true)
include hx hy nx ny hd
theorem op_add64 (hr : -9223372036854775808 ≤ m + n ∧ m + n ≤ 9223372036854775807) (hk : K (st.put d (.val (.int .i64 (m + n))))) : OpTri P ⟨some d, .binOp .add t x y yt, ty, pos, aft, g⟩ K st :=
  op_add hx hy nx ny hd (by rw [IntWalk.i64_in _ hr]; exact hk)
theorem op_sub64 (hr : -9223372036854775808 ≤ m - n ∧ m - n ≤ 9223372036854775807) (hk : K (st.put d (.val (.int .i64 (m - n))))) : OpTri P ⟨some d, .binOp .sub t x y yt, ty, pos, aft, g⟩ K st :=
  op_sub hx hy nx ny hd (by rw [IntWalk.i64_in _ hr]; exact hk)
theorem op_mul64 (hr : -9223372036854775808 ≤ m * n ∧ m * n ≤ 9223372036854775807) (hk : K (st.put d (.val (.int .i64 (m * n))))) : OpTri P ⟨some d, .binOp .mul t x y yt, ty, pos, aft, g⟩ K st :=
  op_mul hx hy nx ny hd (by rw [IntWalk.i64_in _ hr]; exact hk)
theorem op_quo64 (hr : 0 ≤ m ∧ m ≤ 9223372036854775807 ∧ 1 ≤ n) (hk : K (st.put d (.val (.int .i64 (m / n))))) : OpTri P ⟨some d, .binOp .quo t x y yt, ty, pos, aft, g⟩ K st :=
  op_quo hx hy nx ny hd (by omega) (by rw [IntWalk.i64_quo _ _ hr]; exact hk)
theorem op_rem64 (hr : 0 ≤ m ∧ 1 ≤ n) (hk : K (st.put d (.val (.int .i64 (m % n))))) : OpTri P ⟨some d, .binOp .rem t x y yt, ty, pos, aft, g⟩ K st :=
  op_rem hx hy nx ny hd (by omega) (by rw [IntWalk.rem_in _ _ hr.1]; exact hk)
end

theorem op_shl {t yt : TypeId} {x y : Operand} {k k' : IntKind} {m n : Int} (hx : st.ev x = .val (.int k m)) (hy : st.ev y = .val (.int k' n)) (nx : opIn st.n x = true) (ny : opIn st.n y = true) (hd : Nat.blt d st.n = true)
    (h0 : 0 ≤ n) (hk : K (st.put d (.val (.int k (k.wrap (m * 2 ^ min n.toNat k.bits)))))) : OpTri P ⟨some d, .binOp .shl t x y yt, ty, pos, aft, g⟩ K st :=
  op_pure rfl hd (fun _ _ w _ _ hs => ⟨_, by
    simp only [execOp, hs.evv hx nx, hs.evv hy ny]; simp [eqGuard, binOp, Op.shift, show ¬ n < 0 by omega], .val _⟩) hk
theorem op_shr {t yt : TypeId} {x y : Operand} {k k' : IntKind} {m n : Int} (hx : st.ev x = .val (.int k m)) (hy : st.ev y = .val (.int k' n)) (nx : opIn st.n x = true) (ny : opIn st.n y = true) (hd : Nat.blt d st.n = true)
    (h0 : 0 ≤ n) (hk : K (st.put d (.val (.int k (m.fdiv (2 ^ min n.toNat k.bits)))))) : OpTri P ⟨some d, .binOp .shr t x y yt, ty, pos, aft, g⟩ K st :=
  op_pure rfl hd (fun _ _ w _ _ hs => ⟨_, by
    simp only [execOp, hs.evv hx nx, hs.evv hy ny]; simp [eqGuard, binOp, Op.shift, show ¬ n < 0 by omega], .val _⟩) hk

/- truths, strings, nil -/

theorem op_not {t : TypeId} {x : Operand} {b : Bool} (hx : st.ev x = .val (.bool b)) (hn : opIn st.n x = true) (hd : Nat.blt d st.n = true) (hk : K (st.put d (.val (.bool (!b))))) : OpTri P ⟨some d, .unOp .not t x, ty, pos, aft, g⟩ K st :=
  op_pure rfl hd (fun _ _ w _ _ hs => ⟨_, by simp only [execOp, hs.evv hx hn]; simp [Op.unary], .val _⟩) hk
theorem op_not_d {t : TypeId} {x : Operand} {p : Prop} [Decidable p] (hx : st.ev x = .val (.bool (decide p))) (hn : opIn st.n x = true) (hd : Nat.blt d st.n = true) (hk : K (st.put d (.val (.bool (decide (¬ p)))))) : OpTri P ⟨some d, .unOp .not t x, ty, pos, aft, g⟩ K st :=
  op_not hx hn hd (by rw [decide_not] at hk; exact hk)
theorem op_neg {t : TypeId} {x : Operand} {k : IntKind} {m : Int} (hx : st.ev x = .val (.int k m)) (hn : opIn st.n x = true) (hd : Nat.blt d st.n = true) (hk : K (st.put d (.val (.int k (k.wrap (0 - m)))))) :
    OpTri P ⟨some d, .unOp .neg t x, ty, pos, aft, g⟩ K st :=
  op_pure rfl hd (fun _ _ w _ _ hs => ⟨_, by simp only [execOp, hs.evv hx hn]; simp [Op.unary, Op.intArith]; rfl, by simpa using VR.val _⟩) hk
theorem op_compl {t : TypeId} {x : Operand} {k : IntKind} {m : Int} (hx : st.ev x = .val (.int k m)) (hn : opIn st.n x = true) (hd : Nat.blt d st.n = true)
    (hk : K (st.put d (.val (.int k (k.wrap (BitVec.ofInt k.bits (if k.signed then -1 else k.max) ^^^ BitVec.ofInt k.bits m).toNat))))) : OpTri P ⟨some d, .unOp .xor t x, ty, pos, aft, g⟩ K st :=
  op_pure rfl hd (fun _ _ w _ _ hs => ⟨_, by simp only [execOp, hs.evv hx hn]; simp [Op.unary, Op.intBits], .val _⟩) hk
theorem op_eql_bool {t yt : TypeId} {x y : Operand} {p q : Bool} (hx : st.ev x = .val (.bool p)) (hy : st.ev y = .val (.bool q)) (nx : opIn st.n x = true) (ny : opIn st.n y = true) (hd : Nat.blt d st.n = true)
    (ht : P.underlying t = some .bool) (hk : K (st.put d (.val (.bool (p == q))))) : OpTri P ⟨some d, .binOp .eql t x y yt, ty, pos, aft, g⟩ K st :=
  op_pure rfl hd (fun _ _ w _ _ hs => ⟨_, by
    simp only [execOp, hs.evv hx nx, hs.evv hy ny]; simp [eqGuard, run_eql_bool w t p q ht], .val _⟩) hk
theorem op_neq_bool {t yt : TypeId} {x y : Operand} {p q : Bool} (hx : st.ev x = .val (.bool p)) (hy : st.ev y = .val (.bool q)) (nx : opIn st.n x = true) (ny : opIn st.n y = true) (hd : Nat.blt d st.n = true)
    (ht : P.underlying t = some .bool) (hk : K (st.put d (.val (.bool (!(p == q)))))) : OpTri P ⟨some d, .binOp .neq t x y yt, ty, pos, aft, g⟩ K st :=
  op_pure rfl hd (fun _ _ w _ _ hs => ⟨_, by
    simp only [execOp, hs.evv hx nx, hs.evv hy ny]; simp [eqGuard, run_neq_bool w t p q ht], .val _⟩) hk

section
variable {t yt : TypeId} {x y : Operand} {a b : ByteArray} (hx : st.ev x = .val (.string a)) (hy : st.ev y = .val (.string b)) (nx : opIn st.n x = true) (ny : opIn st.n y = true) (hd : Nat.blt d st.n = true)
include hx hy nx ny hd
theorem op_str {op : BinOp} {v : Value} (hv : ∀ w : World, (Op.stringOp op a b).run P w = .ok v w) (hop : op ≠ .shl ∧ op ≠ .shr) (hk : K (st.put d (.val v))) : OpTri P ⟨some d, .binOp op t x y yt, ty, pos, aft, g⟩ K st :=
  op_pure rfl hd (fun _ _ w _ _ hs => ⟨v, by
    simp only [execOp, hs.evv hx nx, hs.evv hy ny]
    have := hv w
    cases op <;> simp_all [eqGuard, binOp, pure], .val _⟩) hk
theorem op_str_eql (hk : K (st.put d (.val (.bool (a.toList == b.toList))))) : OpTri P ⟨some d, .binOp .eql t x y yt, ty, pos, aft, g⟩ K st :=
  op_str hx hy nx ny hd (fun _ => rfl) ⟨by simp, by simp⟩ hk
theorem op_str_neq (hk : K (st.put d (.val (.bool (!(a.toList == b.toList)))))) : OpTri P ⟨some d, .binOp .neq t x y yt, ty, pos, aft, g⟩ K st :=
  op_str hx hy nx ny hd (fun _ => rfl) ⟨by simp, by simp⟩ hk
theorem op_str_lss (hk : K (st.put d (.val (.bool (Op.bytesLess a.toList b.toList))))) : OpTri P ⟨some d, .binOp .lss t x y yt, ty, pos, aft, g⟩ K st :=
  op_str hx hy nx ny hd (fun _ => rfl) ⟨by simp, by simp⟩ hk
theorem op_str_gtr (hk : K (st.put d (.val (.bool (!(Op.bytesLess a.toList b.toList || a.toList == b.toList)))))) : OpTri P ⟨some d, .binOp .gtr t x y yt, ty, pos, aft, g⟩ K st :=
  op_str hx hy nx ny hd (fun _ => rfl) ⟨by simp, by simp⟩ hk
theorem op_str_leq (hk : K (st.put d (.val (.bool (Op.bytesLess a.toList b.toList || a.toList == b.toList))))) : OpTri P ⟨some d, .binOp .leq t x y yt, ty, pos, aft, g⟩ K st :=
  op_str hx hy nx ny hd (fun _ => rfl) ⟨by simp, by simp⟩ hk
theorem op_str_geq (hk : K (st.put d (.val (.bool (!Op.bytesLess a.toList b.toList))))) : OpTri P ⟨some d, .binOp .geq t x y yt, ty, pos, aft, g⟩ K st :=
  op_str hx hy nx ny hd (fun _ => rfl) ⟨by simp, by simp⟩ hk
theorem op_str_add (hr : a.size + b.size ≤ 9223372036854775807) (hk : K (st.put d (.val (.string (a ++ b))))) : OpTri P ⟨some d, .binOp .add t x y yt, ty, pos, aft, g⟩ K st :=
  op_str hx hy nx ny hd (fun w => by
    have : ¬ (((a.size + b.size : Nat) : Int) > IntKind.i64.max) := by simp [IntKind.max, IntKind.signed, IntKind.bits]; omega
    simp only [Op.stringOp, this, if_false]; rfl) ⟨by simp, by simp⟩ hk
end

/- conversions -/

theorem op_conv_int {src dst : TypeId} {x : Operand} {k k' : IntKind} {m : Int} (hx : st.ev x = .val (.int k m)) (hn : opIn st.n x = true) (hd : Nat.blt d st.n = true) (hs : (P.underlying src).isSome = true) (ht : P.underlying dst = some (.int k'))
    (hk : K (st.put d (.val (.int k' (k'.wrap m))))) : OpTri P ⟨some d, .convert src dst x, ty, pos, aft, g⟩ K st :=
  op_pure rfl hd (fun _ _ w _ _ hsr => ⟨_, by
    obtain ⟨dd, hd'⟩ := Option.isSome_iff_exists.mp hs
    simp only [execOp, hsr.evv hx hn]; simp [convert, run_underlying hd', run_underlying ht, Conv.intToInt], .val _⟩) hk
theorem op_conv_int64 {src dst : TypeId} {x : Operand} {k : IntKind} {m : Int} (hx : st.ev x = .val (.int k m)) (hn : opIn st.n x = true) (hd : Nat.blt d st.n = true) (hs : (P.underlying src).isSome = true) (ht : P.underlying dst = some (.int .i64))
    (hr : -9223372036854775808 ≤ m ∧ m ≤ 9223372036854775807) (hk : K (st.put d (.val (.int .i64 m)))) : OpTri P ⟨some d, .convert src dst x, ty, pos, aft, g⟩ K st :=
  op_conv_int hx hn hd hs ht (by rw [IntWalk.i64_in _ hr]; exact hk)
theorem op_conv_str {src dst : TypeId} {x : Operand} {s : ByteArray} (hx : st.ev x = .val (.string s)) (hn : opIn st.n x = true) (hd : Nat.blt d st.n = true) (hs : (P.underlying src).isSome = true) (ht : P.underlying dst = some .string)
    (hk : K (st.put d (.val (.string s)))) : OpTri P ⟨some d, .convert src dst x, ty, pos, aft, g⟩ K st :=
  op_pure rfl hd (fun _ _ w _ _ hsr => ⟨_, by
    obtain ⟨dd, hd'⟩ := Option.isSome_iff_exists.mp hs
    simp only [execOp, hsr.evv hx hn]; simp [convert, run_underlying hd', run_underlying ht], .val _⟩) hk
end
end Go.Av

/- A text of the proof of JournalTorn: AvAny -/
import Derived.Test.YtjalgcjllddmhaaAvStep
import Derived.Orders
/- Regions whose order is drawn. -/
namespace Go.Av

/-- Where it ends well, it does so in every world, and leaves it as it is. -/
def WF {α : Type} (P : Program) (s : Sem α) : Prop := ∀ w v w', s.run P w = .ok v w' → ∀ w2, s.run P w2 = .ok v w2
def Never {α : Type} (P : Program) (s : Sem α) : Prop := ∀ w v w', ¬ s.run P w = .ok v w'

section
variable {P : Program}
theorem Never.wf {α : Type} {s : Sem α} (h : Never P s) : WF P s := fun w v w' e => absurd e (h w v w')
theorem wf_pure {α : Type} (v : α) : WF P (pure v : Sem α) := by
  intro w u w' h w2; rw [Sem.run_pure] at h ⊢; cases h; rfl
theorem wf_bind {α β : Type} {s : Sem α} {f : α → Sem β} (h : WF P s) (hf : ∀ a, WF P (f a)) : WF P (s >>= f) := by
  intro w v w' e w2
  rw [Sem.run_bind] at e ⊢
  cases hs : s.run P w with
  | ok u w1 =>
    rw [hs] at e
    simp only [Result.andThen] at e
    have := h _ _ _ hs w2
    rw [this]
    exact hf u _ _ _ e w2
  | halt x w1 => rw [hs] at e; simp [Result.andThen] at e
theorem never_bind {α β : Type} {s : Sem α} {f : α → Sem β} (hf : ∀ a, Never P (f a)) : Never P (s >>= f) := by
  intro w v w' e
  rw [Sem.run_bind] at e
  cases hs : s.run P w with
  | ok u w1 => rw [hs] at e; exact hf u _ _ _ e
  | halt x w1 => rw [hs] at e; simp [Result.andThen] at e
theorem never_halt {α : Type} (x : Halt) : Never P (Sem.halt x : Sem α) := by
  intro w v w' h
  simp [Sem.run] at h
theorem never_stuck {α : Type} (x : String) : Never P (stuck x : Sem α) := never_halt _
theorem never_unsupported {α : Type} (x : Unsupported) : Never P (unsupported x : Sem α) := never_halt _
theorem never_goPanic {α : Type} (x : Value) : Never P (goPanic x : Sem α) := by unfold goPanic; exact never_halt _
theorem never_rt {α : Type} (x : RuntimeError) : Never P (runtimePanic x : Sem α) := by
  unfold runtimePanic
  refine never_bind fun p => ?_
  cases x <;> first | exact never_goPanic _ | exact never_bind fun _ => never_goPanic _ | exact never_bind fun _ => never_bind fun _ => never_goPanic _
end

section
variable {P : Program}
theorem wf_program : WF P program := by intro w v w' h w2; simp [program, Sem.run] at h ⊢; exact h.1
theorem wf_underlying (t : TypeId) : WF P (underlying t) := by
  unfold underlying
  refine wf_bind wf_program fun p => ?_
  split
  · exact wf_pure _
  · exact (never_stuck _).wf
theorem wf_typeInfo (t : TypeId) : WF P (typeInfo t) := by
  unfold typeInfo
  refine wf_bind wf_program fun p => ?_
  split
  · exact wf_pure _
  · exact (never_stuck _).wf
theorem wf_sizeOf (t : TypeId) : WF P (sizeOf t) := wf_bind (wf_typeInfo t) fun _ => wf_pure _
theorem wf_zeroValue (t : TypeId) : WF P (zeroValue t) := by
  unfold zeroValue
  refine wf_bind (wf_typeInfo t) fun i => ?_
  split
  · exact wf_pure _
  · exact (never_unsupported _).wf
theorem wf_isAgg (t : TypeId) : WF P (isAgg t) := by
  unfold isAgg
  refine wf_bind (wf_underlying t) fun i => ?_
  split <;> exact wf_pure _
theorem wf_asBool (v : Value) : WF P (asBool v) := by cases v <;> first | exact wf_pure _ | exact (never_stuck _).wf
theorem wf_asAddr (v : Value) : WF P (asAddr v) := by
  unfold asAddr
  split <;> first | exact wf_pure _ | exact (never_stuck _).wf | exact (never_rt _).wf | exact (never_unsupported _).wf
theorem wf_asIntOf (v : Value) : WF P (asIntOf v) := by
  unfold asIntOf
  split <;> first | exact wf_pure _ | exact (never_stuck _).wf | exact (never_unsupported _).wf
theorem wf_sureAddr (v : Value) : WF P (Instr.sureAddr v) := by
  unfold Instr.sureAddr
  split <;> first | exact wf_pure _ | exact (never_stuck _).wf
/-- .. and its outcome is a value. -/
def WFv (P : Program) (s : Sem Next) : Prop := ∀ w n w', s.run P w = .ok n w' → ∃ v, n = .value v ∧ ∀ w2, s.run P w2 = .ok (.value v) w2
theorem wf_v {s : Sem Value} (h : WF P s) : WFv P (do pure (Next.value (← s)) : Sem Next) := by
  intro w n w' e
  have hall := wf_bind h (fun v => wf_pure (Next.value v)) w n w' e
  rw [Sem.run_bind] at e
  cases hs : s.run P w with
  | ok u w1 =>
    rw [hs] at e
    simp only [Result.andThen, Sem.run_pure] at e
    cases e
    exact ⟨u, rfl, hall⟩
  | halt x w1 => rw [hs] at e; simp [Result.andThen] at e
theorem wfv_pure (v : Value) : WFv P (pure (.value v) : Sem Next) := by
  intro w n w' e; rw [Sem.run_pure] at e; cases e; exact ⟨v, rfl, fun _ => rfl⟩
theorem wf_boundsPanic {α : Type} (k : IntKind) (x y : Int) (c : BoundsCode) : WF P (boundsPanic k x y c : Sem α) := by
  refine Never.wf ?_
  unfold boundsPanic
  split
  · exact never_bind fun _ => never_rt _
  · simp only [pure_bind]; exact never_rt _
theorem wf_sliceBound (v : Value) (y : Nat) (c : BoundsCode) : WF P (Instr.sliceBound v y c) := by
  unfold Instr.sliceBound
  refine wf_bind (wf_asIntOf v) fun ki => ?_
  split
  split
  · exact wf_pure _
  · exact wf_boundsPanic _ _ _ _
theorem wf_sliceBounds (b : Bool) (l c : Nat) (x y z : Option Value) : WF P (Instr.sliceBounds b l c x y z) := by
  unfold Instr.sliceBounds
  cases x <;> cases y <;> cases z <;> simp only [pure_bind] <;>
    repeat' (first | exact wf_pure _ | exact (never_stuck _).wf | exact (never_bind fun _ => never_stuck _).wf | refine wf_bind (wf_sliceBound _ _ _) fun _ => ?_ | refine wf_bind (wf_pure _) fun _ => ?_ | refine wf_bind (never_stuck _).wf fun _ => ?_)
theorem wf_slice (t : TypeId) (x : Value) (l h m : Option Value) : WF P (Instr.slice t x l h m) := by
  unfold Instr.slice
  refine wf_bind (wf_underlying t) fun i => ?_
  split
  · cases m <;> simp [Option.isSome] <;>
    repeat' (first | exact wf_pure _ | exact (never_stuck _).wf | exact (never_bind fun _ => never_stuck _).wf | refine wf_bind (wf_sliceBounds _ _ _ _ _ _) fun _ => ?_ | refine wf_bind (wf_pure _) fun _ => ?_ | refine wf_bind (never_stuck _).wf fun _ => ?_)
  · refine wf_bind (wf_sliceBounds _ _ _ _ _ _) fun _ => ?_
    exact wf_bind (wf_sizeOf _) fun _ => wf_pure _
  · refine wf_bind (wf_asAddr _) fun _ => wf_bind (wf_underlying _) fun _ => ?_
    split
    · refine wf_bind (wf_sliceBounds _ _ _ _ _ _) fun _ => ?_
      exact wf_bind (wf_sizeOf _) fun _ => wf_pure _
    · exact (never_stuck _).wf
  · exact (never_stuck _).wf
theorem wf_sliceAt (t : TypeId) (x : Value) (l h m : Option Value) : WF P (Instr.sliceAt t x l h m) := by
  unfold Instr.sliceAt
  refine wf_bind (wf_underlying t) fun i => ?_
  split
  · refine wf_bind (wf_sureAddr _) fun _ => wf_bind (wf_sliceBounds _ _ _ _ _ _) fun _ => ?_
    exact wf_bind (wf_sizeOf _) fun _ => wf_pure _
  · exact wf_slice _ _ _ _ _
theorem wf_indexAt (t : TypeId) (x y : Value) : WF P (Instr.indexAt t x y) := by
  unfold Instr.indexAt
  refine wf_bind (wf_asIntOf y) fun i => ?_
  split
  refine wf_bind (wf_underlying t) fun d => ?_
  split <;> simp only [bind_assoc, pure_bind] <;>
    repeat' (first | exact wf_pure _ | exact (never_stuck _).wf | exact (never_unsupported _).wf | exact wf_boundsPanic _ _ _ _ | exact wf_sureAddr _ | refine wf_bind (wf_sureAddr _) fun _ => ?_ | refine wf_bind (wf_underlying _) fun _ => ?_ | refine wf_bind (wf_sizeOf _) fun _ => ?_ | refine wf_bind (never_stuck _).wf fun _ => ?_ | split)
theorem wf_extract (x : Value) (i : Nat) : WF P (Instr.extract x i) := by
  unfold Instr.extract
  split
  · split <;> first | exact wf_pure _ | exact (never_stuck _).wf
  · exact (never_stuck _).wf
theorem wf_fieldAt {s f n : Nat} {fs : Array Field} {fd : Field} (v : Value) (hs : P.underlying s = some (.struct fs)) (hf : fs[f]? = some fd) (hz : szT P fd.type = some (n + 1)) : WF P (Instr.fieldAt s v f) := by
  intro w u w' h w2
  simp only [Instr.fieldAt, Sem.run_bind, run_underlying hs, Result.andThen, hf] at h ⊢
  cases h1 : (Instr.sureAddr v).run P w with
  | ok a w1 =>
    have h2 := wf_sureAddr v w a w1 h1
    rw [h2 w2]
    rw [h2 w] at h1; cases h1
    rw [h2 w] at h
    simp only [fieldPlace, run_sizeOf hz, Sem.run_bind, Result.andThen, Nat.add_one_ne_zero, if_false, Sem.run_pure] at h ⊢
    cases h; rfl
  | halt x w1 => rw [h1] at h; simp at h
end

def OpWF (P : Program) (st : St) (o : Oper) : Prop := ∀ ρ0 Z w ρ a, SR ρ0 Z w ρ a st → WFv P (execOp a.eval o)

section
variable {P : Program} {st : St} {dst : Option Nat} {ty : TypeId} {pos : String} {aft : Array Edge} {g : Option (Nat × Bool)}
theorem opWF_move {x : Operand} : OpWF P st ⟨dst, .move x, ty, pos, aft, g⟩ := fun _ _ _ _ _ _ => wfv_pure _
theorem opWF_assign {x : Operand} : OpWF P st ⟨dst, .assign x, ty, pos, aft, g⟩ := fun _ _ _ _ _ _ => wfv_pure _
theorem opWF_pick {c x y : Operand} : OpWF P st ⟨dst, .pick c x y, ty, pos, aft, g⟩ := by
  intro ρ0 Z w ρ a hs w1 n w' e
  simp only [execOp, Sem.run_bind] at e ⊢
  cases hv : (asBool (a.eval c)).run P w1 with
  | halt x w2 => rw [hv] at e; simp [Result.andThen] at e
  | ok b w2 =>
    have h2 := wf_asBool _ _ _ _ hv
    rw [hv] at e
    cases b <;> (simp [Result.andThen] at e; refine ⟨_, e.1.symm, fun w3 => ?_⟩; rw [h2 w3]; rfl)
theorem opWF_fieldAddr {s f n : Nat} {x : Operand} {fs : Array Field} {fd : Field} (hs : P.underlying s = some (.struct fs)) (hf : fs[f]? = some fd) (hz : szT P fd.type = some (n + 1)) : OpWF P st ⟨dst, .fieldAddr s x f, ty, pos, aft, g⟩ :=
  fun _ _ _ _ _ _ => wf_v (wf_fieldAt _ hs hf hz)
theorem opWF_indexAddr {t : Nat} {x y : Operand} : OpWF P st ⟨dst, .indexAddr t x y, ty, pos, aft, g⟩ := fun _ _ _ _ _ _ => wf_v (wf_indexAt _ _ _)
theorem opWF_slice {t : Nat} {x : Operand} {l h m : Option Operand} : OpWF P st ⟨dst, .slice t x l h m, ty, pos, aft, g⟩ := fun _ _ _ _ _ _ => wf_v (wf_sliceAt _ _ _ _ _)
theorem opWF_extract {x : Operand} {i : Nat} : OpWF P st ⟨dst, .extract x i, ty, pos, aft, g⟩ := fun _ _ _ _ _ _ => wf_v (wf_extract _ _)

theorem wf_ints (op : BinOp) (k : IntKind) (m n : Int) : WF P (match op with
    | .add | .sub | .mul => Op.intArith op k m n
    | .quo | .rem => Op.intDiv op k m n
    | .and | .or | .xor | .andNot => Op.intBits op k m n
    | _ => Op.intCmp op m n : Sem Value) := by
  cases op <;> simp only [Op.intArith, Op.intDiv, Op.intBits, Op.intCmp] <;> repeat' (first | exact wf_pure _ | exact (never_stuck _).wf | exact (never_rt _).wf | split)
theorem opWF_bin {op : BinOp} {t t2 : Nat} {x y : Operand} {k k' : IntKind} {m n : Int} (hx : st.ev x = .val (.int k m)) (hy : st.ev y = .val (.int k' n)) (nx : opIn st.n x = true) (ny : opIn st.n y = true) :
    OpWF P st ⟨dst, .binOp op t x y t2, ty, pos, aft, g⟩ := by
  intro ρ0 Z w ρ a hs
  refine wf_v ?_
  rw [hs.evv hx nx, hs.evv hy ny]
  refine wf_bind ?_ fun _ => ?_
  · unfold eqGuard
    split <;> first | exact wf_pure _ | (simp only [pure_bind]; exact wf_pure _)
  · unfold binOp
    cases op <;> simp only [Op.shift] <;> repeat' (first | exact wf_pure _ | exact (never_stuck _).wf | exact (never_rt _).wf | exact wf_ints .add _ _ _ | exact wf_ints .sub _ _ _ | exact wf_ints .mul _ _ _ | exact wf_ints .quo _ _ _ | exact wf_ints .rem _ _ _ | exact wf_ints .and _ _ _ | exact wf_ints .or _ _ _ | exact wf_ints .xor _ _ _ | exact wf_ints .andNot _ _ _ | exact wf_ints .eql _ _ _ | exact wf_ints .neq _ _ _ | exact wf_ints .lss _ _ _ | exact wf_ints .leq _ _ _ | exact wf_ints .gtr _ _ _ | exact wf_ints .geq _ _ _ | split)
theorem opWF_conv {t t2 : Nat} {x : Operand} {k : IntKind} {m : Int} {k1 k2 : IntKind} (hx : st.ev x = .val (.int k m)) (nx : opIn st.n x = true) (h1 : P.underlying t = some (.int k1)) (h2 : P.underlying t2 = some (.int k2)) :
    OpWF P st ⟨dst, .convert t t2 x, ty, pos, aft, g⟩ := by
  intro ρ0 Z w ρ a hs
  refine wf_v ?_
  rw [hs.evv hx nx]
  intro w v w' h w2
  simp [convert, run_underlying h1, run_underlying h2, Conv.intToInt] at h ⊢
  exact h.1
theorem opWF_not {t : Nat} {x : Operand} {b : Bool} (hx : st.ev x = .val (.bool b)) (nx : opIn st.n x = true) : OpWF P st ⟨dst, .unOp .not t x, ty, pos, aft, g⟩ := by
  intro ρ0 Z w ρ a hs
  refine wf_v ?_
  rw [hs.evv hx nx]
  exact wf_pure _
theorem wf_under {α : Type} {t : TypeId} {d : TypeDesc} {f : TypeDesc → Sem α} (ht : P.underlying t = some d) (h : WF P (f d)) : WF P (underlying t >>= f) := by
  intro w v w' e w2
  rw [Sem.run_bind, run_underlying ht] at e ⊢
  exact h w v w' e w2
theorem opWF_build {t : Nat} {fs : Array Field} {parts : Array (Nat × Operand)} (ht : P.underlying t = some (.struct fs)) : OpWF P st ⟨dst, .build t parts, ty, pos, aft, g⟩ := by
  intro ρ0 Z w ρ a hs
  refine wf_v ?_
  unfold Instr.build
  refine wf_bind (wf_zeroValue t) fun z => ?_
  refine wf_under ht ?_
  have hm : WF P (fs.mapM fun f => do pure (f.offset, ← sizeOf f.type) : Sem (Array (Nat × Nat))) := by
    rw [← Array.toArray_toList (xs := fs), List.mapM_toArray]
    have : ∀ l : List Field, WF P (l.mapM fun f => do pure (f.offset, ← sizeOf f.type) : Sem (List (Nat × Nat))) := by
      intro l
      induction l with
      | nil => simp only [List.mapM_nil]; exact wf_pure _
      | cons x r ih => simp only [List.mapM_cons]; exact wf_bind (wf_bind (wf_sizeOf _) fun _ => wf_pure _) fun _ => wf_bind ih fun _ => wf_pure _
    have h2 := this fs.toList
    exact wf_bind h2 fun _ => wf_pure _
  refine wf_bind hm fun pl => ?_
  split
  · exact wf_pure _
  · exact (never_stuck _).wf

/- ### all orders -/

def TriAny (P : Program) (ops : Array Oper) (Q : Exit → St → Prop) (fuel : Nat) (listed : Array Bool) (st : St) : Prop :=
  ∀ ρ0 Z w ρ a, SR ρ0 Z w ρ a st → wpAny P .any ops (QL ρ0 Z w ρ Q) fuel listed a w
/-- Whichever of 'rs' comes first. -/
def AnyL (P : Program) (ops : Array Oper) (Q : Exit → St → Prop) (fuel : Nat) (listed : Array Bool) (rs : List Nat) (st : St) : Prop :=
  ∀ ρ0 Z w ρ a, SR ρ0 Z w ρ a st → ∀ i ∈ rs, wpOp P ops (QL ρ0 Z w ρ Q) i (wpAny P .any ops (QL ρ0 Z w ρ Q) fuel (listed.setIfInBounds i true)) a w

theorem wpAny_post {ops : Array Oper} {md : Region.Mode} {Q Q' : Exit → Act → World → Prop} (hq : ∀ e a w, Q e a w → Q' e a w) : ∀ (fuel : Nat) (listed : Array Bool) (a : Act) (w : World), wpAny P md ops Q fuel listed a w → wpAny P md ops Q' fuel listed a w
  | 0, _, _, _, h => ⟨h.1, hq _ _ _ h.2⟩
  | fuel + 1, listed, a, w, h => by
    refine ⟨fun hr => hq _ _ _ (h.1 hr), fun i hi => ?_⟩
    have h1 := h.2 i hi
    unfold wpOp at h1 ⊢
    split
    · rename_i ho; simp only [ho] at h1; exact wpAny_post hq _ _ _ _ h1
    · rename_i o ho
      simp only [ho] at h1
      split
      · rename_i hw; rw [if_pos hw] at h1
        exact h1.imp (fun h => Oper.wp_post h (fun a w => wpAny_post hq fuel _ a w) hq) (fun ⟨h1, a, w, h2⟩ => ⟨h1, a, w, hq _ _ _ h2⟩)
      · rename_i hw; rw [if_neg hw] at h1
        exact wpAny_post hq _ _ _ _ h1

variable {ops : Array Oper} {Q : Exit → St → Prop} {fuel : Nat} {listed : Array Bool}

theorem SR.drawn {ρ0 : Loc} {Z : Nat → Prop} {w : World} {ρ : Loc} {a : Act} (h : SR ρ0 Z w ρ a st) (n : Nat) : SR ρ0 Z { w with drawn := n } ρ a st ∧ Ext Z (Own ρ) w Z (Own ρ) { w with drawn := n } := by
  have hk : Keeps Z w Z { w with drawn := n } := ⟨fun _ h => h, fun _ _ => rfl, fun _ _ h => h⟩
  refine ⟨⟨h.rn, h.defers, h.size, fun t ht => (h.fr t ht).mono hk (Loc.le_refl _), ⟨h.H.dom, fun id o ho => ?_, h.H.inj⟩, h.zs⟩, { Ext.refl Z (Own ρ) w with toKeeps := hk }⟩
  obtain ⟨q, hq, hor⟩ := h.H.obj id o ho
  exact ⟨q, hq, hor.mono hk (Loc.le_refl _) fun b hb => ⟨rfl, Iff.rfl⟩⟩

theorem tri_any {id : Nat} (hm : P.follows .mixedOrders = true) (h : TriAny P ops Q ops.size (Array.replicate ops.size false) st) : Tri P (.region id ops true) Q st := by
  intro ρ0 Z w ρ a hs
  obtain ⟨h1, h2⟩ := hs.drawn (w.drawn + 1)
  exact wp_region_any hm (wpAny_post (fun _ _ _ q => QL.ext h2 q) _ _ _ _ (h ρ0 Z _ ρ a h1))

theorem any_done (hr : Region.ready .any ops listed = []) (h : Q .normal st) : TriAny P ops Q fuel listed st :=
  fun ρ0 Z w ρ _ hs => wpAny_done hr ⟨st, Z, ρ, h, hs, Ext.refl _ _ _⟩ fuel

theorem any_all {rs : List Nat} {fuel : Nat} (hr : Region.ready .any ops listed = rs) (hne : rs ≠ []) (h : AnyL P ops Q fuel listed rs st) : TriAny P ops Q (fuel + 1) listed st :=
  fun ρ0 Z w ρ a hs => wpAny_all hr hne (h ρ0 Z w ρ a hs)

theorem anyL_nil : AnyL P ops Q fuel listed [] st := fun _ _ _ _ _ _ _ h => by cases h

theorem opTri_any {o : Oper} {l2 : Array Bool} (h : OpTri P o (TriAny P ops Q fuel l2) st) {ρ0 : Loc} {Z : Nat → Prop} {w : World} {ρ : Loc} {a : Act} (hs : SR ρ0 Z w ρ a st) : o.wp P a w (wpAny P .any ops (QL ρ0 Z w ρ Q) fuel l2) (QL ρ0 Z w ρ Q) :=
  Oper.wp_post (h ρ0 Z w ρ a hs) (fun a' w' ⟨st', Z', ρ', hk, hs', he⟩ => wpAny_post (fun _ _ _ q => QL.ext he q) _ _ _ _ (hk ρ0 Z' w' ρ' a' hs')) (fun _ _ _ h => h.elim)

theorem anyL_cons {i : Nat} {o : Oper} {rs : List Nat} (hi : ops[i]? = some o) (hg : o.guard = none) (h : OpTri P o (TriAny P ops Q fuel (listed.setIfInBounds i true)) st) (hr : AnyL P ops Q fuel listed rs st) : AnyL P ops Q fuel listed (i :: rs) st := by
  intro ρ0 Z w ρ a hs j hj
  rcases List.mem_cons.1 hj with rfl | hj
  · unfold wpOp
    simp only [hi]
    rw [if_pos (by simp [Region.wanted, hg])]
    exact .inl (opTri_any h hs)
  · exact hr ρ0 Z w ρ a hs j hj

/-- An operation that only computes may come first. -/
theorem any_takeW {i : Nat} {o : Oper} (hi : ops[i]? = some o) (hw : ∀ a w ρ0 Z ρ, SR ρ0 Z w ρ a st → Region.wanted o (yielded ops a.tmps) = true) (hs : Region.noSelect ops = true) (hf : Region.free .any ops listed i = true) (hr : (Region.ready .any ops listed).contains i = true)
    (hQ : ∀ c s, ¬ Q (.panic c) s) (hv : OpWF P st o) (h : OpTri P o (TriAny P ops Q fuel (listed.setIfInBounds i true)) st) : TriAny P ops Q (fuel + 1) listed st := by
  intro ρ0 Z w ρ a hsr
  have h1 := h ρ0 Z w ρ a hsr
  have h2 := hv ρ0 Z w ρ a hsr w
  unfold Oper.wp at h1
  cases hrun : (execOp a.eval o).run P w with
  | halt x w' => rw [hrun] at h1; cases x <;> simp [Oper.upon] at h1
  | ok n w' =>
    obtain ⟨v, hn, hall⟩ := h2 n w' hrun
    subst hn
    have hww := hall w
    rw [hrun] at hww
    cases hww
    rw [hrun] at h1
    simp only [Oper.upon] at h1
    obtain ⟨st', Z', ρ', hk, hs', he⟩ := h1
    refine wpAny_take hi hs hf hr ?_ (.inl ⟨hw _ _ _ _ _ hsr, hall⟩) (wpAny_post (fun _ _ _ q => QL.ext he q) _ _ _ _ (hk ρ0 Z' w ρ' _ hs'))
    rintro c a2 w2 ⟨s2, _, _, hq, _⟩
    exact absurd hq (hQ _ _)
theorem any_take (i : Nat) {o : Oper} (hi : ops[i]? = some o) (hg : o.guard = none) (hs : Region.noSelect ops = true) (hf : Region.free .any ops listed i = true) (hr : (Region.ready .any ops listed).contains i = true)
    (hQ : ∀ c s, ¬ Q (.panic c) s) (hv : OpWF P st o) (h : OpTri P o (TriAny P ops Q fuel (listed.setIfInBounds i true)) st) : TriAny P ops Q (fuel + 1) listed st :=
  any_takeW hi (fun _ _ _ _ _ _ => by simp [Region.wanted, hg]) hs hf hr hQ hv h

theorem yielded_of {ρ0 : Loc} {Z : Nat → Prop} {w : World} {ρ : Loc} {a : Act} (hs : SR ρ0 Z w ρ a st) {j t : Nat} {b : Bool} (hj : (ops[j]?).bind (·.dst) = some t) (hb : get st.fr t = .val (.bool b)) (ht : Nat.blt t st.n = true) : yielded ops a.tmps j = some b := by
  have hlt : t < st.n := by simpa [Nat.blt_eq] using ht
  have hv := hs.fr t hlt
  rw [hb] at hv
  have hv' : a.tmps.getD t undef = .bool b := hv.val_eq
  have hsz : t < a.tmps.size := by rw [hs.size]; exact hlt
  unfold yielded
  rw [hj]
  have : a.tmps[t]? = some (.bool b) := by
    rw [Array.getElem?_eq_getElem hsz]
    simp [hsz] at hv'
    simp [hv']
  simp [this]
theorem any_takeY (i : Nat) {o : Oper} {j t : Nat} {want : Bool} (hi : ops[i]? = some o) (hg : o.guard = some (j, want)) (hj : (ops[j]?).bind (·.dst) = some t) (hb : get st.fr t = .val (.bool want)) (ht : Nat.blt t st.n = true)
    (hs : Region.noSelect ops = true) (hf : Region.free .any ops listed i = true) (hr : (Region.ready .any ops listed).contains i = true)
    (hQ : ∀ c s, ¬ Q (.panic c) s) (hv : OpWF P st o) (h : OpTri P o (TriAny P ops Q fuel (listed.setIfInBounds i true)) st) : TriAny P ops Q (fuel + 1) listed st :=
  any_takeW hi (fun _ _ _ _ _ hsr => by simp [Region.wanted, hg, yielded_of hsr hj hb ht]) hs hf hr hQ hv h
/-- Its guard says no. -/
theorem any_takeN (i : Nat) {o : Oper} {j t d : Nat} {want : Bool} (hi : ops[i]? = some o) (hg : o.guard = some (j, want)) (hj : (ops[j]?).bind (·.dst) = some t) (hb : get st.fr t = .val (.bool (!want))) (ht : Nat.blt t st.n = true) (hd : o.dst = some d) (hn : Nat.blt d st.n = true)
    (hs : Region.noSelect ops = true) (hf : Region.free .any ops listed i = true) (hr : (Region.ready .any ops listed).contains i = true)
    (hQ : ∀ c s, ¬ Q (.panic c) s) (h : TriAny P ops Q fuel (listed.setIfInBounds i true) (st.put d (.val (.tuple #[])))) : TriAny P ops Q (fuel + 1) listed st := by
  intro ρ0 Z w ρ a hsr
  have hw : Region.wanted o (yielded ops a.tmps) = false := by cases want <;> simp [Region.wanted, hg, yielded_of hsr hj hb ht]
  refine wpAny_take hi hs hf hr ?_ (.inr ⟨hw, rfl⟩) ?_
  · rintro c a2 w2 ⟨s2, _, _, hq, _⟩
    exact absurd hq (hQ _ _)
  · rw [hd]
    exact h ρ0 Z w ρ _ (hsr.put hn (.val _))
theorem anyL_consY {i : Nat} {o : Oper} {rs : List Nat} {j t : Nat} {want : Bool} (hi : ops[i]? = some o) (hg : o.guard = some (j, want)) (hj : (ops[j]?).bind (·.dst) = some t) (hb : get st.fr t = .val (.bool want)) (ht : Nat.blt t st.n = true)
    (h : OpTri P o (TriAny P ops Q fuel (listed.setIfInBounds i true)) st) (hr : AnyL P ops Q fuel listed rs st) : AnyL P ops Q fuel listed (i :: rs) st := by
  intro ρ0 Z w ρ a hs j hj'
  rcases List.mem_cons.1 hj' with rfl | hj'
  · unfold wpOp
    simp only [hi]
    rw [if_pos (by simp [Region.wanted, hg, yielded_of hs hj hb ht])]
    exact .inl (opTri_any h hs)
  · exact hr ρ0 Z w ρ a hs j hj'

/-- What all orders come to. -/
def cutQ (S : St) : Exit → St → Prop
  | .normal, s => Le s S
  | _, _ => False
theorem cutQ_no {S : St} (c : List PanicEntry) (s : St) : ¬ cutQ S (.panic c) s := fun h => h
theorem tri_anyCut {id : Nat} {S : St} (hm : P.follows .mixedOrders = true) (h : TriAny P ops (cutQ S) ops.size (Array.replicate ops.size false) st) (hk : Q .normal S) : Tri P (.region id ops true) Q st := by
  intro ρ0 Z w ρ a hs
  refine wp_mono (tri_any hm h ρ0 Z w ρ a hs) ?_
  rintro e a' w' ⟨st', Z', ρ', hq, hs', hx⟩
  cases e with
  | normal =>
    obtain ⟨Z2, ρ2, h2, x2⟩ := hq ρ0 Z' w' ρ' a' hs'
    exact ⟨S, Z2, ρ2, hk, h2, hx.trans x2⟩
  | _ => exact hq.elim

inductive FrIs (fr : List (Nat × AV)) (ids : List Nat) : List Nat → List (Nat × AV) → Prop
  | nil : FrIs fr ids [] []
  | cons {t : Nat} {x : AV} {ts : List Nat} {r : List (Nat × AV)} : (get fr t).ren (keepMap ids) = x → FrIs fr ids ts r → FrIs fr ids (t :: ts) ((t, x) :: r)
inductive HIs (H : List AObj) (ids : List Nat) : List Nat → List AObj → Prop
  | nil : HIs H ids [] []
  | cons {i : Nat} {o : AObj} {is : List Nat} {r : List AObj} : ((H[i]?).getD default).ren (keepMap ids) = o → HIs H ids is r → HIs H ids (i :: is) (o :: r)
theorem FrIs.ok {fr : List (Nat × AV)} {ids : List Nat} : ∀ {ts : List Nat} {s : List (Nat × AV)}, FrIs fr ids ts s → FrOk fr ids s
  | _, _, .nil => trivial
  | _, _, .cons h r => ⟨h, r.ok⟩
theorem HIs.ok {H : List AObj} {ids : List Nat} : ∀ {is : List Nat} {s : List AObj}, HIs H ids is s → HOk H ids is s
  | _, _, .nil => trivial
  | _, _, .cons h r => ⟨h, r.ok⟩
/-- The end of one order. -/
theorem any_leaf {fr : List (Nat × AV)} {H : List AObj} {n : Nat} (ids ts : List Nat) (hr : Region.ready .any ops listed = []) (hn : nodupB ids = true) (hlt : ids.all (fun id => Nat.blt id st.H.length) = true) (hsn : st.n = n)
    (hfr : FrIs st.fr ids ts fr) (hH : HIs st.H ids ids H) : TriAny P ops (cutQ ⟨n, noM, fr, H⟩) fuel listed st :=
  any_done hr (le_kept ids hn hlt (fun _ _ h => by cases h) hsn hfr.ok hH.ok)
end
end Go.Av
namespace Go.Av
theorem Elem.mk {P : Program} {t e sz bytes : Nat} {z : Value} {i : TypeInfo} (h1 : P.underlying t = some (.slice e)) (h2 : P.info? e = some i) (h3 : i.zero = some z) (h4 : i.size = sz) (h5 : i.bytes = bytes) (h6 : z.cells.size = sz)
    (h7 : Nat.blt 0 sz = true) (h8 : Nat.blt 0 bytes = true) : Elem P t e sz bytes z := ⟨h1, i, h2, h3, h4, h5, h6, by simpa [Nat.blt_eq] using h7, by simpa [Nat.blt_eq] using h8⟩
end Go.Av
namespace Go.Av
section
variable {P : Program} {K : St → Prop} {st : St} {ty : TypeId} {pos : String} {aft : Array Edge} {g : Option (Nat × Bool)} {d : Nat}
theorem lit_buildSlice {t e sz bytes n id : Nat} {ps : Array (Nat × Operand)} {z : Value} {cs es : List AV} {L : List (Nat × AV)} {ag : Bool} (refs : Bool) (h1 : P.underlying t = some (.slice e)) {i : TypeInfo} (h2 : P.info? e = some i) (h3 : i.zero = some z) (h4 : i.size = sz) (h5 : i.bytes = bytes) (h6 : z.cells.size = sz)
    (h7 : Nat.blt 0 sz = true) (h8 : Nat.blt 0 bytes = true) (hid : st.H.length = id) (hn24 : Nat.ble (n * sz) 16777216 = true) (hn0 : Nat.blt 0 n = true)
    (hL : partsAV st ps = L) (hf : fillAV (fun i => some (i * sz, sz)) (zeros z (n * sz)) L = some cs) (hes : chunkAV ag sz n cs = es) (hfl : flat es = cs) (hal : es.all (fun x => Nat.beq x.cells.length sz) = true) (hnn : es.length = n)
    (hone : cs.all AV.one = true) (hp : refs = true ∨ AV.pureB.pureL cs = true) (hn : ps.toList.all (fun p => opIn st.n p.2) = true) (hd : Nat.blt d st.n = true)
    (hk : K ((st.push (.mk e refs false sz es)).put d (.osl id sz 0 n))) : OpTri P ⟨some d, .buildSlice t n ps, ty, pos, aft, g⟩ K st :=
  op_buildSlice (Elem.mk h1 h2 h3 h4 h5 h6 h7 h8) hn24 hn0 hL hf hes hfl hal hnn hone hp hn hd (by rw [hid]; exact hk)
end
end Go.Av
namespace Go.Av
section
variable {P : Program} {K : St → Prop} {st : St} {ty : TypeId} {pos : String} {aft : Array Edge} {g : Option (Nat × Bool)} {d : Nat}
theorem lit_box (n : Nat) {t : TypeId} {x : Operand} {y : AV} {id : Nat} (hx : st.ev x = y) (hid : st.H.length = id) (hl : y.cells.length = n) (hn : opIn st.n x = true) (hd : Nat.blt d st.n = true) (ho : y.ok = true) (h1 : y.cells.all AV.one = true)
    (hk : K ((st.push (.mk t true false n [y])).put d (.ptr id n 0 0))) : OpTri P ⟨some d, .box t x, ty, pos, aft, g⟩ K st :=
  op_box hx hn hd ho h1 (by rw [hid, hl]; exact hk)
theorem lit_alloc (n : Nat) {t : TypeId} {i : TypeInfo} {z : Value} {y : AV} {id : Nat} (hi : P.info? t = some i) (hz : i.zero = some z) (hy : ofVal z = y) (hid : st.H.length = id) (hl : y.cells.length = n) (hd : Nat.blt d st.n = true) (ho : y.ok = true) (h1 : y.cells.all AV.one = true)
    (hk : K ((st.push (.mk t true false n [y])).put d (.ptr id n 0 0))) : OpTri P ⟨some d, .alloc t, ty, pos, aft, g⟩ K st :=
  op_alloc hi hz hy hd ho h1 (by rw [hid, hl]; exact hk)
theorem lit_own (t e sz : Nat) {id : Nat} (ht : get st.fr t = .val (.slice none 0 0)) (hid : st.H.length = id) : Le st ((st.push (.mk e false false sz [])).put t (.osl id sz 0 0)) := by
  rw [← hid]; exact le_own t e sz ht
theorem lit_makeSlice {t e bytes n id : Nat} {x y : Operand} {k k' : IntKind} {i : Int} {z : Value} (hE : Elem P t e 1 bytes z) (hx : st.ev x = .val (.int k i)) (hy : st.ev y = .val (.int k' i)) (nx : opIn st.n x = true) (ny : opIn st.n y = true) (hi : i.toNat = n) (h0 : 0 ≤ i)
    (hone : z.oneCell' = true) (hb : bytes * n ≤ 281474976710656) (hn63 : n ≤ 9223372036854775807) (hd : Nat.blt d st.n = true) (hid : st.H.length = id)
    (hk : K ((st.push (.mk e false false 1 (List.replicate n (.val z)))).put d (.osl id 1 0 n))) : OpTri P ⟨some d, .makeSlice t x y, ty, pos, aft, g⟩ K st :=
  step_makeSlice hE hx hy nx ny hi h0 hone hb hn63 hd (by rw [hid]; exact hk)
end
end Go.Av
namespace Go.Av
theorem Src.own {st : St} {id sz i len : Nat} {ty : TypeId} {fz : Bool} {es ys : List AV} (ho : st.H[id]? = some (.mk ty false fz sz es)) (hys : (es.drop i).take len = ys) (hl : i + len ≤ es.length) : Src st (.osl id sz i len) sz ys true :=
  Src.osl ho rfl hys hl
theorem SnapR.own {st : St} {id sz i len : Nat} {ty : TypeId} {fz : Bool} {es ys : List AV} (ho : st.H[id]? = some (.mk ty false fz sz es)) (hys : (es.drop i).take len = ys) (hl : i + len ≤ es.length) : SnapR st (.osl id sz i len) (.sl sz ys) [id] :=
  SnapR.osl ho rfl rfl hys hl
end Go.Av
namespace Go.Av
theorem any_self {sel : List Nat} : ∀ (k i : Nat), sel[k]? = some i → sel.any (fun j => Nat.beq j i) = true := by
  intro k i h
  exact List.any_eq_true.2 ⟨i, List.mem_of_getElem? h, by simp⟩
theorem hand_kill {sel : List Nat} {H' : List AObj} {m : Nat → Option Nat} (h : sel.length ≤ H'.length) : sel.length ≤ H'.length ∧ ∀ (k i : Nat), sel[k]? = some i → sel.any (fun j => Nat.beq j i) = true ∨ m k = some k :=
  ⟨h, fun k i hk => .inl (any_self k i hk)⟩
end Go.Av
namespace Go.Av
theorem SnapR.nil {st : St} {sz : Nat} {q : Option Addr} {c : Nat} : SnapR st (.val (.slice q 0 c)) (.sl sz []) [] := by
  intro ρ0 Z w ρ a v _ h
  have := h.val_eq; subst this
  exact .slnil
theorem hand_one {o : Nat} {H' : List AObj} {m : Nat → Option Nat} (hl : 1 ≤ H'.length) (h : m 0 = some 0) : [o].length ≤ H'.length ∧ ∀ (k i : Nat), [o][k]? = some i → ([] : List Nat).any (fun j => Nat.beq j i) = true ∨ m k = some k := by
  refine ⟨hl, fun k i hk => .inr ?_⟩
  cases k with
  | zero => exact h
  | succ k => simp at hk
theorem keep0 : ∀ (i k : Nat), keepMap [0] i = some k → ((some i).bind (keepMap [0])) = some k := fun _ _ h => h
theorem keep00 : ∀ (i k : Nat), keepMap [0] i = some k → ((keepMap [0] i).bind (keepMap [0])) = some k := by
  intro i k h
  have h1 := keepMap_get h
  cases k with
  | zero => simp at h1; subst h1; rfl
  | succ k => simp at h1
end Go.Av
namespace Go.Av
section
variable {P : Program} {K : St → Prop} {st : St} {ty : TypeId} {pos : String} {aft : Array Edge} {g : Option (Nat × Bool)}
theorem lit_store {t : TypeId} {x y : Operand} {id sz i j : Nat} {oty : TypeId} {rf : Bool} {es es' : List AV} {cs cs' : List AV} {v : AV} (hx : st.ev x = .ptr id sz i j) (hy : st.ev y = v) (nx : opIn st.n x = true) (ny : opIn st.n y = true)
    (ho : st.H[id]? = some (.mk oty rf false sz es)) (he : es[i]? = some (.agg cs)) (hcl : cs.length = sz) (hz : szT P t = some 1) (ht : aggT P t = some false) (hok : v.one = true) (hp : rf = true ∨ v.pureB = true)
    (hj : Nat.blt j sz = true) (hcs : cs.set j v = cs') (hes : es.set i (.agg cs') = es') (hk : K (st.setO id (.mk oty rf false sz es'))) : OpTri P ⟨none, .store t x y, ty, pos, aft, g⟩ K st := by
  subst hcs; subst hes
  exact op_store hx hy nx ny ho rfl rfl he hcl hz ht hok hp hj hk
end
end Go.Av
namespace Go.Av
section
variable {P : Program} {st : St}
theorem HIs.eq {H : List AObj} {ids : List Nat} : ∀ {is : List Nat} {s : List AObj}, HIs H ids is s → is.map (fun id => ((H[id]?).getD default).ren (keepMap ids)) = s
  | _, _, .nil => rfl
  | _, _, .cons h r => by simp only [List.map_cons, h, r.eq]
theorem retE_r {fn : Func} {Post : AV → List AObj → (Nat → Option Nat) → Prop} {xs : List AV} (ids : List Nat) {r : AV} {H : List AObj} (hr : ResL P st fn.results.toList xs) (hn : nodupB ids = true) (hl : ids.all (fun id => Nat.blt id st.H.length) = true)
    (hv : (retAV xs).ren (keepMap ids) = r) (hH : HIs st.H ids ids H) (hp : Post r H (fun i => (st.m i).bind (keepMap ids))) : RetQ P fn Post .ret st := by
  refine ⟨xs, ids, hr, hn, hl, ?_⟩
  rw [hv, show pick st.H ids = H from hH.eq]; exact hp
theorem retE_n {fn : Func} {Post : AV → List AObj → (Nat → Option Nat) → Prop} {xs : List AV} (ids : List Nat) {r : AV} {H : List AObj} (hr : ResL P st fn.results.toList xs) (hn : nodupB ids = true) (hl : ids.all (fun id => Nat.blt id st.H.length) = true)
    (hv : (retAV xs).ren (keepMap ids) = r) (hH : HIs st.H ids ids H) (hp : Post r H (fun i => (st.m i).bind (keepMap ids))) : RetQ P fn Post .normal st := by
  refine ⟨xs, ids, hr, hn, hl, ?_⟩
  rw [hv, show pick st.H ids = H from hH.eq]; exact hp
end
end Go.Av

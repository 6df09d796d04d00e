/- A text of the proof of JournalTorn: AvEq -/
import Derived.Test.YtjalgcjllddmhaaAvOps
import Derived.Laws.StructEq
/- Equality of structs whose fields are plain cells. -/
namespace Go.Av

theorem VRs.vals {Z : Nat → Prop} {w : World} {ρ : Loc} : ∀ {xs : List Value} {vs : List Value}, VRs Z w ρ (xs.map AV.val) vs → vs = xs
  | [], _, .nil => rfl
  | x :: r, _, .cons h hs => by cases h; rw [hs.vals]

def unvals : List AV → Option (List Value)
  | [] => some []
  | .val v :: r => match unvals r with | some l => some (v :: l) | none => none
  | _ :: _ => none
theorem unvals_eq : ∀ {cs : List AV} {xs : List Value}, unvals cs = some xs → cs = xs.map .val
  | [], xs, h => by simp only [unvals, Option.some.injEq] at h; subst h; rfl
  | c :: r, xs, h => by
    cases c with
    | val v =>
      unfold unvals at h
      cases hr : unvals r with
      | none => rw [hr] at h; cases h
      | some l => rw [hr] at h; simp only [Option.some.injEq] at h; subst h; rw [unvals_eq hr]; rfl
    | _ => simp [unvals] at h

theorem run_part_one {P : Program} (w : World) {e : TypeId} (he : aggT P e = some false) {xs : Array Value} {off : Nat} {v : Value} (hx : xs[off]? = some v) : (part e xs off).run P w = .ok v w := by
  unfold part
  simp only [Sem.run_bind, run_isAgg he, Result.andThen, Bool.false_eq_true, if_false]
  simp [hx]

/-- The fields compared one after the other. -/
inductive EqF (P : Program) (xs ys : Array Value) : List Field → Bool → Prop
  | nil : EqF P xs ys [] true
  | int {f : Field} {fs : List Field} {r : Bool} {k k2 : IntKind} {a b : Int} : (f.name == "_") = false → xs[f.offset]? = some (.int k a) → ys[f.offset]? = some (.int k b) → P.underlying f.type = some (.int k2) → EqF P xs ys fs r → EqF P xs ys (f :: fs) ((a == b) && r)
  | bool {f : Field} {fs : List Field} {r : Bool} {a b : Bool} : (f.name == "_") = false → xs[f.offset]? = some (.bool a) → ys[f.offset]? = some (.bool b) → P.underlying f.type = some .bool → EqF P xs ys fs r → EqF P xs ys (f :: fs) ((a == b) && r)
  | str {f : Field} {fs : List Field} {r : Bool} {a b : ByteArray} : (f.name == "_") = false → xs[f.offset]? = some (.string a) → ys[f.offset]? = some (.string b) → P.underlying f.type = some .string → EqF P xs ys fs r → EqF P xs ys (f :: fs) ((a.toList == b.toList) && r)

theorem EqF.run {P : Program} {xs ys : Array Value} {fs : List Field} {r : Bool} (h : EqF P xs ys fs r) (d : Nat) (w : World) : (Op.eqFields (d + 1) xs ys fs).run P w = .ok r w := by
  induction h with
  | nil => simp [Op.eqFields]
  | @int f fs r k k2 a b hn hx hy ht _ ih =>
    have ha : aggT P f.type = some false := by simp [aggT, ht]
    have hn' : f.name ≠ "_" := by simpa using hn
    unfold Op.eqFields
    rw [if_pos hn']
    simp only [Sem.run_bind, run_part_one w ha hx, Result.andThen, run_part_one w ha hy, run_equalIn_int w d f.type k k2 a b ht]
    cases hab : (a == b) <;> simp [ih]
  | @bool f fs r a b hn hx hy ht _ ih =>
    have ha : aggT P f.type = some false := by simp [aggT, ht]
    have hn' : f.name ≠ "_" := by simpa using hn
    unfold Op.eqFields
    rw [if_pos hn']
    simp only [Sem.run_bind, run_part_one w ha hx, Result.andThen, run_part_one w ha hy, run_equalIn_bool' w d f.type a b ht]
    cases hab : (a == b) <;> simp [ih]
  | @str f fs r a b hn hx hy ht _ ih =>
    have ha : aggT P f.type = some false := by simp [aggT, ht]
    have hn' : f.name ≠ "_" := by simpa using hn
    unfold Op.eqFields
    rw [if_pos hn']
    simp only [Sem.run_bind, run_part_one w ha hx, Result.andThen, run_part_one w ha hy, run_equalIn_string w d f.type a b ht]
    cases hab : (a.toList == b.toList) <;> simp [ih]

section
variable {P : Program} {K : St → Prop} {st : St} {ty : TypeId} {pos : String} {aft : Array Edge} {g : Option (Nat × Bool)} {d : Nat}

theorem op_st {op : BinOp} {t yt : TypeId} {x y : Operand} {cx cy : List AV} {xs ys : List Value} {fs : List Field} {r q : Bool} (hx : st.ev x = .agg cx) (hy : st.ev y = .agg cy) (ux : unvals cx = some xs) (uy : unvals cy = some ys) (nx : opIn st.n x = true) (ny : opIn st.n y = true)
    (hd : Nat.blt d st.n = true) (ht : P.underlying t = some (.struct (P.fieldsOf t))) (hp : P.stoodInHeld t = false) (hm : P.eqGuardType P.depth t = false) (hf : (P.fieldsOf t).toList = fs) (he : EqF P xs.toArray ys.toArray fs r)
    (ho : (op = .eql ∧ q = r) ∨ (op = .neq ∧ q = !r)) (hk : K (st.put d (.val (.bool q)))) : OpTri P ⟨some d, .binOp op t x y yt, ty, pos, aft, g⟩ K st :=
  op_pure rfl hd (fun ρ0 Z w ρ a hs => by
    have h1 := hs.eva hx nx
    have h2 := hs.eva hy ny
    generalize hv1 : a.eval x = v1 at h1
    generalize hv2 : a.eval y = v2 at h2
    cases h1 with
    | agg e1 l1 =>
      cases h2 with
      | agg e2 l2 =>
        rw [unvals_eq ux] at l1; rw [unvals_eq uy] at l2
        have e3 := l1.vals; have e4 := l2.vals
        subst e3; subst e4; subst e1; subst e2
        refine ⟨.bool q, ?_, .val _⟩
        have hr := EqF.run he 9998 w
        rw [← hf] at hr
        simp only [execOp, hv1, hv2, Sem.run_bind, run_eqGuard_agg w op t x y _ _ hm, Result.andThen_ok]
        rcases ho with ⟨rfl, rfl⟩ | ⟨rfl, rfl⟩
        · rw [run_eql_struct, run_equalIn_struct w 9999 t _ _ ht hp, hr]; rfl
        · rw [run_neq_struct, run_equalIn_struct w 9999 t _ _ ht hp, hr]; rfl) hk
end
end Go.Av

/- A text of the proof of JournalTorn: JBase -/
import Derived.Test.YtjalgcjllddmhaaAvStep
/- The journal's plain definitions. -/
namespace Go.Proofs.Ytjalgcjllddmhaa
open Go.Av

def isLetter (n : Int) : Bool := (65 ≤ n && n ≤ 90) || (97 ≤ n && n ≤ 122)
def isPart (n : Int) : Bool := isLetter n || (48 ≤ n && n ≤ 57) || n == 95 || n == 45 || n == 46
def isName (l : List UInt8) : Bool := 1 ≤ l.length && l.length ≤ 40 && isLetter ((l.headD 0).toNat) && l.all (fun b => isPart b.toNat)
theorem isName_step {l : List UInt8} {k : Nat} (h : ∀ (j : Nat) b, j < k → l[j]? = some b → isPart b.toNat = true) (hk : isPart (l.getD k 0).toNat = true) : ∀ (j : Nat) b, j < k + 1 → l[j]? = some b → isPart b.toNat = true := by
  intro j b hj hb
  rcases Nat.lt_or_eq_of_le (Nat.le_of_lt_succ hj) with h1 | h1
  · exact h j b h1 hb
  · subst h1; simpa [List.getD, hb] using hk

structure Val where
  kind : Int
  num : Int
  s : ByteArray
structure Cmd where
  kind : Int
  trans : Int
  time : Int
  case : ByteArray
  person : ByteArray
  to : ByteArray
  data : List Val
structure Sto where
  bytes : List UInt8
  durable : Int
  after : Int

abbrev iv (n : Int) : AV := .val (.int .i64 n)
abbrev bv (b : Bool) : AV := .val (.bool b)
abbrev sv (s : ByteArray) : AV := .val (.string s)
def byteAV (b : UInt8) : AV := .val (.int .u8 b.toNat)
def bytesAV (l : List UInt8) : List AV := l.map fun b => .val (.int .u8 b.toNat)
def valAV (v : Val) : AV := .agg [iv v.kind, iv v.num, sv v.s]
def cmdAV (c : Cmd) : AV := .agg [iv c.kind, iv c.trans, iv c.time, sv c.case, sv c.person, sv c.to, .sl 3 (c.data.map valAV)]
def stoAV (s : Sto) : AV := .agg [.sl 1 (bytesAV s.bytes), iv s.durable, iv s.after]

@[simp] theorem bytesAV_length (l : List UInt8) : (bytesAV l).length = l.length := by simp [bytesAV]
@[simp] theorem bytesAV_append (l m : List UInt8) : bytesAV (l ++ m) = bytesAV l ++ bytesAV m := by simp [bytesAV]

theorem take_vals (l : List Val) : (l.map valAV).take l.length = l.map valAV := List.take_of_length_le (by simp)
theorem take_bytes (l : List UInt8) : (bytesAV l).take l.length = bytesAV l := List.take_of_length_le (by simp)

/- ### numbers -/
def enc (n : Nat) : List UInt8 := if n < 128 then [UInt8.ofNat n] else UInt8.ofNat (n % 128 + 128) :: enc (n / 128)
termination_by n
decreasing_by omega

theorem enc_lt {n : Nat} (h : n < 128) : enc n = [UInt8.ofNat n] := by rw [enc, if_pos h]
theorem enc_ge {n : Nat} (h : 128 ≤ n) : enc n = UInt8.ofNat (n % 128 + 128) :: enc (n / 128) := by rw [enc, if_neg (by omega)]
theorem enc_length_le : ∀ (k n : Nat), n < 128 ^ k → (enc n).length ≤ k + (if k = 0 then 1 else 0)
  | 0, n, h => by simp at h; subst h; rw [enc_lt (by omega)]; simp
  | k + 1, n, h => by
    by_cases h1 : n < 128
    · rw [enc_lt h1]; simp
    · rw [enc_ge (by omega)]
      have := enc_length_le k (n / 128) (by rw [Nat.pow_succ] at h; omega)
      by_cases hk : k = 0
      · subst hk; simp at h; omega
      · simp [hk] at this ⊢; omega
theorem enc_length {n : Nat} (h : n < 2 ^ 63) : (enc n).length ≤ 9 := by
  have := enc_length_le 9 n (by simpa using h)
  simpa using this
theorem enc_pos (n : Nat) : 1 ≤ (enc n).length := by rw [enc]; split <;> simp

theorem wrap_lo {n : Nat} (h : n < 128) : IntKind.u8.wrap (n : Int) = ((UInt8.ofNat n).toNat : Int) := by
  have : ∀ k : Fin 128, IntKind.u8.wrap ((k.val : Nat) : Int) = ((UInt8.ofNat k.val).toNat : Int) := by decide
  exact this ⟨n, h⟩
theorem wrap_hi {n : Nat} : IntKind.u8.wrap ((BitVec.ofInt IntKind.u8.bits (IntKind.u8.wrap ((n : Int) % 128)) ||| BitVec.ofInt IntKind.u8.bits 128).toNat : Int) = ((UInt8.ofNat (n % 128 + 128)).toNat : Int) := by
  have : ∀ k : Fin 128, IntKind.u8.wrap ((BitVec.ofInt IntKind.u8.bits (IntKind.u8.wrap ((k.val : Nat) : Int)) ||| BitVec.ofInt IntKind.u8.bits 128).toNat : Int) = ((UInt8.ofNat (k.val + 128)).toNat : Int) := by decide
  have h := this ⟨n % 128, by omega⟩
  rw [show ((n : Int) % 128) = ((n % 128 : Nat) : Int) by omega]
  exact h
theorem enc_step {n : Nat} (h : 128 ≤ n) (a : List UInt8) : (a ++ [UInt8.ofNat (n % 128 + 128)]) ++ enc (n / 128) = a ++ enc n := by
  rw [List.append_assoc, List.singleton_append, ← enc_ge h]

/- ### codes -/
def encS (s : ByteArray) : List UInt8 := enc s.size ++ s.data.toList
def encV (v : Val) : List UInt8 := enc v.kind.toNat ++ (if v.kind = 3 then encS v.s else if v.kind = 1 then enc v.num.toNat else if v.num < 0 then enc (-2 * v.num - 1).toNat else enc (2 * v.num).toNat)
def head1 (c : Cmd) : List UInt8 := enc c.kind.toNat ++ enc c.trans.toNat ++ enc c.time.toNat
def head2 (c : Cmd) : List UInt8 := head1 c ++ encS c.case ++ encS c.person ++ encS c.to
def head3 (c : Cmd) : List UInt8 := head2 c ++ enc c.data.length
def code (c : Cmd) : List UInt8 := head3 c ++ c.data.flatMap encV

def isText (l : List UInt8) : Bool := decide (l.length ≤ 200) && !l.any (fun b => decide ((b.toNat : Int) < 32) || decide (126 < (b.toNat : Int)))
def isNumber (n : Int) : Bool := decide (-4503599627370496 ≤ n) && decide (n ≤ 4503599627370496)
def validV (v : Val) : Bool :=
  if v.kind = 1 then (v.num == 0 || v.num == 1) && v.s.data.toList == []
  else if v.kind = 2 then isNumber v.num && v.s.data.toList == []
  else if v.kind = 3 then v.num == 0 && isText v.s.data.toList
  else false
def nameB (s : ByteArray) : Bool := s.data.toList == [] || isName s.data.toList
def formed (c : Cmd) : Bool :=
  decide (1 ≤ c.kind) && decide (c.kind ≤ 7) && decide (0 ≤ c.trans) && decide (c.trans < 60) && decide (0 ≤ c.time) && decide (c.time ≤ 1099511627776) && decide (c.data.length ≤ 8) &&
    (nameB c.case && nameB c.person && nameB c.to) && c.data.all validV

theorem size_toList (s : ByteArray) : s.data.toList.length = s.size := by simp
theorem encS_length (s : ByteArray) : (encS s).length = (enc s.size).length + s.size := by simp [encS]
theorem nameB_size {s : ByteArray} (h : nameB s = true) : s.size ≤ 40 := by
  rw [← size_toList]
  simp only [nameB, isName, Bool.or_eq_true, Bool.and_eq_true, decide_eq_true_eq, beq_iff_eq] at h
  rcases h with h | h
  · rw [h]; simp
  · omega
theorem validV_facts {v : Val} (h : validV v = true) : 1 ≤ v.kind ∧ v.kind ≤ 3 ∧ -4503599627370496 ≤ v.num ∧ v.num ≤ 4503599627370496 ∧ v.s.size ≤ 200 ∧ (v.kind = 1 → 0 ≤ v.num) := by
  rw [← size_toList]
  unfold validV at h
  split at h
  · simp at h; obtain ⟨h1, h2⟩ := h; rw [show v.s.data.toList = [] by simp [h2]]; simp; omega
  · split at h
    · simp [isNumber] at h; obtain ⟨h1, h2⟩ := h; rw [show v.s.data.toList = [] by simp [h2]]; simp; omega
    · split at h
      · simp [isText] at h; simp; omega
      · cases h
theorem formed_facts {c : Cmd} (h : formed c = true) : 1 ≤ c.kind ∧ c.kind ≤ 7 ∧ 0 ≤ c.trans ∧ c.trans < 60 ∧ 0 ≤ c.time ∧ c.time ≤ 1099511627776 ∧ c.data.length ≤ 8 ∧ c.case.size ≤ 40 ∧ c.person.size ≤ 40 ∧ c.to.size ≤ 40 ∧ ∀ v ∈ c.data, validV v = true := by
  simp only [formed, Bool.and_eq_true, decide_eq_true_eq, List.all_eq_true] at h
  obtain ⟨⟨⟨⟨⟨⟨⟨⟨h1, h2⟩, h3⟩, h4⟩, h5⟩, h6⟩, h7⟩, ⟨h8, h9⟩, h10⟩, h11⟩ := h
  exact ⟨h1, h2, h3, h4, h5, h6, h7, nameB_size h8, nameB_size h9, nameB_size h10, h11⟩
theorem encV_length {v : Val} (h : validV v = true) : (encV v).length ≤ 220 := by
  obtain ⟨h1, h2, h3, h4, h5, h6⟩ := validV_facts h
  have e1 := enc_length (n := v.kind.toNat) (by omega)
  have e2 := enc_length (n := v.s.size) (by omega)
  have e3 := enc_length (n := v.num.toNat) (by omega)
  have e4 := enc_length (n := (-2 * v.num - 1).toNat) (by omega)
  have e5 := enc_length (n := (2 * v.num).toNat) (by omega)
  unfold encV
  rw [List.length_append]
  split
  · rw [encS_length]; omega
  · split
    · omega
    · split <;> omega
theorem flat_length_le {l : List Val} (h : ∀ v ∈ l, validV v = true) : (l.flatMap encV).length ≤ 220 * l.length := by
  induction l with
  | nil => simp
  | cons v r ih =>
    have := ih (fun v hv => h v (by simp [hv]))
    have := encV_length (h v (by simp))
    simp only [List.flatMap_cons, List.length_append, List.length_cons]
    omega
theorem head3_length {c : Cmd} (h : formed c = true) : (head3 c).length ≤ 200 := by
  obtain ⟨h1, h2, h3, h4, h5, h6, h7, h8, h9, h10, h11⟩ := formed_facts h
  have e1 := enc_length (n := c.kind.toNat) (by omega)
  have e2 := enc_length (n := c.trans.toNat) (by omega)
  have e3 := enc_length (n := c.time.toNat) (by omega)
  have e4 := enc_length (n := c.case.size) (by omega)
  have e5 := enc_length (n := c.person.size) (by omega)
  have e6 := enc_length (n := c.to.size) (by omega)
  have e7 := enc_length (n := c.data.length) (by omega)
  simp only [head3, head2, head1, List.length_append, encS_length]
  omega
theorem code_length {c : Cmd} (h : formed c = true) : (code c).length ≤ 2000 := by
  have h1 := head3_length h
  obtain ⟨_, _, _, _, _, _, h7, _, _, _, h11⟩ := formed_facts h
  have h2 := flat_length_le h11
  simp only [code, List.length_append]
  omega
end Go.Proofs.Ytjalgcjllddmhaa

/- A text of the proof of JournalTorn: JSum -/
import Derived.Test.YtjalgcjllddmhaaJName
/- The check sum, plain. -/
namespace Go.Proofs.Ytjalgcjllddmhaa
open Go.Av

def crcBit (x : BitVec 32) : BitVec 32 := if (x &&& 1#32).toNat = 1 then (x >>> 1) ^^^ 3988292384#32 else x >>> 1
def crcBits : Nat → BitVec 32 → BitVec 32
  | 0, x => x
  | n + 1, x => crcBit (crcBits n x)
def crcByte (x : BitVec 32) (c : UInt8) : BitVec 32 := crcBits 8 (x ^^^ BitVec.ofNat 32 c.toNat)
def crc (l : List UInt8) : BitVec 32 := l.foldl crcByte 4294967295#32
def sum (l : List UInt8) : Nat := (~~~ (crc l)).toNat
abbrev uv (x : BitVec 32) : AV := .val (.int .u32 (x.toNat : Int))

theorem wrap32 (x : BitVec 32) : IntKind.u32.wrap (x.toNat : Int) = (x.toNat : Int) := by
  have := x.isLt
  simp only [IntKind.wrap, show IntKind.u32.bits = 32 from rfl, show IntKind.u32.signed = false from rfl, Bool.false_and, Bool.false_eq_true, if_false]
  omega
theorem of32 (x : BitVec 32) : BitVec.ofInt IntKind.u32.bits (x.toNat : Int) = x := by
  show BitVec.ofInt 32 (x.toNat : Int) = x
  rw [BitVec.ofInt_natCast]; simp
theorem xor32 (x y : BitVec 32) : IntKind.u32.wrap ((BitVec.ofInt IntKind.u32.bits (x.toNat : Int) ^^^ BitVec.ofInt IntKind.u32.bits (y.toNat : Int)).toNat : Int) = ((x ^^^ y).toNat : Int) := by
  rw [of32, of32]; exact wrap32 _
theorem conv8 (c : UInt8) : IntKind.u32.wrap (c.toNat : Int) = ((BitVec.ofNat 32 c.toNat).toNat : Int) := by
  have h : (BitVec.ofNat 32 c.toNat).toNat = c.toNat := by simp; try (have := c.toNat_lt; omega)
  have h2 := wrap32 (BitVec.ofNat 32 c.toNat)
  rw [h] at h2 ⊢; exact h2
theorem and1 (x : BitVec 32) : IntKind.u32.wrap ((BitVec.ofInt IntKind.u32.bits (x.toNat : Int) &&& BitVec.ofInt IntKind.u32.bits 1).toNat : Int) = ((x &&& 1#32).toNat : Int) := by
  rw [of32]; exact wrap32 _
theorem shr1 (x : BitVec 32) : (x.toNat : Int).fdiv (2 ^ min (1 : Int).toNat IntKind.u32.bits) = ((x >>> 1).toNat : Int) := by
  have : min (1 : Int).toNat IntKind.u32.bits = 1 := rfl
  rw [this, Int.fdiv_eq_ediv_of_nonneg _ (by decide)]
  simp [Nat.shiftRight_eq_div_pow]
theorem xorP (x : BitVec 32) : IntKind.u32.wrap ((BitVec.ofInt IntKind.u32.bits (x.toNat : Int) ^^^ BitVec.ofInt IntKind.u32.bits 3988292384).toNat : Int) = ((x ^^^ 3988292384#32).toNat : Int) := by
  rw [of32]; exact wrap32 _
theorem allOnes_eq : BitVec.ofInt 32 4294967295 = BitVec.allOnes 32 := by decide
theorem compl32' (x : BitVec 32) : IntKind.u32.wrap ((BitVec.ofInt IntKind.u32.bits (if IntKind.u32.signed then -1 else IntKind.u32.max) ^^^ BitVec.ofInt IntKind.u32.bits (x.toNat : Int)).toNat : Int) = ((~~~ x).toNat : Int) := by
  rw [of32]
  show IntKind.u32.wrap ((BitVec.ofInt 32 4294967295 ^^^ x : BitVec 32).toNat : Int) = _
  rw [allOnes_eq, BitVec.allOnes_xor, wrap32]
theorem compl32 (x : BitVec 32) : IntKind.i64.wrap (IntKind.u32.wrap ((BitVec.ofInt IntKind.u32.bits (if IntKind.u32.signed then -1 else IntKind.u32.max) ^^^ BitVec.ofInt IntKind.u32.bits (x.toNat : Int)).toNat : Int)) = ((~~~ x).toNat : Int) := by
  rw [compl32', wrap64]
  have := (~~~ x).isLt
  omega
theorem crc_next {l : List UInt8} {k : Nat} {c : UInt8} (h : l[k]? = some c) : crc (l.take (k + 1)) = crcByte (crc (l.take k)) c := by
  rw [List.take_add_one, h]; simp [crc, List.foldl_append]
theorem sum_lt (l : List UInt8) : sum l < 2 ^ 32 := (~~~ (crc l)).isLt

/- records -/
def le32 (n : Nat) : List UInt8 := [UInt8.ofNat n, UInt8.ofNat (n / 256), UInt8.ofNat (n / 65536), UInt8.ofNat (n / 16777216)]
def body (c : Cmd) : List UInt8 := enc (code c).length ++ code c
def record (c : Cmd) : List UInt8 := body c ++ le32 (sum (body c))
theorem body_take (c : Cmd) : (List.take (enc (code c).length).length (bytesAV (enc (code c).length)) ++ bytesAV (code c)).take ((enc (code c).length).length + (bytesAV (code c)).length) = bytesAV (body c) := by
  rw [take_bytes, List.take_of_length_le (by simp), body, bytesAV_append]
end Go.Proofs.Ytjalgcjllddmhaa
namespace Go.Proofs.Ytjalgcjllddmhaa
open Go.Av
theorem wrap8 (n : Nat) : IntKind.u8.wrap (n : Int) = ((UInt8.ofNat n).toNat : Int) := by
  simp only [IntKind.wrap, show IntKind.u8.bits = 8 from rfl, show IntKind.u8.signed = false from rfl, Bool.false_and, Bool.false_eq_true, if_false]
  simp
theorem fdiv8 (n : Nat) : ((n : Int).fdiv (2 ^ min (Int.toNat 8) IntKind.i64.bits)) = ((n / 256 : Nat) : Int) := by
  rw [show min (Int.toNat 8) IntKind.i64.bits = 8 from rfl, Int.fdiv_eq_ediv_of_nonneg _ (by decide)]; simp
theorem fdiv16 (n : Nat) : ((n : Int).fdiv (2 ^ min (Int.toNat 16) IntKind.i64.bits)) = ((n / 65536 : Nat) : Int) := by
  rw [show min (Int.toNat 16) IntKind.i64.bits = 16 from rfl, Int.fdiv_eq_ediv_of_nonneg _ (by decide)]; simp
theorem fdiv24 (n : Nat) : ((n : Int).fdiv (2 ^ min (Int.toNat 24) IntKind.i64.bits)) = ((n / 16777216 : Nat) : Int) := by
  rw [show min (Int.toNat 24) IntKind.i64.bits = 24 from rfl, Int.fdiv_eq_ediv_of_nonneg _ (by decide)]; simp
theorem le32_AV (n : Nat) : bytesAV (le32 n) = [.val (.int .u8 (IntKind.u8.wrap (n : Int))), .val (.int .u8 (IntKind.u8.wrap ((n : Int).fdiv (2 ^ min (Int.toNat 8) IntKind.i64.bits)))),
    .val (.int .u8 (IntKind.u8.wrap ((n : Int).fdiv (2 ^ min (Int.toNat 16) IntKind.i64.bits)))), .val (.int .u8 (IntKind.u8.wrap ((n : Int).fdiv (2 ^ min (Int.toNat 24) IntKind.i64.bits))))] := by
  rw [fdiv8, fdiv16, fdiv24, wrap8, wrap8, wrap8, wrap8]; rfl
end Go.Proofs.Ytjalgcjllddmhaa

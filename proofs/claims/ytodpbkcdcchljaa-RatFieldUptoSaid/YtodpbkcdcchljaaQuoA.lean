
/- math/bits.Sub32, Add32. -/
import Derived.Test.YtodpbkcdcchljaaNatG
namespace Go.Proofs.Ytodpbkcdcchljaa
open Go.RowKit

theorem ofInt32 (a : Nat) (h : a < 4294967296) : (BitVec.ofInt 32 (a : Int)).toNat = a := by
  rw [BitVec.ofInt_natCast, BitVec.toNat_ofNat]; exact Nat.mod_eq_of_lt (by omega)
theorem wrap_u32 (n : Int) : IntKind.u32.wrap n = n % 4294967296 := by simp [IntKind.wrap, IntKind.bits, IntKind.signed]
theorem and_u32 (a b : Nat) (ha : a < 4294967296) (hb : b < 4294967296) : bits .and .u32 (a : Int) (b : Int) = ((a &&& b : Nat) : Int) := by
  have hx : a &&& b < 2 ^ 32 := Nat.and_lt_two_pow _ (by omega)
  show IntKind.u32.wrap ((BitVec.ofInt 32 (a : Int) &&& BitVec.ofInt 32 (b : Int)).toNat : Int) = _
  rw [BitVec.toNat_and, ofInt32 a ha, ofInt32 b hb, wrap_u32]
  omega
theorem or_u32 (a b : Nat) (ha : a < 4294967296) (hb : b < 4294967296) : bits .or .u32 (a : Int) (b : Int) = ((a ||| b : Nat) : Int) := by
  have hx : a ||| b < 2 ^ 32 := Nat.or_lt_two_pow (by omega) (by omega)
  show IntKind.u32.wrap ((BitVec.ofInt 32 (a : Int) ||| BitVec.ofInt 32 (b : Int)).toNat : Int) = _
  rw [BitVec.toNat_or, ofInt32 a ha, ofInt32 b hb, wrap_u32]
  omega
theorem xor_u32 (a b : Nat) (ha : a < 4294967296) (hb : b < 4294967296) : bits .xor .u32 (a : Int) (b : Int) = ((a ^^^ b : Nat) : Int) := by
  have hx : a ^^^ b < 2 ^ 32 := Nat.xor_lt_two_pow (by omega) (by omega)
  show IntKind.u32.wrap ((BitVec.ofInt 32 (a : Int) ^^^ BitVec.ofInt 32 (b : Int)).toNat : Int) = _
  rw [BitVec.toNat_xor, ofInt32 a ha, ofInt32 b hb, wrap_u32]
  omega
theorem bit31 {n : Nat} (h : n < 4294967296) : n.testBit 31 = decide (2147483648 ≤ n) := by
  rw [Nat.testBit_eq_decide_div_mod_eq]
  have e : (2 : Nat) ^ 31 = 2147483648 := by decide
  rw [e]
  exact decide_eq_decide.2 (by omega)
/-- the word that tells what is lent: its top bit -/
theorem lent32 {x y d b : Nat} (hx : x < 4294967296) (hy : y < 4294967296) (hd : d < 4294967296) (hb : b ≤ 1) (b' : Nat) (hb' : b' ≤ 1) (e : d + y + b = x + 4294967296 * b') :
    (((4294967295 ^^^ x) &&& y) ||| ((4294967295 ^^^ (x ^^^ y)) &&& d)) / 2147483648 = b' := by
  have hlt : (((4294967295 ^^^ x) &&& y) ||| ((4294967295 ^^^ (x ^^^ y)) &&& d)) < 4294967296 :=
    Nat.or_lt_two_pow (n := 32) (Nat.and_lt_two_pow _ hy) (Nat.and_lt_two_pow _ hd)
  have hm : Nat.testBit 4294967295 31 = true := by decide
  have hbit : Nat.testBit (((4294967295 ^^^ x) &&& y) ||| ((4294967295 ^^^ (x ^^^ y)) &&& d)) 31 = decide (b' = 1) := by
    rw [Nat.testBit_or, Nat.testBit_and, Nat.testBit_and, Nat.testBit_xor, Nat.testBit_xor, Nat.testBit_xor, hm, bit31 hx, bit31 hy, bit31 hd]
    by_cases h1 : 2147483648 ≤ x <;> by_cases h2 : 2147483648 ≤ y <;> by_cases h3 : 2147483648 ≤ d <;> by_cases h4 : b' = 1 <;> simp [h1, h2, h3, h4] <;> omega
  rw [bit31 hlt] at hbit
  have := decide_eq_decide.1 hbit
  omega

theorem sub32_calls (w : World) (x y b : Nat) (hx : x < LB) (hy : y < LB) (hb : b ≤ 1) :
    Calls Try.prog 105 #[.int .u32 x, .int .u32 y, .int .u32 b] w fun e w' => (∃ d b' : Nat, e = .returned (.tuple #[.int .u32 d, .int .u32 b']) ∧ d < LB ∧ b' ≤ 1 ∧ d + y + b = x + LB * b') ∧ w' = w := by
  have hx' : x < 4294967296 := hx
  have hy' : y < 4294967296 := hy
  obtain ⟨d, b', hd, hb', hsum⟩ : ∃ d b' : Nat, d < 4294967296 ∧ b' ≤ 1 ∧ d + y + b = x + 4294967296 * b' := by
    by_cases h : y + b ≤ x
    · exact ⟨x - y - b, 0, by omega, by omega, by omega⟩
    · exact ⟨x + 4294967296 - y - b, 1, by omega, by omega, by omega⟩
  have hs : IntKind.u32.signed = false := rfl
  have hmax : IntKind.u32.max = ((4294967295 : Nat) : Int) := rfl
  have hdi : ((x : Int) - (y : Int) - (b : Int)) % 4294967296 = (d : Int) := by omega
  have q1 : 4294967295 ^^^ x < 4294967296 := Nat.xor_lt_two_pow (n := 32) (by decide) hx'
  have q2 : x ^^^ y < 4294967296 := Nat.xor_lt_two_pow (n := 32) hx' hy'
  have q3 : 4294967295 ^^^ (x ^^^ y) < 4294967296 := Nat.xor_lt_two_pow (n := 32) (by decide) q2
  have q4 : (4294967295 ^^^ x) &&& y < 4294967296 := Nat.and_lt_two_pow (n := 32) _ hy'
  have q5 : (4294967295 ^^^ (x ^^^ y)) &&& d < 4294967296 := Nat.and_lt_two_pow (n := 32) _ hd
  have hword : bits BinOp.or IntKind.u32 (bits BinOp.and IntKind.u32 (bits BinOp.xor IntKind.u32 IntKind.u32.max (x : Int)) (y : Int)) (bits BinOp.and IntKind.u32 (bits BinOp.xor IntKind.u32 IntKind.u32.max (bits BinOp.xor IntKind.u32 (x : Int) (y : Int))) (((x : Int) - (y : Int) - (b : Int)) % 4294967296)) / 2147483648 = (b' : Int) := by
    rw [hdi, hmax, xor_u32 _ _ (by decide) hx', xor_u32 _ _ hx' hy', xor_u32 _ _ (by decide) q2, and_u32 _ _ q1 hy', and_u32 _ _ q3 hd, or_u32 _ _ q4 q5]
    have := lent32 hx' hy' hd hb b' hb' hsum
    omega
  have hd2 : (((x : Int) - (y : Int)) % 4294967296 - (b : Int)) % 4294967296 = (d : Int) := by omega
  have HD := Lib.hid (And.intro hd2 hword)
  clear hdi hword hmax hd2
  go_enter Try.func105, Try.ntmps105
  go_wp2
  go_ret2
  refine ⟨⟨d, b', ?_, hd, hb', hsum⟩, rfl⟩
  show Ending.returned (.tuple #[.int .u32 ((((x : Int) - (y : Int)) % 4294967296 - (b : Int)) % 4294967296), .int .u32 (bits BinOp.or IntKind.u32 (bits BinOp.and IntKind.u32 (bits BinOp.xor IntKind.u32 IntKind.u32.max (x : Int)) (y : Int)) (bits BinOp.and IntKind.u32 (bits BinOp.xor IntKind.u32 IntKind.u32.max (bits BinOp.xor IntKind.u32 (x : Int) (y : Int))) (((x : Int) - (y : Int) - (b : Int)) % 4294967296)) / 2147483648)]) = _
  rw [HD.out.2, HD.out.1]
theorem add32_calls (w : World) (x y b : Nat) (hx : x < LB) (hy : y < LB) (hb : b < LB) :
    Calls Try.prog 106 #[.int .u32 x, .int .u32 y, .int .u32 b] w fun e w' => e = .returned (.tuple #[.int .u32 (((x + y + b) % LB : Nat) : Int), .int .u32 (((x + y + b) / LB : Nat) : Int)]) ∧ w' = w := by
  have hx' : x < 4294967296 := hx
  have hy' : y < 4294967296 := hy
  have hb' : b < 4294967296 := hb
  go_enter Try.func106, Try.ntmps106
  go_wp2
  go_ret2
  refine ⟨?_, rfl⟩
  show Ending.returned (.tuple #[.int .u32 (((x : Int) + (y : Int) + (b : Int)) % 4294967296), .int .u32 (((x : Int) + (y : Int) + (b : Int)) / 4294967296)]) = _
  unfold LB
  congr 2
end Go.Proofs.Ytodpbkcdcchljaa

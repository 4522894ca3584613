/- The base, part E: what the elder chapters' texts prove, of the functions that this seat has. -/
import Derived.Test.YtlppcfeimpcbjaaGreatBaseA
import Derived.Test.YtlppcfeimpcbjaaGreatBaseC
set_option linter.unusedSimpArgs false
set_option linter.unusedVariables false

/- A limb of a quotient: Knuth's guess, in plain numbers. -/
namespace Go.Proofs.YtlppcfeimpcbjaaGreat
open Go.RowKit

/-- Too much: the guess is above the quotient. -/
theorem guess_over {U V T V2 P g : Nat} (hU : U < (T + 1) * P) (hV : V2 * P ≤ V) (hV0 : 0 < V) (h : T < g * V2) : U / V < g := by
  refine (Nat.div_lt_iff_lt_mul hV0).2 ?_
  have h1 : (T + 1) * P ≤ g * V2 * P := Nat.mul_le_mul_right P h
  have h2 : g * (V2 * P) ≤ g * V := Nat.mul_le_mul_left g hV
  rw [Nat.mul_assoc] at h1
  omega
/-- Not too much by the first limbs: at most one above the quotient. -/
theorem guess_close {U V T V2 P g : Nat} (hU : T * P ≤ U) (hV : V < (V2 + 1) * P) (hV0 : 0 < V) (h : g * V2 ≤ T) (hg : g ≤ V2 + 1) : g ≤ U / V + 1 := by
  rcases Nat.lt_or_ge (U / V + 1) g with hlt | hge
  · exfalso
    have hg0 : 0 < g := Nat.lt_of_le_of_lt (Nat.zero_le _) hlt
    obtain ⟨k, rfl⟩ : ∃ k, g = k + 1 := ⟨g - 1, by omega⟩
    have h1 : U < k * V := (Nat.div_lt_iff_lt_mul hV0).1 (Nat.lt_of_succ_lt_succ hlt)
    have h2 : k * V ≤ k * ((V2 + 1) * P) := Nat.mul_le_mul_left k (Nat.le_of_lt hV)
    have h3 : (k + 1) * V2 * P ≤ T * P := Nat.mul_le_mul_right P h
    have h4 : k * (V2 + 1) ≤ (k + 1) * V2 := by rw [Nat.mul_succ, Nat.succ_mul]; omega
    have h5 := Nat.mul_le_mul_right P h4
    rw [Nat.mul_assoc] at h5
    omega
  · exact hge

/-- What stands of the guess between two rounds. -/
structure GuessI (top v1 q g r : Nat) : Prop where
  sum : g * v1 + r = top
  low : q ≤ g
theorem guess_sum {top v1 v2 g r : Nat} (h : g * v1 + r = top) : g * (v1 * LB + v2) + r * LB = top * LB + g * v2 := by
  rw [← h, Nat.mul_add, Nat.add_mul, Nat.mul_assoc]; omega

/-- the first limbs of what is left, and of the divisor -/
theorem limbs3 {us : List Nat} {n : Nat} (hn : 2 ≤ n) (hl : us.length = n + 1) (hd : ∀ d ∈ us, d < LB) :
    let T := (us.getD n 0 * LB + us.getD (n - 1) 0) * LB + us.getD (n - 2) 0
    T * LB ^ (n - 2) ≤ val us ∧ val us < (T + 1) * LB ^ (n - 2) := by
  intro T
  have h1 : us = us.take (n - 2) ++ us.drop (n - 2) := (List.take_append_drop _ _).symm
  have h2 : val us = ofB LB (us.take (n - 2)) + LB ^ (n - 2) * ofB LB (us.drop (n - 2)) := by
    have h := ofB_append LB (us.take (n - 2)) (us.drop (n - 2))
    rw [← h1] at h
    rw [List.length_take, Nat.min_eq_left (by omega)] at h
    exact h
  have hlt := ofB_lt (b := LB) (l := us.take (n - 2)) (fun d hd' => hd d (List.mem_of_mem_take hd'))
  rw [List.length_take, Nat.min_eq_left (by omega)] at hlt
  have h3 : us.drop (n - 2) = [us.getD (n - 2) 0, us.getD (n - 1) 0, us.getD n 0] := by
    have e : ∀ i (h : i < us.length), us.getD i 0 = us[i] := fun i h => by rw [List.getD_eq_getElem?_getD, List.getElem?_eq_getElem h]; rfl
    rw [e (n - 2) (by omega), e (n - 1) (by omega), e n (by omega)]
    apply List.ext_getElem
    · simp; omega
    · intro i h4 h5
      simp at h5
      rw [List.getElem_drop]
      match i, h5 with
      | 0, _ => simp
      | 1, _ => simp; congr 1; omega
      | 2, _ => simp; congr 1; omega
  have h4 : ofB LB (us.drop (n - 2)) = T := by
    rw [h3]
    show us.getD (n - 2) 0 + LB * (us.getD (n - 1) 0 + LB * (us.getD n 0 + LB * 0)) = T
    show _ = (us.getD n 0 * LB + us.getD (n - 1) 0) * LB + us.getD (n - 2) 0
    rw [Nat.mul_zero, Nat.add_zero, Nat.mul_add, Nat.add_mul, Nat.mul_comm LB (us.getD (n - 1) 0), Nat.mul_comm LB (us.getD n 0), Nat.mul_comm LB (us.getD n 0 * LB)]
    omega
  rw [h4] at h2
  clear_value T
  have e1 : T * LB ^ (n - 2) = LB ^ (n - 2) * T := Nat.mul_comm _ _
  have e2 : (T + 1) * LB ^ (n - 2) = LB ^ (n - 2) * T + LB ^ (n - 2) := by rw [Nat.add_mul, Nat.one_mul, Nat.mul_comm]
  rw [e1, e2, h2]
  generalize LB ^ (n - 2) * T = X
  omega
theorem limbs2 {vs : List Nat} {n : Nat} (hn : 2 ≤ n) (hl : vs.length = n) (hd : ∀ d ∈ vs, d < LB) :
    let V2 := vs.getD (n - 1) 0 * LB + vs.getD (n - 2) 0
    V2 * LB ^ (n - 2) ≤ val vs ∧ val vs < (V2 + 1) * LB ^ (n - 2) := by
  intro V2
  have h := limbs3 (us := vs ++ [0]) (n := n) hn (by simp [hl]) (fun d hd' => by
    rcases List.mem_append.1 hd' with h | h
    · exact hd d h
    · simp at h; subst h; exact LBpos)
  have e1 : val (vs ++ [0]) = val vs := by
    show ofB LB (vs ++ [0]) = ofB LB vs
    rw [ofB_snoc]; simp
  have g : ∀ i, i < n → (vs ++ [0]).getD i 0 = vs.getD i 0 := fun i hi => by
    rw [List.getD_eq_getElem?_getD, List.getD_eq_getElem?_getD, List.getElem?_append_left (by omega)]
  have g0 : (vs ++ [0]).getD n 0 = 0 := by
    rw [List.getD_eq_getElem?_getD, List.getElem?_append_right (by omega), hl]; simp
  rw [e1] at h
  simp only [g (n - 1) (by omega), g (n - 2) (by omega), g0, Nat.zero_mul, Nat.zero_add] at h
  exact h

/-- What is known of the first limbs: of U, a0, a1, a2; of V, b1, b2. -/
structure Tops (U V a0 a1 a2 b1 b2 P : Nat) : Prop where
  uLo : ((a0 * LB + a1) * LB + a2) * P ≤ U
  uHi : U < ((a0 * LB + a1) * LB + a2 + 1) * P
  vLo : (b1 * LB + b2) * P ≤ V
  vHi : V < (b1 * LB + b2 + 1) * P
  less : U < LB * V
  b1Lo : 2147483648 ≤ b1
  b1Hi : b1 < LB
  b2Hi : b2 < LB
  a1Hi : a1 < LB
  pos : 0 < P
section
variable {U V a0 a1 a2 b1 b2 P g r : Nat}
theorem Tops.vPos (h : Tops U V a0 a1 a2 b1 b2 P) : 0 < V := by
  have h1 := h.vLo
  have h2 : 1 ≤ (b1 * LB + b2) * P := Nat.mul_pos (by have := h.b1Lo; have := Nat.mul_pos (show 0 < b1 by omega) LBpos; omega) h.pos
  omega
theorem Tops.first (h : Tops U V a0 a1 a2 b1 b2 P) : (a0 * LB + a1) / b1 ≤ LB + 1 := by
  have h1 := h.uLo
  have h2 := Nat.mul_lt_mul_of_pos_left h.vHi LBpos
  have h3 := h.less
  have h4 : ((a0 * LB + a1) * LB + a2) * P < (LB * (b1 * LB + b2 + 1)) * P := by rw [Nat.mul_assoc]; omega
  have h5 := Nat.lt_of_mul_lt_mul_right h4
  have h6 : b1 * LB + b2 + 1 ≤ (b1 + 1) * LB := by have := h.b2Hi; rw [Nat.add_mul, Nat.one_mul]; omega
  have h7 : (a0 * LB + a1) * LB < (b1 + 1) * LB * LB := by
    have := Nat.mul_le_mul_left LB h6
    rw [Nat.mul_comm ((b1 + 1) * LB) LB]; omega
  have h8 := Nat.lt_of_mul_lt_mul_right h7
  have h9 : a0 * LB + a1 < b1 * (LB + 2) := by
    have := h.b1Lo
    rw [Nat.add_mul, Nat.one_mul] at h8
    rw [Nat.mul_add]
    have : LB ≤ b1 * 2 := by unfold LB; omega
    omega
  have := Nat.div_lt_of_lt_mul h9
  omega
theorem Tops.low (h : Tops U V a0 a1 a2 b1 b2 P) (ha2 : a2 < LB) : U / V ≤ (a0 * LB + a1) / b1 := by
  refine (Nat.le_div_iff_mul_le (by have := h.b1Lo; omega)).2 ?_
  have h1 : U / V * V ≤ U := Nat.div_mul_le_self U V
  have h2 := Nat.mul_le_mul_left (U / V) h.vLo
  have h3 := h.uHi
  have h4 : U / V * (b1 * LB + b2) * P < ((a0 * LB + a1) * LB + a2 + 1) * P := by rw [Nat.mul_assoc]; omega
  have h5 := Nat.lt_of_mul_lt_mul_right h4
  rw [Nat.mul_add, ← Nat.mul_assoc] at h5
  have h6 : U / V * b1 * LB < (a0 * LB + a1 + 1) * LB := by rw [Nat.add_mul (a0 * LB + a1) 1, Nat.one_mul]; omega
  exact Nat.le_of_lt_succ (Nat.lt_of_mul_lt_mul_right h6)
theorem Tops.step (h : Tops U V a0 a1 a2 b1 b2 P) (hs : g * b1 + r = a0 * LB + a1) (hl : U / V ≤ g) (ho : LB ≤ g ∨ r * LB + a2 < g * b2) : 1 ≤ g ∧ U / V ≤ g - 1 ∧ (g - 1) * b1 + (r + b1) = a0 * LB + a1 := by
  have hlt : U / V < g := by
    rcases ho with ho | ho
    · exact Nat.lt_of_lt_of_le ((Nat.div_lt_iff_lt_mul h.vPos).2 h.less) ho
    · refine guess_over h.uHi h.vLo h.vPos ?_
      have := guess_sum (v2 := b2) hs
      omega
  have h1 : 1 ≤ g := Nat.lt_of_le_of_lt (Nat.zero_le _) hlt
  refine ⟨h1, Nat.le_sub_one_of_lt hlt, ?_⟩
  obtain ⟨k, rfl⟩ : ∃ k, g = k + 1 := ⟨g - 1, by omega⟩
  rw [Nat.succ_mul] at hs
  rw [Nat.add_sub_cancel]
  omega
theorem Tops.close (h : Tops U V a0 a1 a2 b1 b2 P) (hs : g * b1 + r = a0 * LB + a1) (hg : g ≤ LB + 1) (hc : g * b2 ≤ r * LB + a2) : g ≤ U / V + 1 := by
  refine guess_close h.uLo h.vHi h.vPos ?_ ?_
  · have := guess_sum (v2 := b2) hs
    omega
  · have := Nat.mul_le_mul_right LB (show 1 ≤ b1 by have := h.b1Lo; omega)
    omega
theorem Tops.close' (h : Tops U V a0 a1 a2 b1 b2 P) (hs : g * b1 + r = a0 * LB + a1) (hg : g ≤ LB) (hr : LB ≤ r) : g ≤ U / V + 1 := by
  refine h.close hs (by omega) ?_
  have h1 := Nat.mul_le_mul_left g (Nat.le_of_lt h.b2Hi)
  have h2 : g * LB ≤ r * LB := Nat.mul_le_mul_right LB (by omega)
  omega
end
end Go.Proofs.YtlppcfeimpcbjaaGreat


/- math/bits.Sub32, Add32. -/
namespace Go.Proofs.YtlppcfeimpcbjaaGreat
open Go.RowKit

theorem ofInt32 (a : Nat) (h : a < 4294967296) : (BitVec.ofInt 32 (a : Int)).toNat = a := by
  rw [BitVec.ofInt_natCast, BitVec.toNat_ofNat]; exact Nat.mod_eq_of_lt (by omega)
theorem wrap_u32 (n : Int) : IntKind.u32.wrap n = n % 4294967296 := by simp [IntKind.wrap, IntKind.bits, IntKind.signed]
theorem and_u32 (a b : Nat) (ha : a < 4294967296) (hb : b < 4294967296) : bits .and .u32 (a : Int) (b : Int) = ((a &&& b : Nat) : Int) := by
  have hx : a &&& b < 2 ^ 32 := Nat.and_lt_two_pow _ (by omega)
  show IntKind.u32.wrap ((BitVec.ofInt 32 (a : Int) &&& BitVec.ofInt 32 (b : Int)).toNat : Int) = _
  rw [BitVec.toNat_and, ofInt32 a ha, ofInt32 b hb, wrap_u32]
  omega
theorem or_u32 (a b : Nat) (ha : a < 4294967296) (hb : b < 4294967296) : bits .or .u32 (a : Int) (b : Int) = ((a ||| b : Nat) : Int) := by
  have hx : a ||| b < 2 ^ 32 := Nat.or_lt_two_pow (by omega) (by omega)
  show IntKind.u32.wrap ((BitVec.ofInt 32 (a : Int) ||| BitVec.ofInt 32 (b : Int)).toNat : Int) = _
  rw [BitVec.toNat_or, ofInt32 a ha, ofInt32 b hb, wrap_u32]
  omega
theorem xor_u32 (a b : Nat) (ha : a < 4294967296) (hb : b < 4294967296) : bits .xor .u32 (a : Int) (b : Int) = ((a ^^^ b : Nat) : Int) := by
  have hx : a ^^^ b < 2 ^ 32 := Nat.xor_lt_two_pow (by omega) (by omega)
  show IntKind.u32.wrap ((BitVec.ofInt 32 (a : Int) ^^^ BitVec.ofInt 32 (b : Int)).toNat : Int) = _
  rw [BitVec.toNat_xor, ofInt32 a ha, ofInt32 b hb, wrap_u32]
  omega
theorem bit31 {n : Nat} (h : n < 4294967296) : n.testBit 31 = decide (2147483648 ≤ n) := by
  rw [Nat.testBit_eq_decide_div_mod_eq]
  have e : (2 : Nat) ^ 31 = 2147483648 := by decide
  rw [e]
  exact decide_eq_decide.2 (by omega)
/-- the word that tells what is lent: its top bit -/
theorem lent32 {x y d b : Nat} (hx : x < 4294967296) (hy : y < 4294967296) (hd : d < 4294967296) (hb : b ≤ 1) (b' : Nat) (hb' : b' ≤ 1) (e : d + y + b = x + 4294967296 * b') :
    (((4294967295 ^^^ x) &&& y) ||| ((4294967295 ^^^ (x ^^^ y)) &&& d)) / 2147483648 = b' := by
  have hlt : (((4294967295 ^^^ x) &&& y) ||| ((4294967295 ^^^ (x ^^^ y)) &&& d)) < 4294967296 :=
    Nat.or_lt_two_pow (n := 32) (Nat.and_lt_two_pow _ hy) (Nat.and_lt_two_pow _ hd)
  have hm : Nat.testBit 4294967295 31 = true := by decide
  have hbit : Nat.testBit (((4294967295 ^^^ x) &&& y) ||| ((4294967295 ^^^ (x ^^^ y)) &&& d)) 31 = decide (b' = 1) := by
    rw [Nat.testBit_or, Nat.testBit_and, Nat.testBit_and, Nat.testBit_xor, Nat.testBit_xor, Nat.testBit_xor, hm, bit31 hx, bit31 hy, bit31 hd]
    by_cases h1 : 2147483648 ≤ x <;> by_cases h2 : 2147483648 ≤ y <;> by_cases h3 : 2147483648 ≤ d <;> by_cases h4 : b' = 1 <;> simp [h1, h2, h3, h4] <;> omega
  rw [bit31 hlt] at hbit
  have := decide_eq_decide.1 hbit
  omega

theorem sub32_calls (w : World) (x y b : Nat) (hx : x < LB) (hy : y < LB) (hb : b ≤ 1) :
    Calls Tryz.prog 167 #[.int .u32 x, .int .u32 y, .int .u32 b] w fun e w' => (∃ d b' : Nat, e = .returned (.tuple #[.int .u32 d, .int .u32 b']) ∧ d < LB ∧ b' ≤ 1 ∧ d + y + b = x + LB * b') ∧ w' = w := by
  have hx' : x < 4294967296 := hx
  have hy' : y < 4294967296 := hy
  obtain ⟨d, b', hd, hb', hsum⟩ : ∃ d b' : Nat, d < 4294967296 ∧ b' ≤ 1 ∧ d + y + b = x + 4294967296 * b' := by
    by_cases h : y + b ≤ x
    · exact ⟨x - y - b, 0, by omega, by omega, by omega⟩
    · exact ⟨x + 4294967296 - y - b, 1, by omega, by omega, by omega⟩
  have hs : IntKind.u32.signed = false := rfl
  have hmax : IntKind.u32.max = ((4294967295 : Nat) : Int) := rfl
  have hdi : ((x : Int) - (y : Int) - (b : Int)) % 4294967296 = (d : Int) := by omega
  have q1 : 4294967295 ^^^ x < 4294967296 := Nat.xor_lt_two_pow (n := 32) (by decide) hx'
  have q2 : x ^^^ y < 4294967296 := Nat.xor_lt_two_pow (n := 32) hx' hy'
  have q3 : 4294967295 ^^^ (x ^^^ y) < 4294967296 := Nat.xor_lt_two_pow (n := 32) (by decide) q2
  have q4 : (4294967295 ^^^ x) &&& y < 4294967296 := Nat.and_lt_two_pow (n := 32) _ hy'
  have q5 : (4294967295 ^^^ (x ^^^ y)) &&& d < 4294967296 := Nat.and_lt_two_pow (n := 32) _ hd
  have hword : bits BinOp.or IntKind.u32 (bits BinOp.and IntKind.u32 (bits BinOp.xor IntKind.u32 IntKind.u32.max (x : Int)) (y : Int)) (bits BinOp.and IntKind.u32 (bits BinOp.xor IntKind.u32 IntKind.u32.max (bits BinOp.xor IntKind.u32 (x : Int) (y : Int))) (((x : Int) - (y : Int) - (b : Int)) % 4294967296)) / 2147483648 = (b' : Int) := by
    rw [hdi, hmax, xor_u32 _ _ (by decide) hx', xor_u32 _ _ hx' hy', xor_u32 _ _ (by decide) q2, and_u32 _ _ q1 hy', and_u32 _ _ q3 hd, or_u32 _ _ q4 q5]
    have := lent32 hx' hy' hd hb b' hb' hsum
    omega
  have hd2 : (((x : Int) - (y : Int)) % 4294967296 - (b : Int)) % 4294967296 = (d : Int) := by omega
  have HD := Lib.hid (And.intro hd2 hword)
  clear hdi hword hmax hd2
  go_enter Tryz.func167, Tryz.ntmps167
  go_wp2
  go_ret2
  refine ⟨⟨d, b', ?_, hd, hb', hsum⟩, rfl⟩
  show Ending.returned (.tuple #[.int .u32 ((((x : Int) - (y : Int)) % 4294967296 - (b : Int)) % 4294967296), .int .u32 (bits BinOp.or IntKind.u32 (bits BinOp.and IntKind.u32 (bits BinOp.xor IntKind.u32 IntKind.u32.max (x : Int)) (y : Int)) (bits BinOp.and IntKind.u32 (bits BinOp.xor IntKind.u32 IntKind.u32.max (bits BinOp.xor IntKind.u32 (x : Int) (y : Int))) (((x : Int) - (y : Int) - (b : Int)) % 4294967296)) / 2147483648)]) = _
  rw [HD.out.2, HD.out.1]
theorem add32_calls (w : World) (x y b : Nat) (hx : x < LB) (hy : y < LB) (hb : b < LB) :
    Calls Tryz.prog 168 #[.int .u32 x, .int .u32 y, .int .u32 b] w fun e w' => e = .returned (.tuple #[.int .u32 (((x + y + b) % LB : Nat) : Int), .int .u32 (((x + y + b) / LB : Nat) : Int)]) ∧ w' = w := by
  have hx' : x < 4294967296 := hx
  have hy' : y < 4294967296 := hy
  have hb' : b < 4294967296 := hb
  go_enter Tryz.func168, Tryz.ntmps168
  go_wp2
  go_ret2
  refine ⟨?_, rfl⟩
  show Ending.returned (.tuple #[.int .u32 (((x : Int) + (y : Int) + (b : Int)) % 4294967296), .int .u32 (((x : Int) + (y : Int) + (b : Int)) / 4294967296)]) = _
  unfold LB
  congr 2
end Go.Proofs.YtlppcfeimpcbjaaGreat


/- quo.Short. -/
namespace Go.Proofs.YtlppcfeimpcbjaaGreat
open Go.RowKit

def urowOf (qs : List Nat) : Array Value := (qs.map fun q : Nat => Value.int .u32 (q : Int)).toArray
/-- A row of limbs in a block of its own. -/
def URow (w : World) (g : Nat) (qs : List Nat) : Prop := w.heap[g]? = some (.cells (urowOf qs) 150 (0, 0))
theorem URow.free {w : World} {g : Nat} {qs : List Nat} (h : URow w g qs) (j : Nat) : w.frozen? ⟨g, j, none⟩ = false := frozen_of_row w g j _ _ h
theorem URow.lt {w : World} {g : Nat} {qs : List Nat} (h : URow w g qs) : g < w.heap.size := lt_of_block h
theorem URow.cell {w : World} {g : Nat} {qs : List Nat} (h : URow w g qs) {j : Nat} (hj : j < qs.length) : w.cell? ⟨g, j, none⟩ = some (.int .u32 (qs[j] : Int)) := by
  rw [cell_of_row w g j _ _ (0, 0) h]
  simp [urowOf, hj]
theorem URow.set {w : World} {g : Nat} {qs : List Nat} (h : URow w g qs) (j q : Nat) : URow (w.setCell ⟨g, j, none⟩ (.int .u32 (q : Int))) g (qs.set j q) := by
  have h1 : w.heap[g]? = some (.cells (urowOf qs) 150 (0, 0)) := h
  unfold URow
  simp only [World.setCell, Array.getElem?_modify, h1, if_true, Option.map_some]
  congr 2
  apply Array.ext'
  simp [urowOf, List.map_set]
theorem URow.far {w : World} {g g' : Nat} {qs : List Nat} (h : URow w g qs) (hg : g ≠ g') (j : Nat) (u : Value) : URow (w.setCell ⟨g', j, none⟩ u) g qs :=
  (Below.heap_setCell w ⟨g', j, none⟩ u g hg).trans h
theorem URow.fr {S : Nat → Prop} {w w' : World} {g : Nat} {qs : List Nat} (h : URow w g qs) (hf : Fr S w w') (hS : S g) : URow w' g qs := hf.obj h hS
theorem URow.own {S : Nat → Prop} {w : World} {g : Nat} {qs : List Nat} (h : URow w g qs) (hS : S g) (hd : ∀ q ∈ qs, q < LB) (hl : qs.length ≤ 1099511627000) : Own Lm 150 S w (.slice (some ⟨g, 0, none⟩) qs.length qs.length) qs := by
  refine ⟨qs.map fun q : Nat => Value.int .u32 (q : Int), ⟨by simp [Lm, Kd.nat], .inr ⟨g, qs.length, urowOf qs, rfl, Nat.zero_le _, h, Nat.le_refl _, by unfold maxLen; omega, by simp [urowOf, Lm, Kd.nat], ?_⟩⟩, fun k hk => by simp [Value.ownBlock] at hk; subst hk; exact hS, fun i x hx => ⟨[.int .u32 (x : Int)], ⟨rfl, hd x (List.mem_of_getElem? hx)⟩, fun j u hj => ?_⟩⟩
  · rw [List.take_of_length_le (by simp [urowOf, Lm, Kd.nat])]; simp [urowOf]
  · have hj0 : j = 0 := by
      have := (List.getElem?_eq_some_iff.1 hj).1
      simp at this; exact this
    subst hj0
    simp at hj
    subst hj
    simp [Lm, Kd.nat, hx]
/-- A part of a row. -/
theorem URow.part {S : Nat → Prop} {w : World} {g : Nat} {qs : List Nat} (h : URow w g qs) (hS : S g) (hd : ∀ q ∈ qs, q < LB) {j n c : Nat} (hj : j + n ≤ qs.length) (hc : n ≤ c) (hc2 : c ≤ 9223372036854775807) :
    Sl Lm S w (.slice (some ⟨g, j, none⟩) n c) ((qs.drop j).take n) := by
  have hlen : ((qs.drop j).take n).length = n := by simp; omega
  refine ⟨some ⟨g, j, none⟩, c, by rw [hlen], by omega, hc2, fun h => by simp at h, fun _ => ⟨_, rfl, hS, fun i x hx => ?_⟩⟩
  have hi : i < n := by have := (List.getElem?_eq_some_iff.1 hx).1; omega
  rw [List.getElem?_take, if_pos hi, List.getElem?_drop] at hx
  refine ⟨[.int .u32 (x : Int)], ⟨rfl, hd x (List.mem_of_getElem? hx)⟩, fun k u hk => ?_⟩
  have hk0 : k = 0 := by
    have := (List.getElem?_eq_some_iff.1 hk).1
    simp at this; exact this
  subst hk0
  simp at hk
  subst hk
  obtain ⟨hlt, rfl⟩ := List.getElem?_eq_some_iff.1 hx
  have hc := h.cell hlt
  have e : (⟨g, j, none⟩ : Addr).add (i * Lm.size + 0) = ⟨g, j + i, none⟩ := by simp [Addr.add, Lm, Kd.nat]
  rw [e]; exact hc

theorem make_nat (t : TypeId) (ht : Tryz.prog.underlying t = some (.slice 150)) (n : Nat) (hn : n ≤ 1099511627000) (u : World) : (Instr.makeSlice t (.int .i64 (n : Int)) (.int .i64 (n : Int))).run Tryz.prog u = .ok (.slice (some ⟨u.heap.size, 0, none⟩) n n) (u.alloc (.cells (urowOf (List.replicate n 0)) 150)) := by
  obtain ⟨i0, hi, hz0, hz1, hz2⟩ := info_parts info_u32
  have h := run_make (P := Tryz.prog) u t 150 i0 (.int .u32 0) ht hi hz0 .i64 .i64 (n : Int) (n : Int) (by omega) (Int.le_refl _) (by rw [hz2]; omega) (by omega)
  rw [Int.toNat_natCast, hz1, Nat.mul_one] at h
  rw [h]
  refine congrArg (fun c => Result.ok _ (World.alloc u (Obj.cells c _ _))) ?_
  apply Array.ext'
  simp [madeCells, urowOf, Value.cells]
  apply List.ext_getElem
  · simp
  · intro i h1 h2
    simp [Nat.mod_one]

structure QShortN (xs : List Nat) (d k : Nat) (qs : List Nat) (r : Nat) : Prop where
  len : qs.length = xs.length
  small : ∀ q ∈ qs, q < LB
  rest : r < d
  sum : val (xs.drop k) = d * val (qs.drop k) + r
theorem QShortN.step {xs : List Nat} {d j : Nat} {qs : List Nat} {r x : Nat} (h : QShortN xs d (j + 1) qs r) (hj : j < xs.length) (hx : ∀ d ∈ xs, d < LB) (e : x = r * LB + xs[j]) : x / d < LB ∧ QShortN xs d j (qs.set j (x / d)) (x % d) := by
  obtain ⟨h1, h2, h3, h4⟩ := h
  have hxj := hx xs[j] (List.getElem_mem hj)
  have hq : x / d < LB := by
    refine Nat.div_lt_of_lt_mul ?_
    have h5 := Nat.mul_le_mul_right LB (show r + 1 ≤ d from h3)
    rw [Nat.add_mul, Nat.one_mul] at h5
    omega
  refine ⟨hq, by simp [h1], ?_, Nat.mod_lt _ (by omega), ?_⟩
  · intro q hm
    rcases List.mem_or_eq_of_mem_set hm with h | rfl
    · exact h2 q h
    · exact hq
  · have e1 : (qs.set j (x / d)).drop j = x / d :: qs.drop (j + 1) := by
      rw [List.drop_eq_getElem_cons (by simp; omega)]
      simp [List.drop_set_of_lt]
    have e2 := Nat.div_add_mod x d
    have h4' := congrArg (fun n => LB * n) h4
    simp only [Nat.mul_add] at h4'
    rw [e1, List.drop_eq_getElem_cons hj]
    show xs[j] + LB * val (xs.drop (j + 1)) = d * (x / d + LB * val (qs.drop (j + 1))) + x % d
    rw [Nat.mul_add, Nat.mul_left_comm d LB, h4', Nat.mul_comm LB r]
    omega

set_option maxHeartbeats 1000000 in
theorem qshort_n {S : Nat → Prop} (w : World) (va : Value) (N L d : Nat) (ha : Num S w va N L) (hl : L ≤ 1099511627000) (hd : 0 < d) (hd2 : d < LB) :
    Calls Tryz.prog 158 #[va, .int .u32 d] w fun e w' => ∃ v, e = .returned (.tuple #[v, .int .u32 ((N % d : Nat) : Int), .int .i64 0]) ∧ Can (fun k => w.heap.size ≤ k) w' v (N / d) L ∧ Fr (fun k => k < w.heap.size) w w' := by
  have hlt := ha.lt
  obtain ⟨xs, hs, hm, hxl⟩ := ha
  have hs := hs.up Lm_pos (Nat.le_refl _) (Fr.refl _ _)
  have hxd := Kd.nat_all hs
  obtain ⟨A, c, rfl, _, _, hlx⟩ := hs.slice
  have hmk := make_nat 52 Tryz.underlying52 xs.length (by omega)
  have hd4 : d < 4294967296 := hd2
  have hdz : ((d : Int) == 0) = false := beq_eq_false_iff_ne.2 (by omega)
  have HX := Lib.hid hs
  have HV := Lib.hid hm
  clear hs hm
  go_enter Tryz.func158, Tryz.ntmps158
  go_wp2_with fail
  go_loopw [8, 9] (fun r i wr => ∃ (k m : Nat) (qs : List Nat), k ≤ xs.length ∧ i = .int .i64 ((k : Int) - 1) ∧ r = .int .u64 m ∧ QShortN xs d k qs m ∧ URow wr w.heap.size qs ∧ Fr (fun k => k < w.heap.size) w wr) (fun _ i _ => (intOf i + 1).toNat)
  case atStart => exact ⟨xs.length, 0, List.replicate xs.length 0, Nat.le_refl _, rfl, rfl, ⟨by simp, fun q h => by rw [List.eq_of_mem_replicate h]; exact LBpos, hd, by simp [val, ofB]⟩, heap_alloc_new _ _, (Fr.refl _ _).alloc _⟩
  case round =>
    obtain ⟨k, m, qs, hk, rfl, rfl, hN, hrow, hfr⟩ := hrel
    by_cases h0 : 0 < k
    · obtain ⟨j, rfl⟩ : ∃ j, k = j + 1 := ⟨k - 1, by omega⟩
      have hj : j < xs.length := by omega
      obtain ⟨ad, rfl, hc, hmy⟩ := Kd.nat_cell HX.out (i := j) hj
      have hadw := World.block_lt_of_cell? _ _ hc
      have hcw := hfr.cell hc hadw
      obtain ⟨x, hx⟩ : ∃ x, x = m * LB + xs[j] := ⟨_, rfl⟩
      have hst := hN.step hj hxd hx
      have hlen := hN.len
      have hr := hN.rest
      obtain ⟨y, hy⟩ : ∃ y, y = xs[j] := ⟨_, rfl⟩
      rw [← hy] at hx hc hmy hcw
      have hy' : y < 4294967296 := hmy
      have hxi : (m : Int) * 4294967296 + (y : Int) = (x : Int) := by unfold LB at hx; omega
      have hjoin := join32 (x := (m : Int)) (y := (y : Int)) (by omega) (by omega) (by omega) (by omega)
      obtain ⟨uq, hcell⟩ : ∃ u, wr.cell? ⟨w.heap.size, j, none⟩ = some u := ⟨_, hrow.cell (j := j) (by omega)⟩
      have hfree := hrow.free j
      have hrlt := hrow.lt
      have hidx : ((j + 1 : Nat) : Int) - 1 = (j : Int) := by omega
      rw [hidx]
      have HST := Lib.hid hst
      have HY := Lib.hid (And.intro hy hx)
      have HQ := Lib.hid hlen
      clear hst hidx hy hx hlen
      go_wp2_with fail
      have hq : x / d < 4294967296 := HST.out.1
      have hw : IntKind.u64.wrap ((x : Int) / (d : Int)) % 4294967296 = ((x / d : Nat) : Int) := by
        rw [← Int.natCast_ediv, IntKind.wrap_u64]
        generalize x / d = q at hq
        omega
      rw [hw]
      go_roundw
      case rel => exact ⟨j, x % d, _, by omega, by go_num, by rw [Int.natCast_emod], HST.out.2, hrow.set j (x / d), hfr.setCell (fun h => by simp at h) _⟩
      case measure => first | (simp [intOf]; done) | (simp [intOf]; omega)
    · obtain rfl : k = 0 := by omega
      have hown := hrow.own (S := fun k => w.heap.size ≤ k) (Nat.le_refl _) hN.small (by rw [hN.len]; omega)
      rw [hN.len] at hown
      have hsum := hN.sum
      have hrest := hN.rest
      rw [List.drop_zero, List.drop_zero, HV.out] at hsum
      have e1 : N / d = val qs := by rw [hsum, Nat.mul_add_div hd, Nat.div_eq_of_lt hrest, Nat.add_zero]
      have e2 : N % d = m := by rw [hsum, Nat.mul_add_mod, Nat.mod_eq_of_lt hrest]
      have hnum : Num (fun k => w.heap.size ≤ k) wr (.slice (some ⟨w.heap.size, 0, none⟩) xs.length xs.length) (N / d) L := ⟨qs, hown.sl, e1.symm, by rw [hN.len]; exact hxl⟩
      have hm4 : m < 4294967296 := by omega
      have HE := Lib.hid (And.intro e1 e2)
      clear hsum e1 e2 hown
      go_wp2_with fail
      refine (trim_n wr _ _ _ hnum (by omega)).mono ?_
      rintro e w2 ⟨v, rfl, hv, hf2⟩
      go_wp2_with fail
      go_ret3
      have hs := hfr.size
      exact ⟨v, congrArg (fun n : Nat => Ending.returned (.tuple #[v, .int .u32 (n : Int), .int .i64 0])) HE.out.2.symm, ⟨hv.own.mono fun k hk => by omega, hv.len⟩, fr_then hfr hf2⟩
end Go.Proofs.YtlppcfeimpcbjaaGreat

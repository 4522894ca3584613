
/- NatBits, NatShifts. -/
import Derived.Test.YtodpbkcdcchljaaLawSubs
import Derived.Test.YtodpbkcdcchljaaRefE
namespace Go.Proofs.Ytodpbkcdcchljaa
open Go.RowKit

theorem bits_n {S : Nat → Prop} (w : World) (va : Value) (N L : Nat) (ha : Num S w va N L) (hl : L ≤ 1099511627000) :
    Calls Try.prog 51 #[va] w fun e w' => e = .returned (.int .i64 (blen N : Int)) ∧ w' = w := by
  obtain ⟨xs, a1, rfl, a3⟩ := ha
  exact bits_calls w va xs a1 (by omega)
set_option exponentiation.threshold 700 in
theorem shl_n {S : Nat → Prop} (w : World) (va : Value) (N L : Nat) (n : Int) (ha : Num S w va N L) (hn : n ≤ 600) (hl : L ≤ 549755813000) :
    Calls Try.prog 94 #[va, .int .i64 n] w fun e w' => ∃ v, e = .returned v ∧ Can (fun k => w.heap.size ≤ k) w' v (N * 2 ^ n.toNat) (L + 19) ∧ Fr (fun k => k < w.heap.size) w w' := by
  have hlt := ha.lt
  obtain ⟨xs, a1, rfl, a3⟩ := ha
  refine (shl_calls w va xs n a1 (by omega) (by omega)).mono ?_
  rintro e w' ⟨v, rfl, h, hf⟩
  refine ⟨v, rfl, .of h ?_, hf⟩
  rw [Nat.pow_add]
  refine Nat.mul_lt_mul_of_lt_of_le hlt ?_ (Nat.pow_pos LBpos)
  rw [LB_pow]
  exact Nat.pow_le_pow_right (by decide) (by omega)
theorem shr_n {S : Nat → Prop} (w : World) (va : Value) (N L : Nat) (n : Int) (ha : Num S w va N L) (hn : n ≤ 600) (hl : L ≤ 549755813000) :
    Calls Try.prog 98 #[va, .int .i64 n] w fun e w' => ∃ v, e = .returned v ∧ Can (fun k => w.heap.size ≤ k) w' v (N / 2 ^ n.toNat) L ∧ Fr (fun k => k < w.heap.size) w w' := by
  have hlt := ha.lt
  obtain ⟨xs, a1, rfl, a3⟩ := ha
  refine (shr_calls w va xs n a1 (by omega) (by omega)).mono ?_
  rintro e w' ⟨v, rfl, h, hf⟩
  exact ⟨v, rfl, .of h (Nat.lt_of_le_of_lt (Nat.div_le_self _ _) hlt), hf⟩

theorem bitAt_top {N k : Nat} (h1 : 2 ^ k ≤ N) (h2 : N < 2 ^ (k + 1)) : bitAt N ((k + 1 : Nat) - 1 : Int) = true := by
  unfold bitAt
  have e : ((k + 1 : Nat) - 1 : Int).toNat = k := by omega
  have e2 : N / 2 ^ k = 1 := by
    have a1 : N / 2 ^ k < 2 := Nat.div_lt_of_lt_mul (by rw [Nat.pow_succ] at h2; omega)
    have a2 : 0 < N / 2 ^ k := Nat.div_pos h1 (Nat.pow_pos (by decide))
    omega
  rw [e, e2]
  exact decide_eq_true ⟨by omega, rfl⟩
theorem bitAt_over {N k : Nat} (h : N < 2 ^ k) {i : Int} (hi : (k : Int) ≤ i) : bitAt N i = false := by
  unfold bitAt
  have : N < 2 ^ i.toNat := Nat.lt_of_lt_of_le h (Nat.pow_le_pow_right (by decide) (by omega))
  rw [Nat.div_eq_of_lt this]
  simp
theorem bitAt_low {N : Nat} {i : Int} (hi : i < 0) : bitAt N i = false := decide_eq_false fun h => by omega
theorem bitAt_nat (N n : Nat) : bitAt N (n : Int) = decide (N / 2 ^ n % 2 = 1) := by
  unfold bitAt; simp
theorem lt_blen (N : Nat) : N < 2 ^ blen N := lt_pow_dg (by decide) N

theorem shift_back {a m : Nat} {i : Int} (h : m = i.toNat) : a * 2 ^ m / 2 ^ i.toNat = a := by
  rw [← h]; exact Nat.mul_div_cancel _ (Nat.pow_pos (by decide))

end Go.Proofs.Ytodpbkcdcchljaa


/- Rationals in plain words: what a sign and two naturals come to ('rv'), and the laws of sums, products, signs. No program in sight. -/
import Derived.Test.YtodpbkcdcchljaaPure
namespace Go.Proofs.Ytodpbkcdcchljaa
/-- the number of a sign and a natural -/
def sgn (s : Bool) (N : Nat) : Int := if s then -(N : Int) else N
/-- the rational of a sign and two naturals, 0 where the second one is 0 -/
def rv (s : Bool) (N D : Nat) : Rat := mkRat (sgn s N) D
/-- is it below 0? -/
def sg (q : Rat) : Bool := decide (q.num < 0)

theorem sgn_zero (s : Bool) : sgn s 0 = 0 := by cases s <;> rfl
theorem sgn_natAbs (s : Bool) (N : Nat) : (sgn s N).natAbs = N := by cases s <;> simp [sgn]
theorem sgn_self (z : Int) : sgn (decide (z < 0)) z.natAbs = z := by
  unfold sgn; by_cases h : z < 0 <;> simp [h] <;> omega
theorem rv_self (q : Rat) : rv (sg q) q.num.natAbs q.den = q := by
  unfold rv sg; rw [sgn_self, Rat.mkRat_self]
theorem rv_den0 (s : Bool) (N : Nat) : rv s N 0 = 0 := by simp [rv]
theorem rv_num0 (s : Bool) (D : Nat) : rv s 0 D = 0 := by simp [rv, sgn_zero]
theorem rv_zero {s : Bool} {N D : Nat} (hD : 0 < D) : rv s N D = 0 ↔ N = 0 := by
  unfold rv; rw [Rat.mkRat_eq_zero (by omega)]; have := sgn_natAbs s N; omega
theorem rv_num {s : Bool} {N D : Nat} (hD : 0 < D) : (rv s N D).num.natAbs = N / Nat.gcd N D := by
  unfold rv; rw [Rat.num_mkRat, if_neg (by omega), sgn_natAbs, Nat.gcd_comm]
  rw [Int.natAbs_ediv_of_dvd]
  · rw [sgn_natAbs, Int.natAbs_natCast]
  · have := Nat.gcd_dvd_left N D
    cases s
    · exact Int.natCast_dvd_natCast.2 this
    · exact Int.dvd_neg.2 (Int.natCast_dvd_natCast.2 this)
theorem rv_den {s : Bool} {N D : Nat} (hD : 0 < D) : (rv s N D).den = D / Nat.gcd N D := by
  unfold rv; rw [Rat.den_mkRat, if_neg (by omega), sgn_natAbs, Nat.gcd_comm]
theorem rv_sg {s : Bool} {N D : Nat} (hD : 0 < D) (hN : 0 < N) : sg (rv s N D) = s := by
  have hne : rv s N D ≠ 0 := fun h => by have := (rv_zero hD).1 h; omega
  unfold sg
  cases s
  · refine decide_eq_false ?_
    rw [Int.not_lt, Rat.num_nonneg]
    unfold rv sgn
    rw [← Rat.divInt_ofNat]
    exact Rat.divInt_nonneg (by simp) (by omega)
  · refine decide_eq_true ?_
    have h1 : -(rv true N D) = rv false N D := by
      unfold rv sgn; rw [Rat.neg_mkRat]; simp
    have h2 : 0 ≤ (rv false N D).num := by
      rw [Rat.num_nonneg]
      unfold rv sgn
      rw [← Rat.divInt_ofNat]
      exact Rat.divInt_nonneg (by simp) (by omega)
    rw [← h1, Rat.neg_num] at h2
    have h3 : (rv true N D).num ≠ 0 := fun h => hne (Rat.num_eq_zero.1 h)
    omega
theorem sg_zero : sg 0 = false := rfl
theorem rv_add_same {x y : Rat} (h : sg x = sg y) : rv (sg x) (x.num.natAbs * y.den + y.num.natAbs * x.den) (x.den * y.den) = x + y := by
  rw [Rat.add_def']; unfold rv
  congr 1
  have hx := sgn_self x.num
  have hy := sgn_self y.num
  change sgn (sg x) _ = _ at hx
  change sgn (sg y) _ = _ at hy
  rw [← h] at hy
  conv => rhs; rw [← hx, ← hy]
  cases sg x <;> simp [sgn, Int.neg_add, Int.neg_mul]
theorem rv_add_ge {x y : Rat} (h : sg x ≠ sg y) (hle : y.num.natAbs * x.den ≤ x.num.natAbs * y.den) : rv (sg x) (x.num.natAbs * y.den - y.num.natAbs * x.den) (x.den * y.den) = x + y := by
  rw [Rat.add_def']; unfold rv
  congr 1
  have hx := sgn_self x.num
  have hy := sgn_self y.num
  change sgn (sg x) _ = _ at hx
  change sgn (sg y) _ = _ at hy
  have hy2 : sg y = !sg x := by cases hsx : sg x <;> cases hsy : sg y <;> simp_all
  rw [hy2] at hy
  conv => rhs; rw [← hx, ← hy]
  cases sg x <;> simp [sgn, Int.neg_mul] <;> omega
theorem rv_add_lt {x y : Rat} (h : sg x ≠ sg y) (hle : x.num.natAbs * y.den ≤ y.num.natAbs * x.den) : rv (sg y) (y.num.natAbs * x.den - x.num.natAbs * y.den) (x.den * y.den) = x + y := by
  rw [Rat.add_comm, Nat.mul_comm x.den]
  exact rv_add_ge (fun e => h e.symm) hle
theorem rv_mul {s t : Bool} {N M D E : Nat} : rv (s != t) (N * M) (D * E) = rv s N D * rv t M E := by
  unfold rv
  rw [Rat.mkRat_mul_mkRat]
  congr 1
  cases s <;> cases t <;> simp [sgn, Int.neg_mul, Int.mul_neg]
theorem rv_inv (y : Rat) : rv (sg y) y.den y.num.natAbs = y⁻¹ := by
  unfold rv
  rw [Rat.inv_def, ← Rat.divInt_ofNat]
  unfold sg sgn
  by_cases h : y.num < 0
  · simp only [h, decide_true, if_true]
    rw [← Rat.neg_divInt_neg, Int.neg_neg]
    congr 1; omega
  · simp only [h, decide_false]
    congr 1; omega
theorem sg_neg {q : Rat} : sg (-q) = (decide (q.num ≠ 0) && !sg q) := by
  unfold sg
  rw [Rat.neg_num]
  by_cases h0 : q.num = 0
  · simp [h0]
  · by_cases h : q.num < 0 <;> simp [h, h0] <;> omega
theorem neg_natAbs (q : Rat) : (-q).num.natAbs = q.num.natAbs := by rw [Rat.neg_num, Int.natAbs_neg]
theorem sign_mul (a b : Rat) : (a * b).num.sign = a.num.sign * b.num.sign := by
  rw [Rat.num_mul, ← Int.sign_mul]
  generalize hg : (a.num * b.num).natAbs.gcd (a.den * b.den) = g
  have hd : (g : Int) ∣ a.num * b.num := by
    rw [← hg, Int.ofNat_dvd_left]
    exact Nat.gcd_dvd_left _ _
  have hgp : 0 < g := by
    rw [← hg]; exact Nat.gcd_pos_of_pos_right _ (Nat.mul_pos a.den_pos b.den_pos)
  obtain ⟨k, hk⟩ := hd
  rw [hk, Int.mul_ediv_cancel_left _ (by omega), Int.sign_mul, Int.sign_natCast_of_ne_zero (by omega), Int.one_mul]
theorem sign_sub_swap (a b : Rat) : (b - a).num.sign = -(a - b).num.sign := by
  rw [← Rat.neg_sub, Rat.neg_num, Int.sign_neg]
theorem sign_cases (q : Rat) : (q.num = 0 ∧ q.num.sign = 0) ∨ (q.num < 0 ∧ sg q = true ∧ q.num.sign = -1) ∨ (0 < q.num ∧ sg q = false ∧ q.num.sign = 1) := by
  unfold sg
  rcases Int.lt_trichotomy q.num 0 with h | h | h
  · exact .inr (.inl ⟨h, decide_eq_true h, Int.sign_eq_neg_one_of_neg h⟩)
  · exact .inl ⟨h, by rw [h]; rfl⟩
  · exact .inr (.inr ⟨h, decide_eq_false (by omega), Int.sign_eq_one_of_pos h⟩)

end Go.Proofs.Ytodpbkcdcchljaa

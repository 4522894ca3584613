import Derived.Test.YtlknmoegngjpcaaGreatPuC
set_option linter.unusedSimpArgs false
set_option linter.unusedVariables false

/- The plain law behind PointField: what is answered is of few limbs; the laws of a field, element by element. -/
namespace Go.Proofs.YtlknmoegngjpcaaGreat
open Go.RowKit

/-- a rational of at most M limbs each way -/
def Lens (M : Nat) (q : Rat) : Prop := (dg LB q.num.natAbs).length ≤ M ∧ (dg LB q.den).length ≤ M
theorem Lens.wide {M N : Nat} {q : Rat} (h : Lens M q) (hl : M ≤ N) : Lens N q := ⟨Nat.le_trans h.1 hl, Nat.le_trans h.2 hl⟩
theorem lens_mk {q : Rat} {z : Int} {P K : Nat} (hP : 0 < P) (e : q = mkRat z P) (hz : z.natAbs < LB ^ K) (hp : P < LB ^ K) : Lens K q := by
  have hden : q.den ≤ P := by
    rw [e, Rat.den_mkRat, if_neg (by omega)]
    exact Nat.div_le_self _ _
  have hnum : q.num.natAbs ≤ z.natAbs := by
    rw [e, Rat.num_mkRat, if_neg (by omega)]
    exact Int.natAbs_ediv_le_natAbs _ _
  exact ⟨dg_len_le LB2 (Nat.lt_of_le_of_lt hnum hz), dg_len_le LB2 (Nat.lt_of_le_of_lt hden hp)⟩
theorem lens_add {M : Nat} {x y : Rat} (hx : Lens M x) (hy : Lens M y) : Lens (2 * M + 1) (x + y) := by
  have a1 := lt_of_dg hx.1
  have a2 := lt_of_dg hx.2
  have b1 := lt_of_dg hy.1
  have b2 := lt_of_dg hy.2
  have hpow : LB ^ (2 * M + 1) = LB ^ M * LB ^ M * LB := by rw [Nat.pow_succ, Nat.two_mul, Nat.pow_add]
  have h1 : x.num.natAbs * y.den ≤ LB ^ M * LB ^ M := Nat.mul_le_mul (Nat.le_of_lt a1) (Nat.le_of_lt b2)
  have h2 : y.num.natAbs * x.den ≤ LB ^ M * LB ^ M := Nat.mul_le_mul (Nat.le_of_lt b1) (Nat.le_of_lt a2)
  have h3 : x.den * y.den ≤ LB ^ M * LB ^ M := Nat.mul_le_mul (Nat.le_of_lt a2) (Nat.le_of_lt b2)
  have hp : 0 < LB ^ M * LB ^ M := Nat.mul_pos (Nat.pow_pos LBpos) (Nat.pow_pos LBpos)
  have hb : LB ^ M * LB ^ M * 4294967296 = LB ^ (2 * M + 1) := by rw [hpow]; rfl
  refine lens_mk (Nat.mul_pos x.den_pos y.den_pos) (Rat.add_def' x y) ?_ ?_
  · refine Nat.lt_of_le_of_lt (Int.natAbs_add_le _ _) ?_
    rw [Int.natAbs_mul, Int.natAbs_mul, Int.natAbs_natCast, Int.natAbs_natCast]
    omega
  · omega
theorem lens_neg {M : Nat} {x : Rat} (hx : Lens M x) : Lens M (-x) := neg_lens x hx.1 hx.2
theorem lens_sub {M : Nat} {x y : Rat} (hx : Lens M x) (hy : Lens M y) : Lens (2 * M + 1) (x - y) := by
  rw [Rat.sub_eq_add_neg]
  exact lens_add hx (lens_neg hy)
theorem lens_mul {M : Nat} {x y : Rat} (hx : Lens M x) (hy : Lens M y) : Lens (2 * M) (x * y) := by
  have a1 := lt_of_dg hx.1
  have a2 := lt_of_dg hx.2
  have b1 := lt_of_dg hy.1
  have b2 := lt_of_dg hy.2
  have hpow : LB ^ (2 * M) = LB ^ M * LB ^ M := by rw [Nat.two_mul, Nat.pow_add]
  have hp : 0 < LB ^ M := Nat.pow_pos LBpos
  refine lens_mk (Nat.mul_pos x.den_pos y.den_pos) (Rat.mul_def' x y) ?_ ?_
  · rw [Int.natAbs_mul, hpow]
    exact Nat.mul_lt_mul'' a1 b1
  · rw [hpow]
    exact Nat.mul_lt_mul'' a2 b2
theorem lens_inv {M : Nat} (hM : 1 ≤ M) {x : Rat} (hx : Lens M x) : Lens M x⁻¹ := by
  by_cases h : x = 0
  · subst h
    rw [Rat.inv_zero]
    exact ⟨by rw [show (0 : Rat).num.natAbs = 0 from rfl, dg_zero]; exact Nat.zero_le _, one_len hM⟩
  · exact ⟨by rw [inv_num h]; exact hx.2, by rw [inv_den h]; exact hx.1⟩
theorem lens_div {M : Nat} (hM : 1 ≤ M) {x y : Rat} (hx : Lens M x) (hy : Lens M y) : Lens (2 * M) (x / y) := by
  rw [Rat.div_def]
  exact lens_mul hx (lens_inv hM hy)
def LensL (M : Nat) (l : List Rat) : Prop := ∀ q ∈ l, Lens M q
theorem lensl_zip {M N : Nat} {f : Rat → Rat → Rat} (hf : ∀ {x y}, Lens M x → Lens M y → Lens N (f x y)) {a b : List Rat} (ha : LensL M a) (hb : LensL M b) : LensL N (List.zipWith f a b) := fun q hq => by
  rw [List.mem_iff_getElem] at hq
  obtain ⟨i, hi, rfl⟩ := hq
  rw [List.getElem_zipWith]
  exact hf (ha _ (List.getElem_mem _)) (hb _ (List.getElem_mem _))
theorem LensL.wide {M N : Nat} {l : List Rat} (h : LensL M l) (hl : M ≤ N) : LensL N l := fun q hq => (h q hq).wide hl
theorem LensL.fit {sh : List Int} {l : List Rat} {M : Nat} (h : LensL M l) (h1 : sh.length ≤ 1099511627000) (h2 : l.length ≤ 1099511627000) (hM : 1 ≤ M) (hM2 : M ≤ 1048578) : Fit sh (l.map canR) M := fit_can h1 h2 h hM hM2
/-- what a zip of answered tensors answers -/
theorem zip_can (f : Rat → Rat → Rat) (g : RatL → RatL → RatL) (hg : ∀ x y, g x y = canR (f (qOf x) (qOf y))) (a b : List Rat) (h : a.length = b.length) : (List.range (a.map canR).length).map (zipG g (a.map canR) (b.map canR)) = (List.zipWith f a b).map canR := by
  rw [zip_map f g hg _ _ (by simp [h]), k_q, k_q]
theorem ext_q {a b : List Rat} (hl : a.length = b.length) (h : ∀ (i : Nat) (h1 : i < a.length) (h2 : i < b.length), a[i] = b[i]) : a = b := List.ext_getElem hl h
theorem field_1 {x y z : List Rat} (h1 : x.length = y.length) (h2 : x.length = z.length) : List.zipWith (fun a b => a * b) (List.zipWith (fun a b => a + b) x y) z = List.zipWith (fun a b => a + b) (List.zipWith (fun a b => a * b) x z) (List.zipWith (fun a b => a * b) y z) := by
  refine ext_q (by simp; omega) fun i g1 g2 => ?_
  simp only [List.getElem_zipWith]
  exact Rat.add_mul _ _ _
theorem field_2 {x y : List Rat} (h1 : x.length = y.length) : List.zipWith (fun a b => a - b) (List.zipWith (fun a b => a + b) x y) y = x := by
  refine ext_q (by simp; omega) fun i g1 g2 => ?_
  simp only [List.getElem_zipWith]
  rw [Rat.sub_eq_add_neg, Rat.add_assoc, Rat.add_neg_cancel, Rat.add_zero]
theorem field_3 {x z : List Rat} (h1 : x.length = z.length) (h0 : ∀ q ∈ z, q ≠ 0) : List.zipWith (fun a b => a / b) (List.zipWith (fun a b => a * b) x z) z = x := by
  refine ext_q (by simp; omega) fun i g1 g2 => ?_
  simp only [List.getElem_zipWith]
  exact Rat.mul_div_cancel (h0 _ (List.getElem_mem _))
end Go.Proofs.YtlknmoegngjpcaaGreat

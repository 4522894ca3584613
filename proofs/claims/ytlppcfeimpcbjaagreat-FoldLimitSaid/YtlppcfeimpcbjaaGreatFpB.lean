import Derived.Test.YtlppcfeimpcbjaaGreatFpA
set_option linter.unusedSimpArgs false
set_option linter.unusedVariables false

/- Contracts over matrices of answered numbers: mm_k, kf_mm; short and matrix. -/
namespace Go.Proofs.YtlppcfeimpcbjaaGreat
open Go.RowKit

theorem mayS_two {a c : Nat} (ha : 1 ≤ a) (ha5 : a ≤ 5) (hc : 1 ≤ c) (hc5 : c ≤ 5) : mayS [(a : Int), (c : Int)] = 0 :=
  mayS_0 (by simp) (fun d hd => by
    rcases List.mem_cons.1 hd with rfl | hd
    · omega
    · rw [List.mem_singleton] at hd; omega) (by
    rw [pr_two]
    have : a * c ≤ 5 * 5 := Nat.mul_le_mul ha5 hc5
    omega)
theorem kf_dims {a b M : Nat} {x : List Rat} (f : KF [(a : Int), (b : Int)] x M) : 1 ≤ a ∧ 1 ≤ b ∧ x.length = a * b := by
  have h := mayT_ok f.may
  have h2 := (mayS_ok h.1).2.1
  have ha := h2 (a : Int) (by simp)
  have hb := h2 (b : Int) (by simp)
  have hl := h.2.1
  rw [cntS_ok h.1, pr_two, List.length_map] at hl
  exact ⟨by omega, by omega, by omega⟩
theorem kf_mat {a b M : Nat} {x : List Rat} (ha : 1 ≤ a) (ha5 : a ≤ 5) (hb : 1 ≤ b) (hb5 : b ≤ 5) (hl : x.length = a * b) (hx : LensL M x) (hM : 1 ≤ M) (ht : M ≤ 1048578) : KF [(a : Int), (b : Int)] x M := by
  have h25 : a * b ≤ 5 * 5 := Nat.mul_le_mul ha5 hb5
  exact ⟨by simp, by omega, mayT_can (mayS_two ha ha5 hb hb5) (by rw [pr_two, hl]), hx, hM, ht⟩
theorem kf_mm {a b c : Nat} {x y : List Rat} {M N K : Nat} (f : KF [(a : Int), (b : Int)] x M) (g : KF [(b : Int), (c : Int)] y N) (ha : a ≤ 5) (hc : c ≤ 5) (hK : b * (M + N + 1) + 1 ≤ K) (ht : K ≤ 1048578) : KF [(a : Int), (c : Int)] (mmL x y a b c) K :=
  kf_mat (kf_dims f).1 ha (kf_dims g).2.1 hc (mmL_len _ _ _ _ _) ((lensl_mm f.lens g.lens f.one g.one a b c).wide hK) (by omega) ht
theorem mm_k {w : World} {a b c : Nat} {x y qs : List Rat} {p q r s : Value} {M K : Nat} (h : TV [(a : Int), (b : Int)] (x.map canR) w p q) (g : TV [(b : Int), (c : Int)] (y.map canR) w r s) (fa : Hid (KF [(a : Int), (b : Int)] x M)) (fb : Hid (KF [(b : Int), (c : Int)] y M)) (hd : Hid (a ≤ 5 ∧ b ≤ 5 ∧ c ≤ 5)) (hq : Hid (mmL x y a b c = qs)) (hK : Hid (25 * (M + M + 1) + 1 ≤ K ∧ K ≤ 104857600)) :
    Calls Tryz.prog 20 #[.agg #[p, q], .agg #[r, s]] w (Ret w (Tup 0 (TC 0 [(a : Int), (c : Int)] (qs.map canR)))) := by
  have da := kf_dims fa.out
  have db := kf_dims fb.out
  have h25 : a * b ≤ 5 * 5 := Nat.mul_le_mul hd.out.1 hd.out.2.1
  have hM := fa.out.one
  refine mm_u (K := K) h g (Lib.hid fa.out.fit) (Lib.hid fb.out.fit) (Lib.hid ((mmE_s fa.out.may fb.out.may ⟨rfl, rfl, rfl⟩).trans (mayS_two da.1 hd.out.1 db.2.1 hd.out.2.2))) (Lib.hid fun _ => rfl) (Lib.hid fun _ => ?_) (Lib.hid ?_)
  · rw [k_q, k_q]
    exact hq.out
  · rw [List.length_map, da.2.2]
    have := Nat.mul_le_mul_right (M + M + 1) h25
    have hk := hK.out
    refine ⟨?_, ?_, hk.2⟩ <;> omega
theorem short_u {w : World} {v : Value} {es : List RatL} {b : Bool} (h : Sl Rm (fun _ => True) w v es) (hb : Hid (shortB es = b)) : Calls Tryz.prog 36 #[v] w (Ret w fun _ v => v = .bool b) :=
  (short_t w v es b hb h).mono fun _ _ h => Ret.eq h.1 h.2
theorem matrix_u {w : World} {v : Value} {el : List RatL} {m n : Nat} (h : Sl Rm (fun _ => True) w v el) (hd : Hid (m ≤ 5 ∧ n ≤ 5)) (hs : Hid (shortB el = true)) : Calls Tryz.prog 37 #[.int .i64 (m : Int), .int .i64 (n : Int), v] w (Ret w (Agg (TV [(m : Int), (n : Int)] ((rot el (m * n)).map canR)))) := by
  refine (matrix_t w v el m n hd.out.1 hd.out.2 hs h).mono ?_
  rintro e u ⟨A, i, j, B, k, l, rfl, h1, h2, hf⟩
  exact ⟨_, rfl, hf, fun u' hu' => ⟨_, _, _, _, _, _, rfl, (h1.keep' hu').sl.any, (h2.keep' hu').sl.any⟩⟩
/-- what matrix answers -/
theorem kf_rot {el : List RatL} {m n : Nat} (hm : 1 ≤ m) (hm5 : m ≤ 5) (hn : 1 ≤ n) (hn5 : n ≤ 5) (hs : shortB el = true) (hl : ∀ x ∈ el, (∀ d ∈ x.2.1, d < LB) ∧ ∀ d ∈ x.2.2, d < LB) : KF [(m : Int), (n : Int)] (rot el (m * n)) 3 := by
  obtain ⟨h0, _, h3⟩ := of_decide_eq_true hs
  exact kf_mat hm hm5 hn hn5 (rot_len _ _) (rot_lens hl h3 h0 _) (by decide) (by decide)
end Go.Proofs.YtlppcfeimpcbjaaGreat

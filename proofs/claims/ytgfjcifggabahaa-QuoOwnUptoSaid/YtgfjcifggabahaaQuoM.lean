
/- QuoBack, QuoCommon, QuoSums. -/
import Derived.Test.YtgfjcifggabahaaQuoL
namespace Go.Proofs.Ytgfjcifggabahaa
open Go.RowKit

theorem Num.tight {S : Nat → Prop} {w : World} {A : Option Addr} {n c N L : Nat} (h : Num S w (.slice A n c) N L) : Num S w (.slice A n c) N n := by
  obtain ⟨xs, h1, h2, h3⟩ := h
  obtain ⟨A', c', e, _⟩ := h1.slice
  cases e
  exact ⟨xs, h1, h2, Nat.le_refl _⟩
theorem divides_yes {S T : Nat → Prop} (w : World) (va vb : Value) (A B L : Nat) (ha : Num S w va A L) (hb : Num T w vb B L) (hl : L ≤ 1048576000) (h : A ∣ B) :
    Calls Try.prog 29 #[va, vb] w fun e w' => e = .returned (.bool true) ∧ Fr (fun k => k < w.heap.size) w w' := by
  have := divides_n w va vb A B L ha hb hl
  rwa [decide_eq_true h] at this

set_option maxHeartbeats 2000000 in
theorem back_walk {S : Nat → Prop} (w : World) (va vb vc : Value) (a b c L : Nat) (ha : Num S w va a L) (hb : Num S w vb b L) (hc : Num S w vc c L) (hL : L ≤ 1048576) :
    Calls Try.prog 4 #[va, vb, vc] w fun e w' => e = .returned (.bool true) ∧ Fr (fun k => k < w.heap.size) w w' := by
  obtain ⟨A1, n1, c1, rfl⟩ := ha.form
  obtain ⟨A2, n2, c2, rfl⟩ := hb.form
  obtain ⟨A3, n3, c3, rfl⟩ := hc.form
  go_enter Try.func4, Try.ntmps4
  by_cases hg : 40 < n1 ∨ 40 < n2 ∨ 40 < n3
  · go_wp2_with fail
    all_goals
      refine (qknown_calls _).mono ?_
      rintro e w1 ⟨rfl, hf⟩
      go_wp2_with fail
      go_ret
      exact ⟨rfl, hf⟩
  · have g1 : n1 ≤ 40 := by omega
    have g2 : n2 ≤ 40 := by omega
    have g3 : n3 ≤ 40 := by omega
    clear hg
    rcases Nat.lt_or_ge c b with hlt | hge
    · have h0 : 0 < b := by omega
      have hq : (a * b + c) / b = a := by rw [Nat.mul_comm, Nat.mul_add_div h0, Nat.div_eq_of_lt hlt, Nat.add_zero]
      have hr : (a * b + c) % b = c := by rw [Nat.mul_comm, Nat.mul_add_mod, Nat.mod_eq_of_lt hlt]
      have HQ := Lib.hid (And.intro hq hr)
      clear hq hr
      go_wp2_with fail
      refine (cmp_lt _ _ _ _ _ _ _ hc hb hlt).mono ?_
      rintro e w1 ⟨rfl, hf⟩
      have F := hf
      replace ha := ha.keep hf; replace hb := hb.keep hf; replace hc := hc.keep hf
      clear hf
      go_wp2_with fail
      refine (mul_n _ _ _ _ _ _ _ ha hb (by omega)).mono ?_
      rintro e w2 ⟨vh1, rfl, h1, hf⟩
      replace F := fr_then F hf
      replace ha := ha.keep hf; replace hb := hb.keep hf; replace hc := hc.keep hf
      clear hf
      go_wp2_with fail
      refine (add_n _ _ _ _ _ _ _ h1.num hc (by omega) (by omega)).mono ?_
      rintro e w3 ⟨vh2, rfl, h2, hf⟩
      replace F := fr_then F hf
      replace ha := ha.keep hf; replace hb := hb.keep hf; replace hc := hc.keep hf
      clear hf h1
      go_wp2_with fail
      refine (divmod_n _ _ _ _ _ _ _ h2.num hb h0 (by omega) (by omega)).mono ?_
      rintro e w9 ⟨q, r, rfl, h3, h4, hf⟩
      rw [HQ.out.1] at h3
      rw [HQ.out.2] at h4
      replace F := fr_then F hf
      replace ha := ha.keep hf; replace hc := hc.keep hf
      clear hf h2 hb
      go_wp2_with fail
      refine (cmp_eq _ _ _ _ _ _ _ h3.num ha rfl).mono ?_
      rintro e w21 ⟨rfl, hf⟩
      replace F := fr_then F hf
      replace hc := hc.keep hf; replace h4 := h4.keep hf
      clear hf h3 ha
      go_wp2_with fail
      refine (cmp_eq _ _ _ _ _ _ _ h4.num hc rfl).mono ?_
      rintro e w22 ⟨rfl, hf⟩
      replace F := fr_then F hf
      clear hf h4 hc
      go_wp2_with fail
      refine (qknown_calls _).mono ?_
      rintro e w23 ⟨rfl, hf⟩
      replace F := fr_then F hf
      clear hf
      go_wp2_with fail
      go_ret
      exact ⟨rfl, F⟩
    · go_wp2_with fail
      refine (cmp_ge _ _ _ _ _ _ _ hc hb hge).mono ?_
      rintro e w1 ⟨⟨r, hr, rfl⟩, hf⟩
      have F := hf
      clear hf
      go_wp2_with fail
      refine (qknown_calls _).mono ?_
      rintro e w2 ⟨rfl, hf⟩
      go_wp2_with fail
      go_ret
      exact ⟨rfl, fr_then F hf⟩

set_option maxHeartbeats 2000000 in
theorem common_walk {S : Nat → Prop} (w : World) (va vb vc : Value) (a b c L : Nat) (ha : Num S w va a L) (hb : Num S w vb b L) (hc : Num S w vc c L) (hL : L ≤ 1048576) :
    Calls Try.prog 12 #[va, vb, vc] w fun e w' => e = .returned (.bool true) ∧ Fr (fun k => k < w.heap.size) w w' := by
  obtain ⟨A1, n1, c1, rfl⟩ := ha.form
  obtain ⟨A2, n2, c2, rfl⟩ := hb.form
  obtain ⟨A3, n3, c3, rfl⟩ := hc.form
  go_enter Try.func12, Try.ntmps12
  by_cases hg : 20 < n1 ∨ 20 < n2 ∨ 20 < n3
  · go_wp2_with fail
    all_goals
      refine (qknown_calls _).mono ?_
      rintro e w1 ⟨rfl, hf⟩
      go_wp2_with fail
      go_ret
      exact ⟨rfl, hf⟩
  · have g1 : n1 ≤ 20 := by omega
    have g2 : n2 ≤ 20 := by omega
    have g3 : n3 ≤ 20 := by omega
    clear hg
    go_wp2_with fail
    refine (mul_n _ _ _ _ _ _ _ ha hc (by omega)).mono ?_
    rintro e w1 ⟨vhx, rfl, hx, hf⟩
    have F := hf
    replace ha := ha.keep hf; replace hb := hb.keep hf; replace hc := hc.keep hf
    clear hf
    go_wp2_with fail
    refine (mul_n _ _ _ _ _ _ _ hb hc (by omega)).mono ?_
    rintro e w2 ⟨vhy, rfl, hy, hf⟩
    replace F := fr_then F hf
    replace ha := ha.keep hf; replace hb := hb.keep hf; replace hc := hc.keep hf; replace hx := hx.keep hf
    clear hf
    go_wp2_with fail
    refine (gcd_n _ _ _ _ _ (L + L) hx.num hy.num (by omega)).mono ?_
    rintro e w3 ⟨vhg, rfl, hg, hf⟩
    replace F := fr_then F hf
    replace ha := ha.keep hf; replace hb := hb.keep hf; replace hc := hc.keep hf; replace hx := hx.keep hf; replace hy := hy.keep hf
    clear hf
    go_wp2_with fail
    refine (divides_yes _ _ _ _ _ (L + L) hg.num hx.num (by omega) (Nat.gcd_dvd_left _ _)).mono ?_
    rintro e w4 ⟨rfl, hf⟩
    replace F := fr_then F hf
    replace ha := ha.keep hf; replace hb := hb.keep hf; replace hc := hc.keep hf; replace hx := hx.keep hf; replace hy := hy.keep hf; replace hg := hg.keep hf
    clear hf
    go_wp2_with fail
    refine (divides_yes _ _ _ _ _ (L + L) hg.num hy.num (by omega) (Nat.gcd_dvd_right _ _)).mono ?_
    rintro e w5 ⟨rfl, hf⟩
    replace F := fr_then F hf
    replace ha := ha.keep hf; replace hb := hb.keep hf; replace hc := hc.keep hf; replace hx := hx.keep hf; replace hy := hy.keep hf; replace hg := hg.keep hf
    clear hf
    go_wp2_with fail
    refine (divides_yes _ _ _ _ _ (L + L) (hc.wide (by omega)) hg.num (by omega) (Nat.dvd_gcd (Nat.dvd_mul_left _ _) (Nat.dvd_mul_left _ _))).mono ?_
    rintro e w6 ⟨rfl, hf⟩
    replace F := fr_then F hf
    replace ha := ha.keep hf; replace hb := hb.keep hf; replace hc := hc.keep hf; replace hx := hx.keep hf; replace hy := hy.keep hf; replace hg := hg.keep hf
    clear hf
    go_wp2_with fail
    refine (gcd_n _ _ _ _ _ L ha hb (by omega)).mono ?_
    rintro e w7 ⟨vh5, rfl, h5, hf⟩
    replace F := fr_then F hf
    replace hc := hc.keep hf; replace hx := hx.keep hf; replace hy := hy.keep hf; replace hg := hg.keep hf
    clear hf ha hb
    go_wp2_with fail
    refine (mul_n _ _ _ _ _ _ _ h5.num hc (by omega)).mono ?_
    rintro e w8 ⟨vh6, rfl, h6, hf⟩
    replace F := fr_then F hf
    replace hx := hx.keep hf; replace hy := hy.keep hf; replace hg := hg.keep hf
    clear hf h5 hc
    go_wp2_with fail
    refine (cmp_eq _ _ _ _ _ _ _ hg.num h6.num (Nat.gcd_mul_right _ _ _)).mono ?_
    rintro e w9 ⟨rfl, hf⟩
    replace F := fr_then F hf
    replace hx := hx.keep hf; replace hy := hy.keep hf; replace hg := hg.keep hf
    clear hf h6
    go_wp2_with fail
    refine (gcd_n _ _ _ _ _ (L + L) hy.num hx.num (by omega)).mono ?_
    rintro e w10 ⟨vh7, rfl, h7, hf⟩
    replace F := fr_then F hf
    replace hg := hg.keep hf
    clear hf hx hy
    go_wp2_with fail
    refine (cmp_eq _ _ _ _ _ _ _ h7.num hg.num (Nat.gcd_comm _ _)).mono ?_
    rintro e w11 ⟨rfl, hf⟩
    replace F := fr_then F hf
    clear hf h7 hg
    go_wp2_with fail
    refine (qknown_calls _).mono ?_
    rintro e w12 ⟨rfl, hf⟩
    replace F := fr_then F hf
    clear hf
    go_wp2_with fail
    go_ret
    exact ⟨rfl, F⟩

theorem pow_room' {a k X : Nat} (ha : a < LB ^ 4) (hk : 4 * k < X) : a ^ k < LB ^ X := by
  have h1 : a ^ k ≤ LB ^ (4 * k) := by rw [Nat.pow_mul]; exact Nat.pow_le_pow_left (Nat.le_of_lt ha) k
  exact Nat.lt_of_le_of_lt h1 (Nat.pow_lt_pow_right LB2 hk)

set_option maxHeartbeats 2000000 in
theorem sums_walk {S : Nat → Prop} (w : World) (va : Value) (i j : Int) (a L : Nat) (ha : Num S w va a L) (hi : (Lit.int .i64 i).wf = true) (hj : (Lit.int .i64 j).wf = true) (_ : L ≤ 1048576) :
    Calls Try.prog 10 #[va, .int .i64 i, .int .i64 j] w fun e w' => e = .returned (.bool true) ∧ Fr (fun k => k < w.heap.size) w w' := by
  have hi2 : -9223372036854775808 ≤ i ∧ i ≤ 9223372036854775807 := by simpa [Lit.wf, IntKind.min, IntKind.max, IntKind.signed, IntKind.bits] using hi
  have hj2 : -9223372036854775808 ≤ j ∧ j ≤ 9223372036854775807 := by simpa [Lit.wf, IntKind.min, IntKind.max, IntKind.signed, IntKind.bits] using hj
  obtain ⟨A1, n1, c1, rfl⟩ := ha.form
  replace ha := ha.tight
  clear hi hj
  go_enter Try.func10, Try.ntmps10
  by_cases hg : 4 < n1 ∨ i < 0 ∨ j < 0 ∨ 12 < i ∨ 12 < j
  · go_wp2_with fail
    all_goals
      refine (qknown_calls _).mono ?_
      rintro e w1 ⟨rfl, hf⟩
      go_wp2_with fail
      go_ret
      exact ⟨rfl, hf⟩
  · obtain ⟨m, rfl⟩ := Int.eq_ofNat_of_zero_le (show 0 ≤ i by omega)
    obtain ⟨n, rfl⟩ := Int.eq_ofNat_of_zero_le (show 0 ≤ j by omega)
    have g1 : n1 ≤ 4 := by omega
    have g2 : m ≤ 12 := by omega
    have g3 : n ≤ 12 := by omega
    replace ha := ha.wide g1
    have hal := ha.lt
    have hmn : m * n ≤ 144 := Nat.mul_le_mul g2 g3
    obtain ⟨X, hX⟩ : ∃ X, X = 578 := ⟨_, rfl⟩
    have hX1 : X ≤ 104857600 := by omega
    have hX2 : 4 ≤ X := by omega
    have q1 := pow_room' (k := m + n) (X := X) hal (by omega)
    have q2 := pow_room' (k := m) (X := X) hal (by omega)
    have q3 := pow_room' (k := n) (X := X) hal (by omega)
    have q4 := pow_room' (k := m * n) (X := X) hal (by omega)
    have q5 : (a ^ m) ^ n < LB ^ X := by rw [← Nat.pow_mul]; exact q4
    have HQ := Lib.hid (And.intro q1 (And.intro q2 (And.intro q3 (And.intro q4 q5))))
    clear hg q1 q2 q3 q4 q5 hal hi2 hj2 hX
    go_wp2_with fail
    refine (pow_lit _ _ a 4 (m + n) X _ (by omega) ha hX2 hX1 (by omega) HQ.out.1 (by omega)).mono ?_
    rintro e w1 ⟨vh1, rfl, h1, hf⟩
    have F := hf
    replace ha := ha.keep hf
    clear hf
    go_wp2_with fail
    refine (pow_lit _ _ a 4 m X _ rfl ha hX2 hX1 (by omega) HQ.out.2.1 (by omega)).mono ?_
    rintro e w2 ⟨vh2, rfl, h2, hf⟩
    replace F := fr_then F hf
    replace ha := ha.keep hf; replace h1 := h1.keep hf
    clear hf
    go_wp2_with fail
    refine (pow_lit _ _ a 4 n X _ rfl ha hX2 hX1 (by omega) HQ.out.2.2.1 (by omega)).mono ?_
    rintro e w3 ⟨vh3, rfl, h3, hf⟩
    replace F := fr_then F hf
    replace ha := ha.keep hf; replace h1 := h1.keep hf; replace h2 := h2.keep hf
    clear hf
    go_wp2_with fail
    refine (mul_n _ _ _ _ _ _ _ h2.num h3.num (by omega)).mono ?_
    rintro e w4 ⟨vh4, rfl, h4, hf⟩
    replace F := fr_then F hf
    replace ha := ha.keep hf; replace h1 := h1.keep hf
    clear hf h2 h3
    go_wp2_with fail
    refine (cmp_eq _ _ _ _ _ _ _ h1.num h4.num (Nat.pow_add _ _ _)).mono ?_
    rintro e w5 ⟨rfl, hf⟩
    replace F := fr_then F hf
    replace ha := ha.keep hf
    clear hf h1 h4
    go_wp2_with fail
    refine (pow_lit _ _ a 4 m X _ rfl ha hX2 hX1 (by omega) HQ.out.2.1 (by omega)).mono ?_
    rintro e w6 ⟨vh5, rfl, h5, hf⟩
    replace F := fr_then F hf
    replace ha := ha.keep hf
    clear hf
    go_wp2_with fail
    refine (pow_lit _ _ (a ^ m) X n X _ rfl h5.num (Nat.le_refl _) hX1 (by omega) HQ.out.2.2.2.2 (by omega)).mono ?_
    rintro e w7 ⟨vh6, rfl, h6, hf⟩
    replace F := fr_then F hf
    replace ha := ha.keep hf
    clear hf h5
    go_wp2_with fail
    refine (pow_lit _ _ a 4 (m * n) X _ (by simp) ha hX2 hX1 (by omega) HQ.out.2.2.2.1 (by omega)).mono ?_
    rintro e w8 ⟨vh7, rfl, h7, hf⟩
    replace F := fr_then F hf
    replace h6 := h6.keep hf
    clear hf ha
    go_wp2_with fail
    refine (cmp_eq _ _ _ _ _ _ _ h6.num h7.num (Nat.pow_mul _ _ _).symm).mono ?_
    rintro e w9 ⟨rfl, hf⟩
    replace F := fr_then F hf
    clear hf h6 h7
    go_wp2_with fail
    refine (qknown_calls _).mono ?_
    rintro e w10 ⟨rfl, hf⟩
    replace F := fr_then F hf
    clear hf
    go_wp2_with fail
    go_ret
    exact ⟨rfl, F⟩
end Go.Proofs.Ytgfjcifggabahaa

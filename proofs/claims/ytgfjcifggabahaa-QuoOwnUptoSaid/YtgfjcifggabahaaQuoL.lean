
/- QuoParts, QuoBack, QuoSteps. -/
import Derived.Test.YtgfjcifggabahaaQuoH
namespace Go.Proofs.Ytgfjcifggabahaa
open Go.RowKit

theorem cmp_lt {S T : Nat → Prop} (w : World) (va vb : Value) (M N L K : Nat) (ha : Num S w va M L) (hb : Num T w vb N K) (h : M < N) :
    Calls Try.prog 19 #[va, vb] w fun e w' => e = .returned (.int .i64 (-1)) ∧ Fr (fun k => k < w.heap.size) w w' := by
  have := cmp_n w va vb M N L K ha hb
  rwa [show cmpN M N = -1 from if_pos h] at this
theorem cmp_eq {S T : Nat → Prop} (w : World) (va vb : Value) (M N L K : Nat) (ha : Num S w va M L) (hb : Num T w vb N K) (h : M = N) :
    Calls Try.prog 19 #[va, vb] w fun e w' => e = .returned (.int .i64 0) ∧ Fr (fun k => k < w.heap.size) w w' := by
  subst h
  have := cmp_n w va vb M M L K ha hb
  rwa [show cmpN M M = 0 from by unfold cmpN; simp] at this
theorem cmp_ge {S T : Nat → Prop} (w : World) (va vb : Value) (M N L K : Nat) (ha : Num S w va M L) (hb : Num T w vb N K) (h : N ≤ M) :
    Calls Try.prog 19 #[va, vb] w fun e w' => (∃ r : Int, 0 ≤ r ∧ e = .returned (.int .i64 r)) ∧ Fr (fun k => k < w.heap.size) w w' := by
  refine (cmp_n w va vb M N L K ha hb).mono ?_
  rintro e w' ⟨rfl, hf⟩
  exact ⟨⟨_, by unfold cmpN; split <;> (try split) <;> omega, rfl⟩, hf⟩

set_option maxHeartbeats 2000000 in
theorem parts_walk {S : Nat → Prop} (w : World) (va vb : Value) (a b L : Nat) (ha : Num S w va a L) (hb : Num S w vb b L) (hL : L ≤ 1048576) :
    Calls Try.prog 5 #[va, vb] w fun e w' => e = .returned (.bool true) ∧ Fr (fun k => k < w.heap.size) w w' := by
  obtain ⟨A1, n1, c1, rfl⟩ := ha.form
  obtain ⟨A2, n2, c2, rfl⟩ := hb.form
  go_enter Try.func5, Try.ntmps5
  by_cases hg : 60 < n1 ∨ 60 < n2
  · go_wp2_with fail
    all_goals
      refine (qknown_calls _).mono ?_
      rintro e w1 ⟨rfl, hf⟩
      go_wp2_with fail
      go_ret
      exact ⟨rfl, hf⟩
  · have g1 : n1 ≤ 60 := by omega
    have g2 : n2 ≤ 60 := by omega
    rcases Nat.eq_zero_or_pos b with rfl | h0
    · go_wp2_with fail
      refine (divmod_0 _ _ _ _ _ _ ha hb (by omega) (by omega)).mono ?_
      rintro e w1 ⟨rfl, hf⟩
      have F := hf
      replace hb := hb.keep hf
      clear hf ha
      go_wp2_with fail
      refine (cmp_eq (T := fun _ => True) _ _ _ _ _ _ _ hb (Num.nil _ _ 0) rfl).mono ?_
      rintro e w2 ⟨rfl, hf⟩
      replace F := fr_then F hf
      go_wp2_with fail
      refine (qknown_calls _).mono ?_
      rintro e w3 ⟨rfl, hf⟩
      go_wp2_with fail
      go_ret
      exact ⟨rfl, fr_then F hf⟩
    · go_wp2_with fail
      refine (divmod_n _ _ _ _ _ _ _ ha hb h0 (by omega) (by omega)).mono ?_
      rintro e w1 ⟨q, r, rfl, hq, hr, hf⟩
      have F := hf
      replace ha := ha.keep hf; replace hb := hb.keep hf
      clear hf
      go_wp2_with fail
      refine (cmp_lt _ _ _ _ _ _ _ hr.num hb (Nat.mod_lt _ h0)).mono ?_
      rintro e w2 ⟨rfl, hf⟩
      replace F := fr_then F hf
      replace ha := ha.keep hf; replace hb := hb.keep hf; replace hq := hq.keep hf; replace hr := hr.keep hf
      clear hf
      go_wp2_with fail
      refine (mul_n _ _ _ _ _ _ _ hq.num hb (by omega)).mono ?_
      rintro e w3 ⟨v3, rfl, h3, hf⟩
      replace F := fr_then F hf
      replace ha := ha.keep hf; replace hr := hr.keep hf
      clear hf hq hb
      go_wp2_with fail
      refine (add_n _ _ _ _ _ _ _ h3.num hr.num (by omega) (by omega)).mono ?_
      rintro e w4 ⟨v4, rfl, h4, hf⟩
      replace F := fr_then F hf
      replace ha := ha.keep hf
      clear hf h3 hr
      go_wp2_with fail
      refine (cmp_eq _ _ _ _ _ _ _ h4.num ha (by rw [Nat.mul_comm]; exact Nat.div_add_mod a b)).mono ?_
      rintro e w5 ⟨rfl, hf⟩
      replace F := fr_then F hf
      go_wp2_with fail
      refine (qknown_calls _).mono ?_
      rintro e w6 ⟨rfl, hf⟩
      go_wp2_with fail
      go_ret
      exact ⟨rfl, fr_then F hf⟩

set_option maxHeartbeats 2000000 in
theorem steps_walk {S : Nat → Prop} (w : World) (va vb : Value) (a b L : Nat) (ha : Num S w va a L) (hb : Num S w vb b L) (hL : L ≤ 1048576) :
    Calls Try.prog 8 #[va, vb] w fun e w' => e = .returned (.bool true) ∧ Fr (fun k => k < w.heap.size) w w' := by
  obtain ⟨A1, n1, c1, rfl⟩ := ha.form
  obtain ⟨A2, n2, c2, rfl⟩ := hb.form
  go_enter Try.func8, Try.ntmps8
  by_cases hg : 20 < n1 ∨ 20 < n2
  · go_wp2_with fail
    all_goals
      refine (qknown_calls _).mono ?_
      rintro e w1 ⟨rfl, hf⟩
      go_wp2_with fail
      go_ret
      exact ⟨rfl, hf⟩
  · have g1 : n1 ≤ 20 := by omega
    have g2 : n2 ≤ 20 := by omega
    go_wp2_with fail
    refine (gcd_n _ _ _ _ _ _ ha hb (by omega)).mono ?_
    rintro e w1 ⟨vg, rfl, hg', hf⟩
    have F := hf
    replace ha := ha.keep hf; replace hb := hb.keep hf
    clear hf
    rcases Nat.eq_zero_or_pos b with rfl | h0
    · go_wp2_with fail
      refine (divmod_0 _ _ _ _ _ _ ha hb (by omega) (by omega)).mono ?_
      rintro e w2 ⟨rfl, hf⟩
      replace F := fr_then F hf
      replace ha := ha.keep hf; replace hg' := hg'.keep hf
      clear hf hb
      go_wp2_with fail
      refine (cmp_eq _ _ _ _ _ _ _ hg'.num ha (Nat.gcd_zero_right a)).mono ?_
      rintro e w3 ⟨rfl, hf⟩
      replace F := fr_then F hf
      go_wp2_with fail
      refine (qknown_calls _).mono ?_
      rintro e w4 ⟨rfl, hf⟩
      go_wp2_with fail
      go_ret
      exact ⟨rfl, fr_then F hf⟩
    · go_wp2_with fail
      refine (divmod_n _ _ _ _ _ _ _ ha hb h0 (by omega) (by omega)).mono ?_
      rintro e w2 ⟨q, r, rfl, hq, hr, hf⟩
      replace F := fr_then F hf
      replace hb := hb.keep hf; replace hg' := hg'.keep hf
      clear hf hq ha
      go_wp2_with fail
      refine (gcd_n _ _ _ _ _ _ hb hr.num (by omega)).mono ?_
      rintro e w3 ⟨v3, rfl, h3, hf⟩
      replace F := fr_then F hf
      replace hg' := hg'.keep hf
      clear hf hr hb
      go_wp2_with fail
      refine (cmp_eq _ _ _ _ _ _ _ hg'.num h3.num (by rw [Nat.gcd_comm b, ← Nat.gcd_rec, Nat.gcd_comm])).mono ?_
      rintro e w4 ⟨rfl, hf⟩
      replace F := fr_then F hf
      go_wp2_with fail
      refine (qknown_calls _).mono ?_
      rintro e w5 ⟨rfl, hf⟩
      go_wp2_with fail
      go_ret
      exact ⟨rfl, fr_then F hf⟩
end Go.Proofs.Ytgfjcifggabahaa


/- QuoDivides, QuoTells. -/
import Derived.Test.YtgfjcifggabahaaQuoO
import Derived.Test.YtgfjcifggabahaaQuoQ
namespace Go.Proofs.Ytgfjcifggabahaa
open Go.RowKit

set_option maxHeartbeats 2000000 in
theorem divs_walk {S : Nat → Prop} (w : World) (va vb : Value) (a b L : Nat) (ha : Num S w va a L) (hb : Num S w vb b L) (hL : L ≤ 1048576) :
    Calls Try.prog 3 #[va, vb] w fun e w' => e = .returned (.bool true) ∧ Fr (fun k => k < w.heap.size) w w' := by
  obtain ⟨A1, n1, c1, rfl⟩ := ha.form
  obtain ⟨A2, n2, c2, rfl⟩ := hb.form
  go_enter Try.func3, Try.ntmps3
  by_cases hg : 60 < n1 ∨ 60 < n2
  · go_wp2_with fail
    all_goals
      refine (qknown_calls _).mono ?_
      rintro e w1 ⟨rfl, hf⟩
      go_wp2_with fail
      go_ret
      exact ⟨rfl, hf⟩
  · have g1 : n1 ≤ 60 := by omega
    have g2 : n2 ≤ 60 := by omega
    clear hg
    rcases Nat.eq_zero_or_pos b with rfl | h0
    · go_wp2_with fail
      refine (divmod_0 _ _ _ _ _ _ ha hb (by omega) (by omega)).mono ?_
      rintro e w1 ⟨rfl, hf⟩
      have F := hf
      replace ha := ha.keep hf; replace hb := hb.keep hf
      clear hf
      go_wp2_with fail
      refine (of_r _ _ _ _ ha (by omega)).mono ?_
      rintro e w2 ⟨vh2, rfl, h2, hf⟩
      replace F := fr_then F hf
      replace hb := hb.keep hf
      clear hf ha
      go_wp2_with fail
      refine (of_r _ _ _ _ hb (by omega)).mono ?_
      rintro e w3 ⟨vh3, rfl, h3, hf⟩
      replace F := fr_then F hf
      replace h2 := h2.keep hf
      clear hf hb
      obtain ⟨A3, c3, hv3, _, _, _⟩ := h3.sl.slice
      rw [dg_zero] at hv3
      subst hv3
      clear h2 h3
      go_wp2_with fail
      refine (qknown_calls _).mono ?_
      rintro e w11 ⟨rfl, hf⟩
      replace F := fr_then F hf
      clear hf
      go_wp2_with fail
      go_ret
      exact ⟨rfl, F⟩
    · go_wp2_with fail
      refine (divmod_n _ _ _ _ _ _ _ ha hb h0 (by omega) (by omega)).mono ?_
      rintro e w1 ⟨q, r, rfl, hq, hr, hf⟩
      have F := hf
      replace ha := ha.keep hf; replace hb := hb.keep hf
      clear hf
      go_wp2_with fail
      refine (of_r _ _ _ _ ha (by omega)).mono ?_
      rintro e w2 ⟨vh2, rfl, h2, hf⟩
      replace F := fr_then F hf
      replace hb := hb.keep hf; replace hq := hq.keep hf; replace hr := hr.keep hf
      clear hf ha
      go_wp2_with fail
      refine (of_r _ _ _ _ hb (by omega)).mono ?_
      rintro e w3 ⟨vh3, rfl, h3, hf⟩
      replace F := fr_then F hf
      replace hq := hq.keep hf; replace hr := hr.keep hf; replace h2 := h2.keep hf
      clear hf hb
      obtain ⟨A3, c3, hv3, _, _, _⟩ := h3.sl.slice
      have hpos := (dg_len_pos DB2).2 h0
      have hz : (((dg DB b).length : Int) == 0) = false := beq_eq_false_iff_ne.2 (by omega)
      subst hv3
      go_wp2_with fail
      refine (dm_r _ _ _ _ _ _ _ h2 h3 (by omega) (by omega) h0).mono ?_
      rintro e w9 ⟨q2, r2, rfl, h4, h5, hf⟩
      replace F := fr_then F hf
      replace hq := hq.keep hf; replace hr := hr.keep hf
      clear hf h2 h3
      go_wp2_with fail
      refine (qis_n _ _ _ _ _ _ _ h4 hq (by omega) rfl).mono ?_
      rintro e w21 ⟨rfl, hf⟩
      replace F := fr_then F hf
      replace hr := hr.keep hf; replace h5 := h5.keep hf
      clear hf h4 hq
      go_wp2_with fail
      refine (qis_n _ _ _ _ _ _ _ h5 hr (by omega) rfl).mono ?_
      rintro e w22 ⟨rfl, hf⟩
      replace F := fr_then F hf
      clear hf h5 hr
      go_wp2_with fail
      refine (qknown_calls _).mono ?_
      rintro e w23 ⟨rfl, hf⟩
      replace F := fr_then F hf
      clear hf
      go_wp2_with fail
      go_ret
      exact ⟨rfl, F⟩

set_option maxHeartbeats 2000000 in
theorem tells_walk {S : Nat → Prop} (w : World) (va vb : Value) (a b L : Nat) (ha : Num S w va a L) (hb : Num S w vb b L) (hL : L ≤ 1048576) :
    Calls Try.prog 13 #[va, vb] w fun e w' => e = .returned (.bool true) ∧ Fr (fun k => k < w.heap.size) w w' := by
  obtain ⟨A1, n1, c1, rfl⟩ := ha.form
  obtain ⟨A2, n2, c2, rfl⟩ := hb.form
  go_enter Try.func13, Try.ntmps13
  by_cases hg : 30 < n1 ∨ 30 < n2
  · go_wp2_with fail
    all_goals
      refine (qknown_calls _).mono ?_
      rintro e w1 ⟨rfl, hf⟩
      go_wp2_with fail
      go_ret
      exact ⟨rfl, hf⟩
  · have g1 : n1 ≤ 30 := by omega
    have g2 : n2 ≤ 30 := by omega
    clear hg
    go_wp2_with fail
    refine (of_r _ _ _ _ ha (by omega)).mono ?_
    rintro e w1 ⟨vh2, rfl, h2, hf⟩
    have F := hf
    replace ha := ha.keep hf; replace hb := hb.keep hf
    clear hf
    go_wp2_with fail
    refine (of_r _ _ _ _ hb (by omega)).mono ?_
    rintro e w2 ⟨vh3, rfl, h3, hf⟩
    replace F := fr_then F hf
    replace ha := ha.keep hf; replace hb := hb.keep hf; replace h2 := h2.keep hf
    clear hf
    have hz : ∀ N, ((((dg DB N).length : Nat) : Int) == 0) = decide (N = 0) := fun N => by
      rcases Nat.eq_zero_or_pos N with rfl | hp
      · rw [dg_zero]; rfl
      · have h1 := (dg_len_pos DB2).2 hp
        rw [decide_eq_false (by omega)]
        exact beq_eq_false_iff_ne.2 (by omega)
    obtain ⟨A3, c3, hv3, _, _, _⟩ := h2.sl.slice
    obtain ⟨A4, c4, hv4, _, _, _⟩ := h3.sl.slice
    subst hv3 hv4
    rcases Nat.eq_zero_or_pos a with rfl | h0
    · have hza : (((dg DB 0).length : Int) == 0) = true := by rw [dg_zero]; rfl
      have hzb := hz b
      have HZ := Lib.hid hz
      clear hz h2 h3
      go_wp2_with fail
      refine (divides_n _ _ _ _ _ _ ha hb (by omega)).mono ?_
      rintro e w3 ⟨rfl, hf⟩
      replace F := fr_then F hf
      have hd : decide (0 ∣ b) = decide (b = 0) := decide_eq_decide.2 Nat.zero_dvd
      rw [hd]
      clear hf hd
      go_wp2_with fail
      refine (qknown_calls _).mono ?_
      rintro e w11 ⟨rfl, hf⟩
      replace F := fr_then F hf
      clear hf
      go_wp2_with fail
      go_ret
      exact ⟨rfl, F⟩
    · have hza : (((dg DB a).length : Int) == 0) = false := by rw [hz a]; exact decide_eq_false (by omega)
      go_wp2_with fail
      refine (dm_r _ _ _ _ _ _ _ h3 h2 (by omega) (by omega) h0).mono ?_
      rintro e w3 ⟨q2, r2, rfl, h4, h5, hf⟩
      replace F := fr_then F hf
      replace ha := ha.keep hf; replace hb := hb.keep hf
      obtain ⟨A5, c5, hv5, _, _, _⟩ := h5.sl.slice
      subst hv5
      have hzb := hz (b % a)
      clear hf hz h2 h3 h4 h5
      go_wp2_with fail
      refine (divides_n _ _ _ _ _ _ ha hb (by omega)).mono ?_
      rintro e w4 ⟨rfl, hf⟩
      replace F := fr_then F hf
      have hd : decide (a ∣ b) = decide (b % a = 0) := decide_eq_decide.2 Nat.dvd_iff_mod_eq_zero
      rw [hd]
      clear hf hd
      go_wp2_with fail
      refine (qknown_calls _).mono ?_
      rintro e w11 ⟨rfl, hf⟩
      replace F := fr_then F hf
      clear hf
      go_wp2_with fail
      go_ret
      exact ⟨rfl, F⟩
end Go.Proofs.Ytgfjcifggabahaa

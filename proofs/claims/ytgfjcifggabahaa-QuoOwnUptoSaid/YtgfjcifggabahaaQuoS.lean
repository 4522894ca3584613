
/- QuoShort. -/
import Derived.Test.YtgfjcifggabahaaQuoR
namespace Go.Proofs.Ytgfjcifggabahaa
open Go.RowKit

theorem qshort_0 {S : Nat → Prop} (w : World) (va : Value) (N L : Nat) (ha : Num S w va N L) :
    Calls Try.prog 22 #[va, .int .u32 0] w fun e w' => e = .returned (.tuple #[.slice none 0 0, .int .u32 0, .int .i64 17]) ∧ Fr (fun k => k < w.heap.size) w w' := by
  obtain ⟨A, n, c, rfl⟩ := ha.form
  clear ha
  go_enter Try.func22, Try.ntmps22
  go_wp2_with fail
  go_ret3
  exact ⟨rfl, Fr.refl _ _⟩

set_option maxHeartbeats 2000000 in
theorem shortq_walk {S : Nat → Prop} (w : World) (va : Value) (d : Int) (a L : Nat) (ha : Num S w va a L) (hd : (Lit.int .u32 d).wf = true) (hL : L ≤ 1048576) :
    Calls Try.prog 6 #[va, .int .u32 d] w fun e w' => e = .returned (.bool true) ∧ Fr (fun k => k < w.heap.size) w w' := by
  have hd2 : 0 ≤ d ∧ d ≤ 4294967295 := by simpa [Lit.wf, IntKind.min, IntKind.max, IntKind.signed, IntKind.bits] using hd
  obtain ⟨n, rfl⟩ := Int.eq_ofNat_of_zero_le hd2.1
  have hn : n < 4294967296 := by omega
  clear hd hd2
  obtain ⟨A1, n1, c1, rfl⟩ := ha.form
  go_enter Try.func6, Try.ntmps6
  by_cases hg : 60 < n1
  · go_wp2_with fail
    refine (qknown_calls _).mono ?_
    rintro e w1 ⟨rfl, hf⟩
    go_wp2_with fail
    go_ret
    exact ⟨rfl, hf⟩
  · have g1 : n1 ≤ 60 := by omega
    clear hg
    rcases Nat.eq_zero_or_pos n with rfl | h0
    · go_wp2_with fail
      refine (qshort_0 _ _ _ _ ha).mono ?_
      rintro e w1 ⟨rfl, hf⟩
      have F := hf
      clear hf ha
      go_wp2_with fail
      refine (qknown_calls _).mono ?_
      rintro e w11 ⟨rfl, hf⟩
      replace F := fr_then F hf
      clear hf
      go_wp2_with fail
      go_ret
      exact ⟨rfl, F⟩
    · have hz : ((n : Int) == 0) = false := beq_eq_false_iff_ne.2 (by omega)
      have hr : a % n < n := Nat.mod_lt _ h0
      have hw : IntKind.i64.wrap (n : Int) = (n : Int) := by rw [IntKind.wrap_i64]; omega
      go_wp2_with fail
      refine (qshort_n _ _ _ _ _ ha (by omega) h0 (by unfold LB; omega)).mono ?_
      rintro e w1 ⟨q, rfl, hq, hf⟩
      have F := hf
      replace ha := ha.keep hf
      clear hf
      go_wp2_with fail
      refine (of_r _ _ _ _ ha (by omega)).mono ?_
      rintro e w2 ⟨vh2, rfl, h2, hf⟩
      replace F := fr_then F hf
      replace hq := hq.keep hf
      clear hf ha
      go_wp2_with fail
      refine (small_r _ n 3 (by omega) (Nat.lt_of_lt_of_le hn (by decide))).mono ?_
      rintro e w3 ⟨vh3, rfl, h3, hf⟩
      replace F := fr_then F hf
      replace hq := hq.keep hf; replace h2 := h2.keep hf
      clear hf
      go_wp2_with fail
      refine (dm_r _ _ _ _ _ _ _ h2 h3 (by omega) (by omega) h0).mono ?_
      rintro e w9 ⟨q2, r2, rfl, h4, h5, hf⟩
      replace F := fr_then F hf
      replace hq := hq.keep hf
      clear hf h2 h3
      go_wp2_with fail
      refine (qis_n _ _ _ _ _ _ _ h4 hq (by omega) rfl).mono ?_
      rintro e w21 ⟨rfl, hf⟩
      replace F := fr_then F hf
      replace h5 := h5.keep hf
      clear hf h4 hq
      go_wp2_with fail
      refine (small_r _ (a % n) 3 (by omega) (Nat.lt_of_lt_of_le (show a % n < 4294967296 by omega) (by decide))).mono ?_
      rintro e w4 ⟨vh4, rfl, h6, hf⟩
      replace F := fr_then F hf
      replace h5 := h5.keep hf
      clear hf
      go_wp2_with fail
      refine (cmp_r' _ _ _ _ _ _ _ h6 h5).mono ?_
      rintro e w5 ⟨rfl, hf⟩
      replace F := fr_then F hf
      have hc : cmpN (a % n) (a % n) = 0 := by unfold cmpN; simp
      rw [hc]
      clear hf hc h5 h6
      go_wp2_with fail
      refine (qknown_calls _).mono ?_
      rintro e w11 ⟨rfl, hf⟩
      replace F := fr_then F hf
      clear hf
      go_wp2_with fail
      go_ret
      exact ⟨rfl, F⟩
end Go.Proofs.Ytgfjcifggabahaa

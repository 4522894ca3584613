/- NatBits, NatShifts. -/
import Derived.Test.YtkngjhajjimjbaaLawSubs
import Derived.Test.YtkngjhajjimjbaaRefE
namespace Go.Proofs.Ytkngjhajjimjbaa
open Go.RowKit

theorem bits_n {S : Nat → Prop} (w : World) (va : Value) (N L : Nat) (ha : Num S w va N L) (hl : L ≤ 1099511627000) :
    Calls Try.prog 22 #[va] w fun e w' => e = .returned (.int .i64 (blen N : Int)) ∧ w' = w := by
  obtain ⟨xs, a1, rfl, a3⟩ := ha
  exact bits_calls w va xs a1 (by omega)
theorem bit_yes {S : Nat → Prop} (w : World) (va : Value) (N L : Nat) (i : Int) (ha : Num S w va N L) (hi : i < 9223372036854775808) (h : bitAt N i = true) :
    Calls Try.prog 24 #[va, .int .i64 i] w fun e w' => e = .returned (.bool true) ∧ w' = w := by
  obtain ⟨xs, a1, rfl, a3⟩ := ha
  have := bit_calls w va xs i a1 hi
  rwa [h] at this
theorem bit_no {S : Nat → Prop} (w : World) (va : Value) (N L : Nat) (i : Int) (ha : Num S w va N L) (hi : i < 9223372036854775808) (h : bitAt N i = false) :
    Calls Try.prog 24 #[va, .int .i64 i] w fun e w' => e = .returned (.bool false) ∧ w' = w := by
  obtain ⟨xs, a1, rfl, a3⟩ := ha
  have := bit_calls w va xs i a1 hi
  rwa [h] at this
set_option exponentiation.threshold 700 in
theorem shl_n {S : Nat → Prop} (w : World) (va : Value) (N L : Nat) (n : Int) (ha : Num S w va N L) (hn : n ≤ 600) (hl : L ≤ 549755813000) :
    Calls Try.prog 36 #[va, .int .i64 n] w fun e w' => ∃ v, e = .returned v ∧ Can (fun k => w.heap.size ≤ k) w' v (N * 2 ^ n.toNat) (L + 19) ∧ Fr (fun k => k < w.heap.size) w w' := by
  have hlt := ha.lt
  obtain ⟨xs, a1, rfl, a3⟩ := ha
  refine (shl_calls w va xs n a1 (by omega) (by omega)).mono ?_
  rintro e w' ⟨v, rfl, h, hf⟩
  refine ⟨v, rfl, .of h ?_, hf⟩
  rw [Nat.pow_add]
  refine Nat.mul_lt_mul_of_lt_of_le hlt ?_ (Nat.pow_pos LBpos)
  rw [LB_pow]
  exact Nat.pow_le_pow_right (by decide) (by omega)
theorem shr_n {S : Nat → Prop} (w : World) (va : Value) (N L : Nat) (n : Int) (ha : Num S w va N L) (hn : n ≤ 600) (hl : L ≤ 549755813000) :
    Calls Try.prog 37 #[va, .int .i64 n] w fun e w' => ∃ v, e = .returned v ∧ Can (fun k => w.heap.size ≤ k) w' v (N / 2 ^ n.toNat) L ∧ Fr (fun k => k < w.heap.size) w w' := by
  have hlt := ha.lt
  obtain ⟨xs, a1, rfl, a3⟩ := ha
  refine (shr_calls w va xs n a1 (by omega) (by omega)).mono ?_
  rintro e w' ⟨v, rfl, h, hf⟩
  exact ⟨v, rfl, .of h (Nat.lt_of_le_of_lt (Nat.div_le_self _ _) hlt), hf⟩

theorem bitAt_top {N k : Nat} (h1 : 2 ^ k ≤ N) (h2 : N < 2 ^ (k + 1)) : bitAt N ((k + 1 : Nat) - 1 : Int) = true := by
  unfold bitAt
  have e : ((k + 1 : Nat) - 1 : Int).toNat = k := by omega
  have e2 : N / 2 ^ k = 1 := by
    have a1 : N / 2 ^ k < 2 := Nat.div_lt_of_lt_mul (by rw [Nat.pow_succ] at h2; omega)
    have a2 : 0 < N / 2 ^ k := Nat.div_pos h1 (Nat.pow_pos (by decide))
    omega
  rw [e, e2]
  exact decide_eq_true ⟨by omega, rfl⟩
theorem bitAt_over {N k : Nat} (h : N < 2 ^ k) {i : Int} (hi : (k : Int) ≤ i) : bitAt N i = false := by
  unfold bitAt
  have : N < 2 ^ i.toNat := Nat.lt_of_lt_of_le h (Nat.pow_le_pow_right (by decide) (by omega))
  rw [Nat.div_eq_of_lt this]
  simp
theorem bitAt_low {N : Nat} {i : Int} (hi : i < 0) : bitAt N i = false := decide_eq_false fun h => by omega
theorem bitAt_nat (N n : Nat) : bitAt N (n : Int) = decide (N / 2 ^ n % 2 = 1) := by
  unfold bitAt; simp
theorem lt_blen (N : Nat) : N < 2 ^ blen N := lt_pow_dg (by decide) N

set_option maxHeartbeats 2000000 in
theorem bits_walk {S : Nat → Prop} (w : World) (va : Value) (i : Int) (a L : Nat) (ha : Num S w va a L) (hi : (Lit.int .i64 i).wf = true) (hL : L ≤ 1048576) :
    Calls Try.prog 6 #[va, .int .i64 i] w fun e w' => e = .returned (.bool true) ∧ Fr (fun k => k < w.heap.size) w w' := by
  have hi2 : -9223372036854775808 ≤ i ∧ i ≤ 9223372036854775807 := by simpa [Lit.wf, IntKind.min, IntKind.max, IntKind.signed, IntKind.bits] using hi
  have hbl := blen_le (Nat.lt_of_lt_of_le ha.lt (LB_DB L))
  have hover := lt_blen a
  have htop : 0 < blen a → bitAt a ((blen a : Int) - 1) = true := fun h => by
    have hp : 0 < a := by
      rcases Nat.eq_zero_or_pos a with e | e
      · subst e; rw [blen_zero] at h; omega
      · exact e
    obtain ⟨k, e, h1, h2⟩ := blen_pos hp
    rw [e]; exact bitAt_top h1 h2
  have hno : ∀ j : Int, (blen a : Int) ≤ j → bitAt a j = false := fun j hj => bitAt_over hover hj
  have HT := Lib.hid htop
  have HN := Lib.hid hno
  clear hi htop hno hover
  go_enter Try.func6, Try.ntmps6
  go_wp2_with fail
  refine (own_n _ _ _ _ ha (by omega)).mono ?_
  rintro e w1 ⟨v1, rfl, h1, hf⟩
  have F := hf
  replace ha := ha.keep hf; clear hf
  go_wp2_with fail
  refine (bits_n _ _ _ _ h1 (by omega)).mono ?_
  rintro e w' ⟨rfl, rfl⟩
  clear h1
  go_wp2_with fail
  refine (of_r _ _ _ _ ha (by omega)).mono ?_
  rintro e w2 ⟨v2, rfl, h2, hf⟩
  replace F := fr_then F hf
  replace ha := ha.keep hf; clear hf
  go_wp2_with fail
  refine (bits_r _ _ _ _ h2 (by omega)).mono ?_
  rintro e w3 ⟨rfl, hf⟩
  replace F := fr_then F hf
  replace ha := ha.keep hf; clear hf h2
  by_cases hz : 0 < blen a
  · go_wp2_with fail
    refine (bit_yes _ _ _ _ _ ha (by omega) (HT.out hz)).mono ?_
    rintro e w' ⟨rfl, rfl⟩
    go_wp2_with fail
    refine (bit_no _ _ _ _ _ ha (by omega) (HN.out _ (Int.le_refl _))).mono ?_
    rintro e w' ⟨rfl, rfl⟩
    by_cases hneg : i < 0
    · go_wp2_with fail
      refine (bit_no _ _ _ _ i ha (by omega) (bitAt_low hneg)).mono ?_
      rintro e w' ⟨rfl, rfl⟩
      go_wp2_with fail
      refine (known_calls _).mono ?_
      rintro e w4 ⟨rfl, hf⟩
      go_wp2_with fail
      go_ret
      exact ⟨rfl, fr_then F hf⟩
    · by_cases hge : (blen a : Int) ≤ i
      · go_wp2_with fail
        refine (bit_no _ _ _ _ i ha (by omega) (HN.out i hge)).mono ?_
        rintro e w' ⟨rfl, rfl⟩
        go_wp2_with fail
        refine (known_calls _).mono ?_
        rintro e w4 ⟨rfl, hf⟩
        go_wp2_with fail
        go_ret
        exact ⟨rfl, fr_then F hf⟩
      · obtain ⟨n, rfl⟩ := Int.eq_ofNat_of_zero_le (show 0 ≤ i by omega)
        have hnb : n < blen a := by omega
        go_wp2_with fail
        refine (of_r _ _ _ _ ha (by omega)).mono ?_
        rintro e w4 ⟨v4, rfl, h4, hf⟩
        replace F := fr_then F hf
        replace ha := ha.keep hf; clear hf
        go_wp2_with fail
        go_loopw [6, 7, 8, 9] (fun v k _ _ wr => ∃ (m : Nat), k = .int .i64 m ∧ m ≤ n ∧ RC (fun _ => True) wr v (a / 2 ^ m) (3 * L) ∧ Num S wr va a L ∧ Fr (fun k => k < w.heap.size) w wr) (fun _ k _ _ _ => (n - (intOf k).toNat))
        case atStart => exact ⟨0, rfl, Nat.zero_le _, by rw [Nat.pow_zero, Nat.div_one]; exact h4.mono fun _ _ => trivial, ha, F⟩
        case round =>
          clear ha h4 F
          obtain ⟨m, rfl, hm, hv, ha, F⟩ := hrel
          by_cases hlt : m < n
          · go_wp2_with fail
            refine (short_2 _ _ _ _ hv (by omega)).mono ?_
            rintro e w5 ⟨v5, rfl, h5, hf⟩
            go_wp2_with fail
            go_roundw
            case rel => exact ⟨m + 1, by go_num, hlt, by rw [Nat.pow_succ, ← Nat.div_div_eq_div_mul]; exact h5.mono fun _ _ => trivial, ha.keep hf, fr_then F hf⟩
            case measure => first | (simp [intOf]; done) | (simp [intOf]; omega)
          · obtain rfl : m = n := by omega
            rcases Nat.mod_two_eq_zero_or_one (a / 2 ^ m) with hodd | hodd
            · have hbit : bitAt a (m : Int) = false := by rw [bitAt_nat, hodd]; rfl
              have HO := Lib.hid (And.intro hodd hbit)
              clear hodd hbit
              go_wp2_with fail
              refine (short_even _ _ _ _ hv (by omega) HO.out.1).mono ?_
              rintro e w5 ⟨v5, rfl, h5, hf⟩
              replace F := fr_then F hf
              replace ha := ha.keep hf; clear hf h5 hv
              go_wp2_with fail
              refine (bit_no _ _ _ _ _ ha (by omega) HO.out.2).mono ?_
              rintro e w' ⟨rfl, rfl⟩
              go_wp2_with fail
              refine (known_calls _).mono ?_
              rintro e w4 ⟨rfl, hf⟩
              go_wp2_with fail
              go_ret
              exact ⟨rfl, fr_then F hf⟩
            · have hbit : bitAt a (m : Int) = true := by rw [bitAt_nat, hodd]; rfl
              have HO := Lib.hid (And.intro hodd hbit)
              clear hodd hbit
              go_wp2_with fail
              refine (short_odd _ _ _ _ hv (by omega) HO.out.1).mono ?_
              rintro e w5 ⟨v5, rfl, h5, hf⟩
              replace F := fr_then F hf
              replace ha := ha.keep hf; clear hf h5 hv
              go_wp2_with fail
              refine (bit_yes _ _ _ _ _ ha (by omega) HO.out.2).mono ?_
              rintro e w' ⟨rfl, rfl⟩
              go_wp2_with fail
              refine (known_calls _).mono ?_
              rintro e w4 ⟨rfl, hf⟩
              go_wp2_with fail
              go_ret
              exact ⟨rfl, fr_then F hf⟩
  · have hz0 : blen a = 0 := by omega
    have hno0 := HN.out 0 (by omega)
    rw [hz0]
    have HZ := Lib.hid hz0
    have HZ0 := Lib.hid hno0
    clear hz0 hno0 hz
    go_wp2_with fail
    refine (bit_no _ _ _ _ _ ha (by omega) HZ0.out).mono ?_
    rintro e w' ⟨rfl, rfl⟩
    by_cases hneg : i < 0
    · go_wp2_with fail
      refine (bit_no _ _ _ _ i ha (by omega) (bitAt_low hneg)).mono ?_
      rintro e w' ⟨rfl, rfl⟩
      go_wp2_with fail
      refine (known_calls _).mono ?_
      rintro e w4 ⟨rfl, hf⟩
      go_wp2_with fail
      go_ret
      exact ⟨rfl, fr_then F hf⟩
    · have hno1 := HN.out i (by rw [HZ.out]; omega)
      have HN1 := Lib.hid hno1
      clear hno1
      go_wp2_with fail
      refine (bit_no _ _ _ _ i ha (by omega) HN1.out).mono ?_
      rintro e w' ⟨rfl, rfl⟩
      go_wp2_with fail
      refine (known_calls _).mono ?_
      rintro e w4 ⟨rfl, hf⟩
      go_wp2_with fail
      go_ret
      exact ⟨rfl, fr_then F hf⟩

theorem shift_back {a m : Nat} {i : Int} (h : m = i.toNat) : a * 2 ^ m / 2 ^ i.toNat = a := by
  rw [← h]; exact Nat.mul_div_cancel _ (Nat.pow_pos (by decide))

set_option maxHeartbeats 2000000 in
theorem shifts_walk {S : Nat → Prop} (w : World) (va : Value) (i : Int) (a L : Nat) (ha : Num S w va a L) (hi : (Lit.int .i64 i).wf = true) (hL : L ≤ 1048576) :
    Calls Try.prog 10 #[va, .int .i64 i] w fun e w' => e = .returned (.bool true) ∧ Fr (fun k => k < w.heap.size) w w' := by
  have hi2 : -9223372036854775808 ≤ i ∧ i ≤ 9223372036854775807 := by simpa [Lit.wf, IntKind.min, IntKind.max, IntKind.signed, IntKind.bits] using hi
  clear hi
  go_enter Try.func10, Try.ntmps10
  by_cases hbig : 600 < i
  · go_wp2_with fail
    refine (known_calls _).mono ?_
    rintro e w1 ⟨rfl, hf⟩
    go_wp2_with fail
    go_ret
    exact ⟨rfl, hf⟩
  · obtain ⟨n, hn⟩ : ∃ n, n = i.toNat := ⟨_, rfl⟩
    have hn2 : n ≤ 600 := by omega
    have hmax : max i 0 = (n : Int) := by omega
    have HI := Lib.hid hn
    clear hn
    go_wp2_with fail
    refine (own_n _ _ _ _ ha (by omega)).mono ?_
    rintro e w1 ⟨v1, rfl, h1, hf⟩
    have F := hf
    replace ha := ha.keep hf; clear hf
    go_wp2_with fail
    refine (shl_n _ _ _ _ _ h1 (by omega) (by omega)).mono ?_
    rintro e w2 ⟨v2, rfl, hup, hf⟩
    replace F := fr_then F hf
    replace ha := ha.keep hf; clear hf h1
    go_wp2_with fail
    refine (own_n _ _ _ _ ha (by omega)).mono ?_
    rintro e w3 ⟨v3, rfl, h3, hf⟩
    replace F := fr_then F hf
    replace ha := ha.keep hf; replace hup := hup.keep hf; clear hf
    go_wp2_with fail
    refine (shr_n _ _ _ _ _ h3 (by omega) (by omega)).mono ?_
    rintro e w4 ⟨v4, rfl, hdn, hf⟩
    replace F := fr_then F hf
    replace ha := ha.keep hf; replace hup := hup.keep hf; clear hf h3
    go_wp2_with fail
    rw [← HI.out] at hdn hup
    refine (of_r _ _ _ _ ha (by omega)).mono ?_
    rintro e w5 ⟨v5, rfl, h4, hf⟩
    replace F := fr_then F hf
    replace ha := ha.keep hf; replace hup := hup.keep hf; replace hdn := hdn.keep hf; clear hf
    go_wp2_with fail
    go_loopw [8, 9, 10, 11] (fun v k _ _ wr => ∃ (m : Nat), k = .int .i64 m ∧ m ≤ n ∧ RC (fun _ => True) wr v (a / 2 ^ m) (3 * L) ∧ Num S wr va a L ∧ Can (fun k => w1.heap.size ≤ k) wr v2 (a * 2 ^ n) (L + 19) ∧ Can (fun k => w3.heap.size ≤ k) wr v4 (a / 2 ^ n) L ∧ Fr (fun k => k < w.heap.size) w wr) (fun _ k _ _ _ => (n - (intOf k).toNat))
    case atStart => exact ⟨0, rfl, Nat.zero_le _, by rw [Nat.pow_zero, Nat.div_one]; exact h4.mono fun _ _ => trivial, ha, hup, hdn, F⟩
    case round =>
      clear ha h4 F hup hdn
      obtain ⟨m, rfl, hm, hv, ha, hup, hdn, F⟩ := hrel
      by_cases hlt : m < n
      · go_wp2_with fail
        refine (short_2 _ _ _ _ hv (by omega)).mono ?_
        rintro e w5 ⟨v5, rfl, h5, hf⟩
        go_wp2_with fail
        go_roundw
        case rel => exact ⟨m + 1, by go_num, hlt, by rw [Nat.pow_succ, ← Nat.div_div_eq_div_mul]; exact h5.mono fun _ _ => trivial, ha.keep hf, hup.keep hf, hdn.keep hf, fr_then F hf⟩
        case measure => first | (simp [intOf]; done) | (simp [intOf]; omega)
      · obtain rfl : m = n := by omega
        go_wp2_with fail
        refine (of_r _ _ _ _ ha (by omega)).mono ?_
        rintro e w21 ⟨vh1, rfl, h1, hf⟩
        replace F := fr_then F hf
        replace ha := ha.keep hf; replace hup := hup.keep hf; replace hdn := hdn.keep hf; replace hv := hv.keep hf
        clear hf
        go_wp2_with fail
        refine (power_r _ m (by omega)).mono ?_
        rintro e w22 ⟨vh2, rfl, h2, hf⟩
        replace F := fr_then F hf
        replace ha := ha.keep hf; replace hup := hup.keep hf; replace hdn := hdn.keep hf; replace hv := hv.keep hf; replace h1 := h1.keep hf
        clear hf
        go_wp2_with fail
        refine (mul_r _ _ _ _ _ _ _ h1 h2 (by omega)).mono ?_
        rintro e w23 ⟨vh3, rfl, h3, hf⟩
        replace F := fr_then F hf
        replace ha := ha.keep hf; replace hup := hup.keep hf; replace hdn := hdn.keep hf; replace hv := hv.keep hf
        clear hf h1 h2
        go_wp2_with fail
        refine (is_n _ _ _ _ _ _ _ h3 hup (by omega) rfl).mono ?_
        rintro e w24 ⟨rfl, hf⟩
        replace F := fr_then F hf
        replace ha := ha.keep hf; replace hup := hup.keep hf; replace hdn := hdn.keep hf; replace hv := hv.keep hf
        clear hf h3
        go_wp2_with fail
        refine (is_n _ _ _ _ _ _ _ hv hdn (by omega) rfl).mono ?_
        rintro e w25 ⟨rfl, hf⟩
        replace F := fr_then F hf
        replace ha := ha.keep hf; replace hup := hup.keep hf
        clear hf hv hdn
        go_wp2_with fail
        refine (shr_n _ _ _ _ i hup.num (by omega) (by omega)).mono ?_
        rintro e w26 ⟨vh6, rfl, h6, hf⟩
        replace F := fr_then F hf
        replace ha := ha.keep hf
        clear hf hup
        go_wp2_with fail
        refine (trim_n _ _ _ _ ha (by omega)).mono ?_
        rintro e w27 ⟨vh7, rfl, h7, hf⟩
        replace F := fr_then F hf
        replace h6 := h6.keep hf
        clear hf ha
        go_wp2_with fail
        refine (same_n _ _ _ _ _ _ _ h6 h7 (shift_back HI.out)).mono ?_
        rintro e w' ⟨rfl, rfl⟩
        clear h6 h7
        go_wp2_with fail
        refine (known_calls _).mono ?_
        rintro e w29 ⟨rfl, hf⟩
        replace F := fr_then F hf
        clear hf
        go_wp2_with fail
        go_ret
        exact ⟨rfl, F⟩
end Go.Proofs.Ytkngjhajjimjbaa

/- NatOf. -/
import Derived.Test.YtkngjhajjimjbaaLawBits
namespace Go.Proofs.Ytkngjhajjimjbaa
open Go.RowKit

theorem of_n (w : World) (n : Nat) (hn : n < 18446744073709551616) :
    Calls Try.prog 26 #[.int .u64 n] w fun e w' => ∃ v, e = .returned v ∧ Can (fun k => w.heap.size ≤ k) w' v n 2 ∧ Fr (fun k => k < w.heap.size) w w' := by
  refine (of_calls w n hn).mono ?_
  rintro e w' ⟨v, rfl, h, hf⟩
  exact ⟨v, rfl, .of h (by unfold LB; simpa using hn), hf⟩
theorem uint_yes {S : Nat → Prop} (w : World) (va : Value) (N L : Nat) (ha : Num S w va N L) (hn : N < 18446744073709551616) :
    Calls Try.prog 27 #[va] w fun e w' => e = .returned (.tuple #[.int .u64 (N : Int), .bool true]) ∧ w' = w := by
  obtain ⟨xs, a1, rfl, a3⟩ := ha
  refine (uint_calls w va xs a1).mono ?_
  rintro e w' ⟨rfl, ⟨_, rfl⟩ | ⟨h, _⟩⟩
  · exact ⟨rfl, rfl⟩
  · exact absurd hn h
theorem uint_no {S : Nat → Prop} (w : World) (va : Value) (N L : Nat) (ha : Num S w va N L) (hn : ¬ N < 18446744073709551616) :
    Calls Try.prog 27 #[va] w fun e w' => e = .returned (.tuple #[.int .u64 0, .bool false]) ∧ w' = w := by
  obtain ⟨xs, a1, rfl, a3⟩ := ha
  refine (uint_calls w va xs a1).mono ?_
  rintro e w' ⟨rfl, ⟨h, _⟩ | ⟨_, rfl⟩⟩
  · exact absurd h hn
  · exact ⟨rfl, rfl⟩
theorem power_32 (w : World) :
    Calls Try.prog 29 #[.int .i64 32] w fun e w' => ∃ v, e = .returned v ∧ RC (fun k => w.heap.size ≤ k) w' v (2 ^ 32) 33 ∧ Fr (fun k => k < w.heap.size) w w' := power_r w 32 (by decide)
theorem blen_64 (a : Nat) : blen a ≤ 64 ↔ a < 18446744073709551616 := by
  constructor
  · intro h
    exact Nat.lt_of_lt_of_le (lt_blen a) (Nat.pow_le_pow_right (n := 2) (by decide) h)
  · intro h
    exact dg_len_le (by decide) (by simpa using h)

set_option maxHeartbeats 2000000 in
theorem of_walk {S : Nat → Prop} (w : World) (n : Int) (va : Value) (a L : Nat) (hn : (Lit.int .u64 n).wf = true) (ha : Num S w va a L) (hL : L ≤ 1048576) :
    Calls Try.prog 7 #[.int .u64 n, va] w fun e w' => e = .returned (.bool true) ∧ Fr (fun k => k < w.heap.size) w w' := by
  have hn2 : 0 ≤ n ∧ n ≤ 18446744073709551615 := by simpa [Lit.wf, IntKind.min, IntKind.max, IntKind.signed, IntKind.bits] using hn
  obtain ⟨m, rfl⟩ := Int.eq_ofNat_of_zero_le hn2.1
  have hm : m < 18446744073709551616 := by omega
  clear hn hn2
  go_enter Try.func7, Try.ntmps7
  go_wp2_with fail
  refine (of_n _ m hm).mono ?_
  rintro e w1 ⟨v1, rfl, h1, hf⟩
  have F := hf
  replace ha := ha.keep hf; clear hf
  go_wp2_with fail
  refine (uint_yes _ _ _ _ h1.num hm).mono ?_
  rintro e w' ⟨rfl, rfl⟩
  go_wp2_with fail
  have p1 := small_r w' (m / 4294967296) 3 (by omega) (Nat.lt_of_lt_of_le (show m / 4294967296 < 4294967296 by omega) (by decide))
  rw [Int.natCast_ediv] at p1
  refine p1.mono ?_
  rintro e w2 ⟨v2, rfl, h2, hf⟩
  replace F := fr_then F hf
  replace ha := ha.keep hf; replace h1 := h1.keep hf; clear hf p1
  go_wp2_with fail
  refine (power_32 _).mono ?_
  rintro e w3 ⟨v3, rfl, h3, hf⟩
  replace F := fr_then F hf
  replace ha := ha.keep hf; replace h1 := h1.keep hf; replace h2 := h2.keep hf; clear hf
  go_wp2_with fail
  refine (mul_r _ _ _ _ _ _ _ h2 h3 (by omega)).mono ?_
  rintro e w4 ⟨v4, rfl, h4, hf⟩
  replace F := fr_then F hf
  replace ha := ha.keep hf; replace h1 := h1.keep hf; clear hf h2 h3
  go_wp2_with fail
  have hand : wrap64 (bits .and .u64 (m : Int) 4294967295) = ((m % 4294967296 : Nat) : Int) := by
    rw [mask32 (by omega) (by omega)]
    unfold wrap64; omega
  rw [hand]
  have p2 := small_r w4 (m % 4294967296) 3 (by omega) (Nat.lt_of_lt_of_le (show m % 4294967296 < 4294967296 by omega) (by decide))
  clear hand
  refine p2.mono ?_
  rintro e w5 ⟨v5, rfl, h5, hf⟩
  replace F := fr_then F hf
  replace ha := ha.keep hf; replace h1 := h1.keep hf; replace h4 := h4.keep hf; clear hf p2
  go_wp2_with fail
  refine (add_r _ _ _ _ _ _ _ h4 h5 (by omega) (by omega)).mono ?_
  rintro e w6 ⟨v6, rfl, h6, hf⟩
  replace F := fr_then F hf
  replace ha := ha.keep hf; replace h1 := h1.keep hf; clear hf h4 h5
  go_wp2_with fail
  refine (is_n _ _ _ _ _ _ _ h6 h1 (by omega) (by omega)).mono ?_
  rintro e w7 ⟨rfl, hf⟩
  replace F := fr_then F hf
  replace ha := ha.keep hf; clear hf h6 h1
  go_wp2_with fail
  refine (own_n _ _ _ _ ha (by omega)).mono ?_
  rintro e w8 ⟨v8, rfl, h8, hf⟩
  replace F := fr_then F hf
  replace ha := ha.keep hf; clear hf
  go_wp2_with fail
  by_cases hfit : a < 18446744073709551616
  · have hb : blen a ≤ 64 := (blen_64 a).2 hfit
    refine (uint_yes _ _ _ _ h8 hfit).mono ?_
    rintro e w' ⟨rfl, rfl⟩
    clear h8
    go_wp2_with fail
    refine (of_r _ _ _ _ ha (by omega)).mono ?_
    rintro e w9 ⟨v9, rfl, h9, hf⟩
    replace F := fr_then F hf
    replace ha := ha.keep hf; clear hf
    go_wp2_with fail
    refine (bits_r _ _ _ _ h9 (by omega)).mono ?_
    rintro e w10 ⟨rfl, hf⟩
    replace F := fr_then F hf
    replace ha := ha.keep hf; clear hf h9
    go_wp2_with fail
    refine (of_n _ a hfit).mono ?_
    rintro e w11 ⟨v11, rfl, h11, hf⟩
    replace F := fr_then F hf
    replace ha := ha.keep hf; clear hf
    go_wp2_with fail
    refine (equal_n _ _ _ _ _ _ _ h11.num ha rfl).mono ?_
    rintro e w' ⟨rfl, rfl⟩
    go_wp2_with fail
    refine (known_calls _).mono ?_
    rintro e w12 ⟨rfl, hf⟩
    go_wp2_with fail
    go_ret
    exact ⟨rfl, fr_then F hf⟩
  · have hb : ¬ blen a ≤ 64 := fun h => hfit ((blen_64 a).1 h)
    have hb2 : 64 < blen a := by omega
    clear hb
    refine (uint_no _ _ _ _ h8 hfit).mono ?_
    rintro e w' ⟨rfl, rfl⟩
    clear h8
    go_wp2_with fail
    refine (of_r _ _ _ _ ha (by omega)).mono ?_
    rintro e w9 ⟨v9, rfl, h9, hf⟩
    replace F := fr_then F hf
    clear hf ha
    go_wp2_with fail
    refine (bits_r _ _ _ _ h9 (by omega)).mono ?_
    rintro e w10 ⟨rfl, hf⟩
    replace F := fr_then F hf
    clear hf h9
    go_wp2_with fail
    refine (known_calls _).mono ?_
    rintro e w12 ⟨rfl, hf⟩
    go_wp2_with fail
    go_ret
    exact ⟨rfl, fr_then F hf⟩
end Go.Proofs.Ytkngjhajjimjbaa

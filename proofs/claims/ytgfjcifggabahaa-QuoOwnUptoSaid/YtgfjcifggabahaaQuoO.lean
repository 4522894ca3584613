
/- QuoPowers. -/
import Derived.Test.YtgfjcifggabahaaQuoM
import Derived.Test.YtgfjcifggabahaaQuoN
namespace Go.Proofs.Ytgfjcifggabahaa
open Go.RowKit

set_option maxHeartbeats 1000000 in
theorem pow_neg {S : Nat → Prop} (w : World) (va : Value) (A L : Nat) (i : Int) (ha : Num S w va A L) (hl : L ≤ 104857600) (hi : i ≤ 0) :
    Calls Try.prog 27 #[va, .int .i64 i] w fun e w' => ∃ v, e = .returned v ∧ Can (fun k => w.heap.size ≤ k) w' v 1 2 ∧ Fr (fun k => k < w.heap.size) w w' := by
  go_enter Try.func27, Try.ntmps27
  go_wp2_with fail
  refine (of_lit w 1 1 rfl (by decide)).mono ?_
  rintro e w1 ⟨v1, rfl, h1, hf⟩
  have F := hf
  replace ha := ha.keep hf
  clear hf
  go_wp2_with fail
  refine (trim_n _ _ _ _ ha (by omega)).mono ?_
  rintro e w2 ⟨v2, rfl, h2, hf⟩
  replace F := fr_then F hf
  replace h1 := h1.keep hf
  clear hf ha h2
  go_wp2_with fail
  go_loopw [0, 1, 5] (fun _ j o wr => j = .int .i64 i ∧ Can (fun k => w.heap.size ≤ k) wr o 1 2 ∧ Fr (fun k => k < w.heap.size) w wr) (fun _ _ _ _ => 0)
  case atStart => exact ⟨rfl, h1, F⟩
  case round =>
    clear h1 F
    obtain ⟨rfl, h1, F⟩ := hrel
    go_wp2_with fail
    go_ret
    exact ⟨_, rfl, h1, F⟩
set_option maxHeartbeats 1000000 in
theorem pow_r_neg {S : Nat → Prop} (w : World) (va : Value) (A L : Nat) (i : Int) (_ : RC S w va A L) (hi : i ≤ 0) :
    Calls Try.prog 28 #[va, .int .i64 i] w fun e w' => ∃ v, e = .returned v ∧ RC (fun k => w.heap.size ≤ k) w' v 1 1 ∧ Fr (fun k => k < w.heap.size) w w' := by
  go_enter Try.func28, Try.ntmps28
  go_wp2_with fail
  refine (small_1 _).mono ?_
  rintro e w1 ⟨v1, rfl, h1, hf⟩
  go_wp2_with fail
  go_loopw [5, 6] (fun o j wr => j = .int .i64 0 ∧ RC (fun k => w.heap.size ≤ k) wr o 1 1 ∧ Fr (fun k => k < w.heap.size) w wr) (fun _ _ _ => 0)
  case atStart => exact ⟨rfl, h1, hf⟩
  case round =>
    clear h1 hf
    obtain ⟨rfl, h1, F⟩ := hrel
    go_wp2_with fail
    go_ret
    exact ⟨_, rfl, h1, F⟩

theorem pow_room6 {a k X : Nat} (ha : a < LB ^ 6) (hk : 6 * k < X) : a ^ k < LB ^ X := by
  have h1 : a ^ k ≤ LB ^ (6 * k) := by rw [Nat.pow_mul]; exact Nat.pow_le_pow_left (Nat.le_of_lt ha) k
  exact Nat.lt_of_le_of_lt h1 (Nat.pow_lt_pow_right LB2 hk)
theorem pow_roomD {a k L X : Nat} (ha : a < DB ^ L) (hk : L * k < X) : a ^ k < DB ^ X := by
  have h1 : a ^ k ≤ DB ^ (L * k) := by rw [Nat.pow_mul]; exact Nat.pow_le_pow_left (Nat.le_of_lt ha) k
  exact Nat.lt_of_le_of_lt h1 (Nat.pow_lt_pow_right DB2 hk)

set_option maxHeartbeats 2000000 in
theorem powers_walk {S : Nat → Prop} (w : World) (va : Value) (i : Int) (a L : Nat) (ha : Num S w va a L) (hi : (Lit.int .i64 i).wf = true) (_ : L ≤ 1048576) :
    Calls Try.prog 9 #[va, .int .i64 i] w fun e w' => e = .returned (.bool true) ∧ Fr (fun k => k < w.heap.size) w w' := by
  have hi2 : -9223372036854775808 ≤ i ∧ i ≤ 9223372036854775807 := by simpa [Lit.wf, IntKind.min, IntKind.max, IntKind.signed, IntKind.bits] using hi
  obtain ⟨A1, n1, c1, rfl⟩ := ha.form
  replace ha := ha.tight
  clear hi
  go_enter Try.func9, Try.ntmps9
  by_cases hg : 6 < n1 ∨ 40 < i
  · go_wp2_with fail
    all_goals
      refine (qknown_calls _).mono ?_
      rintro e w1 ⟨rfl, hf⟩
      go_wp2_with fail
      go_ret
      exact ⟨rfl, hf⟩
  · have g1 : n1 ≤ 6 := by omega
    have g2 : i ≤ 40 := by omega
    replace ha := ha.wide g1
    clear hg
    by_cases hneg : i ≤ 0
    · go_wp2_with fail
      refine (pow_neg _ _ _ _ i ha (by omega) hneg).mono ?_
      rintro e w1 ⟨v1, rfl, h1, hf⟩
      have F := hf
      replace ha := ha.keep hf
      clear hf
      go_wp2_with fail
      refine (of_r _ _ _ _ ha (by omega)).mono ?_
      rintro e w2 ⟨v2, rfl, h2, hf⟩
      replace F := fr_then F hf
      replace h1 := h1.keep hf
      clear hf
      go_wp2_with fail
      refine (pow_r_neg _ _ _ _ i h2 hneg).mono ?_
      rintro e w3 ⟨v3, rfl, h3, hf⟩
      replace F := fr_then F hf
      replace h1 := h1.keep hf
      clear hf
      go_wp2_with fail
      refine (qis_n _ _ _ _ _ _ _ h3 h1 (by decide) rfl).mono ?_
      rintro e w4 ⟨rfl, hf⟩
      replace F := fr_then F hf
      go_wp2_with fail
      refine (qknown_calls _).mono ?_
      rintro e w5 ⟨rfl, hf⟩
      go_wp2_with fail
      go_ret
      exact ⟨rfl, fr_then F hf⟩
    · obtain ⟨n, rfl⟩ := Int.eq_ofNat_of_zero_le (show 0 ≤ i by omega)
      have g3 : n ≤ 40 := by omega
      obtain ⟨X, hX, hX1⟩ : ∃ X, 6 * n < X ∧ X ≤ 1000 ∧ 6 ≤ X := ⟨242, by omega, by omega, by omega⟩
      obtain ⟨Y, hY, hY1⟩ : ∃ Y, 18 * n < Y ∧ Y ≤ 1000 ∧ 1 ≤ Y := ⟨722, by omega, by omega, by omega⟩
      have HX := Lib.hid (pow_room6 (k := n) ha.lt hX)
      go_wp2_with fail
      refine (pow_n _ _ _ _ n X ha hX1.2 (by omega) (by omega) HX.out (by omega)).mono ?_
      rintro e w1 ⟨v1, rfl, h1, hf⟩
      have F := hf
      replace ha := ha.keep hf
      clear hf
      go_wp2_with fail
      refine (of_r _ _ _ _ ha (by omega)).mono ?_
      rintro e w2 ⟨v2, rfl, h2, hf⟩
      replace F := fr_then F hf
      replace h1 := h1.keep hf
      have hlt2 := h2.lt
      clear hf
      go_wp2_with fail
      refine (pow_r _ _ _ _ n Y h2 (by omega) hY1.2 (by omega) (fun k hk => pow_roomD hlt2 (by omega))).mono ?_
      rintro e w3 ⟨v3, rfl, h3, hf⟩
      replace F := fr_then F hf
      replace h1 := h1.keep hf
      clear hf
      go_wp2_with fail
      refine (qis_n _ _ _ _ _ _ _ h3 h1 (by omega) rfl).mono ?_
      rintro e w4 ⟨rfl, hf⟩
      replace F := fr_then F hf
      go_wp2_with fail
      refine (qknown_calls _).mono ?_
      rintro e w5 ⟨rfl, hf⟩
      go_wp2_with fail
      go_ret
      exact ⟨rfl, fr_then F hf⟩
end Go.Proofs.Ytgfjcifggabahaa

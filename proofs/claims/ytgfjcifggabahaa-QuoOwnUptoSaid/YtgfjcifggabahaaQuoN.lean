
/- The reference of the second chapter: digit, Gcd, Pow (DivMod is not there yet). -/
import Derived.Test.YtgfjcifggabahaaQuoH
namespace Go.Proofs.Ytgfjcifggabahaa
open Go.RowKit

theorem cmp_r_le {S T : Nat → Prop} (w : World) (va vb : Value) (M N L K : Nat) (ha : RC S w va M L) (hb : RC T w vb N K) (h : M ≤ N) :
    Calls Try.prog 24 #[va, vb] w fun e w' => (∃ r : Int, r ≤ 0 ∧ e = .returned (.int .i64 r)) ∧ Fr (fun k => k < w.heap.size) w w' := by
  refine (cmp_r' w va vb M N L K ha hb).mono ?_
  rintro e w' ⟨rfl, hf⟩
  exact ⟨⟨_, by unfold cmpN; split <;> (try split) <;> omega, rfl⟩, hf⟩
theorem cmp_r_gt {S T : Nat → Prop} (w : World) (va vb : Value) (M N L K : Nat) (ha : RC S w va M L) (hb : RC T w vb N K) (h : N < M) :
    Calls Try.prog 24 #[va, vb] w fun e w' => e = .returned (.int .i64 1) ∧ Fr (fun k => k < w.heap.size) w w' := by
  have := cmp_r' w va vb M N L K ha hb
  rwa [show cmpN M N = 1 from by unfold cmpN; rw [if_neg (by omega), if_pos h]] at this

set_option maxHeartbeats 2000000 in
theorem digit_r {S T : Nat → Prop} (w : World) (va vb : Value) (N B L : Nat) (ha : RC S w va N L) (hb : RC T w vb B L) (hl : L ≤ 1099511620) (hlt : N < B * 10000) :
    Calls Try.prog 41 #[va, vb] w fun e w' => e = .returned (.int .i64 ((N / B : Nat) : Int)) ∧ Fr (fun k => k < w.heap.size) w w' := by
  have ha' : RC (fun _ => True) w va N L := ha.mono fun _ _ => trivial
  have hb' : RC (fun _ => True) w vb B L := hb.mono fun _ _ => trivial
  have HA := Lib.hid (And.intro ha' hb')
  clear ha hb ha' hb'
  go_enter Try.func41, Try.ntmps41
  go_wp2_with fail
  go_loopw [5, 6, 7] (fun lo hi _ wr => ∃ (l h : Nat), lo = .int .i64 l ∧ hi = .int .i64 h ∧ l < h ∧ h ≤ 10000 ∧ Hid (B * l ≤ N ∧ N < B * h) ∧ RC (fun _ => True) wr va N L ∧ RC (fun _ => True) wr vb B L ∧ Fr (fun k => k < w.heap.size) w wr) (fun lo hi _ _ => (intOf hi - intOf lo).toNat)
  case atStart => exact ⟨0, 10000, rfl, rfl, by omega, by omega, ⟨by simp, hlt⟩, HA.out.1, HA.out.2, Fr.refl _ _⟩
  case round =>
    obtain ⟨l, h, rfl, rfl, hlh, hh, hb, ha, hv, F⟩ := hrel
    by_cases h1 : l + 1 < h
    · obtain ⟨m, hm⟩ : ∃ m, m = (l + h) / 2 := ⟨_, rfl⟩
      have hmi : ((l : Int) + (h : Int)) / 2 = (m : Int) := by omega
      have hml : l < m ∧ m < h := by omega
      have HM := Lib.hid hmi
      clear hm hmi
      go_wp2_with fail
      rw [HM.out]
      refine (times_r _ _ _ _ m hv (by omega) (by omega)).mono ?_
      rintro e w1 ⟨v1, rfl, hp, hf⟩
      replace F := fr_then F hf
      replace ha := ha.keep hf; replace hv := hv.keep hf
      clear hf
      go_wp2_with fail
      by_cases hle : B * m ≤ N
      · refine (cmp_r_le _ _ _ _ _ _ _ hp ha hle).mono ?_
        rintro e w2 ⟨⟨r, hr, rfl⟩, hf⟩
        go_wp2_with fail
        go_roundw
        case rel => exact ⟨m, h, by go_num, rfl, hml.2, hh, ⟨hle, hb.out.2⟩, ha.keep hf, hv.keep hf, fr_then F hf⟩
        case measure => first | (simp [intOf]; done) | (simp [intOf]; omega)
      · refine (cmp_r_gt _ _ _ _ _ _ _ hp ha (by omega)).mono ?_
        rintro e w2 ⟨rfl, hf⟩
        go_wp2_with fail
        go_roundw
        case rel => exact ⟨l, m, rfl, by go_num, hml.1, by omega, ⟨hb.out.1, by omega⟩, ha.keep hf, hv.keep hf, fr_then F hf⟩
        case measure => first | (simp [intOf]; done) | (simp [intOf]; omega)
    · have hq : N / B = l := by
        have h2 := hb.out
        rw [show h = l + 1 by omega] at h2
        exact Nat.div_eq_of_lt_le (by rw [Nat.mul_comm]; exact h2.1) (by rw [Nat.mul_comm]; exact h2.2)
      have HQ := Lib.hid hq
      clear hq
      go_wp2_with fail
      go_ret
      exact ⟨congrArg (fun n : Nat => Ending.returned (.int .i64 (n : Int))) HQ.out.symm, F⟩

set_option maxHeartbeats 2000000 in
theorem pow_r {S : Nat → Prop} (w : World) (va : Value) (A L n X : Nat) (ha : RC S w va A L) (hX : X + L ≤ 1099511620) (hX1 : 1 ≤ X) (hn : n < 9223372036854775808) (hp : ∀ k, k ≤ n → A ^ k < DB ^ X) :
    Calls Try.prog 28 #[va, .int .i64 n] w fun e w' => ∃ v, e = .returned v ∧ RC (fun k => w.heap.size ≤ k) w' v (A ^ n) X ∧ Fr (fun k => k < w.heap.size) w w' := by
  have HA := Lib.hid (show RC (fun _ => True) w va A L from ha.mono fun _ _ => trivial)
  have HP := Lib.hid hp
  clear ha hp
  go_enter Try.func28, Try.ntmps28
  go_wp2_with fail
  refine (small_1 _).mono ?_
  rintro e w1 ⟨v1, rfl, h1, hf⟩
  go_wp2_with fail
  go_loopw [5, 6] (fun o i wr => ∃ k : Nat, k ≤ n ∧ i = .int .i64 k ∧ RC (fun k => w.heap.size ≤ k) wr o (A ^ k) X ∧ RC (fun _ => True) wr va A L ∧ Fr (fun k => k < w.heap.size) w wr) (fun _ i _ => n - (intOf i).toNat)
  case atStart => exact ⟨0, Nat.zero_le _, rfl, ⟨h1.sl, Nat.le_trans h1.len hX1⟩, HA.out.keep hf, hf⟩
  case round =>
    clear h1 hf
    obtain ⟨k, hk, rfl, ho, ha, F⟩ := hrel
    by_cases h0 : k < n
    · go_wp2_with fail
      refine (mul_r _ _ _ _ _ _ _ ho ha (by omega)).mono ?_
      rintro e w2 ⟨v2, rfl, h2, hf⟩
      rw [← Nat.pow_succ] at h2
      have s2 := F.size
      go_wp2_with fail
      go_roundw
      case rel => exact ⟨k + 1, h0, by go_num, (h2.len' (HP.out (k + 1) h0)).mono fun k hk => by omega, ha.keep hf, fr_then F hf⟩
      case measure => first | (simp [intOf]; done) | (simp [intOf]; omega)
    · obtain rfl : k = n := by omega
      go_wp2_with fail
      go_ret
      exact ⟨_, rfl, ho, F⟩
end Go.Proofs.Ytgfjcifggabahaa

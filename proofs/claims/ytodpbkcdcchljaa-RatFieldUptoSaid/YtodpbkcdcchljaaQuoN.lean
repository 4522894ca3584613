
/- The reference of the second chapter: digit, Gcd, Pow (DivMod is not there yet). -/
import Derived.Test.YtodpbkcdcchljaaQuoH
namespace Go.Proofs.Ytodpbkcdcchljaa
open Go.RowKit

theorem cmp_r_le {S T : Nat → Prop} (w : World) (va vb : Value) (M N L K : Nat) (ha : RC S w va M L) (hb : RC T w vb N K) (h : M ≤ N) :
    Calls Try.prog 63 #[va, vb] w fun e w' => (∃ r : Int, r ≤ 0 ∧ e = .returned (.int .i64 r)) ∧ Fr (fun k => k < w.heap.size) w w' := by
  refine (cmp_r' w va vb M N L K ha hb).mono ?_
  rintro e w' ⟨rfl, hf⟩
  exact ⟨⟨_, by unfold cmpN; split <;> (try split) <;> omega, rfl⟩, hf⟩
theorem cmp_r_gt {S T : Nat → Prop} (w : World) (va vb : Value) (M N L K : Nat) (ha : RC S w va M L) (hb : RC T w vb N K) (h : N < M) :
    Calls Try.prog 63 #[va, vb] w fun e w' => e = .returned (.int .i64 1) ∧ Fr (fun k => k < w.heap.size) w w' := by
  have := cmp_r' w va vb M N L K ha hb
  rwa [show cmpN M N = 1 from by unfold cmpN; rw [if_neg (by omega), if_pos h]] at this

set_option maxHeartbeats 2000000 in
theorem digit_r {S T : Nat → Prop} (w : World) (va vb : Value) (N B L : Nat) (ha : RC S w va N L) (hb : RC T w vb B L) (hl : L ≤ 1099511620) (hlt : N < B * 10000) :
    Calls Try.prog 81 #[va, vb] w fun e w' => e = .returned (.int .i64 ((N / B : Nat) : Int)) ∧ Fr (fun k => k < w.heap.size) w w' := by
  have ha' : RC (fun _ => True) w va N L := ha.mono fun _ _ => trivial
  have hb' : RC (fun _ => True) w vb B L := hb.mono fun _ _ => trivial
  have HA := Lib.hid (And.intro ha' hb')
  clear ha hb ha' hb'
  go_enter Try.func81, Try.ntmps81
  go_wp2_with fail
  go_loopw [5, 6, 7] (fun lo hi _ wr => ∃ (l h : Nat), lo = .int .i64 l ∧ hi = .int .i64 h ∧ l < h ∧ h ≤ 10000 ∧ Hid (B * l ≤ N ∧ N < B * h) ∧ RC (fun _ => True) wr va N L ∧ RC (fun _ => True) wr vb B L ∧ Fr (fun k => k < w.heap.size) w wr) (fun lo hi _ _ => (intOf hi - intOf lo).toNat)
  case atStart => exact ⟨0, 10000, rfl, rfl, by omega, by omega, ⟨by simp, hlt⟩, HA.out.1, HA.out.2, Fr.refl _ _⟩
  case round =>
    obtain ⟨l, h, rfl, rfl, hlh, hh, hb, ha, hv, F⟩ := hrel
    by_cases h1 : l + 1 < h
    · obtain ⟨m, hm⟩ : ∃ m, m = (l + h) / 2 := ⟨_, rfl⟩
      have hmi : ((l : Int) + (h : Int)) / 2 = (m : Int) := by omega
      have hml : l < m ∧ m < h := by omega
      have HM := Lib.hid hmi
      clear hm hmi
      go_wp2_with fail
      rw [HM.out]
      refine (times_r _ _ _ _ m hv (by omega) (by omega)).mono ?_
      rintro e w1 ⟨v1, rfl, hp, hf⟩
      replace F := fr_then F hf
      replace ha := ha.keep hf; replace hv := hv.keep hf
      clear hf
      go_wp2_with fail
      by_cases hle : B * m ≤ N
      · refine (cmp_r_le _ _ _ _ _ _ _ hp ha hle).mono ?_
        rintro e w2 ⟨⟨r, hr, rfl⟩, hf⟩
        go_wp2_with fail
        go_roundw
        case rel => exact ⟨m, h, by go_num, rfl, hml.2, hh, ⟨hle, hb.out.2⟩, ha.keep hf, hv.keep hf, fr_then F hf⟩
        case measure => first | (simp [intOf]; done) | (simp [intOf]; omega)
      · refine (cmp_r_gt _ _ _ _ _ _ _ hp ha (by omega)).mono ?_
        rintro e w2 ⟨rfl, hf⟩
        go_wp2_with fail
        go_roundw
        case rel => exact ⟨l, m, rfl, by go_num, hml.1, by omega, ⟨hb.out.1, by omega⟩, ha.keep hf, hv.keep hf, fr_then F hf⟩
        case measure => first | (simp [intOf]; done) | (simp [intOf]; omega)
    · have hq : N / B = l := by
        have h2 := hb.out
        rw [show h = l + 1 by omega] at h2
        exact Nat.div_eq_of_lt_le (by rw [Nat.mul_comm]; exact h2.1) (by rw [Nat.mul_comm]; exact h2.2)
      have HQ := Lib.hid hq
      clear hq
      go_wp2_with fail
      go_ret
      exact ⟨congrArg (fun n : Nat => Ending.returned (.int .i64 (n : Int))) HQ.out.symm, F⟩

end Go.Proofs.Ytodpbkcdcchljaa


/- The reference's Gcd; QuoDivides. -/
import Derived.Test.YtgfjcifggabahaaQuoP
namespace Go.Proofs.Ytgfjcifggabahaa
open Go.RowKit

set_option maxHeartbeats 2000000 in
theorem gcd_r {S T : Nat → Prop} (w : World) (va vb : Value) (A B L : Nat) (ha : RC S w va A L) (hb : RC T w vb B L) (hl : L ≤ 1048576000) :
    Calls Try.prog 26 #[va, vb] w fun e w' => ∃ v, e = .returned v ∧ RC (fun _ => True) w' v (Nat.gcd A B) L ∧ Fr (fun k => k < w.heap.size) w w' := by
  have HA := Lib.hid (And.intro (show RC (fun _ => True) w va A L from ha.mono fun _ _ => trivial) (show RC (fun _ => True) w vb B L from hb.mono fun _ _ => trivial))
  clear ha hb
  go_enter Try.func26, Try.ntmps26
  go_wp2_with fail
  go_loopg [0, 1, 5, 6] B (fun N a b _ _ wr => ∃ M, RC (fun _ => True) wr a M L ∧ RC (fun _ => True) wr b N L ∧ Nat.gcd M N = Nat.gcd A B ∧ Fr (fun k => k < w.heap.size) w wr)
  case atStart => exact ⟨A, HA.out.1, HA.out.2, rfl, Fr.refl _ _⟩
  case round =>
    obtain ⟨M, h1, h2, hg, F⟩ := hrel
    obtain ⟨A2, c2, hv2, _, _, _⟩ := h2.sl.slice
    subst hv2
    have HG := Lib.hid hg
    clear hg
    by_cases h0 : 0 < gk
    · have hpos := (dg_len_pos DB2).2 h0
      go_wp2_with fail
      refine (dm_r _ _ _ _ _ _ _ h1 h2 hl hl h0).mono ?_
      rintro e w3 ⟨q, r, rfl, hq, hr, hf⟩
      go_wp2_with fail
      go_roundg (M % gk)
      case rel => exact ⟨gk, h2.keep hf, hr.mono fun k hk => trivial, by rw [← HG.out, Nat.gcd_comm gk, ← Nat.gcd_rec, Nat.gcd_comm], fr_then F hf⟩
      case measure => exact Nat.mod_lt _ h0
    · obtain rfl : gk = 0 := by omega
      rw [dg_zero]
      have hg0 := HG.out
      rw [Nat.gcd_zero_right] at hg0
      have HG0 := Lib.hid hg0
      clear hg0 h2
      go_wp2_with fail
      go_ret
      exact ⟨_, rfl, by rw [← HG0.out]; exact h1, F⟩

set_option maxHeartbeats 2000000 in
theorem gcds_walk {S : Nat → Prop} (w : World) (va vb : Value) (a b L : Nat) (ha : Num S w va a L) (hb : Num S w vb b L) (hL : L ≤ 1048576) :
    Calls Try.prog 7 #[va, vb] w fun e w' => e = .returned (.bool true) ∧ Fr (fun k => k < w.heap.size) w w' := by
  obtain ⟨A1, n1, c1, rfl⟩ := ha.form
  obtain ⟨A2, n2, c2, rfl⟩ := hb.form
  go_enter Try.func7, Try.ntmps7
  by_cases hg : 12 < n1 ∨ 12 < n2
  · go_wp2_with fail
    all_goals
      refine (qknown_calls _).mono ?_
      rintro e w1 ⟨rfl, hf⟩
      go_wp2_with fail
      go_ret
      exact ⟨rfl, hf⟩
  · have g1 : n1 ≤ 12 := by omega
    have g2 : n2 ≤ 12 := by omega
    clear hg
    go_wp2_with fail
    refine (gcd_n _ _ _ _ _ _ ha hb (by omega)).mono ?_
    rintro e w1 ⟨vh1, rfl, h1, hf⟩
    have F := hf
    replace ha := ha.keep hf; replace hb := hb.keep hf
    clear hf
    go_wp2_with fail
    refine (of_r _ _ _ _ ha (by omega)).mono ?_
    rintro e w2 ⟨vh2, rfl, h2, hf⟩
    replace F := fr_then F hf
    replace hb := hb.keep hf; replace h1 := h1.keep hf
    clear hf ha
    go_wp2_with fail
    refine (of_r _ _ _ _ hb (by omega)).mono ?_
    rintro e w3 ⟨vh3, rfl, h3, hf⟩
    replace F := fr_then F hf
    replace h1 := h1.keep hf; replace h2 := h2.keep hf
    clear hf hb
    go_wp2_with fail
    refine (gcd_r _ _ _ _ _ _ h2 h3 (by omega)).mono ?_
    rintro e w4 ⟨vh4, rfl, h4, hf⟩
    replace F := fr_then F hf
    replace h1 := h1.keep hf
    clear hf h2 h3
    go_wp2_with fail
    refine (qis_n _ _ _ _ _ _ _ h4 h1 (by omega) rfl).mono ?_
    rintro e w5 ⟨rfl, hf⟩
    replace F := fr_then F hf
    clear hf h4 h1
    go_wp2_with fail
    refine (qknown_calls _).mono ?_
    rintro e w6 ⟨rfl, hf⟩
    replace F := fr_then F hf
    clear hf
    go_wp2_with fail
    go_ret
    exact ⟨rfl, F⟩
end Go.Proofs.Ytgfjcifggabahaa


/- The reference's Gcd; QuoDivides. -/
import Derived.Test.YtodpbkcdcchljaaQuoP
namespace Go.Proofs.Ytodpbkcdcchljaa
open Go.RowKit

set_option maxHeartbeats 2000000 in
theorem gcd_r {S T : Nat → Prop} (w : World) (va vb : Value) (A B L : Nat) (ha : RC S w va A L) (hb : RC T w vb B L) (hl : L ≤ 1048576000) :
    Calls Try.prog 58 #[va, vb] w fun e w' => ∃ v, e = .returned v ∧ RC (fun _ => True) w' v (Nat.gcd A B) L ∧ Fr (fun k => k < w.heap.size) w w' := by
  have HA := Lib.hid (And.intro (show RC (fun _ => True) w va A L from ha.mono fun _ _ => trivial) (show RC (fun _ => True) w vb B L from hb.mono fun _ _ => trivial))
  clear ha hb
  go_enter Try.func58, Try.ntmps58
  go_wp2_with fail
  go_loopg [0, 1, 5, 6] B (fun N a b _ _ wr => ∃ M, RC (fun _ => True) wr a M L ∧ RC (fun _ => True) wr b N L ∧ Nat.gcd M N = Nat.gcd A B ∧ Fr (fun k => k < w.heap.size) w wr)
  case atStart => exact ⟨A, HA.out.1, HA.out.2, rfl, Fr.refl _ _⟩
  case round =>
    obtain ⟨M, h1, h2, hg, F⟩ := hrel
    obtain ⟨A2, c2, hv2, _, _, _⟩ := h2.sl.slice
    subst hv2
    have HG := Lib.hid hg
    clear hg
    by_cases h0 : 0 < gk
    · have hpos := (dg_len_pos DB2).2 h0
      go_wp2_with fail
      refine (dm_r _ _ _ _ _ _ _ h1 h2 hl hl h0).mono ?_
      rintro e w3 ⟨q, r, rfl, hq, hr, hf⟩
      go_wp2_with fail
      go_roundg (M % gk)
      case rel => exact ⟨gk, h2.keep hf, hr.mono fun k hk => trivial, by rw [← HG.out, Nat.gcd_comm gk, ← Nat.gcd_rec, Nat.gcd_comm], fr_then F hf⟩
      case measure => exact Nat.mod_lt _ h0
    · obtain rfl : gk = 0 := by omega
      rw [dg_zero]
      have hg0 := HG.out
      rw [Nat.gcd_zero_right] at hg0
      have HG0 := Lib.hid hg0
      clear hg0 h2
      go_wp2_with fail
      go_ret
      exact ⟨_, rfl, by rw [← HG0.out]; exact h1, F⟩

end Go.Proofs.Ytodpbkcdcchljaa

/- NatAdds, NatOrders. -/
import Derived.Test.YtkngjhajjimjbaaRefC
namespace Go.Proofs.Ytkngjhajjimjbaa
open Go.RowKit

set_option maxHeartbeats 1000000 in
theorem adds_walk {S : Nat → Prop} (w : World) (va vb : Value) (a b L : Nat) (ha : Num S w va a L) (hb : Num S w vb b L) (hL : L ≤ 1048576) :
    Calls Try.prog 3 #[va, vb] w fun e w' => e = .returned (.bool true) ∧ Fr (fun k => k < w.heap.size) w w' := by
  go_enter Try.func3, Try.ntmps3
  go_wp2_with fail
  refine (of_r _ _ _ _ ha (by omega)).mono ?_
  rintro e w1 ⟨v1, rfl, h1, hf⟩
  have F := hf
  replace ha := ha.keep hf; replace hb := hb.keep hf; clear hf
  go_wp2_with fail
  refine (of_r _ _ _ _ hb (by omega)).mono ?_
  rintro e w2 ⟨v2, rfl, h2, hf⟩
  replace F := fr_then F hf
  replace ha := ha.keep hf; replace hb := hb.keep hf; replace h1 := h1.keep hf; clear hf
  go_wp2_with fail
  refine (add_r _ _ _ _ _ _ _ h1 h2 (by omega) (by omega)).mono ?_
  rintro e w3 ⟨v3, rfl, h3, hf⟩
  replace F := fr_then F hf
  replace ha := ha.keep hf; replace hb := hb.keep hf; clear hf h1 h2
  go_wp2_with fail
  refine (own_n _ _ _ _ ha (by omega)).mono ?_
  rintro e w4 ⟨v4, rfl, h4, hf⟩
  replace F := fr_then F hf
  replace hb := hb.keep hf; replace h3 := h3.keep hf; clear hf ha
  go_wp2_with fail
  refine (own_n _ _ _ _ hb (by omega)).mono ?_
  rintro e w5 ⟨v5, rfl, h5, hf⟩
  replace F := fr_then F hf
  replace h4 := h4.keep hf; replace h3 := h3.keep hf; clear hf hb
  go_wp2_with fail
  refine (add_n _ _ _ _ _ _ _ h4 h5 (by omega) (by omega)).mono ?_
  rintro e w6 ⟨v6, rfl, h6, hf⟩
  replace F := fr_then F hf
  replace h3 := h3.keep hf; clear hf h4 h5
  go_wp2_with fail
  refine (is_n _ _ _ _ _ _ _ h3 h6 (by omega) rfl).mono ?_
  rintro e w7 ⟨rfl, hf⟩
  replace F := fr_then F hf
  clear h3 h6 hf
  go_wp2_with fail
  refine (known_calls _).mono ?_
  rintro e w8 ⟨rfl, hf⟩
  go_wp2_with fail
  go_ret
  exact ⟨rfl, fr_then F hf⟩
end Go.Proofs.Ytkngjhajjimjbaa

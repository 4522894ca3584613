/- NatRing. -/
import Derived.Test.YtkngjhajjimjbaaNum
namespace Go.Proofs.Ytkngjhajjimjbaa
open Go.RowKit

set_option maxHeartbeats 2000000 in
theorem ring_walk {S : Nat → Prop} (w : World) (va vb vc : Value) (a b c L : Nat) (ha : Num S w va a L) (hb : Num S w vb b L) (hc : Num S w vc c L) (hL : L ≤ 1048576) :
    Calls Try.prog 9 #[va, vb, vc] w fun e w' => e = .returned (.bool true) ∧ Fr (fun k => k < w.heap.size) w w' := by
  go_enter Try.func9, Try.ntmps9
  go_wp2_with fail
  refine (add_n _ _ _ _ _ _ _ ha hb (by omega) (by omega)).mono ?_
  rintro e w1 ⟨ab, rfl, hab, hf⟩
  have F := hf
  replace ha := ha.keep hf; replace hb := hb.keep hf; replace hc := hc.keep hf; clear hf
  go_wp2_with fail
  refine (add_n _ _ _ _ _ _ _ hb hc (by omega) (by omega)).mono ?_
  rintro e w2 ⟨bc, rfl, hbc, hf⟩
  replace F := fr_then F hf
  replace ha := ha.keep hf; replace hb := hb.keep hf; replace hc := hc.keep hf; replace hab := hab.keep hf; clear hf
  go_wp2_with fail
  refine (mul_n _ _ _ _ _ _ _ ha hb (by omega)).mono ?_
  rintro e w3 ⟨pq, rfl, hpq, hf⟩
  replace F := fr_then F hf
  replace ha := ha.keep hf; replace hb := hb.keep hf; replace hc := hc.keep hf; replace hab := hab.keep hf; replace hbc := hbc.keep hf; clear hf
  go_wp2_with fail
  refine (mul_n _ _ _ _ _ _ _ hb hc (by omega)).mono ?_
  rintro e w4 ⟨qr, rfl, hqr, hf⟩
  replace F := fr_then F hf
  replace ha := ha.keep hf; replace hb := hb.keep hf; replace hc := hc.keep hf; replace hab := hab.keep hf; replace hbc := hbc.keep hf; replace hpq := hpq.keep hf; clear hf
  go_wp2_with fail
  refine (sub_n _ _ _ _ _ _ _ hab.num hb (by omega) (Nat.le_add_left _ _)).mono ?_
  rintro e w5 ⟨d, rfl, hd, hf⟩
  replace F := fr_then F hf
  replace ha := ha.keep hf; replace hb := hb.keep hf; replace hc := hc.keep hf; replace hab := hab.keep hf; replace hbc := hbc.keep hf; replace hpq := hpq.keep hf; replace hqr := hqr.keep hf; clear hf
  go_wp2_with fail
  refine (add_n _ _ _ _ _ _ _ hb ha (by omega) (by omega)).mono ?_
  rintro e w6 ⟨v, rfl, hv, hf⟩
  replace F := fr_then F hf
  replace ha := ha.keep hf; replace hb := hb.keep hf; replace hc := hc.keep hf; replace hab := hab.keep hf; replace hbc := hbc.keep hf; replace hpq := hpq.keep hf; replace hqr := hqr.keep hf; replace hd := hd.keep hf; clear hf
  go_wp2_with fail
  refine (same_n _ _ _ _ _ _ _ hab hv (Nat.add_comm _ _)).mono ?_
  rintro e w' ⟨rfl, rfl⟩
  clear hv
  go_wp2_with fail
  refine (add_n _ _ _ _ _ _ _ hab.num hc (by omega) (by omega)).mono ?_
  rintro e w7 ⟨v1, rfl, hv, hf⟩
  replace F := fr_then F hf
  replace ha := ha.keep hf; replace hb := hb.keep hf; replace hc := hc.keep hf; replace hab := hab.keep hf; replace hbc := hbc.keep hf; replace hpq := hpq.keep hf; replace hqr := hqr.keep hf; replace hd := hd.keep hf; clear hf
  go_wp2_with fail
  refine (add_n _ _ _ _ _ _ _ ha hbc.num (by omega) (by omega)).mono ?_
  rintro e w8 ⟨v2, rfl, hv2, hf⟩
  replace F := fr_then F hf
  replace ha := ha.keep hf; replace hb := hb.keep hf; replace hc := hc.keep hf; replace hab := hab.keep hf; replace hpq := hpq.keep hf; replace hqr := hqr.keep hf; replace hd := hd.keep hf; replace hv := hv.keep hf; clear hf hbc
  go_wp2_with fail
  refine (same_n _ _ _ _ _ _ _ hv hv2 (Nat.add_assoc _ _ _)).mono ?_
  rintro e w' ⟨rfl, rfl⟩
  clear hv hv2
  go_wp2_with fail
  refine (mul_n _ _ _ _ _ _ _ hb ha (by omega)).mono ?_
  rintro e w9 ⟨v3, rfl, hv, hf⟩
  replace F := fr_then F hf
  replace ha := ha.keep hf; replace hb := hb.keep hf; replace hc := hc.keep hf; replace hab := hab.keep hf; replace hpq := hpq.keep hf; replace hqr := hqr.keep hf; replace hd := hd.keep hf; clear hf
  go_wp2_with fail
  refine (same_n _ _ _ _ _ _ _ hpq hv (Nat.mul_comm _ _)).mono ?_
  rintro e w' ⟨rfl, rfl⟩
  clear hv
  go_wp2_with fail
  refine (mul_n _ _ _ _ _ _ _ hpq.num hc (by omega)).mono ?_
  rintro e w10 ⟨v4, rfl, hv, hf⟩
  replace F := fr_then F hf
  replace ha := ha.keep hf; replace hb := hb.keep hf; replace hc := hc.keep hf; replace hab := hab.keep hf; replace hqr := hqr.keep hf; replace hd := hd.keep hf; clear hf hpq
  go_wp2_with fail
  refine (mul_n _ _ _ _ _ _ _ ha hqr.num (by omega)).mono ?_
  rintro e w11 ⟨v5, rfl, hv2, hf⟩
  replace F := fr_then F hf
  replace ha := ha.keep hf; replace hc := hc.keep hf; replace hab := hab.keep hf; replace hqr := hqr.keep hf; replace hd := hd.keep hf; replace hv := hv.keep hf; clear hf
  go_wp2_with fail
  refine (same_n _ _ _ _ _ _ _ hv hv2 (Nat.mul_assoc _ _ _)).mono ?_
  rintro e w' ⟨rfl, rfl⟩
  clear hv hv2
  go_wp2_with fail
  refine (mul_n _ _ _ _ _ _ _ hab.num hc (by omega)).mono ?_
  rintro e w12 ⟨v6, rfl, hv, hf⟩
  replace F := fr_then F hf
  replace ha := ha.keep hf; replace hc := hc.keep hf; replace hqr := hqr.keep hf; replace hd := hd.keep hf; clear hf hab
  go_wp2_with fail
  refine (mul_n _ _ _ _ _ _ _ ha hc (by omega)).mono ?_
  rintro e w13 ⟨v7, rfl, hv1, hf⟩
  replace F := fr_then F hf
  replace ha := ha.keep hf; replace hqr := hqr.keep hf; replace hd := hd.keep hf; replace hv := hv.keep hf; clear hf hc
  go_wp2_with fail
  refine (add_n _ _ _ _ _ _ _ hv1.num hqr.num (by omega) (by omega)).mono ?_
  rintro e w14 ⟨v8, rfl, hv2, hf⟩
  replace F := fr_then F hf
  replace ha := ha.keep hf; replace hd := hd.keep hf; replace hv := hv.keep hf; clear hf hv1 hqr
  go_wp2_with fail
  refine (same_n _ _ _ _ _ _ _ hv hv2 (Nat.add_mul _ _ _)).mono ?_
  rintro e w' ⟨rfl, rfl⟩
  clear hv hv2
  go_wp2_with fail
  refine (trim_n _ _ _ _ ha (by omega)).mono ?_
  rintro e w15 ⟨v9, rfl, hv, hf⟩
  replace F := fr_then F hf
  replace hd := hd.keep hf; clear hf
  go_wp2_with fail
  refine (same_n _ _ _ _ _ _ _ hd hv (Nat.add_sub_cancel _ _)).mono ?_
  rintro e w' ⟨rfl, rfl⟩
  clear hd hv
  go_wp2_with fail
  refine (known_calls _).mono ?_
  rintro e w16 ⟨rfl, hf⟩
  go_wp2_with fail
  go_ret
  exact ⟨rfl, fr_then F hf⟩
end Go.Proofs.Ytkngjhajjimjbaa

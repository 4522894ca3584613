/- NatSubs, NatOrders, NatMuls. -/
import Derived.Test.YtkngjhajjimjbaaRefD
namespace Go.Proofs.Ytkngjhajjimjbaa
open Go.RowKit

theorem own_sl {S : Nat → Prop} {w : World} {v : Value} {M L : Nat} (h : Num S w v M L) : ∃ A n c, v = .slice A n c := h.form

theorem cmp_n {S T : Nat → Prop} (w : World) (va vb : Value) (M N L K : Nat) (ha : Num S w va M L) (hb : Num T w vb N K) :
    Calls Try.prog 32 #[va, vb] w fun e w' => e = .returned (.int .i64 (cmpN M N)) ∧ Fr (fun k => k < w.heap.size) w w' := by
  obtain ⟨xs, a1, rfl, a3⟩ := ha
  obtain ⟨ys, b1, rfl, b3⟩ := hb
  exact cmp_calls w va vb xs ys a1 b1
theorem cmp_r' {S T : Nat → Prop} (w : World) (va vb : Value) (M N L K : Nat) (ha : RC S w va M L) (hb : RC T w vb N K) :
    Calls Try.prog 33 #[va, vb] w fun e w' => e = .returned (.int .i64 (cmpN M N)) ∧ Fr (fun k => k < w.heap.size) w w' :=
  (cmp_r w va vb M N L K ha hb).mono fun _ _ ⟨h1, h2⟩ => ⟨h1, h2.mono fun _ _ _ => trivial⟩
theorem sub_r_no {S T : Nat → Prop} (w : World) (va vb : Value) (M N L K : Nat) (ha : RC S w va M L) (hb : RC T w vb N K) (hlt : M < N) :
    Calls Try.prog 19 #[va, vb] w fun e w' => e = .returned (.tuple #[.slice none 0 0, .bool false]) ∧ Fr (fun k => k < w.heap.size) w w' := by
  have hc := cmp_r' w va vb M N L K ha hb
  rw [show cmpN M N = -1 from if_pos hlt] at hc
  have HC := Lib.hid hc
  clear hc
  go_enter Try.func19, Try.ntmps19
  go_wp2_with fail
  refine HC.out.mono ?_
  rintro e w1 ⟨rfl, hf1⟩
  go_wp2_with fail
  go_ret2
  exact ⟨rfl, hf1⟩

set_option maxHeartbeats 1000000 in
theorem subs_walk {S : Nat → Prop} (w : World) (va vb : Value) (a b L : Nat) (ha : Num S w va a L) (hb : Num S w vb b L) (hL : L ≤ 1048576) :
    Calls Try.prog 4 #[va, vb] w fun e w' => e = .returned (.bool true) ∧ Fr (fun k => k < w.heap.size) w w' := by
  go_enter Try.func4, Try.ntmps4
  go_wp2_with fail
  refine (own_n _ _ _ _ ha (by omega)).mono ?_
  rintro e w1 ⟨vh1, rfl, h1, hf⟩
  have F := hf
  replace ha := ha.keep hf; replace hb := hb.keep hf
  clear hf
  go_wp2_with fail
  refine (own_n _ _ _ _ hb (by omega)).mono ?_
  rintro e w2 ⟨vh2, rfl, h2, hf⟩
  replace F := fr_then F hf
  replace ha := ha.keep hf; replace hb := hb.keep hf; replace h1 := h1.keep hf
  clear hf
  by_cases hle : b ≤ a
  · go_wp2_with fail
    refine (sub_n _ _ _ _ _ _ _ h1 h2 (by omega) hle).mono ?_
    rintro e w1 ⟨vh3, rfl, h3, hf⟩
    replace F := fr_then F hf
    replace ha := ha.keep hf; replace hb := hb.keep hf
    clear hf h1 h2
    go_wp2_with fail
    refine (of_r _ _ _ _ ha (by omega)).mono ?_
    rintro e w2 ⟨vh4, rfl, h4, hf⟩
    replace F := fr_then F hf
    replace hb := hb.keep hf; replace h3 := h3.keep hf
    clear hf ha
    go_wp2_with fail
    refine (of_r _ _ _ _ hb (by omega)).mono ?_
    rintro e w3 ⟨vh5, rfl, h5, hf⟩
    replace F := fr_then F hf
    replace h3 := h3.keep hf; replace h4 := h4.keep hf
    clear hf hb
    go_wp2_with fail
    refine (sub_r _ _ _ _ _ _ _ h4 h5 (by omega) hle).mono ?_
    rintro e w4 ⟨vh6, rfl, h6, hf⟩
    replace F := fr_then F hf
    replace h3 := h3.keep hf
    clear hf h4 h5
    go_wp2_with fail
    refine (is_n _ _ _ _ _ _ _ h6 h3 (by omega) rfl).mono ?_
    rintro e w5 ⟨rfl, hf⟩
    replace F := fr_then F hf
    clear hf h6 h3
    go_wp2_with fail
    refine (known_calls _).mono ?_
    rintro e w6 ⟨rfl, hf⟩
    replace F := fr_then F hf
    clear hf
    go_wp2_with fail
    go_ret
    exact ⟨rfl, F⟩
  · have hlt : a < b := by omega
    go_wp2_with fail
    refine (sub_no _ _ _ _ _ _ _ h1 h2 (by omega) hlt).mono ?_
    rintro e w1 ⟨rfl, hf⟩
    replace F := fr_then F hf
    replace ha := ha.keep hf; replace hb := hb.keep hf
    clear hf h1 h2
    go_wp2_with fail
    refine (of_r _ _ _ _ ha (by omega)).mono ?_
    rintro e w2 ⟨vh4, rfl, h4, hf⟩
    replace F := fr_then F hf
    replace hb := hb.keep hf
    clear hf ha
    go_wp2_with fail
    refine (of_r _ _ _ _ hb (by omega)).mono ?_
    rintro e w3 ⟨vh5, rfl, h5, hf⟩
    replace F := fr_then F hf
    replace h4 := h4.keep hf
    clear hf hb
    go_wp2_with fail
    refine (sub_r_no _ _ _ _ _ _ _ h4 h5 hlt).mono ?_
    rintro e w4 ⟨rfl, hf⟩
    replace F := fr_then F hf
    clear hf h4 h5
    go_wp2_with fail
    refine (known_calls _).mono ?_
    rintro e w5 ⟨rfl, hf⟩
    replace F := fr_then F hf
    clear hf
    go_wp2_with fail
    go_ret
    exact ⟨rfl, F⟩

set_option maxHeartbeats 1000000 in
theorem orders_walk {S : Nat → Prop} (w : World) (va vb : Value) (a b L : Nat) (ha : Num S w va a L) (hb : Num S w vb b L) (hL : L ≤ 1048576) :
    Calls Try.prog 8 #[va, vb] w fun e w' => e = .returned (.bool true) ∧ Fr (fun k => k < w.heap.size) w w' := by
  go_enter Try.func8, Try.ntmps8
  go_wp2_with fail
  refine (own_n _ _ _ _ ha (by omega)).mono ?_
  rintro e w1 ⟨vh0, rfl, h0, hf⟩
  have F := hf
  replace ha := ha.keep hf; replace hb := hb.keep hf
  clear hf
  go_wp2_with fail
  refine (trim_n _ _ _ _ h0 (by omega)).mono ?_
  rintro e w2 ⟨vh1, rfl, h1, hf⟩
  replace F := fr_then F hf
  replace ha := ha.keep hf; replace hb := hb.keep hf
  clear hf h0
  go_wp2_with fail
  refine (own_n _ _ _ _ ha (by omega)).mono ?_
  rintro e w3 ⟨vh2, rfl, h2, hf⟩
  replace F := fr_then F hf
  replace ha := ha.keep hf; replace hb := hb.keep hf; replace h1 := h1.keep hf
  clear hf
  go_wp2_with fail
  refine (own_n _ _ _ _ hb (by omega)).mono ?_
  rintro e w4 ⟨vh3, rfl, h3, hf⟩
  replace F := fr_then F hf
  replace ha := ha.keep hf; replace hb := hb.keep hf; replace h1 := h1.keep hf; replace h2 := h2.keep hf
  clear hf
  go_wp2_with fail
  refine (cmp_n _ _ _ _ _ _ _ h2 h3).mono ?_
  rintro e w5 ⟨rfl, hf⟩
  replace F := fr_then F hf
  replace ha := ha.keep hf; replace hb := hb.keep hf; replace h1 := h1.keep hf
  clear hf h2 h3
  go_wp2_with fail
  refine (of_r _ _ _ _ ha (by omega)).mono ?_
  rintro e w6 ⟨vh4, rfl, h4, hf⟩
  replace F := fr_then F hf
  replace ha := ha.keep hf; replace hb := hb.keep hf; replace h1 := h1.keep hf
  clear hf
  go_wp2_with fail
  refine (of_r _ _ _ _ hb (by omega)).mono ?_
  rintro e w7 ⟨vh5, rfl, h5, hf⟩
  replace F := fr_then F hf
  replace ha := ha.keep hf; replace h1 := h1.keep hf; replace h4 := h4.keep hf
  clear hf hb
  go_wp2_with fail
  refine (cmp_r' _ _ _ _ _ _ _ h4 h5).mono ?_
  rintro e w8 ⟨rfl, hf⟩
  replace F := fr_then F hf
  replace ha := ha.keep hf; replace h1 := h1.keep hf
  clear hf h4 h5
  go_wp2_with fail
  refine (canonical_calls _ _ _ _ h1).mono ?_
  rintro e w' ⟨rfl, rfl⟩
  go_wp2_with fail
  refine (equal_n _ _ _ _ _ _ _ h1.num ha rfl).mono ?_
  rintro e w' ⟨rfl, rfl⟩
  clear h1 ha
  go_wp2_with fail
  refine (known_calls _).mono ?_
  rintro e w9 ⟨rfl, hf⟩
  replace F := fr_then F hf
  clear hf
  go_wp2_with fail
  go_ret
  exact ⟨rfl, F⟩

set_option maxHeartbeats 1000000 in
theorem muls_walk {S : Nat → Prop} (w : World) (va vb : Value) (a b L : Nat) (ha : Num S w va a L) (hb : Num S w vb b L) (hL : L ≤ 1048576) :
    Calls Try.prog 5 #[va, vb] w fun e w' => e = .returned (.bool true) ∧ Fr (fun k => k < w.heap.size) w w' := by
  go_enter Try.func5, Try.ntmps5
  go_wp2_with fail
  refine (of_r _ _ _ _ ha (by omega)).mono ?_
  rintro e w1 ⟨vh1, rfl, h1, hf⟩
  have F := hf
  replace ha := ha.keep hf; replace hb := hb.keep hf
  clear hf
  go_wp2_with fail
  refine (of_r _ _ _ _ hb (by omega)).mono ?_
  rintro e w2 ⟨vh2, rfl, h2, hf⟩
  replace F := fr_then F hf
  replace ha := ha.keep hf; replace hb := hb.keep hf; replace h1 := h1.keep hf
  clear hf
  go_wp2_with fail
  refine (mul_r _ _ _ _ _ _ _ h1 h2 (by omega)).mono ?_
  rintro e w3 ⟨vh3, rfl, h3, hf⟩
  replace F := fr_then F hf
  replace ha := ha.keep hf; replace hb := hb.keep hf
  clear hf h1 h2
  go_wp2_with fail
  refine (own_n _ _ _ _ ha (by omega)).mono ?_
  rintro e w4 ⟨vh4, rfl, h4, hf⟩
  replace F := fr_then F hf
  replace hb := hb.keep hf; replace h3 := h3.keep hf
  clear hf ha
  go_wp2_with fail
  refine (own_n _ _ _ _ hb (by omega)).mono ?_
  rintro e w5 ⟨vh5, rfl, h5, hf⟩
  replace F := fr_then F hf
  replace h3 := h3.keep hf; replace h4 := h4.keep hf
  clear hf hb
  go_wp2_with fail
  refine (mul_n _ _ _ _ _ _ _ h4 h5 (by omega)).mono ?_
  rintro e w6 ⟨vh6, rfl, h6, hf⟩
  replace F := fr_then F hf
  replace h3 := h3.keep hf
  clear hf h4 h5
  go_wp2_with fail
  refine (is_n _ _ _ _ _ _ _ h3 h6 (by omega) rfl).mono ?_
  rintro e w7 ⟨rfl, hf⟩
  replace F := fr_then F hf
  clear hf h3 h6
  go_wp2_with fail
  refine (known_calls _).mono ?_
  rintro e w8 ⟨rfl, hf⟩
  replace F := fr_then F hf
  clear hf
  go_wp2_with fail
  go_ret
  exact ⟨rfl, F⟩
end Go.Proofs.Ytkngjhajjimjbaa

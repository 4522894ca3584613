
/- The reference's rationals: size, Int, Frac, Zero, Neg, Sign, Bits. -/
import Derived.Test.YtodpbkcdcchljaaRatG
namespace Go.Proofs.Ytodpbkcdcchljaa
open Go.RowKit

theorem rsize_r (w : World) (z : Int) (h0 : -9223372036854775808 ≤ z) (h1 : z ≤ 9223372036854775807) :
    Calls Try.prog 61 #[.int .i64 z] w fun e w' => ∃ v, e = .returned v ∧ RC (fun k => w.heap.size ≤ k) w' v z.natAbs 6 ∧ Fr (fun k => k < w.heap.size) w w' := by
  have hD : ∀ n : Nat, n < 9223372036854775808 → n < DB ^ 5 := fun n h => Nat.lt_of_lt_of_le h (by decide)
  go_enter Try.func61, Try.ntmps61
  by_cases hz : z < 0
  · have w1 : IntKind.i64.wrap (z + 1) = z + 1 := by rw [IntKind.wrap_i64]; omega
    have w2 : IntKind.i64.wrap (-(z + 1)) = -(z + 1) := by rw [IntKind.wrap_i64]; omega
    obtain ⟨n, hn⟩ := Int.eq_ofNat_of_zero_le (show 0 ≤ -(z + 1) by omega)
    rw [hn] at w2
    have p1 := hD n (by omega)
    have HN := Lib.hid hn
    have w2' : IntKind.i64.wrap (-(z + 1)) = (n : Int) := by rw [hn]; exact w2
    clear hD hn w2
    go_wp2_with fail
    refine (small_r _ n 5 (by have := HN.out; omega) p1).mono ?_
    rintro e w3 ⟨v1, rfl, h2, hf⟩
    have G := (Fr.refl (fun k => k < w3.heap.size) w3).alloc (.cells #[.int .i64 1] 3)
    have h3 := rc_one w3
    go_wp2_with fail
    refine (add_r _ _ _ _ _ _ _ (h2.keep G) h3 (by omega) (by omega)).mono ?_
    rintro e w4 ⟨v2, rfl, h4, hf2⟩
    have s1 := hf.size
    have s2 := G.size
    go_wp2_with fail
    go_ret
    have e1 : n + 1 = z.natAbs := by have := HN.out; omega
    rw [e1] at h4
    exact ⟨v2, rfl, h4.mono fun k hk => by omega, fr_then (fr_then hf G) hf2⟩
  · obtain ⟨n, rfl⟩ := Int.eq_ofNat_of_zero_le (show 0 ≤ z by omega)
    have p1 := hD n (by omega)
    clear hD
    go_wp2_with fail
    refine (small_r _ n 5 (by omega) p1).mono ?_
    rintro e w3 ⟨v1, rfl, h2, hf⟩
    go_wp2_with fail
    go_ret
    exact ⟨v1, rfl, by rw [Int.natAbs_natCast]; exact h2.wide (by omega), hf⟩

set_option maxHeartbeats 1000000 in
theorem rint_r (w : World) (z : Int) (h0 : -9223372036854775808 ≤ z) (h1 : z ≤ 9223372036854775807) :
    Calls Try.prog 24 #[.int .i64 z] w fun e w' => ∃ v1 v2, e = .returned (.agg #[.bool (sg (z : Rat)), v1, v2]) ∧ RR (fun k => w.heap.size ≤ k) w' v1 v2 (z : Rat) 6 ∧ Fr (fun k => k < w.heap.size) w w' := by
  have F := fr_nr (fun k => k < w.heap.size) w
  have hb := box_nr w
  have HS := Lib.hid (show decide (z < 0) = sg (z : Rat) from rfl)
  go_enter Try.func24, Try.ntmps24
  go_wp2_with fail
  refine (rsize_r _ z h0 h1).mono ?_
  rintro e w1 ⟨v1, rfl, h2, hf⟩
  obtain ⟨A1, n1, c1, rfl⟩ := h2.form
  have s1 := hf.size
  simp only [World.size_alloc] at h2 s1
  have h3 := rc_one w1
  have G := (Fr.refl (fun k => k < w1.heap.size) w1).alloc (.cells #[.int .i64 1] 3)
  replace h2 := h2.keep G
  replace hb := (hb.keep hf).keep G
  replace F := fr_then (fr_then F hf) G
  clear hf G
  go_wp2_with ((with_reducible apply wpList_st3); rfl; rfl; exact hb; exact ref3; rfl; rfl; rfl; intro w9 B9 F9)
  refine bodyPost_ret (results_cell3 rfl rfl B9 Try.underlying34 ref3) rfl ?_
  exact ⟨_, _, by rw [HS.out], ⟨h2.out F9 (fun k hk => by omega) (by omega), (h3.wide (by omega)).out F9 (fun k hk => by omega) (by omega)⟩, F.comp F9 fun k hk h => ⟨h, by omega⟩⟩

theorem rv_frac (p q : Int) : rv (decide (p < 0) != decide (q < 0)) p.natAbs q.natAbs = mkRat (if q < 0 then -p else p) q.natAbs := by
  unfold rv sgn
  congr 1
  by_cases h1 : p < 0 <;> by_cases h2 : q < 0 <;> simp [h1, h2] <;> omega
/-- one number of Go's by another one -/
def fr (p q : Int) : Rat := rv (decide (p < 0) != decide (q < 0)) p.natAbs q.natAbs

set_option maxHeartbeats 1000000 in
theorem rfrac_r (w : World) (p q : Int) (h0 : -9223372036854775808 ≤ p) (h1 : p ≤ 9223372036854775807) (h2 : -9223372036854775808 ≤ q) (h3 : q ≤ 9223372036854775807) :
    Calls Try.prog 26 #[.int .i64 p, .int .i64 q] w fun e w' => ∃ v1 v2, e = .returned (.agg #[.bool (sg (fr p q)), v1, v2]) ∧ RR (fun k => w.heap.size ≤ k) w' v1 v2 (fr p q) 6 ∧ Fr (fun k => k < w.heap.size) w w' := by
  have F := fr_nr (fun k => k < w.heap.size) w
  have hb := box_nr w
  obtain ⟨x, hx⟩ : ∃ x, x = (decide (p < 0) != decide (q < 0)) := ⟨_, rfl⟩
  have HQ := Lib.hid (show rv x p.natAbs q.natAbs = fr p q by rw [hx]; rfl)
  have HX := Lib.hid hx.symm
  clear hx
  go_enter Try.func26, Try.ntmps26
  go_wp2_with fail
  refine (rsize_r _ p h0 h1).mono ?_
  rintro e w1 ⟨v1, rfl, k1, hf⟩
  have s1 := hf.size
  simp only [World.size_alloc] at s1
  replace hb := hb.keep hf
  replace F := fr_then F hf
  clear hf
  go_wp2_with fail
  refine (rsize_r _ q h2 h3).mono ?_
  rintro e w2 ⟨v2, rfl, k2, hf⟩
  have s2 := hf.size
  replace hb := hb.keep hf
  replace k1 := k1.keep hf
  replace F := fr_then F hf
  clear hf
  go_wp2_with fail
  have p1 := rmake_q w2 x v1 v2 _ _ 6 (fr p q) HQ k1 k2 (by decide) (by decide)
  rw [← HX.out] at p1
  have hn : (decide (p < 0) != decide (q < 0)) = (!(decide (p < 0) == decide (q < 0))) := rfl
  first
    | refine p1.mono ?_
    | (rw [hn] at p1; refine p1.mono ?_)
    | (simp at p1; refine p1.mono ?_)
  rintro e w3 ⟨v3, v4, rfl, k3, hf⟩
  obtain ⟨⟨C1, i1, j1, rfl⟩, ⟨C2, i2, j2, rfl⟩⟩ := k3.form
  have s3 := hf.size
  replace hb := hb.keep hf
  replace F := fr_then F hf
  clear hf p1 k1 k2
  go_wp2_with ((with_reducible apply wpList_st3); rfl; rfl; exact hb; exact ref3; rfl; rfl; rfl; intro w9 B9 F9)
  refine bodyPost_ret (results_cell3 rfl rfl B9 Try.underlying34 ref3) rfl ?_
  exact ⟨_, _, rfl, k3.out F9 (fun k hk => by omega) (by omega), F.comp F9 fun k hk h => ⟨h, by omega⟩⟩

theorem rzero_r {S : Nat → Prop} (w : World) (s : Bool) (vn vd : Value) (q : Rat) (L : Nat) (h : RR S w vn vd q L) :
    Calls Try.prog 68 #[.agg #[.bool s, vn, vd]] w fun e w' => e = .returned (.bool (decide (q.num.natAbs = 0))) ∧ Fr (fun k => k < w.heap.size) w w' := by
  obtain ⟨A1, c1, hv, _⟩ := h.num.sl.slice
  obtain ⟨_, ⟨A2, n2, c2, rfl⟩⟩ := h.form
  subst hv
  have e1 := dd_eq0 q.num.natAbs
  have F := (Fr.refl (fun k => k < w.heap.size) w).alloc (.cells #[.bool s, .slice A1 (dg DB q.num.natAbs).length c1, .slice A2 n2 c2] 34)
  clear h
  generalize (dg DB q.num.natAbs).length = m at e1 F ⊢
  have HE := Lib.hid e1
  clear e1
  go_enter Try.func68, Try.ntmps68
  go_wp2_with fail
  go_ret
  exact ⟨congrArg (fun b : Bool => Ending.returned (.bool b)) HE.out, F⟩

set_option maxHeartbeats 1000000 in
theorem rneg_r {S : Nat → Prop} (w : World) (s : Bool) (vn vd : Value) (q : Rat) (L : Nat) (h : RR S w vn vd q L) (hs : s = sg q) :
    Calls Try.prog 33 #[.agg #[.bool s, vn, vd]] w fun e w' => ∃ v1 v2, e = .returned (.agg #[.bool (sg (-q)), v1, v2]) ∧ RR (fun k => k < w.heap.size) w' v1 v2 (-q) L ∧ Fr (fun k => k < w.heap.size) w w' := by
  subst hs
  obtain ⟨⟨A1, n1, c1, rfl⟩, ⟨A2, n2, c2, rfl⟩⟩ := h.form
  have F := ((Fr.refl (fun k => k < w.heap.size) w).alloc (.cells #[.bool (sg q), .slice A1 n1 c1, .slice A2 n2 c2] 34)).alloc (.cells #[.bool false, .slice none 0 0, .slice none 0 0] 34)
  have hb := box_nr (w.alloc (.cells #[.bool (sg q), .slice A1 n1 c1, .slice A2 n2 c2] 34))
  have hx := (Box3.new w 34 (.bool (sg q)) (.slice A1 n1 c1) (.slice A2 n2 c2)).alloc (.cells #[.bool false, .slice none 0 0, .slice none 0 0] 34)
  have h0 := h.low.fr F
  have h1 := h.keep F
  have hsg := sg_neg (q := q)
  simp only [World.size_alloc] at hb
  go_enter Try.func33, Try.ntmps33
  by_cases hz : q.num.natAbs = 0
  · have HS := Lib.hid (show sg (-q) = sg q by rw [hsg, show sg q = false by unfold sg; rw [show q.num = 0 by omega]; rfl, decide_eq_false (show ¬ q.num ≠ 0 by omega)]; rfl)
    have p1 := rzero_r _ (sg q) _ _ q L h1
    rw [decide_eq_true hz] at p1
    clear hsg hz h1 h
    go_wp2_with fail
    refine p1.mono ?_
    rintro e w1 ⟨rfl, hf⟩
    clear p1
    replace hb := hb.keep hf
    have hx1 := hx.keep hf
    have b0 := hx1.c0; have b1 := hx1.c1; have b2 := hx1.c2
    replace h0 := h0.keep hf
    replace F := fr_then F hf
    clear hf
    go_wp2_with ((with_reducible apply wpList_st3); rfl; rfl; exact hb; exact ref3; rfl; rfl; rfl; intro w9 B9 F9)
    refine bodyPost_ret (results_cell3 rfl rfl B9 Try.underlying34 ref3) rfl ?_
    have h9 := h0.fr (F9.mono fun k _ hk => by omega)
    exact ⟨_, _, by rw [HS.out], ⟨by rw [neg_natAbs]; exact h9.num, h9.den⟩, F.comp F9 fun k hk h => ⟨h, by omega⟩⟩
  · have HS := Lib.hid (show sg (-q) = !sg q by rw [hsg, decide_eq_true (show q.num ≠ 0 by omega)]; rfl)
    have p1 := rzero_r _ (sg q) _ _ q L h1
    rw [decide_eq_false hz] at p1
    clear hsg hz h1 h
    go_wp2_with fail
    refine p1.mono ?_
    rintro e w1 ⟨rfl, hf⟩
    clear p1
    replace hb := hb.keep hf
    have hx1 := hx.keep hf
    have b0 := hx1.c0; have b1 := hx1.c1; have b2 := hx1.c2
    replace h0 := h0.keep hf
    replace F := fr_then F hf
    clear hf
    go_wp2_with ((with_reducible apply wpList_st3); rfl; rfl; exact hb; exact ref3; rfl; rfl; rfl; intro w9 B9 F9)
    refine bodyPost_ret (results_cell3 rfl rfl B9 Try.underlying34 ref3) rfl ?_
    have h9 := h0.fr (F9.mono fun k _ hk => by omega)
    exact ⟨_, _, by rw [HS.out], ⟨by rw [neg_natAbs]; exact h9.num, h9.den⟩, F.comp F9 fun k hk h => ⟨h, by omega⟩⟩

set_option maxHeartbeats 1000000 in
theorem rsign_r {S : Nat → Prop} (w : World) (s : Bool) (vn vd : Value) (q : Rat) (L : Nat) (h : RR S w vn vd q L) (hs : s = sg q) :
    Calls Try.prog 42 #[.agg #[.bool s, vn, vd]] w fun e w' => e = .returned (.int .i64 q.num.sign) ∧ Fr (fun k => k < w.heap.size) w w' := by
  subst hs
  obtain ⟨⟨A1, n1, c1, rfl⟩, ⟨A2, n2, c2, rfl⟩⟩ := h.form
  have F := (Fr.refl (fun k => k < w.heap.size) w).alloc (.cells #[.bool (sg q), .slice A1 n1 c1, .slice A2 n2 c2] 34)
  have hx := Box3.new w 34 (.bool (sg q)) (.slice A1 n1 c1) (.slice A2 n2 c2)
  have p1 := rzero_r _ (sg q) _ _ q L (h.keep F)
  have hc := sign_cases q
  have hz : decide (q.num.natAbs = 0) = decide (q.num = 0) := decide_eq_decide.2 Int.natAbs_eq_zero
  rw [hz] at p1
  generalize q.num.sign = z at hc ⊢
  generalize sg q = sq at hc p1 hx F ⊢
  rcases hc with ⟨h0, hs⟩ | ⟨h0, hq, hs⟩ | ⟨h0, hq, hs⟩
  · rw [decide_eq_true h0] at p1
    subst hs
    clear h0 hz h
    go_enter Try.func42, Try.ntmps42
    go_wp2_with fail
    refine p1.mono ?_
    rintro e w1 ⟨rfl, hf⟩
    clear p1
    go_wp2_with fail
    go_ret
    exact ⟨rfl, fr_then F hf⟩
  · rw [decide_eq_false (by omega)] at p1
    subst hs hq
    clear h0 hz h
    go_enter Try.func42, Try.ntmps42
    go_wp2_with fail
    refine p1.mono ?_
    rintro e w1 ⟨rfl, hf⟩
    clear p1
    have b0 := (hx.keep hf).c0
    go_wp2_with fail
    go_ret
    exact ⟨rfl, fr_then F hf⟩
  · rw [decide_eq_false (by omega)] at p1
    subst hs hq
    clear h0 hz h
    go_enter Try.func42, Try.ntmps42
    go_wp2_with fail
    refine p1.mono ?_
    rintro e w1 ⟨rfl, hf⟩
    clear p1
    have b0 := (hx.keep hf).c0
    go_wp2_with fail
    go_ret
    exact ⟨rfl, fr_then F hf⟩
end Go.Proofs.Ytodpbkcdcchljaa

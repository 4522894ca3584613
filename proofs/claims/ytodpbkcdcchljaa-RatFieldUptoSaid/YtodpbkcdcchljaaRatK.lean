
/- The reference's rationals: Sub, Div, Cmp, Is, Own. -/
import Derived.Test.YtodpbkcdcchljaaRatJ
namespace Go.Proofs.Ytodpbkcdcchljaa
open Go.RowKit

theorem inv_num {y : Rat} (h : y ≠ 0) : (y⁻¹).num.natAbs = y.den := by
  have h1 : y.num ≠ 0 := fun e => h (Rat.num_eq_zero.1 e)
  rw [Rat.num_inv, Int.natAbs_mul, Int.natAbs_sign_of_ne_zero h1, Nat.one_mul, Int.natAbs_natCast]
theorem inv_den {y : Rat} (h : y ≠ 0) : (y⁻¹).den = y.num.natAbs := by
  have h1 : y.num ≠ 0 := fun e => h (Rat.num_eq_zero.1 e)
  rw [Rat.den_inv, if_neg h1]
theorem inv_sg (y : Rat) : sg y⁻¹ = sg y := by
  unfold sg
  rw [Rat.num_inv]
  have hd : (0 : Int) < y.den := by have := y.den_pos; omega
  rcases Int.lt_trichotomy y.num 0 with h | h | h
  · rw [Int.sign_eq_neg_one_of_neg h, decide_eq_true h]; exact decide_eq_true (by omega)
  · rw [h]; simp
  · rw [Int.sign_eq_one_of_pos h, decide_eq_false (show ¬ y.num < 0 by omega)]; exact decide_eq_false (by omega)
theorem RR.inv {S : Nat → Prop} {w : World} {vn vd : Value} {q : Rat} {L : Nat} (h : RR S w vn vd q L) (h0 : q ≠ 0) : RR S w vd vn q⁻¹ L := ⟨by rw [inv_num h0]; exact h.den, by rw [inv_den h0]; exact h.num⟩

set_option maxHeartbeats 4000000 in
theorem rsub_q {S T : Nat → Prop} (w : World) (s t : Bool) (vn vd un ud : Value) (x y : Rat) (L : Nat) (hx : RR S w vn vd x L) (hy : RR T w un ud y L) (hs : s = sg x) (ht : t = sg y) (hL1 : 1 ≤ L) (hl : L ≤ 104857600) :
    Calls Try.prog 29 #[.agg #[.bool s, vn, vd], .agg #[.bool t, un, ud]] w fun e w' => ∃ v1 v2, e = .returned (.agg #[.bool (sg (x - y)), v1, v2]) ∧ RR (fun k => w.heap.size ≤ k) w' v1 v2 (x - y) (4 * L) ∧ Fr (fun k => k < w.heap.size) w w' := by
  subst hs ht
  obtain ⟨⟨A1, n1, c1, rfl⟩, ⟨A2, n2, c2, rfl⟩⟩ := hx.form
  obtain ⟨⟨A3, n3, c3, rfl⟩, ⟨A4, n4, c4, rfl⟩⟩ := hy.form
  have F := (((Fr.refl (fun k => k < w.heap.size) w).alloc (.cells #[.bool (sg x), .slice A1 n1 c1, .slice A2 n2 c2] 34)).alloc (.cells #[.bool (sg y), .slice A3 n3 c3, .slice A4 n4 c4] 34)).alloc (.cells #[.bool false, .slice none 0 0, .slice none 0 0] 34)
  have x1 := ((Box3.new w 34 (.bool (sg x)) (.slice A1 n1 c1) (.slice A2 n2 c2)).alloc (.cells #[.bool (sg y), .slice A3 n3 c3, .slice A4 n4 c4] 34)).alloc (.cells #[.bool false, .slice none 0 0, .slice none 0 0] 34)
  have x2 := (Box3.new (w.alloc (.cells #[.bool (sg x), .slice A1 n1 c1, .slice A2 n2 c2] 34)) 34 (.bool (sg y)) (.slice A3 n3 c3) (.slice A4 n4 c4)).alloc (.cells #[.bool false, .slice none 0 0, .slice none 0 0] 34)
  have hb := box_nr ((w.alloc (.cells #[.bool (sg x), .slice A1 n1 c1, .slice A2 n2 c2] 34)).alloc (.cells #[.bool (sg y), .slice A3 n3 c3, .slice A4 n4 c4] 34))
  simp only [World.size_alloc] at x2 hb
  have hx0 := hx.keep F
  have hy0 := hy.keep F
  have hxl := hx.low.fr F
  have hyl := hy.low.fr F
  generalize hW0 : ((w.alloc (.cells #[.bool (sg x), .slice A1 n1 c1, .slice A2 n2 c2] 34)).alloc (.cells #[.bool (sg y), .slice A3 n3 c3, .slice A4 n4 c4] 34)).alloc (.cells #[.bool false, .slice none 0 0, .slice none 0 0] 34) = W0 at F x1 x2 hb hx0 hy0 hxl hyl
  clear hx hy
  have dr : ∀ R, Fr R W0 W0.drew := fun R => (Fr.refl R W0).drew
  replace hx0 := hx0.keep (dr _)
  replace hy0 := hy0.keep (dr _)
  replace hxl := hxl.fr (dr _)
  replace hyl := hyl.fr (dr _)
  replace x1 := x1.keep (dr _)
  replace x2 := x2.keep (dr _)
  replace hb := hb.keep (dr _)
  replace F := F.drew
  have S0 : W0.drew.cell? ⟨w.heap.size, 0, none⟩ = some (.bool (sg x)) ∧ W0.drew.cell? ⟨w.heap.size, 1, none⟩ = some (.slice A1 n1 c1) ∧ W0.drew.cell? ⟨w.heap.size, 2, none⟩ = some (.slice A2 n2 c2) ∧ W0.drew.cell? ⟨w.heap.size + 1, 0, none⟩ = some (.bool (sg y)) ∧ W0.drew.cell? ⟨w.heap.size + 1, 1, none⟩ = some (.slice A3 n3 c3) ∧ W0.drew.cell? ⟨w.heap.size + 1, 2, none⟩ = some (.slice A4 n4 c4) := ⟨x1.c0, x1.c1, x1.c2, x2.c0, x2.c1, x2.c2⟩
  have s0 := hb.lt
  clear dr hxl hyl
  go_enter Try.func29, Try.ntmps29
  rw [Rat.sub_eq_add_neg]
  go_wp2_with fail
  clear hW0
  go_region_held3 (fun u => u.cell? ⟨w.heap.size, 0, none⟩ = some (.bool (sg x)) ∧ u.cell? ⟨w.heap.size, 1, none⟩ = some (.slice A1 n1 c1) ∧ u.cell? ⟨w.heap.size, 2, none⟩ = some (.slice A2 n2 c2) ∧ u.cell? ⟨w.heap.size + 1, 0, none⟩ = some (.bool (sg y)) ∧ u.cell? ⟨w.heap.size + 1, 1, none⟩ = some (.slice A3 n3 c3) ∧ u.cell? ⟨w.heap.size + 1, 2, none⟩ = some (.slice A4 n4 c4)) (first | exact S0 | exact S1 | exact S2 | exact S3) (first
    | ((with_reducible refine (rneg_r _ (sg y) (.slice A3 n3 c3) (.slice A4 n4 c4) y L hy0 rfl).mono ?_); rintro e w1 ⟨v1, v2, rfl, h1, hf1⟩; obtain ⟨⟨B1, m1, k1, rfl⟩, ⟨B2, m2, k2, rfl⟩⟩ := h1.form; have y1 := x1.keep hf1; have y2 := x2.keep hf1; have S1 : w1.cell? ⟨w.heap.size, 0, none⟩ = some (.bool (sg x)) ∧ w1.cell? ⟨w.heap.size, 1, none⟩ = some (.slice A1 n1 c1) ∧ w1.cell? ⟨w.heap.size, 2, none⟩ = some (.slice A2 n2 c2) ∧ w1.cell? ⟨w.heap.size + 1, 0, none⟩ = some (.bool (sg y)) ∧ w1.cell? ⟨w.heap.size + 1, 1, none⟩ = some (.slice A3 n3 c3) ∧ w1.cell? ⟨w.heap.size + 1, 2, none⟩ = some (.slice A4 n4 c4) := ⟨y1.c0, y1.c1, y1.c2, y2.c0, y2.c1, y2.c2⟩)
    | ((with_reducible refine (radd_q _ (sg x) (sg (-y)) (.slice A1 n1 c1) (.slice A2 n2 c2) (.slice B1 m1 k1) (.slice B2 m2 k2) x (-y) L (hx0.keep hf1) h1 rfl rfl hL1 hl).mono ?_); rintro e w2 ⟨v1, v2, rfl, h2, hf2⟩; obtain ⟨⟨C1, i1, j1, rfl⟩, ⟨C2, i2, j2, rfl⟩⟩ := h2.form; have z1 := y1.keep hf2; have z2 := y2.keep hf2; have S2 : w2.cell? ⟨w.heap.size, 0, none⟩ = some (.bool (sg x)) ∧ w2.cell? ⟨w.heap.size, 1, none⟩ = some (.slice A1 n1 c1) ∧ w2.cell? ⟨w.heap.size, 2, none⟩ = some (.slice A2 n2 c2) ∧ w2.cell? ⟨w.heap.size + 1, 0, none⟩ = some (.bool (sg y)) ∧ w2.cell? ⟨w.heap.size + 1, 1, none⟩ = some (.slice A3 n3 c3) ∧ w2.cell? ⟨w.heap.size + 1, 2, none⟩ = some (.slice A4 n4 c4) := ⟨z1.c0, z1.c1, z1.c2, z2.c0, z2.c1, z2.c2⟩; have hb3 := (hb.keep hf1).keep hf2; have F4 := fr_set3 w2 (w.heap.size + 1 + 1) (.bool (sg (x + -y))) (.slice C1 i1 j1) (.slice C2 i2 j2); have q1 := z1.fr F4 (by omega); have q2 := z2.fr F4 (by omega); have S3 := And.intro q1.c0 (And.intro q1.c1 (And.intro q1.c2 (And.intro q2.c0 (And.intro q2.c1 q2.c2)))); have d0 := hb3.c0; have d1 := hb3.c1; have d2 := hb3.c2; have f0 := hb3.free 0; have f1 := hb3.free 1; have f2 := hb3.free 2))
  have B4 := hb3.set3 (.bool (sg (x + -y))) (.slice C1 i1 j1) (.slice C2 i2 j2)
  have s1 := hf1.size
  have F3 := fr_then (fr_then F hf1) hf2
  go_wp2_with fail
  refine bodyPost_ret (results_cell3 rfl rfl B4 Try.underlying34 ref3) rfl ?_
  exact ⟨_, _, rfl, h2.out F4 (fun k hk => by omega) (by omega), F3.comp F4 fun k hk h => ⟨h, by omega⟩⟩

set_option maxHeartbeats 4000000 in
theorem rdiv_q {S T : Nat → Prop} (w : World) (s t : Bool) (vn vd un ud : Value) (x y : Rat) (L : Nat) (hx : RR S w vn vd x L) (hy : RR T w un ud y L) (hs : s = sg x) (ht : t = sg y) (h0 : y ≠ 0) (hL1 : 1 ≤ L) (hl : L ≤ 104857600) :
    Calls Try.prog 36 #[.agg #[.bool s, vn, vd], .agg #[.bool t, un, ud]] w fun e w' => ∃ v1 v2, e = .returned (.tuple #[.agg #[.bool (sg (x / y)), v1, v2], .bool true]) ∧ RR (fun k => w.heap.size ≤ k) w' v1 v2 (x / y) (2 * L) ∧ Fr (fun k => k < w.heap.size) w w' := by
  subst hs ht
  obtain ⟨⟨A1, n1, c1, rfl⟩, ⟨A2, n2, c2, rfl⟩⟩ := hx.form
  obtain ⟨⟨A3, n3, c3, rfl⟩, ⟨A4, n4, c4, rfl⟩⟩ := hy.form
  have F := (((Fr.refl (fun k => k < w.heap.size) w).alloc (.cells #[.bool (sg x), .slice A1 n1 c1, .slice A2 n2 c2] 34)).alloc (.cells #[.bool (sg y), .slice A3 n3 c3, .slice A4 n4 c4] 34)).alloc (.cells #[.bool false, .slice none 0 0, .slice none 0 0] 34)
  have x1 := ((Box3.new w 34 (.bool (sg x)) (.slice A1 n1 c1) (.slice A2 n2 c2)).alloc (.cells #[.bool (sg y), .slice A3 n3 c3, .slice A4 n4 c4] 34)).alloc (.cells #[.bool false, .slice none 0 0, .slice none 0 0] 34)
  have x2 := (Box3.new (w.alloc (.cells #[.bool (sg x), .slice A1 n1 c1, .slice A2 n2 c2] 34)) 34 (.bool (sg y)) (.slice A3 n3 c3) (.slice A4 n4 c4)).alloc (.cells #[.bool false, .slice none 0 0, .slice none 0 0] 34)
  have hb := box_nr ((w.alloc (.cells #[.bool (sg x), .slice A1 n1 c1, .slice A2 n2 c2] 34)).alloc (.cells #[.bool (sg y), .slice A3 n3 c3, .slice A4 n4 c4] 34))
  simp only [World.size_alloc] at x2 hb
  have hx0 := hx.keep F
  have hy0 := hy.keep F
  have hxl := hx.low.fr F
  have hyl := hy.low.fr F
  generalize hW0 : ((w.alloc (.cells #[.bool (sg x), .slice A1 n1 c1, .slice A2 n2 c2] 34)).alloc (.cells #[.bool (sg y), .slice A3 n3 c3, .slice A4 n4 c4] 34)).alloc (.cells #[.bool false, .slice none 0 0, .slice none 0 0] 34) = W0 at F x1 x2 hb hx0 hy0 hxl hyl
  clear hx hy
  have s0 := hb.lt
  have p1 := rzero_r _ (sg y) _ _ y L hy0
  have hyn : y.num ≠ 0 := fun e => h0 (Rat.num_eq_zero.1 e)
  rw [decide_eq_false (by omega)] at p1
  have hyi := hy0.inv h0
  have hys := inv_sg y
  clear hxl hyl
  rw [Rat.div_def]
  have HY := Lib.hid hys
  go_enter Try.func36, Try.ntmps36
  clear hys
  have e0 := x2.c0
  have e1 := x2.c1
  have e2 := x2.c2
  go_wp2_with fail
  refine p1.mono ?_
  rintro e w1 ⟨rfl, hf⟩
  replace F := fr_then F hf
  replace hb := hb.keep hf
  replace hx0 := hx0.keep hf
  replace hyi := hyi.keep hf
  have y1 := x1.keep hf
  have y2 := x2.keep hf
  have a0 := y1.c0
  have a1 := y1.c1
  have a2 := y1.c2
  have b0 := y2.c0
  have b1 := y2.c1
  have b2 := y2.c2
  have s1 := hf.size
  clear p1 hf hW0 hyn hy0 e0 e1 e2
  go_wp2_with fail
  refine (rmul_q _ _ _ _ _ _ _ x y⁻¹ L hx0 hyi rfl HY.out.symm hL1 hl).mono ?_
  rintro e w2 ⟨v1, v2, rfl, h2, hf⟩
  obtain ⟨⟨C1, i1, j1, rfl⟩, ⟨C2, i2, j2, rfl⟩⟩ := h2.form
  replace F := fr_then F hf
  replace hb := hb.keep hf
  clear hf hx0 hyi
  go_wp2_with ((with_reducible apply wpList_st3); rfl; rfl; exact hb; exact ref3; rfl; rfl; rfl; intro w9 B9 F9)
  refine bodyPost_ret (results_cell3_tmp rfl rfl B9 Try.underlying34 ref3) rfl ?_
  exact ⟨_, _, rfl, h2.out F9 (fun k hk => by omega) (by omega), F.comp F9 fun k hk h => ⟨h, by omega⟩⟩

set_option maxHeartbeats 1000000 in
theorem rdiv_q0 {S T : Nat → Prop} (w : World) (s t : Bool) (vn vd un ud : Value) (x : Rat) (L : Nat) (hx : RR S w vn vd x L) (hy : RR T w un ud 0 L) :
    Calls Try.prog 36 #[.agg #[.bool s, vn, vd], .agg #[.bool t, un, ud]] w fun e w' => e = .returned (.tuple #[.agg #[.bool false, .slice none 0 0, .slice none 0 0], .bool false]) ∧ Fr (fun k => k < w.heap.size) w w' := by
  obtain ⟨⟨A1, n1, c1, rfl⟩, ⟨A2, n2, c2, rfl⟩⟩ := hx.form
  obtain ⟨⟨A3, n3, c3, rfl⟩, ⟨A4, n4, c4, rfl⟩⟩ := hy.form
  have F := (((Fr.refl (fun k => k < w.heap.size) w).alloc (.cells #[.bool s, .slice A1 n1 c1, .slice A2 n2 c2] 34)).alloc (.cells #[.bool t, .slice A3 n3 c3, .slice A4 n4 c4] 34)).alloc (.cells #[.bool false, .slice none 0 0, .slice none 0 0] 34)
  have x1 := ((Box3.new w 34 (.bool s) (.slice A1 n1 c1) (.slice A2 n2 c2)).alloc (.cells #[.bool t, .slice A3 n3 c3, .slice A4 n4 c4] 34)).alloc (.cells #[.bool false, .slice none 0 0, .slice none 0 0] 34)
  have x2 := (Box3.new (w.alloc (.cells #[.bool s, .slice A1 n1 c1, .slice A2 n2 c2] 34)) 34 (.bool t) (.slice A3 n3 c3) (.slice A4 n4 c4)).alloc (.cells #[.bool false, .slice none 0 0, .slice none 0 0] 34)
  have hb := box_nr ((w.alloc (.cells #[.bool s, .slice A1 n1 c1, .slice A2 n2 c2] 34)).alloc (.cells #[.bool t, .slice A3 n3 c3, .slice A4 n4 c4] 34))
  simp only [World.size_alloc] at x2 hb
  have hx0 := hx.keep F
  have hy0 := hy.keep F
  have hxl := hx.low.fr F
  have hyl := hy.low.fr F
  generalize hW0 : ((w.alloc (.cells #[.bool s, .slice A1 n1 c1, .slice A2 n2 c2] 34)).alloc (.cells #[.bool t, .slice A3 n3 c3, .slice A4 n4 c4] 34)).alloc (.cells #[.bool false, .slice none 0 0, .slice none 0 0] 34) = W0 at F x1 x2 hb hx0 hy0 hxl hyl
  clear hx hy
  have p1 := rzero_r _ t _ _ 0 L hy0
  rw [decide_eq_true (show (0 : Rat).num.natAbs = 0 from rfl)] at p1
  have e0 := x2.c0
  have e1 := x2.c1
  have e2 := x2.c2
  clear hxl hyl hx0 hy0 x1 x2
  go_enter Try.func36, Try.ntmps36
  go_wp2_with fail
  refine p1.mono ?_
  rintro e w1 ⟨rfl, hf⟩
  replace F := fr_then F hf
  replace hb := hb.keep hf
  clear p1 hf hW0 e0 e1 e2
  go_wp2_with ((with_reducible apply wpList_st3); rfl; rfl; exact hb; exact ref3; rfl; rfl; rfl; intro w9 B9 F9)
  refine bodyPost_ret (results_cell3_tmp rfl rfl B9 Try.underlying34 ref3) rfl ?_
  exact ⟨rfl, F.comp F9 fun k hk h => ⟨h, by omega⟩⟩

theorem rcmp_q {S T : Nat → Prop} (w : World) (s t : Bool) (vn vd un ud : Value) (x y : Rat) (L : Nat) (hx : RR S w vn vd x L) (hy : RR T w un ud y L) (hs : s = sg x) (ht : t = sg y) (hL1 : 1 ≤ L) (hl : L ≤ 104857600) :
    Calls Try.prog 40 #[.agg #[.bool s, vn, vd], .agg #[.bool t, un, ud]] w fun e w' => e = .returned (.int .i64 (x - y).num.sign) ∧ Fr (fun k => k < w.heap.size) w w' := by
  subst hs ht
  obtain ⟨⟨A1, n1, c1, rfl⟩, ⟨A2, n2, c2, rfl⟩⟩ := hx.form
  obtain ⟨⟨A3, n3, c3, rfl⟩, ⟨A4, n4, c4, rfl⟩⟩ := hy.form
  have F := ((Fr.refl (fun k => k < w.heap.size) w).alloc (.cells #[.bool (sg x), .slice A1 n1 c1, .slice A2 n2 c2] 34)).alloc (.cells #[.bool (sg y), .slice A3 n3 c3, .slice A4 n4 c4] 34)
  go_enter Try.func40, Try.ntmps40
  go_wp2_with fail
  refine (rsub_q _ _ _ _ _ _ _ _ _ _ (hx.keep F) (hy.keep F) rfl rfl hL1 hl).mono ?_
  rintro e w1 ⟨v1, v2, rfl, h1, hf⟩
  obtain ⟨⟨B1, m1, k1, rfl⟩, ⟨B2, m2, k2, rfl⟩⟩ := h1.form
  replace F := fr_then F hf
  clear hf hx hy
  go_wp2_with fail
  refine (rsign_r _ _ _ _ _ _ h1 rfl).mono ?_
  rintro e w2 ⟨rfl, hf⟩
  go_wp2_with fail
  go_ret
  exact ⟨rfl, fr_then F hf⟩

theorem canon_full {S : Nat → Prop} (w : World) (v : Value) (xs : List Nat) (hs : Sl Lm S w v xs) :
    Calls Try.prog 73 #[v] w fun e w' => e = .returned (.bool (decide (xs = dg LB (val xs)))) ∧ w' = w := by
  have hd := Kd.nat_all hs
  obtain ⟨A, c, rfl, _, _, hlx⟩ := hs.slice
  by_cases h0 : xs.length = 0
  · have hx := List.length_eq_zero_iff.1 h0
    have HX := Lib.hid (show decide (xs = dg LB (val xs)) = true from decide_eq_true (by rw [hx]; exact (dg_zero LB).symm))
    rw [h0]
    clear hs h0 hx hd hlx
    go_enter Try.func73, Try.ntmps73
    go_wp2
    go_ret
    exact ⟨congrArg (fun b : Bool => Ending.returned (.bool b)) HX.out.symm, rfl⟩
  · obtain ⟨ad, rfl, hc, hm⟩ := Kd.nat_cell hs (i := xs.length - 1) (by omega)
    have hb2 : ((xs.length : Int) == 0) = false := beq_eq_false_iff_ne.2 (by omega)
    have hlast : xs.getLast? = some (xs[xs.length - 1]'(by omega)) := by rw [List.getLast?_eq_getElem?, List.getElem?_eq_getElem]
    have hr : decide (xs = dg LB (val xs)) = ((xs[xs.length - 1]'(by omega) : Int) != 0) := by
      by_cases hX : xs[xs.length - 1]'(by omega) = 0
      · rw [hX, decide_eq_false fun e => ?_]; · rfl
        have := dg_last LB2 (val xs) (xs[xs.length - 1]'(by omega)) (by rw [← e]; exact hlast)
        omega
      · rw [decide_eq_true]
        · rw [bne, beq_eq_false_iff_ne.2 (by omega)]; rfl
        · exact (dg_ofB LB2 hd fun d hdl => by rw [hlast] at hdl; cases hdl; exact hX).symm
    generalize xs[xs.length - 1]'(by omega) = X at hr hc hm
    have HR := Lib.hid hr
    clear hs hlast hr hd
    go_enter Try.func73, Try.ntmps73
    go_wp2
    go_ret
    exact ⟨congrArg (fun b : Bool => Ending.returned (.bool b)) HR.out.symm, rfl⟩

theorem is_full {S T : Nat → Prop} (w : World) (vr v : Value) (xs : List Nat) (N L K : Nat) (hr : RC S w vr N K) (h : Sl Lm T w v xs) (hx : xs.length ≤ L) (hL : L ≤ 1099511620) :
    Calls Try.prog 49 #[vr, v] w fun e w' => e = .returned (.bool (decide (xs = dg LB N))) ∧ Fr (fun k => k < w.heap.size) w w' := by
  have p1 := canon_full w v xs h
  have hn : Num T w v (val xs) L := ⟨xs, h, rfl, hx⟩
  by_cases hc : xs = dg LB (val xs)
  · rw [decide_eq_true hc] at p1
    have he : decide (xs = dg LB N) = (cmpN (val xs) N == 0) := by
      unfold cmpN
      by_cases e : val xs = N
      · rw [decide_eq_true (by rw [← e]; exact hc), e]; simp
      · rw [decide_eq_false fun e2 => e (by rw [e2]; exact val_dg N)]
        split
        · rfl
        · split
          · rfl
          · omega
    have HE := Lib.hid he
    clear he hc
    go_enter Try.func49, Try.ntmps49
    go_wp2_with fail
    refine p1.mono ?_
    rintro e w' ⟨rfl, rfl⟩
    clear p1
    go_wp2_with fail
    refine (of_r _ _ _ _ hn hL).mono ?_
    rintro e w1 ⟨v1, rfl, h1, hf⟩
    go_wp2_with fail
    refine (cmp_r _ _ _ _ _ _ _ h1 (hr.keep hf)).mono ?_
    rintro e w2 ⟨rfl, hf2⟩
    go_wp2_with fail
    go_ret
    exact ⟨congrArg (fun b : Bool => Ending.returned (.bool b)) HE.out.symm, fr_then hf (hf2.mono fun _ _ _ => trivial)⟩
  · rw [decide_eq_false hc] at p1
    have HE := Lib.hid (show decide (xs = dg LB N) = false from decide_eq_false fun e => hc (by rw [e, val_dg]))
    clear hc
    go_enter Try.func49, Try.ntmps49
    go_wp2_with fail
    refine p1.mono ?_
    rintro e w' ⟨rfl, rfl⟩
    clear p1
    go_wp2_with fail
    go_ret
    exact ⟨congrArg (fun b : Bool => Ending.returned (.bool b)) HE.out.symm, Fr.refl _ _⟩

/-- the same number, the same limbs -/
def Like (s : Bool) (xs ys : List Nat) (q : Rat) : Prop := s = sg q ∧ xs = dg LB q.num.natAbs ∧ ys = dg LB q.den
instance (s : Bool) (xs ys : List Nat) (q : Rat) : Decidable (Like s xs ys q) := by unfold Like; exact inferInstance

set_option maxHeartbeats 1000000 in
theorem ris_full {S T U : Nat → Prop} (w : World) (s t : Bool) (vn vd un ud : Value) (q : Rat) (xs ys : List Nat) (L K : Nat) (hq : RR S w vn vd q K) (hs : s = sg q) (hx : Sl Lm T w un xs) (hy : Sl Lm U w ud ys) (hxl : xs.length ≤ L) (hyl : ys.length ≤ L) (hL : L ≤ 1099511620) :
    Calls Try.prog 16 #[.agg #[.bool s, vn, vd], .agg #[.bool t, un, ud]] w fun e w' => e = .returned (.bool (decide (Like t xs ys q))) ∧ Fr (fun k => k < w.heap.size) w w' := by
  subst hs
  obtain ⟨⟨A1, n1, c1, rfl⟩, ⟨A2, n2, c2, rfl⟩⟩ := hq.form
  obtain ⟨A3, n3, c3, rfl⟩ := hx.form
  obtain ⟨A4, n4, c4, rfl⟩ := hy.form
  have F := ((Fr.refl (fun k => k < w.heap.size) w).alloc (.cells #[.bool (sg q), .slice A1 n1 c1, .slice A2 n2 c2] 34)).alloc (.cells #[.bool t, .slice A3 n3 c3, .slice A4 n4 c4] 25)
  have x1 := (Box3.new w 34 (.bool (sg q)) (.slice A1 n1 c1) (.slice A2 n2 c2)).alloc (.cells #[.bool t, .slice A3 n3 c3, .slice A4 n4 c4] 25)
  have x2 := Box3.new (w.alloc (.cells #[.bool (sg q), .slice A1 n1 c1, .slice A2 n2 c2] 34)) 25 (.bool t) (.slice A3 n3 c3) (.slice A4 n4 c4)
  simp only [World.size_alloc] at x2
  have hq0 := hq.keep F
  have p1 := is_full _ _ _ xs _ L K hq0.num (hx.keep' Lm_pos F) hxl hL
  have hy0 := hy.keep' Lm_pos F
  obtain ⟨r, hr⟩ : ∃ r, r = decide (Like t xs ys q) := ⟨_, rfl⟩
  rw [← hr]
  clear hq hx hy
  by_cases ht : t = sg q
  · have hb : (t == sg q) = true := beq_iff_eq.2 ht
    by_cases h1 : xs = dg LB q.num.natAbs
    · rw [decide_eq_true h1] at p1
      have HR := Lib.hid (show r = decide (ys = dg LB q.den) by rw [hr]; exact decide_eq_decide.2 ⟨fun h => h.2.2, fun h => ⟨ht, h1, h⟩⟩)
      clear hr h1 ht
      go_enter Try.func16, Try.ntmps16
      go_wp2_with fail
      refine p1.mono ?_
      rintro e w1 ⟨rfl, hf⟩
      have a2 := (x1.keep hf).c2
      have b2 := (x2.keep hf).c2
      clear p1
      go_wp2_with fail
      refine (is_full _ _ _ ys _ L K (hq0.den.keep hf) (hy0.keep' Lm_pos hf) hyl hL).mono ?_
      rintro e w2 ⟨rfl, hf2⟩
      go_wp2_with fail
      go_ret
      exact ⟨congrArg (fun b : Bool => Ending.returned (.bool b)) HR.out.symm, fr_then (fr_then F hf) hf2⟩
    · rw [decide_eq_false h1] at p1
      have HR := Lib.hid (show r = false by rw [hr]; exact decide_eq_false fun h => h1 h.2.1)
      clear hr h1 ht
      go_enter Try.func16, Try.ntmps16
      go_wp2_with fail
      refine p1.mono ?_
      rintro e w1 ⟨rfl, hf⟩
      clear p1
      go_wp2_with fail
      go_ret
      exact ⟨congrArg (fun b : Bool => Ending.returned (.bool b)) HR.out.symm, fr_then F hf⟩
  · have hb : (t == sg q) = false := beq_eq_false_iff_ne.2 ht
    have HR := Lib.hid (show r = false by rw [hr]; exact decide_eq_false fun h => ht h.1)
    clear hr ht p1
    go_enter Try.func16, Try.ntmps16
    go_wp2_with fail
    go_ret
    exact ⟨congrArg (fun b : Bool => Ending.returned (.bool b)) HR.out.symm, F⟩

theorem ris_yes {S T : Nat → Prop} (w : World) (s t : Bool) (vn vd un ud : Value) (q p : Rat) (L K : Nat) (hq : RR S w vn vd q K) (hs : s = sg q) (hp : RV T w un ud p L) (ht : t = sg p) (e : q = p) (hL : L ≤ 1099511620) :
    Calls Try.prog 16 #[.agg #[.bool s, vn, vd], .agg #[.bool t, un, ud]] w fun e w' => e = .returned (.bool true) ∧ Fr (fun k => k < w.heap.size) w w' := by
  subst e
  have h := ris_full w s t vn vd un ud q _ _ L K hq hs hp.num.sl hp.den.sl hp.num.len hp.den.len hL
  rwa [decide_eq_true (show Like t (dg LB q.num.natAbs) (dg LB q.den) q from ⟨ht, rfl, rfl⟩)] at h
end Go.Proofs.Ytodpbkcdcchljaa

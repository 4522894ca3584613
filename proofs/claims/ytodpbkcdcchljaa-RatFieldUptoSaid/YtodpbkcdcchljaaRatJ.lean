
/- The reference's rationals: Add, Sub, Div, Cmp. -/
import Derived.Test.YtodpbkcdcchljaaRatI
namespace Go.Proofs.Ytodpbkcdcchljaa
open Go.RowKit

set_option maxHeartbeats 4000000 in
theorem radd_q {S T : Nat → Prop} (w : World) (s t : Bool) (vn vd un ud : Value) (x y : Rat) (L : Nat) (hx : RR S w vn vd x L) (hy : RR T w un ud y L) (hs : s = sg x) (ht : t = sg y) (hL1 : 1 ≤ L) (hl : L ≤ 104857600) :
    Calls Try.prog 27 #[.agg #[.bool s, vn, vd], .agg #[.bool t, un, ud]] w fun e w' => ∃ v1 v2, e = .returned (.agg #[.bool (sg (x + y)), v1, v2]) ∧ RR (fun k => w.heap.size ≤ k) w' v1 v2 (x + y) (4 * L) ∧ Fr (fun k => k < w.heap.size) w w' := by
  subst hs ht
  obtain ⟨⟨A1, n1, c1, rfl⟩, ⟨A2, n2, c2, rfl⟩⟩ := hx.form
  obtain ⟨⟨A3, n3, c3, rfl⟩, ⟨A4, n4, c4, rfl⟩⟩ := hy.form
  have F := (((Fr.refl (fun k => k < w.heap.size) w).alloc (.cells #[.bool (sg x), .slice A1 n1 c1, .slice A2 n2 c2] 34)).alloc (.cells #[.bool (sg y), .slice A3 n3 c3, .slice A4 n4 c4] 34)).alloc (.cells #[.bool false, .slice none 0 0, .slice none 0 0] 34)
  have x1 := ((Box3.new w 34 (.bool (sg x)) (.slice A1 n1 c1) (.slice A2 n2 c2)).alloc (.cells #[.bool (sg y), .slice A3 n3 c3, .slice A4 n4 c4] 34)).alloc (.cells #[.bool false, .slice none 0 0, .slice none 0 0] 34)
  have x2 := (Box3.new (w.alloc (.cells #[.bool (sg x), .slice A1 n1 c1, .slice A2 n2 c2] 34)) 34 (.bool (sg y)) (.slice A3 n3 c3) (.slice A4 n4 c4)).alloc (.cells #[.bool false, .slice none 0 0, .slice none 0 0] 34)
  have hb := box_nr ((w.alloc (.cells #[.bool (sg x), .slice A1 n1 c1, .slice A2 n2 c2] 34)).alloc (.cells #[.bool (sg y), .slice A3 n3 c3, .slice A4 n4 c4] 34))
  simp only [World.size_alloc] at x2 hb
  have hx0 := hx.keep F
  have hy0 := hy.keep F
  have hxl := hx.low.fr F
  have hyl := hy.low.fr F
  generalize hW0 : ((w.alloc (.cells #[.bool (sg x), .slice A1 n1 c1, .slice A2 n2 c2] 34)).alloc (.cells #[.bool (sg y), .slice A3 n3 c3, .slice A4 n4 c4] 34)).alloc (.cells #[.bool false, .slice none 0 0, .slice none 0 0] 34) = W0 at F x1 x2 hb hx0 hy0 hxl hyl
  clear hx hy
  have dr : ∀ R, Fr R W0 W0.drew := fun R => (Fr.refl R W0).drew
  replace hx0 := hx0.keep (dr _)
  replace hy0 := hy0.keep (dr _)
  replace hxl := hxl.fr (dr _)
  replace hyl := hyl.fr (dr _)
  replace x1 := x1.keep (dr _)
  replace x2 := x2.keep (dr _)
  replace hb := hb.keep (dr _)
  replace F := F.drew
  have S0 : W0.drew.cell? ⟨w.heap.size, 0, none⟩ = some (.bool (sg x)) ∧ W0.drew.cell? ⟨w.heap.size, 1, none⟩ = some (.slice A1 n1 c1) ∧ W0.drew.cell? ⟨w.heap.size, 2, none⟩ = some (.slice A2 n2 c2) ∧ W0.drew.cell? ⟨w.heap.size + 1, 0, none⟩ = some (.bool (sg y)) ∧ W0.drew.cell? ⟨w.heap.size + 1, 1, none⟩ = some (.slice A3 n3 c3) ∧ W0.drew.cell? ⟨w.heap.size + 1, 2, none⟩ = some (.slice A4 n4 c4) := ⟨x1.c0, x1.c1, x1.c2, x2.c0, x2.c1, x2.c2⟩
  have hL3 : 1 ≤ 3 * L := by omega
  have hl3 : 3 * L ≤ 1048576000 := by omega
  have s0 := hb.lt
  clear dr hxl hyl
  go_enter Try.func27, Try.ntmps27
  go_wp2_with fail
  clear hW0
  go_region_held3 (fun u => u.cell? ⟨w.heap.size, 0, none⟩ = some (.bool (sg x)) ∧ u.cell? ⟨w.heap.size, 1, none⟩ = some (.slice A1 n1 c1) ∧ u.cell? ⟨w.heap.size, 2, none⟩ = some (.slice A2 n2 c2) ∧ u.cell? ⟨w.heap.size + 1, 0, none⟩ = some (.bool (sg y)) ∧ u.cell? ⟨w.heap.size + 1, 1, none⟩ = some (.slice A3 n3 c3) ∧ u.cell? ⟨w.heap.size + 1, 2, none⟩ = some (.slice A4 n4 c4)) (first | exact S0 | exact S1 | exact S2) (first
    | ((with_reducible refine (mul_r _ (.slice A1 n1 c1) (.slice A4 n4 c4) _ _ L L hx0.num hy0.den (by omega)).mono ?_); rintro e w1 ⟨v1, rfl, h1, hf1⟩; obtain ⟨B1, m1, k1, rfl⟩ := h1.form; have y1 := x1.keep hf1; have y2 := x2.keep hf1; have S1 : w1.cell? ⟨w.heap.size, 0, none⟩ = some (.bool (sg x)) ∧ w1.cell? ⟨w.heap.size, 1, none⟩ = some (.slice A1 n1 c1) ∧ w1.cell? ⟨w.heap.size, 2, none⟩ = some (.slice A2 n2 c2) ∧ w1.cell? ⟨w.heap.size + 1, 0, none⟩ = some (.bool (sg y)) ∧ w1.cell? ⟨w.heap.size + 1, 1, none⟩ = some (.slice A3 n3 c3) ∧ w1.cell? ⟨w.heap.size + 1, 2, none⟩ = some (.slice A4 n4 c4) := ⟨y1.c0, y1.c1, y1.c2, y2.c0, y2.c1, y2.c2⟩)
    | ((with_reducible refine (mul_r _ (.slice A3 n3 c3) (.slice A2 n2 c2) _ _ L L (hy0.num.keep hf1) (hx0.den.keep hf1) (by omega)).mono ?_); rintro e w2 ⟨v1, rfl, h2, hf2⟩; obtain ⟨B2, m2, k2, rfl⟩ := h2.form; have z1 := y1.keep hf2; have z2 := y2.keep hf2; have S2 : w2.cell? ⟨w.heap.size, 0, none⟩ = some (.bool (sg x)) ∧ w2.cell? ⟨w.heap.size, 1, none⟩ = some (.slice A1 n1 c1) ∧ w2.cell? ⟨w.heap.size, 2, none⟩ = some (.slice A2 n2 c2) ∧ w2.cell? ⟨w.heap.size + 1, 0, none⟩ = some (.bool (sg y)) ∧ w2.cell? ⟨w.heap.size + 1, 1, none⟩ = some (.slice A3 n3 c3) ∧ w2.cell? ⟨w.heap.size + 1, 2, none⟩ = some (.slice A4 n4 c4) := ⟨z1.c0, z1.c1, z1.c2, z2.c0, z2.c1, z2.c2⟩))
  have s1 := hf1.size
  have s2 := hf2.size
  have F2 := fr_then (fr_then F hf1) hf2
  replace hb := (hb.keep hf1).keep hf2
  replace hx0 := (hx0.keep hf1).keep hf2
  replace hy0 := (hy0.keep hf1).keep hf2
  have ha := h1.keep hf2
  have a2 := z1.c2
  have b2 := z2.c2
  clear S0 S1 S2 F hf1 hf2 h1 x1 x2 y1 y2
  go_wp2_with fail
  refine (mul_r _ _ _ _ _ L L hx0.den hy0.den (by omega)).mono ?_
  rintro e w3 ⟨v3, rfl, hd, hf⟩
  obtain ⟨B3, m3, k3, rfl⟩ := hd.form
  replace F2 := fr_then F2 hf
  replace hb := hb.keep hf
  replace z1 := z1.keep hf
  replace z2 := z2.keep hf
  replace ha := (ha.keep hf).wide (K := 3 * L) (by omega)
  replace h2 := (h2.keep hf).wide (K := 3 * L) (by omega)
  replace hd := hd.wide (K := 3 * L) (by omega)
  replace a2 := z1.c0
  replace b2 := z2.c0
  have s3 := hf.size
  clear hf hx0 hy0
  by_cases hsx : sg x = sg y
  · have HR := Lib.hid (rv_add_same hsx)
    have hsb : (sg x == sg y) = true := beq_iff_eq.2 hsx
    clear hsx
    have dr3 : ∀ R, Fr R w3 w3.drew := fun R => (Fr.refl R w3).drew
    replace ha := ha.keep (dr3 _)
    replace h2 := h2.keep (dr3 _)
    replace hd := hd.keep (dr3 _)
    replace z1 := z1.keep (dr3 _)
    replace hb := hb.keep (dr3 _)
    replace F2 := F2.drew
    have S7 := z1.c0
    have s4 := hb.lt
    clear z2
    go_wp2_with fail
    go_region_held3 (fun u => u.cell? ⟨w.heap.size, 0, none⟩ = some (.bool (sg x))) (first | exact S7 | exact S8 | exact S9 | exact S10) (first
      | ((with_reducible refine (add_r _ (.slice B1 m1 k1) (.slice B2 m2 k2) _ _ (3 * L) (3 * L) ha h2 (by omega) (by omega)).mono ?_); rintro e w4 ⟨v1, rfl, h4, hf4⟩; obtain ⟨C1, i1, j1, rfl⟩ := h4.form; have S8 := (z1.keep hf4).c0)
      | ((with_reducible refine (rmake_q _ (sg x) (.slice C1 i1 j1) (.slice B3 m3 k3) _ _ (3 * L + 1) (x + y) HR (h4.wide (show max (3 * L) (3 * L) + 1 ≤ 3 * L + 1 by simp)) ((hd.keep hf4).wide (by omega)) (by omega) (by omega)).mono ?_); rintro e w5 ⟨v1, v2, rfl, h5, hf5⟩; obtain ⟨⟨C2, i2, j2, rfl⟩, ⟨C3, i3, j3, rfl⟩⟩ := h5.form; have S9 := ((z1.keep hf4).keep hf5).c0; have hb5 := (hb.keep hf4).keep hf5; have F5 := fr_set3 w5 (w.heap.size + 1 + 1) (.bool (sg (x + y))) (.slice C2 i2 j2) (.slice C3 i3 j3); have S10 := (((z1.keep hf4).keep hf5).fr F5 (by omega)).c0; have d0 := hb5.c0; have d1 := hb5.c1; have d2 := hb5.c2; have f0 := hb5.free 0; have f1 := hb5.free 1; have f2 := hb5.free 2))
    have B5 := hb5.set3 (.bool (sg (x + y))) (.slice C2 i2 j2) (.slice C3 i3 j3)
    have s5 := hf4.size
    have F6 := fr_then (fr_then F2 hf4) hf5
    go_wp2_with fail
    refine bodyPost_ret (results_cell3 rfl rfl B5 Try.underlying34 ref3) rfl ?_
    exact ⟨_, _, rfl, (h5.out F5 (fun k hk => by omega) (by omega)).wide (by omega), F6.comp F5 fun k hk h => ⟨h, by omega⟩⟩
  · have hsb : (sg x == sg y) = false := beq_eq_false_iff_ne.2 hsx
    have s4 := hb.lt
    have p0 := cmp_r' _ _ _ _ _ _ _ ha h2
    by_cases hle : y.num.natAbs * x.den ≤ x.num.natAbs * y.den
    · have HR := Lib.hid (rv_add_ge hsx hle)
      clear hsx
      obtain ⟨c, hc, hc0⟩ : ∃ c, cmpN (x.num.natAbs * y.den) (y.num.natAbs * x.den) = c ∧ 0 ≤ c := ⟨_, rfl, by unfold cmpN; split <;> (try split) <;> omega⟩
      rw [hc] at p0
      clear hc
      have HL := Lib.hid hle
      clear hle
      go_wp2_with fail
      refine p0.mono ?_
      rintro e w4 ⟨rfl, hf⟩
      replace F2 := fr_then F2 hf
      replace hb := hb.keep hf
      replace z1 := z1.keep hf
      replace ha := ha.keep hf
      replace h2 := h2.keep hf
      replace hd := hd.keep hf
      replace a2 := z1.c0
      have s5 := hf.size
      clear p0 hf b2 z2
      go_wp2_with fail
      refine (sub_r _ _ _ _ _ _ _ ha h2 (by omega) HL.out).mono ?_
      rintro e w5 ⟨v5, rfl, h5, hf⟩
      obtain ⟨C1, i1, j1, rfl⟩ := h5.form
      replace F2 := fr_then F2 hf
      replace hb := hb.keep hf
      replace z1 := z1.keep hf
      replace hd := hd.keep hf
      replace a2 := z1.c0
      have s6 := hf.size
      clear hf ha h2
      go_wp2_with fail
      refine (rmake_q _ (sg x) _ _ _ _ (3 * L) (x + y) HR h5 hd hL3 hl3).mono ?_
      rintro e w6 ⟨v1, v2, rfl, h6, hf⟩
      obtain ⟨⟨C2, i2, j2, rfl⟩, ⟨C3, i3, j3, rfl⟩⟩ := h6.form
      replace F2 := fr_then F2 hf
      replace hb := hb.keep hf
      clear hf h5 hd
      go_wp2_with ((with_reducible apply wpList_st3); rfl; rfl; exact hb; exact ref3; rfl; rfl; rfl; intro w9 B9 F9)
      refine bodyPost_ret (results_cell3 rfl rfl B9 Try.underlying34 ref3) rfl ?_
      exact ⟨_, _, rfl, (h6.out F9 (fun k hk => by omega) (by omega)).wide (by omega), F2.comp F9 fun k hk h => ⟨h, by omega⟩⟩
    · have HR := Lib.hid (rv_add_lt hsx (by omega))
      clear hsx
      have hc : cmpN (x.num.natAbs * y.den) (y.num.natAbs * x.den) = -1 := by unfold cmpN; rw [if_pos (by omega)]
      rw [hc] at p0
      clear hc
      have HL := Lib.hid (show x.num.natAbs * y.den ≤ y.num.natAbs * x.den by omega)
      clear hle
      go_wp2_with fail
      refine p0.mono ?_
      rintro e w4 ⟨rfl, hf⟩
      replace F2 := fr_then F2 hf
      replace hb := hb.keep hf
      replace z2 := z2.keep hf
      replace ha := ha.keep hf
      replace h2 := h2.keep hf
      replace hd := hd.keep hf
      have s5 := hf.size
      clear p0 hf a2 b2 z1
      go_wp2_with fail
      refine (sub_r _ _ _ _ _ _ _ h2 ha (by omega) HL.out).mono ?_
      rintro e w5 ⟨v5, rfl, h5, hf⟩
      obtain ⟨C1, i1, j1, rfl⟩ := h5.form
      replace F2 := fr_then F2 hf
      replace hb := hb.keep hf
      replace z2 := z2.keep hf
      replace hd := hd.keep hf
      have b3 := z2.c0
      have s6 := hf.size
      clear hf ha h2
      go_wp2_with fail
      refine (rmake_q _ (sg y) _ _ _ _ (3 * L) (x + y) HR h5 hd hL3 hl3).mono ?_
      rintro e w6 ⟨v1, v2, rfl, h6, hf⟩
      obtain ⟨⟨C2, i2, j2, rfl⟩, ⟨C3, i3, j3, rfl⟩⟩ := h6.form
      replace F2 := fr_then F2 hf
      replace hb := hb.keep hf
      clear hf h5 hd
      go_wp2_with ((with_reducible apply wpList_st3); rfl; rfl; exact hb; exact ref3; rfl; rfl; rfl; intro w9 B9 F9)
      refine bodyPost_ret (results_cell3 rfl rfl B9 Try.underlying34 ref3) rfl ?_
      exact ⟨_, _, rfl, (h6.out F9 (fun k hk => by omega) (by omega)).wide (by omega), F2.comp F9 fun k hk h => ⟨h, by omega⟩⟩
end Go.Proofs.Ytodpbkcdcchljaa


/- rat.sum, Add, Sub. -/
import Derived.Test.YtodpbkcdcchljaaRatC
namespace Go.Proofs.Ytodpbkcdcchljaa
open Go.RowKit

set_option maxHeartbeats 4000000 in
theorem sum_n {S T : Nat → Prop} (w : World) (b : Bool) (s t : Bool) (vn vd un ud : Value) (x y z : Rat) (N D M E L : Nat) (hz : Hid ((if b then -y else y) = z)) (hx : RI S w s vn vd x N D L) (hy : RI T w t un ud y M E L) (hL1 : 1 ≤ L) (hl : L ≤ 104857600) :
    Calls Try.prog 65 #[.agg #[.bool s, vn, vd], .agg #[.bool t, un, ud], .func (.func 66) #[.agg #[.bool b]] #[]] w fun e w' => ∃ v1 v2, e = .returned (.agg #[.bool (sg (x + z)), v1, v2]) ∧ RV (fun k => w.heap.size ≤ k) w' v1 v2 (x + z) (5 * L) ∧ Fr (fun k => k < w.heap.size) w w' := by
  obtain ⟨⟨A1, n1, c1, rfl⟩, ⟨A2, n2, c2, rfl⟩⟩ := hx.form
  obtain ⟨⟨A3, n3, c3, rfl⟩, ⟨A4, n4, c4, rfl⟩⟩ := hy.form
  have F := (((Fr.refl (fun k => k < w.heap.size) w).alloc (.cells #[.bool s, .slice A1 n1 c1, .slice A2 n2 c2] 25)).alloc (.cells #[.bool t, .slice A3 n3 c3, .slice A4 n4 c4] 25)).alloc (.cells #[.bool false, .slice none 0 0, .slice none 0 0] 25)
  have b1 := ((Box3.new w 25 (.bool s) (.slice A1 n1 c1) (.slice A2 n2 c2)).alloc (.cells #[.bool t, .slice A3 n3 c3, .slice A4 n4 c4] 25)).alloc (.cells #[.bool false, .slice none 0 0, .slice none 0 0] 25)
  have b2 := (Box3.new (w.alloc (.cells #[.bool s, .slice A1 n1 c1, .slice A2 n2 c2] 25)) 25 (.bool t) (.slice A3 n3 c3) (.slice A4 n4 c4)).alloc (.cells #[.bool false, .slice none 0 0, .slice none 0 0] 25)
  have b3 := box_nz ((w.alloc (.cells #[.bool s, .slice A1 n1 c1, .slice A2 n2 c2] 25)).alloc (.cells #[.bool t, .slice A3 n3 c3, .slice A4 n4 c4] 25))
  simp only [World.size_alloc] at b1 b2 b3
  generalize hW0 : (((w.alloc (.cells #[.bool s, .slice A1 n1 c1, .slice A2 n2 c2] 25)).alloc (.cells #[.bool t, .slice A3 n3 c3, .slice A4 n4 c4] 25)).alloc (.cells #[.bool false, .slice none 0 0, .slice none 0 0] 25)) = W0 at F b1 b2 b3
  have FD := F.drew
  have dr : ∀ R, Fr R W0 W0.drew := fun R => (Fr.refl R W0).drew
  have hxD := (hx.keep F).keep (dr _)
  have hyD := (hy.keep F).keep (dr _)
  have x1 := b1.keep (dr _)
  have x2 := b2.keep (dr _)
  have x3 := b3.keep (dr _)
  have p0 := x1.c0; have p1 := x1.c1; have p2 := x1.c2
  have q0 := x2.c0; have q1 := x2.c1; have q2 := x2.c2
  have hl1 : L ≤ 1048576000 := by omega
  clear hx hy b1 b2 b3 F
  go_enter Try.func65, Try.ntmps65
  go_wp2_with fail
  clear hW0
  go_region_with (first
    | ((with_reducible refine (norm_n _ s (.slice A1 n1 c1) (.slice A2 n2 c2) x N D L hxD hL1 hl1).mono ?_); rintro e w1 ⟨v1, v2, rfl, h1, hf1⟩; obtain ⟨⟨B1, m1, k1, rfl⟩, ⟨B2, m2, k2, rfl⟩⟩ := h1.form; have y1 := x1.keep hf1; have y2 := x2.keep hf1; have r0 := y2.c0; have r1 := y2.c1; have r2 := y2.c2)
    | ((with_reducible refine (norm_n _ t (.slice A3 n3 c3) (.slice A4 n4 c4) y M E L (hyD.keep hf1) hL1 hl1).mono ?_); rintro e w2 ⟨v1, v2, rfl, h2, hf2⟩; obtain ⟨⟨B3, m3, k3, rfl⟩, ⟨B4, m4, k4, rfl⟩⟩ := h2.form)
    | ((with_reducible refine (take_z _ b (sg y) (.slice B3 m3 k3) (.slice B4 m4 k4) y z L hz h2 rfl hL1 hl1).mono ?_); rintro e w3 ⟨v1, v2, rfl, h3, hf3⟩; obtain ⟨⟨B5, m5, k5, rfl⟩, ⟨B6, m6, k6, rfl⟩⟩ := h3.form; have z1 := (y1.keep hf2).keep hf3; have z2 := (y2.keep hf2).keep hf3; have u0 := z1.c0; have u1 := z1.c1; have u2 := z1.c2; have g0 := z1.free 0; have g1 := z1.free 1; have g2 := z1.free 2; have e0 := z2.c0; have e1 := z2.c1; have e2 := z2.c2; have i0 := z2.free 0; have i1 := z2.free 1; have i2 := z2.free 2))
  all_goals
    have Za := z1.set3 (.bool (sg x)) (.slice B1 m1 k1) (.slice B2 m2 k2)
    have Ga := fr_set3 w3 w.heap.size (.bool (sg x)) (.slice B1 m1 k1) (.slice B2 m2 k2)
    have Zb := (z2.fr Ga (by omega)).set3 (.bool (sg z)) (.slice B5 m5 k5) (.slice B6 m6 k6)
    have Gb := fr_set3 (((w3.setCell ⟨w.heap.size, 0, none⟩ (.bool (sg x))).setCell ⟨w.heap.size, 1, none⟩ (.slice B1 m1 k1)).setCell ⟨w.heap.size, 2, none⟩ (.slice B2 m2 k2)) (w.heap.size + 1) (.bool (sg z)) (.slice B5 m5 k5) (.slice B6 m6 k6)
    have Zc := Za.fr Gb (by omega)
    have G4 := Ga.comp Gb (R := fun k => k ≠ w.heap.size ∧ k ≠ w.heap.size + 1) fun k _ hk => hk
    have s1 := x3.lt
    have s2 := hf1.size
    have s3 := hf2.size
    have Zd := (((x3.keep hf1).keep hf2).keep hf3).fr G4 (by omega)
    have F4 := (fr_then (fr_then (fr_then FD hf1) hf2) hf3).comp G4 fun k hk h => ⟨h, by omega⟩
    have hX := ((h1.keep hf2).keep hf3).out (b := w.heap.size + 1 + 1 + 1) G4 (fun k hk => by omega) (by omega)
    have hZ := (h3.mono (T := fun k => w.heap.size + 1 + 1 + 1 ≤ k) (fun k hk => by omega)).out G4 (fun k hk => by omega) (Nat.le_refl _)
    generalize hw4 : World.setCell _ ⟨w.heap.size + 1, 2, none⟩ _ = w4 at Zb Zc Zd F4 hX hZ ⊢
    clear hw4 Za Ga Gb G4 s1 s2 s3 x1 x2 x3 y1 y2 z1 z2 h1 h2 h3 hf1 hf2 hf3 hxD hyD FD dr p0 p1 p2 q0 q1 q2 r0 r1 r2 u0 u1 u2 g0 g1 g2 e0 e1 e2 i0 i1 i2
    have drw : ∀ R, Fr R w4 w4.drew := fun R => (Fr.refl R w4).drew
    replace Zb := Zb.keep (drw _)
    replace Zc := Zc.keep (drw _)
    replace Zd := Zd.keep (drw _)
    replace F4 := F4.drew
    have hXd := hX.keep (drw _)
    have hZd := hZ.keep (drw _)
    clear hX hZ
    go_wp2_with fail
    have S4 : w4.drew.cell? ⟨w.heap.size, 1, none⟩ = some (.slice B1 m1 k1) ∧ w4.drew.cell? ⟨w.heap.size, 2, none⟩ = some (.slice B2 m2 k2) ∧ w4.drew.cell? ⟨w.heap.size + 1, 1, none⟩ = some (.slice B5 m5 k5) ∧ w4.drew.cell? ⟨w.heap.size + 1, 2, none⟩ = some (.slice B6 m6 k6) := ⟨Zc.c1, Zc.c2, Zb.c1, Zb.c2⟩
    go_region_held3 (fun u => u.cell? ⟨w.heap.size, 1, none⟩ = some (.slice B1 m1 k1) ∧ u.cell? ⟨w.heap.size, 2, none⟩ = some (.slice B2 m2 k2) ∧ u.cell? ⟨w.heap.size + 1, 1, none⟩ = some (.slice B5 m5 k5) ∧ u.cell? ⟨w.heap.size + 1, 2, none⟩ = some (.slice B6 m6 k6)) (first | exact S4 | exact S5 | exact S6) (first
      | ((with_reducible refine (mul_n _ (.slice B1 m1 k1) (.slice B6 m6 k6) _ _ L L hXd.num.num hZd.den.num (by omega)).mono ?_); rintro e w5 ⟨v1, rfl, h5, hf5⟩; obtain ⟨B7, m7, k7, rfl⟩ := h5.form; have S5 := (show w5.cell? ⟨w.heap.size, 1, none⟩ = some (.slice B1 m1 k1) ∧ w5.cell? ⟨w.heap.size, 2, none⟩ = some (.slice B2 m2 k2) ∧ w5.cell? ⟨w.heap.size + 1, 1, none⟩ = some (.slice B5 m5 k5) ∧ w5.cell? ⟨w.heap.size + 1, 2, none⟩ = some (.slice B6 m6 k6) from ⟨(Zc.keep hf5).c1, (Zc.keep hf5).c2, (Zb.keep hf5).c1, (Zb.keep hf5).c2⟩))
      | ((with_reducible refine (mul_n _ (.slice B5 m5 k5) (.slice B2 m2 k2) _ _ L L (hZd.num.keep hf5).num (hXd.den.keep hf5).num (by omega)).mono ?_); rintro e w6 ⟨v1, rfl, h6, hf6⟩; obtain ⟨B8, m8, k8, rfl⟩ := h6.form; have Zb6 := (Zb.keep hf5).keep hf6; have Zc6 := (Zc.keep hf5).keep hf6; have S6 := (show w6.cell? ⟨w.heap.size, 1, none⟩ = some (.slice B1 m1 k1) ∧ w6.cell? ⟨w.heap.size, 2, none⟩ = some (.slice B2 m2 k2) ∧ w6.cell? ⟨w.heap.size + 1, 1, none⟩ = some (.slice B5 m5 k5) ∧ w6.cell? ⟨w.heap.size + 1, 2, none⟩ = some (.slice B6 m6 k6) from ⟨Zc6.c1, Zc6.c2, Zb6.c1, Zb6.c2⟩)))
    have s4 := Zd.lt
    have s5 := hf5.size
    have s6 := hf6.size
    have Zd6 := (Zd.keep hf5).keep hf6
    have F6 := fr_then (fr_then F4 hf5) hf6
    have hX6 := (hXd.keep hf5).keep hf6
    have hZ6 := (hZd.keep hf5).keep hf6
    have h56 := h5.keep hf6
    have b0 := Zc6.c0
    have b1 := Zb6.c0
    clear S4 S5 S6 Zb Zc Zd F4 hXd hZd h5 hf5 hf6 drw
    go_wp2_with fail
    refine (mul_n _ _ _ _ _ L L hX6.den.num hZ6.den.num (by omega)).mono ?_
    rintro e w7 ⟨v7, rfl, h7, hf7⟩
    obtain ⟨B9, m9, k9, rfl⟩ := h7.form
    have s7 := hf7.size
    have Ga := (Fr.refl (fun k => k < w7.heap.size) w7).alloc (.cells #[.slice B9 m9 k9] 23)
    have hbx := Box.new w7 23 (.slice B9 m9 k9)
    have G7 := fr_then (hf7.mono (T := fun k => k < w6.heap.size) fun _ _ h => h) Ga
    have Zb7 := Zb6.keep G7
    have Zc7 := Zc6.keep G7
    have Zd7 := Zd6.keep G7
    have F7 := fr_then F6 G7
    have hA := h56.keep G7
    have hB := h6.keep G7
    have hD := h7.keep Ga
    have hDpos : 0 < x.den * z.den := Nat.mul_pos x.den_pos z.den_pos
    replace b0 := Zc7.c0
    replace b1 := Zb7.c0
    clear Zb6 Zc6 Zd6 F6 hX6 hZ6 h56 h6 h7 G7 Ga hf7
    generalize hW7 : w7.alloc _ = W7 at *
    have z1 := Zc7.lt
    have hA' := hA.num.wide (K := 5 * L) (by omega)
    have hB' := hB.num.wide (K := 5 * L) (by omega)
    have hD' := hD.num.wide (K := 5 * L) (by omega)
    have hL5 : 1 ≤ 5 * L := by omega
    have hl5 : 5 * L ≤ 1048576000 := by omega
    have zd := Zd7.lt
    by_cases hsx : sg x = sg z
    · have HR := Lib.hid (rv_add_same hsx)
      have hsb : (sg x == sg z) = true := beq_iff_eq.2 hsx
      clear hsx
      have dr7 : ∀ R, Fr R W7 W7.drew := fun R => (Fr.refl R W7).drew
      replace hA := hA.keep (dr7 _)
      replace hB := hB.keep (dr7 _)
      replace hD := hD'.keep (dr7 _)
      have hbx' := hbx.fr (dr7 (fun _ => True)) trivial
      have Zc8 := Zc7.keep (dr7 _)
      have Zd8 := Zd7.keep (dr7 _)
      have hxl : w7.heap.size < W7.drew.heap.size := hbx'.lt
      have S7 := Zc8.c0
      replace F7 := F7.drew
      go_wp2_with fail
      go_region_held3 (fun u => u.cell? ⟨w.heap.size, 0, none⟩ = some (.bool (sg x))) (first | exact S7 | exact S8 | exact S9 | exact S10) (first
        | ((with_reducible refine (add_n _ (.slice B7 m7 k7) (.slice B8 m8 k8) _ _ (L + L) (L + L) hA.num hB.num (by omega) (by omega)).mono ?_); rintro e w8 ⟨v1, rfl, h8, hf8⟩; obtain ⟨C1, i1, j1, rfl⟩ := h8.form; have S8 := (Zc8.keep hf8).c0)
        | ((with_reducible refine (made_q _ (sg x) (.slice C1 i1 j1) (.slice B9 m9 k9) w7.heap.size _ _ (5 * L) (x + z) HR (h8.num.wide (by omega)) (hD.keep hf8) (hbx'.fr hf8 hxl) hDpos hL5 hl5).mono ?_); rintro e w9 ⟨v1, v2, rfl, h9, hf9⟩; obtain ⟨⟨C2, i2, j2, rfl⟩, ⟨C3, i3, j3, rfl⟩⟩ := h9.form; have S9 := ((Zc8.keep hf8).keep hf9).c0; have Zd9 := (Zd8.keep hf8).keep hf9; have S10 := (((Zc8.keep hf8).keep hf9).fr (fr_set3 w9 (w.heap.size + 1 + 1) (.bool (sg (x + z))) (.slice C2 i2 j2) (.slice C3 i3 j3)) (by omega)).c0; have d0 := Zd9.c0; have d1 := Zd9.c1; have d2 := Zd9.c2; have f0 := Zd9.free 0; have f1 := Zd9.free 1; have f2 := Zd9.free 2))
      have B10 := Zd9.set3 (.bool (sg (x + z))) (.slice C2 i2 j2) (.slice C3 i3 j3)
      have F10 := fr_set3 w9 (w.heap.size + 1 + 1) (.bool (sg (x + z))) (.slice C2 i2 j2) (.slice C3 i3 j3)
      have s8 := hf8.size
      replace F7 := fr_then (fr_then F7 hf8) hf9
      go_wp2_with fail
      refine bodyPost_ret (results_cell3 rfl rfl B10 Try.underlying25 rat3) rfl ?_
      exact ⟨_, _, rfl, h9.out F10 (fun k hk => by omega) (by omega), F7.comp F10 fun k hk h => ⟨h, by omega⟩⟩
    · have hsb : (sg x == sg z) = false := beq_eq_false_iff_ne.2 hsx
      by_cases hle : z.num.natAbs * x.den ≤ x.num.natAbs * z.den
      · have HR := Lib.hid (rv_add_ge hsx hle)
        clear hsx
        have p1 := sub_n _ _ _ _ _ _ _ hA.num hB.num (by omega) hle
        clear hle
        go_wp2_with fail
        refine p1.mono ?_
        rintro e w8 ⟨v1, rfl, h8, hf8⟩
        obtain ⟨C1, i1, j1, rfl⟩ := h8.form
        replace b0 := (Zc7.keep hf8).c0
        have Zd8 := Zd7.keep hf8
        clear p1
        go_wp2_with fail
        refine (made_q _ (sg x) (.slice C1 i1 j1) (.slice B9 m9 k9) w7.heap.size _ _ (5 * L) (x + z) HR (h8.num.wide (by omega)) (hD'.keep hf8) (hbx.fr hf8 hbx.lt) hDpos hL5 hl5).mono ?_
        rintro e w9 ⟨v1, v2, rfl, h9, hf9⟩
        obtain ⟨⟨C2, i2, j2, rfl⟩, ⟨C3, i3, j3, rfl⟩⟩ := h9.form
        have Zd9 := Zd8.keep hf9
        have s8 := hf8.size
        replace F7 := fr_then (fr_then F7 hf8) hf9
        go_wp2_with ((with_reducible apply wpList_st3); rfl; rfl; exact Zd9; exact rat3; rfl; rfl; rfl; intro w10 B10 F10)
        refine bodyPost_ret (results_cell3 rfl rfl B10 Try.underlying25 rat3) rfl ?_
        exact ⟨_, _, rfl, h9.out F10 (fun k hk => by omega) (by omega), F7.comp F10 fun k hk h => ⟨h, by omega⟩⟩
      · have HR := Lib.hid (rv_add_lt hsx (by omega))
        clear hsx
        have p1 := sub_no _ _ _ _ _ _ _ hA.num hB.num (by omega) (by omega)
        have hle' : x.num.natAbs * z.den ≤ z.num.natAbs * x.den := by omega
        clear hle
        go_wp2_with fail
        refine p1.mono ?_
        rintro e w8 ⟨rfl, hf8⟩
        have hA8 := hA.keep hf8
        have hB8 := hB.keep hf8
        have p2 := sub_n _ _ _ _ _ _ _ hB8.num hA8.num (by omega) hle'
        clear p1 hle'
        go_wp2_with fail
        refine p2.mono ?_
        rintro e w9 ⟨v1, rfl, h8, hf9⟩
        obtain ⟨C1, i1, j1, rfl⟩ := h8.form
        have b9 := ((Zb7.keep hf8).keep hf9).c0
        have Zd8 := (Zd7.keep hf8).keep hf9
        clear p2
        go_wp2_with fail
        refine (made_q _ (sg z) (.slice C1 i1 j1) (.slice B9 m9 k9) w7.heap.size _ _ (5 * L) (x + z) HR (h8.num.wide (by omega)) ((hD'.keep hf8).keep hf9) ((hbx.fr hf8 hbx.lt).fr hf9 (hbx.fr hf8 hbx.lt).lt) hDpos hL5 hl5).mono ?_
        rintro e w10 ⟨v1, v2, rfl, h9, hf10⟩
        obtain ⟨⟨C2, i2, j2, rfl⟩, ⟨C3, i3, j3, rfl⟩⟩ := h9.form
        have Zd9 := Zd8.keep hf10
        have s8 := hf8.size
        have s9 := hf9.size
        replace F7 := fr_then (fr_then (fr_then F7 hf8) hf9) hf10
        go_wp2_with ((with_reducible apply wpList_st3); rfl; rfl; exact Zd9; exact rat3; rfl; rfl; rfl; intro w11 B11 F11)
        refine bodyPost_ret (results_cell3 rfl rfl B11 Try.underlying25 rat3) rfl ?_
        exact ⟨_, _, rfl, h9.out F11 (fun k hk => by omega) (by omega), F7.comp F11 fun k hk h => ⟨h, by omega⟩⟩
end Go.Proofs.Ytodpbkcdcchljaa


/- rat.Same. -/
import Derived.Test.YtodpbkcdcchljaaRatO
namespace Go.Proofs.Ytodpbkcdcchljaa
open Go.RowKit

theorem rat_same {x y : Rat} (h1 : sg x = sg y) (h2 : dg LB x.num.natAbs = dg LB y.num.natAbs) (h3 : dg LB x.den = dg LB y.den) : x = y := by
  have e2 : x.num.natAbs = y.num.natAbs := by have := congrArg val h2; rwa [val_dg, val_dg] at this
  have e3 : x.den = y.den := by have := congrArg val h3; rwa [val_dg, val_dg] at this
  rw [← rv_self x, ← rv_self y, h1, e2, e3]
theorem limbs_z {S T : Nat → Prop} (w : World) (va vb : Value) (xs ys : List Nat) (b : Bool) (hb : Hid (decide (xs = ys) = b)) (h1 : Sl Lm S w va xs) (h2 : Sl Lm T w vb ys) :
    Calls Try.prog 48 #[va, vb] w fun e w' => e = .returned (.bool b) ∧ Fr (fun k => k < w.heap.size) w w' := by
  have := limbs_calls w va vb xs ys h1 h2
  rwa [hb.out] at this

set_option maxHeartbeats 4000000 in
theorem rsame_z {S T : Nat → Prop} (w : World) (s t : Bool) (vn vd un ud : Value) (x y : Rat) (N D M E L : Nat) (b : Bool) (hb : Hid (decide (x = y) = b)) (hx : RI S w s vn vd x N D L) (hy : RI T w t un ud y M E L) (hL1 : 1 ≤ L) (hl : L ≤ 104857600) :
    Calls Try.prog 41 #[.agg #[.bool s, vn, vd], .agg #[.bool t, un, ud]] w fun e w' => e = .returned (.bool b) ∧ Fr (fun k => k < w.heap.size) w w' := by
  obtain ⟨⟨A1, n1, c1, rfl⟩, ⟨A2, n2, c2, rfl⟩⟩ := hx.form
  obtain ⟨⟨A3, n3, c3, rfl⟩, ⟨A4, n4, c4, rfl⟩⟩ := hy.form
  have F := ((Fr.refl (fun k => k < w.heap.size) w).alloc (.cells #[.bool s, .slice A1 n1 c1, .slice A2 n2 c2] 25)).alloc (.cells #[.bool t, .slice A3 n3 c3, .slice A4 n4 c4] 25)
  have b1 := (Box3.new w 25 (.bool s) (.slice A1 n1 c1) (.slice A2 n2 c2)).alloc (.cells #[.bool t, .slice A3 n3 c3, .slice A4 n4 c4] 25)
  have b2 := Box3.new (w.alloc (.cells #[.bool s, .slice A1 n1 c1, .slice A2 n2 c2] 25)) 25 (.bool t) (.slice A3 n3 c3) (.slice A4 n4 c4)
  simp only [World.size_alloc] at b2
  generalize hW0 : ((w.alloc (.cells #[.bool s, .slice A1 n1 c1, .slice A2 n2 c2] 25)).alloc (.cells #[.bool t, .slice A3 n3 c3, .slice A4 n4 c4] 25)) = W0 at F b1 b2
  have FD := F.drew
  have dr : ∀ R, Fr R W0 W0.drew := fun R => (Fr.refl R W0).drew
  have hxD := (hx.keep F).keep (dr _)
  have hyD := (hy.keep F).keep (dr _)
  have x1 := b1.keep (dr _)
  have x2 := b2.keep (dr _)
  have p0 := x1.c0; have p1 := x1.c1; have p2 := x1.c2
  have q0 := x2.c0; have q1 := x2.c1; have q2 := x2.c2
  have hl1 : L ≤ 1048576000 := by omega
  clear hx hy b1 b2 F
  go_enter Try.func41, Try.ntmps41
  go_wp2_with fail
  clear hW0
  go_region_with (first
    | ((with_reducible refine (norm_n _ s (.slice A1 n1 c1) (.slice A2 n2 c2) x N D L hxD hL1 hl1).mono ?_); rintro e w1 ⟨v1, v2, rfl, h1, hf1⟩; obtain ⟨⟨B1, m1, k1, rfl⟩, ⟨B2, m2, k2, rfl⟩⟩ := h1.form; have y1 := x1.keep hf1; have y2 := x2.keep hf1; have r0 := y2.c0; have r1 := y2.c1; have r2 := y2.c2)
    | ((with_reducible refine (norm_n _ t (.slice A3 n3 c3) (.slice A4 n4 c4) y M E L (hyD.keep hf1) hL1 hl1).mono ?_); rintro e w2 ⟨v1, v2, rfl, h2, hf2⟩; obtain ⟨⟨B3, m3, k3, rfl⟩, ⟨B4, m4, k4, rfl⟩⟩ := h2.form; have z1 := y1.keep hf2; have z2 := y2.keep hf2; have u0 := z1.c0; have u1 := z1.c1; have u2 := z1.c2; have g0 := z1.free 0; have g1 := z1.free 1; have g2 := z1.free 2; have e0 := z2.c0; have e1 := z2.c1; have e2 := z2.c2; have i0 := z2.free 0; have i1 := z2.free 1; have i2 := z2.free 2))
  all_goals
    have Za := z1.set3 (.bool (sg x)) (.slice B1 m1 k1) (.slice B2 m2 k2)
    have Ga := fr_set3 w2 w.heap.size (.bool (sg x)) (.slice B1 m1 k1) (.slice B2 m2 k2)
    have Zb := (z2.fr Ga (by omega)).set3 (.bool (sg y)) (.slice B3 m3 k3) (.slice B4 m4 k4)
    have Gb := fr_set3 (((w2.setCell ⟨w.heap.size, 0, none⟩ (.bool (sg x))).setCell ⟨w.heap.size, 1, none⟩ (.slice B1 m1 k1)).setCell ⟨w.heap.size, 2, none⟩ (.slice B2 m2 k2)) (w.heap.size + 1) (.bool (sg y)) (.slice B3 m3 k3) (.slice B4 m4 k4)
    have Zc := Za.fr Gb (by omega)
    have G4 := Ga.comp Gb (R := fun k => k ≠ w.heap.size ∧ k ≠ w.heap.size + 1) fun k _ hk => hk
    have s1 := x2.lt
    have s2 := hf1.size
    have F4 := (fr_then (fr_then FD hf1) hf2).comp G4 fun k hk h => ⟨h, by omega⟩
    have hX := (h1.keep hf2).out (b := w.heap.size + 1 + 1) G4 (fun k hk => by omega) (by omega)
    have hZ := h2.out (b := w.heap.size + 1 + 1) G4 (fun k hk => by omega) (by omega)
    generalize hw4 : World.setCell _ ⟨w.heap.size + 1, 2, none⟩ _ = w4 at Zb Zc F4 hX hZ ⊢
    clear hw4 Za Ga Gb G4 s1 s2 x1 x2 y1 y2 z1 z2 h1 h2 hf1 hf2 hxD hyD FD dr p0 p1 p2 q0 q1 q2 r0 r1 r2 u0 u1 u2 g0 g1 g2 e0 e1 e2 i0 i1 i2
    have c0 := Zc.c0; have c1 := Zc.c1; have c2 := Zc.c2
    have d0 := Zb.c0; have d1 := Zb.c1; have d2 := Zb.c2
    by_cases hs : sg x = sg y
    · have hsb : (sg x == sg y) = true := beq_iff_eq.2 hs
      by_cases hn : dg LB x.num.natAbs = dg LB y.num.natAbs
      · have N1 := Lib.hid (show decide (dg LB x.num.natAbs = dg LB y.num.natAbs) = true from decide_eq_true hn)
        have N2 := Lib.hid (show decide (dg LB x.den = dg LB y.den) = b by
          rw [← hb.out]
          by_cases hd : dg LB x.den = dg LB y.den
          · rw [decide_eq_true hd, decide_eq_true (rat_same hs hn hd)]
          · rw [decide_eq_false hd, decide_eq_false fun e => hd (by rw [e])])
        clear hs hn hb
        go_wp2_with fail
        refine (limbs_z _ _ _ _ _ true N1 hX.num.sl hZ.num.sl).mono ?_
        rintro e w5 ⟨rfl, hf⟩
        replace c2 := (Zc.keep hf).c2
        replace d2 := (Zb.keep hf).c2
        replace F4 := fr_then F4 hf
        replace hX := hX.keep hf
        replace hZ := hZ.keep hf
        clear hf
        go_wp2_with fail
        refine (limbs_z _ _ _ _ _ b N2 hX.den.sl hZ.den.sl).mono ?_
        rintro e w6 ⟨rfl, hf⟩
        go_wp2_with fail
        go_ret
        exact ⟨rfl, fr_then F4 hf⟩
      · have N1 := Lib.hid (show decide (dg LB x.num.natAbs = dg LB y.num.natAbs) = false from decide_eq_false hn)
        have hbf : b = false := by rw [← hb.out]; exact decide_eq_false fun e => hn (by rw [e])
        clear hs hn hb
        subst hbf
        go_wp2_with fail
        refine (limbs_z _ _ _ _ _ false N1 hX.num.sl hZ.num.sl).mono ?_
        rintro e w5 ⟨rfl, hf⟩
        go_wp2_with fail
        go_ret
        exact ⟨rfl, fr_then F4 hf⟩
    · have hsb : (sg x == sg y) = false := beq_eq_false_iff_ne.2 hs
      have hbf : b = false := by rw [← hb.out]; exact decide_eq_false fun e => hs (by rw [e])
      clear hs hb
      subst hbf
      go_wp2_with fail
      go_ret
      exact ⟨rfl, F4⟩
end Go.Proofs.Ytodpbkcdcchljaa


/- RatMay, RatGoes. -/
import Derived.Test.YtodpbkcdcchljaaRatM
namespace Go.Proofs.Ytodpbkcdcchljaa
open Go.RowKit

/-- A rational as it comes: a sign's bool and two lists of limbs. -/
def RL (S : Nat → Prop) (w : World) (v : Value) (s : Bool) (xs ys : List Nat) (L : Nat) : Prop := ∃ vn vd, v = .agg #[.bool s, vn, vd] ∧ Sl Lm S w vn xs ∧ Sl Lm S w vd ys ∧ xs.length ≤ L ∧ ys.length ≤ L
theorem RL.open {S : Nat → Prop} {w : World} {v : Value} {s : Bool} {xs ys : List Nat} {L : Nat} (h : RL S w v s xs ys L) : ∃ A1 n1 c1 A2 n2 c2, v = .agg #[.bool s, .slice A1 n1 c1, .slice A2 n2 c2] ∧ Sl Lm S w (.slice A1 n1 c1) xs ∧ Sl Lm S w (.slice A2 n2 c2) ys ∧ xs.length ≤ L + 1 ∧ ys.length ≤ L + 1 := by
  obtain ⟨vn, vd, rfl, h1, h2, h3, h4⟩ := h
  obtain ⟨A1, n1, c1, rfl⟩ := h1.form
  obtain ⟨A2, n2, c2, rfl⟩ := h2.form
  exact ⟨_, _, _, _, _, _, rfl, h1, h2, by omega, by omega⟩
theorem ri_of {S : Nat → Prop} {w : World} {vn vd : Value} {s : Bool} {xs ys : List Nat} {L : Nat} (h1 : Sl Lm S w vn xs) (h2 : Sl Lm S w vd ys) (h3 : xs.length ≤ L) (h4 : ys.length ≤ L) : RI S w s vn vd (rv s (val xs) (val ys)) (val xs) (val ys) L := ⟨⟨xs, h1, rfl, h3⟩, ⟨ys, h2, rfl, h4⟩, rfl⟩

theorem ri_q {S : Nat → Prop} {w : World} {vn vd : Value} {s : Bool} {xs ys : List Nat} {L : Nat} {q : Rat} (hq : Hid (rv s (val xs) (val ys) = q)) (h1 : Sl Lm S w vn xs) (h2 : Sl Lm S w vd ys) (h3 : xs.length ≤ L) (h4 : ys.length ≤ L) : RI S w s vn vd q (val xs) (val ys) L := ⟨⟨xs, h1, rfl, h3⟩, ⟨ys, h2, rfl, h4⟩, hq.out⟩

theorem rcmp_z {S T : Nat → Prop} (w : World) (s t : Bool) (vn vd un ud : Value) (x y : Rat) (N D M E L : Nat) (c : Int) (hc : Hid ((x - y).num.sign = c)) (hx : RI S w s vn vd x N D L) (hy : RI T w t un ud y M E L) (hL1 : 1 ≤ L) (hl : L ≤ 104857600) :
    Calls Try.prog 39 #[.agg #[.bool s, vn, vd], .agg #[.bool t, un, ud]] w fun e w' => e = .returned (.int .i64 c) ∧ Fr (fun k => k < w.heap.size) w w' := by
  have := rcmp_n w s t vn vd un ud x y N D M E L hx hy hL1 hl
  rwa [hc.out] at this
theorem rsign_z {S : Nat → Prop} (w : World) (s : Bool) (vn vd : Value) (q : Rat) (N D L : Nat) (c : Int) (hc : Hid (q.num.sign = c)) (h : RI S w s vn vd q N D L) (hL1 : 1 ≤ L) (hl : L ≤ 1048576000) :
    Calls Try.prog 38 #[.agg #[.bool s, vn, vd]] w fun e w' => e = .returned (.int .i64 c) ∧ Fr (fun k => k < w.heap.size) w w' := by
  have := rsign_n w s vn vd q N D L h hL1 hl
  rwa [hc.out] at this
theorem may_m {S : Nat → Prop} (w : World) (s : Bool) (vn vd : Value) (xs ys : List Nat) (L : Nat) (m : Int) (hm : Hid ((if Like s xs ys (rv s (val xs) (val ys)) then (0 : Int) else 6) = m)) (hx : Sl Lm S w vn xs) (hy : Sl Lm S w vd ys) (hxl : xs.length ≤ L) (hyl : ys.length ≤ L) (hL1 : 1 ≤ L) (hl : L ≤ 104857600) :
    Calls Try.prog 14 #[.agg #[.bool s, vn, vd]] w fun e w' => e = .returned (.int .i64 m) ∧ Fr (fun k => k < w.heap.size) w w' := by
  have := may_l w s vn vd xs ys L hx hy hxl hyl hL1 hl
  rwa [hm.out] at this
theorem rmay_m {S : Nat → Prop} (w : World) (s : Bool) (vn vd : Value) (xs ys : List Nat) (L : Nat) (m : Int) (hm : Hid ((if Like s xs ys (rv s (val xs) (val ys)) then (0 : Int) else 6) = m)) (hx : Sl Lm S w vn xs) (hy : Sl Lm S w vd ys) (hxl : xs.length ≤ L) (hyl : ys.length ≤ L) (hL1 : 1 ≤ L) (hl : L ≤ 104857600) :
    Calls Try.prog 15 #[.agg #[.bool s, vn, vd]] w fun e w' => e = .returned (.int .i64 m) ∧ Fr (fun k => k < w.heap.size) w w' := by
  have := rmay_l w s vn vd xs ys L hx hy hxl hyl hL1 hl
  rwa [hm.out] at this
theorem may_x {S : Nat → Prop} (w : World) (vn vd : Value) (q : Rat) (L : Nat) (h : RV S w vn vd q L) (hL1 : 1 ≤ L) (hl : L ≤ 104857600) :
    Calls Try.prog 14 #[.agg #[.bool (sg q), vn, vd]] w fun e w' => e = .returned (.int .i64 0) ∧ Fr (fun k => k < w.heap.size) w w' := by
  have := may_l w (sg q) vn vd _ _ L h.num.sl h.den.sl h.num.len h.den.len hL1 hl
  rwa [val_dg, val_dg, rv_self, if_pos ⟨rfl, rfl, rfl⟩] at this

set_option maxHeartbeats 8000000 in
theorem may_walk {S : Nat → Prop} {s : Bool} {xs ys : List Nat} (w : World) (v : Value) (L : Nat) (h : RL S w v s xs ys L) (hL : L ≤ 1048576) :
    Calls Try.prog 3 #[v] w fun e w' => e = .returned (.bool true) ∧ Fr (fun k => k < w.heap.size) w w' := by
  obtain ⟨A1, n1, c1, A2, n2, c2, rfl, hx, hy, lx, ly⟩ := h.open
  clear h
  have F := (Fr.refl (fun k => k < w.heap.size) w).alloc (.cells #[.bool s, .slice A1 n1 c1, .slice A2 n2 c2] 25)
  have x1 := Box3.new w 25 (.bool s) (.slice A1 n1 c1) (.slice A2 n2 c2)
  replace hx := hx.keep' Lm_pos F
  replace hy := hy.keep' Lm_pos F
  have hL1 : 1 ≤ L + 1 := by omega
  have hl1 : L + 1 ≤ 104857600 := by omega
  obtain ⟨m, hm⟩ : ∃ m, (if Like s xs ys (rv s (val xs) (val ys)) then (0 : Int) else 6) = m := ⟨_, rfl⟩
  have HM := Lib.hid hm
  clear hm
  go_enter Try.func3, Try.ntmps3
  go_wp2_with fail
  refine (rown_l _ s _ _ xs ys hx hy (by omega) (by omega)).mono ?_
  rintro e w1 ⟨v1, v2, rfl, h1, hf⟩
  obtain ⟨⟨A3, n3, c3, rfl⟩, ⟨A4, n4, c4, rfl⟩⟩ := h1.form
  replace F := fr_then F hf
  replace x1 := x1.keep hf
  replace hx := hx.keep' Lm_pos hf
  replace hy := hy.keep' Lm_pos hf
  clear hf
  go_wp2_with fail
  refine (norm_n _ s _ _ _ _ _ (L + 1) (h1.ri s lx ly) hL1 (by omega)).mono ?_
  rintro e w2 ⟨v1, v2, rfl, h2, hf⟩
  obtain ⟨q, hq⟩ : ∃ q, q = rv s (val xs) (val ys) := ⟨_, rfl⟩
  have HQ := Lib.hid hq.symm
  rw [← hq] at h2 ⊢
  obtain ⟨⟨A5, n5, c5, rfl⟩, ⟨A6, n6, c6, rfl⟩⟩ := h2.form
  have al := fun R => (Fr.refl R w2).alloc (.cells #[.bool (sg q), .slice A5 n5 c5, .slice A6 n6 c6] 25)
  have x2 := (Box3.new w2 25 (.bool (sg q)) (.slice A5 n5 c5) (.slice A6 n6 c6)).fr (Fr.refl (fun _ => True) _).drew trivial
  replace F := (fr_then (fr_then F hf) (al _)).drew
  replace x1 := ((x1.keep hf).keep (al _)).fr (Fr.refl (fun _ => True) _).drew trivial
  replace hx := ((hx.keep' Lm_pos hf).keep' Lm_pos (al _)).fr (Fr.refl _ _).drew
  replace hy := ((hy.keep' Lm_pos hf).keep' Lm_pos (al _)).fr (Fr.refl _ _).drew
  replace h2 := (h2.keep (al _)).fr (Fr.refl _ _).drew
  clear hf h1 al hq
  generalize hW : w2.alloc (.cells #[.bool (sg q), .slice A5 n5 c5, .slice A6 n6 c6] 25) = W at F x1 x2 hx hy h2
  have G := Fr.refl (fun k => k < W.drew.heap.size) W.drew
  have KS : ∀ u, Fr (fun k => k < W.drew.heap.size) W.drew u → u.cell? ⟨w.heap.size, 0, none⟩ = some (.bool s) ∧ u.cell? ⟨w.heap.size, 1, none⟩ = some (.slice A1 n1 c1) ∧ u.cell? ⟨w.heap.size, 2, none⟩ = some (.slice A2 n2 c2) ∧ u.cell? ⟨w2.heap.size, 0, none⟩ = some (.bool (sg q)) ∧ u.cell? ⟨w2.heap.size, 1, none⟩ = some (.slice A5 n5 c5) ∧ u.cell? ⟨w2.heap.size, 2, none⟩ = some (.slice A6 n6 c6) := fun u h => ⟨(x1.keep h).c0, (x1.keep h).c1, (x1.keep h).c2, (x2.keep h).c0, (x2.keep h).c1, (x2.keep h).c2⟩
  go_wp2_with fail
  clear hW x1 x2
  go_region_held3 (fun u => u.cell? ⟨w.heap.size, 0, none⟩ = some (.bool s) ∧ u.cell? ⟨w.heap.size, 1, none⟩ = some (.slice A1 n1 c1) ∧ u.cell? ⟨w.heap.size, 2, none⟩ = some (.slice A2 n2 c2) ∧ u.cell? ⟨w2.heap.size, 0, none⟩ = some (.bool (sg q)) ∧ u.cell? ⟨w2.heap.size, 1, none⟩ = some (.slice A5 n5 c5) ∧ u.cell? ⟨w2.heap.size, 2, none⟩ = some (.slice A6 n6 c6)) (first | (with_reducible exact KS _ G) | (with_reducible exact KS _ (G.alloc _))) (first
    | ((with_reducible refine (rown_l _ s (.slice A1 n1 c1) (.slice A2 n2 c2) xs ys (hx.keep' Lm_pos G) (hy.keep' Lm_pos G) (by omega) (by omega)).mono ?_); rintro e wa ⟨v1, v2, rfl, ha, hf⟩; obtain ⟨⟨B1, m1, k1, rfl⟩, ⟨B2, m2, k2, rfl⟩⟩ := ha.form; first | (with_reducible have G := fr_then G hf) | (with_reducible have G := fr_then (G.alloc _) hf))
    | ((with_reducible refine (may_m _ s (.slice B1 m1 k1) (.slice B2 m2 k2) xs ys (L + 1) m HM ha.num.sl ha.den.sl lx ly hL1 hl1).mono ?_); rintro e wb ⟨rfl, hf⟩; first | (with_reducible have G := fr_then G hf) | (with_reducible have G := fr_then (G.alloc _) hf))
    | ((with_reducible refine (rmay_m _ s (.slice A1 n1 c1) (.slice A2 n2 c2) xs ys (L + 1) m HM (hx.keep' Lm_pos G) (hy.keep' Lm_pos G) lx ly hL1 hl1).mono ?_); rintro e wb ⟨rfl, hf⟩; first | (with_reducible have G := fr_then G hf) | (with_reducible have G := fr_then (G.alloc _) hf))
    | ((with_reducible refine (rof_r _ s (.slice A1 n1 c1) (.slice A2 n2 c2) q _ _ (L + 1) (ri_q HQ (hx.keep' Lm_pos G) (hy.keep' Lm_pos G) lx ly) hL1 hl1).mono ?_); rintro e wc ⟨v1, v2, rfl, hc, hf⟩; obtain ⟨⟨C1, i1, j1, rfl⟩, ⟨C2, i2, j2, rfl⟩⟩ := hc.form; first | (with_reducible have G := fr_then G hf) | (with_reducible have G := fr_then (G.alloc _) hf))
    | ((with_reducible refine (ris_yes _ (sg q) (sg q) (.slice C1 i1 j1) (.slice C2 i2 j2) (.slice A5 n5 c5) (.slice A6 n6 c6) q q (L + 1) _ hc rfl (h2.keep G) rfl rfl (by omega)).mono ?_); rintro e wd ⟨rfl, hf⟩; first | (with_reducible have G := fr_then G hf) | (with_reducible have G := fr_then (G.alloc _) hf))
    | ((with_reducible refine (may_x _ (.slice A5 n5 c5) (.slice A6 n6 c6) q (L + 1) (h2.keep G) hL1 hl1).mono ?_); rintro e we ⟨rfl, hf⟩; first | (with_reducible have G := fr_then G hf) | (with_reducible have G := fr_then (G.alloc _) hf))
    | ((with_reducible refine (rknown _).mono ?_); rintro e wd ⟨rfl, hf⟩; first | (with_reducible have G := fr_then G hf) | (with_reducible have G := fr_then (G.alloc _) hf)))
  go_wp2_with fail
  go_ret
  exact ⟨rfl, fr_then F G⟩

theorem sign_lo (q : Rat) : -1 ≤ q.num.sign ∧ q.num.sign ≤ 1 := by
  rcases sign_cases q with h | h | h <;> omega
theorem prod_lo {c d : Int} (hc : -1 ≤ c ∧ c ≤ 1) (hd : -1 ≤ d ∧ d ≤ 1) : -1 ≤ c * d ∧ c * d ≤ 1 := by
  have h1 : c = -1 ∨ c = 0 ∨ c = 1 := by omega
  rcases h1 with rfl | rfl | rfl <;> omega

set_option maxHeartbeats 8000000 in
theorem goes_walk {S : Nat → Prop} {s1 s2 s3 : Bool} {xs1 ys1 xs2 ys2 xs3 ys3 : List Nat} (w : World) (va vb vc : Value) (L : Nat) (h1 : RL S w va s1 xs1 ys1 L) (h2 : RL S w vb s2 xs2 ys2 L) (h3 : RL S w vc s3 xs3 ys3 L) (hL : L ≤ 1048576) :
    Calls Try.prog 9 #[va, vb, vc] w fun e w' => e = .returned (.bool true) ∧ Fr (fun k => k < w.heap.size) w w' := by
  obtain ⟨A1, n1, c1, B1, m1, k1, rfl, hx1, hy1, lx1, ly1⟩ := h1.open
  obtain ⟨A2, n2, c2, B2, m2, k2, rfl, hx2, hy2, lx2, ly2⟩ := h2.open
  obtain ⟨A3, n3, c3, B3, m3, k3, rfl, hx3, hy3, lx3, ly3⟩ := h3.open
  clear h1 h2 h3
  have r1 := ri_of (s := s1) hx1 hy1 lx1 ly1
  have r2 := ri_of (s := s2) hx2 hy2 lx2 ly2
  have r3 := ri_of (s := s3) hx3 hy3 lx3 ly3
  generalize rv s1 (val xs1) (val ys1) = x at r1
  generalize rv s2 (val xs2) (val ys2) = y at r2
  generalize rv s3 (val xs3) (val ys3) = z at r3
  obtain ⟨c, hc⟩ : ∃ c, (x - y).num.sign = c := ⟨_, rfl⟩
  obtain ⟨d, hd⟩ : ∃ d, z.num.sign = d := ⟨_, rfl⟩
  have hcl := sign_lo (x - y)
  have hdl := sign_lo z
  rw [hc] at hcl
  rw [hd] at hdl
  have hpl := prod_lo hcl hdl
  have hw1 : IntKind.i64.wrap (-c) = -c := by rw [IntKind.wrap_i64]; omega
  have hw2 : IntKind.i64.wrap (c * d) = c * d := by rw [IntKind.wrap_i64]; omega
  have C1 := Lib.hid hc
  have C2 := Lib.hid (show (y - x).num.sign = -c by rw [sign_sub_swap x y, hc])
  have C3 := Lib.hid (show ((x + z) - (y + z)).num.sign = c by rw [show (x + z) - (y + z) = x - y by rw [Rat.sub_eq_add_neg, Rat.neg_add, Rat.add_assoc, Rat.add_comm (-y), ← Rat.add_assoc z, Rat.add_neg_cancel, Rat.zero_add, ← Rat.sub_eq_add_neg], hc])
  have C4 := Lib.hid (show (x * z - y * z).num.sign = c * d by rw [show x * z - y * z = (x - y) * z by rw [Rat.sub_eq_add_neg, Rat.sub_eq_add_neg, Rat.add_mul, Rat.neg_mul], sign_mul, hc, hd])
  have C5 := Lib.hid hd
  clear hc hd hcl hdl hpl hx1 hy1 hx2 hy2 hx3 hy3 lx1 ly1 lx2 ly2 lx3 ly3
  have F := ((Fr.refl (fun k => k < w.heap.size) w).alloc (.cells #[.bool s1, .slice A1 n1 c1, .slice B1 m1 k1] 25)).alloc (.cells #[.bool s2, .slice A2 n2 c2, .slice B2 m2 k2] 25) |>.alloc (.cells #[.bool s3, .slice A3 n3 c3, .slice B3 m3 k3] 25)
  have x1 := ((Box3.new w 25 (.bool s1) (.slice A1 n1 c1) (.slice B1 m1 k1)).alloc (.cells #[.bool s2, .slice A2 n2 c2, .slice B2 m2 k2] 25)).alloc (.cells #[.bool s3, .slice A3 n3 c3, .slice B3 m3 k3] 25)
  have x2 := (Box3.new (w.alloc (.cells #[.bool s1, .slice A1 n1 c1, .slice B1 m1 k1] 25)) 25 (.bool s2) (.slice A2 n2 c2) (.slice B2 m2 k2)).alloc (.cells #[.bool s3, .slice A3 n3 c3, .slice B3 m3 k3] 25)
  have x3 := Box3.new ((w.alloc (.cells #[.bool s1, .slice A1 n1 c1, .slice B1 m1 k1] 25)).alloc (.cells #[.bool s2, .slice A2 n2 c2, .slice B2 m2 k2] 25)) 25 (.bool s3) (.slice A3 n3 c3) (.slice B3 m3 k3)
  simp only [World.size_alloc] at x2 x3
  replace r1 := r1.keep F
  replace r2 := r2.keep F
  replace r3 := r3.keep F
  have hL1 : 1 ≤ L + 1 := by omega
  have hl1 : L + 1 ≤ 104857600 := by omega
  have hL5 : 1 ≤ 5 * (L + 1) := by omega
  have hl5 : 5 * (L + 1) ≤ 104857600 := by omega
  have hL6 : 1 ≤ 6 * (L + 1) := by omega
  have hl6 : 6 * (L + 1) ≤ 104857600 := by omega
  go_enter Try.func9, Try.ntmps9
  go_wp2_with fail
  refine (rcmp_z _ s1 s2 _ _ _ _ x y _ _ _ _ (L + 1) c C1 r1 r2 hL1 hl1).mono ?_
  rintro e W ⟨rfl, hf⟩
  have dr : ∀ R, Fr R W W.drew := fun R => (Fr.refl R W).drew
  replace F := (fr_then F hf).drew
  replace x1 := (x1.keep hf).keep (dr _)
  replace x2 := (x2.keep hf).keep (dr _)
  replace x3 := (x3.keep hf).keep (dr _)
  replace r1 := (r1.keep hf).keep (dr _)
  replace r2 := (r2.keep hf).keep (dr _)
  replace r3 := (r3.keep hf).keep (dr _)
  have G := Fr.refl (fun k => k < W.drew.heap.size) W.drew
  have KS : ∀ u, Fr (fun k => k < W.drew.heap.size) W.drew u → u.cell? ⟨w.heap.size, 0, none⟩ = some (.bool s1) ∧ u.cell? ⟨w.heap.size, 1, none⟩ = some (.slice A1 n1 c1) ∧ u.cell? ⟨w.heap.size, 2, none⟩ = some (.slice B1 m1 k1) ∧ u.cell? ⟨w.heap.size + 1, 0, none⟩ = some (.bool s2) ∧ u.cell? ⟨w.heap.size + 1, 1, none⟩ = some (.slice A2 n2 c2) ∧ u.cell? ⟨w.heap.size + 1, 2, none⟩ = some (.slice B2 m2 k2) ∧ u.cell? ⟨w.heap.size + 1 + 1, 0, none⟩ = some (.bool s3) ∧ u.cell? ⟨w.heap.size + 1 + 1, 1, none⟩ = some (.slice A3 n3 c3) ∧ u.cell? ⟨w.heap.size + 1 + 1, 2, none⟩ = some (.slice B3 m3 k3) := fun u h => ⟨(x1.keep h).c0, (x1.keep h).c1, (x1.keep h).c2, (x2.keep h).c0, (x2.keep h).c1, (x2.keep h).c2, (x3.keep h).c0, (x3.keep h).c1, (x3.keep h).c2⟩
  clear hf dr x1 x2 x3
  go_wp2_with fail
  go_region_held3 (fun u => u.cell? ⟨w.heap.size, 0, none⟩ = some (.bool s1) ∧ u.cell? ⟨w.heap.size, 1, none⟩ = some (.slice A1 n1 c1) ∧ u.cell? ⟨w.heap.size, 2, none⟩ = some (.slice B1 m1 k1) ∧ u.cell? ⟨w.heap.size + 1, 0, none⟩ = some (.bool s2) ∧ u.cell? ⟨w.heap.size + 1, 1, none⟩ = some (.slice A2 n2 c2) ∧ u.cell? ⟨w.heap.size + 1, 2, none⟩ = some (.slice B2 m2 k2) ∧ u.cell? ⟨w.heap.size + 1 + 1, 0, none⟩ = some (.bool s3) ∧ u.cell? ⟨w.heap.size + 1 + 1, 1, none⟩ = some (.slice A3 n3 c3) ∧ u.cell? ⟨w.heap.size + 1 + 1, 2, none⟩ = some (.slice B3 m3 k3)) (first | (with_reducible exact KS _ G) | (with_reducible exact KS _ (G.alloc _))) (first
    | ((with_reducible refine (rcmp_z _ s2 s1 (.slice A2 n2 c2) (.slice B2 m2 k2) (.slice A1 n1 c1) (.slice B1 m1 k1) y x _ _ _ _ (L + 1) (-c) C2 (r2.keep G) (r1.keep G) hL1 hl1).mono ?_); rintro e wa ⟨rfl, hf⟩; first | (with_reducible have G := fr_then G hf) | (with_reducible have G := fr_then (G.alloc _) hf))
    | ((with_reducible refine (radd_n _ s1 s3 (.slice A1 n1 c1) (.slice B1 m1 k1) (.slice A3 n3 c3) (.slice B3 m3 k3) x z _ _ _ _ (L + 1) (r1.keep G) (r3.keep G) hL1 hl1).mono ?_); rintro e wa ⟨v1, v2, rfl, ha, hf⟩; obtain ⟨⟨Pa, ia, ja, rfl⟩, ⟨Qa, ua, ta, rfl⟩⟩ := ha.form; first | (with_reducible have G := fr_then G hf) | (with_reducible have G := fr_then (G.alloc _) hf))
    | ((with_reducible refine (radd_n _ s2 s3 (.slice A2 n2 c2) (.slice B2 m2 k2) (.slice A3 n3 c3) (.slice B3 m3 k3) y z _ _ _ _ (L + 1) (r2.keep G) (r3.keep G) hL1 hl1).mono ?_); rintro e wa ⟨v1, v2, rfl, hb, hf⟩; obtain ⟨⟨Pb, ib, jb, rfl⟩, ⟨Qb, ub, tb, rfl⟩⟩ := hb.form; replace ha := ha.keep hf; first | (with_reducible have G := fr_then G hf) | (with_reducible have G := fr_then (G.alloc _) hf))
    | ((with_reducible refine (rcmp_z _ (sg (x + z)) (sg (y + z)) (.slice Pa ia ja) (.slice Qa ua ta) (.slice Pb ib jb) (.slice Qb ub tb) (x + z) (y + z) _ _ _ _ (5 * (L + 1)) c C3 ha.ri hb.ri hL5 hl5).mono ?_); rintro e wa ⟨rfl, hf⟩; first | (with_reducible have G := fr_then G hf) | (with_reducible have G := fr_then (G.alloc _) hf))
    | ((with_reducible refine (rmul_n _ s1 s3 (.slice A1 n1 c1) (.slice B1 m1 k1) (.slice A3 n3 c3) (.slice B3 m3 k3) x z _ _ _ _ (L + 1) (r1.keep G) (r3.keep G) hL1 hl1).mono ?_); rintro e wa ⟨v1, v2, rfl, hd, hf⟩; obtain ⟨⟨Pd, id, jd, rfl⟩, ⟨Qd, ud, td, rfl⟩⟩ := hd.form; first | (with_reducible have G := fr_then G hf) | (with_reducible have G := fr_then (G.alloc _) hf))
    | ((with_reducible refine (rmul_n _ s2 s3 (.slice A2 n2 c2) (.slice B2 m2 k2) (.slice A3 n3 c3) (.slice B3 m3 k3) y z _ _ _ _ (L + 1) (r2.keep G) (r3.keep G) hL1 hl1).mono ?_); rintro e wa ⟨v1, v2, rfl, he, hf⟩; obtain ⟨⟨Pe, ie, je, rfl⟩, ⟨Qe, ue, te, rfl⟩⟩ := he.form; replace hd := hd.keep hf; first | (with_reducible have G := fr_then G hf) | (with_reducible have G := fr_then (G.alloc _) hf))
    | ((with_reducible refine (rcmp_z _ (sg (x * z)) (sg (y * z)) (.slice Pd id jd) (.slice Qd ud td) (.slice Pe ie je) (.slice Qe ue te) (x * z) (y * z) _ _ _ _ (6 * (L + 1)) (c * d) C4 hd.ri he.ri hL6 hl6).mono ?_); rintro e wa ⟨rfl, hf⟩; first | (with_reducible have G := fr_then G hf) | (with_reducible have G := fr_then (G.alloc _) hf))
    | ((with_reducible refine (rsign_z _ s3 (.slice A3 n3 c3) (.slice B3 m3 k3) z _ _ (L + 1) d C5 (r3.keep G) hL1 (by omega)).mono ?_); rintro e wa ⟨rfl, hf⟩; first | (with_reducible have G := fr_then G hf) | (with_reducible have G := fr_then (G.alloc _) hf))
    | ((with_reducible refine (rsub_n _ s1 s2 (.slice A1 n1 c1) (.slice B1 m1 k1) (.slice A2 n2 c2) (.slice B2 m2 k2) x y _ _ _ _ (L + 1) (r1.keep G) (r2.keep G) hL1 hl1).mono ?_); rintro e wa ⟨v1, v2, rfl, hg, hf⟩; obtain ⟨⟨Pg, ig, jg, rfl⟩, ⟨Qg, ug, tg, rfl⟩⟩ := hg.form; first | (with_reducible have G := fr_then G hf) | (with_reducible have G := fr_then (G.alloc _) hf))
    | ((with_reducible refine (rsign_z _ (sg (x - y)) (.slice Pg ig jg) (.slice Qg ug tg) (x - y) _ _ (5 * (L + 1)) c C1 hg.ri hL5 (by omega)).mono ?_); rintro e wa ⟨rfl, hf⟩; first | (with_reducible have G := fr_then G hf) | (with_reducible have G := fr_then (G.alloc _) hf))
    | ((with_reducible refine (rknown _).mono ?_); rintro e wd ⟨rfl, hf⟩; first | (with_reducible have G := fr_then G hf) | (with_reducible have G := fr_then (G.alloc _) hf)))
  go_wp2_with fail
  go_ret
  exact ⟨rfl, fr_then F G⟩
end Go.Proofs.Ytodpbkcdcchljaa

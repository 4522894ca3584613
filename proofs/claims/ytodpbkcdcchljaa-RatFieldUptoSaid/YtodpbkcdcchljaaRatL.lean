
/- rat.Frac, May, Same; the law's frac, same; the reference's Own, May. -/
import Derived.Test.YtodpbkcdcchljaaRatF
import Derived.Test.YtodpbkcdcchljaaRatK
namespace Go.Proofs.Ytodpbkcdcchljaa
open Go.RowKit

set_option maxHeartbeats 1000000 in
theorem frac_0 (w : World) (p : Int) (h0 : -9223372036854775808 ≤ p) (h1 : p ≤ 9223372036854775807) :
    Calls Try.prog 23 #[.int .i64 p, .int .i64 0] w fun e w' => e = .returned (.tuple #[.agg #[.bool false, .slice none 0 0, .slice none 0 0], .int .i64 17]) ∧ Fr (fun k => k < w.heap.size) w w' := by
  have F := fr_nz (fun k => k < w.heap.size) w
  have hb := box_nz w
  go_enter Try.func23, Try.ntmps23
  go_wp2_with fail
  refine (size_n _ p h0 h1).mono ?_
  rintro e w1 ⟨v1, rfl, k1, hf⟩
  replace hb := hb.keep hf
  replace F := fr_then F hf
  clear hf
  go_wp2_with fail
  refine (size_n _ 0 (by decide) (by decide)).mono ?_
  rintro e w2 ⟨v2, rfl, k2, hf⟩
  replace hb := hb.keep hf
  replace k1 := k1.keep hf
  replace F := fr_then F hf
  clear hf
  go_wp2_with fail
  refine (make_0 _ _ _ _ _ _ _ k1.num k2.num (by decide)).mono ?_
  rintro e w3 ⟨rfl, hf⟩
  replace hb := hb.keep hf
  replace F := fr_then F hf
  clear hf k1 k2
  go_wp2_with ((with_reducible apply wpList_st3); rfl; rfl; exact hb; exact rat3; rfl; rfl; rfl; intro w9 B9 F9)
  refine bodyPost_ret (results_cell3_tmp rfl rfl B9 Try.underlying25 rat3) rfl ?_
  exact ⟨rfl, F.comp F9 fun k hk h => ⟨h, by omega⟩⟩

set_option maxHeartbeats 1000000 in
theorem frac_n (w : World) (p q : Int) (h0 : -9223372036854775808 ≤ p) (h1 : p ≤ 9223372036854775807) (h2 : -9223372036854775808 ≤ q) (h3 : q ≤ 9223372036854775807) (hq : q ≠ 0) :
    Calls Try.prog 23 #[.int .i64 p, .int .i64 q] w fun e w' => ∃ v1 v2, e = .returned (.tuple #[.agg #[.bool (sg (fr p q)), v1, v2], .int .i64 0]) ∧ RV (fun k => w.heap.size ≤ k) w' v1 v2 (fr p q) 2 ∧ Fr (fun k => k < w.heap.size) w w' := by
  have F := fr_nz (fun k => k < w.heap.size) w
  have hb := box_nz w
  obtain ⟨x, hx⟩ : ∃ x, x = (decide (p < 0) != decide (q < 0)) := ⟨_, rfl⟩
  have HQ := Lib.hid (show rv x p.natAbs q.natAbs = fr p q by rw [hx]; rfl)
  have HX := Lib.hid hx.symm
  clear hx
  go_enter Try.func23, Try.ntmps23
  go_wp2_with fail
  refine (size_n _ p h0 h1).mono ?_
  rintro e w1 ⟨v1, rfl, k1, hf⟩
  have s1 := hf.size
  simp only [World.size_alloc] at s1
  replace hb := hb.keep hf
  replace F := fr_then F hf
  clear hf
  go_wp2_with fail
  refine (size_n _ q h2 h3).mono ?_
  rintro e w2 ⟨v2, rfl, k2, hf⟩
  have s2 := hf.size
  replace hb := hb.keep hf
  replace k1 := k1.keep hf
  replace F := fr_then F hf
  clear hf
  go_wp2_with fail
  have p1 := make_q w2 x v1 v2 _ _ 2 (fr p q) HQ k1.num k2.num (by omega) (by decide) (by decide)
  rw [← HX.out] at p1
  first
    | refine p1.mono ?_
    | (simp at p1; refine p1.mono ?_)
  rintro e w3 ⟨v3, v4, rfl, k3, hf⟩
  obtain ⟨⟨C1, i1, j1, rfl⟩, ⟨C2, i2, j2, rfl⟩⟩ := k3.form
  have s3 := hf.size
  replace hb := hb.keep hf
  replace F := fr_then F hf
  clear hf p1 k1 k2
  go_wp2_with ((with_reducible apply wpList_st3); rfl; rfl; exact hb; exact rat3; rfl; rfl; rfl; intro w9 B9 F9)
  refine bodyPost_ret (results_cell3_tmp rfl rfl B9 Try.underlying25 rat3) rfl ?_
  exact ⟨_, _, rfl, k3.out F9 (fun k hk => by omega) (by omega), F.comp F9 fun k hk h => ⟨h, by omega⟩⟩

set_option maxHeartbeats 1000000 in
theorem lawfrac_r (w : World) (p q : Int) (h0 : -9223372036854775808 ≤ p) (h1 : p ≤ 9223372036854775807) (h2 : -9223372036854775808 ≤ q) (h3 : q ≤ 9223372036854775807) :
    Calls Try.prog 50 #[.int .i64 p, .int .i64 q] w fun e w' => ∃ v1 v2, e = .returned (.agg #[.bool (sg (fr p q)), v1, v2]) ∧ RR (fun k => w.heap.size ≤ k) w' v1 v2 (fr p q) 6 ∧ Fr (fun k => k < w.heap.size) w w' := by
  have F := fr_nr (fun k => k < w.heap.size) w
  have hb := box_nr w
  go_enter Try.func50, Try.ntmps50
  go_wp2_with fail
  refine (rfrac_r _ p q h0 h1 h2 h3).mono ?_
  rintro e w1 ⟨v1, v2, rfl, k3, hf⟩
  obtain ⟨⟨C1, i1, j1, rfl⟩, ⟨C2, i2, j2, rfl⟩⟩ := k3.form
  have s3 := hf.size
  simp only [World.size_alloc] at s3
  replace hb := hb.keep hf
  replace F := fr_then F hf
  clear hf
  go_wp2_with ((with_reducible apply wpList_st3); rfl; rfl; exact hb; exact ref3; rfl; rfl; rfl; intro w9 B9 F9)
  refine bodyPost_ret (results_cell3 rfl rfl B9 Try.underlying34 ref3) rfl ?_
  exact ⟨_, _, rfl, k3.out F9 (fun k hk => by simp only [World.size_alloc] at hk; omega) (by simp), F.comp F9 fun k hk h => ⟨h, by omega⟩⟩

/-- two lists of limbs in memory of the call's own -/
structure OL (S : Nat → Prop) (w : World) (vn vd : Value) (xs ys : List Nat) : Prop where
  num : Own Lm 62 S w vn xs
  den : Own Lm 62 S w vd ys
theorem OL.keep {S : Nat → Prop} {w w' : World} {vn vd : Value} {xs ys : List Nat} (h : OL S w vn vd xs ys) (hf : Fr (fun k => k < w.heap.size) w w') : OL S w' vn vd xs ys := ⟨h.num.keep' hf, h.den.keep' hf⟩
theorem OL.form {S : Nat → Prop} {w : World} {vn vd : Value} {xs ys : List Nat} (h : OL S w vn vd xs ys) : (∃ A n c, vn = .slice A n c) ∧ ∃ A n c, vd = .slice A n c := ⟨h.num.form, h.den.form⟩
theorem OL.ri {S : Nat → Prop} {w : World} {vn vd : Value} {xs ys : List Nat} {L : Nat} (s : Bool) (h : OL S w vn vd xs ys) (hx : xs.length ≤ L) (hy : ys.length ≤ L) : RI S w s vn vd (rv s (val xs) (val ys)) (val xs) (val ys) L := ⟨⟨xs, h.num.sl, rfl, hx⟩, ⟨ys, h.den.sl, rfl, hy⟩, rfl⟩

set_option maxHeartbeats 2000000 in
theorem rown_l {S : Nat → Prop} (w : World) (s : Bool) (vn vd : Value) (xs ys : List Nat) (hx : Sl Lm S w vn xs) (hy : Sl Lm S w vd ys) (hxl : xs.length ≤ 1099511627000) (hyl : ys.length ≤ 1099511627000) :
    Calls Try.prog 13 #[.agg #[.bool s, vn, vd]] w fun e w' => ∃ v1 v2, e = .returned (.agg #[.bool s, v1, v2]) ∧ OL (fun k => w.heap.size ≤ k) w' v1 v2 xs ys ∧ Fr (fun k => k < w.heap.size) w w' := by
  obtain ⟨A1, n1, c1, rfl⟩ := hx.form
  obtain ⟨A2, n2, c2, rfl⟩ := hy.form
  have F := ((Fr.refl (fun k => k < w.heap.size) w).alloc (.cells #[.bool s, .slice A1 n1 c1, .slice A2 n2 c2] 25)).alloc (.cells #[.bool false, .slice none 0 0, .slice none 0 0] 25)
  have hb := box_nz (w.alloc (.cells #[.bool s, .slice A1 n1 c1, .slice A2 n2 c2] 25))
  have x1 := (Box3.new w 25 (.bool s) (.slice A1 n1 c1) (.slice A2 n2 c2)).alloc (.cells #[.bool false, .slice none 0 0, .slice none 0 0] 25)
  simp only [World.size_alloc] at hb
  have hx0 := hx.keep' Lm_pos F
  have hy0 := hy.keep' Lm_pos F
  generalize hW0 : (w.alloc (.cells #[.bool s, .slice A1 n1 c1, .slice A2 n2 c2] 25)).alloc (.cells #[.bool false, .slice none 0 0, .slice none 0 0] 25) = W0 at F hb x1 hx0 hy0
  have dr : ∀ R, Fr R W0 W0.drew := fun R => (Fr.refl R W0).drew
  replace hx0 := hx0.keep' Lm_pos (dr _)
  replace hy0 := hy0.keep' Lm_pos (dr _)
  replace x1 := x1.keep (dr _)
  replace hb := hb.keep (dr _)
  replace F := F.drew
  have s0 := hb.lt
  have S0 : W0.drew.cell? ⟨w.heap.size, 0, none⟩ = some (.bool s) ∧ W0.drew.cell? ⟨w.heap.size, 1, none⟩ = some (.slice A1 n1 c1) ∧ W0.drew.cell? ⟨w.heap.size, 2, none⟩ = some (.slice A2 n2 c2) := ⟨x1.c0, x1.c1, x1.c2⟩
  clear hx hy dr
  go_enter Try.func13, Try.ntmps13
  go_wp2_with fail
  clear hW0
  go_region_held3 (fun u => u.cell? ⟨w.heap.size, 0, none⟩ = some (.bool s) ∧ u.cell? ⟨w.heap.size, 1, none⟩ = some (.slice A1 n1 c1) ∧ u.cell? ⟨w.heap.size, 2, none⟩ = some (.slice A2 n2 c2)) (first | exact S0 | exact S1 | exact S2 | exact S3) (first
    | ((with_reducible refine (own_calls _ (.slice A1 n1 c1) xs hx0 hxl).mono ?_); rintro e w1 ⟨v1, rfl, h1, hf1⟩; obtain ⟨B1, m1, k1, rfl⟩ := h1.form; have y1 := x1.keep hf1; have S1 := And.intro y1.c0 (And.intro y1.c1 y1.c2))
    | ((with_reducible refine (own_calls _ (.slice A2 n2 c2) ys (hy0.keep' Lm_pos hf1) hyl).mono ?_); rintro e w2 ⟨v1, rfl, h2, hf2⟩; obtain ⟨B2, m2, k2, rfl⟩ := h2.form; have y2 := y1.keep hf2; have S2 := And.intro y2.c0 (And.intro y2.c1 y2.c2); have hb2 := (hb.keep hf1).keep hf2; have F4 := fr_set3 w2 (w.heap.size + 1) (.bool s) (.slice B1 m1 k1) (.slice B2 m2 k2); have q1 := y2.fr F4 (by omega); have S3 := And.intro q1.c0 (And.intro q1.c1 q1.c2); have d0 := hb2.c0; have d1 := hb2.c1; have d2 := hb2.c2; have f0 := hb2.free 0; have f1 := hb2.free 1; have f2 := hb2.free 2))
  have B4 := hb2.set3 (.bool s) (.slice B1 m1 k1) (.slice B2 m2 k2)
  have s1 := hf1.size
  have F3 := fr_then (fr_then F hf1) hf2
  have g1 := ((h1.keep' hf2).mono (T := fun k => w.heap.size + 2 ≤ k) fun k hk => by omega).fr (F4.mono fun k _ hk => by omega)
  have g2 := (h2.mono (T := fun k => w.heap.size + 2 ≤ k) fun k hk => by omega).fr (F4.mono fun k _ hk => by omega)
  go_wp2_with fail
  refine bodyPost_ret (results_cell3 rfl rfl B4 Try.underlying25 rat3) rfl ?_
  exact ⟨_, _, rfl, ⟨g1.mono fun k hk => by omega, g2.mono fun k hk => by omega⟩, F3.comp F4 fun k hk h => ⟨h, by omega⟩⟩

theorem rmay_l {S : Nat → Prop} (w : World) (s : Bool) (vn vd : Value) (xs ys : List Nat) (L : Nat) (hx : Sl Lm S w vn xs) (hy : Sl Lm S w vd ys) (hxl : xs.length ≤ L) (hyl : ys.length ≤ L) (hL1 : 1 ≤ L) (hl : L ≤ 104857600) :
    Calls Try.prog 15 #[.agg #[.bool s, vn, vd]] w fun e w' => e = .returned (.int .i64 (if Like s xs ys (rv s (val xs) (val ys)) then 0 else 6)) ∧ Fr (fun k => k < w.heap.size) w w' := by
  obtain ⟨A1, n1, c1, rfl⟩ := hx.form
  obtain ⟨A2, n2, c2, rfl⟩ := hy.form
  have F := (Fr.refl (fun k => k < w.heap.size) w).alloc (.cells #[.bool s, .slice A1 n1 c1, .slice A2 n2 c2] 25)
  have x1 := Box3.new w 25 (.bool s) (.slice A1 n1 c1) (.slice A2 n2 c2)
  have hx0 := hx.keep' Lm_pos F
  have hy0 := hy.keep' Lm_pos F
  have p1 := rof_r _ s _ _ _ _ _ L ⟨⟨xs, hx0, rfl, hxl⟩, ⟨ys, hy0, rfl, hyl⟩, rfl⟩ hL1 hl
  generalize rv s (val xs) (val ys) = q at p1 ⊢
  by_cases hk : Like s xs ys q
  · rw [if_pos hk]
    have hd := decide_eq_true hk
    clear hk
    go_enter Try.func15, Try.ntmps15
    go_wp2_with fail
    refine p1.mono ?_
    rintro e w1 ⟨v1, v2, rfl, h1, hf⟩
    obtain ⟨⟨B1, m1, k1, rfl⟩, ⟨B2, m2, k2, rfl⟩⟩ := h1.form
    have al := fun R => (Fr.refl R w1).alloc (.cells #[.bool (sg q), .slice B1 m1 k1, .slice B2 m2 k2] 34)
    have y1 := (x1.keep hf).keep (al _)
    have a0 := y1.c0
    have a1 := y1.c1
    have a2 := y1.c2
    have p2 := ris_full _ (sg q) s _ _ _ _ q xs ys L _ (h1.keep (al _)) rfl ((hx0.keep' Lm_pos hf).keep' Lm_pos (al _)) ((hy0.keep' Lm_pos hf).keep' Lm_pos (al _)) hxl hyl (by omega)
    rw [hd] at p2
    have HD := Lib.hid hd
    have F2 := fr_then (fr_then F hf) (al _)
    clear p1 hf hd
    go_wp2_with fail
    refine p2.mono ?_
    rintro e w2 ⟨rfl, hf⟩
    go_wp2_with fail
    go_ret
    exact ⟨rfl, fr_then F2 hf⟩
  · rw [if_neg hk]
    have hd := decide_eq_false hk
    clear hk
    go_enter Try.func15, Try.ntmps15
    go_wp2_with fail
    refine p1.mono ?_
    rintro e w1 ⟨v1, v2, rfl, h1, hf⟩
    obtain ⟨⟨B1, m1, k1, rfl⟩, ⟨B2, m2, k2, rfl⟩⟩ := h1.form
    have al := fun R => (Fr.refl R w1).alloc (.cells #[.bool (sg q), .slice B1 m1 k1, .slice B2 m2 k2] 34)
    have y1 := (x1.keep hf).keep (al _)
    have a0 := y1.c0
    have a1 := y1.c1
    have a2 := y1.c2
    have p2 := ris_full _ (sg q) s _ _ _ _ q xs ys L _ (h1.keep (al _)) rfl ((hx0.keep' Lm_pos hf).keep' Lm_pos (al _)) ((hy0.keep' Lm_pos hf).keep' Lm_pos (al _)) hxl hyl (by omega)
    rw [hd] at p2
    have HD := Lib.hid hd
    have F2 := fr_then (fr_then F hf) (al _)
    clear p1 hf hd
    go_wp2_with fail
    refine p2.mono ?_
    rintro e w2 ⟨rfl, hf⟩
    go_wp2_with fail
    go_ret
    exact ⟨rfl, fr_then F2 hf⟩

set_option maxHeartbeats 2000000 in
theorem may_l {S : Nat → Prop} (w : World) (s : Bool) (vn vd : Value) (xs ys : List Nat) (L : Nat) (hx : Sl Lm S w vn xs) (hy : Sl Lm S w vd ys) (hxl : xs.length ≤ L) (hyl : ys.length ≤ L) (hL1 : 1 ≤ L) (hl : L ≤ 104857600) :
    Calls Try.prog 14 #[.agg #[.bool s, vn, vd]] w fun e w' => e = .returned (.int .i64 (if Like s xs ys (rv s (val xs) (val ys)) then 0 else 6)) ∧ Fr (fun k => k < w.heap.size) w w' := by
  obtain ⟨A1, n1, c1, rfl⟩ := hx.form
  obtain ⟨A2, n2, c2, rfl⟩ := hy.form
  have F := (Fr.refl (fun k => k < w.heap.size) w).alloc (.cells #[.bool s, .slice A1 n1 c1, .slice A2 n2 c2] 25)
  have x1 := Box3.new w 25 (.bool s) (.slice A1 n1 c1) (.slice A2 n2 c2)
  have hx0 := hx.keep' Lm_pos F
  have hy0 := hy.keep' Lm_pos F
  have p1 := norm_n _ s _ _ _ _ _ L ⟨⟨xs, hx0, rfl, hxl⟩, ⟨ys, hy0, rfl, hyl⟩, rfl⟩ hL1 (by omega)
  generalize rv s (val xs) (val ys) = q at p1 ⊢
  obtain ⟨r, hr⟩ : ∃ r, r = (if Like s xs ys q then (0 : Int) else 6) := ⟨_, rfl⟩
  rw [← hr]
  have HR := Lib.hid hr
  clear hr
  go_enter Try.func14, Try.ntmps14
  go_wp2_with fail
  refine p1.mono ?_
  rintro e w1 ⟨v1, v2, rfl, h1, hf⟩
  obtain ⟨⟨B1, m1, k1, rfl⟩, ⟨B2, m2, k2, rfl⟩⟩ := h1.form
  have al := fun R => (Fr.refl R w1).alloc (.cells #[.bool (sg q), .slice B1 m1 k1, .slice B2 m2 k2] 25)
  have y1 := (x1.keep hf).keep (al _)
  have a0 := y1.c0
  have a1 := y1.c1
  have a2 := y1.c2
  have z1 := Box3.new w1 25 (.bool (sg q)) (.slice B1 m1 k1) (.slice B2 m2 k2)
  have hq := h1.keep (al _)
  have hx1 := (hx0.keep' Lm_pos hf).keep' Lm_pos (al _)
  have hy1 := (hy0.keep' Lm_pos hf).keep' Lm_pos (al _)
  have F2 := fr_then (fr_then F hf) (al _)
  have p2 := limbs_calls _ _ _ _ _ hq.num.sl hx1
  clear p1 hf hx hy hx0 hy0 h1 al x1
  by_cases h0 : s = sg q
  · have hb : (sg q == s) = true := beq_iff_eq.2 h0.symm
    by_cases h1 : dg LB q.num.natAbs = xs
    · rw [decide_eq_true h1] at p2
      have H0 := Lib.hid (And.intro h0 h1)
      clear h0 h1
      go_wp2_with fail
      refine p2.mono ?_
      rintro e w2 ⟨rfl, hf⟩
      have b2 := (z1.keep hf).c2
      have c2 := (y1.keep hf).c2
      have p3 := limbs_calls _ _ _ _ _ (hq.den.keep hf).sl (hy1.keep' Lm_pos hf)
      clear p2
      by_cases h2 : dg LB q.den = ys
      · rw [decide_eq_true h2] at p3
        have HR2 := Lib.hid (show r = 0 by rw [HR.out, if_pos ⟨H0.out.1, H0.out.2.symm, h2.symm⟩])
        clear h2
        go_wp2_with fail
        refine p3.mono ?_
        rintro e w3 ⟨rfl, hf2⟩
        go_wp2_with fail
        go_ret
        exact ⟨by rw [HR2.out]; rfl, fr_then (fr_then F2 hf) hf2⟩
      · rw [decide_eq_false h2] at p3
        have HR2 := Lib.hid (show r = 6 by rw [HR.out, if_neg fun h => h2 h.2.2.symm])
        clear h2
        go_wp2_with fail
        refine p3.mono ?_
        rintro e w3 ⟨rfl, hf2⟩
        go_wp2_with fail
        go_ret
        exact ⟨by rw [HR2.out]; rfl, fr_then (fr_then F2 hf) hf2⟩
    · rw [decide_eq_false h1] at p2
      have HR2 := Lib.hid (show r = 6 by rw [HR.out, if_neg fun h => h1 h.2.1.symm])
      clear h0 h1
      go_wp2_with fail
      refine p2.mono ?_
      rintro e w2 ⟨rfl, hf⟩
      clear p2
      go_wp2_with fail
      go_ret
      exact ⟨by rw [HR2.out]; rfl, fr_then F2 hf⟩
  · have hb : (sg q == s) = false := beq_eq_false_iff_ne.2 fun e => h0 e.symm
    have HR2 := Lib.hid (show r = 6 by rw [HR.out, if_neg fun h => h0 h.1])
    clear h0 p2
    go_wp2_with fail
    go_ret
    exact ⟨by rw [HR2.out]; rfl, F2⟩
end Go.Proofs.Ytodpbkcdcchljaa

/- The base, part K: what the elder chapters' texts prove, of the functions that this seat has. -/
import Derived.Test.YtlppcfeimpcbjaaGreatBaseI
import Derived.Test.YtlppcfeimpcbjaaGreatBaseJ
set_option linter.unusedSimpArgs false
set_option linter.unusedVariables false

/- rat.Frac, May, Same; the law's frac, same; the reference's Own, May. -/
namespace Go.Proofs.YtlppcfeimpcbjaaGreat
open Go.RowKit

set_option maxHeartbeats 1000000 in
theorem frac_0 (w : World) (p : Int) (h0 : -9223372036854775808 ≤ p) (h1 : p ≤ 9223372036854775807) :
    Calls Tryz.prog 48 #[.int .i64 p, .int .i64 0] w fun e w' => e = .returned (.tuple #[.agg #[.bool false, .slice none 0 0, .slice none 0 0], .int .i64 17]) ∧ Fr (fun k => k < w.heap.size) w w' := by
  have F := fr_nz (fun k => k < w.heap.size) w
  have hb := box_nz w
  go_enter Tryz.func48, Tryz.ntmps48
  go_wp2_with fail
  refine (size_n _ p h0 h1).mono ?_
  rintro e w1 ⟨v1, rfl, k1, hf⟩
  replace hb := hb.keep hf
  replace F := fr_then F hf
  clear hf
  go_wp2_with fail
  refine (size_n _ 0 (by decide) (by decide)).mono ?_
  rintro e w2 ⟨v2, rfl, k2, hf⟩
  replace hb := hb.keep hf
  replace k1 := k1.keep hf
  replace F := fr_then F hf
  clear hf
  go_wp2_with fail
  refine (make_0 _ _ _ _ _ _ _ k1.num k2.num (by decide)).mono ?_
  rintro e w3 ⟨rfl, hf⟩
  replace hb := hb.keep hf
  replace F := fr_then F hf
  clear hf k1 k2
  go_wp2_with ((with_reducible apply wpList_st3); rfl; rfl; exact hb; exact rat3; rfl; rfl; rfl; intro w9 B9 F9)
  refine bodyPost_ret (results_cell3_tmp rfl rfl B9 Tryz.underlying54 rat3) rfl ?_
  exact ⟨rfl, F.comp F9 fun k hk h => ⟨h, by omega⟩⟩

set_option maxHeartbeats 1000000 in
theorem frac_n (w : World) (p q : Int) (h0 : -9223372036854775808 ≤ p) (h1 : p ≤ 9223372036854775807) (h2 : -9223372036854775808 ≤ q) (h3 : q ≤ 9223372036854775807) (hq : q ≠ 0) :
    Calls Tryz.prog 48 #[.int .i64 p, .int .i64 q] w fun e w' => ∃ v1 v2, e = .returned (.tuple #[.agg #[.bool (sg (fr p q)), v1, v2], .int .i64 0]) ∧ RV (fun k => w.heap.size ≤ k) w' v1 v2 (fr p q) 2 ∧ Fr (fun k => k < w.heap.size) w w' := by
  have F := fr_nz (fun k => k < w.heap.size) w
  have hb := box_nz w
  obtain ⟨x, hx⟩ : ∃ x, x = (decide (p < 0) != decide (q < 0)) := ⟨_, rfl⟩
  have HQ := Lib.hid (show rv x p.natAbs q.natAbs = fr p q by rw [hx]; rfl)
  have HX := Lib.hid hx.symm
  clear hx
  go_enter Tryz.func48, Tryz.ntmps48
  go_wp2_with fail
  refine (size_n _ p h0 h1).mono ?_
  rintro e w1 ⟨v1, rfl, k1, hf⟩
  have s1 := hf.size
  simp only [World.size_alloc] at s1
  replace hb := hb.keep hf
  replace F := fr_then F hf
  clear hf
  go_wp2_with fail
  refine (size_n _ q h2 h3).mono ?_
  rintro e w2 ⟨v2, rfl, k2, hf⟩
  have s2 := hf.size
  replace hb := hb.keep hf
  replace k1 := k1.keep hf
  replace F := fr_then F hf
  clear hf
  go_wp2_with fail
  have p1 := make_q w2 x v1 v2 _ _ 2 (fr p q) HQ k1.num k2.num (by omega) (by decide) (by decide)
  rw [← HX.out] at p1
  first
    | refine p1.mono ?_
    | (simp at p1; refine p1.mono ?_)
  rintro e w3 ⟨v3, v4, rfl, k3, hf⟩
  obtain ⟨⟨C1, i1, j1, rfl⟩, ⟨C2, i2, j2, rfl⟩⟩ := k3.form
  have s3 := hf.size
  replace hb := hb.keep hf
  replace F := fr_then F hf
  clear hf p1 k1 k2
  go_wp2_with ((with_reducible apply wpList_st3); rfl; rfl; exact hb; exact rat3; rfl; rfl; rfl; intro w9 B9 F9)
  refine bodyPost_ret (results_cell3_tmp rfl rfl B9 Tryz.underlying54 rat3) rfl ?_
  exact ⟨_, _, rfl, k3.out F9 (fun k hk => by omega) (by omega), F.comp F9 fun k hk h => ⟨h, by omega⟩⟩

/-- two lists of limbs in memory of the call's own -/
structure OL (S : Nat → Prop) (w : World) (vn vd : Value) (xs ys : List Nat) : Prop where
  num : Own Lm 150 S w vn xs
  den : Own Lm 150 S w vd ys
theorem OL.keep {S : Nat → Prop} {w w' : World} {vn vd : Value} {xs ys : List Nat} (h : OL S w vn vd xs ys) (hf : Fr (fun k => k < w.heap.size) w w') : OL S w' vn vd xs ys := ⟨h.num.keep' hf, h.den.keep' hf⟩
theorem OL.form {S : Nat → Prop} {w : World} {vn vd : Value} {xs ys : List Nat} (h : OL S w vn vd xs ys) : (∃ A n c, vn = .slice A n c) ∧ ∃ A n c, vd = .slice A n c := ⟨h.num.form, h.den.form⟩
theorem OL.ri {S : Nat → Prop} {w : World} {vn vd : Value} {xs ys : List Nat} {L : Nat} (s : Bool) (h : OL S w vn vd xs ys) (hx : xs.length ≤ L) (hy : ys.length ≤ L) : RI S w s vn vd (rv s (val xs) (val ys)) (val xs) (val ys) L := ⟨⟨xs, h.num.sl, rfl, hx⟩, ⟨ys, h.den.sl, rfl, hy⟩, rfl⟩

theorem rmay_l {S : Nat → Prop} (w : World) (s : Bool) (vn vd : Value) (xs ys : List Nat) (L : Nat) (hx : Sl Lm S w vn xs) (hy : Sl Lm S w vd ys) (hxl : xs.length ≤ L) (hyl : ys.length ≤ L) (hL1 : 1 ≤ L) (hl : L ≤ 104857600) :
    Calls Tryz.prog 52 #[.agg #[.bool s, vn, vd]] w fun e w' => e = .returned (.int .i64 (if Like s xs ys (rv s (val xs) (val ys)) then 0 else 6)) ∧ Fr (fun k => k < w.heap.size) w w' := by
  obtain ⟨A1, n1, c1, rfl⟩ := hx.form
  obtain ⟨A2, n2, c2, rfl⟩ := hy.form
  have F := (Fr.refl (fun k => k < w.heap.size) w).alloc (.cells #[.bool s, .slice A1 n1 c1, .slice A2 n2 c2] 54)
  have x1 := Box3.new w 54 (.bool s) (.slice A1 n1 c1) (.slice A2 n2 c2)
  have hx0 := hx.keep' Lm_pos F
  have hy0 := hy.keep' Lm_pos F
  have p1 := rof_r _ s _ _ _ _ _ L ⟨⟨xs, hx0, rfl, hxl⟩, ⟨ys, hy0, rfl, hyl⟩, rfl⟩ hL1 hl
  generalize rv s (val xs) (val ys) = q at p1 ⊢
  by_cases hk : Like s xs ys q
  · rw [if_pos hk]
    have hd := decide_eq_true hk
    clear hk
    go_enter Tryz.func52, Tryz.ntmps52
    go_wp2_with fail
    refine p1.mono ?_
    rintro e w1 ⟨v1, v2, rfl, h1, hf⟩
    obtain ⟨⟨B1, m1, k1, rfl⟩, ⟨B2, m2, k2, rfl⟩⟩ := h1.form
    have al := fun R => (Fr.refl R w1).alloc (.cells #[.bool (sg q), .slice B1 m1 k1, .slice B2 m2 k2] 58)
    have y1 := (x1.keep hf).keep (al _)
    have a0 := y1.c0
    have a1 := y1.c1
    have a2 := y1.c2
    have p2 := ris_full _ (sg q) s _ _ _ _ q xs ys L _ (h1.keep (al _)) rfl ((hx0.keep' Lm_pos hf).keep' Lm_pos (al _)) ((hy0.keep' Lm_pos hf).keep' Lm_pos (al _)) hxl hyl (by omega)
    rw [hd] at p2
    have HD := Lib.hid hd
    have F2 := fr_then (fr_then F hf) (al _)
    clear p1 hf hd
    go_wp2_with fail
    refine p2.mono ?_
    rintro e w2 ⟨rfl, hf⟩
    go_wp2_with fail
    go_ret
    exact ⟨rfl, fr_then F2 hf⟩
  · rw [if_neg hk]
    have hd := decide_eq_false hk
    clear hk
    go_enter Tryz.func52, Tryz.ntmps52
    go_wp2_with fail
    refine p1.mono ?_
    rintro e w1 ⟨v1, v2, rfl, h1, hf⟩
    obtain ⟨⟨B1, m1, k1, rfl⟩, ⟨B2, m2, k2, rfl⟩⟩ := h1.form
    have al := fun R => (Fr.refl R w1).alloc (.cells #[.bool (sg q), .slice B1 m1 k1, .slice B2 m2 k2] 58)
    have y1 := (x1.keep hf).keep (al _)
    have a0 := y1.c0
    have a1 := y1.c1
    have a2 := y1.c2
    have p2 := ris_full _ (sg q) s _ _ _ _ q xs ys L _ (h1.keep (al _)) rfl ((hx0.keep' Lm_pos hf).keep' Lm_pos (al _)) ((hy0.keep' Lm_pos hf).keep' Lm_pos (al _)) hxl hyl (by omega)
    rw [hd] at p2
    have HD := Lib.hid hd
    have F2 := fr_then (fr_then F hf) (al _)
    clear p1 hf hd
    go_wp2_with fail
    refine p2.mono ?_
    rintro e w2 ⟨rfl, hf⟩
    go_wp2_with fail
    go_ret
    exact ⟨rfl, fr_then F2 hf⟩

set_option maxHeartbeats 2000000 in
theorem may_l {S : Nat → Prop} (w : World) (s : Bool) (vn vd : Value) (xs ys : List Nat) (L : Nat) (hx : Sl Lm S w vn xs) (hy : Sl Lm S w vd ys) (hxl : xs.length ≤ L) (hyl : ys.length ≤ L) (hL1 : 1 ≤ L) (hl : L ≤ 104857600) :
    Calls Tryz.prog 70 #[.agg #[.bool s, vn, vd]] w fun e w' => e = .returned (.int .i64 (if Like s xs ys (rv s (val xs) (val ys)) then 0 else 6)) ∧ Fr (fun k => k < w.heap.size) w w' := by
  obtain ⟨A1, n1, c1, rfl⟩ := hx.form
  obtain ⟨A2, n2, c2, rfl⟩ := hy.form
  have F := (Fr.refl (fun k => k < w.heap.size) w).alloc (.cells #[.bool s, .slice A1 n1 c1, .slice A2 n2 c2] 54)
  have x1 := Box3.new w 54 (.bool s) (.slice A1 n1 c1) (.slice A2 n2 c2)
  have hx0 := hx.keep' Lm_pos F
  have hy0 := hy.keep' Lm_pos F
  have p1 := norm_n _ s _ _ _ _ _ L ⟨⟨xs, hx0, rfl, hxl⟩, ⟨ys, hy0, rfl, hyl⟩, rfl⟩ hL1 (by omega)
  generalize rv s (val xs) (val ys) = q at p1 ⊢
  obtain ⟨r, hr⟩ : ∃ r, r = (if Like s xs ys q then (0 : Int) else 6) := ⟨_, rfl⟩
  rw [← hr]
  have HR := Lib.hid hr
  clear hr
  go_enter Tryz.func70, Tryz.ntmps70
  go_wp2_with fail
  refine p1.mono ?_
  rintro e w1 ⟨v1, v2, rfl, h1, hf⟩
  obtain ⟨⟨B1, m1, k1, rfl⟩, ⟨B2, m2, k2, rfl⟩⟩ := h1.form
  have al := fun R => (Fr.refl R w1).alloc (.cells #[.bool (sg q), .slice B1 m1 k1, .slice B2 m2 k2] 54)
  have y1 := (x1.keep hf).keep (al _)
  have a0 := y1.c0
  have a1 := y1.c1
  have a2 := y1.c2
  have z1 := Box3.new w1 54 (.bool (sg q)) (.slice B1 m1 k1) (.slice B2 m2 k2)
  have hq := h1.keep (al _)
  have hx1 := (hx0.keep' Lm_pos hf).keep' Lm_pos (al _)
  have hy1 := (hy0.keep' Lm_pos hf).keep' Lm_pos (al _)
  have F2 := fr_then (fr_then F hf) (al _)
  have p2 := limbs_calls _ _ _ _ _ hq.num.sl hx1
  clear p1 hf hx hy hx0 hy0 h1 al x1
  by_cases h0 : s = sg q
  · have hb : (sg q == s) = true := beq_iff_eq.2 h0.symm
    by_cases h1 : dg LB q.num.natAbs = xs
    · rw [decide_eq_true h1] at p2
      have H0 := Lib.hid (And.intro h0 h1)
      clear h0 h1
      go_wp2_with fail
      refine p2.mono ?_
      rintro e w2 ⟨rfl, hf⟩
      have b2 := (z1.keep hf).c2
      have c2 := (y1.keep hf).c2
      have p3 := limbs_calls _ _ _ _ _ (hq.den.keep hf).sl (hy1.keep' Lm_pos hf)
      clear p2
      by_cases h2 : dg LB q.den = ys
      · rw [decide_eq_true h2] at p3
        have HR2 := Lib.hid (show r = 0 by rw [HR.out, if_pos ⟨H0.out.1, H0.out.2.symm, h2.symm⟩])
        clear h2
        go_wp2_with fail
        refine p3.mono ?_
        rintro e w3 ⟨rfl, hf2⟩
        go_wp2_with fail
        go_ret
        exact ⟨by rw [HR2.out]; rfl, fr_then (fr_then F2 hf) hf2⟩
      · rw [decide_eq_false h2] at p3
        have HR2 := Lib.hid (show r = 6 by rw [HR.out, if_neg fun h => h2 h.2.2.symm])
        clear h2
        go_wp2_with fail
        refine p3.mono ?_
        rintro e w3 ⟨rfl, hf2⟩
        go_wp2_with fail
        go_ret
        exact ⟨by rw [HR2.out]; rfl, fr_then (fr_then F2 hf) hf2⟩
    · rw [decide_eq_false h1] at p2
      have HR2 := Lib.hid (show r = 6 by rw [HR.out, if_neg fun h => h1 h.2.1.symm])
      clear h0 h1
      go_wp2_with fail
      refine p2.mono ?_
      rintro e w2 ⟨rfl, hf⟩
      clear p2
      go_wp2_with fail
      go_ret
      exact ⟨by rw [HR2.out]; rfl, fr_then F2 hf⟩
  · have hb : (sg q == s) = false := beq_eq_false_iff_ne.2 fun e => h0 e.symm
    have HR2 := Lib.hid (show r = 6 by rw [HR.out, if_neg fun h => h0 h.1])
    clear h0 p2
    go_wp2_with fail
    go_ret
    exact ⟨by rw [HR2.out]; rfl, F2⟩
end Go.Proofs.YtlppcfeimpcbjaaGreat


/- The law's known: chapter 03's rows. -/
namespace Go.Proofs.YtlppcfeimpcbjaaGreat
open Go.RowKit

theorem kf1 : fr 5 6 = fr 1 2 + fr 1 3 := by decide +kernel
theorem kf2 : fr 1 6 = fr 1 2 - fr 1 3 := by decide +kernel
theorem kf3 : fr 1 6 = fr 1 2 * fr 1 3 := by decide +kernel
theorem kf4 : fr 3 2 = fr 1 2 / fr 1 3 := by decide +kernel
theorem kf5 : fr (-3) 2 = fr 6 (-4) := by decide +kernel
theorem kf6 : fr 1 3 ≠ 0 := by decide +kernel
theorem kf7 : (fr 3 8).num.natAbs = 3 := by decide +kernel
theorem kf8 : (fr 3 8).den = 8 := by decide +kernel
theorem kf9 : blen 3 = 2 := blen_of (by decide) (by decide)
theorem kf10 : blen 8 = 4 := blen_of (by decide) (by decide)
theorem kl1 : ¬ Like false [2] [4] (rv false (val [2]) (val [4])) := by
  intro h
  have h2 := h.2.2
  rw [show (rv false (val [2]) (val [4])).den = 2 from by decide +kernel] at h2
  have h3 := congrArg (ofB LB) h2
  rw [ofB_dg LB2] at h3
  exact absurd h3 (by decide)
theorem kl2 : ¬ Like false [] [5] (rv false (val []) (val [5])) := by
  intro h
  have h2 := h.2.2
  rw [show (rv false (val []) (val [5])).den = 1 from by decide +kernel] at h2
  have h3 := congrArg (ofB LB) h2
  rw [ofB_dg LB2] at h3
  exact absurd h3 (by decide)
theorem kl3 : ¬ Like false [3] [] (rv false (val [3]) (val [])) := by
  intro h
  have h2 := h.2.2
  rw [show (rv false (val [3]) (val [])).den = 1 from by decide +kernel] at h2
  have h3 := congrArg (ofB LB) h2
  rw [ofB_dg LB2] at h3
  exact absurd h3 (by decide)

theorem sl_one {w : World} {b : Nat} (x : Nat) (hx : x < LB) (hb : w.heap[b]? = some (.cells #[.int .u32 (x : Int)] 150)) : Sl Lm (fun k => k < w.heap.size) w (.slice (some ⟨b, 0, none⟩) 1 1) [x] :=
  sl_lit [x] [.int .u32 (x : Int)] rfl (by simpa using hx) (by simp) hb

theorem heap_a (u : World) (c d : Obj) : ((u.alloc c).alloc d).heap[u.heap.size]? = some c := (Below.heap_alloc (u.alloc c) d u.heap.size (by simp)).trans (heap_alloc_new u c)
theorem heap_b (u : World) (c d : Obj) : ((u.alloc c).alloc d).heap[u.heap.size + 1]? = some d := by
  have h := heap_alloc_new (u.alloc c) d
  rwa [World.size_alloc] at h

theorem may_24 (w : World) (a b : Nat) (ha : w.heap[a]? = some (.cells #[.int .u32 2] 150)) (hb : w.heap[b]? = some (.cells #[.int .u32 4] 150)) :
    Calls Tryz.prog 70 #[.agg #[.bool false, .slice (some ⟨a, 0, none⟩) 1 1, .slice (some ⟨b, 0, none⟩) 1 1]] w fun e w' => e = .returned (.int .i64 6) ∧ Fr (fun k => k < w.heap.size) w w' := by
  have h := may_l w false _ _ [2] [4] 1 (sl_one 2 (by decide) ha) (sl_one 4 (by decide) hb) (by decide) (by decide) (by decide) (by decide)
  rwa [if_neg kl1] at h
theorem may_5 (w : World) (b : Nat) (hb : w.heap[b]? = some (.cells #[.int .u32 5] 150)) :
    Calls Tryz.prog 70 #[.agg #[.bool false, .slice none 0 0, .slice (some ⟨b, 0, none⟩) 1 1]] w fun e w' => e = .returned (.int .i64 6) ∧ Fr (fun k => k < w.heap.size) w w' := by
  have h := may_l w false _ _ [] [5] 1 (Sl.nil _ _ _) (sl_one 5 (by decide) hb) (by decide) (by decide) (by decide) (by decide)
  rwa [if_neg kl2] at h
theorem may_3 (w : World) (a : Nat) (ha : w.heap[a]? = some (.cells #[.int .u32 3] 150)) :
    Calls Tryz.prog 70 #[.agg #[.bool false, .slice (some ⟨a, 0, none⟩) 1 1, .slice none 0 0]] w fun e w' => e = .returned (.int .i64 6) ∧ Fr (fun k => k < w.heap.size) w w' := by
  have h := may_l w false _ _ [3] [] 1 (sl_one 3 (by decide) ha) (Sl.nil _ _ _) (by decide) (by decide) (by decide) (by decide)
  rwa [if_neg kl3] at h
theorem fc (w : World) (p q : Int) (hp : -1000 ≤ p ∧ p ≤ 1000) (hq : -1000 ≤ q ∧ q ≤ 1000) (h : q ≠ 0) :
    Calls Tryz.prog 48 #[.int .i64 p, .int .i64 q] w fun e w' => ∃ v1 v2, e = .returned (.tuple #[.agg #[.bool (sg (fr p q)), v1, v2], .int .i64 0]) ∧ RV (fun k => w.heap.size ≤ k) w' v1 v2 (fr p q) 2 ∧ Fr (fun k => k < w.heap.size) w w' :=
  frac_n w p q (by omega) (by omega) (by omega) (by omega) h

end Go.Proofs.YtlppcfeimpcbjaaGreat


/- RatMakes, RatFracs. -/
namespace Go.Proofs.YtlppcfeimpcbjaaGreat
open Go.RowKit

end Go.Proofs.YtlppcfeimpcbjaaGreat


/- RatMay, RatGoes. -/
namespace Go.Proofs.YtlppcfeimpcbjaaGreat
open Go.RowKit

/-- A rational as it comes: a sign's bool and two lists of limbs. -/
def RL (S : Nat → Prop) (w : World) (v : Value) (s : Bool) (xs ys : List Nat) (L : Nat) : Prop := ∃ vn vd, v = .agg #[.bool s, vn, vd] ∧ Sl Lm S w vn xs ∧ Sl Lm S w vd ys ∧ xs.length ≤ L ∧ ys.length ≤ L
theorem RL.open {S : Nat → Prop} {w : World} {v : Value} {s : Bool} {xs ys : List Nat} {L : Nat} (h : RL S w v s xs ys L) : ∃ A1 n1 c1 A2 n2 c2, v = .agg #[.bool s, .slice A1 n1 c1, .slice A2 n2 c2] ∧ Sl Lm S w (.slice A1 n1 c1) xs ∧ Sl Lm S w (.slice A2 n2 c2) ys ∧ xs.length ≤ L + 1 ∧ ys.length ≤ L + 1 := by
  obtain ⟨vn, vd, rfl, h1, h2, h3, h4⟩ := h
  obtain ⟨A1, n1, c1, rfl⟩ := h1.form
  obtain ⟨A2, n2, c2, rfl⟩ := h2.form
  exact ⟨_, _, _, _, _, _, rfl, h1, h2, by omega, by omega⟩
theorem ri_of {S : Nat → Prop} {w : World} {vn vd : Value} {s : Bool} {xs ys : List Nat} {L : Nat} (h1 : Sl Lm S w vn xs) (h2 : Sl Lm S w vd ys) (h3 : xs.length ≤ L) (h4 : ys.length ≤ L) : RI S w s vn vd (rv s (val xs) (val ys)) (val xs) (val ys) L := ⟨⟨xs, h1, rfl, h3⟩, ⟨ys, h2, rfl, h4⟩, rfl⟩

theorem ri_q {S : Nat → Prop} {w : World} {vn vd : Value} {s : Bool} {xs ys : List Nat} {L : Nat} {q : Rat} (hq : Hid (rv s (val xs) (val ys) = q)) (h1 : Sl Lm S w vn xs) (h2 : Sl Lm S w vd ys) (h3 : xs.length ≤ L) (h4 : ys.length ≤ L) : RI S w s vn vd q (val xs) (val ys) L := ⟨⟨xs, h1, rfl, h3⟩, ⟨ys, h2, rfl, h4⟩, hq.out⟩

theorem may_m {S : Nat → Prop} (w : World) (s : Bool) (vn vd : Value) (xs ys : List Nat) (L : Nat) (m : Int) (hm : Hid ((if Like s xs ys (rv s (val xs) (val ys)) then (0 : Int) else 6) = m)) (hx : Sl Lm S w vn xs) (hy : Sl Lm S w vd ys) (hxl : xs.length ≤ L) (hyl : ys.length ≤ L) (hL1 : 1 ≤ L) (hl : L ≤ 104857600) :
    Calls Tryz.prog 70 #[.agg #[.bool s, vn, vd]] w fun e w' => e = .returned (.int .i64 m) ∧ Fr (fun k => k < w.heap.size) w w' := by
  have := may_l w s vn vd xs ys L hx hy hxl hyl hL1 hl
  rwa [hm.out] at this
theorem rmay_m {S : Nat → Prop} (w : World) (s : Bool) (vn vd : Value) (xs ys : List Nat) (L : Nat) (m : Int) (hm : Hid ((if Like s xs ys (rv s (val xs) (val ys)) then (0 : Int) else 6) = m)) (hx : Sl Lm S w vn xs) (hy : Sl Lm S w vd ys) (hxl : xs.length ≤ L) (hyl : ys.length ≤ L) (hL1 : 1 ≤ L) (hl : L ≤ 104857600) :
    Calls Tryz.prog 52 #[.agg #[.bool s, vn, vd]] w fun e w' => e = .returned (.int .i64 m) ∧ Fr (fun k => k < w.heap.size) w w' := by
  have := rmay_l w s vn vd xs ys L hx hy hxl hyl hL1 hl
  rwa [hm.out] at this
theorem may_x {S : Nat → Prop} (w : World) (vn vd : Value) (q : Rat) (L : Nat) (h : RV S w vn vd q L) (hL1 : 1 ≤ L) (hl : L ≤ 104857600) :
    Calls Tryz.prog 70 #[.agg #[.bool (sg q), vn, vd]] w fun e w' => e = .returned (.int .i64 0) ∧ Fr (fun k => k < w.heap.size) w w' := by
  have := may_l w (sg q) vn vd _ _ L h.num.sl h.den.sl h.num.len h.den.len hL1 hl
  rwa [val_dg, val_dg, rv_self, if_pos ⟨rfl, rfl, rfl⟩] at this

theorem sign_lo (q : Rat) : -1 ≤ q.num.sign ∧ q.num.sign ≤ 1 := by
  rcases sign_cases q with h | h | h <;> omega
theorem prod_lo {c d : Int} (hc : -1 ≤ c ∧ c ≤ 1) (hd : -1 ≤ d ∧ d ≤ 1) : -1 ≤ c * d ∧ c * d ≤ 1 := by
  have h1 : c = -1 ∨ c = 0 ∨ c = 1 := by omega
  rcases h1 with rfl | rfl | rfl <;> omega

end Go.Proofs.YtlppcfeimpcbjaaGreat


/- rat.Same. -/
namespace Go.Proofs.YtlppcfeimpcbjaaGreat
open Go.RowKit

theorem rat_same {x y : Rat} (h1 : sg x = sg y) (h2 : dg LB x.num.natAbs = dg LB y.num.natAbs) (h3 : dg LB x.den = dg LB y.den) : x = y := by
  have e2 : x.num.natAbs = y.num.natAbs := by have := congrArg val h2; rwa [val_dg, val_dg] at this
  have e3 : x.den = y.den := by have := congrArg val h3; rwa [val_dg, val_dg] at this
  rw [← rv_self x, ← rv_self y, h1, e2, e3]
theorem limbs_z {S T : Nat → Prop} (w : World) (va vb : Value) (xs ys : List Nat) (b : Bool) (hb : Hid (decide (xs = ys) = b)) (h1 : Sl Lm S w va xs) (h2 : Sl Lm T w vb ys) :
    Calls Tryz.prog 107 #[va, vb] w fun e w' => e = .returned (.bool b) ∧ Fr (fun k => k < w.heap.size) w w' := by
  have := limbs_calls w va vb xs ys h1 h2
  rwa [hb.out] at this

set_option maxHeartbeats 4000000 in
theorem rsame_z {S T : Nat → Prop} (w : World) (s t : Bool) (vn vd un ud : Value) (x y : Rat) (N D M E L : Nat) (b : Bool) (hb : Hid (decide (x = y) = b)) (hx : RI S w s vn vd x N D L) (hy : RI T w t un ud y M E L) (hL1 : 1 ≤ L) (hl : L ≤ 104857600) :
    Calls Tryz.prog 66 #[.agg #[.bool s, vn, vd], .agg #[.bool t, un, ud]] w fun e w' => e = .returned (.bool b) ∧ Fr (fun k => k < w.heap.size) w w' := by
  obtain ⟨⟨A1, n1, c1, rfl⟩, ⟨A2, n2, c2, rfl⟩⟩ := hx.form
  obtain ⟨⟨A3, n3, c3, rfl⟩, ⟨A4, n4, c4, rfl⟩⟩ := hy.form
  have F := ((Fr.refl (fun k => k < w.heap.size) w).alloc (.cells #[.bool s, .slice A1 n1 c1, .slice A2 n2 c2] 54)).alloc (.cells #[.bool t, .slice A3 n3 c3, .slice A4 n4 c4] 54)
  have b1 := (Box3.new w 54 (.bool s) (.slice A1 n1 c1) (.slice A2 n2 c2)).alloc (.cells #[.bool t, .slice A3 n3 c3, .slice A4 n4 c4] 54)
  have b2 := Box3.new (w.alloc (.cells #[.bool s, .slice A1 n1 c1, .slice A2 n2 c2] 54)) 54 (.bool t) (.slice A3 n3 c3) (.slice A4 n4 c4)
  simp only [World.size_alloc] at b2
  generalize hW0 : ((w.alloc (.cells #[.bool s, .slice A1 n1 c1, .slice A2 n2 c2] 54)).alloc (.cells #[.bool t, .slice A3 n3 c3, .slice A4 n4 c4] 54)) = W0 at F b1 b2
  have FD := F.drew
  have dr : ∀ R, Fr R W0 W0.drew := fun R => (Fr.refl R W0).drew
  have hxD := (hx.keep F).keep (dr _)
  have hyD := (hy.keep F).keep (dr _)
  have x1 := b1.keep (dr _)
  have x2 := b2.keep (dr _)
  have p0 := x1.c0; have p1 := x1.c1; have p2 := x1.c2
  have q0 := x2.c0; have q1 := x2.c1; have q2 := x2.c2
  have hl1 : L ≤ 1048576000 := by omega
  clear hx hy b1 b2 F
  go_enter Tryz.func66, Tryz.ntmps66
  go_wp2_with fail
  clear hW0
  go_region_with (first
    | ((with_reducible refine (norm_n _ s (.slice A1 n1 c1) (.slice A2 n2 c2) x N D L hxD hL1 hl1).mono ?_); rintro e w1 ⟨v1, v2, rfl, h1, hf1⟩; obtain ⟨⟨B1, m1, k1, rfl⟩, ⟨B2, m2, k2, rfl⟩⟩ := h1.form; have y1 := x1.keep hf1; have y2 := x2.keep hf1; have r0 := y2.c0; have r1 := y2.c1; have r2 := y2.c2)
    | ((with_reducible refine (norm_n _ t (.slice A3 n3 c3) (.slice A4 n4 c4) y M E L (hyD.keep hf1) hL1 hl1).mono ?_); rintro e w2 ⟨v1, v2, rfl, h2, hf2⟩; obtain ⟨⟨B3, m3, k3, rfl⟩, ⟨B4, m4, k4, rfl⟩⟩ := h2.form; have z1 := y1.keep hf2; have z2 := y2.keep hf2; have u0 := z1.c0; have u1 := z1.c1; have u2 := z1.c2; have g0 := z1.free 0; have g1 := z1.free 1; have g2 := z1.free 2; have e0 := z2.c0; have e1 := z2.c1; have e2 := z2.c2; have i0 := z2.free 0; have i1 := z2.free 1; have i2 := z2.free 2))
  all_goals
    have Za := z1.set3 (.bool (sg x)) (.slice B1 m1 k1) (.slice B2 m2 k2)
    have Ga := fr_set3 w2 w.heap.size (.bool (sg x)) (.slice B1 m1 k1) (.slice B2 m2 k2)
    have Zb := (z2.fr Ga (by omega)).set3 (.bool (sg y)) (.slice B3 m3 k3) (.slice B4 m4 k4)
    have Gb := fr_set3 (((w2.setCell ⟨w.heap.size, 0, none⟩ (.bool (sg x))).setCell ⟨w.heap.size, 1, none⟩ (.slice B1 m1 k1)).setCell ⟨w.heap.size, 2, none⟩ (.slice B2 m2 k2)) (w.heap.size + 1) (.bool (sg y)) (.slice B3 m3 k3) (.slice B4 m4 k4)
    have Zc := Za.fr Gb (by omega)
    have G4 := Ga.comp Gb (R := fun k => k ≠ w.heap.size ∧ k ≠ w.heap.size + 1) fun k _ hk => hk
    have s1 := x2.lt
    have s2 := hf1.size
    have F4 := (fr_then (fr_then FD hf1) hf2).comp G4 fun k hk h => ⟨h, by omega⟩
    have hX := (h1.keep hf2).out (b := w.heap.size + 1 + 1) G4 (fun k hk => by omega) (by omega)
    have hZ := h2.out (b := w.heap.size + 1 + 1) G4 (fun k hk => by omega) (by omega)
    generalize hw4 : World.setCell _ ⟨w.heap.size + 1, 2, none⟩ _ = w4 at Zb Zc F4 hX hZ ⊢
    clear hw4 Za Ga Gb G4 s1 s2 x1 x2 y1 y2 z1 z2 h1 h2 hf1 hf2 hxD hyD FD dr p0 p1 p2 q0 q1 q2 r0 r1 r2 u0 u1 u2 g0 g1 g2 e0 e1 e2 i0 i1 i2
    have c0 := Zc.c0; have c1 := Zc.c1; have c2 := Zc.c2
    have d0 := Zb.c0; have d1 := Zb.c1; have d2 := Zb.c2
    by_cases hs : sg x = sg y
    · have hsb : (sg x == sg y) = true := beq_iff_eq.2 hs
      by_cases hn : dg LB x.num.natAbs = dg LB y.num.natAbs
      · have N1 := Lib.hid (show decide (dg LB x.num.natAbs = dg LB y.num.natAbs) = true from decide_eq_true hn)
        have N2 := Lib.hid (show decide (dg LB x.den = dg LB y.den) = b by
          rw [← hb.out]
          by_cases hd : dg LB x.den = dg LB y.den
          · rw [decide_eq_true hd, decide_eq_true (rat_same hs hn hd)]
          · rw [decide_eq_false hd, decide_eq_false fun e => hd (by rw [e])])
        clear hs hn hb
        go_wp2_with fail
        refine (limbs_z _ _ _ _ _ true N1 hX.num.sl hZ.num.sl).mono ?_
        rintro e w5 ⟨rfl, hf⟩
        replace c2 := (Zc.keep hf).c2
        replace d2 := (Zb.keep hf).c2
        replace F4 := fr_then F4 hf
        replace hX := hX.keep hf
        replace hZ := hZ.keep hf
        clear hf
        go_wp2_with fail
        refine (limbs_z _ _ _ _ _ b N2 hX.den.sl hZ.den.sl).mono ?_
        rintro e w6 ⟨rfl, hf⟩
        go_wp2_with fail
        go_ret
        exact ⟨rfl, fr_then F4 hf⟩
      · have N1 := Lib.hid (show decide (dg LB x.num.natAbs = dg LB y.num.natAbs) = false from decide_eq_false hn)
        have hbf : b = false := by rw [← hb.out]; exact decide_eq_false fun e => hn (by rw [e])
        clear hs hn hb
        subst hbf
        go_wp2_with fail
        refine (limbs_z _ _ _ _ _ false N1 hX.num.sl hZ.num.sl).mono ?_
        rintro e w5 ⟨rfl, hf⟩
        go_wp2_with fail
        go_ret
        exact ⟨rfl, fr_then F4 hf⟩
    · have hsb : (sg x == sg y) = false := beq_eq_false_iff_ne.2 hs
      have hbf : b = false := by rw [← hb.out]; exact decide_eq_false fun e => hs (by rw [e])
      clear hs hb
      subst hbf
      go_wp2_with fail
      go_ret
      exact ⟨rfl, F4⟩
end Go.Proofs.YtlppcfeimpcbjaaGreat


/- New variables filled by calls in a region that draws its order; law03's same. -/
namespace Go.Proofs.YtlppcfeimpcbjaaGreat
open Go.RowKit

theorem frA {S : Nat → Prop} {a b : World} (h : Fr S a b.drew) (o : Obj) : Fr S a (b.alloc o).drew := h.alloc o
theorem frAA {S : Nat → Prop} {a b : World} (h : Fr S a b.drew) (o p : Obj) : Fr S a ((b.alloc o).alloc p).drew := (h.alloc o).alloc p
theorem fr3 {n : Nat} {a u : World} {b : Nat} {x y z : Value} (h : Fr (fun k => k < n) a u) (hb : n ≤ b) : Fr (fun k => k < n) a (((u.setCell ⟨b, 0, none⟩ x).setCell ⟨b, 1, none⟩ y).setCell ⟨b, 2, none⟩ z) := h.comp (fr_set3 u b x y z) fun k _ hk => ⟨hk, by omega⟩
theorem Box3.newd (w : World) (t : TypeId) (x y z : Value) : Box3 (w.alloc (.cells #[x, y, z] t)).drew w.heap.size t x y z := Box3.new w t x y z
theorem Box3.newdd (w : World) (t : TypeId) (x y z : Value) (o : Obj) : Box3 ((w.alloc (.cells #[x, y, z] t)).alloc o).drew w.heap.size t x y z := (Box3.new w t x y z).alloc o
theorem Box3.new' (w : World) (o : Obj) (t : TypeId) (x y z : Value) : Box3 ((w.alloc o).alloc (.cells #[x, y, z] t)) (w.heap.size + 1) t x y z := by
  have h := Box3.new (w.alloc o) t x y z
  rwa [World.size_alloc] at h
theorem size1 {w u : World} {o : Obj} (h : Fr (fun k => k < (w.alloc o).heap.size) (w.alloc o) u) : w.heap.size + 1 ≤ u.heap.size := by have := h.size; rwa [World.size_alloc] at this
theorem size2 {w u : World} {o p : Obj} (h : Fr (fun k => k < ((w.alloc o).alloc p).heap.size) ((w.alloc o).alloc p) u) : w.heap.size + 1 ≤ u.heap.size := by have := h.size; rw [World.size_alloc, World.size_alloc] at this; omega
theorem sizeA {w u : World} {o : Obj} (h : Fr (fun k => k < ((w.alloc o).drew).heap.size) (w.alloc o).drew u) : w.heap.size + 1 ≤ u.heap.size := by have : (w.alloc o).heap.size ≤ u.heap.size := h.size; rwa [World.size_alloc] at this
theorem sizeAA {w u : World} {o p : Obj} (h : Fr (fun k => k < (((w.alloc o).alloc p).drew).heap.size) ((w.alloc o).alloc p).drew u) : w.heap.size + 1 ≤ u.heap.size := by have : ((w.alloc o).alloc p).heap.size ≤ u.heap.size := h.size; rw [World.size_alloc, World.size_alloc] at this; omega

/-- limbs don't lie in a block of three cells of other kinds -/
theorem Sl.notin {k : IntKind} {m : Nat} {S : Nat → Prop} {w : World} {v : Value} {xs : List Nat} {b : Nat} {t : TypeId} {p : Bool} {a1 a2 : Option Addr} {n1 c1 n2 c2 : Nat} (h : Sl (Kd.nat k m) S w v xs) (hb : Box3 w b t (.bool p) (.slice a1 n1 c1) (.slice a2 n2 c2)) : Sl (Kd.nat k m) (fun j => j ≠ b) w v xs := by
  obtain ⟨A, c, e, h1, h2, h3, h4⟩ := h
  refine ⟨A, c, e, h1, h2, h3, fun hp => ?_⟩
  obtain ⟨ad, e1, hS, hr⟩ := h4 hp
  refine ⟨ad, e1, fun hbl => ?_, fun i x hx => ?_⟩
  · obtain ⟨cs, hcs, hc⟩ := hr 0 (xs[0]'(hp)) (List.getElem?_eq_getElem hp)
    have h5 := Kd.cells_size hcs (by simp [Kd.nat])
    obtain ⟨u, hu⟩ := h5
    have h6 := hc 0 u hu
    have h7 : cs = [.int k (xs[0]'(hp) : Int)] := hcs.1
    rw [h7] at hu
    simp at hu
    subst hu
    simp only [Nat.zero_mul, Nat.add_zero] at h6
    rw [show ad.add 0 = ad from addr_zero ad] at h6
    obtain ⟨bb, off, sp⟩ := ad
    dsimp only at hbl
    subst hbl
    have hb' : w.heap[bb]? = some (.cells #[.bool p, .slice a1 n1 c1, .slice a2 n2 c2] t (0, 0)) := hb
    unfold World.cell? at h6
    simp only [hb'] at h6
    by_cases hsp : sp.isSome
    · simp [hsp] at h6
    · simp only [hsp] at h6
      rcases off with _ | _ | _ | off
      · simp at h6
      · simp at h6
      · simp at h6
      · simp at h6
  · exact hr i x hx
/-- what is told by limbs or digits stays, where a block of three other cells is written anew -/
theorem Sl.over {k : IntKind} {m : Nat} {S : Nat → Prop} {w : World} {v : Value} {xs : List Nat} {b : Nat} {t : TypeId} {p : Bool} {a1 a2 : Option Addr} {n1 c1 n2 c2 : Nat} (h : Sl (Kd.nat k m) S w v xs) (hb : Box3 w b t (.bool p) (.slice a1 n1 c1) (.slice a2 n2 c2)) (x y z : Value) : Sl (Kd.nat k m) (fun _ => True) (((w.setCell ⟨b, 0, none⟩ x).setCell ⟨b, 1, none⟩ y).setCell ⟨b, 2, none⟩ z) v xs :=
  ((h.notin hb).fr (fr_set3 w b x y z)).mono fun _ _ => trivial
theorem RR.over {S : Nat → Prop} {w : World} {vn vd : Value} {q : Rat} {L b : Nat} {t : TypeId} {p : Bool} {a1 a2 : Option Addr} {n1 c1 n2 c2 : Nat} (h : RR S w vn vd q L) (hb : Box3 w b t (.bool p) (.slice a1 n1 c1) (.slice a2 n2 c2)) (x y z : Value) : RR (fun _ => True) (((w.setCell ⟨b, 0, none⟩ x).setCell ⟨b, 1, none⟩ y).setCell ⟨b, 2, none⟩ z) vn vd q L :=
  ⟨⟨Sl.over h.num.sl hb x y z, h.num.len⟩, ⟨Sl.over h.den.sl hb x y z, h.den.len⟩⟩
/-- two variables are filled -/
theorem leaf2 {n : Nat} {a U : World} {b5 b6 : Nat} {t : TypeId} {S T : Nat → Prop} {x y : Rat} {L : Nat} {s r : Bool} {A1 A2 A3 A4 : Option Addr} {n1 c1 n2 c2 n3 c3 n4 c4 : Nat}
    (x5 : Box3 U b5 t (.bool false) (.slice none 0 0) (.slice none 0 0)) (x6 : Box3 U b6 t (.bool false) (.slice none 0 0) (.slice none 0 0)) (hne : b5 ≠ b6) (ha : RR S U (.slice A1 n1 c1) (.slice A2 n2 c2) x L) (hb : RR T U (.slice A3 n3 c3) (.slice A4 n4 c4) y L) (G : Fr (fun k => k < n) a U) (l5 : n ≤ b5) (l6 : n ≤ b6) :
    Box3 ((((((U.setCell ⟨b5, 0, none⟩ (.bool s)).setCell ⟨b5, 1, none⟩ (.slice A1 n1 c1)).setCell ⟨b5, 2, none⟩ (.slice A2 n2 c2)).setCell ⟨b6, 0, none⟩ (.bool r)).setCell ⟨b6, 1, none⟩ (.slice A3 n3 c3)).setCell ⟨b6, 2, none⟩ (.slice A4 n4 c4)) b5 t (.bool s) (.slice A1 n1 c1) (.slice A2 n2 c2) ∧
    Box3 ((((((U.setCell ⟨b5, 0, none⟩ (.bool s)).setCell ⟨b5, 1, none⟩ (.slice A1 n1 c1)).setCell ⟨b5, 2, none⟩ (.slice A2 n2 c2)).setCell ⟨b6, 0, none⟩ (.bool r)).setCell ⟨b6, 1, none⟩ (.slice A3 n3 c3)).setCell ⟨b6, 2, none⟩ (.slice A4 n4 c4)) b6 t (.bool r) (.slice A3 n3 c3) (.slice A4 n4 c4) ∧
    RR (fun _ => True) ((((((U.setCell ⟨b5, 0, none⟩ (.bool s)).setCell ⟨b5, 1, none⟩ (.slice A1 n1 c1)).setCell ⟨b5, 2, none⟩ (.slice A2 n2 c2)).setCell ⟨b6, 0, none⟩ (.bool r)).setCell ⟨b6, 1, none⟩ (.slice A3 n3 c3)).setCell ⟨b6, 2, none⟩ (.slice A4 n4 c4)) (.slice A1 n1 c1) (.slice A2 n2 c2) x L ∧
    RR (fun _ => True) ((((((U.setCell ⟨b5, 0, none⟩ (.bool s)).setCell ⟨b5, 1, none⟩ (.slice A1 n1 c1)).setCell ⟨b5, 2, none⟩ (.slice A2 n2 c2)).setCell ⟨b6, 0, none⟩ (.bool r)).setCell ⟨b6, 1, none⟩ (.slice A3 n3 c3)).setCell ⟨b6, 2, none⟩ (.slice A4 n4 c4)) (.slice A3 n3 c3) (.slice A4 n4 c4) y L ∧
    Fr (fun k => k < n) a ((((((U.setCell ⟨b5, 0, none⟩ (.bool s)).setCell ⟨b5, 1, none⟩ (.slice A1 n1 c1)).setCell ⟨b5, 2, none⟩ (.slice A2 n2 c2)).setCell ⟨b6, 0, none⟩ (.bool r)).setCell ⟨b6, 1, none⟩ (.slice A3 n3 c3)).setCell ⟨b6, 2, none⟩ (.slice A4 n4 c4)) := by
  have y6 := x6.fr (fr_set3 U b5 (.bool s) (.slice A1 n1 c1) (.slice A2 n2 c2)) hne.symm
  exact ⟨(x5.set3 _ _ _).fr (fr_set3 _ b6 _ _ _) hne, y6.set3 _ _ _, (ha.over x5 _ _ _).over y6 _ _ _, (hb.over x5 _ _ _).over y6 _ _ _, fr3 (fr3 G l5) l6⟩

/-- A rational of the reference, as a function answered it. -/
def Got (u : World) (v : Value) (q : Rat) (L : Nat) : Prop := ∃ A n c B m k, v = .agg #[.bool (sg q), .slice A n c, .slice B m k] ∧ RR (fun _ => True) u (.slice A n c) (.slice B m k) q L
theorem Got.of {S : Nat → Prop} {u : World} {v1 v2 : Value} {q : Rat} {L : Nat} (h : RR S u v1 v2 q L) : Got u (.agg #[.bool (sg q), v1, v2]) q L := by
  obtain ⟨⟨A, n, c, rfl⟩, ⟨B, m, k, rfl⟩⟩ := h.form
  exact ⟨A, n, c, B, m, k, rfl, h.mono fun _ _ => trivial⟩
theorem Got.keep {u u' : World} {v : Value} {q : Rat} {L : Nat} (hf : Fr (fun k => k < u.heap.size) u u') (h : Got u v q L) : Got u' v q L := by
  obtain ⟨A, n, c, B, m, k, e, h⟩ := h
  exact ⟨A, n, c, B, m, k, e, h.keep hf⟩
/-- A new variable of three cells. -/
def Var3 (t : TypeId) (n : Nat) (u : World) (v : Value) : Prop := ∃ b, v = .pointer (some ⟨b, 0, none⟩) ∧ Box3 u b t (.bool false) (.slice none 0 0) (.slice none 0 0) ∧ n ≤ b
theorem Var3.keep {t : TypeId} {n : Nat} {u u' : World} {v : Value} (h : Var3 t n u v) (hf : Fr (fun k => k < u.heap.size) u u') : Var3 t n u' v := by
  obtain ⟨b, e, h, l⟩ := h
  exact ⟨b, e, h.keep hf, l⟩
theorem Var3.new {t : TypeId} {n : Nat} (u : World) (l : n ≤ u.heap.size) : Var3 t n (u.alloc (.cells #[.bool false, .slice none 0 0, .slice none 0 0] t)) (.pointer (some ⟨u.heap.size, 0, none⟩)) := ⟨_, rfl, Box3.new _ _ _ _ _, l⟩
theorem Var3.ne {t : TypeId} {n : Nat} {u : World} {v : Value} (h : Var3 t n u v) : v ≠ .pointer (some ⟨u.heap.size, 0, none⟩) := by
  obtain ⟨b, rfl, h, l⟩ := h
  intro e
  have hl := h.lt
  injection e with e
  injection e with e
  injection e with e
  omega

/-- Two calls and two allocs: what stands after some of them. -/
structure Bits (W : World) (t : TypeId) (G H : World → Value → Prop) (c : Nat) (p q : Bool) (u : World) (t5 t6 t8 t10 : Value) : Prop where
  fr : Fr (fun k => k < W.heap.size) W u
  x : p = true → Var3 t W.heap.size u t5
  y : q = true → Var3 t W.heap.size u t6
  ne : p = true → q = true → t5 ≠ t6
  g : 1 ≤ c → G u t8
  h : 2 ≤ c → H u t10
def Keeps (G : World → Value → Prop) : Prop := ∀ u u' v, Fr (fun k => k < u.heap.size) u u' → G u v → G u' v
def Pair (T : Value → Value → Value → Value → Act) (W : World) (t : TypeId) (G H : World → Value → Prop) (c : Nat) (p q : Bool) (a : Act) (u : World) : Prop := ∃ t5 t6 t8 t10, a = T t5 t6 t8 t10 ∧ Bits W t G H c p q u t5 t6 t8 t10
section
variable {W : World} {t : TypeId} {G H : World → Value → Prop} {c : Nat} {p q : Bool} {u : World} {t5 t6 t8 t10 : Value}
theorem Bits.left (h : Bits W t G H c false q u t5 t6 t8 t10) (kg : ∀ u u' v, Fr (fun k => k < u.heap.size) u u' → G u v → G u' v) (kh : ∀ u u' v, Fr (fun k => k < u.heap.size) u u' → H u v → H u' v) : Bits W t G H c true q (u.alloc (.cells #[.bool false, .slice none 0 0, .slice none 0 0] t)) (.pointer (some ⟨u.heap.size, 0, none⟩)) t6 t8 t10 := by
  have hf := (Fr.refl (fun k => k < u.heap.size) u).alloc (.cells #[.bool false, .slice none 0 0, .slice none 0 0] t)
  exact ⟨fr_then h.fr hf, fun _ => Var3.new u h.fr.size, fun hq => (h.y hq).keep hf, fun _ hq e => (h.y hq).ne e.symm, fun hc => kg _ _ _ hf (h.g hc), fun hc => kh _ _ _ hf (h.h hc)⟩
theorem Bits.right (h : Bits W t G H c p false u t5 t6 t8 t10) (kg : ∀ u u' v, Fr (fun k => k < u.heap.size) u u' → G u v → G u' v) (kh : ∀ u u' v, Fr (fun k => k < u.heap.size) u u' → H u v → H u' v) : Bits W t G H c p true (u.alloc (.cells #[.bool false, .slice none 0 0, .slice none 0 0] t)) t5 (.pointer (some ⟨u.heap.size, 0, none⟩)) t8 t10 := by
  have hf := (Fr.refl (fun k => k < u.heap.size) u).alloc (.cells #[.bool false, .slice none 0 0, .slice none 0 0] t)
  exact ⟨fr_then h.fr hf, fun hp => (h.x hp).keep hf, fun _ => Var3.new u h.fr.size, fun hp _ e => (h.x hp).ne e, fun hc => kg _ _ _ hf (h.g hc), fun hc => kh _ _ _ hf (h.h hc)⟩
theorem Bits.one (h : Bits W t G H 0 p q u t5 t6 t8 t10) {u' : World} {v : Value} (hf : Fr (fun k => k < u.heap.size) u u') (hg : G u' v) : Bits W t G H (0 + 1) p q u' t5 t6 v t10 :=
  ⟨fr_then h.fr hf, fun hp => (h.x hp).keep hf, fun hq => (h.y hq).keep hf, h.ne, fun _ => hg, fun h => absurd h (by decide)⟩
theorem Bits.two (h : Bits W t G H (0 + 1) p q u t5 t6 t8 t10) (kg : ∀ u u' v, Fr (fun k => k < u.heap.size) u u' → G u v → G u' v) {u' : World} {v : Value} (hf : Fr (fun k => k < u.heap.size) u u') (hg : H u' v) : Bits W t G H (0 + 1 + 1) p q u' t5 t6 t8 v :=
  ⟨fr_then h.fr hf, fun hp => (h.x hp).keep hf, fun hq => (h.y hq).keep hf, h.ne, fun _ => kg _ _ _ hf (h.g (Nat.le_refl 1)), fun _ => hg⟩
end

/-- A rational in its form, as it is read. -/
structure SV (u : World) (vn vd : Value) (q : Rat) (L : Nat) : Prop where
  num : Sl Lm (fun _ => True) u vn (dg LB q.num.natAbs)
  den : Sl Lm (fun _ => True) u vd (dg LB q.den)
  ln : (dg LB q.num.natAbs).length ≤ L
  ld : (dg LB q.den).length ≤ L
theorem SV.of {S : Nat → Prop} {u : World} {vn vd : Value} {q : Rat} {L : Nat} (h : RV S u vn vd q L) : SV u vn vd q L := ⟨h.num.sl.mono fun _ _ => trivial, h.den.sl.mono fun _ _ => trivial, h.num.len, h.den.len⟩
theorem SV.keep {u u' : World} {vn vd : Value} {q : Rat} {L : Nat} (h : SV u vn vd q L) (hf : Fr (fun k => k < u.heap.size) u u') : SV u' vn vd q L := ⟨h.num.keep' Lm_pos hf, h.den.keep' Lm_pos hf, h.ln, h.ld⟩
theorem SV.ri {u : World} {vn vd : Value} {q : Rat} {L : Nat} (h : SV u vn vd q L) : RI (fun _ => True) u (sg q) vn vd q q.num.natAbs q.den L := ⟨⟨_, h.num, val_dg _, h.ln⟩, ⟨_, h.den, val_dg _, h.ld⟩, rv_self q⟩
theorem SV.over {w : World} {vn vd : Value} {q : Rat} {L b : Nat} {t : TypeId} {p : Bool} {a1 a2 : Option Addr} {n1 c1 n2 c2 : Nat} (h : SV w vn vd q L) (hb : Box3 w b t (.bool p) (.slice a1 n1 c1) (.slice a2 n2 c2)) (x y z : Value) : SV (((w.setCell ⟨b, 0, none⟩ x).setCell ⟨b, 1, none⟩ y).setCell ⟨b, 2, none⟩ z) vn vd q L :=
  ⟨Sl.over h.num hb x y z, Sl.over h.den hb x y z, h.ln, h.ld⟩
theorem SV.form {w : World} {vn vd : Value} {q : Rat} {L : Nat} (h : SV w vn vd q L) : (∃ A n c, vn = .slice A n c) ∧ ∃ A n c, vd = .slice A n c := ⟨h.num.form, h.den.form⟩
theorem ris_sv {S : Nat → Prop} (w : World) (s t : Bool) (vn vd un ud : Value) (q p : Rat) (L K : Nat) (hq : RR S w vn vd q K) (hs : s = sg q) (hp : SV w un ud p L) (ht : t = sg p) (e : q = p) (hL : L ≤ 1099511620) :
    Calls Tryz.prog 86 #[.agg #[.bool s, vn, vd], .agg #[.bool t, un, ud]] w fun e w' => e = .returned (.bool true) ∧ Fr (fun k => k < w.heap.size) w w' := by
  subst e
  have h := ris_full w s t vn vd un ud q _ _ L K hq hs hp.num hp.den hp.ln hp.ld hL
  rwa [decide_eq_true (show Like t (dg LB q.num.natAbs) (dg LB q.den) q from ⟨ht, rfl, rfl⟩)] at h

/-- A copy that Own answered. -/
def Owned (s : Bool) (xs ys : List Nat) (u : World) (v : Value) : Prop := ∃ A n c B m k, v = .agg #[.bool s, .slice A n c, .slice B m k] ∧ Sl Lm (fun _ => True) u (.slice A n c) xs ∧ Sl Lm (fun _ => True) u (.slice B m k) ys
theorem Owned.of {S : Nat → Prop} {s : Bool} {u : World} {v1 v2 : Value} {xs ys : List Nat} (h : OL S u v1 v2 xs ys) : Owned s xs ys u (.agg #[.bool s, v1, v2]) := by
  obtain ⟨⟨A, n, c, rfl⟩, ⟨B, m, k, rfl⟩⟩ := h.form
  exact ⟨A, n, c, B, m, k, rfl, h.num.sl.mono fun _ _ => trivial, h.den.sl.mono fun _ _ => trivial⟩
theorem Owned.keep {s : Bool} {xs ys : List Nat} {u u' : World} {v : Value} (hf : Fr (fun k => k < u.heap.size) u u') (h : Owned s xs ys u v) : Owned s xs ys u' v := by
  obtain ⟨A, n, c, B, m, k, e, h1, h2⟩ := h
  exact ⟨A, n, c, B, m, k, e, h1.keep' Lm_pos hf, h2.keep' Lm_pos hf⟩
/-- What a division answered. -/
def DivT (s : Bool) (e : Value) (P : World → Value → Value → Prop) (u : World) (v : Value) : Prop := ∃ A n c B m k, v = .tuple #[.agg #[.bool s, .slice A n c, .slice B m k], e] ∧ P u (.slice A n c) (.slice B m k)
theorem DivT.keep {s : Bool} {e : Value} {P : World → Value → Value → Prop} (kp : ∀ u u' a b, Fr (fun k => k < u.heap.size) u u' → P u a b → P u' a b) {u u' : World} {v : Value} (hf : Fr (fun k => k < u.heap.size) u u') (h : DivT s e P u v) : DivT s e P u' v := by
  obtain ⟨A, n, c, B, m, k, e, h1⟩ := h
  exact ⟨A, n, c, B, m, k, e, kp _ _ _ _ hf h1⟩
/-- No quotient. -/
def NilP (_ : World) (a b : Value) : Prop := a = .slice none 0 0 ∧ b = .slice none 0 0

/-- One alloc, and calls: what stands after some of them. -/
structure Solo (W : World) (t : TypeId) (G1 G2 G3 : World → Value → Prop) (c : Nat) (p : Bool) (u : World) (t5 r1 r2 r3 : Value) : Prop where
  fr : Fr (fun k => k < W.heap.size) W u
  x : p = true → Var3 t W.heap.size u t5
  g1 : 1 ≤ c → G1 u r1
  g2 : 2 ≤ c → G2 u r2
  g3 : 3 ≤ c → G3 u r3
def One (T : Value → Value → Value → Value → Act) (W : World) (t : TypeId) (G1 G2 G3 : World → Value → Prop) (c : Nat) (p : Bool) (a : Act) (u : World) : Prop := ∃ t5 r1 r2 r3, a = T t5 r1 r2 r3 ∧ Solo W t G1 G2 G3 c p u t5 r1 r2 r3
section
variable {W : World} {t : TypeId} {G1 G2 G3 : World → Value → Prop} {c : Nat} {p : Bool} {u : World} {t5 r1 r2 r3 : Value}
theorem Solo.new (h : Solo W t G1 G2 G3 c false u t5 r1 r2 r3) (k1 : ∀ u u' v, Fr (fun k => k < u.heap.size) u u' → G1 u v → G1 u' v) (k2 : ∀ u u' v, Fr (fun k => k < u.heap.size) u u' → G2 u v → G2 u' v) (k3 : ∀ u u' v, Fr (fun k => k < u.heap.size) u u' → G3 u v → G3 u' v) : Solo W t G1 G2 G3 c true (u.alloc (.cells #[.bool false, .slice none 0 0, .slice none 0 0] t)) (.pointer (some ⟨u.heap.size, 0, none⟩)) r1 r2 r3 := by
  have hf := (Fr.refl (fun k => k < u.heap.size) u).alloc (.cells #[.bool false, .slice none 0 0, .slice none 0 0] t)
  exact ⟨fr_then h.fr hf, fun _ => Var3.new u h.fr.size, fun hc => k1 _ _ _ hf (h.g1 hc), fun hc => k2 _ _ _ hf (h.g2 hc), fun hc => k3 _ _ _ hf (h.g3 hc)⟩
theorem Solo.s1 (h : Solo W t G1 G2 G3 0 p u t5 r1 r2 r3) {u' : World} {v : Value} (hf : Fr (fun k => k < u.heap.size) u u') (hg : G1 u' v) : Solo W t G1 G2 G3 (0 + 1) p u' t5 v r2 r3 :=
  ⟨fr_then h.fr hf, fun hp => (h.x hp).keep hf, fun _ => hg, fun h => absurd h (by decide), fun h => absurd h (by decide)⟩
theorem Solo.s2 (h : Solo W t G1 G2 G3 (0 + 1) p u t5 r1 r2 r3) (k1 : ∀ u u' v, Fr (fun k => k < u.heap.size) u u' → G1 u v → G1 u' v) {u' : World} {v : Value} (hf : Fr (fun k => k < u.heap.size) u u') (hg : G2 u' v) : Solo W t G1 G2 G3 (0 + 1 + 1) p u' t5 r1 v r3 :=
  ⟨fr_then h.fr hf, fun hp => (h.x hp).keep hf, fun _ => k1 _ _ _ hf (h.g1 (Nat.le_refl 1)), fun _ => hg, fun h => absurd h (by decide)⟩
theorem Solo.s3 (h : Solo W t G1 G2 G3 (0 + 1 + 1) p u t5 r1 r2 r3) (k1 : ∀ u u' v, Fr (fun k => k < u.heap.size) u u' → G1 u v → G1 u' v) (k2 : ∀ u u' v, Fr (fun k => k < u.heap.size) u u' → G2 u v → G2 u' v) {u' : World} {v : Value} (hf : Fr (fun k => k < u.heap.size) u u') (hg : G3 u' v) : Solo W t G1 G2 G3 (0 + 1 + 1 + 1) p u' t5 r1 r2 v :=
  ⟨fr_then h.fr hf, fun hp => (h.x hp).keep hf, fun _ => k1 _ _ _ hf (h.g1 (by decide)), fun _ => k2 _ _ _ hf (h.g2 (by decide)), fun _ => hg⟩
theorem Solo.init {W : World} (hf : Fr (fun k => k < W.heap.size) W W) : Solo W t G1 G2 G3 0 false W t5 r1 r2 r3 :=
  ⟨hf, (fun h => by cases h), fun h => absurd h (by decide), fun h => absurd h (by decide), fun h => absurd h (by decide)⟩
end
theorem wpTill.via {P : Program} {md : Region.Mode} {ops : Array Oper} {Q : Exit → Act → World → Prop} {S : World → Prop} {j m n : Nat} {d : Array Bool} {a : Act} {w : World} (e : Array Bool) (J : Act → World → Prop) (H : ∀ a w, J a w → wpTill P md ops Q S j m e a w) (K : (∀ a w, J a w → wpTill P md ops Q S j m e a w) → wpTill P md ops Q S j n d a w) : wpTill P md ops Q S j n d a w := K H
theorem leaf1 {n : Nat} {a U : World} {b5 : Nat} {t : TypeId} {s : Bool} {v1 v2 : Value} (x5 : Box3 U b5 t (.bool false) (.slice none 0 0) (.slice none 0 0)) (G : Fr (fun k => k < n) a U) (l5 : n ≤ b5) :
    Box3 (((U.setCell ⟨b5, 0, none⟩ (.bool s)).setCell ⟨b5, 1, none⟩ v1).setCell ⟨b5, 2, none⟩ v2) b5 t (.bool s) v1 v2 ∧ Fr (fun k => k < n) a (((U.setCell ⟨b5, 0, none⟩ (.bool s)).setCell ⟨b5, 1, none⟩ v1).setCell ⟨b5, 2, none⟩ v2) :=
  ⟨x5.set3 _ _ _, fr3 G l5⟩
theorem RR.over' {w : World} {vn vd : Value} {q : Rat} {L b : Nat} {t : TypeId} {p : Bool} {a1 a2 : Option Addr} {n1 c1 n2 c2 : Nat} (h : RR (fun _ => True) w vn vd q L) (hb : Box3 w b t (.bool p) (.slice a1 n1 c1) (.slice a2 n2 c2)) (x y z : Value) : RR (fun _ => True) (((w.setCell ⟨b, 0, none⟩ x).setCell ⟨b, 1, none⟩ y).setCell ⟨b, 2, none⟩ z) vn vd q L := h.over hb x y z

/-- A rational of the program, as a function answered it. -/
def GotV (u : World) (v : Value) (q : Rat) (L : Nat) : Prop := ∃ A n c B m k, v = .agg #[.bool (sg q), .slice A n c, .slice B m k] ∧ SV u (.slice A n c) (.slice B m k) q L
theorem GotV.of {S : Nat → Prop} {u : World} {v1 v2 : Value} {q : Rat} {L : Nat} (h : RV S u v1 v2 q L) : GotV u (.agg #[.bool (sg q), v1, v2]) q L := by
  have h' := SV.of h
  obtain ⟨⟨A, n, c, rfl⟩, ⟨B, m, k, rfl⟩⟩ := h'.form
  exact ⟨A, n, c, B, m, k, rfl, h'⟩
theorem GotV.keep {u u' : World} {v : Value} {q : Rat} {L : Nat} (hf : Fr (fun k => k < u.heap.size) u u') (h : GotV u v q L) : GotV u' v q L := by
  obtain ⟨A, n, c, B, m, k, e, h⟩ := h
  exact ⟨A, n, c, B, m, k, e, h.keep hf⟩
/-- Two variables are filled. -/
theorem leaf2v {n : Nat} {a U : World} {b5 b6 : Nat} {t : TypeId} {x y : Rat} {L K : Nat} {s r : Bool} {A1 A2 A3 A4 : Option Addr} {n1 c1 n2 c2 n3 c3 n4 c4 : Nat}
    (x5 : Box3 U b5 t (.bool false) (.slice none 0 0) (.slice none 0 0)) (x6 : Box3 U b6 t (.bool false) (.slice none 0 0) (.slice none 0 0)) (hne : b5 ≠ b6) (ha : SV U (.slice A1 n1 c1) (.slice A2 n2 c2) x L) (hb : SV U (.slice A3 n3 c3) (.slice A4 n4 c4) y K) (G : Fr (fun k => k < n) a U) (l5 : n ≤ b5) (l6 : n ≤ b6) :
    Box3 ((((((U.setCell ⟨b5, 0, none⟩ (.bool s)).setCell ⟨b5, 1, none⟩ (.slice A1 n1 c1)).setCell ⟨b5, 2, none⟩ (.slice A2 n2 c2)).setCell ⟨b6, 0, none⟩ (.bool r)).setCell ⟨b6, 1, none⟩ (.slice A3 n3 c3)).setCell ⟨b6, 2, none⟩ (.slice A4 n4 c4)) b5 t (.bool s) (.slice A1 n1 c1) (.slice A2 n2 c2) ∧ Box3 ((((((U.setCell ⟨b5, 0, none⟩ (.bool s)).setCell ⟨b5, 1, none⟩ (.slice A1 n1 c1)).setCell ⟨b5, 2, none⟩ (.slice A2 n2 c2)).setCell ⟨b6, 0, none⟩ (.bool r)).setCell ⟨b6, 1, none⟩ (.slice A3 n3 c3)).setCell ⟨b6, 2, none⟩ (.slice A4 n4 c4)) b6 t (.bool r) (.slice A3 n3 c3) (.slice A4 n4 c4) ∧ SV ((((((U.setCell ⟨b5, 0, none⟩ (.bool s)).setCell ⟨b5, 1, none⟩ (.slice A1 n1 c1)).setCell ⟨b5, 2, none⟩ (.slice A2 n2 c2)).setCell ⟨b6, 0, none⟩ (.bool r)).setCell ⟨b6, 1, none⟩ (.slice A3 n3 c3)).setCell ⟨b6, 2, none⟩ (.slice A4 n4 c4)) (.slice A1 n1 c1) (.slice A2 n2 c2) x L ∧ SV ((((((U.setCell ⟨b5, 0, none⟩ (.bool s)).setCell ⟨b5, 1, none⟩ (.slice A1 n1 c1)).setCell ⟨b5, 2, none⟩ (.slice A2 n2 c2)).setCell ⟨b6, 0, none⟩ (.bool r)).setCell ⟨b6, 1, none⟩ (.slice A3 n3 c3)).setCell ⟨b6, 2, none⟩ (.slice A4 n4 c4)) (.slice A3 n3 c3) (.slice A4 n4 c4) y K ∧ Fr (fun k => k < n) a ((((((U.setCell ⟨b5, 0, none⟩ (.bool s)).setCell ⟨b5, 1, none⟩ (.slice A1 n1 c1)).setCell ⟨b5, 2, none⟩ (.slice A2 n2 c2)).setCell ⟨b6, 0, none⟩ (.bool r)).setCell ⟨b6, 1, none⟩ (.slice A3 n3 c3)).setCell ⟨b6, 2, none⟩ (.slice A4 n4 c4)) := by
  have y6 := x6.fr (fr_set3 U b5 (.bool s) (.slice A1 n1 c1) (.slice A2 n2 c2)) hne.symm
  exact ⟨(x5.set3 _ _ _).fr (fr_set3 _ b6 _ _ _) hne, y6.set3 _ _ _, (ha.over x5 _ _ _).over y6 _ _ _, (hb.over x5 _ _ _).over y6 _ _ _, fr3 (fr3 G l5) l6⟩
end Go.Proofs.YtlppcfeimpcbjaaGreat


/- The law's known: chapter 03's rows. -/
import Derived.Test.YtodpbkcdcchljaaRatL
namespace Go.Proofs.Ytodpbkcdcchljaa
open Go.RowKit

theorem kf1 : fr 5 6 = fr 1 2 + fr 1 3 := by decide +kernel
theorem kf2 : fr 1 6 = fr 1 2 - fr 1 3 := by decide +kernel
theorem kf3 : fr 1 6 = fr 1 2 * fr 1 3 := by decide +kernel
theorem kf4 : fr 3 2 = fr 1 2 / fr 1 3 := by decide +kernel
theorem kf5 : fr (-3) 2 = fr 6 (-4) := by decide +kernel
theorem kf6 : fr 1 3 ≠ 0 := by decide +kernel
theorem kf7 : (fr 3 8).num.natAbs = 3 := by decide +kernel
theorem kf8 : (fr 3 8).den = 8 := by decide +kernel
theorem kf9 : blen 3 = 2 := blen_of (by decide) (by decide)
theorem kf10 : blen 8 = 4 := blen_of (by decide) (by decide)
theorem kl1 : ¬ Like false [2] [4] (rv false (val [2]) (val [4])) := by
  intro h
  have h2 := h.2.2
  rw [show (rv false (val [2]) (val [4])).den = 2 from by decide +kernel] at h2
  have h3 := congrArg (ofB LB) h2
  rw [ofB_dg LB2] at h3
  exact absurd h3 (by decide)
theorem kl2 : ¬ Like false [] [5] (rv false (val []) (val [5])) := by
  intro h
  have h2 := h.2.2
  rw [show (rv false (val []) (val [5])).den = 1 from by decide +kernel] at h2
  have h3 := congrArg (ofB LB) h2
  rw [ofB_dg LB2] at h3
  exact absurd h3 (by decide)
theorem kl3 : ¬ Like false [3] [] (rv false (val [3]) (val [])) := by
  intro h
  have h2 := h.2.2
  rw [show (rv false (val [3]) (val [])).den = 1 from by decide +kernel] at h2
  have h3 := congrArg (ofB LB) h2
  rw [ofB_dg LB2] at h3
  exact absurd h3 (by decide)

theorem sl_one {w : World} {b : Nat} (x : Nat) (hx : x < LB) (hb : w.heap[b]? = some (.cells #[.int .u32 (x : Int)] 62)) : Sl Lm (fun k => k < w.heap.size) w (.slice (some ⟨b, 0, none⟩) 1 1) [x] :=
  sl_lit [x] [.int .u32 (x : Int)] rfl (by simpa using hx) (by simp) hb

theorem heap_a (u : World) (c d : Obj) : ((u.alloc c).alloc d).heap[u.heap.size]? = some c := (Below.heap_alloc (u.alloc c) d u.heap.size (by simp)).trans (heap_alloc_new u c)
theorem heap_b (u : World) (c d : Obj) : ((u.alloc c).alloc d).heap[u.heap.size + 1]? = some d := by
  have h := heap_alloc_new (u.alloc c) d
  rwa [World.size_alloc] at h

theorem may_24 (w : World) (a b : Nat) (ha : w.heap[a]? = some (.cells #[.int .u32 2] 62)) (hb : w.heap[b]? = some (.cells #[.int .u32 4] 62)) :
    Calls Try.prog 14 #[.agg #[.bool false, .slice (some ⟨a, 0, none⟩) 1 1, .slice (some ⟨b, 0, none⟩) 1 1]] w fun e w' => e = .returned (.int .i64 6) ∧ Fr (fun k => k < w.heap.size) w w' := by
  have h := may_l w false _ _ [2] [4] 1 (sl_one 2 (by decide) ha) (sl_one 4 (by decide) hb) (by decide) (by decide) (by decide) (by decide)
  rwa [if_neg kl1] at h
theorem may_5 (w : World) (b : Nat) (hb : w.heap[b]? = some (.cells #[.int .u32 5] 62)) :
    Calls Try.prog 14 #[.agg #[.bool false, .slice none 0 0, .slice (some ⟨b, 0, none⟩) 1 1]] w fun e w' => e = .returned (.int .i64 6) ∧ Fr (fun k => k < w.heap.size) w w' := by
  have h := may_l w false _ _ [] [5] 1 (Sl.nil _ _ _) (sl_one 5 (by decide) hb) (by decide) (by decide) (by decide) (by decide)
  rwa [if_neg kl2] at h
theorem may_3 (w : World) (a : Nat) (ha : w.heap[a]? = some (.cells #[.int .u32 3] 62)) :
    Calls Try.prog 14 #[.agg #[.bool false, .slice (some ⟨a, 0, none⟩) 1 1, .slice none 0 0]] w fun e w' => e = .returned (.int .i64 6) ∧ Fr (fun k => k < w.heap.size) w w' := by
  have h := may_l w false _ _ [3] [] 1 (sl_one 3 (by decide) ha) (Sl.nil _ _ _) (by decide) (by decide) (by decide) (by decide)
  rwa [if_neg kl3] at h
theorem bits_38 {S : Nat → Prop} (w : World) (vn vd : Value) (h : RV S w vn vd (fr 3 8) 2) :
    Calls Try.prog 43 #[.agg #[.bool (sg (fr 3 8)), vn, vd]] w fun e w' => e = .returned (.int .i64 4) ∧ Fr (fun k => k < w.heap.size) w w' := by
  have h := rbits_n w _ _ _ _ _ _ 2 h.ri (by decide) (by decide)
  rwa [kf7, kf8, kf9, kf10, show max ((2 : Nat) : Int) ((4 : Nat) : Int) = 4 from by decide] at h
theorem lf (w : World) (p q : Int) (hp : -1000 ≤ p ∧ p ≤ 1000) (hq : -1000 ≤ q ∧ q ≤ 1000) :
    Calls Try.prog 50 #[.int .i64 p, .int .i64 q] w fun e w' => ∃ v1 v2, e = .returned (.agg #[.bool (sg (fr p q)), v1, v2]) ∧ RR (fun k => w.heap.size ≤ k) w' v1 v2 (fr p q) 6 ∧ Fr (fun k => k < w.heap.size) w w' :=
  lawfrac_r w p q (by omega) (by omega) (by omega) (by omega)
theorem fc (w : World) (p q : Int) (hp : -1000 ≤ p ∧ p ≤ 1000) (hq : -1000 ≤ q ∧ q ≤ 1000) (h : q ≠ 0) :
    Calls Try.prog 23 #[.int .i64 p, .int .i64 q] w fun e w' => ∃ v1 v2, e = .returned (.tuple #[.agg #[.bool (sg (fr p q)), v1, v2], .int .i64 0]) ∧ RV (fun k => w.heap.size ≤ k) w' v1 v2 (fr p q) 2 ∧ Fr (fun k => k < w.heap.size) w w' :=
  frac_n w p q (by omega) (by omega) (by omega) (by omega) h

set_option maxRecDepth 20000 in
set_option maxHeartbeats 16000000 in
theorem rknown (w : World) : Calls Try.prog 18 #[] w fun e w' => e = .returned (.bool true) ∧ Fr (fun k => k < w.heap.size) w w' := by
  go_enter Try.func18, Try.ntmps18
  go_wp2_with fail
  refine (fc _ (1) (2) (by decide) (by decide) (by decide)).mono ?_
  rintro e w1 ⟨v1, v2, rfl, q1, hf⟩
  obtain ⟨⟨A1, n1, c1, rfl⟩, ⟨B1, m1, k1, rfl⟩⟩ := q1.form
  have al := fun R => (Fr.refl R w1).alloc (.cells #[.bool (sg (fr 1 2)), .slice A1 n1 c1, .slice B1 m1 k1] 25)
  have x1 := Box3.new w1 25 (.bool (sg (fr 1 2))) (.slice A1 n1 c1) (.slice B1 m1 k1)
  replace q1 := q1.keep (al _)
  have F := fr_then hf (al _)
  clear hf al
  go_wp2_with fail
  refine (fc _ (1) (3) (by decide) (by decide) (by decide)).mono ?_
  rintro e w2 ⟨v1, v2, rfl, q2, hf⟩
  obtain ⟨⟨A2, n2, c2, rfl⟩, ⟨B2, m2, k2, rfl⟩⟩ := q2.form
  have al := fun R => (Fr.refl R w2).alloc (.cells #[.bool (sg (fr 1 3)), .slice A2 n2 c2, .slice B2 m2 k2] 25)
  have x2 := Box3.new w2 25 (.bool (sg (fr 1 3))) (.slice A2 n2 c2) (.slice B2 m2 k2)
  replace x1 := (x1.keep hf).keep (al _)
  replace q1 := (q1.keep hf).keep (al _)
  replace q2 := q2.keep (al _)
  replace F := fr_then (fr_then F hf) (al _)
  clear hf al
  have a1 := x1.c0; have b1 := x1.c1; have d1 := x1.c2
  have a2 := x2.c0; have b2 := x2.c1; have d2 := x2.c2
  go_wp2_with fail
  refine (rdiv_n _ _ _ _ _ _ _ _ _ _ _ _ _ 2 q1.ri q2.ri kf6 (by decide) (by decide)).mono ?_
  rintro e w3 ⟨v1, v2, rfl, q3, hf⟩
  obtain ⟨⟨A3, n3, c3, rfl⟩, ⟨B3, m3, k3, rfl⟩⟩ := q3.form
  clear a1 b1 d1 a2 b2 d2
  have al := fun R => (Fr.refl R w3).alloc (.cells #[.bool (sg (fr 1 2 / fr 1 3)), .slice A3 n3 c3, .slice B3 m3 k3] 25)
  have x3 := Box3.new w3 25 (.bool (sg (fr 1 2 / fr 1 3))) (.slice A3 n3 c3) (.slice B3 m3 k3)
  replace x1 := (x1.keep hf).keep (al _)
  replace q1 := (q1.keep hf).keep (al _)
  replace x2 := (x2.keep hf).keep (al _)
  replace q2 := (q2.keep hf).keep (al _)
  replace q3 := q3.keep (al _)
  replace F := fr_then (fr_then F hf) (al _)
  clear hf al
  go_wp2_with fail
  refine (fc _ (6) (-4) (by decide) (by decide) (by decide)).mono ?_
  rintro e w4 ⟨v1, v2, rfl, q4, hf⟩
  obtain ⟨⟨A4, n4, c4, rfl⟩, ⟨B4, m4, k4, rfl⟩⟩ := q4.form
  have al := fun R => (Fr.refl R w4).alloc (.cells #[.bool (sg (fr 6 (-4))), .slice A4 n4 c4, .slice B4 m4 k4] 25)
  have x4 := Box3.new w4 25 (.bool (sg (fr 6 (-4)))) (.slice A4 n4 c4) (.slice B4 m4 k4)
  replace x1 := (x1.keep hf).keep (al _)
  replace q1 := (q1.keep hf).keep (al _)
  replace x2 := (x2.keep hf).keep (al _)
  replace q2 := (q2.keep hf).keep (al _)
  replace x3 := (x3.keep hf).keep (al _)
  replace q3 := (q3.keep hf).keep (al _)
  replace q4 := q4.keep (al _)
  replace F := fr_then (fr_then F hf) (al _)
  clear hf al
  go_wp2_with fail
  refine (fc _ (3) (8) (by decide) (by decide) (by decide)).mono ?_
  rintro e w5 ⟨v1, v2, rfl, q5, hf⟩
  obtain ⟨⟨A5, n5, c5, rfl⟩, ⟨B5, m5, k5, rfl⟩⟩ := q5.form
  have al := fun R => (Fr.refl R w5).alloc (.cells #[.bool (sg (fr 3 8)), .slice A5 n5 c5, .slice B5 m5 k5] 25)
  have x5 := Box3.new w5 25 (.bool (sg (fr 3 8))) (.slice A5 n5 c5) (.slice B5 m5 k5)
  replace x1 := (x1.keep hf).keep (al _)
  replace q1 := (q1.keep hf).keep (al _)
  replace x2 := (x2.keep hf).keep (al _)
  replace q2 := (q2.keep hf).keep (al _)
  replace x3 := (x3.keep hf).keep (al _)
  replace q3 := (q3.keep hf).keep (al _)
  replace x4 := (x4.keep hf).keep (al _)
  replace q4 := (q4.keep hf).keep (al _)
  replace q5 := q5.keep (al _)
  replace F := fr_then (fr_then F hf) (al _)
  clear hf al
  generalize hW : w5.alloc (.cells #[.bool (sg (fr 3 8)), .slice A5 n5 c5, .slice B5 m5 k5] 25) = W at F x1 x2 x3 x4 x5 q1 q2 q3 q4 q5
  have dr : ∀ R, Fr R W W.drew := fun R => (Fr.refl R W).drew
  replace x1 := x1.keep (dr _)
  replace q1 := q1.keep (dr _)
  replace x2 := x2.keep (dr _)
  replace q2 := q2.keep (dr _)
  replace x3 := x3.keep (dr _)
  replace q3 := q3.keep (dr _)
  replace x4 := x4.keep (dr _)
  replace q4 := q4.keep (dr _)
  replace x5 := x5.keep (dr _)
  replace q5 := q5.keep (dr _)
  replace F := F.drew
  have KS : ∀ u, Fr (fun k => k < W.drew.heap.size) W.drew u → u.cell? ⟨w1.heap.size, 0, none⟩ = some (.bool (sg (fr 1 2))) ∧ u.cell? ⟨w1.heap.size, 1, none⟩ = some (.slice A1 n1 c1) ∧ u.cell? ⟨w1.heap.size, 2, none⟩ = some (.slice B1 m1 k1) ∧ u.cell? ⟨w2.heap.size, 0, none⟩ = some (.bool (sg (fr 1 3))) ∧ u.cell? ⟨w2.heap.size, 1, none⟩ = some (.slice A2 n2 c2) ∧ u.cell? ⟨w2.heap.size, 2, none⟩ = some (.slice B2 m2 k2) ∧ u.cell? ⟨w3.heap.size, 0, none⟩ = some (.bool (sg (fr 1 2 / fr 1 3))) ∧ u.cell? ⟨w3.heap.size, 1, none⟩ = some (.slice A3 n3 c3) ∧ u.cell? ⟨w3.heap.size, 2, none⟩ = some (.slice B3 m3 k3) ∧ u.cell? ⟨w4.heap.size, 0, none⟩ = some (.bool (sg (fr 6 (-4)))) ∧ u.cell? ⟨w4.heap.size, 1, none⟩ = some (.slice A4 n4 c4) ∧ u.cell? ⟨w4.heap.size, 2, none⟩ = some (.slice B4 m4 k4) ∧ u.cell? ⟨w5.heap.size, 0, none⟩ = some (.bool (sg (fr 3 8))) ∧ u.cell? ⟨w5.heap.size, 1, none⟩ = some (.slice A5 n5 c5) ∧ u.cell? ⟨w5.heap.size, 2, none⟩ = some (.slice B5 m5 k5) := fun u h => ⟨(x1.keep h).c0, (x1.keep h).c1, (x1.keep h).c2, (x2.keep h).c0, (x2.keep h).c1, (x2.keep h).c2, (x3.keep h).c0, (x3.keep h).c1, (x3.keep h).c2, (x4.keep h).c0, (x4.keep h).c1, (x4.keep h).c2, (x5.keep h).c0, (x5.keep h).c1, (x5.keep h).c2⟩
  have G := Fr.refl (fun k => k < W.drew.heap.size) W.drew
  clear dr x1 x2 x3 x4 x5
  go_wp2_with fail
  clear hW
  dsimp only [List.append]
  go_region_held3 (fun u => u.cell? ⟨w1.heap.size, 0, none⟩ = some (.bool (sg (fr 1 2))) ∧ u.cell? ⟨w1.heap.size, 1, none⟩ = some (.slice A1 n1 c1) ∧ u.cell? ⟨w1.heap.size, 2, none⟩ = some (.slice B1 m1 k1) ∧ u.cell? ⟨w2.heap.size, 0, none⟩ = some (.bool (sg (fr 1 3))) ∧ u.cell? ⟨w2.heap.size, 1, none⟩ = some (.slice A2 n2 c2) ∧ u.cell? ⟨w2.heap.size, 2, none⟩ = some (.slice B2 m2 k2) ∧ u.cell? ⟨w3.heap.size, 0, none⟩ = some (.bool (sg (fr 1 2 / fr 1 3))) ∧ u.cell? ⟨w3.heap.size, 1, none⟩ = some (.slice A3 n3 c3) ∧ u.cell? ⟨w3.heap.size, 2, none⟩ = some (.slice B3 m3 k3) ∧ u.cell? ⟨w4.heap.size, 0, none⟩ = some (.bool (sg (fr 6 (-4)))) ∧ u.cell? ⟨w4.heap.size, 1, none⟩ = some (.slice A4 n4 c4) ∧ u.cell? ⟨w4.heap.size, 2, none⟩ = some (.slice B4 m4 k4) ∧ u.cell? ⟨w5.heap.size, 0, none⟩ = some (.bool (sg (fr 3 8))) ∧ u.cell? ⟨w5.heap.size, 1, none⟩ = some (.slice A5 n5 c5) ∧ u.cell? ⟨w5.heap.size, 2, none⟩ = some (.slice B5 m5 k5)) (first | (with_reducible exact KS _ G) | (with_reducible exact KS _ (G.alloc _)) | (with_reducible exact KS _ ((G.alloc _).alloc _))) (first
    | ((with_reducible refine (lf _ (5) (6) (by decide) (by decide)).mono ?_); rintro e wa ⟨v1, v2, rfl, hR, hf⟩; obtain ⟨⟨C1, i1, j1, rfl⟩, ⟨C2, i2, j2, rfl⟩⟩ := hR.form; first | (with_reducible have G := fr_then G hf) | (with_reducible have G := fr_then (G.alloc _) hf) | (with_reducible have G := fr_then ((G.alloc _).alloc _) hf))
    | ((with_reducible refine (lf _ (1) (6) (by decide) (by decide)).mono ?_); rintro e wa ⟨v1, v2, rfl, hR, hf⟩; obtain ⟨⟨C1, i1, j1, rfl⟩, ⟨C2, i2, j2, rfl⟩⟩ := hR.form; first | (with_reducible have G := fr_then G hf) | (with_reducible have G := fr_then (G.alloc _) hf) | (with_reducible have G := fr_then ((G.alloc _).alloc _) hf))
    | ((with_reducible refine (lf _ (3) (2) (by decide) (by decide)).mono ?_); rintro e wa ⟨v1, v2, rfl, hR, hf⟩; obtain ⟨⟨C1, i1, j1, rfl⟩, ⟨C2, i2, j2, rfl⟩⟩ := hR.form; first | (with_reducible have G := fr_then G hf) | (with_reducible have G := fr_then (G.alloc _) hf) | (with_reducible have G := fr_then ((G.alloc _).alloc _) hf))
    | ((with_reducible refine (lf _ (-3) (2) (by decide) (by decide)).mono ?_); rintro e wa ⟨v1, v2, rfl, hR, hf⟩; obtain ⟨⟨C1, i1, j1, rfl⟩, ⟨C2, i2, j2, rfl⟩⟩ := hR.form; first | (with_reducible have G := fr_then G hf) | (with_reducible have G := fr_then (G.alloc _) hf) | (with_reducible have G := fr_then ((G.alloc _).alloc _) hf))
    | ((with_reducible refine (radd_n _ (sg (fr 1 2)) (sg (fr 1 3)) (.slice A1 n1 c1) (.slice B1 m1 k1) (.slice A2 n2 c2) (.slice B2 m2 k2) (fr 1 2) (fr 1 3) _ _ _ _ 2 (q1.keep G).ri (q2.keep G).ri (by decide) (by decide)).mono ?_); rintro e wb ⟨v1, v2, rfl, hV, hf⟩; obtain ⟨⟨D1, e1, g1, rfl⟩, ⟨D2, e2, g2, rfl⟩⟩ := hV.form; replace hR := hR.keep hf; first | (with_reducible have G := fr_then G hf) | (with_reducible have G := fr_then (G.alloc _) hf) | (with_reducible have G := fr_then ((G.alloc _).alloc _) hf))
    | ((with_reducible refine (rsub_n _ (sg (fr 1 2)) (sg (fr 1 3)) (.slice A1 n1 c1) (.slice B1 m1 k1) (.slice A2 n2 c2) (.slice B2 m2 k2) (fr 1 2) (fr 1 3) _ _ _ _ 2 (q1.keep G).ri (q2.keep G).ri (by decide) (by decide)).mono ?_); rintro e wb ⟨v1, v2, rfl, hV, hf⟩; obtain ⟨⟨D1, e1, g1, rfl⟩, ⟨D2, e2, g2, rfl⟩⟩ := hV.form; replace hR := hR.keep hf; first | (with_reducible have G := fr_then G hf) | (with_reducible have G := fr_then (G.alloc _) hf) | (with_reducible have G := fr_then ((G.alloc _).alloc _) hf))
    | ((with_reducible refine (rmul_n _ (sg (fr 1 2)) (sg (fr 1 3)) (.slice A1 n1 c1) (.slice B1 m1 k1) (.slice A2 n2 c2) (.slice B2 m2 k2) (fr 1 2) (fr 1 3) _ _ _ _ 2 (q1.keep G).ri (q2.keep G).ri (by decide) (by decide)).mono ?_); rintro e wb ⟨v1, v2, rfl, hV, hf⟩; obtain ⟨⟨D1, e1, g1, rfl⟩, ⟨D2, e2, g2, rfl⟩⟩ := hV.form; replace hR := hR.keep hf; first | (with_reducible have G := fr_then G hf) | (with_reducible have G := fr_then (G.alloc _) hf) | (with_reducible have G := fr_then ((G.alloc _).alloc _) hf))
    | ((with_reducible refine (ris_yes _ (sg (fr 5 6)) (sg (fr 1 2 + fr 1 3)) (.slice C1 i1 j1) (.slice C2 i2 j2) (.slice D1 e1 g1) (.slice D2 e2 g2) _ _ _ _ hR rfl hV rfl kf1 (by decide)).mono ?_); rintro e wc ⟨rfl, hf⟩; first | (with_reducible have G := fr_then G hf) | (with_reducible have G := fr_then (G.alloc _) hf) | (with_reducible have G := fr_then ((G.alloc _).alloc _) hf))
    | ((with_reducible refine (ris_yes _ (sg (fr 1 6)) (sg (fr 1 2 - fr 1 3)) (.slice C1 i1 j1) (.slice C2 i2 j2) (.slice D1 e1 g1) (.slice D2 e2 g2) _ _ _ _ hR rfl hV rfl kf2 (by decide)).mono ?_); rintro e wc ⟨rfl, hf⟩; first | (with_reducible have G := fr_then G hf) | (with_reducible have G := fr_then (G.alloc _) hf) | (with_reducible have G := fr_then ((G.alloc _).alloc _) hf))
    | ((with_reducible refine (ris_yes _ (sg (fr 1 6)) (sg (fr 1 2 * fr 1 3)) (.slice C1 i1 j1) (.slice C2 i2 j2) (.slice D1 e1 g1) (.slice D2 e2 g2) _ _ _ _ hR rfl hV rfl kf3 (by decide)).mono ?_); rintro e wc ⟨rfl, hf⟩; first | (with_reducible have G := fr_then G hf) | (with_reducible have G := fr_then (G.alloc _) hf) | (with_reducible have G := fr_then ((G.alloc _).alloc _) hf))
    | ((with_reducible refine (ris_yes _ (sg (fr 3 2)) (sg (fr 1 2 / fr 1 3)) (.slice C1 i1 j1) (.slice C2 i2 j2) (.slice A3 n3 c3) (.slice B3 m3 k3) _ _ _ _ hR rfl (q3.keep G) rfl kf4 (by decide)).mono ?_); rintro e wc ⟨rfl, hf⟩; first | (with_reducible have G := fr_then G hf) | (with_reducible have G := fr_then (G.alloc _) hf) | (with_reducible have G := fr_then ((G.alloc _).alloc _) hf))
    | ((with_reducible refine (ris_yes _ (sg (fr (-3) 2)) (sg (fr 6 (-4))) (.slice C1 i1 j1) (.slice C2 i2 j2) (.slice A4 n4 c4) (.slice B4 m4 k4) _ _ _ _ hR rfl (q4.keep G) rfl kf5 (by decide)).mono ?_); rintro e wc ⟨rfl, hf⟩; first | (with_reducible have G := fr_then G hf) | (with_reducible have G := fr_then (G.alloc _) hf) | (with_reducible have G := fr_then ((G.alloc _).alloc _) hf))
    | ((with_reducible refine (bits_38 _ (.slice A5 n5 c5) (.slice B5 m5 k5) (q5.keep G)).mono ?_); rintro e wc ⟨rfl, hf⟩; first | (with_reducible have G := fr_then G hf) | (with_reducible have G := fr_then (G.alloc _) hf) | (with_reducible have G := fr_then ((G.alloc _).alloc _) hf))
    | ((with_reducible refine (may_24 _ _ _ ?_ ?_).mono ?_); (first | (with_reducible exact heap_a _ _ _) | (with_reducible exact heap_b _ _ _) | (with_reducible exact heap_alloc_new _ _)); (first | (with_reducible exact heap_a _ _ _) | (with_reducible exact heap_b _ _ _) | (with_reducible exact heap_alloc_new _ _)); rintro e wc ⟨rfl, hf⟩; first | (with_reducible have G := fr_then G hf) | (with_reducible have G := fr_then (G.alloc _) hf) | (with_reducible have G := fr_then ((G.alloc _).alloc _) hf))
    | ((with_reducible refine (may_5 _ _ ?_).mono ?_); (first | (with_reducible exact heap_a _ _ _) | (with_reducible exact heap_b _ _ _) | (with_reducible exact heap_alloc_new _ _)); rintro e wc ⟨rfl, hf⟩; first | (with_reducible have G := fr_then G hf) | (with_reducible have G := fr_then (G.alloc _) hf) | (with_reducible have G := fr_then ((G.alloc _).alloc _) hf))
    | ((with_reducible refine (may_3 _ _ ?_).mono ?_); (first | (with_reducible exact heap_a _ _ _) | (with_reducible exact heap_b _ _ _) | (with_reducible exact heap_alloc_new _ _)); rintro e wc ⟨rfl, hf⟩; first | (with_reducible have G := fr_then G hf) | (with_reducible have G := fr_then (G.alloc _) hf) | (with_reducible have G := fr_then ((G.alloc _).alloc _) hf)))
  all_goals
    go_wp2_with fail
    go_ret
    exact ⟨rfl, fr_then F G⟩
end Go.Proofs.Ytodpbkcdcchljaa

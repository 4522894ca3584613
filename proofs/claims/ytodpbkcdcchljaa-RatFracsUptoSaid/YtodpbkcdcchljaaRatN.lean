
/- RatMakes, RatFracs. -/
import Derived.Test.YtodpbkcdcchljaaRatM
namespace Go.Proofs.Ytodpbkcdcchljaa
open Go.RowKit

set_option maxHeartbeats 4000000 in
theorem makes_walk {S : Nat → Prop} (w : World) (s : Bool) (vn vd : Value) (N D L : Nat) (hn : Num S w vn N L) (hd : Num S w vd D L) (hL : L ≤ 1048576) :
    Calls Try.prog 4 #[.bool s, vn, vd] w fun e w' => e = .returned (.bool true) ∧ Fr (fun k => k < w.heap.size) w w' := by
  replace hn := hn.wide (K := L + 1) (by omega)
  replace hd := hd.wide (K := L + 1) (by omega)
  obtain ⟨A1, n1, c1, rfl⟩ := hn.form
  obtain ⟨A2, n2, c2, rfl⟩ := hd.form
  have hz := dd_eq0 D
  go_enter Try.func4, Try.ntmps4
  go_wp2_with fail
  refine (own_n _ _ _ _ hn (by omega)).mono ?_
  rintro e w1 ⟨v1, rfl, h1, hf⟩
  have F := hf
  replace hn := hn.keep hf; replace hd := hd.keep hf
  clear hf
  go_wp2_with fail
  refine (own_n _ _ _ _ hd (by omega)).mono ?_
  rintro e w2 ⟨v2, rfl, h2, hf⟩
  replace F := fr_then F hf
  replace hn := hn.keep hf; replace hd := hd.keep hf; replace h1 := h1.keep hf
  clear hf
  go_wp2_with fail
  rcases Nat.eq_zero_or_pos D with rfl | hD
  · refine (make_0 _ _ _ _ _ _ _ h1 h2 (by omega)).mono ?_
    rintro e w3 ⟨rfl, hf⟩
    have al := fun R => (Fr.refl R w3).alloc (.cells #[.bool false, .slice none 0 0, .slice none 0 0] 25)
    have x1 := Box3.new w3 25 (.bool false) (.slice none 0 0) (.slice none 0 0)
    replace F := fr_then (fr_then F hf) (al _)
    replace hd := (hd.keep hf).keep (al _)
    clear hf al h1 h2 hn
    go_wp2_with fail
    refine (of_r _ _ _ _ hd (by omega)).mono ?_
    rintro e w4 ⟨v4, rfl, h4, hf⟩
    obtain ⟨A4, c4, hv4, _⟩ := h4.sl.slice
    subst hv4
    replace x1 := x1.keep hf
    replace F := fr_then F hf
    have a0 := x1.c0; have a1 := x1.c1; have a2 := x1.c2
    rw [dg_zero]
    clear hf h4 hd hz
    go_wp2_with fail
    refine (rknown _).mono ?_
    rintro e w5 ⟨rfl, hf⟩
    go_wp2_with fail
    go_ret
    exact ⟨rfl, fr_then F hf⟩
  · refine (make_n _ _ _ _ _ _ (L + 1) h1 h2 hD (by omega) (by omega)).mono ?_
    rintro e w3 ⟨v3, v4, rfl, h3, hf⟩
    obtain ⟨⟨A3, n3, c3, rfl⟩, ⟨A4, n4, c4, rfl⟩⟩ := h3.form
    have al := fun R => (Fr.refl R w3).alloc (.cells #[.bool (sg (rv s N D)), .slice A3 n3 c3, .slice A4 n4 c4] 25)
    have x1 := Box3.new w3 25 (.bool (sg (rv s N D))) (.slice A3 n3 c3) (.slice A4 n4 c4)
    replace F := fr_then (fr_then F hf) (al _)
    replace hd := (hd.keep hf).keep (al _)
    replace hn := (hn.keep hf).keep (al _)
    replace h3 := h3.keep (al _)
    clear hf al h1 h2
    go_wp2_with fail
    refine (of_r _ _ _ _ hd (by omega)).mono ?_
    rintro e w4 ⟨v4, rfl, h4, hf⟩
    obtain ⟨A5, c5, hv5, _⟩ := h4.sl.slice
    subst hv5
    have hz2 : (((dg DB D).length : Int) == 0) = false := by rw [hz]; exact decide_eq_false (by omega)
    clear hz
    replace x1 := x1.keep hf
    replace F := fr_then F hf
    replace hd := hd.keep hf
    replace hn := hn.keep hf
    replace h3 := h3.keep hf
    clear hf h4
    have dr : ∀ R, Fr R w4 w4.drew := fun R => (Fr.refl R w4).drew
    replace x1 := x1.keep (dr _)
    replace hd := hd.keep (dr _)
    replace hn := hn.keep (dr _)
    replace h3 := h3.keep (dr _)
    replace F := F.drew
    have G := Fr.refl (fun k => k < w4.drew.heap.size) w4.drew
    have KS : ∀ u, Fr (fun k => k < w4.drew.heap.size) w4.drew u → u.cell? ⟨w3.heap.size, 0, none⟩ = some (.bool (sg (rv s N D))) ∧ u.cell? ⟨w3.heap.size, 1, none⟩ = some (.slice A3 n3 c3) ∧ u.cell? ⟨w3.heap.size, 2, none⟩ = some (.slice A4 n4 c4) := fun u h => ⟨(x1.keep h).c0, (x1.keep h).c1, (x1.keep h).c2⟩
    have hl3 : 1 ≤ 3 * (L + 1) := by omega
    have hl4 : 3 * (L + 1) ≤ 1048576000 := by omega
    clear x1 dr
    go_wp2_with fail
    go_region_held3 (fun u => u.cell? ⟨w3.heap.size, 0, none⟩ = some (.bool (sg (rv s N D))) ∧ u.cell? ⟨w3.heap.size, 1, none⟩ = some (.slice A3 n3 c3) ∧ u.cell? ⟨w3.heap.size, 2, none⟩ = some (.slice A4 n4 c4)) (exact KS _ G) (first
      | ((with_reducible refine (of_r _ (.slice A1 n1 c1) N (L + 1) (hn.keep G) (by omega)).mono ?_); rintro e wa ⟨v1, rfl, ha, hf⟩; obtain ⟨B1, m1, k1, rfl⟩ := ha.form; have G := fr_then G hf)
      | ((with_reducible refine (of_r _ (.slice A2 n2 c2) D (L + 1) (hd.keep G) (by omega)).mono ?_); rintro e wb ⟨v1, rfl, hb, hf⟩; obtain ⟨B2, m2, k2, rfl⟩ := hb.form; replace ha := ha.keep hf; have G := fr_then G hf)
      | ((with_reducible refine (rmake_r _ s (.slice B1 m1 k1) (.slice B2 m2 k2) N D (3 * (L + 1)) ha hb hl3 hl4).mono ?_); rintro e wc ⟨v1, v2, rfl, hc, hf⟩; obtain ⟨⟨C1, i1, j1, rfl⟩, ⟨C2, i2, j2, rfl⟩⟩ := hc.form; have G := fr_then G hf)
      | ((with_reducible refine (ris_yes _ (sg (rv s N D)) (sg (rv s N D)) (.slice C1 i1 j1) (.slice C2 i2 j2) (.slice A3 n3 c3) (.slice A4 n4 c4) _ _ _ _ hc rfl (h3.keep G) rfl rfl (by omega)).mono ?_); rintro e wd ⟨rfl, hf⟩; have G := fr_then G hf)
      | ((with_reducible refine (rknown _).mono ?_); rintro e wd ⟨rfl, hf⟩; have G := fr_then G hf))
    go_wp2_with fail
    go_ret
    exact ⟨rfl, fr_then F G⟩

set_option maxHeartbeats 4000000 in
theorem fracs_walk {S : Nat → Prop} (w : World) (p q : Int) (L : Nat) (hp : (Lit.int .i64 p).wf = true) (hq : (Lit.int .i64 q).wf = true) (_ : L ≤ 1048576) :
    Calls Try.prog 5 #[.int .i64 p, .int .i64 q] w fun e w' => e = .returned (.bool true) ∧ Fr (fun k => k < w.heap.size) w w' := by
  have hp2 : -9223372036854775808 ≤ p ∧ p ≤ 9223372036854775807 := by simpa [Lit.wf, IntKind.min, IntKind.max, IntKind.signed, IntKind.bits] using hp
  have hq2 : -9223372036854775808 ≤ q ∧ q ≤ 9223372036854775807 := by simpa [Lit.wf, IntKind.min, IntKind.max, IntKind.signed, IntKind.bits] using hq
  obtain ⟨p0, p1⟩ := hp2
  obtain ⟨q0, q1⟩ := hq2
  clear hp hq
  go_enter Try.func5, Try.ntmps5
  go_wp2_with fail
  by_cases hz : q = 0
  · subst hz
    refine (frac_0 _ p p0 p1).mono ?_
    rintro e w1 ⟨rfl, hf⟩
    have al := fun R => (Fr.refl R w1).alloc (.cells #[.bool false, .slice none 0 0, .slice none 0 0] 25)
    have x1 := Box3.new w1 25 (.bool false) (.slice none 0 0) (.slice none 0 0)
    have F := fr_then hf (al _)
    clear hf al
    go_wp2_with fail
    refine (rint_r _ p p0 p1).mono ?_
    rintro e w2 ⟨v1, v2, rfl, h2, hf⟩
    obtain ⟨⟨A3, n3, c3, rfl⟩, ⟨A4, n4, c4, rfl⟩⟩ := h2.form
    replace F := fr_then F hf
    replace x1 := x1.keep hf
    clear hf
    go_wp2_with fail
    refine (int_n _ p p0 p1).mono ?_
    rintro e w3 ⟨v1, v2, rfl, h3, hf⟩
    obtain ⟨⟨A5, n5, c5, rfl⟩, ⟨A6, n6, c6, rfl⟩⟩ := h3.form
    replace F := fr_then F hf
    replace x1 := x1.keep hf
    replace h2 := h2.keep hf
    clear hf
    go_wp2_with fail
    refine (ris_yes _ _ _ _ _ _ _ _ _ _ _ h2 rfl h3 rfl rfl (by decide)).mono ?_
    rintro e w4 ⟨rfl, hf⟩
    replace F := fr_then F hf
    replace x1 := x1.keep hf
    have a2 := x1.c2
    clear hf h2 h3
    go_wp2_with fail
    refine (rknown _).mono ?_
    rintro e w5 ⟨rfl, hf⟩
    go_wp2_with fail
    go_ret
    exact ⟨rfl, fr_then F hf⟩
  · have hzb : (q == 0) = false := beq_eq_false_iff_ne.2 hz
    refine (frac_n _ p q p0 p1 q0 q1 hz).mono ?_
    rintro e w1 ⟨v1, v2, rfl, h1, hf⟩
    obtain ⟨⟨A1, n1, c1, rfl⟩, ⟨A2, n2, c2, rfl⟩⟩ := h1.form
    have al := fun R => (Fr.refl R w1).alloc (.cells #[.bool (sg (fr p q)), .slice A1 n1 c1, .slice A2 n2 c2] 25)
    have x1 := Box3.new w1 25 (.bool (sg (fr p q))) (.slice A1 n1 c1) (.slice A2 n2 c2)
    have F := fr_then hf (al _)
    replace h1 := h1.keep (al _)
    clear hf al
    go_wp2_with fail
    refine (rint_r _ p p0 p1).mono ?_
    rintro e w2 ⟨v1, v2, rfl, h2, hf⟩
    obtain ⟨⟨A3, n3, c3, rfl⟩, ⟨A4, n4, c4, rfl⟩⟩ := h2.form
    replace F := fr_then F hf
    replace x1 := x1.keep hf
    replace h1 := h1.keep hf
    clear hf
    go_wp2_with fail
    refine (int_n _ p p0 p1).mono ?_
    rintro e w3 ⟨v1, v2, rfl, h3, hf⟩
    obtain ⟨⟨A5, n5, c5, rfl⟩, ⟨A6, n6, c6, rfl⟩⟩ := h3.form
    replace F := fr_then F hf
    replace x1 := x1.keep hf
    replace h1 := h1.keep hf
    replace h2 := h2.keep hf
    clear hf
    go_wp2_with fail
    refine (ris_yes _ _ _ _ _ _ _ _ _ _ _ h2 rfl h3 rfl rfl (by decide)).mono ?_
    rintro e w4 ⟨rfl, hf⟩
    replace F := fr_then F hf
    replace x1 := x1.keep hf
    replace h1 := h1.keep hf
    clear hf h2 h3
    have dr : ∀ R, Fr R w4 w4.drew := fun R => (Fr.refl R w4).drew
    replace x1 := x1.keep (dr _)
    replace h1 := h1.keep (dr _)
    replace F := F.drew
    have G := Fr.refl (fun k => k < w4.drew.heap.size) w4.drew
    have KS : ∀ u, Fr (fun k => k < w4.drew.heap.size) w4.drew u → u.cell? ⟨w1.heap.size, 0, none⟩ = some (.bool (sg (fr p q))) ∧ u.cell? ⟨w1.heap.size, 1, none⟩ = some (.slice A1 n1 c1) ∧ u.cell? ⟨w1.heap.size, 2, none⟩ = some (.slice A2 n2 c2) := fun u h => ⟨(x1.keep h).c0, (x1.keep h).c1, (x1.keep h).c2⟩
    clear x1 dr
    go_wp2_with fail
    go_region_held3 (fun u => u.cell? ⟨w1.heap.size, 0, none⟩ = some (.bool (sg (fr p q))) ∧ u.cell? ⟨w1.heap.size, 1, none⟩ = some (.slice A1 n1 c1) ∧ u.cell? ⟨w1.heap.size, 2, none⟩ = some (.slice A2 n2 c2)) (exact KS _ G) (first
      | ((with_reducible refine (rfrac_r _ p q p0 p1 q0 q1).mono ?_); rintro e wc ⟨v1, v2, rfl, hc, hf⟩; obtain ⟨⟨C1, i1, j1, rfl⟩, ⟨C2, i2, j2, rfl⟩⟩ := hc.form; have G := fr_then G hf)
      | ((with_reducible refine (ris_yes _ (sg (fr p q)) (sg (fr p q)) (.slice C1 i1 j1) (.slice C2 i2 j2) (.slice A1 n1 c1) (.slice A2 n2 c2) _ _ _ _ hc rfl (h1.keep G) rfl rfl (by decide)).mono ?_); rintro e wd ⟨rfl, hf⟩; have G := fr_then G hf)
      | ((with_reducible refine (rknown _).mono ?_); rintro e wd ⟨rfl, hf⟩; have G := fr_then G hf))
    go_wp2_with fail
    go_ret
    exact ⟨rfl, fr_then F G⟩
end Go.Proofs.Ytodpbkcdcchljaa


/- The reference's rationals: Mul, Add, Sub, Div, Cmp, Bits. -/
import Derived.Test.YtodpbkcdcchljaaRatH
namespace Go.Proofs.Ytodpbkcdcchljaa
open Go.RowKit

set_option maxHeartbeats 4000000 in
theorem rmul_q {S T : Nat → Prop} (w : World) (s t : Bool) (vn vd un ud : Value) (x y : Rat) (L : Nat) (hx : RR S w vn vd x L) (hy : RR T w un ud y L) (hs : s = sg x) (ht : t = sg y) (hL1 : 1 ≤ L) (hl : L ≤ 104857600) :
    Calls Try.prog 31 #[.agg #[.bool s, vn, vd], .agg #[.bool t, un, ud]] w fun e w' => ∃ v1 v2, e = .returned (.agg #[.bool (sg (x * y)), v1, v2]) ∧ RR (fun k => w.heap.size ≤ k) w' v1 v2 (x * y) (2 * L) ∧ Fr (fun k => k < w.heap.size) w w' := by
  subst hs ht
  obtain ⟨⟨A1, n1, c1, rfl⟩, ⟨A2, n2, c2, rfl⟩⟩ := hx.form
  obtain ⟨⟨A3, n3, c3, rfl⟩, ⟨A4, n4, c4, rfl⟩⟩ := hy.form
  have F := (((Fr.refl (fun k => k < w.heap.size) w).alloc (.cells #[.bool (sg x), .slice A1 n1 c1, .slice A2 n2 c2] 34)).alloc (.cells #[.bool (sg y), .slice A3 n3 c3, .slice A4 n4 c4] 34)).alloc (.cells #[.bool false, .slice none 0 0, .slice none 0 0] 34)
  have x1 := ((Box3.new w 34 (.bool (sg x)) (.slice A1 n1 c1) (.slice A2 n2 c2)).alloc (.cells #[.bool (sg y), .slice A3 n3 c3, .slice A4 n4 c4] 34)).alloc (.cells #[.bool false, .slice none 0 0, .slice none 0 0] 34)
  have x2 := (Box3.new (w.alloc (.cells #[.bool (sg x), .slice A1 n1 c1, .slice A2 n2 c2] 34)) 34 (.bool (sg y)) (.slice A3 n3 c3) (.slice A4 n4 c4)).alloc (.cells #[.bool false, .slice none 0 0, .slice none 0 0] 34)
  have hb := box_nr ((w.alloc (.cells #[.bool (sg x), .slice A1 n1 c1, .slice A2 n2 c2] 34)).alloc (.cells #[.bool (sg y), .slice A3 n3 c3, .slice A4 n4 c4] 34))
  simp only [World.size_alloc] at x2 hb
  have hx0 := hx.keep F
  have hy0 := hy.keep F
  have hxl := hx.low.fr F
  have hyl := hy.low.fr F
  have W0s : w.heap.size + 1 + 1 + 1 ≤ (((w.alloc (.cells #[.bool (sg x), .slice A1 n1 c1, .slice A2 n2 c2] 34)).alloc (.cells #[.bool (sg y), .slice A3 n3 c3, .slice A4 n4 c4] 34)).alloc (.cells #[.bool false, .slice none 0 0, .slice none 0 0] 34)).heap.size := by simp
  generalize hW0 : ((w.alloc (.cells #[.bool (sg x), .slice A1 n1 c1, .slice A2 n2 c2] 34)).alloc (.cells #[.bool (sg y), .slice A3 n3 c3, .slice A4 n4 c4] 34)).alloc (.cells #[.bool false, .slice none 0 0, .slice none 0 0] 34) = W0 at F x1 x2 hb hx0 hy0 hxl hyl W0s
  clear hx hy
  have dr : ∀ R, Fr R W0 W0.drew := fun R => (Fr.refl R W0).drew
  replace hx0 := hx0.keep (dr _)
  replace hy0 := hy0.keep (dr _)
  replace x1 := x1.keep (dr _)
  replace x2 := x2.keep (dr _)
  replace hb := hb.keep (dr _)
  replace F := F.drew
  have S0 : W0.drew.cell? ⟨w.heap.size, 0, none⟩ = some (.bool (sg x)) ∧ W0.drew.cell? ⟨w.heap.size, 1, none⟩ = some (.slice A1 n1 c1) ∧ W0.drew.cell? ⟨w.heap.size, 2, none⟩ = some (.slice A2 n2 c2) ∧ W0.drew.cell? ⟨w.heap.size + 1, 0, none⟩ = some (.bool (sg y)) ∧ W0.drew.cell? ⟨w.heap.size + 1, 1, none⟩ = some (.slice A3 n3 c3) ∧ W0.drew.cell? ⟨w.heap.size + 1, 2, none⟩ = some (.slice A4 n4 c4) := ⟨x1.c0, x1.c1, x1.c2, x2.c0, x2.c1, x2.c2⟩
  have W0d : W0.drew.heap.size = W0.heap.size := rfl
  have HQ := Lib.hid (show rv (sg x != sg y) (x.num.natAbs * y.num.natAbs) (x.den * y.den) = x * y by rw [rv_mul, rv_self, rv_self])
  have hL2 : 1 ≤ L + L := by omega
  have hl2 : L + L ≤ 1048576000 := by omega
  obtain ⟨b, hbb⟩ : ∃ b, b = (sg x != sg y) := ⟨_, rfl⟩
  rw [← hbb] at HQ
  have hbb2 : (!(sg x == sg y)) = b := hbb.symm
  have hbb3 : (sg x != sg y) = b := hbb.symm
  clear hbb dr hxl hyl
  go_enter Try.func31, Try.ntmps31
  go_wp2_with fail
  clear hW0
  go_region_held3 (fun u => u.cell? ⟨w.heap.size, 0, none⟩ = some (.bool (sg x)) ∧ u.cell? ⟨w.heap.size, 1, none⟩ = some (.slice A1 n1 c1) ∧ u.cell? ⟨w.heap.size, 2, none⟩ = some (.slice A2 n2 c2) ∧ u.cell? ⟨w.heap.size + 1, 0, none⟩ = some (.bool (sg y)) ∧ u.cell? ⟨w.heap.size + 1, 1, none⟩ = some (.slice A3 n3 c3) ∧ u.cell? ⟨w.heap.size + 1, 2, none⟩ = some (.slice A4 n4 c4)) (first | exact S0 | exact S1 | exact S2 | exact S3 | exact S4) (first
    | ((with_reducible refine (mul_r _ (.slice A1 n1 c1) (.slice A3 n3 c3) _ _ L L hx0.num hy0.num (by omega)).mono ?_); rintro e w1 ⟨v1, rfl, h1, hf1⟩; obtain ⟨B1, m1, k1, rfl⟩ := h1.form; have y1 := x1.keep hf1; have y2 := x2.keep hf1; have S1 : w1.cell? ⟨w.heap.size, 0, none⟩ = some (.bool (sg x)) ∧ w1.cell? ⟨w.heap.size, 1, none⟩ = some (.slice A1 n1 c1) ∧ w1.cell? ⟨w.heap.size, 2, none⟩ = some (.slice A2 n2 c2) ∧ w1.cell? ⟨w.heap.size + 1, 0, none⟩ = some (.bool (sg y)) ∧ w1.cell? ⟨w.heap.size + 1, 1, none⟩ = some (.slice A3 n3 c3) ∧ w1.cell? ⟨w.heap.size + 1, 2, none⟩ = some (.slice A4 n4 c4) := ⟨y1.c0, y1.c1, y1.c2, y2.c0, y2.c1, y2.c2⟩)
    | ((with_reducible refine (mul_r _ (.slice A2 n2 c2) (.slice A4 n4 c4) _ _ L L (hx0.den.keep hf1) (hy0.den.keep hf1) (by omega)).mono ?_); rintro e w2 ⟨v1, rfl, h2, hf2⟩; obtain ⟨B2, m2, k2, rfl⟩ := h2.form; have z1 := y1.keep hf2; have z2 := y2.keep hf2; have S2 : w2.cell? ⟨w.heap.size, 0, none⟩ = some (.bool (sg x)) ∧ w2.cell? ⟨w.heap.size, 1, none⟩ = some (.slice A1 n1 c1) ∧ w2.cell? ⟨w.heap.size, 2, none⟩ = some (.slice A2 n2 c2) ∧ w2.cell? ⟨w.heap.size + 1, 0, none⟩ = some (.bool (sg y)) ∧ w2.cell? ⟨w.heap.size + 1, 1, none⟩ = some (.slice A3 n3 c3) ∧ w2.cell? ⟨w.heap.size + 1, 2, none⟩ = some (.slice A4 n4 c4) := ⟨z1.c0, z1.c1, z1.c2, z2.c0, z2.c1, z2.c2⟩)
    | ((with_reducible refine (rmake_q _ b (.slice B1 m1 k1) (.slice B2 m2 k2) _ _ (L + L) (x * y) HQ (h1.keep hf2) h2 hL2 hl2).mono ?_); rintro e w3 ⟨v1, v2, rfl, h3, hf3⟩; obtain ⟨⟨C1, i1, j1, rfl⟩, ⟨C2, i2, j2, rfl⟩⟩ := h3.form; have u1 := z1.keep hf3; have u2 := z2.keep hf3; have S3 : w3.cell? ⟨w.heap.size, 0, none⟩ = some (.bool (sg x)) ∧ w3.cell? ⟨w.heap.size, 1, none⟩ = some (.slice A1 n1 c1) ∧ w3.cell? ⟨w.heap.size, 2, none⟩ = some (.slice A2 n2 c2) ∧ w3.cell? ⟨w.heap.size + 1, 0, none⟩ = some (.bool (sg y)) ∧ w3.cell? ⟨w.heap.size + 1, 1, none⟩ = some (.slice A3 n3 c3) ∧ w3.cell? ⟨w.heap.size + 1, 2, none⟩ = some (.slice A4 n4 c4) := ⟨u1.c0, u1.c1, u1.c2, u2.c0, u2.c1, u2.c2⟩; have hb3 := ((hb.keep hf1).keep hf2).keep hf3; have F4 := fr_set3 w3 (w.heap.size + 1 + 1) (.bool (sg (x * y))) (.slice C1 i1 j1) (.slice C2 i2 j2); have q1 := u1.fr F4 (by omega); have q2 := u2.fr F4 (by omega); have S4 := And.intro q1.c0 (And.intro q1.c1 (And.intro q1.c2 (And.intro q2.c0 (And.intro q2.c1 q2.c2)))); have d0 := hb3.c0; have d1 := hb3.c1; have d2 := hb3.c2; have f0 := hb3.free 0; have f1 := hb3.free 1; have f2 := hb3.free 2))
  have B4 := hb3.set3 (.bool (sg (x * y))) (.slice C1 i1 j1) (.slice C2 i2 j2)
  have s1 := hf1.size
  have s2 := hf2.size
  have F3 := fr_then (fr_then (fr_then F hf1) hf2) hf3
  go_wp2_with fail
  refine bodyPost_ret (results_cell3 rfl rfl B4 Try.underlying34 ref3) rfl ?_
  exact ⟨_, _, rfl, (h3.out F4 (fun k hk => by omega) (by omega)).wide (by omega), F3.comp F4 fun k hk h => ⟨h, by omega⟩⟩

set_option maxHeartbeats 1000000 in
theorem rbits_r {S : Nat → Prop} (w : World) (s : Bool) (vn vd : Value) (x : Rat) (L : Nat) (h : RR S w vn vd x L) (hs : s = sg x) (hl : L ≤ 104857600) :
    Calls Try.prog 44 #[.agg #[.bool s, vn, vd]] w fun e w' => e = .returned (.int .i64 (max (blen x.num.natAbs : Int) (blen x.den : Int))) ∧ Fr (fun k => k < w.heap.size) w w' := by
  subst hs
  obtain ⟨⟨A1, n1, c1, rfl⟩, ⟨A2, n2, c2, rfl⟩⟩ := h.form
  have F := (Fr.refl (fun k => k < w.heap.size) w).alloc (.cells #[.bool (sg x), .slice A1 n1 c1, .slice A2 n2 c2] 34)
  have x1 := Box3.new w 34 (.bool (sg x)) (.slice A1 n1 c1) (.slice A2 n2 c2)
  have h0 := h.keep F
  generalize hW0 : w.alloc (.cells #[.bool (sg x), .slice A1 n1 c1, .slice A2 n2 c2] 34) = W0 at F x1 h0
  have dr : ∀ R, Fr R W0 W0.drew := fun R => (Fr.refl R W0).drew
  replace h0 := h0.keep (dr _)
  replace x1 := x1.keep (dr _)
  replace F := F.drew
  have S0 : W0.drew.cell? ⟨w.heap.size, 1, none⟩ = some (.slice A1 n1 c1) ∧ W0.drew.cell? ⟨w.heap.size, 2, none⟩ = some (.slice A2 n2 c2) := ⟨x1.c1, x1.c2⟩
  clear h dr
  go_enter Try.func44, Try.ntmps44
  go_wp2_with fail
  clear hW0
  go_region_held3 (fun u => u.cell? ⟨w.heap.size, 1, none⟩ = some (.slice A1 n1 c1) ∧ u.cell? ⟨w.heap.size, 2, none⟩ = some (.slice A2 n2 c2)) (first | exact S0 | exact S1 | exact S2) (first
    | ((with_reducible refine (bits_r _ (.slice A1 n1 c1) _ L h0.num (by omega)).mono ?_); rintro e w1 ⟨rfl, hf1⟩; have y1 := x1.keep hf1; have S1 := And.intro y1.c1 y1.c2)
    | ((with_reducible refine (bits_r _ (.slice A2 n2 c2) _ L (h0.den.keep hf1) (by omega)).mono ?_); rintro e w2 ⟨rfl, hf2⟩; have y2 := y1.keep hf2; have S2 := And.intro y2.c1 y2.c2))
  have F3 := fr_then (fr_then F hf1) hf2
  go_wp2_with fail
  go_ret
  exact ⟨rfl, F3⟩
end Go.Proofs.Ytodpbkcdcchljaa

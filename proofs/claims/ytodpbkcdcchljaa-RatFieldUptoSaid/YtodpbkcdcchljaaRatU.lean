
/- RatField. -/
import Derived.Test.YtodpbkcdcchljaaRatP0
namespace Go.Proofs.Ytodpbkcdcchljaa
open Go.RowKit

theorem Sl.past {k : IntKind} {m : Nat} {S : Nat → Prop} {w w' : World} {v : Value} {xs : List Nat} {b : Nat} {t : TypeId} {p : Bool} {a1 a2 : Option Addr} {n1 c1 n2 c2 : Nat} (h : Sl (Kd.nat k m) S w v xs) (hb : Box3 w b t (.bool p) (.slice a1 n1 c1) (.slice a2 n2 c2)) (hf : Fr (fun j => j ≠ b) w w') : Sl (Kd.nat k m) (fun _ => True) w' v xs :=
  ((h.notin hb).fr hf).mono fun _ _ => trivial
theorem SV.past {w w' : World} {vn vd : Value} {q : Rat} {L b : Nat} {t : TypeId} {p : Bool} {a1 a2 : Option Addr} {n1 c1 n2 c2 : Nat} (h : SV w vn vd q L) (hb : Box3 w b t (.bool p) (.slice a1 n1 c1) (.slice a2 n2 c2)) (hf : Fr (fun j => j ≠ b) w w') : SV w' vn vd q L := ⟨Sl.past h.num hb hf, Sl.past h.den hb hf, h.ln, h.ld⟩
theorem add_sub_self (x y : Rat) : x + y - y = x := by rw [Rat.sub_eq_add_neg, Rat.add_assoc, Rat.add_neg_cancel, Rat.add_zero]

set_option maxRecDepth 20000 in
set_option maxHeartbeats 16000000 in
theorem rfield_walk {S : Nat → Prop} {s1 s2 s3 : Bool} {xs1 ys1 xs2 ys2 xs3 ys3 : List Nat} (w : World) (va vb vc : Value) (L : Nat) (h1 : RL S w va s1 xs1 ys1 L) (h2 : RL S w vb s2 xs2 ys2 L) (h3 : RL S w vc s3 xs3 ys3 L) (hL : L ≤ 1048576) :
    Calls Try.prog 8 #[va, vb, vc] w fun e w' => e = .returned (.bool true) ∧ Fr (fun k => k < w.heap.size) w w' := by
  obtain ⟨A1, n1, c1, B1, m1, k1, rfl, hx1, hy1, lx1, ly1⟩ := h1.open
  obtain ⟨A2, n2, c2, B2, m2, k2, rfl, hx2, hy2, lx2, ly2⟩ := h2.open
  obtain ⟨A3, n3, c3, B3, m3, k3, rfl, hx3, hy3, lx3, ly3⟩ := h3.open
  clear h1 h2 h3
  have r1 := ri_of (s := s1) hx1 hy1 lx1 ly1
  have r2 := ri_of (s := s2) hx2 hy2 lx2 ly2
  have r3 := ri_of (s := s3) hx3 hy3 lx3 ly3
  generalize rv s1 (val xs1) (val ys1) = x at r1
  generalize rv s2 (val xs2) (val ys2) = y at r2
  generalize rv s3 (val xs3) (val ys3) = z at r3
  clear hx1 hy1 hx2 hy2 hx3 hy3 lx1 ly1 lx2 ly2 lx3 ly3
  obtain ⟨d, hd⟩ : ∃ d, y.num.sign = d := ⟨_, rfl⟩
  have HD := Lib.hid hd
  have H0 := Lib.hid (show (x + -x).num.sign = 0 by rw [Rat.add_neg_cancel]; rfl)
  have hd0 : (y ≠ 0 ∧ (d != 0) = true) ∨ (y = 0 ∧ d = 0) := by
    by_cases hy : y = 0
    · exact .inr ⟨hy, by rw [← hd, hy]; rfl⟩
    · refine .inl ⟨hy, bne_iff_ne.2 fun e => hy ?_⟩
      rw [← hd] at e
      exact Rat.num_eq_zero.1 (Int.sign_eq_zero_iff_zero.1 e)
  clear hd
  have F := ((Fr.refl (fun k => k < w.heap.size) w).alloc (.cells #[.bool s1, .slice A1 n1 c1, .slice B1 m1 k1] 25)).alloc (.cells #[.bool s2, .slice A2 n2 c2, .slice B2 m2 k2] 25) |>.alloc (.cells #[.bool s3, .slice A3 n3 c3, .slice B3 m3 k3] 25)
  have x1 := ((Box3.new w 25 (.bool s1) (.slice A1 n1 c1) (.slice B1 m1 k1)).alloc (.cells #[.bool s2, .slice A2 n2 c2, .slice B2 m2 k2] 25)).alloc (.cells #[.bool s3, .slice A3 n3 c3, .slice B3 m3 k3] 25)
  have x2 := (Box3.new (w.alloc (.cells #[.bool s1, .slice A1 n1 c1, .slice B1 m1 k1] 25)) 25 (.bool s2) (.slice A2 n2 c2) (.slice B2 m2 k2)).alloc (.cells #[.bool s3, .slice A3 n3 c3, .slice B3 m3 k3] 25)
  have x3 := Box3.new ((w.alloc (.cells #[.bool s1, .slice A1 n1 c1, .slice B1 m1 k1] 25)).alloc (.cells #[.bool s2, .slice A2 n2 c2, .slice B2 m2 k2] 25)) 25 (.bool s3) (.slice A3 n3 c3) (.slice B3 m3 k3)
  simp only [World.size_alloc] at x2 x3
  replace r1 := r1.keep F
  replace r2 := r2.keep F
  replace r3 := r3.keep F
  generalize hW0 : (((w.alloc (.cells #[.bool s1, .slice A1 n1 c1, .slice B1 m1 k1] 25)).alloc (.cells #[.bool s2, .slice A2 n2 c2, .slice B2 m2 k2] 25)).alloc (.cells #[.bool s3, .slice A3 n3 c3, .slice B3 m3 k3] 25)) = W0 at F x1 x2 x3 r1 r2 r3
  have D0 : ∀ R, Fr R W0 W0.drew := fun R => (Fr.refl R W0).drew
  replace x1 := x1.keep (D0 _)
  replace x2 := x2.keep (D0 _)
  replace x3 := x3.keep (D0 _)
  replace r1 := r1.keep (D0 _)
  replace r2 := r2.keep (D0 _)
  replace r3 := r3.keep (D0 _)
  have HL : Hid (L ≤ 1048576) := Lib.hid hL
  have q1 : 1 ≤ L + 1 := by omega
  have q2 : L + 1 ≤ 104857600 := by omega
  have q3 : 1 ≤ 5 * (L + 1) := by omega
  have q4 : 5 * (L + 1) ≤ 104857600 := by omega
  have q5 : 1 ≤ 6 * (L + 1) := by omega
  have q6 : 6 * (L + 1) ≤ 104857600 := by omega
  have q7 : L + 1 ≤ 5 * (L + 1) := by omega
  have q8 : L + 1 ≤ 6 * (L + 1) := by omega
  have KS : ∀ u, Fr (fun k => k < W0.drew.heap.size) W0.drew u → u.cell? ⟨w.heap.size, 0, none⟩ = some (.bool s1) ∧ u.cell? ⟨w.heap.size, 1, none⟩ = some (.slice A1 n1 c1) ∧ u.cell? ⟨w.heap.size, 2, none⟩ = some (.slice B1 m1 k1) ∧ u.cell? ⟨w.heap.size + 1, 0, none⟩ = some (.bool s2) ∧ u.cell? ⟨w.heap.size + 1, 1, none⟩ = some (.slice A2 n2 c2) ∧ u.cell? ⟨w.heap.size + 1, 2, none⟩ = some (.slice B2 m2 k2) ∧ u.cell? ⟨w.heap.size + 1 + 1, 0, none⟩ = some (.bool s3) ∧ u.cell? ⟨w.heap.size + 1 + 1, 1, none⟩ = some (.slice A3 n3 c3) ∧ u.cell? ⟨w.heap.size + 1 + 1, 2, none⟩ = some (.slice B3 m3 k3) := fun u h => by
    have z1 := x1.keep h
    have z2 := x2.keep h
    have z3 := x3.keep h
    exact ⟨z1.c0, z1.c1, z1.c2, z2.c0, z2.c1, z2.c2, z3.c0, z3.c1, z3.c2⟩
  replace F := F.drew
  have G0 := Fr.refl (fun k => k < W0.drew.heap.size) W0.drew
  clear D0
  go_enter Try.func8, Try.ntmps8
  go_wp2_with fail
  clear hW0
  refine wpTill.begin (fun u => u.cell? ⟨w.heap.size, 0, none⟩ = some (.bool s1) ∧ u.cell? ⟨w.heap.size, 1, none⟩ = some (.slice A1 n1 c1) ∧ u.cell? ⟨w.heap.size, 2, none⟩ = some (.slice B1 m1 k1) ∧ u.cell? ⟨w.heap.size + 1, 0, none⟩ = some (.bool s2) ∧ u.cell? ⟨w.heap.size + 1, 1, none⟩ = some (.slice A2 n2 c2) ∧ u.cell? ⟨w.heap.size + 1, 2, none⟩ = some (.slice B2 m2 k2) ∧ u.cell? ⟨w.heap.size + 1 + 1, 0, none⟩ = some (.bool s3) ∧ u.cell? ⟨w.heap.size + 1 + 1, 1, none⟩ = some (.slice A3 n3 c3) ∧ u.cell? ⟨w.heap.size + 1 + 1, 2, none⟩ = some (.slice B3 m3 k3)) 9 (by kernel_rfl) ?_
  change wpTill _ _ _ _ _ _ 10 _ _ _
  refine wpTill.take 0 (.agg #[.bool s1, .slice A1 n1 c1, .slice B1 m1 k1]) rfl (by kernel_rfl) (by kernel_rfl) (fun _ _ _ h => h) (KS _ G0) (by rfl) (fun u hu => by go_simp) ?_
  try simp only [Act.put, List.setIfInBounds_toArray, List.set_cons_zero, List.set_cons_succ]
  refine wpTill.take 1 (.agg #[.bool s2, .slice A2 n2 c2, .slice B2 m2 k2]) rfl (by kernel_rfl) (by kernel_rfl) (fun _ _ _ h => h) (KS _ G0) (by rfl) (fun u hu => by go_simp) ?_
  try simp only [Act.put, List.setIfInBounds_toArray, List.set_cons_zero, List.set_cons_succ]
  refine wpTill.take 3 (.agg #[.bool s1, .slice A1 n1 c1, .slice B1 m1 k1]) rfl (by kernel_rfl) (by kernel_rfl) (fun _ _ _ h => h) (KS _ G0) (by rfl) (fun u hu => by go_simp) ?_
  try simp only [Act.put, List.setIfInBounds_toArray, List.set_cons_zero, List.set_cons_succ]
  refine wpTill.take 4 (.agg #[.bool s2, .slice A2 n2 c2, .slice B2 m2 k2]) rfl (by kernel_rfl) (by kernel_rfl) (fun _ _ _ h => h) (KS _ G0) (by rfl) (fun u hu => by go_simp) ?_
  try simp only [Act.put, List.setIfInBounds_toArray, List.set_cons_zero, List.set_cons_succ]
  refine wpTill.pair (n := 2) [2, 5] 6 7 (Pair (fun t5 t6 t8 t10 => { tmps := #[.agg #[.bool s1, .slice A1 n1 c1, .slice B1 m1 k1], .agg #[.bool s2, .slice A2 n2 c2, .slice B2 m2 k2], .agg #[.bool s3, .slice A3 n3 c3, .slice B3 m3 k3], .pointer (some ⟨w.heap.size, 0, none⟩), .pointer (some ⟨w.heap.size + 1, 0, none⟩), .pointer (some ⟨w.heap.size + 1 + 1, 0, none⟩), .bool false, t5, t6, undef, undef, .agg #[.bool s1, .slice A1 n1 c1, .slice B1 m1 k1], .agg #[.bool s2, .slice A2 n2 c2, .slice B2 m2 k2], t8, .agg #[.bool s1, .slice A1 n1 c1, .slice B1 m1 k1], .agg #[.bool s2, .slice A2 n2 c2, .slice B2 m2 k2], t10, undef, undef, undef, undef, undef, undef, undef, undef, undef, undef, undef, undef, undef, undef, undef, undef, undef, undef, undef, undef, undef, undef, undef, undef, undef, undef, undef, undef, undef, undef, undef, undef, undef, undef, undef, undef, undef, undef, undef, undef, undef, undef, undef, undef, undef, undef, undef, undef, undef, undef, undef, undef, undef, undef, undef, undef, undef, undef, undef, undef, undef, undef, undef, undef, undef, undef, undef, undef, undef, undef, undef, undef, undef, undef, undef, undef, undef, undef, undef, undef, undef, undef, undef, undef, undef, undef], defers := [] }) W0.drew 25 (fun u v => GotV u v (x + y) (5 * (L + 1))) (fun u v => GotV u v (x * y) (6 * (L + 1)))) (by kernel_rfl) ?_ ?_ ?_ ?_ ?_ ?_
  · rintro c p q a u ⟨t5, t6, t8, t10, rfl, h⟩
    exact KS _ h.fr
  · intro c i hi p q
    rcases c with _ | _ | c
    · obtain rfl := Option.some.inj (show some 2 = some i from hi)
      refine ⟨_, rfl, rfl, ?_⟩
      rintro a u K ⟨t5, t6, t8, t10, rfl, h⟩ hk
      go_simp
      refine (radd_n _ s1 s2 (.slice A1 n1 c1) (.slice B1 m1 k1) (.slice A2 n2 c2) (.slice B2 m2 k2) x y _ _ _ _ (L + 1) (r1.keep h.fr) (r2.keep h.fr) q1 q2).mono ?_
      rintro e u' ⟨v1, v2, rfl, ha, hf⟩
      exact hk _ _ ⟨_, _, _, _, rfl, h.one hf (GotV.of ha)⟩
    · obtain rfl := Option.some.inj (show some 5 = some i from hi)
      refine ⟨_, rfl, rfl, ?_⟩
      rintro a u K ⟨t5, t6, t8, t10, rfl, h⟩ hk
      go_simp
      refine (rmul_n _ s1 s2 (.slice A1 n1 c1) (.slice B1 m1 k1) (.slice A2 n2 c2) (.slice B2 m2 k2) x y _ _ _ _ (L + 1) (r1.keep h.fr) (r2.keep h.fr) q1 q2).mono ?_
      rintro e u' ⟨v1, v2, rfl, ha, hf⟩
      exact hk _ _ ⟨_, _, _, _, rfl, h.two (fun _ _ _ => GotV.keep) hf (GotV.of ha)⟩
    · exact absurd hi (by simp)
  · intro c q
    refine ⟨_, rfl, rfl, ?_⟩
    rintro a u K ⟨t5, t6, t8, t10, rfl, h⟩ hk
    go_simp
    exact hk _ _ ⟨_, _, _, _, rfl, h.left (fun _ _ _ => GotV.keep) (fun _ _ _ => GotV.keep)⟩
  · intro c p
    refine ⟨_, rfl, rfl, ?_⟩
    rintro a u K ⟨t5, t6, t8, t10, rfl, h⟩ hk
    go_simp
    exact hk _ _ ⟨_, _, _, _, rfl, h.right (fun _ _ _ => GotV.keep) (fun _ _ _ => GotV.keep)⟩
  · rintro a u ⟨t5, t6, t8, t10, rfl, h⟩
    obtain ⟨b5, rfl, x5, l5⟩ := h.x rfl
    obtain ⟨b6, rfl, x6, l6⟩ := h.y rfl
    have hne : b5 ≠ b6 := fun e => h.ne rfl rfl (by rw [e])
    obtain ⟨Px, ix, jx, Qx, ux, tx, rfl, p1⟩ := h.g (Nat.le_succ 1)
    obtain ⟨Py, iy, jy, Qy, uy, ty, rfl, p2⟩ := h.h (Nat.le_refl 2)
    have G := h.fr
    have z5 := x6.fr (fr_set3 u b5 (.bool (sg (x + y))) (.slice Px ix jx) (.slice Qx ux tx)) hne.symm
    have S6 := KS _ (fr3 G l5 (x := .bool (sg (x + y))) (y := .slice Px ix jx) (z := .slice Qx ux tx))
    have S5 := KS _ G
    have o0 := x5.c0; have o1 := x5.c1; have o2 := x5.c2; have o3 := x5.free 0; have o4 := x5.free 1; have o5 := x5.free 2
    have e0 := z5.c0; have e1 := z5.c1; have e2 := z5.c2; have e3 := z5.free 0; have e4 := z5.free 1; have e5 := z5.free 2
    have fin := leaf2v (s := sg (x + y)) (r := sg (x * y)) x5 x6 hne p1 p2 G l5 l6
    clear h z5
    refine wpTill.next 8 rfl (by kernel_rfl) (by rfl) (fun K hK => ?_)
    go_simp
    refine hK _ _ (fun _ => S6) ?_
    clear hK K
    try simp only [Act.put, List.setIfInBounds_toArray, List.set_cons_zero, List.set_cons_succ]
    refine wpTill.next 9 rfl (by kernel_rfl) (by rfl) (fun K hK => ?_)
    go_simp
    refine hK _ _ (no_wait (by kernel_rfl)) ?_
    clear hK K
    try simp only [Act.put, List.setIfInBounds_toArray, List.set_cons_zero, List.set_cons_succ]
    refine wpTill.done (by kernel_rfl) ?_
    clear o0 o1 o2 o3 o4 o5 e0 e1 e2 e3 e4 e5 S5 S6 x5 x6 p1 p2 G
    generalize (((((u.setCell ⟨b5, 0, none⟩ _).setCell ⟨b5, 1, none⟩ _).setCell ⟨b5, 2, none⟩ _).setCell ⟨b6, 0, none⟩ _).setCell ⟨b6, 1, none⟩ _).setCell ⟨b6, 2, none⟩ _ = U at fin ⊢
    obtain ⟨x5, x6, p1, p2, G⟩ := fin
    replace r1 := r1.keep G
    replace r2 := r2.keep G
    replace r3 := r3.keep G
    replace F := fr_then F G
    replace x1 := x1.keep G
    replace x2 := x2.keep G
    replace x3 := x3.keep G
    clear KS G0 G
    have D1 : ∀ R, Fr R U U.drew := fun R => (Fr.refl R U).drew
    replace r1 := r1.keep (D1 _)
    replace r2 := r2.keep (D1 _)
    replace r3 := r3.keep (D1 _)
    replace F := F.drew
    replace x1 := x1.keep (D1 _)
    replace x2 := x2.keep (D1 _)
    replace x3 := x3.keep (D1 _)
    replace x5 := x5.keep (D1 _)
    replace x6 := x6.keep (D1 _)
    replace p1 := p1.keep (D1 _)
    replace p2 := p2.keep (D1 _)
    have G := Fr.refl (fun k => k < U.drew.heap.size) U.drew
    have KS : ∀ u, Fr (fun k => k < U.drew.heap.size) U.drew u → u.cell? ⟨w.heap.size, 0, none⟩ = some (.bool s1) ∧ u.cell? ⟨w.heap.size, 1, none⟩ = some (.slice A1 n1 c1) ∧ u.cell? ⟨w.heap.size, 2, none⟩ = some (.slice B1 m1 k1) ∧ u.cell? ⟨w.heap.size + 1, 0, none⟩ = some (.bool s2) ∧ u.cell? ⟨w.heap.size + 1, 1, none⟩ = some (.slice A2 n2 c2) ∧ u.cell? ⟨w.heap.size + 1, 2, none⟩ = some (.slice B2 m2 k2) ∧ u.cell? ⟨w.heap.size + 1 + 1, 0, none⟩ = some (.bool s3) ∧ u.cell? ⟨w.heap.size + 1 + 1, 1, none⟩ = some (.slice A3 n3 c3) ∧ u.cell? ⟨w.heap.size + 1 + 1, 2, none⟩ = some (.slice B3 m3 k3) ∧ u.cell? ⟨b5, 0, none⟩ = some (.bool (sg (x + y))) ∧ u.cell? ⟨b5, 1, none⟩ = some (.slice Px ix jx) ∧ u.cell? ⟨b5, 2, none⟩ = some (.slice Qx ux tx) ∧ u.cell? ⟨b6, 0, none⟩ = some (.bool (sg (x * y))) ∧ u.cell? ⟨b6, 1, none⟩ = some (.slice Py iy jy) ∧ u.cell? ⟨b6, 2, none⟩ = some (.slice Qy uy ty) := fun u h => by
      have z1 := x1.keep h
      have z2 := x2.keep h
      have z3 := x3.keep h
      have z5 := x5.keep h
      have z6 := x6.keep h
      exact ⟨z1.c0, z1.c1, z1.c2, z2.c0, z2.c1, z2.c2, z3.c0, z3.c1, z3.c2, z5.c0, z5.c1, z5.c2, z6.c0, z6.c1, z6.c2⟩
    have HG := Lib.hid (And.intro x1 (And.intro x2 (And.intro x3 (And.intro x5 x6))))
    clear x1 x2 x3 x5 x6 D1
    go_wp2_with fail
    go_region_held3 (fun u => u.cell? ⟨w.heap.size, 0, none⟩ = some (.bool s1) ∧ u.cell? ⟨w.heap.size, 1, none⟩ = some (.slice A1 n1 c1) ∧ u.cell? ⟨w.heap.size, 2, none⟩ = some (.slice B1 m1 k1) ∧ u.cell? ⟨w.heap.size + 1, 0, none⟩ = some (.bool s2) ∧ u.cell? ⟨w.heap.size + 1, 1, none⟩ = some (.slice A2 n2 c2) ∧ u.cell? ⟨w.heap.size + 1, 2, none⟩ = some (.slice B2 m2 k2) ∧ u.cell? ⟨w.heap.size + 1 + 1, 0, none⟩ = some (.bool s3) ∧ u.cell? ⟨w.heap.size + 1 + 1, 1, none⟩ = some (.slice A3 n3 c3) ∧ u.cell? ⟨w.heap.size + 1 + 1, 2, none⟩ = some (.slice B3 m3 k3) ∧ u.cell? ⟨b5, 0, none⟩ = some (.bool (sg (x + y))) ∧ u.cell? ⟨b5, 1, none⟩ = some (.slice Px ix jx) ∧ u.cell? ⟨b5, 2, none⟩ = some (.slice Qx ux tx) ∧ u.cell? ⟨b6, 0, none⟩ = some (.bool (sg (x * y))) ∧ u.cell? ⟨b6, 1, none⟩ = some (.slice Py iy jy) ∧ u.cell? ⟨b6, 2, none⟩ = some (.slice Qy uy ty)) (first | (with_reducible exact KS _ G) | (with_reducible exact KS _ (G.alloc _))) (first
      | ((with_reducible refine (radd_n _ s2 s1 (.slice A2 n2 c2) (.slice B2 m2 k2) (.slice A1 n1 c1) (.slice B1 m1 k1) y x _ _ _ _ (L + 1) (r2.keep G) (r1.keep G) q1 q2).mono ?_); rintro e wq ⟨v1, v2, rfl, hA, hf⟩; obtain ⟨⟨Pa, ia, ja, rfl⟩, ⟨Qa, ua, ta, rfl⟩⟩ := hA.form; first | (with_reducible have G := fr_then G hf) | (with_reducible have G := fr_then (G.alloc _) hf))
      | ((with_reducible refine (same_y _ _ _ _ _ _ _ _ _ _ _ (p1.keep G) rfl (SV.of hA) rfl (Rat.add_comm y x)).mono ?_); rintro e wq ⟨rfl, hf⟩; first | (with_reducible have G := fr_then G hf) | (with_reducible have G := fr_then (G.alloc _) hf))
      | ((with_reducible refine (rmul_n _ s2 s1 (.slice A2 n2 c2) (.slice B2 m2 k2) (.slice A1 n1 c1) (.slice B1 m1 k1) y x _ _ _ _ (L + 1) (r2.keep G) (r1.keep G) q1 q2).mono ?_); rintro e wq ⟨v1, v2, rfl, hB, hf⟩; obtain ⟨⟨Pb, ib, jb, rfl⟩, ⟨Qb, ub, tb, rfl⟩⟩ := hB.form; first | (with_reducible have G := fr_then G hf) | (with_reducible have G := fr_then (G.alloc _) hf))
      | ((with_reducible refine (same_y _ _ _ _ _ _ _ _ _ _ _ (p2.keep G) rfl (SV.of hB) rfl (Rat.mul_comm y x)).mono ?_); rintro e wq ⟨rfl, hf⟩; first | (with_reducible have G := fr_then G hf) | (with_reducible have G := fr_then (G.alloc _) hf))
      | ((with_reducible refine (radd_n _ (sg (x + y)) s3 (.slice Px ix jx) (.slice Qx ux tx) (.slice A3 n3 c3) (.slice B3 m3 k3) (x + y) z _ _ _ _ (5 * (L + 1)) (p1.keep G).ri ((r3.keep G).wide q7) q3 q4).mono ?_); rintro e wq ⟨v1, v2, rfl, hC, hf⟩; obtain ⟨⟨Pc, ic, jc, rfl⟩, ⟨Qc, uc, tc, rfl⟩⟩ := hC.form; first | (with_reducible have G := fr_then G hf) | (with_reducible have G := fr_then (G.alloc _) hf))
      | ((with_reducible refine (radd_n _ s2 s3 (.slice A2 n2 c2) (.slice B2 m2 k2) (.slice A3 n3 c3) (.slice B3 m3 k3) y z _ _ _ _ (L + 1) (r2.keep G) (r3.keep G) q1 q2).mono ?_); rintro e wq ⟨v1, v2, rfl, hD, hf⟩; obtain ⟨⟨Pd, id, jd, rfl⟩, ⟨Qd, ud, td, rfl⟩⟩ := hD.form; replace hC := hC.keep hf; first | (with_reducible have G := fr_then G hf) | (with_reducible have G := fr_then (G.alloc _) hf))
      | ((with_reducible refine (radd_n _ s1 (sg (y + z)) (.slice A1 n1 c1) (.slice B1 m1 k1) (.slice Pd id jd) (.slice Qd ud td) x (y + z) _ _ _ _ (5 * (L + 1)) ((r1.keep G).wide q7) hD.ri q3 q4).mono ?_); rintro e wq ⟨v1, v2, rfl, hE, hf⟩; obtain ⟨⟨Pe, ie, je, rfl⟩, ⟨Qe, ue, te, rfl⟩⟩ := hE.form; replace hC := hC.keep hf; first | (with_reducible have G := fr_then G hf) | (with_reducible have G := fr_then (G.alloc _) hf))
      | ((with_reducible refine (same_y _ _ _ _ _ _ _ _ _ _ _ (SV.of hC) rfl (SV.of hE) rfl (Rat.add_assoc x y z).symm).mono ?_); rintro e wq ⟨rfl, hf⟩; first | (with_reducible have G := fr_then G hf) | (with_reducible have G := fr_then (G.alloc _) hf))
      | ((with_reducible refine (rmul_n _ (sg (x * y)) s3 (.slice Py iy jy) (.slice Qy uy ty) (.slice A3 n3 c3) (.slice B3 m3 k3) (x * y) z _ _ _ _ (6 * (L + 1)) (p2.keep G).ri ((r3.keep G).wide q8) q5 q6).mono ?_); rintro e wq ⟨v1, v2, rfl, hH, hf⟩; obtain ⟨⟨Ph, ih, jh, rfl⟩, ⟨Qh, uh, th, rfl⟩⟩ := hH.form; first | (with_reducible have G := fr_then G hf) | (with_reducible have G := fr_then (G.alloc _) hf))
      | ((with_reducible refine (rmul_n _ s2 s3 (.slice A2 n2 c2) (.slice B2 m2 k2) (.slice A3 n3 c3) (.slice B3 m3 k3) y z _ _ _ _ (L + 1) (r2.keep G) (r3.keep G) q1 q2).mono ?_); rintro e wq ⟨v1, v2, rfl, hI, hf⟩; obtain ⟨⟨Pg, ig, jg, rfl⟩, ⟨Qg, ug, tg, rfl⟩⟩ := hI.form; replace hH := hH.keep hf; first | (with_reducible have G := fr_then G hf) | (with_reducible have G := fr_then (G.alloc _) hf))
      | ((with_reducible refine (rmul_n _ s1 (sg (y * z)) (.slice A1 n1 c1) (.slice B1 m1 k1) (.slice Pg ig jg) (.slice Qg ug tg) x (y * z) _ _ _ _ (6 * (L + 1)) ((r1.keep G).wide q8) hI.ri q5 q6).mono ?_); rintro e wq ⟨v1, v2, rfl, hJ, hf⟩; obtain ⟨⟨Pk, ik, jk, rfl⟩, ⟨Qk, uk, tk, rfl⟩⟩ := hJ.form; replace hH := hH.keep hf; first | (with_reducible have G := fr_then G hf) | (with_reducible have G := fr_then (G.alloc _) hf))
      | ((with_reducible refine (same_y _ _ _ _ _ _ _ _ _ _ _ (SV.of hH) rfl (SV.of hJ) rfl (Rat.mul_assoc x y z).symm).mono ?_); rintro e wq ⟨rfl, hf⟩; first | (with_reducible have G := fr_then G hf) | (with_reducible have G := fr_then (G.alloc _) hf)))
    obtain ⟨x1, x2, x3, x5, x6⟩ := HG.out
    clear HG KS
    replace r1 := r1.keep G
    replace r2 := r2.keep G
    replace r3 := r3.keep G
    replace p1 := p1.keep G
    replace p2 := p2.keep G
    replace F := fr_then F G
    replace x1 := x1.keep G
    replace x2 := x2.keep G
    replace x3 := x3.keep G
    replace x5 := x5.keep G
    replace x6 := x6.keep G
    clear G
    have hwq : ∃ V, V = wq := ⟨_, rfl⟩
    obtain ⟨V, rfl⟩ := hwq
    have D1 : ∀ R, Fr R V V.drew := fun R => (Fr.refl R V).drew
    replace r1 := r1.keep (D1 _)
    replace r2 := r2.keep (D1 _)
    replace r3 := r3.keep (D1 _)
    replace F := F.drew
    replace x1 := x1.keep (D1 _)
    replace x2 := x2.keep (D1 _)
    replace x3 := x3.keep (D1 _)
    replace x5 := x5.keep (D1 _)
    replace x6 := x6.keep (D1 _)
    replace p1 := p1.keep (D1 _)
    replace p2 := p2.keep (D1 _)
    have G := Fr.refl (fun k => k < V.drew.heap.size) V.drew
    have KS : ∀ u, Fr (fun k => k < V.drew.heap.size) V.drew u → u.cell? ⟨w.heap.size, 0, none⟩ = some (.bool s1) ∧ u.cell? ⟨w.heap.size, 1, none⟩ = some (.slice A1 n1 c1) ∧ u.cell? ⟨w.heap.size, 2, none⟩ = some (.slice B1 m1 k1) ∧ u.cell? ⟨w.heap.size + 1, 0, none⟩ = some (.bool s2) ∧ u.cell? ⟨w.heap.size + 1, 1, none⟩ = some (.slice A2 n2 c2) ∧ u.cell? ⟨w.heap.size + 1, 2, none⟩ = some (.slice B2 m2 k2) ∧ u.cell? ⟨w.heap.size + 1 + 1, 0, none⟩ = some (.bool s3) ∧ u.cell? ⟨w.heap.size + 1 + 1, 1, none⟩ = some (.slice A3 n3 c3) ∧ u.cell? ⟨w.heap.size + 1 + 1, 2, none⟩ = some (.slice B3 m3 k3) ∧ u.cell? ⟨b5, 0, none⟩ = some (.bool (sg (x + y))) ∧ u.cell? ⟨b5, 1, none⟩ = some (.slice Px ix jx) ∧ u.cell? ⟨b5, 2, none⟩ = some (.slice Qx ux tx) ∧ u.cell? ⟨b6, 0, none⟩ = some (.bool (sg (x * y))) ∧ u.cell? ⟨b6, 1, none⟩ = some (.slice Py iy jy) ∧ u.cell? ⟨b6, 2, none⟩ = some (.slice Qy uy ty) := fun u h => by
      have z1 := x1.keep h
      have z2 := x2.keep h
      have z3 := x3.keep h
      have z5 := x5.keep h
      have z6 := x6.keep h
      exact ⟨z1.c0, z1.c1, z1.c2, z2.c0, z2.c1, z2.c2, z3.c0, z3.c1, z3.c2, z5.c0, z5.c1, z5.c2, z6.c0, z6.c1, z6.c2⟩
    have HG := Lib.hid (And.intro x1 (And.intro x2 (And.intro x3 (And.intro x5 x6))))
    clear x1 x2 x3 x5 x6 D1
    go_wp2_with fail
    go_region_held3 (fun u => u.cell? ⟨w.heap.size, 0, none⟩ = some (.bool s1) ∧ u.cell? ⟨w.heap.size, 1, none⟩ = some (.slice A1 n1 c1) ∧ u.cell? ⟨w.heap.size, 2, none⟩ = some (.slice B1 m1 k1) ∧ u.cell? ⟨w.heap.size + 1, 0, none⟩ = some (.bool s2) ∧ u.cell? ⟨w.heap.size + 1, 1, none⟩ = some (.slice A2 n2 c2) ∧ u.cell? ⟨w.heap.size + 1, 2, none⟩ = some (.slice B2 m2 k2) ∧ u.cell? ⟨w.heap.size + 1 + 1, 0, none⟩ = some (.bool s3) ∧ u.cell? ⟨w.heap.size + 1 + 1, 1, none⟩ = some (.slice A3 n3 c3) ∧ u.cell? ⟨w.heap.size + 1 + 1, 2, none⟩ = some (.slice B3 m3 k3) ∧ u.cell? ⟨b5, 0, none⟩ = some (.bool (sg (x + y))) ∧ u.cell? ⟨b5, 1, none⟩ = some (.slice Px ix jx) ∧ u.cell? ⟨b5, 2, none⟩ = some (.slice Qx ux tx) ∧ u.cell? ⟨b6, 0, none⟩ = some (.bool (sg (x * y))) ∧ u.cell? ⟨b6, 1, none⟩ = some (.slice Py iy jy) ∧ u.cell? ⟨b6, 2, none⟩ = some (.slice Qy uy ty)) (first | (with_reducible exact KS _ G) | (with_reducible exact KS _ (G.alloc _))) (first
      | ((with_reducible refine (rmul_n _ (sg (x + y)) s3 (.slice Px ix jx) (.slice Qx ux tx) (.slice A3 n3 c3) (.slice B3 m3 k3) (x + y) z _ _ _ _ (5 * (L + 1)) (p1.keep G).ri ((r3.keep G).wide q7) q3 q4).mono ?_); rintro e wq ⟨v1, v2, rfl, hA, hf⟩; obtain ⟨⟨Pa, ia, ja, rfl⟩, ⟨Qa, ua, ta, rfl⟩⟩ := hA.form; first | (with_reducible have G := fr_then G hf) | (with_reducible have G := fr_then (G.alloc _) hf))
      | ((with_reducible refine (rmul_n _ s1 s3 (.slice A1 n1 c1) (.slice B1 m1 k1) (.slice A3 n3 c3) (.slice B3 m3 k3) x z _ _ _ _ (L + 1) (r1.keep G) (r3.keep G) q1 q2).mono ?_); rintro e wq ⟨v1, v2, rfl, hB, hf⟩; obtain ⟨⟨Pb, ib, jb, rfl⟩, ⟨Qb, ub, tb, rfl⟩⟩ := hB.form; replace hA := hA.keep hf; first | (with_reducible have G := fr_then G hf) | (with_reducible have G := fr_then (G.alloc _) hf))
      | ((with_reducible refine (rmul_n _ s2 s3 (.slice A2 n2 c2) (.slice B2 m2 k2) (.slice A3 n3 c3) (.slice B3 m3 k3) y z _ _ _ _ (L + 1) (r2.keep G) (r3.keep G) q1 q2).mono ?_); rintro e wq ⟨v1, v2, rfl, hC, hf⟩; obtain ⟨⟨Pc, ic, jc, rfl⟩, ⟨Qc, uc, tc, rfl⟩⟩ := hC.form; replace hA := hA.keep hf; replace hB := hB.keep hf; first | (with_reducible have G := fr_then G hf) | (with_reducible have G := fr_then (G.alloc _) hf))
      | ((with_reducible refine (radd_n _ (sg (x * z)) (sg (y * z)) (.slice Pb ib jb) (.slice Qb ub tb) (.slice Pc ic jc) (.slice Qc uc tc) (x * z) (y * z) _ _ _ _ (6 * (L + 1)) hB.ri hC.ri q5 q6).mono ?_); rintro e wq ⟨v1, v2, rfl, hD, hf⟩; obtain ⟨⟨Pd, id, jd, rfl⟩, ⟨Qd, ud, td, rfl⟩⟩ := hD.form; replace hA := hA.keep hf; first | (with_reducible have G := fr_then G hf) | (with_reducible have G := fr_then (G.alloc _) hf))
      | ((with_reducible refine (same_y _ _ _ _ _ _ _ _ _ _ _ (SV.of hA) rfl (SV.of hD) rfl (Rat.add_mul x y z).symm).mono ?_); rintro e wq ⟨rfl, hf⟩; first | (with_reducible have G := fr_then G hf) | (with_reducible have G := fr_then (G.alloc _) hf))
      | ((with_reducible refine (rsub_n _ (sg (x + y)) s2 (.slice Px ix jx) (.slice Qx ux tx) (.slice A2 n2 c2) (.slice B2 m2 k2) (x + y) y _ _ _ _ (5 * (L + 1)) (p1.keep G).ri ((r2.keep G).wide q7) q3 q4).mono ?_); rintro e wq ⟨v1, v2, rfl, hE, hf⟩; obtain ⟨⟨Pe, ie, je, rfl⟩, ⟨Qe, ue, te, rfl⟩⟩ := hE.form; first | (with_reducible have G := fr_then G hf) | (with_reducible have G := fr_then (G.alloc _) hf))
      | ((with_reducible refine (norm_n _ s1 (.slice A1 n1 c1) (.slice B1 m1 k1) x _ _ (L + 1) (r1.keep G) q1 (by omega)).mono ?_); rintro e wq ⟨v1, v2, rfl, hG, hf⟩; obtain ⟨⟨Pg, ig, jg, rfl⟩, ⟨Qg, ug, tg, rfl⟩⟩ := hG.form; replace hE := hE.keep hf; first | (with_reducible have G := fr_then G hf) | (with_reducible have G := fr_then (G.alloc _) hf))
      | ((with_reducible refine (same_y _ _ _ _ _ _ _ _ _ _ _ (SV.of hE) rfl (SV.of hG) rfl (add_sub_self x y).symm).mono ?_); rintro e wq ⟨rfl, hf⟩; first | (with_reducible have G := fr_then G hf) | (with_reducible have G := fr_then (G.alloc _) hf))
      | ((with_reducible refine (neg_n _ s1 (.slice A1 n1 c1) (.slice B1 m1 k1) x _ _ (L + 1) (r1.keep G) q1 (by omega)).mono ?_); rintro e wq ⟨v1, v2, rfl, hI, hf⟩; obtain ⟨⟨Ph, ih, jh, rfl⟩, ⟨Qh, uh, th, rfl⟩⟩ := hI.form; first | (with_reducible have G := fr_then G hf) | (with_reducible have G := fr_then (G.alloc _) hf))
      | ((with_reducible refine (radd_n _ s1 (sg (-x)) (.slice A1 n1 c1) (.slice B1 m1 k1) (.slice Ph ih jh) (.slice Qh uh th) x (-x) _ _ _ _ (L + 1) (r1.keep G) hI.ri q1 q2).mono ?_); rintro e wq ⟨v1, v2, rfl, hJ, hf⟩; obtain ⟨⟨Pk, ik, jk, rfl⟩, ⟨Qk, uk, tk, rfl⟩⟩ := hJ.form; first | (with_reducible have G := fr_then G hf) | (with_reducible have G := fr_then (G.alloc _) hf))
      | ((with_reducible refine (rsign_z _ (sg (x + -x)) (.slice Pk ik jk) (.slice Qk uk tk) (x + -x) _ _ (5 * (L + 1)) 0 H0 hJ.ri q3 (by omega)).mono ?_); rintro e wq ⟨rfl, hf⟩; first | (with_reducible have G := fr_then G hf) | (with_reducible have G := fr_then (G.alloc _) hf)))
    obtain ⟨x1, x2, x3, x5, x6⟩ := HG.out
    clear HG KS
    replace r1 := r1.keep G
    replace r2 := r2.keep G
    replace r3 := r3.keep G
    replace p1 := p1.keep G
    replace p2 := p2.keep G
    replace F := fr_then F G
    replace x1 := x1.keep G
    replace x2 := x2.keep G
    replace x3 := x3.keep G
    replace x5 := x5.keep G
    replace x6 := x6.keep G
    clear G
    have e0 := x2.c0; have e1 := x2.c1; have e2 := x2.c2
    clear H0
    rcases hd0 with ⟨hy0, hb⟩ | ⟨hy0, rfl⟩
    · go_wp2_with fail
      refine (rsign_z _ s2 (.slice A2 n2 c2) (.slice B2 m2 k2) y _ _ (L + 1) d HD r2 q1 (by omega)).mono ?_
      rintro e W5 ⟨rfl, hf⟩
      replace r1 := r1.keep hf
      replace r2 := r2.keep hf
      replace p2 := p2.keep hf
      replace F := fr_then F hf
      replace x1 := x1.keep hf
      replace x2 := x2.keep hf
      replace x6 := x6.keep hf
      clear x3 x5 p1 r3 e0 e1 e2 hf
      have e0 := x2.c0; have e1 := x2.c1; have e2 := x2.c2; have f0 := x6.c0; have f1 := x6.c1; have f2 := x6.c2
      go_wp2_with fail
      refine (rdiv_n _ (sg (x * y)) s2 (.slice Py iy jy) (.slice Qy uy ty) (.slice A2 n2 c2) (.slice B2 m2 k2) (x * y) y _ _ _ _ (6 * (L + 1)) p2.ri (r2.wide q8) hy0 q5 q6).mono ?_
      rintro e W6 ⟨v1, v2, rfl, hQ, hf⟩
      obtain ⟨⟨Pq, iq, jq, rfl⟩, ⟨Qq, uq, tq, rfl⟩⟩ := hQ.form
      have pq := SV.of hQ
      replace r1 := r1.keep hf
      replace F := fr_then F hf
      replace x1 := x1.keep hf
      clear hQ e0 e1 e2 f0 f1 f2 hf x2 x6 r2 p2
      have hA := (Fr.refl (fun k => k < W6.heap.size) W6).alloc (.cells #[.bool false, .slice none 0 0, .slice none 0 0] 25)
      have xn := Box3.new W6 25 (.bool false) (.slice none 0 0) (.slice none 0 0)
      replace r1 := r1.low.keep hA
      replace F := fr_then F hA
      have pz := pq.keep hA
      have xl := x1.lt
      replace x1 := x1.keep hA
      clear pq hA hb
      go_wp2_with ((with_reducible apply wpList_st3); rfl; rfl; exact xn; exact rat3; rfl; rfl; rfl; intro W7 x9 F9)
      replace r1 := r1.fr (F9.mono fun k _ hk => Nat.ne_of_lt hk)
      replace pz := pz.past xn F9
      replace x1 := x1.fr F9 (Nat.ne_of_lt xl)
      replace F := F.comp F9 fun k hk h => ⟨h, Nat.ne_of_lt (Nat.lt_trans hk xl)⟩
      have D1 : ∀ R, Fr R W7 W7.drew := fun R => (Fr.refl R W7).drew
      replace r1 := r1.keep (D1 _)
      replace pz := pz.keep (D1 _)
      replace F := F.drew
      have G := Fr.refl (fun k => k < W7.drew.heap.size) W7.drew
      have KS : ∀ u, Fr (fun k => k < W7.drew.heap.size) W7.drew u → u.cell? ⟨w.heap.size, 0, none⟩ = some (.bool s1) ∧ u.cell? ⟨w.heap.size, 1, none⟩ = some (.slice A1 n1 c1) ∧ u.cell? ⟨w.heap.size, 2, none⟩ = some (.slice B1 m1 k1) ∧ u.cell? ⟨W6.heap.size, 0, none⟩ = some (.bool (sg (x * y / y))) ∧ u.cell? ⟨W6.heap.size, 1, none⟩ = some (.slice Pq iq jq) ∧ u.cell? ⟨W6.heap.size, 2, none⟩ = some (.slice Qq uq tq) := fun u h => by
        have z1 := (x1.keep (D1 _)).keep h
        have z2 := (x9.keep (D1 _)).keep h
        exact ⟨z1.c0, z1.c1, z1.c2, z2.c0, z2.c1, z2.c2⟩
      clear D1 F9 xn x1 x9
      try go_wp2_with fail
      go_region_held3 (fun u => u.cell? ⟨w.heap.size, 0, none⟩ = some (.bool s1) ∧ u.cell? ⟨w.heap.size, 1, none⟩ = some (.slice A1 n1 c1) ∧ u.cell? ⟨w.heap.size, 2, none⟩ = some (.slice B1 m1 k1) ∧ u.cell? ⟨W6.heap.size, 0, none⟩ = some (.bool (sg (x * y / y))) ∧ u.cell? ⟨W6.heap.size, 1, none⟩ = some (.slice Pq iq jq) ∧ u.cell? ⟨W6.heap.size, 2, none⟩ = some (.slice Qq uq tq)) (first | (with_reducible exact KS _ G) | (with_reducible exact KS _ (G.alloc _))) (first
        | ((with_reducible refine (norm_n _ s1 (.slice A1 n1 c1) (.slice B1 m1 k1) x _ _ (L + 1) (r1.keep G) q1 (by omega)).mono ?_); rintro e wq ⟨v1, v2, rfl, hG, hf⟩; obtain ⟨⟨Pg, ig, jg, rfl⟩, ⟨Qg, ug, tg, rfl⟩⟩ := hG.form; first | (with_reducible have G := fr_then G hf) | (with_reducible have G := fr_then (G.alloc _) hf))
        | ((with_reducible refine (same_y _ _ _ _ _ _ _ _ _ _ _ (pz.keep G) rfl (SV.of hG) rfl (Rat.mul_div_cancel hy0).symm).mono ?_); rintro e wq ⟨rfl, hf⟩; first | (with_reducible have G := fr_then G hf) | (with_reducible have G := fr_then (G.alloc _) hf)))
      go_wp2_with fail
      refine (rknown _).mono ?_
      rintro e W8 ⟨rfl, hf⟩
      go_wp2_with fail
      go_ret
      exact ⟨rfl, fr_then (fr_then F G) hf⟩
    · clear hy0
      go_wp2_with fail
      refine (rsign_z _ s2 (.slice A2 n2 c2) (.slice B2 m2 k2) y _ _ (L + 1) 0 HD r2 q1 (by omega)).mono ?_
      rintro e W5 ⟨rfl, hf⟩
      go_wp2_with fail
      refine (rknown _).mono ?_
      rintro e W6 ⟨rfl, hf2⟩
      go_wp2_with fail
      go_ret
      exact ⟨rfl, fr_then (fr_then F hf) hf2⟩
  · exact ⟨_, _, _, _, rfl, ⟨G0, (fun h => by cases h), (fun h => by cases h), (fun h => by cases h), (fun h => absurd h (by decide)), (fun h => absurd h (by decide))⟩⟩
end Go.Proofs.Ytodpbkcdcchljaa

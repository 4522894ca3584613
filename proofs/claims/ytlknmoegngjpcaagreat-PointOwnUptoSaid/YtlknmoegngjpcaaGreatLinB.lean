import Derived.Test.YtlknmoegngjpcaaGreatLinA
set_option linter.unusedSimpArgs false
set_option linter.unusedVariables false

/- fluxionref03.Same, of two that are the same. -/
namespace Go.Proofs.YtlknmoegngjpcaaGreat
open Go.RowKit

theorem cmp_self {S T : Nat → Prop} (w : World) (va vb : Value) (N L : Nat) (ha : Hid (RC S w va N L)) (hb : Hid (RC T w vb N L)) :
    Calls Tryz.prog 103 #[va, vb] w fun e w' => e = .returned (.int .i64 0) ∧ Fr (fun k => k < w.heap.size) w w' := by
  have h := cmp_r' w va vb N N L L ha.out hb.out
  rwa [show cmpN N N = 0 from by unfold cmpN; rw [if_neg (Nat.lt_irrefl _), if_neg (Nat.lt_irrefl _)]] at h

set_option maxRecDepth 20000 in
set_option maxHeartbeats 8000000 in
theorem rsame_t {S T : Nat → Prop} (w : World) (s1 s2 : Bool) (vn vd un ud : Value) (x : Rat) (N D M E L : Nat) (h1 : Hid (RI S w s1 vn vd x N D L)) (h2 : Hid (RI T w s2 un ud x M E L)) (hL1 : 1 ≤ L) (hl1 : L ≤ 104857600) :
    Calls Tryz.prog 78 #[.agg #[.bool s1, vn, vd], .agg #[.bool s2, un, ud]] w fun e w' => e = .returned (.bool true) ∧ Fr (fun k => k < w.heap.size) w w' := by
  obtain ⟨⟨A1, n1, c1, rfl⟩, ⟨B1, m1, k1, rfl⟩⟩ := h1.out.form
  obtain ⟨⟨A2, n2, c2, rfl⟩, ⟨B2, m2, k2, rfl⟩⟩ := h2.out.form
  have F := ((Fr.refl (fun k => k < w.heap.size) w).alloc (.cells #[.bool s1, .slice A1 n1 c1, .slice B1 m1 k1] 51)).alloc (.cells #[.bool s2, .slice A2 n2 c2, .slice B2 m2 k2] 51)
  have x1 := (Box3.new w 51 (.bool s1) (.slice A1 n1 c1) (.slice B1 m1 k1)).alloc (.cells #[.bool s2, .slice A2 n2 c2, .slice B2 m2 k2] 51)
  have x2 := Box3.new (w.alloc (.cells #[.bool s1, .slice A1 n1 c1, .slice B1 m1 k1] 51)) 51 (.bool s2) (.slice A2 n2 c2) (.slice B2 m2 k2)
  simp only [World.size_alloc] at x2
  generalize hW0 : (w.alloc (.cells #[.bool s1, .slice A1 n1 c1, .slice B1 m1 k1] 51)).alloc (.cells #[.bool s2, .slice A2 n2 c2, .slice B2 m2 k2] 51) = W0 at F x1 x2
  have D0 : ∀ R, Fr R W0 W0.drew := fun R => (Fr.refl R W0).drew
  replace x1 := x1.keep (D0 _)
  replace x2 := x2.keep (D0 _)
  have r1 := Lib.hid ((h1.out.keep F).keep (D0 _))
  have r2 := Lib.hid ((h2.out.keep F).keep (D0 _))
  have KS : ∀ u, Fr (fun k => k < W0.drew.heap.size) W0.drew u → u.cell? ⟨w.heap.size, 0, none⟩ = some (.bool s1) ∧ u.cell? ⟨w.heap.size, 1, none⟩ = some (.slice A1 n1 c1) ∧ u.cell? ⟨w.heap.size, 2, none⟩ = some (.slice B1 m1 k1) ∧ u.cell? ⟨w.heap.size + 1, 0, none⟩ = some (.bool s2) ∧ u.cell? ⟨w.heap.size + 1, 1, none⟩ = some (.slice A2 n2 c2) ∧ u.cell? ⟨w.heap.size + 1, 2, none⟩ = some (.slice B2 m2 k2) := fun u h => by
    have z1 := x1.keep h
    have z2 := x2.keep h
    exact ⟨z1.c0, z1.c1, z1.c2, z2.c0, z2.c1, z2.c2⟩
  replace F := F.drew
  have G0 := Fr.refl (fun k => k < W0.drew.heap.size) W0.drew
  clear D0 h1 h2
  go_enter Tryz.func78, Tryz.ntmps78
  go_wp2_with fail
  clear hW0
  refine wpTill.begin (fun u => u.cell? ⟨w.heap.size, 0, none⟩ = some (.bool s1) ∧ u.cell? ⟨w.heap.size, 1, none⟩ = some (.slice A1 n1 c1) ∧ u.cell? ⟨w.heap.size, 2, none⟩ = some (.slice B1 m1 k1) ∧ u.cell? ⟨w.heap.size + 1, 0, none⟩ = some (.bool s2) ∧ u.cell? ⟨w.heap.size + 1, 1, none⟩ = some (.slice A2 n2 c2) ∧ u.cell? ⟨w.heap.size + 1, 2, none⟩ = some (.slice B2 m2 k2)) 7 (by kernel_rfl) ?_
  change wpTill _ _ _ _ _ _ 8 _ _ _
  refine wpTill.take 0 (.agg #[.bool s1, .slice A1 n1 c1, .slice B1 m1 k1]) rfl (by kernel_rfl) (by kernel_rfl) (fun _ _ _ h => h) (KS _ G0) (by rfl) (fun u hu => by go_simp) ?_
  try simp only [Act.put, List.setIfInBounds_toArray, List.set_cons_zero, List.set_cons_succ]
  refine wpTill.take 2 (.agg #[.bool s2, .slice A2 n2 c2, .slice B2 m2 k2]) rfl (by kernel_rfl) (by kernel_rfl) (fun _ _ _ h => h) (KS _ G0) (by rfl) (fun u hu => by go_simp) ?_
  try simp only [Act.put, List.setIfInBounds_toArray, List.set_cons_zero, List.set_cons_succ]
  refine wpTill.pair (n := 2) [1, 3] 4 5 (Pair (fun t5 t6 t8 t10 => { tmps := #[.agg #[.bool s1, .slice A1 n1 c1, .slice B1 m1 k1], .agg #[.bool s2, .slice A2 n2 c2, .slice B2 m2 k2], .pointer (some ⟨w.heap.size, 0, none⟩), .pointer (some ⟨w.heap.size + 1, 0, none⟩), .bool false, t5, t6, .agg #[.bool s1, .slice A1 n1 c1, .slice B1 m1 k1], t8, .agg #[.bool s2, .slice A2 n2 c2, .slice B2 m2 k2], t10, undef, undef, undef, undef, undef, undef, undef, undef, undef, undef, undef, undef, undef, undef, undef, undef, undef, undef, undef, undef, undef], defers := [] }) W0.drew 56 (fun u v => Got u v x (3 * L)) (fun u v => Got u v x (3 * L))) (by kernel_rfl) ?_ ?_ ?_ ?_ ?_ ?_
  · rintro c p q a u ⟨t5, t6, t8, t10, rfl, h⟩
    exact KS _ h.fr
  · intro c i hi p q
    rcases c with _ | _ | c
    · obtain rfl := Option.some.inj (show some 1 = some i from hi)
      refine ⟨_, rfl, rfl, ?_⟩
      rintro a u K ⟨t5, t6, t8, t10, rfl, h⟩ hk
      go_simp
      refine (rof_r _ s1 (.slice A1 n1 c1) (.slice B1 m1 k1) x _ _ L (r1.out.keep h.fr) hL1 hl1).mono ?_
      rintro e u' ⟨v1, v2, rfl, ha, hf⟩
      exact hk _ _ ⟨_, _, _, _, rfl, h.one hf (Got.of ha)⟩
    · obtain rfl := Option.some.inj (show some 3 = some i from hi)
      refine ⟨_, rfl, rfl, ?_⟩
      rintro a u K ⟨t5, t6, t8, t10, rfl, h⟩ hk
      go_simp
      refine (rof_r _ s2 (.slice A2 n2 c2) (.slice B2 m2 k2) x _ _ L (r2.out.keep h.fr) hL1 hl1).mono ?_
      rintro e u' ⟨v1, v2, rfl, ha, hf⟩
      exact hk _ _ ⟨_, _, _, _, rfl, h.two (fun _ _ _ => Got.keep) hf (Got.of ha)⟩
    · exact absurd hi (by simp)
  · intro c q
    refine ⟨_, rfl, rfl, ?_⟩
    rintro a u K ⟨t5, t6, t8, t10, rfl, h⟩ hk
    go_simp
    exact hk _ _ ⟨_, _, _, _, rfl, h.left (fun _ _ _ => Got.keep) (fun _ _ _ => Got.keep)⟩
  · intro c p
    refine ⟨_, rfl, rfl, ?_⟩
    rintro a u K ⟨t5, t6, t8, t10, rfl, h⟩ hk
    go_simp
    exact hk _ _ ⟨_, _, _, _, rfl, h.right (fun _ _ _ => Got.keep) (fun _ _ _ => Got.keep)⟩
  · rintro a u ⟨t5, t6, t8, t10, rfl, h⟩
    obtain ⟨b5, rfl, x5, l5⟩ := h.x rfl
    obtain ⟨b6, rfl, x6, l6⟩ := h.y rfl
    have hne : b5 ≠ b6 := fun e => h.ne rfl rfl (by rw [e])
    obtain ⟨Pa, ia, ja, Qa, ua, ta, rfl, q1⟩ := h.g (Nat.le_succ 1)
    obtain ⟨Pb, ib, jb, Qb, ub, tb, rfl, q2⟩ := h.h (Nat.le_refl 2)
    have G := h.fr
    have z5 := x6.fr (fr_set3 u b5 (.bool (sg x)) (.slice Pa ia ja) (.slice Qa ua ta)) hne.symm
    have S6 := KS _ (fr3 G l5 (x := .bool (sg x)) (y := .slice Pa ia ja) (z := .slice Qa ua ta))
    have S5 := KS _ G
    have o0 := x5.c0; have o1 := x5.c1; have o2 := x5.c2; have o3 := x5.free 0; have o4 := x5.free 1; have o5 := x5.free 2
    have e0 := z5.c0; have e1 := z5.c1; have e2 := z5.c2; have e3 := z5.free 0; have e4 := z5.free 1; have e5 := z5.free 2
    have fin := leaf2 (s := sg x) (r := sg x) x5 x6 hne q1 q2 G l5 l6
    clear h z5
    refine wpTill.next 6 rfl (by kernel_rfl) (by rfl) (fun K hK => ?_)
    go_simp
    refine hK _ _ (fun _ => S6) ?_
    clear hK K
    try simp only [Act.put, List.setIfInBounds_toArray, List.set_cons_zero, List.set_cons_succ]
    refine wpTill.next 7 rfl (by kernel_rfl) (by rfl) (fun K hK => ?_)
    go_simp
    refine hK _ _ (no_wait (by kernel_rfl)) ?_
    clear hK K
    try simp only [Act.put, List.setIfInBounds_toArray, List.set_cons_zero, List.set_cons_succ]
    refine wpTill.done (by kernel_rfl) ?_
    clear o0 o1 o2 o3 o4 o5 e0 e1 e2 e3 e4 e5 S5 S6 x5 x6 q1 q2 G
    generalize (((((u.setCell ⟨b5, 0, none⟩ _).setCell ⟨b5, 1, none⟩ _).setCell ⟨b5, 2, none⟩ _).setCell ⟨b6, 0, none⟩ _).setCell ⟨b6, 1, none⟩ _).setCell ⟨b6, 2, none⟩ _ = U at fin ⊢
    obtain ⟨x5, x6, q1, q2, G⟩ := fin
    generalize sg x = sx at x5 x6 ⊢
    have e0 := x5.c0; have e1 := x5.c1; have e2 := x5.c2; have f0 := x6.c0; have f1 := x6.c1; have f2 := x6.c2
    go_wp2_with fail
    with_reducible refine (cmp_self _ (.slice Pa ia ja) (.slice Pb ib jb) x.num.natAbs (3 * L) (Lib.hid q1.num) (Lib.hid q2.num)).mono ?_
    rintro e V ⟨rfl, hf⟩
    clear e0 e1 e2 f0 f1 f2
    replace x5 := x5.keep hf
    replace x6 := x6.keep hf
    replace q1 := q1.keep hf
    replace q2 := q2.keep hf
    replace G := fr_then G hf
    clear hf
    have e0 := x5.c0; have e1 := x5.c1; have e2 := x5.c2; have f0 := x6.c0; have f1 := x6.c1; have f2 := x6.c2
    go_wp2_with fail
    with_reducible refine (cmp_self _ (.slice Qa ua ta) (.slice Qb ub tb) x.den (3 * L) (Lib.hid q1.den) (Lib.hid q2.den)).mono ?_
    rintro e V2 ⟨rfl, hf⟩
    replace G := fr_then G hf
    go_wp2_with fail
    go_ret
    exact ⟨rfl, fr_then F G⟩
  · exact ⟨_, _, _, _, rfl, ⟨G0, (fun h => by cases h), (fun h => by cases h), (fun h => by cases h), (fun h => absurd h (by decide)), (fun h => absurd h (by decide))⟩⟩
end Go.Proofs.YtlknmoegngjpcaaGreat

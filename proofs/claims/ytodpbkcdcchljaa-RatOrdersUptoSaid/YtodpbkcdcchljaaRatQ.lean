
/- RatOrders. -/
import Derived.Test.YtodpbkcdcchljaaRatP0
import Derived.Test.YtodpbkcdcchljaaRatS0
namespace Go.Proofs.Ytodpbkcdcchljaa
open Go.RowKit

theorem rcmp_qz {S T : Nat → Prop} (w : World) (s t : Bool) (vn vd un ud : Value) (x y : Rat) (L : Nat) (c : Int) (hc : Hid ((x - y).num.sign = c)) (hx : RR S w vn vd x L) (hy : RR T w un ud y L) (hs : s = sg x) (ht : t = sg y) (hL1 : 1 ≤ L) (hl : L ≤ 104857600) :
    Calls Try.prog 40 #[.agg #[.bool s, vn, vd], .agg #[.bool t, un, ud]] w fun e w' => e = .returned (.int .i64 c) ∧ Fr (fun k => k < w.heap.size) w w' := by
  have := rcmp_q w s t vn vd un ud x y L hx hy hs ht hL1 hl
  rwa [hc.out] at this
theorem rsign_rz {S : Nat → Prop} (w : World) (s : Bool) (vn vd : Value) (q : Rat) (L : Nat) (c : Int) (hc : Hid (q.num.sign = c)) (h : RR S w vn vd q L) (hs : s = sg q) :
    Calls Try.prog 42 #[.agg #[.bool s, vn, vd]] w fun e w' => e = .returned (.int .i64 c) ∧ Fr (fun k => k < w.heap.size) w w' := by
  have := rsign_r w s vn vd q L h hs
  rwa [hc.out] at this
theorem rbits_nz {S : Nat → Prop} (w : World) (s : Bool) (vn vd : Value) (q : Rat) (N D L : Nat) (c : Int) (hc : Hid (max (blen q.num.natAbs : Int) (blen q.den : Int) = c)) (h : RI S w s vn vd q N D L) (hL1 : 1 ≤ L) (hl : L ≤ 1048576000) :
    Calls Try.prog 43 #[.agg #[.bool s, vn, vd]] w fun e w' => e = .returned (.int .i64 c) ∧ Fr (fun k => k < w.heap.size) w w' := by
  have := rbits_n w s vn vd q N D L h hL1 hl
  rwa [hc.out] at this
theorem rbits_rz {S : Nat → Prop} (w : World) (s : Bool) (vn vd : Value) (x : Rat) (L : Nat) (c : Int) (hc : Hid (max (blen x.num.natAbs : Int) (blen x.den : Int) = c)) (h : RR S w vn vd x L) (hs : s = sg x) (hl : L ≤ 104857600) :
    Calls Try.prog 44 #[.agg #[.bool s, vn, vd]] w fun e w' => e = .returned (.int .i64 c) ∧ Fr (fun k => k < w.heap.size) w w' := by
  have := rbits_r w s vn vd x L h hs hl
  rwa [hc.out] at this
theorem sign_eq {x y : Rat} : decide (x = y) = ((x - y).num.sign == 0) := by
  by_cases h : x = y
  · subst h
    rw [decide_eq_true rfl, Rat.sub_self]
    rfl
  · rw [decide_eq_false h]
    refine (beq_eq_false_iff_ne.2 fun e => h ?_).symm
    have h0 : (x - y).num = 0 := Int.sign_eq_zero_iff_zero.1 e
    have h1 : x - y = 0 := Rat.num_eq_zero.1 h0
    have h2 : x - y + y = 0 + y := by rw [h1]
    rwa [Rat.sub_eq_add_neg, Rat.add_assoc, Rat.neg_add_cancel, Rat.add_zero, Rat.zero_add] at h2

set_option maxRecDepth 20000 in
set_option maxHeartbeats 16000000 in
theorem rorders_walk {S : Nat → Prop} {s1 s2 : Bool} {xs1 ys1 xs2 ys2 : List Nat} (w : World) (va vb : Value) (L : Nat) (h1 : RL S w va s1 xs1 ys1 L) (h2 : RL S w vb s2 xs2 ys2 L) (hL : L ≤ 1048576) :
    Calls Try.prog 10 #[va, vb] w fun e w' => e = .returned (.bool true) ∧ Fr (fun k => k < w.heap.size) w w' := by
  obtain ⟨A1, n1, c1, B1, m1, k1, rfl, hx1, hy1, lx1, ly1⟩ := h1.open
  obtain ⟨A2, n2, c2, B2, m2, k2, rfl, hx2, hy2, lx2, ly2⟩ := h2.open
  clear h1 h2
  obtain ⟨x, hx⟩ : ∃ x, rv s1 (val xs1) (val ys1) = x := ⟨_, rfl⟩
  obtain ⟨y, hy⟩ : ∃ y, rv s2 (val xs2) (val ys2) = y := ⟨_, rfl⟩
  obtain ⟨c, hc⟩ : ∃ c, (x - y).num.sign = c := ⟨_, rfl⟩
  obtain ⟨d, hd⟩ : ∃ d, x.num.sign = d := ⟨_, rfl⟩
  obtain ⟨l, hl⟩ : ∃ l, max (blen x.num.natAbs : Int) (blen x.den : Int) = l := ⟨_, rfl⟩
  obtain ⟨eb, heb⟩ : ∃ eb, (c == 0) = eb := ⟨_, rfl⟩
  have C1 := Lib.hid hc
  have C2 := Lib.hid hd
  have C3 := Lib.hid hl
  have C4 := Lib.hid (show decide (x = y) = eb by rw [sign_eq, hc, heb])
  clear hc hd hl
  have HX := Lib.hid hx
  have HY := Lib.hid hy
  clear hx hy
  have F := ((Fr.refl (fun k => k < w.heap.size) w).alloc (.cells #[.bool s1, .slice A1 n1 c1, .slice B1 m1 k1] 25)).alloc (.cells #[.bool s2, .slice A2 n2 c2, .slice B2 m2 k2] 25)
  have x1 := (Box3.new w 25 (.bool s1) (.slice A1 n1 c1) (.slice B1 m1 k1)).alloc (.cells #[.bool s2, .slice A2 n2 c2, .slice B2 m2 k2] 25)
  have x2 := Box3.new (w.alloc (.cells #[.bool s1, .slice A1 n1 c1, .slice B1 m1 k1] 25)) 25 (.bool s2) (.slice A2 n2 c2) (.slice B2 m2 k2)
  simp only [World.size_alloc] at x2
  have hL1 : 1 ≤ L + 1 := by omega
  have hl1 : L + 1 ≤ 104857600 := by omega
  have hL3 : 1 ≤ 3 * (L + 1) := by omega
  have hl3 : 3 * (L + 1) ≤ 104857600 := by omega
  generalize hW0 : (w.alloc (.cells #[.bool s1, .slice A1 n1 c1, .slice B1 m1 k1] 25)).alloc (.cells #[.bool s2, .slice A2 n2 c2, .slice B2 m2 k2] 25) = W0 at F x1 x2
  have D0 : ∀ R, Fr R W0 W0.drew := fun R => (Fr.refl R W0).drew
  replace x1 := x1.keep (D0 _)
  replace x2 := x2.keep (D0 _)
  replace hx1 := (hx1.keep' Lm_pos F).keep' Lm_pos (D0 _)
  replace hy1 := (hy1.keep' Lm_pos F).keep' Lm_pos (D0 _)
  replace hx2 := (hx2.keep' Lm_pos F).keep' Lm_pos (D0 _)
  replace hy2 := (hy2.keep' Lm_pos F).keep' Lm_pos (D0 _)
  have r1 := ri_q HX hx1 hy1 lx1 ly1
  have r2 := ri_q HY hx2 hy2 lx2 ly2
  have KS : ∀ u, Fr (fun k => k < W0.drew.heap.size) W0.drew u → u.cell? ⟨w.heap.size, 0, none⟩ = some (.bool s1) ∧ u.cell? ⟨w.heap.size, 1, none⟩ = some (.slice A1 n1 c1) ∧ u.cell? ⟨w.heap.size, 2, none⟩ = some (.slice B1 m1 k1) ∧ u.cell? ⟨w.heap.size + 1, 0, none⟩ = some (.bool s2) ∧ u.cell? ⟨w.heap.size + 1, 1, none⟩ = some (.slice A2 n2 c2) ∧ u.cell? ⟨w.heap.size + 1, 2, none⟩ = some (.slice B2 m2 k2) := fun u h => by
    have z1 := x1.keep h
    have z2 := x2.keep h
    exact ⟨z1.c0, z1.c1, z1.c2, z2.c0, z2.c1, z2.c2⟩
  replace F := F.drew
  have G0 := Fr.refl (fun k => k < W0.drew.heap.size) W0.drew
  clear D0
  go_enter Try.func10, Try.ntmps10
  go_wp2_with fail
  clear hW0
  refine wpTill.begin (fun u => u.cell? ⟨w.heap.size, 0, none⟩ = some (.bool s1) ∧ u.cell? ⟨w.heap.size, 1, none⟩ = some (.slice A1 n1 c1) ∧ u.cell? ⟨w.heap.size, 2, none⟩ = some (.slice B1 m1 k1) ∧ u.cell? ⟨w.heap.size + 1, 0, none⟩ = some (.bool s2) ∧ u.cell? ⟨w.heap.size + 1, 1, none⟩ = some (.slice A2 n2 c2) ∧ u.cell? ⟨w.heap.size + 1, 2, none⟩ = some (.slice B2 m2 k2)) 7 (by kernel_rfl) ?_
  change wpTill _ _ _ _ _ _ 8 _ _ _
  refine wpTill.take 0 (.agg #[.bool s1, .slice A1 n1 c1, .slice B1 m1 k1]) rfl (by kernel_rfl) (by kernel_rfl) (fun _ _ _ h => h) (KS _ G0) (by rfl) (fun u hu => by go_simp) ?_
  try simp only [Act.put, List.setIfInBounds_toArray, List.set_cons_zero, List.set_cons_succ]
  refine wpTill.take 2 (.agg #[.bool s2, .slice A2 n2 c2, .slice B2 m2 k2]) rfl (by kernel_rfl) (by kernel_rfl) (fun _ _ _ h => h) (KS _ G0) (by rfl) (fun u hu => by go_simp) ?_
  try simp only [Act.put, List.setIfInBounds_toArray, List.set_cons_zero, List.set_cons_succ]
  refine wpTill.pair (n := 2) [1, 3] 4 5 (Pair (fun t5 t6 t8 t10 => { tmps := #[.agg #[.bool s1, .slice A1 n1 c1, .slice B1 m1 k1], .agg #[.bool s2, .slice A2 n2 c2, .slice B2 m2 k2], .pointer (some ⟨w.heap.size, 0, none⟩), .pointer (some ⟨w.heap.size + 1, 0, none⟩), .bool false, t5, t6, undef, .agg #[.bool s1, .slice A1 n1 c1, .slice B1 m1 k1], t8, .agg #[.bool s2, .slice A2 n2 c2, .slice B2 m2 k2], t10, undef, undef, undef, undef, undef, undef, undef, undef, undef, undef, undef, undef, undef, undef, undef, undef, undef, undef, undef, undef, undef, undef, undef, undef, undef, undef, undef, undef, undef, undef, undef, undef, undef, undef, undef], defers := [] }) W0.drew 34 (fun u v => Got u v x (3 * (L + 1))) (fun u v => Got u v y (3 * (L + 1)))) (by kernel_rfl) ?_ ?_ ?_ ?_ ?_ ?_
  · rintro c p q a u ⟨t5, t6, t8, t10, rfl, h⟩
    exact KS _ h.fr
  · intro c i hi p q
    rcases c with _ | _ | c
    · obtain rfl := Option.some.inj (show some 1 = some i from hi)
      refine ⟨_, rfl, rfl, ?_⟩
      rintro a u K ⟨t5, t6, t8, t10, rfl, h⟩ hk
      go_simp
      refine (rof_r _ s1 (.slice A1 n1 c1) (.slice B1 m1 k1) x _ _ (L + 1) (r1.keep h.fr) hL1 hl1).mono ?_
      rintro e u' ⟨v1, v2, rfl, ha, hf⟩
      exact hk _ _ ⟨_, _, _, _, rfl, h.one hf (Got.of ha)⟩
    · obtain rfl := Option.some.inj (show some 3 = some i from hi)
      refine ⟨_, rfl, rfl, ?_⟩
      rintro a u K ⟨t5, t6, t8, t10, rfl, h⟩ hk
      go_simp
      refine (rof_r _ s2 (.slice A2 n2 c2) (.slice B2 m2 k2) y _ _ (L + 1) (r2.keep h.fr) hL1 hl1).mono ?_
      rintro e u' ⟨v1, v2, rfl, ha, hf⟩
      exact hk _ _ ⟨_, _, _, _, rfl, h.two (fun _ _ _ => Got.keep) hf (Got.of ha)⟩
    · exact absurd hi (by simp)
  · intro c q
    refine ⟨_, rfl, rfl, ?_⟩
    rintro a u K ⟨t5, t6, t8, t10, rfl, h⟩ hk
    go_simp
    exact hk _ _ ⟨_, _, _, _, rfl, h.left (fun _ _ _ => Got.keep) (fun _ _ _ => Got.keep)⟩
  · intro c p
    refine ⟨_, rfl, rfl, ?_⟩
    rintro a u K ⟨t5, t6, t8, t10, rfl, h⟩ hk
    go_simp
    exact hk _ _ ⟨_, _, _, _, rfl, h.right (fun _ _ _ => Got.keep) (fun _ _ _ => Got.keep)⟩
  · rintro a u ⟨t5, t6, t8, t10, rfl, h⟩
    obtain ⟨b5, rfl, x5, l5⟩ := h.x rfl
    obtain ⟨b6, rfl, x6, l6⟩ := h.y rfl
    have hne : b5 ≠ b6 := fun e => h.ne rfl rfl (by rw [e])
    obtain ⟨Pa, ia, ja, Qa, ua, ta, rfl, q1⟩ := h.g (Nat.le_succ 1)
    obtain ⟨Pb, ib, jb, Qb, ub, tb, rfl, q2⟩ := h.h (Nat.le_refl 2)
    have G := h.fr
    have z5 := x6.fr (fr_set3 u b5 (.bool (sg x)) (.slice Pa ia ja) (.slice Qa ua ta)) hne.symm
    have S6 := KS _ (fr3 G l5 (x := .bool (sg x)) (y := .slice Pa ia ja) (z := .slice Qa ua ta))
    have S5 := KS _ G
    have o0 := x5.c0; have o1 := x5.c1; have o2 := x5.c2; have o3 := x5.free 0; have o4 := x5.free 1; have o5 := x5.free 2
    have e0 := z5.c0; have e1 := z5.c1; have e2 := z5.c2; have e3 := z5.free 0; have e4 := z5.free 1; have e5 := z5.free 2
    have fin := leaf2 (s := sg x) (r := sg y) x5 x6 hne q1 q2 G l5 l6
    clear h z5
    refine wpTill.next 6 rfl (by kernel_rfl) (by rfl) (fun K hK => ?_)
    go_simp
    refine hK _ _ (fun _ => S6) ?_
    clear hK K
    try simp only [Act.put, List.setIfInBounds_toArray, List.set_cons_zero, List.set_cons_succ]
    refine wpTill.next 7 rfl (by kernel_rfl) (by rfl) (fun K hK => ?_)
    go_simp
    refine hK _ _ (no_wait (by kernel_rfl)) ?_
    clear hK K
    try simp only [Act.put, List.setIfInBounds_toArray, List.set_cons_zero, List.set_cons_succ]
    refine wpTill.done (by kernel_rfl) ?_
    clear o0 o1 o2 o3 o4 o5 e0 e1 e2 e3 e4 e5 S5 S6 x5 x6 q1 q2 G
    generalize (((((u.setCell ⟨b5, 0, none⟩ _).setCell ⟨b5, 1, none⟩ _).setCell ⟨b5, 2, none⟩ _).setCell ⟨b6, 0, none⟩ _).setCell ⟨b6, 1, none⟩ _).setCell ⟨b6, 2, none⟩ _ = U at fin ⊢
    obtain ⟨x5, x6, q1, q2, G⟩ := fin
    have e0 := x5.c0; have e1 := x5.c1; have e2 := x5.c2; have f0 := x6.c0; have f1 := x6.c1; have f2 := x6.c2
    go_wp2_with fail
    refine (rcmp_qz _ (sg x) (sg y) (.slice Pa ia ja) (.slice Qa ua ta) (.slice Pb ib jb) (.slice Qb ub tb) x y (3 * (L + 1)) c C1 q1 q2 rfl rfl hL3 hl3).mono ?_
    rintro e V ⟨rfl, hf⟩
    clear e0 e1 e2 f0 f1 f2
    replace x5 := x5.keep hf
    replace x6 := x6.keep hf
    replace q1 := q1.keep hf
    replace q2 := q2.keep hf
    replace G := fr_then G hf
    clear hf
    have D1 : ∀ R, Fr R V V.drew := fun R => (Fr.refl R V).drew
    replace hx1 := (hx1.keep' Lm_pos G).keep' Lm_pos (D1 _)
    replace hy1 := (hy1.keep' Lm_pos G).keep' Lm_pos (D1 _)
    replace hx2 := (hx2.keep' Lm_pos G).keep' Lm_pos (D1 _)
    replace hy2 := (hy2.keep' Lm_pos G).keep' Lm_pos (D1 _)
    replace q1 := q1.keep (D1 _)
    replace q2 := q2.keep (D1 _)
    replace F := (fr_then F G).drew
    have z := KS _ G
    replace x1 := (x1.keep G).keep (D1 _)
    replace x2 := (x2.keep G).keep (D1 _)
    replace x5 := x5.keep (D1 _)
    replace x6 := x6.keep (D1 _)
    clear KS G0 r1 r2 G z
    have G := Fr.refl (fun k => k < V.drew.heap.size) V.drew
    have KS : ∀ u, Fr (fun k => k < V.drew.heap.size) V.drew u → u.cell? ⟨w.heap.size, 0, none⟩ = some (.bool s1) ∧ u.cell? ⟨w.heap.size, 1, none⟩ = some (.slice A1 n1 c1) ∧ u.cell? ⟨w.heap.size, 2, none⟩ = some (.slice B1 m1 k1) ∧ u.cell? ⟨w.heap.size + 1, 0, none⟩ = some (.bool s2) ∧ u.cell? ⟨w.heap.size + 1, 1, none⟩ = some (.slice A2 n2 c2) ∧ u.cell? ⟨w.heap.size + 1, 2, none⟩ = some (.slice B2 m2 k2) ∧ u.cell? ⟨b5, 0, none⟩ = some (.bool (sg x)) ∧ u.cell? ⟨b5, 1, none⟩ = some (.slice Pa ia ja) ∧ u.cell? ⟨b5, 2, none⟩ = some (.slice Qa ua ta) ∧ u.cell? ⟨b6, 0, none⟩ = some (.bool (sg y)) ∧ u.cell? ⟨b6, 1, none⟩ = some (.slice Pb ib jb) ∧ u.cell? ⟨b6, 2, none⟩ = some (.slice Qb ub tb) := fun u h => by
      have z1 := x1.keep h
      have z2 := x2.keep h
      have z3 := x5.keep h
      have z4 := x6.keep h
      exact ⟨z1.c0, z1.c1, z1.c2, z2.c0, z2.c1, z2.c2, z3.c0, z3.c1, z3.c2, z4.c0, z4.c1, z4.c2⟩
    clear x1 x2 x5 x6 D1
    go_wp2_with fail
    go_region_held3 (fun u => u.cell? ⟨w.heap.size, 0, none⟩ = some (.bool s1) ∧ u.cell? ⟨w.heap.size, 1, none⟩ = some (.slice A1 n1 c1) ∧ u.cell? ⟨w.heap.size, 2, none⟩ = some (.slice B1 m1 k1) ∧ u.cell? ⟨w.heap.size + 1, 0, none⟩ = some (.bool s2) ∧ u.cell? ⟨w.heap.size + 1, 1, none⟩ = some (.slice A2 n2 c2) ∧ u.cell? ⟨w.heap.size + 1, 2, none⟩ = some (.slice B2 m2 k2) ∧ u.cell? ⟨b5, 0, none⟩ = some (.bool (sg x)) ∧ u.cell? ⟨b5, 1, none⟩ = some (.slice Pa ia ja) ∧ u.cell? ⟨b5, 2, none⟩ = some (.slice Qa ua ta) ∧ u.cell? ⟨b6, 0, none⟩ = some (.bool (sg y)) ∧ u.cell? ⟨b6, 1, none⟩ = some (.slice Pb ib jb) ∧ u.cell? ⟨b6, 2, none⟩ = some (.slice Qb ub tb)) (first | (with_reducible exact KS _ G) | (with_reducible exact KS _ (G.alloc _))) (first
      | ((with_reducible refine (rown_l _ s1 (.slice A1 n1 c1) (.slice B1 m1 k1) xs1 ys1 (hx1.keep' Lm_pos G) (hy1.keep' Lm_pos G) (by omega) (by omega)).mono ?_); rintro e wq ⟨v1, v2, rfl, hb, hf⟩; obtain ⟨⟨Pc, ic, jc, rfl⟩, ⟨Qc, uc, tc, rfl⟩⟩ := hb.form; first | (with_reducible have G := fr_then G hf) | (with_reducible have G := fr_then (G.alloc _) hf))
      | ((with_reducible refine (rown_l _ s2 (.slice A2 n2 c2) (.slice B2 m2 k2) xs2 ys2 (hx2.keep' Lm_pos G) (hy2.keep' Lm_pos G) (by omega) (by omega)).mono ?_); rintro e wq ⟨v1, v2, rfl, hc, hf⟩; obtain ⟨⟨Pd, id, jd, rfl⟩, ⟨Qd, ud, td, rfl⟩⟩ := hc.form; (first | (with_reducible replace hb := hb.keep hf) | skip); (first | (with_reducible replace hb := hb.keep hf) | skip); first | (with_reducible have G := fr_then G hf) | (with_reducible have G := fr_then (G.alloc _) hf))
      | ((with_reducible refine (rcmp_z _ s1 s2 (.slice Pc ic jc) (.slice Qc uc tc) (.slice Pd id jd) (.slice Qd ud td) x y _ _ _ _ (L + 1) c C1 (ri_q HX hb.num.sl hb.den.sl lx1 ly1) (ri_q HY hc.num.sl hc.den.sl lx2 ly2) hL1 hl1).mono ?_); rintro e wq ⟨rfl, hf⟩; (first | (with_reducible replace ha := ha.keep hf) | skip); (first | (with_reducible replace hb := hb.keep hf) | skip); (first | (with_reducible replace hc := hc.keep hf) | skip); (first | (with_reducible replace hd := hd.keep hf) | skip); first | (with_reducible have G := fr_then G hf) | (with_reducible have G := fr_then (G.alloc _) hf))
      | ((with_reducible refine (rsame_z _ s1 s2 (.slice A1 n1 c1) (.slice B1 m1 k1) (.slice A2 n2 c2) (.slice B2 m2 k2) x y _ _ _ _ (L + 1) eb C4 (ri_q HX (hx1.keep' Lm_pos G) (hy1.keep' Lm_pos G) lx1 ly1) (ri_q HY (hx2.keep' Lm_pos G) (hy2.keep' Lm_pos G) lx2 ly2) hL1 hl1).mono ?_); rintro e wq ⟨rfl, hf⟩; (first | (with_reducible replace ha := ha.keep hf) | skip); (first | (with_reducible replace hb := hb.keep hf) | skip); (first | (with_reducible replace hc := hc.keep hf) | skip); (first | (with_reducible replace hd := hd.keep hf) | skip); first | (with_reducible have G := fr_then G hf) | (with_reducible have G := fr_then (G.alloc _) hf))
      | ((with_reducible refine (rsign_z _ s1 (.slice A1 n1 c1) (.slice B1 m1 k1) x _ _ (L + 1) d C2 (ri_q HX (hx1.keep' Lm_pos G) (hy1.keep' Lm_pos G) lx1 ly1) hL1 (by omega)).mono ?_); rintro e wq ⟨rfl, hf⟩; (first | (with_reducible replace ha := ha.keep hf) | skip); (first | (with_reducible replace hb := hb.keep hf) | skip); (first | (with_reducible replace hc := hc.keep hf) | skip); (first | (with_reducible replace hd := hd.keep hf) | skip); first | (with_reducible have G := fr_then G hf) | (with_reducible have G := fr_then (G.alloc _) hf))
      | ((with_reducible refine (rsign_rz _ (sg x) (.slice Pa ia ja) (.slice Qa ua ta) x (3 * (L + 1)) d C2 (q1.keep G) rfl).mono ?_); rintro e wq ⟨rfl, hf⟩; (first | (with_reducible replace ha := ha.keep hf) | skip); (first | (with_reducible replace hb := hb.keep hf) | skip); (first | (with_reducible replace hc := hc.keep hf) | skip); (first | (with_reducible replace hd := hd.keep hf) | skip); first | (with_reducible have G := fr_then G hf) | (with_reducible have G := fr_then (G.alloc _) hf))
      | ((with_reducible refine (rbits_nz _ s1 (.slice A1 n1 c1) (.slice B1 m1 k1) x _ _ (L + 1) l C3 (ri_q HX (hx1.keep' Lm_pos G) (hy1.keep' Lm_pos G) lx1 ly1) hL1 (by omega)).mono ?_); rintro e wq ⟨rfl, hf⟩; (first | (with_reducible replace ha := ha.keep hf) | skip); (first | (with_reducible replace hb := hb.keep hf) | skip); (first | (with_reducible replace hc := hc.keep hf) | skip); (first | (with_reducible replace hd := hd.keep hf) | skip); first | (with_reducible have G := fr_then G hf) | (with_reducible have G := fr_then (G.alloc _) hf))
      | ((with_reducible refine (rbits_rz _ (sg x) (.slice Pa ia ja) (.slice Qa ua ta) x (3 * (L + 1)) l C3 (q1.keep G) rfl hl3).mono ?_); rintro e wq ⟨rfl, hf⟩; (first | (with_reducible replace ha := ha.keep hf) | skip); (first | (with_reducible replace hb := hb.keep hf) | skip); (first | (with_reducible replace hc := hc.keep hf) | skip); (first | (with_reducible replace hd := hd.keep hf) | skip); first | (with_reducible have G := fr_then G hf) | (with_reducible have G := fr_then (G.alloc _) hf))
      | ((with_reducible refine (rknown _).mono ?_); rintro e wq ⟨rfl, hf⟩; (first | (with_reducible replace ha := ha.keep hf) | skip); (first | (with_reducible replace hb := hb.keep hf) | skip); (first | (with_reducible replace hc := hc.keep hf) | skip); (first | (with_reducible replace hd := hd.keep hf) | skip); first | (with_reducible have G := fr_then G hf) | (with_reducible have G := fr_then (G.alloc _) hf)))
    go_wp2_with fail
    go_ret
    exact ⟨rfl, fr_then F G⟩
  · exact ⟨_, _, _, _, rfl, ⟨G0, (fun h => by cases h), (fun h => by cases h), (fun h => by cases h), (fun h => absurd h (by decide)), (fun h => absurd h (by decide))⟩⟩
end Go.Proofs.Ytodpbkcdcchljaa

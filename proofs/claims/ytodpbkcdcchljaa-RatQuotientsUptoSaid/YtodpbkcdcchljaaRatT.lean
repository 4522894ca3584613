
/- RatQuotients. -/
import Derived.Test.YtodpbkcdcchljaaRatP0
namespace Go.Proofs.Ytodpbkcdcchljaa
open Go.RowKit

set_option maxRecDepth 20000 in
set_option maxHeartbeats 16000000 in
theorem rquot_walk {S : Nat → Prop} {s1 s2 : Bool} {xs1 ys1 xs2 ys2 : List Nat} (w : World) (va vb : Value) (L : Nat) (h1 : RL S w va s1 xs1 ys1 L) (h2 : RL S w vb s2 xs2 ys2 L) (hL : L ≤ 1048576) :
    Calls Try.prog 7 #[va, vb] w fun e w' => e = .returned (.bool true) ∧ Fr (fun k => k < w.heap.size) w w' := by
  obtain ⟨A1, n1, c1, B1, m1, k1, rfl, hx1, hy1, lx1, ly1⟩ := h1.open
  obtain ⟨A2, n2, c2, B2, m2, k2, rfl, hx2, hy2, lx2, ly2⟩ := h2.open
  clear h1 h2
  obtain ⟨x, hx⟩ : ∃ x, rv s1 (val xs1) (val ys1) = x := ⟨_, rfl⟩
  obtain ⟨y, hy⟩ : ∃ y, rv s2 (val xs2) (val ys2) = y := ⟨_, rfl⟩
  have HX := Lib.hid hx
  have HY := Lib.hid hy
  clear hx hy
  have F := ((Fr.refl (fun k => k < w.heap.size) w).alloc (.cells #[.bool s1, .slice A1 n1 c1, .slice B1 m1 k1] 25)).alloc (.cells #[.bool s2, .slice A2 n2 c2, .slice B2 m2 k2] 25)
  have x1 := (Box3.new w 25 (.bool s1) (.slice A1 n1 c1) (.slice B1 m1 k1)).alloc (.cells #[.bool s2, .slice A2 n2 c2, .slice B2 m2 k2] 25)
  have x2 := Box3.new (w.alloc (.cells #[.bool s1, .slice A1 n1 c1, .slice B1 m1 k1] 25)) 25 (.bool s2) (.slice A2 n2 c2) (.slice B2 m2 k2)
  simp only [World.size_alloc] at x2
  have hL1 : 1 ≤ L + 1 := by omega
  have hl1 : L + 1 ≤ 104857600 := by omega
  have hL3 : 1 ≤ 3 * (L + 1) := by omega
  have hl3 : 3 * (L + 1) ≤ 104857600 := by omega
  generalize hW0 : (w.alloc (.cells #[.bool s1, .slice A1 n1 c1, .slice B1 m1 k1] 25)).alloc (.cells #[.bool s2, .slice A2 n2 c2, .slice B2 m2 k2] 25) = W0 at F x1 x2
  have D0 : ∀ R, Fr R W0 W0.drew := fun R => (Fr.refl R W0).drew
  replace x1 := x1.keep (D0 _)
  replace x2 := x2.keep (D0 _)
  replace hx1 := (hx1.keep' Lm_pos F).keep' Lm_pos (D0 _)
  replace hy1 := (hy1.keep' Lm_pos F).keep' Lm_pos (D0 _)
  replace hx2 := (hx2.keep' Lm_pos F).keep' Lm_pos (D0 _)
  replace hy2 := (hy2.keep' Lm_pos F).keep' Lm_pos (D0 _)
  have r1 := ri_q HX hx1 hy1 lx1 ly1
  have r2 := ri_q HY hx2 hy2 lx2 ly2
  have KS : ∀ u, Fr (fun k => k < W0.drew.heap.size) W0.drew u → u.cell? ⟨w.heap.size, 0, none⟩ = some (.bool s1) ∧ u.cell? ⟨w.heap.size, 1, none⟩ = some (.slice A1 n1 c1) ∧ u.cell? ⟨w.heap.size, 2, none⟩ = some (.slice B1 m1 k1) ∧ u.cell? ⟨w.heap.size + 1, 0, none⟩ = some (.bool s2) ∧ u.cell? ⟨w.heap.size + 1, 1, none⟩ = some (.slice A2 n2 c2) ∧ u.cell? ⟨w.heap.size + 1, 2, none⟩ = some (.slice B2 m2 k2) := fun u h => by
    have z1 := x1.keep h
    have z2 := x2.keep h
    exact ⟨z1.c0, z1.c1, z1.c2, z2.c0, z2.c1, z2.c2⟩
  replace F := F.drew
  have G0 := Fr.refl (fun k => k < W0.drew.heap.size) W0.drew
  clear D0
  go_enter Try.func7, Try.ntmps7
  go_wp2_with fail
  clear hW0
  by_cases hy0 : y = 0
  · subst hy0
    refine wpTill.begin (fun u => u.cell? ⟨w.heap.size, 0, none⟩ = some (.bool s1) ∧ u.cell? ⟨w.heap.size, 1, none⟩ = some (.slice A1 n1 c1) ∧ u.cell? ⟨w.heap.size, 2, none⟩ = some (.slice B1 m1 k1) ∧ u.cell? ⟨w.heap.size + 1, 0, none⟩ = some (.bool s2) ∧ u.cell? ⟨w.heap.size + 1, 1, none⟩ = some (.slice A2 n2 c2) ∧ u.cell? ⟨w.heap.size + 1, 2, none⟩ = some (.slice B2 m2 k2)) 10 (by kernel_rfl) ?_
    change wpTill _ _ _ _ _ _ 11 _ _ _
    refine wpTill.take 0 (.agg #[.bool s1, .slice A1 n1 c1, .slice B1 m1 k1]) rfl (by kernel_rfl) (by kernel_rfl) (fun _ _ _ h => h) (KS _ G0) (by rfl) (fun u hu => by go_simp) ?_
    try simp only [Act.put, List.setIfInBounds_toArray, List.set_cons_zero, List.set_cons_succ]
    refine wpTill.take 2 (.agg #[.bool s2, .slice A2 n2 c2, .slice B2 m2 k2]) rfl (by kernel_rfl) (by kernel_rfl) (fun _ _ _ h => h) (KS _ G0) (by rfl) (fun u hu => by go_simp) ?_
    try simp only [Act.put, List.setIfInBounds_toArray, List.set_cons_zero, List.set_cons_succ]
    refine wpTill.via (m := 2) #[true, true, true, true, true, true, true, true, true, false, false] (fun a u => ∃ (R1 R2 R3 : Value) (b5 : Nat) (Pe : Option Addr) (ie je : Nat) (Qe : Option Addr) (ue te : Nat), a = { tmps := #[.agg #[.bool s1, .slice A1 n1 c1, .slice B1 m1 k1], .agg #[.bool s2, .slice A2 n2 c2, .slice B2 m2 k2], .pointer (some ⟨w.heap.size, 0, none⟩), .pointer (some ⟨w.heap.size + 1, 0, none⟩), .bool false, .pointer (some ⟨b5, 0, none⟩), undef, undef, undef, .tuple #[.agg #[.bool false, .slice Pe ie je, .slice Qe ue te], .int .i64 17], .agg #[.bool s1, .slice A1 n1 c1, .slice B1 m1 k1], R1, .agg #[.bool s2, .slice A2 n2 c2, .slice B2 m2 k2], R2, R3, .agg #[.bool false, .slice Pe ie je, .slice Qe ue te], .int .i64 17, undef, undef, undef, undef, undef, undef, undef, undef, undef, undef, undef, undef, undef, undef, undef, undef, undef, undef, undef, undef, undef, undef, undef, undef, undef, undef, undef, undef, undef, undef, undef], defers := [] } ∧ Box3 u b5 25 (.bool false) (.slice none 0 0) (.slice none 0 0) ∧ W0.drew.heap.size ≤ b5 ∧ (NilP) u (.slice Pe ie je) (.slice Qe ue te) ∧ Fr (fun k => k < W0.drew.heap.size) W0.drew u) ?_ (fun END => ?_)
    · rintro a u ⟨R1, R2, R3, b5, Pe, ie, je, Qe, ue, te, rfl, xb, lb, pq, G⟩
      obtain ⟨pn, pd⟩ := pq
      injection pn with e1 e2 e3
      injection pd with e4 e5 e6
      subst e1 e2 e3 e4 e5 e6
      have S6 := KS _ (fr3 G lb (x := .bool false) (y := .slice none 0 0) (z := .slice none 0 0))
      have o0 := xb.c0; have o1 := xb.c1; have o2 := xb.c2; have o3 := xb.free 0; have o4 := xb.free 1; have o5 := xb.free 2
      have fin := leaf1 (s := false) (v1 := .slice none 0 0) (v2 := .slice none 0 0) xb G lb
      refine wpTill.next 9 rfl (by kernel_rfl) (by rfl) (fun K hK => ?_)
      go_simp
      refine hK _ _ (fun _ => S6) ?_
      clear hK K
      try simp only [Act.put, List.setIfInBounds_toArray, List.set_cons_zero, List.set_cons_succ]
      refine wpTill.next 10 rfl (by kernel_rfl) (by rfl) (fun K hK => ?_)
      go_simp
      refine hK _ _ (no_wait (by kernel_rfl)) ?_
      clear hK K
      try simp only [Act.put, List.setIfInBounds_toArray, List.set_cons_zero, List.set_cons_succ]
      refine wpTill.done (by kernel_rfl) ?_
      clear o0 o1 o2 o3 o4 o5 S6 xb G
      generalize ((u.setCell ⟨b5, 0, none⟩ _).setCell ⟨b5, 1, none⟩ _).setCell ⟨b5, 2, none⟩ _ = U at fin ⊢
      obtain ⟨xb, G⟩ := fin
      clear lb
      have D1 : ∀ R, Fr R U U.drew := fun R => (Fr.refl R U).drew
      replace hx1 := (hx1.keep' Lm_pos G).keep' Lm_pos (D1 _)
      replace hy1 := (hy1.keep' Lm_pos G).keep' Lm_pos (D1 _)
      replace hx2 := (hx2.keep' Lm_pos G).keep' Lm_pos (D1 _)
      replace hy2 := (hy2.keep' Lm_pos G).keep' Lm_pos (D1 _)
      replace F := (fr_then F G).drew
      replace x1 := (x1.keep G).keep (D1 _)
      replace x2 := (x2.keep G).keep (D1 _)
      replace xb := xb.keep (D1 _)
      clear KS G0 r1 r2 G
      have G1 := Fr.refl (fun k => k < U.drew.heap.size) U.drew
      have KU : ∀ u, Fr (fun k => k < U.drew.heap.size) U.drew u → u.cell? ⟨w.heap.size, 0, none⟩ = some (.bool s1) ∧ u.cell? ⟨w.heap.size, 1, none⟩ = some (.slice A1 n1 c1) ∧ u.cell? ⟨w.heap.size, 2, none⟩ = some (.slice B1 m1 k1) ∧ u.cell? ⟨w.heap.size + 1, 0, none⟩ = some (.bool s2) ∧ u.cell? ⟨w.heap.size + 1, 1, none⟩ = some (.slice A2 n2 c2) ∧ u.cell? ⟨w.heap.size + 1, 2, none⟩ = some (.slice B2 m2 k2) := fun u h => by
        have z1 := x1.keep h
        have z2 := x2.keep h
        exact ⟨z1.c0, z1.c1, z1.c2, z2.c0, z2.c1, z2.c2⟩
      have xa := xb
      clear xb D1
      go_wp2_with fail
      refine wpTill.begin (fun u => u.cell? ⟨w.heap.size, 0, none⟩ = some (.bool s1) ∧ u.cell? ⟨w.heap.size, 1, none⟩ = some (.slice A1 n1 c1) ∧ u.cell? ⟨w.heap.size, 2, none⟩ = some (.slice B1 m1 k1) ∧ u.cell? ⟨w.heap.size + 1, 0, none⟩ = some (.bool s2) ∧ u.cell? ⟨w.heap.size + 1, 1, none⟩ = some (.slice A2 n2 c2) ∧ u.cell? ⟨w.heap.size + 1, 2, none⟩ = some (.slice B2 m2 k2)) 10 (by kernel_rfl) ?_
      change wpTill _ _ _ _ _ _ 11 _ _ _
      refine wpTill.take 0 (.agg #[.bool s1, .slice A1 n1 c1, .slice B1 m1 k1]) rfl (by kernel_rfl) (by kernel_rfl) (fun _ _ _ h => h) (KU _ G1) (by rfl) (fun u hu => by go_simp) ?_
      try simp only [Act.put, List.setIfInBounds_toArray, List.set_cons_zero, List.set_cons_succ]
      refine wpTill.take 2 (.agg #[.bool s2, .slice A2 n2 c2, .slice B2 m2 k2]) rfl (by kernel_rfl) (by kernel_rfl) (fun _ _ _ h => h) (KU _ G1) (by rfl) (fun u hu => by go_simp) ?_
      try simp only [Act.put, List.setIfInBounds_toArray, List.set_cons_zero, List.set_cons_succ]
      refine wpTill.via (m := 2) #[true, true, true, true, true, true, true, true, true, false, false] (fun a u => ∃ (R5 R6 R7 : Value) (b7 : Nat) (Pg : Option Addr) (ig jg : Nat) (Qg : Option Addr) (ug tg : Nat), a = { tmps := #[.agg #[.bool s1, .slice A1 n1 c1, .slice B1 m1 k1], .agg #[.bool s2, .slice A2 n2 c2, .slice B2 m2 k2], .pointer (some ⟨w.heap.size, 0, none⟩), .pointer (some ⟨w.heap.size + 1, 0, none⟩), .bool false, .pointer (some ⟨b5, 0, none⟩), .int .i64 17, .pointer (some ⟨b7, 0, none⟩), undef, .tuple #[.agg #[.bool false, .slice none 0 0, .slice none 0 0], .int .i64 17], .agg #[.bool s1, .slice A1 n1 c1, .slice B1 m1 k1], R1, .agg #[.bool s2, .slice A2 n2 c2, .slice B2 m2 k2], R2, R3, .agg #[.bool false, .slice none 0 0, .slice none 0 0], .int .i64 17, .tuple #[.agg #[.bool false, .slice Pg ig jg, .slice Qg ug tg], .bool false], .agg #[.bool s1, .slice A1 n1 c1, .slice B1 m1 k1], R5, .agg #[.bool s2, .slice A2 n2 c2, .slice B2 m2 k2], R6, R7, .agg #[.bool false, .slice Pg ig jg, .slice Qg ug tg], .bool false, undef, undef, undef, undef, undef, undef, undef, undef, undef, undef, undef, undef, undef, undef, undef, undef, undef, undef, undef, undef, undef, undef, undef], defers := [] } ∧ Box3 u b7 34 (.bool false) (.slice none 0 0) (.slice none 0 0) ∧ U.drew.heap.size ≤ b7 ∧ (NilP) u (.slice Pg ig jg) (.slice Qg ug tg) ∧ Fr (fun k => k < U.drew.heap.size) U.drew u) ?_ (fun END => ?_)
      · rintro a u ⟨R5, R6, R7, b7, Pg, ig, jg, Qg, ug, tg, rfl, xb, lb, pq, G⟩
        obtain ⟨pn, pd⟩ := pq
        injection pn with e1 e2 e3
        injection pd with e4 e5 e6
        subst e1 e2 e3 e4 e5 e6
        have S6 := KU _ (fr3 G lb (x := .bool false) (y := .slice none 0 0) (z := .slice none 0 0))
        have o0 := xb.c0; have o1 := xb.c1; have o2 := xb.c2; have o3 := xb.free 0; have o4 := xb.free 1; have o5 := xb.free 2
        have fin := leaf1 (s := false) (v1 := .slice none 0 0) (v2 := .slice none 0 0) xb G lb
        refine wpTill.next 9 rfl (by kernel_rfl) (by rfl) (fun K hK => ?_)
        go_simp
        refine hK _ _ (fun _ => S6) ?_
        clear hK K
        try simp only [Act.put, List.setIfInBounds_toArray, List.set_cons_zero, List.set_cons_succ]
        refine wpTill.next 10 rfl (by kernel_rfl) (by rfl) (fun K hK => ?_)
        go_simp
        refine hK _ _ (no_wait (by kernel_rfl)) ?_
        clear hK K
        try simp only [Act.put, List.setIfInBounds_toArray, List.set_cons_zero, List.set_cons_succ]
        refine wpTill.done (by kernel_rfl) ?_
        clear o0 o1 o2 o3 o4 o5 S6 xb G
        generalize ((u.setCell ⟨b7, 0, none⟩ _).setCell ⟨b7, 1, none⟩ _).setCell ⟨b7, 2, none⟩ _ = V at fin ⊢
        obtain ⟨xb, G⟩ := fin
        clear lb
        replace xa := xa.keep G
        have o0 := xa.c2
        have c0 := xb.c0
        go_wp2_with fail
        refine (rknown _).mono ?_
        rintro e V1 ⟨rfl, hf⟩
        go_wp2_with fail
        go_ret
        exact ⟨rfl, fr_then (fr_then F G) hf⟩
      refine wpTill.solo (n := 5) [1, 3, 4] 8 (One (fun t5 r1 r2 r3 => { tmps := #[.agg #[.bool s1, .slice A1 n1 c1, .slice B1 m1 k1], .agg #[.bool s2, .slice A2 n2 c2, .slice B2 m2 k2], .pointer (some ⟨w.heap.size, 0, none⟩), .pointer (some ⟨w.heap.size + 1, 0, none⟩), .bool false, .pointer (some ⟨b5, 0, none⟩), .int .i64 17, t5, undef, .tuple #[.agg #[.bool false, .slice none 0 0, .slice none 0 0], .int .i64 17], .agg #[.bool s1, .slice A1 n1 c1, .slice B1 m1 k1], R1, .agg #[.bool s2, .slice A2 n2 c2, .slice B2 m2 k2], R2, R3, .agg #[.bool false, .slice none 0 0, .slice none 0 0], .int .i64 17, undef, .agg #[.bool s1, .slice A1 n1 c1, .slice B1 m1 k1], r1, .agg #[.bool s2, .slice A2 n2 c2, .slice B2 m2 k2], r2, r3, undef, undef, undef, undef, undef, undef, undef, undef, undef, undef, undef, undef, undef, undef, undef, undef, undef, undef, undef, undef, undef, undef, undef, undef, undef], defers := [] }) U.drew 34 ((fun u v => Got u v x (3 * (L + 1)))) ((fun u v => Got u v 0 (3 * (L + 1)))) (DivT false (.bool false) (NilP))) (by kernel_rfl) ?_ ?_ ?_ ?_ ?_ ?_
      · rintro c p a u ⟨t5, r1, r2, r3, rfl, h⟩
        exact KU _ h.fr
      · intro c i hi p
        rcases c with _ | _ | _ | c
        · obtain rfl := Option.some.inj (show some 1 = some i from hi)
          refine ⟨_, rfl, rfl, ?_⟩
          rintro a u K ⟨t5, r1, r2, r3, rfl, h⟩ hk
          go_simp
          refine (rof_r _ s1 (.slice A1 n1 c1) (.slice B1 m1 k1) x _ _ (L + 1) (ri_q HX (hx1.keep' Lm_pos h.fr) (hy1.keep' Lm_pos h.fr) lx1 ly1) hL1 hl1).mono ?_
          rintro e u' ⟨v1, v2, rfl, ha, hf⟩
          exact hk _ _ ⟨_, _, _, _, rfl, h.s1 hf (Got.of ha)⟩
        · obtain rfl := Option.some.inj (show some 3 = some i from hi)
          refine ⟨_, rfl, rfl, ?_⟩
          rintro a u K ⟨t5, r1, r2, r3, rfl, h⟩ hk
          go_simp
          refine (rof_r _ s2 (.slice A2 n2 c2) (.slice B2 m2 k2) 0 _ _ (L + 1) (ri_q HY (hx2.keep' Lm_pos h.fr) (hy2.keep' Lm_pos h.fr) lx2 ly2) hL1 hl1).mono ?_
          rintro e u' ⟨v1, v2, rfl, ha, hf⟩
          exact hk _ _ ⟨_, _, _, _, rfl, h.s2 (fun _ _ _ => Got.keep) hf (Got.of ha)⟩
        · obtain rfl := Option.some.inj (show some 4 = some i from hi)
          refine ⟨_, rfl, rfl, ?_⟩
          rintro a u K ⟨t5, r1, r2, r3, rfl, h⟩ hk
          obtain ⟨Aa, na, ca, Ab, nb, cb, rfl, o1⟩ := h.g1 (by decide)
          obtain ⟨Ac, nc, cc, Ad, nd, cd, rfl, o2⟩ := h.g2 (by decide)
          go_simp
          refine (rdiv_q0 _ (sg x) (sg 0) _ _ _ _ x (3 * (L + 1)) o1 o2).mono ?_
          rintro e u' ⟨rfl, hf⟩
          exact hk _ _ ⟨_, _, _, _, rfl, h.s3 (fun _ _ _ => Got.keep) (fun _ _ _ => Got.keep) hf ⟨none, 0, 0, none, 0, 0, rfl, rfl, rfl⟩⟩
        · exact absurd hi (by simp)
      · intro c
        refine ⟨_, rfl, rfl, ?_⟩
        rintro a u K ⟨t5, r1, r2, r3, rfl, h⟩ hk
        go_simp
        exact hk _ _ ⟨_, _, _, _, rfl, h.new (fun _ _ _ => Got.keep) (fun _ _ _ => Got.keep) (fun _ _ _ => DivT.keep (fun _ _ _ _ _ h => h))⟩
      · rintro a u ⟨t5, r1, r2, r3, rfl, h⟩
        obtain ⟨b, rfl, xb, lb⟩ := h.x rfl
        obtain ⟨Pg, ig, jg, Qg, ug, tg, rfl, pq⟩ := h.g3 (Nat.le_refl 3)
        have S5 := KU _ h.fr
        refine wpTill.take 5 (.tuple #[.agg #[.bool false, .slice Pg ig jg, .slice Qg ug tg], .bool false]) rfl (by kernel_rfl) (by kernel_rfl) (fun _ _ _ h => h) S5 (by rfl) (fun u hu => by go_simp) ?_
        try simp only [Act.put, List.setIfInBounds_toArray, List.set_cons_zero, List.set_cons_succ]
        refine wpTill.take 6 (.agg #[.bool false, .slice Pg ig jg, .slice Qg ug tg]) rfl (by kernel_rfl) (by kernel_rfl) (fun _ _ _ h => h) S5 (by rfl) (fun u hu => by go_simp) ?_
        try simp only [Act.put, List.setIfInBounds_toArray, List.set_cons_zero, List.set_cons_succ]
        refine wpTill.take 7 (.bool false) rfl (by kernel_rfl) (by kernel_rfl) (fun _ _ _ h => h) S5 (by rfl) (fun u hu => by go_simp) ?_
        try simp only [Act.put, List.setIfInBounds_toArray, List.set_cons_zero, List.set_cons_succ]
        exact wpTill.same (by kernel_rfl) (END _ _ ⟨_, _, _, _, _, _, _, _, _, _, rfl, xb, lb, pq, h.fr⟩)
      · rintro a u ⟨t5, r1, r2, r3, rfl, h⟩
        obtain ⟨Pg, ig, jg, Qg, ug, tg, rfl, pq⟩ := h.g3 (Nat.le_refl 3)
        have S5 := KU _ h.fr
        refine wpTill.take 5 (.tuple #[.agg #[.bool false, .slice Pg ig jg, .slice Qg ug tg], .bool false]) rfl (by kernel_rfl) (by kernel_rfl) (fun _ _ _ h => h) S5 (by rfl) (fun u hu => by go_simp) ?_
        try simp only [Act.put, List.setIfInBounds_toArray, List.set_cons_zero, List.set_cons_succ]
        refine wpTill.take 6 (.agg #[.bool false, .slice Pg ig jg, .slice Qg ug tg]) rfl (by kernel_rfl) (by kernel_rfl) (fun _ _ _ h => h) S5 (by rfl) (fun u hu => by go_simp) ?_
        try simp only [Act.put, List.setIfInBounds_toArray, List.set_cons_zero, List.set_cons_succ]
        refine wpTill.take 7 (.bool false) rfl (by kernel_rfl) (by kernel_rfl) (fun _ _ _ h => h) S5 (by rfl) (fun u hu => by go_simp) ?_
        try simp only [Act.put, List.setIfInBounds_toArray, List.set_cons_zero, List.set_cons_succ]
        have hA := (Fr.refl (fun k => k < u.heap.size) u).alloc (.cells #[.bool false, .slice none 0 0, .slice none 0 0] 34)
        refine wpTill.next 8 rfl (by kernel_rfl) (by rfl) (fun K hK => ?_)
        go_simp
        refine hK _ _ (fun _ => KU _ (fr_then h.fr hA)) ?_
        clear hK K
        try simp only [Act.put, List.setIfInBounds_toArray, List.set_cons_zero, List.set_cons_succ]
        exact wpTill.same (by kernel_rfl) (END _ _ ⟨_, _, _, _, _, _, _, _, _, _, rfl, Box3.new _ _ _ _ _, h.fr.size, pq, fr_then h.fr hA⟩)
      · exact ⟨_, _, _, _, rfl, Solo.init G1⟩
    refine wpTill.solo (n := 5) [1, 3, 4] 8 (One (fun t5 r1 r2 r3 => { tmps := #[.agg #[.bool s1, .slice A1 n1 c1, .slice B1 m1 k1], .agg #[.bool s2, .slice A2 n2 c2, .slice B2 m2 k2], .pointer (some ⟨w.heap.size, 0, none⟩), .pointer (some ⟨w.heap.size + 1, 0, none⟩), .bool false, t5, undef, undef, undef, undef, .agg #[.bool s1, .slice A1 n1 c1, .slice B1 m1 k1], r1, .agg #[.bool s2, .slice A2 n2 c2, .slice B2 m2 k2], r2, r3, undef, undef, undef, undef, undef, undef, undef, undef, undef, undef, undef, undef, undef, undef, undef, undef, undef, undef, undef, undef, undef, undef, undef, undef, undef, undef, undef, undef, undef, undef, undef, undef, undef], defers := [] }) W0.drew 25 (Owned s1 xs1 ys1) (Owned s2 xs2 ys2) (DivT false (.int .i64 17) (NilP))) (by kernel_rfl) ?_ ?_ ?_ ?_ ?_ ?_
    · rintro c p a u ⟨t5, r1, r2, r3, rfl, h⟩
      exact KS _ h.fr
    · intro c i hi p
      rcases c with _ | _ | _ | c
      · obtain rfl := Option.some.inj (show some 1 = some i from hi)
        refine ⟨_, rfl, rfl, ?_⟩
        rintro a u K ⟨t5, r1, r2, r3, rfl, h⟩ hk
        go_simp
        refine (rown_l _ s1 (.slice A1 n1 c1) (.slice B1 m1 k1) xs1 ys1 (hx1.keep' Lm_pos h.fr) (hy1.keep' Lm_pos h.fr) (by omega) (by omega)).mono ?_
        rintro e u' ⟨v1, v2, rfl, ha, hf⟩
        exact hk _ _ ⟨_, _, _, _, rfl, h.s1 hf (Owned.of ha)⟩
      · obtain rfl := Option.some.inj (show some 3 = some i from hi)
        refine ⟨_, rfl, rfl, ?_⟩
        rintro a u K ⟨t5, r1, r2, r3, rfl, h⟩ hk
        go_simp
        refine (rown_l _ s2 (.slice A2 n2 c2) (.slice B2 m2 k2) xs2 ys2 (hx2.keep' Lm_pos h.fr) (hy2.keep' Lm_pos h.fr) (by omega) (by omega)).mono ?_
        rintro e u' ⟨v1, v2, rfl, ha, hf⟩
        exact hk _ _ ⟨_, _, _, _, rfl, h.s2 (fun _ _ _ => Owned.keep) hf (Owned.of ha)⟩
      · obtain rfl := Option.some.inj (show some 4 = some i from hi)
        refine ⟨_, rfl, rfl, ?_⟩
        rintro a u K ⟨t5, r1, r2, r3, rfl, h⟩ hk
        obtain ⟨Aa, na, ca, Ab, nb, cb, rfl, o1, o2⟩ := h.g1 (by decide)
        obtain ⟨Ac, nc, cc, Ad, nd, cd, rfl, o3, o4⟩ := h.g2 (by decide)
        go_simp
        refine (rdiv_0 _ s1 s2 _ _ _ _ x _ _ _ _ (L + 1) (ri_q HX o1 o2 lx1 ly1) (ri_q HY o3 o4 lx2 ly2) hL1 hl1).mono ?_
        rintro e u' ⟨rfl, hf⟩
        exact hk _ _ ⟨_, _, _, _, rfl, h.s3 (fun _ _ _ => Owned.keep) (fun _ _ _ => Owned.keep) hf ⟨none, 0, 0, none, 0, 0, rfl, rfl, rfl⟩⟩
      · exact absurd hi (by simp)
    · intro c
      refine ⟨_, rfl, rfl, ?_⟩
      rintro a u K ⟨t5, r1, r2, r3, rfl, h⟩ hk
      go_simp
      exact hk _ _ ⟨_, _, _, _, rfl, h.new (fun _ _ _ => Owned.keep) (fun _ _ _ => Owned.keep) (fun _ _ _ => DivT.keep (fun _ _ _ _ _ h => h))⟩
    · rintro a u ⟨t5, r1, r2, r3, rfl, h⟩
      obtain ⟨b, rfl, xb, lb⟩ := h.x rfl
      obtain ⟨Pe, ie, je, Qe, ue, te, rfl, pq⟩ := h.g3 (Nat.le_refl 3)
      have S5 := KS _ h.fr
      refine wpTill.take 5 (.tuple #[.agg #[.bool false, .slice Pe ie je, .slice Qe ue te], .int .i64 17]) rfl (by kernel_rfl) (by kernel_rfl) (fun _ _ _ h => h) S5 (by rfl) (fun u hu => by go_simp) ?_
      try simp only [Act.put, List.setIfInBounds_toArray, List.set_cons_zero, List.set_cons_succ]
      refine wpTill.take 6 (.agg #[.bool false, .slice Pe ie je, .slice Qe ue te]) rfl (by kernel_rfl) (by kernel_rfl) (fun _ _ _ h => h) S5 (by rfl) (fun u hu => by go_simp) ?_
      try simp only [Act.put, List.setIfInBounds_toArray, List.set_cons_zero, List.set_cons_succ]
      refine wpTill.take 7 (.int .i64 17) rfl (by kernel_rfl) (by kernel_rfl) (fun _ _ _ h => h) S5 (by rfl) (fun u hu => by go_simp) ?_
      try simp only [Act.put, List.setIfInBounds_toArray, List.set_cons_zero, List.set_cons_succ]
      exact wpTill.same (by kernel_rfl) (END _ _ ⟨_, _, _, _, _, _, _, _, _, _, rfl, xb, lb, pq, h.fr⟩)
    · rintro a u ⟨t5, r1, r2, r3, rfl, h⟩
      obtain ⟨Pe, ie, je, Qe, ue, te, rfl, pq⟩ := h.g3 (Nat.le_refl 3)
      have S5 := KS _ h.fr
      refine wpTill.take 5 (.tuple #[.agg #[.bool false, .slice Pe ie je, .slice Qe ue te], .int .i64 17]) rfl (by kernel_rfl) (by kernel_rfl) (fun _ _ _ h => h) S5 (by rfl) (fun u hu => by go_simp) ?_
      try simp only [Act.put, List.setIfInBounds_toArray, List.set_cons_zero, List.set_cons_succ]
      refine wpTill.take 6 (.agg #[.bool false, .slice Pe ie je, .slice Qe ue te]) rfl (by kernel_rfl) (by kernel_rfl) (fun _ _ _ h => h) S5 (by rfl) (fun u hu => by go_simp) ?_
      try simp only [Act.put, List.setIfInBounds_toArray, List.set_cons_zero, List.set_cons_succ]
      refine wpTill.take 7 (.int .i64 17) rfl (by kernel_rfl) (by kernel_rfl) (fun _ _ _ h => h) S5 (by rfl) (fun u hu => by go_simp) ?_
      try simp only [Act.put, List.setIfInBounds_toArray, List.set_cons_zero, List.set_cons_succ]
      have hA := (Fr.refl (fun k => k < u.heap.size) u).alloc (.cells #[.bool false, .slice none 0 0, .slice none 0 0] 25)
      refine wpTill.next 8 rfl (by kernel_rfl) (by rfl) (fun K hK => ?_)
      go_simp
      refine hK _ _ (fun _ => KS _ (fr_then h.fr hA)) ?_
      clear hK K
      try simp only [Act.put, List.setIfInBounds_toArray, List.set_cons_zero, List.set_cons_succ]
      exact wpTill.same (by kernel_rfl) (END _ _ ⟨_, _, _, _, _, _, _, _, _, _, rfl, Box3.new _ _ _ _ _, h.fr.size, pq, fr_then h.fr hA⟩)
    · exact ⟨_, _, _, _, rfl, Solo.init G0⟩
  · have Hy := hy0
    refine wpTill.begin (fun u => u.cell? ⟨w.heap.size, 0, none⟩ = some (.bool s1) ∧ u.cell? ⟨w.heap.size, 1, none⟩ = some (.slice A1 n1 c1) ∧ u.cell? ⟨w.heap.size, 2, none⟩ = some (.slice B1 m1 k1) ∧ u.cell? ⟨w.heap.size + 1, 0, none⟩ = some (.bool s2) ∧ u.cell? ⟨w.heap.size + 1, 1, none⟩ = some (.slice A2 n2 c2) ∧ u.cell? ⟨w.heap.size + 1, 2, none⟩ = some (.slice B2 m2 k2)) 10 (by kernel_rfl) ?_
    change wpTill _ _ _ _ _ _ 11 _ _ _
    refine wpTill.take 0 (.agg #[.bool s1, .slice A1 n1 c1, .slice B1 m1 k1]) rfl (by kernel_rfl) (by kernel_rfl) (fun _ _ _ h => h) (KS _ G0) (by rfl) (fun u hu => by go_simp) ?_
    try simp only [Act.put, List.setIfInBounds_toArray, List.set_cons_zero, List.set_cons_succ]
    refine wpTill.take 2 (.agg #[.bool s2, .slice A2 n2 c2, .slice B2 m2 k2]) rfl (by kernel_rfl) (by kernel_rfl) (fun _ _ _ h => h) (KS _ G0) (by rfl) (fun u hu => by go_simp) ?_
    try simp only [Act.put, List.setIfInBounds_toArray, List.set_cons_zero, List.set_cons_succ]
    refine wpTill.via (m := 2) #[true, true, true, true, true, true, true, true, true, false, false] (fun a u => ∃ (R1 R2 R3 : Value) (b5 : Nat) (Pe : Option Addr) (ie je : Nat) (Qe : Option Addr) (ue te : Nat), a = { tmps := #[.agg #[.bool s1, .slice A1 n1 c1, .slice B1 m1 k1], .agg #[.bool s2, .slice A2 n2 c2, .slice B2 m2 k2], .pointer (some ⟨w.heap.size, 0, none⟩), .pointer (some ⟨w.heap.size + 1, 0, none⟩), .bool false, .pointer (some ⟨b5, 0, none⟩), undef, undef, undef, .tuple #[.agg #[.bool (sg (x / y)), .slice Pe ie je, .slice Qe ue te], .int .i64 0], .agg #[.bool s1, .slice A1 n1 c1, .slice B1 m1 k1], R1, .agg #[.bool s2, .slice A2 n2 c2, .slice B2 m2 k2], R2, R3, .agg #[.bool (sg (x / y)), .slice Pe ie je, .slice Qe ue te], .int .i64 0, undef, undef, undef, undef, undef, undef, undef, undef, undef, undef, undef, undef, undef, undef, undef, undef, undef, undef, undef, undef, undef, undef, undef, undef, undef, undef, undef, undef, undef, undef, undef], defers := [] } ∧ Box3 u b5 25 (.bool false) (.slice none 0 0) (.slice none 0 0) ∧ W0.drew.heap.size ≤ b5 ∧ (fun u a b => SV u a b (x / y) (6 * (L + 1))) u (.slice Pe ie je) (.slice Qe ue te) ∧ Fr (fun k => k < W0.drew.heap.size) W0.drew u) ?_ (fun END => ?_)
    · rintro a u ⟨R1, R2, R3, b5, Pe, ie, je, Qe, ue, te, rfl, xb, lb, pq, G⟩
      have S6 := KS _ (fr3 G lb (x := .bool (sg (x / y))) (y := .slice Pe ie je) (z := .slice Qe ue te))
      have o0 := xb.c0; have o1 := xb.c1; have o2 := xb.c2; have o3 := xb.free 0; have o4 := xb.free 1; have o5 := xb.free 2
      have fin := leaf1 (s := (sg (x / y))) (v1 := .slice Pe ie je) (v2 := .slice Qe ue te) xb G lb
      have pq' := pq.over xb (.bool (sg (x / y))) (.slice Pe ie je) (.slice Qe ue te)
      try dsimp only at pq'
      refine wpTill.next 9 rfl (by kernel_rfl) (by rfl) (fun K hK => ?_)
      go_simp
      refine hK _ _ (fun _ => S6) ?_
      clear hK K
      try simp only [Act.put, List.setIfInBounds_toArray, List.set_cons_zero, List.set_cons_succ]
      refine wpTill.next 10 rfl (by kernel_rfl) (by rfl) (fun K hK => ?_)
      go_simp
      refine hK _ _ (no_wait (by kernel_rfl)) ?_
      clear hK K
      try simp only [Act.put, List.setIfInBounds_toArray, List.set_cons_zero, List.set_cons_succ]
      refine wpTill.done (by kernel_rfl) ?_
      clear o0 o1 o2 o3 o4 o5 S6 xb G
      clear pq
      generalize ((u.setCell ⟨b5, 0, none⟩ _).setCell ⟨b5, 1, none⟩ _).setCell ⟨b5, 2, none⟩ _ = U at fin pq' ⊢
      obtain ⟨xb, G⟩ := fin
      have pq := pq'; clear pq'
      clear lb
      have D1 : ∀ R, Fr R U U.drew := fun R => (Fr.refl R U).drew
      replace hx1 := (hx1.keep' Lm_pos G).keep' Lm_pos (D1 _)
      replace hy1 := (hy1.keep' Lm_pos G).keep' Lm_pos (D1 _)
      replace hx2 := (hx2.keep' Lm_pos G).keep' Lm_pos (D1 _)
      replace hy2 := (hy2.keep' Lm_pos G).keep' Lm_pos (D1 _)
      replace F := (fr_then F G).drew
      replace x1 := (x1.keep G).keep (D1 _)
      replace x2 := (x2.keep G).keep (D1 _)
      replace xb := xb.keep (D1 _)
      replace pq := pq.keep (D1 _)
      clear KS G0 r1 r2 G
      have G1 := Fr.refl (fun k => k < U.drew.heap.size) U.drew
      have KU : ∀ u, Fr (fun k => k < U.drew.heap.size) U.drew u → u.cell? ⟨w.heap.size, 0, none⟩ = some (.bool s1) ∧ u.cell? ⟨w.heap.size, 1, none⟩ = some (.slice A1 n1 c1) ∧ u.cell? ⟨w.heap.size, 2, none⟩ = some (.slice B1 m1 k1) ∧ u.cell? ⟨w.heap.size + 1, 0, none⟩ = some (.bool s2) ∧ u.cell? ⟨w.heap.size + 1, 1, none⟩ = some (.slice A2 n2 c2) ∧ u.cell? ⟨w.heap.size + 1, 2, none⟩ = some (.slice B2 m2 k2) := fun u h => by
        have z1 := x1.keep h
        have z2 := x2.keep h
        exact ⟨z1.c0, z1.c1, z1.c2, z2.c0, z2.c1, z2.c2⟩
      have xa := xb
      clear xb D1
      have pa := pq
      clear pq
      go_wp2_with fail
      refine wpTill.begin (fun u => u.cell? ⟨w.heap.size, 0, none⟩ = some (.bool s1) ∧ u.cell? ⟨w.heap.size, 1, none⟩ = some (.slice A1 n1 c1) ∧ u.cell? ⟨w.heap.size, 2, none⟩ = some (.slice B1 m1 k1) ∧ u.cell? ⟨w.heap.size + 1, 0, none⟩ = some (.bool s2) ∧ u.cell? ⟨w.heap.size + 1, 1, none⟩ = some (.slice A2 n2 c2) ∧ u.cell? ⟨w.heap.size + 1, 2, none⟩ = some (.slice B2 m2 k2)) 10 (by kernel_rfl) ?_
      change wpTill _ _ _ _ _ _ 11 _ _ _
      refine wpTill.take 0 (.agg #[.bool s1, .slice A1 n1 c1, .slice B1 m1 k1]) rfl (by kernel_rfl) (by kernel_rfl) (fun _ _ _ h => h) (KU _ G1) (by rfl) (fun u hu => by go_simp) ?_
      try simp only [Act.put, List.setIfInBounds_toArray, List.set_cons_zero, List.set_cons_succ]
      refine wpTill.take 2 (.agg #[.bool s2, .slice A2 n2 c2, .slice B2 m2 k2]) rfl (by kernel_rfl) (by kernel_rfl) (fun _ _ _ h => h) (KU _ G1) (by rfl) (fun u hu => by go_simp) ?_
      try simp only [Act.put, List.setIfInBounds_toArray, List.set_cons_zero, List.set_cons_succ]
      refine wpTill.via (m := 2) #[true, true, true, true, true, true, true, true, true, false, false] (fun a u => ∃ (R5 R6 R7 : Value) (b7 : Nat) (Pg : Option Addr) (ig jg : Nat) (Qg : Option Addr) (ug tg : Nat), a = { tmps := #[.agg #[.bool s1, .slice A1 n1 c1, .slice B1 m1 k1], .agg #[.bool s2, .slice A2 n2 c2, .slice B2 m2 k2], .pointer (some ⟨w.heap.size, 0, none⟩), .pointer (some ⟨w.heap.size + 1, 0, none⟩), .bool false, .pointer (some ⟨b5, 0, none⟩), .int .i64 0, .pointer (some ⟨b7, 0, none⟩), undef, .tuple #[.agg #[.bool (sg (x / y)), .slice Pe ie je, .slice Qe ue te], .int .i64 0], .agg #[.bool s1, .slice A1 n1 c1, .slice B1 m1 k1], R1, .agg #[.bool s2, .slice A2 n2 c2, .slice B2 m2 k2], R2, R3, .agg #[.bool (sg (x / y)), .slice Pe ie je, .slice Qe ue te], .int .i64 0, .tuple #[.agg #[.bool (sg (x / y)), .slice Pg ig jg, .slice Qg ug tg], .bool true], .agg #[.bool s1, .slice A1 n1 c1, .slice B1 m1 k1], R5, .agg #[.bool s2, .slice A2 n2 c2, .slice B2 m2 k2], R6, R7, .agg #[.bool (sg (x / y)), .slice Pg ig jg, .slice Qg ug tg], .bool true, undef, undef, undef, undef, undef, undef, undef, undef, undef, undef, undef, undef, undef, undef, undef, undef, undef, undef, undef, undef, undef, undef, undef], defers := [] } ∧ Box3 u b7 34 (.bool false) (.slice none 0 0) (.slice none 0 0) ∧ U.drew.heap.size ≤ b7 ∧ (fun u a b => RR (fun _ => True) u a b (x / y) (2 * (3 * (L + 1)))) u (.slice Pg ig jg) (.slice Qg ug tg) ∧ Fr (fun k => k < U.drew.heap.size) U.drew u) ?_ (fun END => ?_)
      · rintro a u ⟨R5, R6, R7, b7, Pg, ig, jg, Qg, ug, tg, rfl, xb, lb, pq, G⟩
        have S6 := KU _ (fr3 G lb (x := .bool (sg (x / y))) (y := .slice Pg ig jg) (z := .slice Qg ug tg))
        have o0 := xb.c0; have o1 := xb.c1; have o2 := xb.c2; have o3 := xb.free 0; have o4 := xb.free 1; have o5 := xb.free 2
        have fin := leaf1 (s := (sg (x / y))) (v1 := .slice Pg ig jg) (v2 := .slice Qg ug tg) xb G lb
        have pq' := pq.over' xb (.bool (sg (x / y))) (.slice Pg ig jg) (.slice Qg ug tg)
        try dsimp only at pq'
        refine wpTill.next 9 rfl (by kernel_rfl) (by rfl) (fun K hK => ?_)
        go_simp
        refine hK _ _ (fun _ => S6) ?_
        clear hK K
        try simp only [Act.put, List.setIfInBounds_toArray, List.set_cons_zero, List.set_cons_succ]
        refine wpTill.next 10 rfl (by kernel_rfl) (by rfl) (fun K hK => ?_)
        go_simp
        refine hK _ _ (no_wait (by kernel_rfl)) ?_
        clear hK K
        try simp only [Act.put, List.setIfInBounds_toArray, List.set_cons_zero, List.set_cons_succ]
        refine wpTill.done (by kernel_rfl) ?_
        clear o0 o1 o2 o3 o4 o5 S6 xb G
        clear pq
        generalize ((u.setCell ⟨b7, 0, none⟩ _).setCell ⟨b7, 1, none⟩ _).setCell ⟨b7, 2, none⟩ _ = V at fin pq' ⊢
        obtain ⟨xb, G⟩ := fin
        have pq := pq'; clear pq'
        clear lb
        replace xa := xa.keep G
        replace pa := pa.keep G
        have o0 := xa.c0; have o1 := xa.c1; have o2 := xa.c2
        have e0 := xb.c0; have e1 := xb.c1; have e2 := xb.c2
        go_wp2_with fail
        refine (ris_sv _ _ _ _ _ _ _ _ _ (6 * (L + 1)) _ pq rfl pa rfl rfl (by omega)).mono ?_
        rintro e V0 ⟨rfl, hf0⟩
        go_wp2_with fail
        refine (rknown _).mono ?_
        rintro e V1 ⟨rfl, hf⟩
        go_wp2_with fail
        go_ret
        exact ⟨rfl, fr_then (fr_then (fr_then F G) hf0) hf⟩
      refine wpTill.solo (n := 5) [1, 3, 4] 8 (One (fun t5 r1 r2 r3 => { tmps := #[.agg #[.bool s1, .slice A1 n1 c1, .slice B1 m1 k1], .agg #[.bool s2, .slice A2 n2 c2, .slice B2 m2 k2], .pointer (some ⟨w.heap.size, 0, none⟩), .pointer (some ⟨w.heap.size + 1, 0, none⟩), .bool false, .pointer (some ⟨b5, 0, none⟩), .int .i64 0, t5, undef, .tuple #[.agg #[.bool (sg (x / y)), .slice Pe ie je, .slice Qe ue te], .int .i64 0], .agg #[.bool s1, .slice A1 n1 c1, .slice B1 m1 k1], R1, .agg #[.bool s2, .slice A2 n2 c2, .slice B2 m2 k2], R2, R3, .agg #[.bool (sg (x / y)), .slice Pe ie je, .slice Qe ue te], .int .i64 0, undef, .agg #[.bool s1, .slice A1 n1 c1, .slice B1 m1 k1], r1, .agg #[.bool s2, .slice A2 n2 c2, .slice B2 m2 k2], r2, r3, undef, undef, undef, undef, undef, undef, undef, undef, undef, undef, undef, undef, undef, undef, undef, undef, undef, undef, undef, undef, undef, undef, undef, undef, undef], defers := [] }) U.drew 34 ((fun u v => Got u v x (3 * (L + 1)))) ((fun u v => Got u v y (3 * (L + 1)))) (DivT (sg (x / y)) (.bool true) (fun u a b => RR (fun _ => True) u a b (x / y) (2 * (3 * (L + 1)))))) (by kernel_rfl) ?_ ?_ ?_ ?_ ?_ ?_
      · rintro c p a u ⟨t5, r1, r2, r3, rfl, h⟩
        exact KU _ h.fr
      · intro c i hi p
        rcases c with _ | _ | _ | c
        · obtain rfl := Option.some.inj (show some 1 = some i from hi)
          refine ⟨_, rfl, rfl, ?_⟩
          rintro a u K ⟨t5, r1, r2, r3, rfl, h⟩ hk
          go_simp
          refine (rof_r _ s1 (.slice A1 n1 c1) (.slice B1 m1 k1) x _ _ (L + 1) (ri_q HX (hx1.keep' Lm_pos h.fr) (hy1.keep' Lm_pos h.fr) lx1 ly1) hL1 hl1).mono ?_
          rintro e u' ⟨v1, v2, rfl, ha, hf⟩
          exact hk _ _ ⟨_, _, _, _, rfl, h.s1 hf (Got.of ha)⟩
        · obtain rfl := Option.some.inj (show some 3 = some i from hi)
          refine ⟨_, rfl, rfl, ?_⟩
          rintro a u K ⟨t5, r1, r2, r3, rfl, h⟩ hk
          go_simp
          refine (rof_r _ s2 (.slice A2 n2 c2) (.slice B2 m2 k2) y _ _ (L + 1) (ri_q HY (hx2.keep' Lm_pos h.fr) (hy2.keep' Lm_pos h.fr) lx2 ly2) hL1 hl1).mono ?_
          rintro e u' ⟨v1, v2, rfl, ha, hf⟩
          exact hk _ _ ⟨_, _, _, _, rfl, h.s2 (fun _ _ _ => Got.keep) hf (Got.of ha)⟩
        · obtain rfl := Option.some.inj (show some 4 = some i from hi)
          refine ⟨_, rfl, rfl, ?_⟩
          rintro a u K ⟨t5, r1, r2, r3, rfl, h⟩ hk
          obtain ⟨Aa, na, ca, Ab, nb, cb, rfl, o1⟩ := h.g1 (by decide)
          obtain ⟨Ac, nc, cc, Ad, nd, cd, rfl, o2⟩ := h.g2 (by decide)
          go_simp
          refine (rdiv_q _ (sg x) (sg y) _ _ _ _ x y (3 * (L + 1)) o1 o2 rfl rfl hy0 hL3 hl3).mono ?_
          rintro e u' ⟨v1, v2, rfl, ha, hf⟩
          obtain ⟨⟨Ae, ne, ce, rfl⟩, ⟨Af, nf, cf, rfl⟩⟩ := ha.form
          exact hk _ _ ⟨_, _, _, _, rfl, h.s3 (fun _ _ _ => Got.keep) (fun _ _ _ => Got.keep) hf ⟨_, _, _, _, _, _, rfl, ha.mono fun _ _ => trivial⟩⟩
        · exact absurd hi (by simp)
      · intro c
        refine ⟨_, rfl, rfl, ?_⟩
        rintro a u K ⟨t5, r1, r2, r3, rfl, h⟩ hk
        go_simp
        exact hk _ _ ⟨_, _, _, _, rfl, h.new (fun _ _ _ => Got.keep) (fun _ _ _ => Got.keep) (fun _ _ _ => DivT.keep (fun _ _ _ _ hf h => h.keep hf))⟩
      · rintro a u ⟨t5, r1, r2, r3, rfl, h⟩
        obtain ⟨b, rfl, xb, lb⟩ := h.x rfl
        obtain ⟨Pg, ig, jg, Qg, ug, tg, rfl, pq⟩ := h.g3 (Nat.le_refl 3)
        have S5 := KU _ h.fr
        refine wpTill.take 5 (.tuple #[.agg #[.bool (sg (x / y)), .slice Pg ig jg, .slice Qg ug tg], .bool true]) rfl (by kernel_rfl) (by kernel_rfl) (fun _ _ _ h => h) S5 (by rfl) (fun u hu => by go_simp) ?_
        try simp only [Act.put, List.setIfInBounds_toArray, List.set_cons_zero, List.set_cons_succ]
        refine wpTill.take 6 (.agg #[.bool (sg (x / y)), .slice Pg ig jg, .slice Qg ug tg]) rfl (by kernel_rfl) (by kernel_rfl) (fun _ _ _ h => h) S5 (by rfl) (fun u hu => by go_simp) ?_
        try simp only [Act.put, List.setIfInBounds_toArray, List.set_cons_zero, List.set_cons_succ]
        refine wpTill.take 7 (.bool true) rfl (by kernel_rfl) (by kernel_rfl) (fun _ _ _ h => h) S5 (by rfl) (fun u hu => by go_simp) ?_
        try simp only [Act.put, List.setIfInBounds_toArray, List.set_cons_zero, List.set_cons_succ]
        exact wpTill.same (by kernel_rfl) (END _ _ ⟨_, _, _, _, _, _, _, _, _, _, rfl, xb, lb, pq, h.fr⟩)
      · rintro a u ⟨t5, r1, r2, r3, rfl, h⟩
        obtain ⟨Pg, ig, jg, Qg, ug, tg, rfl, pq⟩ := h.g3 (Nat.le_refl 3)
        have S5 := KU _ h.fr
        refine wpTill.take 5 (.tuple #[.agg #[.bool (sg (x / y)), .slice Pg ig jg, .slice Qg ug tg], .bool true]) rfl (by kernel_rfl) (by kernel_rfl) (fun _ _ _ h => h) S5 (by rfl) (fun u hu => by go_simp) ?_
        try simp only [Act.put, List.setIfInBounds_toArray, List.set_cons_zero, List.set_cons_succ]
        refine wpTill.take 6 (.agg #[.bool (sg (x / y)), .slice Pg ig jg, .slice Qg ug tg]) rfl (by kernel_rfl) (by kernel_rfl) (fun _ _ _ h => h) S5 (by rfl) (fun u hu => by go_simp) ?_
        try simp only [Act.put, List.setIfInBounds_toArray, List.set_cons_zero, List.set_cons_succ]
        refine wpTill.take 7 (.bool true) rfl (by kernel_rfl) (by kernel_rfl) (fun _ _ _ h => h) S5 (by rfl) (fun u hu => by go_simp) ?_
        try simp only [Act.put, List.setIfInBounds_toArray, List.set_cons_zero, List.set_cons_succ]
        have hA := (Fr.refl (fun k => k < u.heap.size) u).alloc (.cells #[.bool false, .slice none 0 0, .slice none 0 0] 34)
        refine wpTill.next 8 rfl (by kernel_rfl) (by rfl) (fun K hK => ?_)
        go_simp
        refine hK _ _ (fun _ => KU _ (fr_then h.fr hA)) ?_
        clear hK K
        try simp only [Act.put, List.setIfInBounds_toArray, List.set_cons_zero, List.set_cons_succ]
        exact wpTill.same (by kernel_rfl) (END _ _ ⟨_, _, _, _, _, _, _, _, _, _, rfl, Box3.new _ _ _ _ _, h.fr.size, pq.keep hA, fr_then h.fr hA⟩)
      · exact ⟨_, _, _, _, rfl, Solo.init G1⟩
    refine wpTill.solo (n := 5) [1, 3, 4] 8 (One (fun t5 r1 r2 r3 => { tmps := #[.agg #[.bool s1, .slice A1 n1 c1, .slice B1 m1 k1], .agg #[.bool s2, .slice A2 n2 c2, .slice B2 m2 k2], .pointer (some ⟨w.heap.size, 0, none⟩), .pointer (some ⟨w.heap.size + 1, 0, none⟩), .bool false, t5, undef, undef, undef, undef, .agg #[.bool s1, .slice A1 n1 c1, .slice B1 m1 k1], r1, .agg #[.bool s2, .slice A2 n2 c2, .slice B2 m2 k2], r2, r3, undef, undef, undef, undef, undef, undef, undef, undef, undef, undef, undef, undef, undef, undef, undef, undef, undef, undef, undef, undef, undef, undef, undef, undef, undef, undef, undef, undef, undef, undef, undef, undef, undef], defers := [] }) W0.drew 25 (Owned s1 xs1 ys1) (Owned s2 xs2 ys2) (DivT (sg (x / y)) (.int .i64 0) (fun u a b => SV u a b (x / y) (6 * (L + 1))))) (by kernel_rfl) ?_ ?_ ?_ ?_ ?_ ?_
    · rintro c p a u ⟨t5, r1, r2, r3, rfl, h⟩
      exact KS _ h.fr
    · intro c i hi p
      rcases c with _ | _ | _ | c
      · obtain rfl := Option.some.inj (show some 1 = some i from hi)
        refine ⟨_, rfl, rfl, ?_⟩
        rintro a u K ⟨t5, r1, r2, r3, rfl, h⟩ hk
        go_simp
        refine (rown_l _ s1 (.slice A1 n1 c1) (.slice B1 m1 k1) xs1 ys1 (hx1.keep' Lm_pos h.fr) (hy1.keep' Lm_pos h.fr) (by omega) (by omega)).mono ?_
        rintro e u' ⟨v1, v2, rfl, ha, hf⟩
        exact hk _ _ ⟨_, _, _, _, rfl, h.s1 hf (Owned.of ha)⟩
      · obtain rfl := Option.some.inj (show some 3 = some i from hi)
        refine ⟨_, rfl, rfl, ?_⟩
        rintro a u K ⟨t5, r1, r2, r3, rfl, h⟩ hk
        go_simp
        refine (rown_l _ s2 (.slice A2 n2 c2) (.slice B2 m2 k2) xs2 ys2 (hx2.keep' Lm_pos h.fr) (hy2.keep' Lm_pos h.fr) (by omega) (by omega)).mono ?_
        rintro e u' ⟨v1, v2, rfl, ha, hf⟩
        exact hk _ _ ⟨_, _, _, _, rfl, h.s2 (fun _ _ _ => Owned.keep) hf (Owned.of ha)⟩
      · obtain rfl := Option.some.inj (show some 4 = some i from hi)
        refine ⟨_, rfl, rfl, ?_⟩
        rintro a u K ⟨t5, r1, r2, r3, rfl, h⟩ hk
        obtain ⟨Aa, na, ca, Ab, nb, cb, rfl, o1, o2⟩ := h.g1 (by decide)
        obtain ⟨Ac, nc, cc, Ad, nd, cd, rfl, o3, o4⟩ := h.g2 (by decide)
        go_simp
        refine (rdiv_n _ s1 s2 _ _ _ _ x y _ _ _ _ (L + 1) (ri_q HX o1 o2 lx1 ly1) (ri_q HY o3 o4 lx2 ly2) hy0 hL1 hl1).mono ?_
        rintro e u' ⟨v1, v2, rfl, ha, hf⟩
        obtain ⟨⟨Ae, ne, ce, rfl⟩, ⟨Af, nf, cf, rfl⟩⟩ := ha.form
        exact hk _ _ ⟨_, _, _, _, rfl, h.s3 (fun _ _ _ => Owned.keep) (fun _ _ _ => Owned.keep) hf ⟨_, _, _, _, _, _, rfl, SV.of ha⟩⟩
      · exact absurd hi (by simp)
    · intro c
      refine ⟨_, rfl, rfl, ?_⟩
      rintro a u K ⟨t5, r1, r2, r3, rfl, h⟩ hk
      go_simp
      exact hk _ _ ⟨_, _, _, _, rfl, h.new (fun _ _ _ => Owned.keep) (fun _ _ _ => Owned.keep) (fun _ _ _ => DivT.keep (fun _ _ _ _ hf h => h.keep hf))⟩
    · rintro a u ⟨t5, r1, r2, r3, rfl, h⟩
      obtain ⟨b, rfl, xb, lb⟩ := h.x rfl
      obtain ⟨Pe, ie, je, Qe, ue, te, rfl, pq⟩ := h.g3 (Nat.le_refl 3)
      have S5 := KS _ h.fr
      refine wpTill.take 5 (.tuple #[.agg #[.bool (sg (x / y)), .slice Pe ie je, .slice Qe ue te], .int .i64 0]) rfl (by kernel_rfl) (by kernel_rfl) (fun _ _ _ h => h) S5 (by rfl) (fun u hu => by go_simp) ?_
      try simp only [Act.put, List.setIfInBounds_toArray, List.set_cons_zero, List.set_cons_succ]
      refine wpTill.take 6 (.agg #[.bool (sg (x / y)), .slice Pe ie je, .slice Qe ue te]) rfl (by kernel_rfl) (by kernel_rfl) (fun _ _ _ h => h) S5 (by rfl) (fun u hu => by go_simp) ?_
      try simp only [Act.put, List.setIfInBounds_toArray, List.set_cons_zero, List.set_cons_succ]
      refine wpTill.take 7 (.int .i64 0) rfl (by kernel_rfl) (by kernel_rfl) (fun _ _ _ h => h) S5 (by rfl) (fun u hu => by go_simp) ?_
      try simp only [Act.put, List.setIfInBounds_toArray, List.set_cons_zero, List.set_cons_succ]
      exact wpTill.same (by kernel_rfl) (END _ _ ⟨_, _, _, _, _, _, _, _, _, _, rfl, xb, lb, pq, h.fr⟩)
    · rintro a u ⟨t5, r1, r2, r3, rfl, h⟩
      obtain ⟨Pe, ie, je, Qe, ue, te, rfl, pq⟩ := h.g3 (Nat.le_refl 3)
      have S5 := KS _ h.fr
      refine wpTill.take 5 (.tuple #[.agg #[.bool (sg (x / y)), .slice Pe ie je, .slice Qe ue te], .int .i64 0]) rfl (by kernel_rfl) (by kernel_rfl) (fun _ _ _ h => h) S5 (by rfl) (fun u hu => by go_simp) ?_
      try simp only [Act.put, List.setIfInBounds_toArray, List.set_cons_zero, List.set_cons_succ]
      refine wpTill.take 6 (.agg #[.bool (sg (x / y)), .slice Pe ie je, .slice Qe ue te]) rfl (by kernel_rfl) (by kernel_rfl) (fun _ _ _ h => h) S5 (by rfl) (fun u hu => by go_simp) ?_
      try simp only [Act.put, List.setIfInBounds_toArray, List.set_cons_zero, List.set_cons_succ]
      refine wpTill.take 7 (.int .i64 0) rfl (by kernel_rfl) (by kernel_rfl) (fun _ _ _ h => h) S5 (by rfl) (fun u hu => by go_simp) ?_
      try simp only [Act.put, List.setIfInBounds_toArray, List.set_cons_zero, List.set_cons_succ]
      have hA := (Fr.refl (fun k => k < u.heap.size) u).alloc (.cells #[.bool false, .slice none 0 0, .slice none 0 0] 25)
      refine wpTill.next 8 rfl (by kernel_rfl) (by rfl) (fun K hK => ?_)
      go_simp
      refine hK _ _ (fun _ => KS _ (fr_then h.fr hA)) ?_
      clear hK K
      try simp only [Act.put, List.setIfInBounds_toArray, List.set_cons_zero, List.set_cons_succ]
      exact wpTill.same (by kernel_rfl) (END _ _ ⟨_, _, _, _, _, _, _, _, _, _, rfl, Box3.new _ _ _ _ _, h.fr.size, pq.keep hA, fr_then h.fr hA⟩)
    · exact ⟨_, _, _, _, rfl, Solo.init G0⟩
end Go.Proofs.Ytodpbkcdcchljaa


/- RatOwn. -/
import Derived.Test.YtodpbkcdcchljaaRatP0
import Derived.Test.YtodpbkcdcchljaaLawOwn
namespace Go.Proofs.Ytodpbkcdcchljaa
open Go.RowKit

theorem pow_one {S : Nat → Prop} (w : World) (va : Value) (A L X : Nat) (ha : Num S w va A L) (hl : L ≤ X) (hX : X ≤ 104857600) (hX2 : 2 ≤ X) :
    Calls Try.prog 70 #[va, .int .i64 1] w fun e w' => ∃ v, e = .returned v ∧ Can (fun k => w.heap.size ≤ k) w' v (A ^ 1) X ∧ Fr (fun k => k < w.heap.size) w w' :=
  pow_n w va A L 1 X ha hl hX (by decide) (by rw [Nat.pow_one]; exact Nat.lt_of_lt_of_le ha.lt (Nat.pow_le_pow_right (by decide) hl)) hX2
theorem Can.outp {a b : Nat} {R : Nat → Prop} {w w' : World} {v : Value} {N L : Nat} (h : Can (fun k => a ≤ k) w v N L) (hf : Fr R w w') (hr : ∀ k, a ≤ k → R k) (hb : b ≤ a) : Can (fun k => b ≤ k) w' v N L :=
  ⟨(h.own.fr (hf.mono fun k _ hk => hr k hk)).mono fun _ hk => Nat.le_trans hb hk, h.len⟩

/-- Number i, which its guard forbids, is taken first. -/
theorem wpTill.skip {P : Program} {md : Region.Mode} {ops : Array Oper} {Q : Exit → Act → World → Prop} {S : World → Prop} {j : Nat} (i : Nat) {o : Oper} {n : Nat} {done : Array Bool} {a : Act} {w : World} (hi : ops[i]? = some o) (hs : Region.noSelect ops = true)
    (hc : (awaits md ops j i && Region.free md ops done i && (Region.ready md ops done).contains i && !done.getD j true && !(i == j)) = true)
    (hQ : ∀ c a w, Q (.panic c) (a.put o.dst undef) w → Q (.panic c) a w) (hS : S w) (hw : Region.wanted o (yielded ops a.tmps) = false)
    (h : wpTill P md ops Q S j n (done.setIfInBounds i true) (a.put o.dst undef) w) : wpTill P md ops Q S j (n + 1) done a w := by
  simp only [Bool.and_eq_true, Bool.not_eq_true', beq_eq_false_iff_ne, List.contains_iff_mem] at hc
  obtain ⟨⟨⟨⟨h1, h2⟩, h3⟩, h4⟩, h5⟩ := hc
  exact wpTill.first hi hs h1 h5 hQ n done a w (Region.free_spec hi h2) h3 h4 (.inr ⟨hw, rfl⟩) hS h

set_option maxHeartbeats 4000000 in
theorem rpow_1 {S : Nat → Prop} (w : World) (s : Bool) (vn vd : Value) (q : Rat) (N D L : Nat) (h : RI S w s vn vd q N D L) (hL1 : 1 ≤ L) (hl : L ≤ 10485760) :
    Calls Try.prog 45 #[.agg #[.bool s, vn, vd], .int .i64 1] w fun e w' => ∃ v1 v2, e = .returned (.agg #[.bool (sg q), v1, v2]) ∧ Can (fun k => w.heap.size ≤ k) w' v1 (q.num.natAbs ^ 1) (L + 2) ∧ Can (fun k => w.heap.size ≤ k) w' v2 (q.den ^ 1) (L + 2) ∧ Fr (fun k => k < w.heap.size) w w' := by
  obtain ⟨⟨A1, n1, c1, rfl⟩, ⟨A2, n2, c2, rfl⟩⟩ := h.form
  have F := ((Fr.refl (fun k => k < w.heap.size) w).alloc (.cells #[.bool s, .slice A1 n1 c1, .slice A2 n2 c2] 25)).alloc (.cells #[.bool false, .slice none 0 0, .slice none 0 0] 25)
  have hb := box_nz (w.alloc (.cells #[.bool s, .slice A1 n1 c1, .slice A2 n2 c2] 25))
  have hx := (Box3.new w 25 (.bool s) (.slice A1 n1 c1) (.slice A2 n2 c2)).alloc (.cells #[.bool false, .slice none 0 0, .slice none 0 0] 25)
  have h0 := h.keep F
  simp only [World.size_alloc] at hb
  go_enter Try.func45, Try.ntmps45
  go_wp2_with fail
  refine (norm_n _ _ _ _ _ _ _ _ h0 hL1 (by omega)).mono ?_
  rintro e w1 ⟨v1, v2, rfl, h1, hf⟩
  obtain ⟨⟨A3, n3, c3, rfl⟩, ⟨A4, n4, c4, rfl⟩⟩ := h1.form
  have s1 := hf.size
  simp only [World.size_alloc] at h1 s1
  replace hb := hb.keep hf
  replace hx := hx.keep hf
  replace F := fr_then F hf
  clear hf h h0
  go_wp2_with ((with_reducible apply wpList_st3); rfl; rfl; exact hx; exact rat3; rfl; rfl; rfl; intro w2 B2 F2)
  replace h1 := h1.out F2 (b := w.heap.size + 2) (fun k hk => by omega) (by omega)
  replace hb := hb.fr F2 (by omega)
  replace F := F.comp F2 fun k hk h => ⟨h, by omega⟩
  have s2 := F2.size
  clear F2 hx
  have D1 : ∀ R, Fr R w2 w2.drew := fun R => (Fr.refl R w2).drew
  replace h1 := h1.keep (D1 _)
  replace hb := hb.keep (D1 _)
  replace B2 := B2.keep (D1 _)
  replace F := F.drew
  have S0 : w2.drew.cell? ⟨w.heap.size, 0, none⟩ = some (.bool (sg q)) ∧ w2.drew.cell? ⟨w.heap.size, 1, none⟩ = some (.slice A3 n3 c3) ∧ w2.drew.cell? ⟨w.heap.size, 2, none⟩ = some (.slice A4 n4 c4) := ⟨B2.c0, B2.c1, B2.c2⟩
  clear D1
  generalize hsq : sg q = b at *
  cases b
  · go_wp2_with fail
    refine wpTill.begin (fun u => u.cell? ⟨w.heap.size, 0, none⟩ = some (.bool false) ∧ u.cell? ⟨w.heap.size, 1, none⟩ = some (.slice A3 n3 c3) ∧ u.cell? ⟨w.heap.size, 2, none⟩ = some (.slice A4 n4 c4)) 20 (by kernel_rfl) ?_
    change wpTill _ _ _ _ _ _ 21 _ _ _
    refine wpTill.take 0 (.pointer (some ⟨w.heap.size, 0, none⟩)) rfl (by kernel_rfl) (by kernel_rfl) (fun _ _ _ h => h) S0 (by rfl) (fun u hu => by go_simp) ?_
    try simp only [Act.put, List.setIfInBounds_toArray, List.set_cons_zero, List.set_cons_succ]
    refine wpTill.take 1 (.bool false) rfl (by kernel_rfl) (by kernel_rfl) (fun _ _ _ h => h) S0 (by rfl) (fun u hu => by go_simp) ?_
    try simp only [Act.put, List.setIfInBounds_toArray, List.set_cons_zero, List.set_cons_succ]
    refine wpTill.take 2 (.bool false) rfl (by kernel_rfl) (by kernel_rfl) (fun _ _ _ h => h) S0 (by rfl) (fun u hu => by go_simp) ?_
    try simp only [Act.put, List.setIfInBounds_toArray, List.set_cons_zero, List.set_cons_succ]
    refine wpTill.skip 3 rfl (by kernel_rfl) (by kernel_rfl) (fun _ _ _ h => h) S0 (by rfl) ?_
    try simp only [Act.put, List.setIfInBounds_toArray, List.set_cons_zero, List.set_cons_succ]
    refine wpTill.skip 4 rfl (by kernel_rfl) (by kernel_rfl) (fun _ _ _ h => h) S0 (by rfl) ?_
    try simp only [Act.put, List.setIfInBounds_toArray, List.set_cons_zero, List.set_cons_succ]
    refine wpTill.take 5 (.bool false) rfl (by kernel_rfl) (by kernel_rfl) (fun _ _ _ h => h) S0 (by rfl) (fun u hu => by go_simp) ?_
    try simp only [Act.put, List.setIfInBounds_toArray, List.set_cons_zero, List.set_cons_succ]
    refine wpTill.take 6 (.bool false) rfl (by kernel_rfl) (by kernel_rfl) (fun _ _ _ h => h) S0 (by rfl) (fun u hu => by go_simp) ?_
    try simp only [Act.put, List.setIfInBounds_toArray, List.set_cons_zero, List.set_cons_succ]
    refine wpTill.skip 7 rfl (by kernel_rfl) (by kernel_rfl) (fun _ _ _ h => h) S0 (by rfl) ?_
    try simp only [Act.put, List.setIfInBounds_toArray, List.set_cons_zero, List.set_cons_succ]
    refine wpTill.skip 8 rfl (by kernel_rfl) (by kernel_rfl) (fun _ _ _ h => h) S0 (by rfl) ?_
    try simp only [Act.put, List.setIfInBounds_toArray, List.set_cons_zero, List.set_cons_succ]
    refine wpTill.skip 9 rfl (by kernel_rfl) (by kernel_rfl) (fun _ _ _ h => h) S0 (by rfl) ?_
    try simp only [Act.put, List.setIfInBounds_toArray, List.set_cons_zero, List.set_cons_succ]
    refine wpTill.take 10 (.bool false) rfl (by kernel_rfl) (by kernel_rfl) (fun _ _ _ h => h) S0 (by rfl) (fun u hu => by go_simp) ?_
    try simp only [Act.put, List.setIfInBounds_toArray, List.set_cons_zero, List.set_cons_succ]
    refine wpTill.take 11 (.pointer (some ⟨w.heap.size, 1, none⟩)) rfl (by kernel_rfl) (by kernel_rfl) (fun _ _ _ h => h) S0 (by rfl) (fun u hu => by go_simp) ?_
    try simp only [Act.put, List.setIfInBounds_toArray, List.set_cons_zero, List.set_cons_succ]
    refine wpTill.take 12 (.slice A3 n3 c3) rfl (by kernel_rfl) (by kernel_rfl) (fun _ _ _ h => h) S0 (by rfl) (fun u hu => by go_simp) ?_
    try simp only [Act.put, List.setIfInBounds_toArray, List.set_cons_zero, List.set_cons_succ]
    refine wpTill.take 13 (.int .i64 1) rfl (by kernel_rfl) (by kernel_rfl) (fun _ _ _ h => h) S0 (by rfl) (fun u hu => by go_simp) ?_
    try simp only [Act.put, List.setIfInBounds_toArray, List.set_cons_zero, List.set_cons_succ]
    refine wpTill.take 15 (.pointer (some ⟨w.heap.size, 2, none⟩)) rfl (by kernel_rfl) (by kernel_rfl) (fun _ _ _ h => h) S0 (by rfl) (fun u hu => by go_simp) ?_
    try simp only [Act.put, List.setIfInBounds_toArray, List.set_cons_zero, List.set_cons_succ]
    refine wpTill.take 16 (.slice A4 n4 c4) rfl (by kernel_rfl) (by kernel_rfl) (fun _ _ _ h => h) S0 (by rfl) (fun u hu => by go_simp) ?_
    try simp only [Act.put, List.setIfInBounds_toArray, List.set_cons_zero, List.set_cons_succ]
    refine wpTill.take 17 (.int .i64 1) rfl (by kernel_rfl) (by kernel_rfl) (fun _ _ _ h => h) S0 (by rfl) (fun u hu => by go_simp) ?_
    try simp only [Act.put, List.setIfInBounds_toArray, List.set_cons_zero, List.set_cons_succ]
    refine wpTill.next 14 rfl (by kernel_rfl) (by rfl) (fun K hK => ?_)
    go_simp
    refine (pow_one _ (.slice A3 n3 c3) _ L (L + 2) h1.num.num (by omega) (by omega) (by omega)).mono ?_
    rintro e w3 ⟨v3, rfl, p1, hf1⟩; obtain ⟨C3, i3, j3, rfl⟩ := p1.form; have S1 : w3.cell? ⟨w.heap.size, 0, none⟩ = some (.bool false) ∧ w3.cell? ⟨w.heap.size, 1, none⟩ = some (.slice A3 n3 c3) ∧ w3.cell? ⟨w.heap.size, 2, none⟩ = some (.slice A4 n4 c4) := ⟨(B2.keep hf1).c0, (B2.keep hf1).c1, (B2.keep hf1).c2⟩
    refine hK _ _ (fun _ => S1) ?_
    clear hK K
    try simp only [Act.put, List.setIfInBounds_toArray, List.set_cons_zero, List.set_cons_succ]
    refine wpTill.next 18 rfl (by kernel_rfl) (by rfl) (fun K hK => ?_)
    go_simp
    refine (pow_one _ (.slice A4 n4 c4) _ L (L + 2) (h1.den.keep hf1).num (by omega) (by omega) (by omega)).mono ?_
    rintro e w4 ⟨v4, rfl, p2, hf2⟩; obtain ⟨C4, i4, j4, rfl⟩ := p2.form; have B4 := (B2.keep hf1).keep hf2; have hb4 := (hb.keep hf1).keep hf2; have S2 : w4.cell? ⟨w.heap.size, 0, none⟩ = some (.bool false) ∧ w4.cell? ⟨w.heap.size, 1, none⟩ = some (.slice A3 n3 c3) ∧ w4.cell? ⟨w.heap.size, 2, none⟩ = some (.slice A4 n4 c4) := ⟨B4.c0, B4.c1, B4.c2⟩; have F4 := fr_set3 w4 (w.heap.size + 1) (.bool false) (.slice C3 i3 j3) (.slice C4 i4 j4); have B5 := B4.fr F4 (by omega); have S3 := And.intro B5.c0 (And.intro B5.c1 B5.c2); have d0 := hb4.c0; have d1 := hb4.c1; have d2 := hb4.c2; have f0 := hb4.free 0; have f1 := hb4.free 1; have f2 := hb4.free 2
    refine hK _ _ (fun _ => S2) ?_
    clear hK K
    try simp only [Act.put, List.setIfInBounds_toArray, List.set_cons_zero, List.set_cons_succ]
    refine wpTill.take 19 (.agg #[.bool false, .slice C3 i3 j3, .slice C4 i4 j4]) rfl (by kernel_rfl) (by kernel_rfl) (fun _ _ _ h => h) S2 (by rfl) (fun u hu => by go_simp) ?_
    try simp only [Act.put, List.setIfInBounds_toArray, List.set_cons_zero, List.set_cons_succ]
    refine wpTill.next 20 rfl (by kernel_rfl) (by rfl) (fun K hK => ?_)
    go_simp
    refine hK _ _ (no_wait (by kernel_rfl)) ?_
    clear hK K
    try simp only [Act.put, List.setIfInBounds_toArray, List.set_cons_zero, List.set_cons_succ]
    refine wpTill.done (by kernel_rfl) ?_
    have B6 := hb4.set3 (.bool false) (.slice C3 i3 j3) (.slice C4 i4 j4)
    have s3 := hb.lt
    have s4 := hf1.size
    have s5 := hf2.size
    have F3 := fr_then (fr_then F hf1) hf2
    go_wp2_with fail
    refine bodyPost_ret (results_cell3 rfl rfl B6 Try.underlying25 rat3) rfl ?_
    exact ⟨_, _, by rw [hsq], (p1.keep hf2).outp F4 (fun k hk => by omega) (by omega), p2.outp F4 (fun k hk => by omega) (by omega), F3.comp F4 fun k hk h => ⟨h, by omega⟩⟩
  · go_wp2_with fail
    go_region_held3 (fun u => u.cell? ⟨w.heap.size, 0, none⟩ = some (.bool true) ∧ u.cell? ⟨w.heap.size, 1, none⟩ = some (.slice A3 n3 c3) ∧ u.cell? ⟨w.heap.size, 2, none⟩ = some (.slice A4 n4 c4)) (first | exact S0 | exact S1 | exact S2 | exact S3) (first
      | ((with_reducible refine (pow_one _ (.slice A3 n3 c3) _ L (L + 2) h1.num.num (by omega) (by omega) (by omega)).mono ?_); rintro e w3 ⟨v3, rfl, p1, hf1⟩; obtain ⟨C3, i3, j3, rfl⟩ := p1.form; have S1 : w3.cell? ⟨w.heap.size, 0, none⟩ = some (.bool true) ∧ w3.cell? ⟨w.heap.size, 1, none⟩ = some (.slice A3 n3 c3) ∧ w3.cell? ⟨w.heap.size, 2, none⟩ = some (.slice A4 n4 c4) := ⟨(B2.keep hf1).c0, (B2.keep hf1).c1, (B2.keep hf1).c2⟩)
      | ((with_reducible refine (pow_one _ (.slice A4 n4 c4) _ L (L + 2) (h1.den.keep hf1).num (by omega) (by omega) (by omega)).mono ?_); rintro e w4 ⟨v4, rfl, p2, hf2⟩; obtain ⟨C4, i4, j4, rfl⟩ := p2.form; have B4 := (B2.keep hf1).keep hf2; have hb4 := (hb.keep hf1).keep hf2; have S2 : w4.cell? ⟨w.heap.size, 0, none⟩ = some (.bool true) ∧ w4.cell? ⟨w.heap.size, 1, none⟩ = some (.slice A3 n3 c3) ∧ w4.cell? ⟨w.heap.size, 2, none⟩ = some (.slice A4 n4 c4) := ⟨B4.c0, B4.c1, B4.c2⟩; have F4 := fr_set3 w4 (w.heap.size + 1) (.bool true) (.slice C3 i3 j3) (.slice C4 i4 j4); have B5 := B4.fr F4 (by omega); have S3 := And.intro B5.c0 (And.intro B5.c1 B5.c2); have d0 := hb4.c0; have d1 := hb4.c1; have d2 := hb4.c2; have f0 := hb4.free 0; have f1 := hb4.free 1; have f2 := hb4.free 2))
    have B6 := hb4.set3 (.bool true) (.slice C3 i3 j3) (.slice C4 i4 j4)
    have s3 := hb.lt
    have s4 := hf1.size
    have s5 := hf2.size
    have F3 := fr_then (fr_then F hf1) hf2
    go_wp2_with fail
    refine bodyPost_ret (results_cell3 rfl rfl B6 Try.underlying25 rat3) rfl ?_
    exact ⟨_, _, by rw [hsq], (p1.keep hf2).outp F4 (fun k hk => by omega) (by omega), p2.outp F4 (fun k hk => by omega) (by omega), F3.comp F4 fun k hk h => ⟨h, by omega⟩⟩

/-- Two variables are filled. -/
theorem leaf2o {n : Nat} {a U : World} {b5 b6 : Nat} {t : TypeId} {xs ys us vs : List Nat} {s r : Bool} {A1 A2 A3 A4 : Option Addr} {n1 c1 n2 c2 n3 c3 n4 c4 : Nat}
    (x5 : Box3 U b5 t (.bool false) (.slice none 0 0) (.slice none 0 0)) (x6 : Box3 U b6 t (.bool false) (.slice none 0 0) (.slice none 0 0)) (hne : b5 ≠ b6) (h1 : Sl Lm (fun _ => True) U (.slice A1 n1 c1) xs) (h2 : Sl Lm (fun _ => True) U (.slice A2 n2 c2) ys) (h3 : Sl Lm (fun _ => True) U (.slice A3 n3 c3) us) (h4 : Sl Lm (fun _ => True) U (.slice A4 n4 c4) vs) (G : Fr (fun k => k < n) a U) (l5 : n ≤ b5) (l6 : n ≤ b6) :
    Box3 ((((((U.setCell ⟨b5, 0, none⟩ (.bool s)).setCell ⟨b5, 1, none⟩ (.slice A1 n1 c1)).setCell ⟨b5, 2, none⟩ (.slice A2 n2 c2)).setCell ⟨b6, 0, none⟩ (.bool r)).setCell ⟨b6, 1, none⟩ (.slice A3 n3 c3)).setCell ⟨b6, 2, none⟩ (.slice A4 n4 c4)) b5 t (.bool s) (.slice A1 n1 c1) (.slice A2 n2 c2) ∧ Box3 ((((((U.setCell ⟨b5, 0, none⟩ (.bool s)).setCell ⟨b5, 1, none⟩ (.slice A1 n1 c1)).setCell ⟨b5, 2, none⟩ (.slice A2 n2 c2)).setCell ⟨b6, 0, none⟩ (.bool r)).setCell ⟨b6, 1, none⟩ (.slice A3 n3 c3)).setCell ⟨b6, 2, none⟩ (.slice A4 n4 c4)) b6 t (.bool r) (.slice A3 n3 c3) (.slice A4 n4 c4) ∧ Sl Lm (fun _ => True) ((((((U.setCell ⟨b5, 0, none⟩ (.bool s)).setCell ⟨b5, 1, none⟩ (.slice A1 n1 c1)).setCell ⟨b5, 2, none⟩ (.slice A2 n2 c2)).setCell ⟨b6, 0, none⟩ (.bool r)).setCell ⟨b6, 1, none⟩ (.slice A3 n3 c3)).setCell ⟨b6, 2, none⟩ (.slice A4 n4 c4)) (.slice A1 n1 c1) xs ∧ Sl Lm (fun _ => True) ((((((U.setCell ⟨b5, 0, none⟩ (.bool s)).setCell ⟨b5, 1, none⟩ (.slice A1 n1 c1)).setCell ⟨b5, 2, none⟩ (.slice A2 n2 c2)).setCell ⟨b6, 0, none⟩ (.bool r)).setCell ⟨b6, 1, none⟩ (.slice A3 n3 c3)).setCell ⟨b6, 2, none⟩ (.slice A4 n4 c4)) (.slice A2 n2 c2) ys ∧ Sl Lm (fun _ => True) ((((((U.setCell ⟨b5, 0, none⟩ (.bool s)).setCell ⟨b5, 1, none⟩ (.slice A1 n1 c1)).setCell ⟨b5, 2, none⟩ (.slice A2 n2 c2)).setCell ⟨b6, 0, none⟩ (.bool r)).setCell ⟨b6, 1, none⟩ (.slice A3 n3 c3)).setCell ⟨b6, 2, none⟩ (.slice A4 n4 c4)) (.slice A3 n3 c3) us ∧ Sl Lm (fun _ => True) ((((((U.setCell ⟨b5, 0, none⟩ (.bool s)).setCell ⟨b5, 1, none⟩ (.slice A1 n1 c1)).setCell ⟨b5, 2, none⟩ (.slice A2 n2 c2)).setCell ⟨b6, 0, none⟩ (.bool r)).setCell ⟨b6, 1, none⟩ (.slice A3 n3 c3)).setCell ⟨b6, 2, none⟩ (.slice A4 n4 c4)) (.slice A4 n4 c4) vs ∧ Fr (fun k => k < n) a ((((((U.setCell ⟨b5, 0, none⟩ (.bool s)).setCell ⟨b5, 1, none⟩ (.slice A1 n1 c1)).setCell ⟨b5, 2, none⟩ (.slice A2 n2 c2)).setCell ⟨b6, 0, none⟩ (.bool r)).setCell ⟨b6, 1, none⟩ (.slice A3 n3 c3)).setCell ⟨b6, 2, none⟩ (.slice A4 n4 c4)) := by
  have y6 := x6.fr (fr_set3 U b5 (.bool s) (.slice A1 n1 c1) (.slice A2 n2 c2)) hne.symm
  exact ⟨(x5.set3 _ _ _).fr (fr_set3 _ b6 _ _ _) hne, y6.set3 _ _ _, Sl.over (Sl.over h1 x5 _ _ _) y6 _ _ _, Sl.over (Sl.over h2 x5 _ _ _) y6 _ _ _, Sl.over (Sl.over h3 x5 _ _ _) y6 _ _ _, Sl.over (Sl.over h4 x5 _ _ _) y6 _ _ _, fr3 (fr3 G l5) l6⟩

/-- Two rows of limbs that may be written to. -/
def VP (lo : Nat) (u : World) (v1 v2 : Value) : Prop := Vary lo u.heap.size u v1 ∧ Vary lo u.heap.size u v2
theorem VP.keep {lo : Nat} {u u' : World} {v1 v2 : Value} (h : VP lo u v1 v2) (hf : Fr (fun k => k < u.heap.size) u u') : VP lo u' v1 v2 :=
  ⟨(h.1.fr hf fun _ _ h => h).up hf.size, (h.2.fr hf fun _ _ h => h).up hf.size⟩
theorem VP.low {lo n : Nat} {u : World} {v1 v2 : Value} (h : VP n u v1 v2) (hl : lo ≤ n) : VP lo u v1 v2 := by
  refine ⟨?_, ?_⟩
  · rcases h.1 with h | ⟨g, n', c', h1, h2, h3⟩
    · exact .inl h
    · exact .inr ⟨g, n', c', h1, Nat.le_trans hl h2, h3⟩
  · rcases h.2 with h | ⟨g, n', c', h1, h2, h3⟩
    · exact .inl h
    · exact .inr ⟨g, n', c', h1, Nat.le_trans hl h2, h3⟩
theorem VP.rv {n : Nat} {u : World} {v1 v2 : Value} {q : Rat} {L : Nat} (h : RV (fun k => n ≤ k) u v1 v2 q L) : VP n u v1 v2 := ⟨Vary.of h.num.own (fun _ h => h) (Nat.le_refl _), Vary.of h.den.own (fun _ h => h) (Nat.le_refl _)⟩
theorem VP.can {n : Nat} {u : World} {v1 v2 : Value} {N D L K : Nat} (h : Can (fun k => n ≤ k) u v1 N L) (h' : Can (fun k => n ≤ k) u v2 D K) : VP n u v1 v2 := ⟨Vary.of h.own (fun _ h => h) (Nat.le_refl _), Vary.of h'.own (fun _ h => h) (Nat.le_refl _)⟩
theorem VP.nil (n : Nat) (u : World) : VP n u (.slice none 0 0) (.slice none 0 0) := ⟨.inl rfl, .inl rfl⟩
theorem VP.form {n : Nat} {u : World} {v1 v2 : Value} (h : VP n u v1 v2) : (∃ A n c, v1 = .slice A n c) ∧ ∃ A n c, v2 = .slice A n c := ⟨h.1.form, h.2.form⟩
theorem VP.past {lo b : Nat} {u : World} {v1 v2 : Value} (h : Vary lo b u v1 ∧ Vary lo b u v2) {u' : World} (hf : Fr (fun k => k ≠ b) u u') (hb : b ≤ u'.heap.size) : VP lo u' v1 v2 :=
  ⟨(h.1.fr hf fun _ _ h => by omega).up hb, (h.2.fr hf fun _ _ h => by omega).up hb⟩

theorem rdiv_any {S T : Nat → Prop} (w : World) (s t : Bool) (vn vd un ud : Value) (x y : Rat) (N D M E L : Nat) (hx : RI S w s vn vd x N D L) (hy : RI T w t un ud y M E L) (hL1 : 1 ≤ L) (hl : L ≤ 104857600) :
    Calls Try.prog 35 #[.agg #[.bool s, vn, vd], .agg #[.bool t, un, ud]] w fun e w' => ∃ r v1 v2 k, e = .returned (.tuple #[.agg #[.bool r, v1, v2], .int .i64 k]) ∧ VP w.heap.size w' v1 v2 ∧ Fr (fun k => k < w.heap.size) w w' := by
  by_cases h0 : y = 0
  · subst h0
    refine (rdiv_0 w s t vn vd un ud x N D M E L hx hy hL1 hl).mono ?_
    rintro e w' ⟨rfl, hf⟩
    exact ⟨_, _, _, _, rfl, VP.nil _ _, hf⟩
  · refine (rdiv_n w s t vn vd un ud x y N D M E L hx hy h0 hL1 hl).mono ?_
    rintro e w' ⟨v1, v2, rfl, h, hf⟩
    exact ⟨_, _, _, _, rfl, VP.rv h, hf⟩
theorem rmake_any {S T : Nat → Prop} (w : World) (s : Bool) (vn vd : Value) (N D L : Nat) (hn : Num S w vn N L) (hd : Num T w vd D L) (hL1 : 1 ≤ L) (hl : L ≤ 1048576000) :
    Calls Try.prog 19 #[.bool s, vn, vd] w fun e w' => ∃ r v1 v2 k, e = .returned (.tuple #[.agg #[.bool r, v1, v2], .int .i64 k]) ∧ VP w.heap.size w' v1 v2 ∧ Fr (fun k => k < w.heap.size) w w' := by
  rcases Nat.eq_zero_or_pos D with rfl | hD
  · refine (make_0 w s vn vd N L L hn hd hl).mono ?_
    rintro e w' ⟨rfl, hf⟩
    exact ⟨_, _, _, _, rfl, VP.nil _ _, hf⟩
  · refine (make_n w s vn vd N D L hn hd hD hL1 hl).mono ?_
    rintro e w' ⟨v1, v2, rfl, h, hf⟩
    exact ⟨_, _, _, _, rfl, VP.rv h, hf⟩

set_option maxRecDepth 20000 in
set_option maxHeartbeats 16000000 in
theorem rratown_walk {S : Nat → Prop} {s1 s2 : Bool} {xs1 ys1 xs2 ys2 : List Nat} (w : World) (va vb : Value) (L : Nat) (h1 : RL S w va s1 xs1 ys1 L) (h2 : RL S w vb s2 xs2 ys2 L) (hL : L ≤ 1048576) :
    Calls Try.prog 11 #[va, vb] w fun e w' => e = .returned (.bool true) ∧ Fr (fun k => k < w.heap.size) w w' := by
  obtain ⟨A1, n1, c1, B1, m1, k1, rfl, hx1, hy1, lx1, ly1⟩ := h1.open
  obtain ⟨A2, n2, c2, B2, m2, k2, rfl, hx2, hy2, lx2, ly2⟩ := h2.open
  clear h1 h2
  obtain ⟨x, hx⟩ : ∃ x, rv s1 (val xs1) (val ys1) = x := ⟨_, rfl⟩
  obtain ⟨y, hy⟩ : ∃ y, rv s2 (val xs2) (val ys2) = y := ⟨_, rfl⟩
  have HX := Lib.hid hx
  have HY := Lib.hid hy
  clear hx hy
  have F := ((Fr.refl (fun k => k < w.heap.size) w).alloc (.cells #[.bool s1, .slice A1 n1 c1, .slice B1 m1 k1] 25)).alloc (.cells #[.bool s2, .slice A2 n2 c2, .slice B2 m2 k2] 25)
  have x1 := (Box3.new w 25 (.bool s1) (.slice A1 n1 c1) (.slice B1 m1 k1)).alloc (.cells #[.bool s2, .slice A2 n2 c2, .slice B2 m2 k2] 25)
  have x2 := Box3.new (w.alloc (.cells #[.bool s1, .slice A1 n1 c1, .slice B1 m1 k1] 25)) 25 (.bool s2) (.slice A2 n2 c2) (.slice B2 m2 k2)
  simp only [World.size_alloc] at x2
  have hL1 : 1 ≤ L + 1 := by omega
  have hl1 : L + 1 ≤ 104857600 := by omega
  have hL3 : 1 ≤ 3 * (L + 1) := by omega
  have hl3 : 3 * (L + 1) ≤ 104857600 := by omega
  generalize hW0 : (w.alloc (.cells #[.bool s1, .slice A1 n1 c1, .slice B1 m1 k1] 25)).alloc (.cells #[.bool s2, .slice A2 n2 c2, .slice B2 m2 k2] 25) = W0 at F x1 x2
  have D0 : ∀ R, Fr R W0 W0.drew := fun R => (Fr.refl R W0).drew
  replace x1 := x1.keep (D0 _)
  replace x2 := x2.keep (D0 _)
  replace hx1 := (hx1.keep' Lm_pos F).keep' Lm_pos (D0 _)
  replace hy1 := (hy1.keep' Lm_pos F).keep' Lm_pos (D0 _)
  replace hx2 := (hx2.keep' Lm_pos F).keep' Lm_pos (D0 _)
  replace hy2 := (hy2.keep' Lm_pos F).keep' Lm_pos (D0 _)
  have r1 := ri_q HX hx1 hy1 lx1 ly1
  have r2 := ri_q HY hx2 hy2 lx2 ly2
  have KS : ∀ u, Fr (fun k => k < W0.drew.heap.size) W0.drew u → u.cell? ⟨w.heap.size, 0, none⟩ = some (.bool s1) ∧ u.cell? ⟨w.heap.size, 1, none⟩ = some (.slice A1 n1 c1) ∧ u.cell? ⟨w.heap.size, 2, none⟩ = some (.slice B1 m1 k1) ∧ u.cell? ⟨w.heap.size + 1, 0, none⟩ = some (.bool s2) ∧ u.cell? ⟨w.heap.size + 1, 1, none⟩ = some (.slice A2 n2 c2) ∧ u.cell? ⟨w.heap.size + 1, 2, none⟩ = some (.slice B2 m2 k2) := fun u h => by
    have z1 := x1.keep h
    have z2 := x2.keep h
    exact ⟨z1.c0, z1.c1, z1.c2, z2.c0, z2.c1, z2.c2⟩
  replace F := F.drew
  have G0 := Fr.refl (fun k => k < W0.drew.heap.size) W0.drew
  clear D0
  go_enter Try.func11, Try.ntmps11
  go_wp2_with fail
  clear hW0
  refine wpTill.begin (fun u => u.cell? ⟨w.heap.size, 0, none⟩ = some (.bool s1) ∧ u.cell? ⟨w.heap.size, 1, none⟩ = some (.slice A1 n1 c1) ∧ u.cell? ⟨w.heap.size, 2, none⟩ = some (.slice B1 m1 k1) ∧ u.cell? ⟨w.heap.size + 1, 0, none⟩ = some (.bool s2) ∧ u.cell? ⟨w.heap.size + 1, 1, none⟩ = some (.slice A2 n2 c2) ∧ u.cell? ⟨w.heap.size + 1, 2, none⟩ = some (.slice B2 m2 k2)) 7 (by kernel_rfl) ?_
  change wpTill _ _ _ _ _ _ 8 _ _ _
  refine wpTill.take 0 (.agg #[.bool s1, .slice A1 n1 c1, .slice B1 m1 k1]) rfl (by kernel_rfl) (by kernel_rfl) (fun _ _ _ h => h) (KS _ G0) (by rfl) (fun u hu => by go_simp) ?_
  try simp only [Act.put, List.setIfInBounds_toArray, List.set_cons_zero, List.set_cons_succ]
  refine wpTill.take 2 (.agg #[.bool s2, .slice A2 n2 c2, .slice B2 m2 k2]) rfl (by kernel_rfl) (by kernel_rfl) (fun _ _ _ h => h) (KS _ G0) (by rfl) (fun u hu => by go_simp) ?_
  try simp only [Act.put, List.setIfInBounds_toArray, List.set_cons_zero, List.set_cons_succ]
  refine wpTill.pair (n := 2) [1, 3] 4 5 (Pair (fun t5 t6 t8 t10 => { tmps := #[.agg #[.bool s1, .slice A1 n1 c1, .slice B1 m1 k1], .agg #[.bool s2, .slice A2 n2 c2, .slice B2 m2 k2], .pointer (some ⟨w.heap.size, 0, none⟩), .pointer (some ⟨w.heap.size + 1, 0, none⟩), .bool false, t5, t6, undef, undef, undef, undef, undef, undef, undef, undef, .agg #[.bool s1, .slice A1 n1 c1, .slice B1 m1 k1], t8, .agg #[.bool s2, .slice A2 n2 c2, .slice B2 m2 k2], t10, undef, undef, undef, undef, undef, undef, undef, undef, undef, undef, undef, undef, undef, undef, undef, undef, undef, undef, undef, undef, undef, undef, undef, undef, undef, undef, undef, undef, undef, undef, undef, undef, undef, undef, undef, undef, undef, undef, undef, undef, undef, undef, undef, undef, undef, undef, undef, undef, undef, undef, undef, undef, undef, undef, undef, undef, undef, undef, undef, undef, undef, undef, undef, undef, undef, undef, undef, undef, undef, undef, undef, undef, undef, undef, undef, undef, undef, undef, undef, undef, undef, undef, undef, undef, undef, undef, undef, undef, undef, undef, undef, undef, undef, undef, undef, undef, undef, undef, undef, undef, undef, undef, undef, undef, undef, undef, undef, undef, undef, undef, undef, undef, undef, undef, undef, undef, undef, undef, undef, undef, undef, undef, undef, undef, undef, undef, undef, undef], defers := [] }) W0.drew 25 (Owned s1 xs1 ys1) (Owned s2 xs2 ys2)) (by kernel_rfl) ?_ ?_ ?_ ?_ ?_ ?_
  · rintro c p q a u ⟨t5, t6, t8, t10, rfl, h⟩
    exact KS _ h.fr
  · intro c i hi p q
    rcases c with _ | _ | c
    · obtain rfl := Option.some.inj (show some 1 = some i from hi)
      refine ⟨_, rfl, rfl, ?_⟩
      rintro a u K ⟨t5, t6, t8, t10, rfl, h⟩ hk
      go_simp
      refine (rown_l _ s1 (.slice A1 n1 c1) (.slice B1 m1 k1) xs1 ys1 (hx1.keep' Lm_pos h.fr) (hy1.keep' Lm_pos h.fr) (by omega) (by omega)).mono ?_
      rintro e u' ⟨v1, v2, rfl, ha, hf⟩
      exact hk _ _ ⟨_, _, _, _, rfl, h.one hf (Owned.of ha)⟩
    · obtain rfl := Option.some.inj (show some 3 = some i from hi)
      refine ⟨_, rfl, rfl, ?_⟩
      rintro a u K ⟨t5, t6, t8, t10, rfl, h⟩ hk
      go_simp
      refine (rown_l _ s2 (.slice A2 n2 c2) (.slice B2 m2 k2) xs2 ys2 (hx2.keep' Lm_pos h.fr) (hy2.keep' Lm_pos h.fr) (by omega) (by omega)).mono ?_
      rintro e u' ⟨v1, v2, rfl, ha, hf⟩
      exact hk _ _ ⟨_, _, _, _, rfl, h.two (fun _ _ _ => Owned.keep) hf (Owned.of ha)⟩
    · exact absurd hi (by simp)
  · intro c q
    refine ⟨_, rfl, rfl, ?_⟩
    rintro a u K ⟨t5, t6, t8, t10, rfl, h⟩ hk
    go_simp
    exact hk _ _ ⟨_, _, _, _, rfl, h.left (fun _ _ _ => Owned.keep) (fun _ _ _ => Owned.keep)⟩
  · intro c p
    refine ⟨_, rfl, rfl, ?_⟩
    rintro a u K ⟨t5, t6, t8, t10, rfl, h⟩ hk
    go_simp
    exact hk _ _ ⟨_, _, _, _, rfl, h.right (fun _ _ _ => Owned.keep) (fun _ _ _ => Owned.keep)⟩
  · rintro a u ⟨t5, t6, t8, t10, rfl, h⟩
    obtain ⟨b5, rfl, x5, l5⟩ := h.x rfl
    obtain ⟨b6, rfl, x6, l6⟩ := h.y rfl
    have hne : b5 ≠ b6 := fun e => h.ne rfl rfl (by rw [e])
    obtain ⟨Pa, ia, ja, Qa, ua, ta, rfl, q1, p1⟩ := h.g (Nat.le_succ 1)
    obtain ⟨Pb, ib, jb, Qb, ub, tb, rfl, q2, p2⟩ := h.h (Nat.le_refl 2)
    have G := h.fr
    have z5 := x6.fr (fr_set3 u b5 (.bool s1) (.slice Pa ia ja) (.slice Qa ua ta)) hne.symm
    have S6 := KS _ (fr3 G l5 (x := .bool s1) (y := .slice Pa ia ja) (z := .slice Qa ua ta))
    have S5 := KS _ G
    have o0 := x5.c0; have o1 := x5.c1; have o2 := x5.c2; have o3 := x5.free 0; have o4 := x5.free 1; have o5 := x5.free 2
    have e0 := z5.c0; have e1 := z5.c1; have e2 := z5.c2; have e3 := z5.free 0; have e4 := z5.free 1; have e5 := z5.free 2
    have fin := leaf2o (s := s1) (r := s2) x5 x6 hne q1 p1 q2 p2 G l5 l6
    clear h z5
    refine wpTill.next 6 rfl (by kernel_rfl) (by rfl) (fun K hK => ?_)
    go_simp
    refine hK _ _ (fun _ => S6) ?_
    clear hK K
    try simp only [Act.put, List.setIfInBounds_toArray, List.set_cons_zero, List.set_cons_succ]
    refine wpTill.next 7 rfl (by kernel_rfl) (by rfl) (fun K hK => ?_)
    go_simp
    refine hK _ _ (no_wait (by kernel_rfl)) ?_
    clear hK K
    try simp only [Act.put, List.setIfInBounds_toArray, List.set_cons_zero, List.set_cons_succ]
    refine wpTill.done (by kernel_rfl) ?_
    clear o0 o1 o2 o3 o4 o5 e0 e1 e2 e3 e4 e5 S5 S6 x5 x6 q1 q2 p1 p2 G
    generalize (((((u.setCell ⟨b5, 0, none⟩ _).setCell ⟨b5, 1, none⟩ _).setCell ⟨b5, 2, none⟩ _).setCell ⟨b6, 0, none⟩ _).setCell ⟨b6, 1, none⟩ _).setCell ⟨b6, 2, none⟩ _ = U at fin ⊢
    obtain ⟨x5, x6, q1, p1, q2, p2, G⟩ := fin
    have lo5 := x5.lt
    have lo6 := x6.lt
    have hx1U := hx1.keep' Lm_pos G
    have hy1U := hy1.keep' Lm_pos G
    have hx2U := hx2.keep' Lm_pos G
    have hy2U := hy2.keep' Lm_pos G
    have x1U := x1.keep G
    have x2U := x2.keep G
    replace F := fr_then F G
    clear KS G0 r1 r2 G x1 x2 hx1 hy1 hx2 hy2 l5 l6 hne
    have G := Fr.refl (fun k => k < U.heap.size) U
    have o0 := x5.c0; have o1 := x5.c1; have o2 := x5.c2
    have e0 := x6.c0; have e1 := x6.c1; have e2 := x6.c2
    go_wp2_with fail
    refine (rdiv_any _ s1 s2 (.slice Pa ia ja) (.slice Qa ua ta) (.slice Pb ib jb) (.slice Qb ub tb) x y _ _ _ _ (L + 1) (ri_q HX q1 p1 lx1 ly1) (ri_q HY q2 p2 lx2 ly2) hL1 hl1).mono ?_
    rintro e wd ⟨sd, v1, v2, kd, rfl, g7, hf⟩
    clear o0 o1 o2 e0 e1 e2
    obtain ⟨⟨Pd, id, jd, rfl⟩, ⟨Qd, ud, td, rfl⟩⟩ := g7.form
    replace G := (fr_then G hf).alloc (.cells #[.bool false, .slice none 0 0, .slice none 0 0] 25)
    have hd := Box3.new wd 25 (.bool false) (.slice none 0 0) (.slice none 0 0)
    have gs := hf.size
    have g7' := g7.keep ((Fr.refl (fun k => k < wd.heap.size) wd).alloc (.cells #[.bool false, .slice none 0 0, .slice none 0 0] 25))
    have g7b : Vary U.heap.size wd.heap.size (wd.alloc (.cells #[.bool false, .slice none 0 0, .slice none 0 0] 25)) (.slice Pd id jd) ∧ Vary U.heap.size wd.heap.size (wd.alloc (.cells #[.bool false, .slice none 0 0, .slice none 0 0] 25)) (.slice Qd ud td) := ⟨g7.1.fr ((Fr.refl (fun _ => True) _).alloc _) fun _ _ _ => trivial, g7.2.fr ((Fr.refl (fun _ => True) _).alloc _) fun _ _ _ => trivial⟩
    clear hf g7 g7'
    go_wp2_with ((with_reducible apply wpList_st3); rfl; rfl; exact hd; exact rat3; rfl; rfl; rfl; intro w7 B7 F7; have G := G.comp F7 (R := fun k => k < U.heap.size) (fun k hk h => ⟨h, by omega⟩); have y5 := x5.keep G; have o0 := y5.c0; have o1 := y5.c1; have o2 := y5.c2)
    have g7 := VP.past g7b F7 (Nat.le_trans (Nat.le_succ _) (by have := F7.size; rwa [World.size_alloc] at this))
    obtain ⟨b7, hb7⟩ : ∃ b, b = wd.heap.size := ⟨_, rfl⟩
    rw [← hb7] at B7 ⊢
    clear F7 g7b hd gs hb7
    have x7 := B7
    clear B7
    refine (rmake_any _ s1 (.slice Pa ia ja) (.slice Qa ua ta) _ _ (L + 1) ⟨_, q1.keep' Lm_pos G, rfl, lx1⟩ ⟨_, p1.keep' Lm_pos G, rfl, ly1⟩ hL1 (by omega)).mono ?_
    rintro e wm ⟨sm, v1, v2, km, rfl, g9, hf⟩
    clear o0 o1 o2 y5
    obtain ⟨⟨Pm, im, jm, rfl⟩, ⟨Qm, um, tm, rfl⟩⟩ := g9.form
    replace g9 := g9.low (lo := U.heap.size) G.size
    have gs := Nat.le_trans G.size hf.size
    replace g7 := g7.keep hf
    replace x7 := x7.keep hf
    replace G := (fr_then G hf).alloc (.cells #[.bool false, .slice none 0 0, .slice none 0 0] 25)
    have hd := Box3.new wm 25 (.bool false) (.slice none 0 0) (.slice none 0 0)
    have l7 := x7.lt
    have A := fun R => (Fr.refl R wm).alloc (.cells #[.bool false, .slice none 0 0, .slice none 0 0] 25)
    have g7b : Vary U.heap.size wm.heap.size (wm.alloc (.cells #[.bool false, .slice none 0 0, .slice none 0 0] 25)) (.slice Pd id jd) ∧ Vary U.heap.size wm.heap.size (wm.alloc (.cells #[.bool false, .slice none 0 0, .slice none 0 0] 25)) (.slice Qd ud td) := ⟨g7.1.fr (A fun _ => True) fun _ _ _ => trivial, g7.2.fr (A fun _ => True) fun _ _ _ => trivial⟩
    have g9b : Vary U.heap.size wm.heap.size (wm.alloc (.cells #[.bool false, .slice none 0 0, .slice none 0 0] 25)) (.slice Pm im jm) ∧ Vary U.heap.size wm.heap.size (wm.alloc (.cells #[.bool false, .slice none 0 0, .slice none 0 0] 25)) (.slice Qm um tm) := ⟨g9.1.fr (A fun _ => True) fun _ _ _ => trivial, g9.2.fr (A fun _ => True) fun _ _ _ => trivial⟩
    replace x7 := x7.keep (A _)
    clear hf g7 g9 A
    go_wp2_with ((with_reducible apply wpList_st3); rfl; rfl; exact hd; exact rat3; rfl; rfl; rfl; intro w9 B9 F9)
    have hs9 : wm.heap.size ≤ w9.heap.size := Nat.le_trans (Nat.le_succ _) (by have := F9.size; rwa [World.size_alloc] at this)
    have g7 := VP.past g7b F9 hs9
    have g9 := VP.past g9b F9 hs9
    replace x7 := x7.fr F9 (by omega)
    replace G := G.comp F9 (R := fun k => k < U.heap.size) fun k hk h => ⟨h, by omega⟩
    obtain ⟨b9, hb9⟩ : ∃ b, b = wm.heap.size := ⟨_, rfl⟩
    rw [← hb9] at B9 ⊢
    clear F9 g7b g9b hd gs hb9 l7 hs9
    have D1 : ∀ R, Fr R w9 w9.drew := fun R => (Fr.refl R w9).drew
    replace g7 := g7.keep (D1 _)
    replace g9 := g9.keep (D1 _)
    replace G := fr_then G (D1 _)
    have z5 := x5.keep G
    have z6 := x6.keep G
    have z7 := x7.keep (D1 _)
    have z9 := B9.keep (D1 _)
    have l5 := z5.lt
    have l6 := z6.lt
    have KS : ∀ u, Fr (fun k => k < w9.drew.heap.size) w9.drew u → u.cell? ⟨b5, 0, none⟩ = some (.bool s1) ∧ u.cell? ⟨b5, 1, none⟩ = some (.slice Pa ia ja) ∧ u.cell? ⟨b5, 2, none⟩ = some (.slice Qa ua ta) ∧ u.cell? ⟨b6, 0, none⟩ = some (.bool s2) ∧ u.cell? ⟨b6, 1, none⟩ = some (.slice Pb ib jb) ∧ u.cell? ⟨b6, 2, none⟩ = some (.slice Qb ub tb) ∧ u.cell? ⟨b7, 0, none⟩ = some (.bool sd) ∧ u.cell? ⟨b7, 1, none⟩ = some (.slice Pd id jd) ∧ u.cell? ⟨b7, 2, none⟩ = some (.slice Qd ud td) ∧ u.cell? ⟨b9, 0, none⟩ = some (.bool sm) ∧ u.cell? ⟨b9, 1, none⟩ = some (.slice Pm im jm) ∧ u.cell? ⟨b9, 2, none⟩ = some (.slice Qm um tm) := fun u h => by
      have z1 := z5.keep h
      have z2 := z6.keep h
      have z3 := z7.keep h
      have z4 := z9.keep h
      exact ⟨z1.c0, z1.c1, z1.c2, z2.c0, z2.c1, z2.c2, z3.c0, z3.c1, z3.c2, z4.c0, z4.c1, z4.c2⟩
    have K0 := Fr.refl (fun k => k < w9.drew.heap.size) w9.drew
    clear D1 x7 B9 z5 z6 z7 z9
    go_wp2_with fail
    go_region_held3 (fun u => u.cell? ⟨b5, 0, none⟩ = some (.bool s1) ∧ u.cell? ⟨b5, 1, none⟩ = some (.slice Pa ia ja) ∧ u.cell? ⟨b5, 2, none⟩ = some (.slice Qa ua ta) ∧ u.cell? ⟨b6, 0, none⟩ = some (.bool s2) ∧ u.cell? ⟨b6, 1, none⟩ = some (.slice Pb ib jb) ∧ u.cell? ⟨b6, 2, none⟩ = some (.slice Qb ub tb) ∧ u.cell? ⟨b7, 0, none⟩ = some (.bool sd) ∧ u.cell? ⟨b7, 1, none⟩ = some (.slice Pd id jd) ∧ u.cell? ⟨b7, 2, none⟩ = some (.slice Qd ud td) ∧ u.cell? ⟨b9, 0, none⟩ = some (.bool sm) ∧ u.cell? ⟨b9, 1, none⟩ = some (.slice Pm im jm) ∧ u.cell? ⟨b9, 2, none⟩ = some (.slice Qm um tm)) (first | with_reducible exact KS _ K0 | with_reducible exact KS _ (K0.alloc _)) (first
      | ((with_reducible refine (norm_n _ s1 (.slice Pa ia ja) (.slice Qa ua ta) x _ _ (L + 1) (ri_q HX (q1.keep' Lm_pos G) (p1.keep' Lm_pos G) lx1 ly1) hL1 (by omega)).mono ?_); rintro e wq ⟨v1, v2, rfl, h1, hf⟩; have g1 := VP.low (lo := U.heap.size) (VP.rv h1) G.size; obtain ⟨⟨I1, i1, j1, rfl⟩, ⟨J1, u1, v1, rfl⟩⟩ := g1.form; (first | (with_reducible replace g7 := g7.keep hf) | skip); (first | (with_reducible replace g9 := g9.keep hf) | skip); with_reducible (have G := fr_then G hf; have K0 := fr_then K0 hf))
      | ((with_reducible refine (radd_n _ s1 s2 (.slice Pa ia ja) (.slice Qa ua ta) (.slice Pb ib jb) (.slice Qb ub tb) x y _ _ _ _ (L + 1) (ri_q HX (q1.keep' Lm_pos G) (p1.keep' Lm_pos G) lx1 ly1) (ri_q HY (q2.keep' Lm_pos G) (p2.keep' Lm_pos G) lx2 ly2) hL1 hl1).mono ?_); rintro e wq ⟨v1, v2, rfl, h1, hf⟩; have g2 := VP.low (lo := U.heap.size) (VP.rv h1) G.size; obtain ⟨⟨I2, i2, j2, rfl⟩, ⟨J2, u2, v2, rfl⟩⟩ := g2.form; (first | (with_reducible replace g7 := g7.keep hf) | skip); (first | (with_reducible replace g9 := g9.keep hf) | skip); (first | (with_reducible replace g1 := g1.keep hf) | skip); with_reducible (have G := fr_then G hf; have K0 := fr_then K0 hf))
      | ((with_reducible refine (rsub_n _ s1 s2 (.slice Pa ia ja) (.slice Qa ua ta) (.slice Pb ib jb) (.slice Qb ub tb) x y _ _ _ _ (L + 1) (ri_q HX (q1.keep' Lm_pos G) (p1.keep' Lm_pos G) lx1 ly1) (ri_q HY (q2.keep' Lm_pos G) (p2.keep' Lm_pos G) lx2 ly2) hL1 hl1).mono ?_); rintro e wq ⟨v1, v2, rfl, h1, hf⟩; have g3 := VP.low (lo := U.heap.size) (VP.rv h1) G.size; obtain ⟨⟨I3, i3, j3, rfl⟩, ⟨J3, u3, v3, rfl⟩⟩ := g3.form; (first | (with_reducible replace g7 := g7.keep hf) | skip); (first | (with_reducible replace g9 := g9.keep hf) | skip); (first | (with_reducible replace g1 := g1.keep hf) | skip); (first | (with_reducible replace g2 := g2.keep hf) | skip); with_reducible (have G := fr_then G hf; have K0 := fr_then K0 hf))
      | ((with_reducible refine (rmul_n _ s1 s2 (.slice Pa ia ja) (.slice Qa ua ta) (.slice Pb ib jb) (.slice Qb ub tb) x y _ _ _ _ (L + 1) (ri_q HX (q1.keep' Lm_pos G) (p1.keep' Lm_pos G) lx1 ly1) (ri_q HY (q2.keep' Lm_pos G) (p2.keep' Lm_pos G) lx2 ly2) hL1 hl1).mono ?_); rintro e wq ⟨v1, v2, rfl, h1, hf⟩; have g4 := VP.low (lo := U.heap.size) (VP.rv h1) G.size; obtain ⟨⟨I4, i4, j4, rfl⟩, ⟨J4, u4, v4, rfl⟩⟩ := g4.form; (first | (with_reducible replace g7 := g7.keep hf) | skip); (first | (with_reducible replace g9 := g9.keep hf) | skip); (first | (with_reducible replace g1 := g1.keep hf) | skip); (first | (with_reducible replace g2 := g2.keep hf) | skip); (first | (with_reducible replace g3 := g3.keep hf) | skip); with_reducible (have G := fr_then G hf; have K0 := fr_then K0 hf))
      | ((with_reducible refine (neg_n _ s1 (.slice Pa ia ja) (.slice Qa ua ta) x _ _ (L + 1) (ri_q HX (q1.keep' Lm_pos G) (p1.keep' Lm_pos G) lx1 ly1) hL1 (by omega)).mono ?_); rintro e wq ⟨v1, v2, rfl, h1, hf⟩; have g5 := VP.low (lo := U.heap.size) (VP.rv h1) G.size; obtain ⟨⟨I5, i5, j5, rfl⟩, ⟨J5, u5, v5, rfl⟩⟩ := g5.form; (first | (with_reducible replace g7 := g7.keep hf) | skip); (first | (with_reducible replace g9 := g9.keep hf) | skip); (first | (with_reducible replace g1 := g1.keep hf) | skip); (first | (with_reducible replace g2 := g2.keep hf) | skip); (first | (with_reducible replace g3 := g3.keep hf) | skip); (first | (with_reducible replace g4 := g4.keep hf) | skip); with_reducible (have G := fr_then G hf; have K0 := fr_then K0 hf))
      | ((with_reducible refine (rpow_1 _ s1 (.slice Pa ia ja) (.slice Qa ua ta) x _ _ (L + 1) (ri_q HX (q1.keep' Lm_pos G) (p1.keep' Lm_pos G) lx1 ly1) hL1 (by omega)).mono ?_); rintro e wq ⟨v1, v2, rfl, h1, h2, hf⟩; have g6 := VP.low (lo := U.heap.size) (VP.can h1 h2) G.size; obtain ⟨⟨I6, i6, j6, rfl⟩, ⟨J6, u6, v6, rfl⟩⟩ := g6.form; (first | (with_reducible replace g7 := g7.keep hf) | skip); (first | (with_reducible replace g9 := g9.keep hf) | skip); (first | (with_reducible replace g1 := g1.keep hf) | skip); (first | (with_reducible replace g2 := g2.keep hf) | skip); (first | (with_reducible replace g3 := g3.keep hf) | skip); (first | (with_reducible replace g4 := g4.keep hf) | skip); (first | (with_reducible replace g5 := g5.keep hf) | skip); with_reducible (have G := fr_then G hf; have K0 := fr_then K0 hf)))
    clear KS K0
    have GA := G.alloc (.cells #[.bool (sg x), .slice I1 i1 j1, .slice J1 u1 v1, .bool (sg (x + y)), .slice I2 i2 j2, .slice J2 u2 v2, .bool (sg (x - y)), .slice I3 i3 j3, .slice J3 u3 v3, .bool (sg (x * y)), .slice I4 i4 j4, .slice J4 u4 v4, .bool (sg (-x)), .slice I5 i5 j5, .slice J5 u5 v5, .bool (sg x), .slice I6 i6 j6, .slice J6 u6 v6, .bool sd, .slice Pd id jd, .slice Qd ud td, .bool sm, .slice Pm im jm, .slice Qm um tm] 25)
    have hlo : U.heap.size ≤ wq.heap.size := G.size
    have HV : ∃ vs ws : List Value, (∀ v ∈ vs, Vary U.heap.size wq.heap.size (wq.alloc (.cells #[.bool (sg x), .slice I1 i1 j1, .slice J1 u1 v1, .bool (sg (x + y)), .slice I2 i2 j2, .slice J2 u2 v2, .bool (sg (x - y)), .slice I3 i3 j3, .slice J3 u3 v3, .bool (sg (x * y)), .slice I4 i4 j4, .slice J4 u4 v4, .bool (sg (-x)), .slice I5 i5 j5, .slice J5 u5 v5, .bool (sg x), .slice I6 i6 j6, .slice J6 u6 v6, .bool sd, .slice Pd id jd, .slice Qd ud td, .bool sm, .slice Pm im jm, .slice Qm um tm] 25)) v) ∧ (∀ n, n < 8 → ∃ A nv cv B mv kv, ws[n * 3 + 1]? = some (.slice A nv cv) ∧ ws[n * 3 + 2]? = some (.slice B mv kv) ∧ (.slice A nv cv) ∈ vs ∧ (.slice B mv kv) ∈ vs) ∧ (wq.alloc (.cells #[.bool (sg x), .slice I1 i1 j1, .slice J1 u1 v1, .bool (sg (x + y)), .slice I2 i2 j2, .slice J2 u2 v2, .bool (sg (x - y)), .slice I3 i3 j3, .slice J3 u3 v3, .bool (sg (x * y)), .slice I4 i4 j4, .slice J4 u4 v4, .bool (sg (-x)), .slice I5 i5 j5, .slice J5 u5 v5, .bool (sg x), .slice I6 i6 j6, .slice J6 u6 v6, .bool sd, .slice Pd id jd, .slice Qd ud td, .bool sm, .slice Pm im jm, .slice Qm um tm] 25)).heap[wq.heap.size]? = some (.cells ws.toArray 25 (0, 0)) := by
      refine ⟨[.slice I1 i1 j1, .slice J1 u1 v1, .slice I2 i2 j2, .slice J2 u2 v2, .slice I3 i3 j3, .slice J3 u3 v3, .slice I4 i4 j4, .slice J4 u4 v4, .slice I5 i5 j5, .slice J5 u5 v5, .slice I6 i6 j6, .slice J6 u6 v6, .slice Pd id jd, .slice Qd ud td, .slice Pm im jm, .slice Qm um tm], [.bool (sg x), .slice I1 i1 j1, .slice J1 u1 v1, .bool (sg (x + y)), .slice I2 i2 j2, .slice J2 u2 v2, .bool (sg (x - y)), .slice I3 i3 j3, .slice J3 u3 v3, .bool (sg (x * y)), .slice I4 i4 j4, .slice J4 u4 v4, .bool (sg (-x)), .slice I5 i5 j5, .slice J5 u5 v5, .bool (sg x), .slice I6 i6 j6, .slice J6 u6 v6, .bool sd, .slice Pd id jd, .slice Qd ud td, .bool sm, .slice Pm im jm, .slice Qm um tm], ?_, ?_, heap_alloc_new _ _⟩
      · have hfa : Fr (fun _ => True) wq (wq.alloc (.cells #[.bool (sg x), .slice I1 i1 j1, .slice J1 u1 v1, .bool (sg (x + y)), .slice I2 i2 j2, .slice J2 u2 v2, .bool (sg (x - y)), .slice I3 i3 j3, .slice J3 u3 v3, .bool (sg (x * y)), .slice I4 i4 j4, .slice J4 u4 v4, .bool (sg (-x)), .slice I5 i5 j5, .slice J5 u5 v5, .bool (sg x), .slice I6 i6 j6, .slice J6 u6 v6, .bool sd, .slice Pd id jd, .slice Qd ud td, .bool sm, .slice Pm im jm, .slice Qm um tm] 25)) := (Fr.refl _ _).alloc _
        intro v hv
        simp only [List.mem_cons, List.not_mem_nil, or_false] at hv
        rcases hv with rfl | rfl | rfl | rfl | rfl | rfl | rfl | rfl | rfl | rfl | rfl | rfl | rfl | rfl | rfl | rfl <;> (refine Vary.fr ?_ hfa (fun _ _ _ => trivial); first | exact g1.1 | exact g1.2 | exact g2.1 | exact g2.2 | exact g3.1 | exact g3.2 | exact g4.1 | exact g4.2 | exact g5.1 | exact g5.2 | exact g6.1 | exact g6.2 | exact g7.1 | exact g7.2 | exact g9.1 | exact g9.2)
      · intro n hn
        rcases n with _ | _ | _ | _ | _ | _ | _ | _ | n
        all_goals first | exact ⟨_, _, _, _, _, _, rfl, rfl, by simp, by simp⟩ | (exfalso; omega)
    obtain ⟨vs, ws, hvs, hws, hlb⟩ := HV
    have HV := Lib.hid hvs
    have HL := Lib.hid hlb
    have HW := Lib.hid hws
    clear hvs hlb hws g1 g2 g3 g4 g5 g6 g7 g9 G
    go_wp2_with fail
    generalize (wq.alloc _) = wl at HV HL GA ⊢
    obtain ⟨hi, hhi⟩ : ∃ b, b = wq.heap.size := ⟨_, rfl⟩
    rw [← hhi] at HV HL hlo ⊢
    clear hhi
    go_loopw [12, 13, 14] (fun i _ _ wr => ∃ (n : Nat), i = .int .i64 n ∧ n ≤ 8 ∧ (∀ v ∈ vs, Vary U.heap.size hi wr v) ∧ wr.heap[hi]? = some (.cells ws.toArray 25 (0, 0)) ∧ Fr (fun k => k < U.heap.size) U wr) (fun i _ _ _ => 8 - (intOf i).toNat)
    case atStart => exact ⟨0, rfl, by omega, HV.out, HL.out, GA⟩
    case round =>
      clear HV HL GA
      obtain ⟨n, rfl, hn, hvs, hlb, G⟩ := hrel
      by_cases hlt : n < 8
      · obtain ⟨A, nv, cv, B, mv, kv, hw1, hw2, hmem1, hmem2⟩ := HW.out n hlt
        have HC1 := Lib.hid (show ∀ W : World, W.heap[hi]? = some (.cells ws.toArray 25 (0, 0)) → W.cell? ⟨hi, n * 3 + 1, none⟩ = some (.slice A nv cv) from fun W h => by
          rw [cell_of_row W hi (n * 3 + 1) _ _ (0, 0) h]; simpa using hw1)
        have HC2 := Lib.hid (show ∀ W : World, W.heap[hi]? = some (.cells ws.toArray 25 (0, 0)) → W.cell? ⟨hi, n * 3 + 2, none⟩ = some (.slice B mv kv) from fun W h => by
          rw [cell_of_row W hi (n * 3 + 2) _ _ (0, 0) h]; simpa using hw2)
        have HV1 := Lib.hid hvs
        have HL1 := Lib.hid hlb
        clear hvs hlb hw1 hw2
        go_wp2_with fail
        go_loopw [13] (fun k W => ∃ (m : Nat), k = .int .i64 m ∧ Hid (∀ v ∈ vs, Vary U.heap.size hi W v) ∧ Hid (W.heap[hi]? = some (.cells ws.toArray 25 (0, 0))) ∧ Fr (fun k => k < U.heap.size) U W) (fun k _ => nv - (intOf k).toNat)
        case atStart => exact ⟨0, rfl, HV1, HL1, G⟩
        case round =>
          clear HV1 HL1 G
          obtain ⟨m, rfl, HV1, HL1, G⟩ := hrel
          have hl1 := HC1.out _ HL1.out
          by_cases hm : m < nv
          · rcases HV1.out _ hmem1 with h | ⟨g, n', c', h1, h2, h3, h4, cur, h5, h6⟩
            · cases h; omega
            cases h1
            obtain ⟨z, hz, hzl⟩ := h6 m hm
            have hz1 : wr.drew.cell? ⟨g, m, none⟩ = some (.int .u32 (z : Int)) := (cell_of_row wr g m cur 62 (0, 0) h5).trans hz
            have hfz : wr.drew.frozen? ⟨g, m, none⟩ = false := frozen_of_row wr g m cur 62 h5
            have hl2 : wr.drew.cell? ⟨hi, n * 3 + 1, none⟩ = some (.slice (some ⟨g, 0, none⟩) nv cv) := hl1
            obtain ⟨y, hy⟩ : ∃ y, y = (z + 1) % 4294967296 := ⟨_, rfl⟩
            have hwrap : IntKind.u32.wrap ((z : Int) + 1) = (y : Int) := by rw [hy]; simp [IntKind.wrap, IntKind.signed, IntKind.bits]
            have hyl : y < LB := by rw [hy]; unfold LB; omega
            have HN := Lib.hid (show ∀ v ∈ vs, Vary U.heap.size hi (wr.setCell ⟨g, m, none⟩ (.int .u32 (y : Int))).drew v from fun v hv => ((HV1.out v hv).set g m y hyl).fr ((Fr.refl (fun _ => True) _).drew) (fun _ _ _ => trivial))
            have HLN := Lib.hid (show (wr.setCell ⟨g, m, none⟩ (.int .u32 (y : Int))).drew.heap[hi]? = some (.cells ws.toArray 25 (0, 0)) from (Below.heap_setCell wr ⟨g, m, none⟩ _ hi (by simp; omega)).trans HL1.out)
            have GN : Fr (fun k => k < U.heap.size) U (wr.setCell ⟨g, m, none⟩ (.int .u32 (y : Int))).drew := (G.setCell (fun _ => by simp; omega) _).drew
            clear hy hz h5 h6 HV1 HL1 G HC1 HC2
            go_wp2_with fail
            go_region
            all_goals
              go_wp2_with fail
              go_roundw
              case rel => exact ⟨m + 1, by go_num, HN, HLN, GN⟩
              case measure => first | (simp [intOf]; done) | (simp [intOf]; omega)
          · go_wp2_with fail
            go_loopw [14] (fun k W => ∃ (m : Nat), k = .int .i64 m ∧ Hid (∀ v ∈ vs, Vary U.heap.size hi W v) ∧ Hid (W.heap[hi]? = some (.cells ws.toArray 25 (0, 0))) ∧ Fr (fun k => k < U.heap.size) U W) (fun k _ => mv - (intOf k).toNat)
            case atStart => exact ⟨0, rfl, HV1, HL1, G⟩
            case round =>
              clear HV1 HL1 G
              obtain ⟨m, rfl, HV1, HL1, G⟩ := hrel
              have hl1 := HC2.out _ HL1.out
              by_cases hm : m < mv
              · rcases HV1.out _ hmem2 with h | ⟨g, n', c', h1, h2, h3, h4, cur, h5, h6⟩
                · cases h; omega
                cases h1
                obtain ⟨z, hz, hzl⟩ := h6 m hm
                have hz1 : wr.drew.cell? ⟨g, m, none⟩ = some (.int .u32 (z : Int)) := (cell_of_row wr g m cur 62 (0, 0) h5).trans hz
                have hfz : wr.drew.frozen? ⟨g, m, none⟩ = false := frozen_of_row wr g m cur 62 h5
                have hl2 : wr.drew.cell? ⟨hi, n * 3 + 2, none⟩ = some (.slice (some ⟨g, 0, none⟩) mv kv) := hl1
                obtain ⟨y, hy⟩ : ∃ y, y = (z + 1) % 4294967296 := ⟨_, rfl⟩
                have hwrap : IntKind.u32.wrap ((z : Int) + 1) = (y : Int) := by rw [hy]; simp [IntKind.wrap, IntKind.signed, IntKind.bits]
                have hyl : y < LB := by rw [hy]; unfold LB; omega
                have HN := Lib.hid (show ∀ v ∈ vs, Vary U.heap.size hi (wr.setCell ⟨g, m, none⟩ (.int .u32 (y : Int))).drew v from fun v hv => ((HV1.out v hv).set g m y hyl).fr ((Fr.refl (fun _ => True) _).drew) (fun _ _ _ => trivial))
                have HLN := Lib.hid (show (wr.setCell ⟨g, m, none⟩ (.int .u32 (y : Int))).drew.heap[hi]? = some (.cells ws.toArray 25 (0, 0)) from (Below.heap_setCell wr ⟨g, m, none⟩ _ hi (by simp; omega)).trans HL1.out)
                have GN : Fr (fun k => k < U.heap.size) U (wr.setCell ⟨g, m, none⟩ (.int .u32 (y : Int))).drew := (G.setCell (fun _ => by simp; omega) _).drew
                clear hy hz h5 h6 HV1 HL1 G HC1 HC2
                go_wp2_with fail
                go_region
                all_goals
                  go_wp2_with fail
                  go_roundw
                  case rel => exact ⟨m + 1, by go_num, HN, HLN, GN⟩
                  case measure => first | (simp [intOf]; done) | (simp [intOf]; omega)
              · go_wp2_with fail
                go_roundw
                case rel => exact ⟨n + 1, by go_num, by omega, HV1.out, HL1.out, G⟩
                case measure => first | (simp [intOf]; done) | (simp [intOf]; omega)
      · obtain rfl : n = 8 := by omega
        clear hvs hlb HW
        have y1 := x1U.keep G
        have y2 := x2U.keep G
        have y5 := x5.keep G
        have y6 := x6.keep G
        have c0 := y1.c0; have c1' := y1.c1; have c2' := y1.c2
        have d0 := y2.c0; have d1 := y2.c1; have d2 := y2.c2
        have o0 := y5.c0; have o1 := y5.c1; have o2 := y5.c2
        have e0 := y6.c0; have e1 := y6.c1; have e2 := y6.c2
        go_wp2_with fail
        refine (same_c _ _ _ xs1 (q1.keep' Lm_pos G) (hx1U.keep' Lm_pos G)).mono ?_
        rintro e wr ⟨rfl, rfl⟩
        go_wp2_with fail
        refine (same_c _ _ _ ys1 (p1.keep' Lm_pos G) (hy1U.keep' Lm_pos G)).mono ?_
        rintro e wr ⟨rfl, rfl⟩
        go_wp2_with fail
        refine (same_c _ _ _ xs2 (q2.keep' Lm_pos G) (hx2U.keep' Lm_pos G)).mono ?_
        rintro e wr ⟨rfl, rfl⟩
        go_wp2_with fail
        refine (same_c _ _ _ ys2 (p2.keep' Lm_pos G) (hy2U.keep' Lm_pos G)).mono ?_
        rintro e wr ⟨rfl, rfl⟩
        go_wp2_with fail
        refine (rknown _).mono ?_
        rintro e wz ⟨rfl, hf⟩
        go_wp2_with fail
        go_ret
        exact ⟨rfl, fr_then (fr_then F G) hf⟩
  · exact ⟨_, _, _, _, rfl, ⟨G0, (fun h => by cases h), (fun h => by cases h), (fun h => by cases h), (fun h => absurd h (by decide)), (fun h => absurd h (by decide))⟩⟩
end Go.Proofs.Ytodpbkcdcchljaa

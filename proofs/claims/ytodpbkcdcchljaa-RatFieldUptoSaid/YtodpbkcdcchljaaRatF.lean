
/- rat.Add, Sub, Sign, Cmp, Bits, Frac. -/
import Derived.Test.YtodpbkcdcchljaaRatD
import Derived.Test.YtodpbkcdcchljaaRatE
namespace Go.Proofs.Ytodpbkcdcchljaa
open Go.RowKit

set_option maxHeartbeats 1000000 in
theorem radd_n {S T : Nat → Prop} (w : World) (s t : Bool) (vn vd un ud : Value) (x y : Rat) (N D M E L : Nat) (hx : RI S w s vn vd x N D L) (hy : RI T w t un ud y M E L) (hL1 : 1 ≤ L) (hl : L ≤ 104857600) :
    Calls Try.prog 28 #[.agg #[.bool s, vn, vd], .agg #[.bool t, un, ud]] w fun e w' => ∃ v1 v2, e = .returned (.agg #[.bool (sg (x + y)), v1, v2]) ∧ RV (fun k => w.heap.size ≤ k) w' v1 v2 (x + y) (5 * L) ∧ Fr (fun k => k < w.heap.size) w w' := by
  obtain ⟨⟨A1, n1, c1, rfl⟩, ⟨A2, n2, c2, rfl⟩⟩ := hx.form
  obtain ⟨⟨A3, n3, c3, rfl⟩, ⟨A4, n4, c4, rfl⟩⟩ := hy.form
  have F := (((Fr.refl (fun k => k < w.heap.size) w).alloc (.cells #[.bool s, .slice A1 n1 c1, .slice A2 n2 c2] 25)).alloc (.cells #[.bool t, .slice A3 n3 c3, .slice A4 n4 c4] 25)).alloc (.cells #[.bool false, .slice none 0 0, .slice none 0 0] 25)
  have hb := box_nz ((w.alloc (.cells #[.bool s, .slice A1 n1 c1, .slice A2 n2 c2] 25)).alloc (.cells #[.bool t, .slice A3 n3 c3, .slice A4 n4 c4] 25))
  simp only [World.size_alloc] at hb
  have p1 := sum_n _ false _ _ _ _ _ _ x y y N D M E L rfl (hx.keep F) (hy.keep F) hL1 hl
  have P1 := Lib.hid p1
  clear p1
  go_enter Try.func28, Try.ntmps28
  go_wp2_with fail
  refine P1.out.mono ?_
  rintro e w1 ⟨v1, v2, rfl, h1, hf⟩
  obtain ⟨⟨B1, m1, k1, rfl⟩, ⟨B2, m2, k2, rfl⟩⟩ := h1.form
  have s1 := hf.size
  simp only [World.size_alloc] at h1 s1
  replace hb := hb.keep hf
  replace F := fr_then F hf
  clear hf P1 hx hy
  go_wp2_with ((with_reducible apply wpList_st3); rfl; rfl; exact hb; exact rat3; rfl; rfl; rfl; intro w9 B9 F9)
  refine bodyPost_ret (results_cell3 rfl rfl B9 Try.underlying25 rat3) rfl ?_
  exact ⟨_, _, rfl, h1.out F9 (fun k hk => by omega) (by omega), F.comp F9 fun k hk h => ⟨h, by omega⟩⟩

set_option maxHeartbeats 1000000 in
theorem rsub_n {S T : Nat → Prop} (w : World) (s t : Bool) (vn vd un ud : Value) (x y : Rat) (N D M E L : Nat) (hx : RI S w s vn vd x N D L) (hy : RI T w t un ud y M E L) (hL1 : 1 ≤ L) (hl : L ≤ 104857600) :
    Calls Try.prog 30 #[.agg #[.bool s, vn, vd], .agg #[.bool t, un, ud]] w fun e w' => ∃ v1 v2, e = .returned (.agg #[.bool (sg (x - y)), v1, v2]) ∧ RV (fun k => w.heap.size ≤ k) w' v1 v2 (x - y) (5 * L) ∧ Fr (fun k => k < w.heap.size) w w' := by
  obtain ⟨⟨A1, n1, c1, rfl⟩, ⟨A2, n2, c2, rfl⟩⟩ := hx.form
  obtain ⟨⟨A3, n3, c3, rfl⟩, ⟨A4, n4, c4, rfl⟩⟩ := hy.form
  have F := (((Fr.refl (fun k => k < w.heap.size) w).alloc (.cells #[.bool s, .slice A1 n1 c1, .slice A2 n2 c2] 25)).alloc (.cells #[.bool t, .slice A3 n3 c3, .slice A4 n4 c4] 25)).alloc (.cells #[.bool false, .slice none 0 0, .slice none 0 0] 25)
  have hb := box_nz ((w.alloc (.cells #[.bool s, .slice A1 n1 c1, .slice A2 n2 c2] 25)).alloc (.cells #[.bool t, .slice A3 n3 c3, .slice A4 n4 c4] 25))
  simp only [World.size_alloc] at hb
  have p1 := sum_n _ true _ _ _ _ _ _ x y (-y) N D M E L rfl (hx.keep F) (hy.keep F) hL1 hl
  rw [show x + -y = x - y from (Rat.sub_eq_add_neg x y).symm] at p1
  have P1 := Lib.hid p1
  clear p1
  go_enter Try.func30, Try.ntmps30
  go_wp2_with fail
  refine P1.out.mono ?_
  rintro e w1 ⟨v1, v2, rfl, h1, hf⟩
  obtain ⟨⟨B1, m1, k1, rfl⟩, ⟨B2, m2, k2, rfl⟩⟩ := h1.form
  have s1 := hf.size
  simp only [World.size_alloc] at h1 s1
  replace hb := hb.keep hf
  replace F := fr_then F hf
  clear hf P1 hx hy
  go_wp2_with ((with_reducible apply wpList_st3); rfl; rfl; exact hb; exact rat3; rfl; rfl; rfl; intro w9 B9 F9)
  refine bodyPost_ret (results_cell3 rfl rfl B9 Try.underlying25 rat3) rfl ?_
  exact ⟨_, _, rfl, h1.out F9 (fun k hk => by omega) (by omega), F.comp F9 fun k hk h => ⟨h, by omega⟩⟩

set_option maxHeartbeats 2000000 in
theorem rsign_n {S : Nat → Prop} (w : World) (s : Bool) (vn vd : Value) (q : Rat) (N D L : Nat) (h : RI S w s vn vd q N D L) (hL1 : 1 ≤ L) (hl : L ≤ 1048576000) :
    Calls Try.prog 38 #[.agg #[.bool s, vn, vd]] w fun e w' => e = .returned (.int .i64 q.num.sign) ∧ Fr (fun k => k < w.heap.size) w w' := by
  obtain ⟨⟨A1, n1, c1, rfl⟩, ⟨A2, n2, c2, rfl⟩⟩ := h.form
  have F := (Fr.refl (fun k => k < w.heap.size) w).alloc (.cells #[.bool s, .slice A1 n1 c1, .slice A2 n2 c2] 25)
  have hx := Box3.new w 25 (.bool s) (.slice A1 n1 c1) (.slice A2 n2 c2)
  have hc := sign_cases q
  obtain ⟨z, hz⟩ : ∃ z, z = q.num.sign := ⟨_, rfl⟩
  rw [← hz] at hc ⊢
  have HZ := Lib.hid hc
  clear hc
  go_enter Try.func38, Try.ntmps38
  go_wp2_with fail
  refine (norm_n _ _ _ _ _ _ _ _ (h.keep F) hL1 hl).mono ?_
  rintro e w1 ⟨v1, v2, rfl, h1, hf⟩
  have hm := dg_len_pos LB2 (n := q.num.natAbs)
  have hnum : ∃ A c, v1 = .slice A (dg LB q.num.natAbs).length c := by obtain ⟨A, c, e, _⟩ := h1.num.sl.slice; exact ⟨A, c, e⟩
  obtain ⟨B1, k1, rfl⟩ := hnum
  obtain ⟨_, ⟨B2, m2, k2, rfl⟩⟩ := h1.form
  generalize (dg LB q.num.natAbs).length = m at hm ⊢
  generalize sg q = sq at HZ ⊢
  replace hx := hx.keep hf
  replace F := fr_then F hf
  clear h1 hf h
  rcases HZ.out with ⟨h0, hs⟩ | ⟨h0, hq, hs⟩ | ⟨h0, hq, hs⟩
  · obtain rfl : m = 0 := by omega
    subst hs
    clear HZ hm h0 hz
    go_wp2_with ((with_reducible apply wpList_st3); rfl; rfl; exact hx; exact rat3; rfl; rfl; rfl; intro w2 B2' F2; have b0 := B2'.c0; have b1 := B2'.c1)
    go_ret
    exact ⟨rfl, F.comp F2 fun k hk h => ⟨h, by omega⟩⟩
  · have hm0 : ((m : Int) == 0) = false := beq_eq_false_iff_ne.2 (by omega)
    subst hs hq
    clear HZ hm h0 hz
    go_wp2_with ((with_reducible apply wpList_st3); rfl; rfl; exact hx; exact rat3; rfl; rfl; rfl; intro w2 B2' F2; have b0 := B2'.c0; have b1 := B2'.c1)
    go_ret
    exact ⟨rfl, F.comp F2 fun k hk h => ⟨h, by omega⟩⟩
  · have hm0 : ((m : Int) == 0) = false := beq_eq_false_iff_ne.2 (by omega)
    subst hs hq
    clear HZ hm h0 hz
    go_wp2_with ((with_reducible apply wpList_st3); rfl; rfl; exact hx; exact rat3; rfl; rfl; rfl; intro w2 B2' F2; have b0 := B2'.c0; have b1 := B2'.c1)
    go_ret
    exact ⟨rfl, F.comp F2 fun k hk h => ⟨h, by omega⟩⟩

theorem rcmp_n {S T : Nat → Prop} (w : World) (s t : Bool) (vn vd un ud : Value) (x y : Rat) (N D M E L : Nat) (hx : RI S w s vn vd x N D L) (hy : RI T w t un ud y M E L) (hL1 : 1 ≤ L) (hl : L ≤ 104857600) :
    Calls Try.prog 39 #[.agg #[.bool s, vn, vd], .agg #[.bool t, un, ud]] w fun e w' => e = .returned (.int .i64 (x - y).num.sign) ∧ Fr (fun k => k < w.heap.size) w w' := by
  obtain ⟨⟨A1, n1, c1, rfl⟩, ⟨A2, n2, c2, rfl⟩⟩ := hx.form
  obtain ⟨⟨A3, n3, c3, rfl⟩, ⟨A4, n4, c4, rfl⟩⟩ := hy.form
  have F := ((Fr.refl (fun k => k < w.heap.size) w).alloc (.cells #[.bool s, .slice A1 n1 c1, .slice A2 n2 c2] 25)).alloc (.cells #[.bool t, .slice A3 n3 c3, .slice A4 n4 c4] 25)
  go_enter Try.func39, Try.ntmps39
  go_wp2_with fail
  refine (rsub_n _ _ _ _ _ _ _ _ _ _ _ _ _ _ (hx.keep F) (hy.keep F) hL1 hl).mono ?_
  rintro e w1 ⟨v1, v2, rfl, h1, hf⟩
  obtain ⟨⟨B1, m1, k1, rfl⟩, ⟨B2, m2, k2, rfl⟩⟩ := h1.form
  replace F := fr_then F hf
  clear hf hx hy
  go_wp2_with fail
  refine (rsign_n _ _ _ _ _ _ _ _ h1.ri (by omega) (by omega)).mono ?_
  rintro e w2 ⟨rfl, hf⟩
  go_wp2_with fail
  go_ret
  exact ⟨rfl, fr_then F hf⟩


set_option maxHeartbeats 1000000 in
theorem rbits_n {S : Nat → Prop} (w : World) (s : Bool) (vn vd : Value) (q : Rat) (N D L : Nat) (h : RI S w s vn vd q N D L) (hL1 : 1 ≤ L) (hl : L ≤ 1048576000) :
    Calls Try.prog 43 #[.agg #[.bool s, vn, vd]] w fun e w' => e = .returned (.int .i64 (max (blen q.num.natAbs : Int) (blen q.den : Int))) ∧ Fr (fun k => k < w.heap.size) w w' := by
  obtain ⟨⟨A1, n1, c1, rfl⟩, ⟨A2, n2, c2, rfl⟩⟩ := h.form
  have F := (Fr.refl (fun k => k < w.heap.size) w).alloc (.cells #[.bool s, .slice A1 n1 c1, .slice A2 n2 c2] 25)
  have hx := Box3.new w 25 (.bool s) (.slice A1 n1 c1) (.slice A2 n2 c2)
  go_enter Try.func43, Try.ntmps43
  go_wp2_with fail
  refine (norm_n _ _ _ _ _ _ _ _ (h.keep F) hL1 hl).mono ?_
  rintro e w1 ⟨v1, v2, rfl, h1, hf⟩
  obtain ⟨⟨B1, m1, k1, rfl⟩, ⟨B2, m2, k2, rfl⟩⟩ := h1.form
  have s1 := hf.size
  simp only [World.size_alloc] at h1 s1
  replace hx := hx.keep hf
  replace F := fr_then F hf
  clear hf h
  go_wp2_with ((with_reducible apply wpList_st3); rfl; rfl; exact hx; exact rat3; rfl; rfl; rfl; intro w2 B2' F2)
  have h2 := h1.out F2 (b := w.heap.size + 1) (fun k hk => by omega) (Nat.le_refl _)
  have dr : ∀ R, Fr R w2 w2.drew := fun R => (Fr.refl R w2).drew
  have h3 := h2.keep (dr _)
  have B3 := B2'.keep (dr _)
  have F3 := (F.comp F2 (R := fun k => k < w.heap.size) fun k hk h => ⟨h, by omega⟩).drew
  have S0 : w2.drew.cell? ⟨w.heap.size, 1, none⟩ = some (.slice B1 m1 k1) ∧ w2.drew.cell? ⟨w.heap.size, 2, none⟩ = some (.slice B2 m2 k2) := ⟨B3.c1, B3.c2⟩
  clear h1 h2 hx F F2 B2' dr s1
  go_region_held3 (fun u => u.cell? ⟨w.heap.size, 1, none⟩ = some (.slice B1 m1 k1) ∧ u.cell? ⟨w.heap.size, 2, none⟩ = some (.slice B2 m2 k2)) (exact S0) (first
    | ((with_reducible refine (bits_n _ (.slice B1 m1 k1) _ L h3.num.num (by omega)).mono ?_); rintro e w' ⟨rfl, rfl⟩)
    | ((with_reducible refine (bits_n _ (.slice B2 m2 k2) _ L h3.den.num (by omega)).mono ?_); rintro e w' ⟨rfl, rfl⟩))
  go_wp2_with fail
  go_ret
  exact ⟨rfl, F3⟩
end Go.Proofs.Ytodpbkcdcchljaa

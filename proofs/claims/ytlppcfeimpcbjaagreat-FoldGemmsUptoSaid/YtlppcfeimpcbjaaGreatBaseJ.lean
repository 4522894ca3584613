/- The base, part J: what the elder chapters' texts prove, of the functions that this seat has. -/
import Derived.Test.YtlppcfeimpcbjaaGreatBaseH
set_option linter.unusedSimpArgs false
set_option linter.unusedVariables false

/- The reference's rationals: Make, Of, Is. -/
namespace Go.Proofs.YtlppcfeimpcbjaaGreat
open Go.RowKit

/-- A rational of the reference. -/
structure RR (S : Nat → Prop) (w : World) (vn vd : Value) (q : Rat) (L : Nat) : Prop where
  num : RC S w vn q.num.natAbs L
  den : RC S w vd q.den L
theorem RC.fr {S : Nat → Prop} {w w' : World} {v : Value} {N L : Nat} (h : RC S w v N L) (hf : Fr S w w') : RC S w' v N L := ⟨h.sl.fr hf, h.len⟩
theorem RC.wide {S : Nat → Prop} {w : World} {v : Value} {N L K : Nat} (h : RC S w v N L) (hl : L ≤ K) : RC S w v N K := ⟨h.sl, Nat.le_trans h.len hl⟩
theorem RC.low {S : Nat → Prop} {w : World} {v : Value} {N L : Nat} (h : RC S w v N L) : RC (fun k => k < w.heap.size) w v N L := ⟨h.sl.low Dg_pos, h.len⟩
theorem RC.out {a b : Nat} {R : Nat → Prop} {w w' : World} {v : Value} {N L : Nat} (h : RC (fun k => a ≤ k) w v N L) (hf : Fr R w w') (hr : ∀ k, a ≤ k → R k) (hb : b ≤ a) : RC (fun k => b ≤ k) w' v N L :=
  (h.fr (hf.mono fun k _ hk => hr k hk)).mono fun _ hk => Nat.le_trans hb hk
theorem RR.keep {S : Nat → Prop} {w w' : World} {vn vd : Value} {q : Rat} {L : Nat} (h : RR S w vn vd q L) (hf : Fr (fun k => k < w.heap.size) w w') : RR S w' vn vd q L := ⟨h.num.keep hf, h.den.keep hf⟩
theorem RR.mono {S T : Nat → Prop} {w : World} {vn vd : Value} {q : Rat} {L : Nat} (h : RR S w vn vd q L) (hs : ∀ k, S k → T k) : RR T w vn vd q L := ⟨h.num.mono hs, h.den.mono hs⟩
theorem RR.wide {S : Nat → Prop} {w : World} {vn vd : Value} {q : Rat} {L K : Nat} (h : RR S w vn vd q L) (hl : L ≤ K) : RR S w vn vd q K := ⟨h.num.wide hl, h.den.wide hl⟩
theorem RR.fr {S : Nat → Prop} {w w' : World} {vn vd : Value} {q : Rat} {L : Nat} (h : RR S w vn vd q L) (hf : Fr S w w') : RR S w' vn vd q L := ⟨h.num.fr hf, h.den.fr hf⟩
theorem RR.low {S : Nat → Prop} {w : World} {vn vd : Value} {q : Rat} {L : Nat} (h : RR S w vn vd q L) : RR (fun k => k < w.heap.size) w vn vd q L := ⟨h.num.low, h.den.low⟩
theorem RR.out {a b : Nat} {R : Nat → Prop} {w w' : World} {vn vd : Value} {q : Rat} {L : Nat} (h : RR (fun k => a ≤ k) w vn vd q L) (hf : Fr R w w') (hr : ∀ k, a ≤ k → R k) (hb : b ≤ a) : RR (fun k => b ≤ k) w' vn vd q L :=
  ⟨h.num.out hf hr hb, h.den.out hf hr hb⟩
theorem RR.form {S : Nat → Prop} {w : World} {vn vd : Value} {q : Rat} {L : Nat} (h : RR S w vn vd q L) : (∃ A n c, vn = .slice A n c) ∧ ∃ A n c, vd = .slice A n c := ⟨h.num.form, h.den.form⟩

theorem ref3 : (Tryz.prog.info? 58).map (·.size) = some 3 := by kernel_rfl
theorem dd_one : dg DB 1 = [1] := by
  have := dg_pos DB2 (n := 1) (by decide)
  rw [this, show 1 % DB = 1 from rfl, show 1 / DB = 0 from rfl, dg_zero]
theorem rc_one (w : World) : RC (fun k => w.heap.size ≤ k) (w.alloc (.cells #[.int .i64 1] 3)) (.slice (some ⟨w.heap.size, 0, none⟩) 1 1) 1 1 := by
  have h := Own.one (K := Dg) (e := 3) (S := fun k => w.heap.size ≤ k) w (Nat.le_refl _) (x := 1) (cs := [.int .i64 1]) rfl (fun T W => ⟨rfl, by decide⟩)
  exact ⟨by rw [dd_one]; exact h.sl, by rw [dd_one]; exact Nat.le_refl _⟩
theorem RR.zero {S : Nat → Prop} {w : World} {v : Value} {L : Nat} (h : RC S w v 1 L) : RR S w (.slice none 0 0) v 0 L := ⟨⟨by rw [show (0 : Rat).num.natAbs = 0 from rfl, dg_zero]; exact Sl.nil _ _ _, by rw [show (0 : Rat).num.natAbs = 0 from rfl, dg_zero]; exact Nat.zero_le _⟩, h⟩

theorem fr_nr (S : Nat → Prop) (w : World) : Fr S w (w.alloc (.cells #[.bool false, .slice none 0 0, .slice none 0 0] 58)) := (Fr.refl _ _).alloc _
theorem box_nr (w : World) : Box3 (w.alloc (.cells #[.bool false, .slice none 0 0, .slice none 0 0] 58)) w.heap.size 58 (.bool false) (.slice none 0 0) (.slice none 0 0) := Box3.new _ _ _ _ _

theorem rv_dead {s : Bool} {N D : Nat} (h : N = 0 ∨ D = 0) : rv s N D = 0 := by
  rcases h with rfl | rfl
  · exact rv_num0 s D
  · exact rv_den0 s N
theorem dd_eq0 (N : Nat) : (((dg DB N).length : Int) == 0) = decide (N = 0) := by
  rcases Nat.eq_zero_or_pos N with rfl | hp
  · rw [dg_zero]; rfl
  · have h1 := (dg_len_pos DB2).2 hp
    rw [decide_eq_false (by omega)]
    exact beq_eq_false_iff_ne.2 (by omega)

set_option maxHeartbeats 2000000 in
theorem rmake_r {S T : Nat → Prop} (w : World) (s : Bool) (vn vd : Value) (N D L : Nat) (hn : RC S w vn N L) (hd : RC T w vd D L) (hL1 : 1 ≤ L) (hl : L ≤ 1048576000) :
    Calls Tryz.prog 77 #[.bool s, vn, vd] w fun e w' => ∃ v1 v2, e = .returned (.agg #[.bool (sg (rv s N D)), v1, v2]) ∧ RR (fun k => w.heap.size ≤ k) w' v1 v2 (rv s N D) L ∧ Fr (fun k => k < w.heap.size) w w' := by
  have F := fr_nr (fun k => k < w.heap.size) w
  have hb := box_nr w
  have hn0 := hn.keep (fr_nr _ w)
  have hd0 := hd.keep (fr_nr _ w)
  have e1 := dd_eq0 N
  have e2 := dd_eq0 D
  obtain ⟨A1, c1, hv1, _⟩ := hn.sl.slice
  obtain ⟨A2, c2, hv2, _⟩ := hd.sl.slice
  subst hv1 hv2
  go_enter Tryz.func77, Tryz.ntmps77
  by_cases hz : N = 0 ∨ D = 0
  · rw [rv_dead hz, sg_zero]
    generalize (dg DB N).length = m at e1 ⊢
    generalize (dg DB D).length = k at e2 ⊢
    have h1 := rc_one (w.alloc (.cells #[.bool false, .slice none 0 0, .slice none 0 0] 58))
    have G := (Fr.refl (fun k => k < w.heap.size + 1) (w.alloc (.cells #[.bool false, .slice none 0 0, .slice none 0 0] 58))).alloc (.cells #[.int .i64 1] 3)
    have B1 := hb.alloc (.cells #[.int .i64 1] 3)
    simp only [World.size_alloc] at h1
    rcases Nat.eq_zero_or_pos N with hN | hN
    · rw [decide_eq_true hN] at e1
      clear e2 hn0 hd0 hn hd hz
      go_wp2_with ((with_reducible apply wpList_st3); rfl; rfl; exact B1; exact ref3; rfl; rfl; rfl; intro w9 B9 F9)
      refine bodyPost_ret (results_cell3 rfl rfl B9 Tryz.underlying58 ref3) rfl ?_
      exact ⟨_, _, rfl, RR.zero ((h1.out F9 (fun k hk => by omega) (by omega)).wide hL1), (F.alloc _).comp F9 fun k hk h => ⟨h, by omega⟩⟩
    · have hD : D = 0 := by omega
      rw [decide_eq_false (by omega)] at e1
      rw [decide_eq_true hD] at e2
      clear hn0 hd0 hn hd hz
      go_wp2_with ((with_reducible apply wpList_st3); rfl; rfl; exact B1; exact ref3; rfl; rfl; rfl; intro w9 B9 F9)
      refine bodyPost_ret (results_cell3 rfl rfl B9 Tryz.underlying58 ref3) rfl ?_
      exact ⟨_, _, rfl, RR.zero ((h1.out F9 (fun k hk => by omega) (by omega)).wide hL1), (F.alloc _).comp F9 fun k hk h => ⟨h, by omega⟩⟩
  · have hN : 0 < N := by omega
    have hD : 0 < D := by omega
    rw [decide_eq_false (by omega)] at e1 e2
    have hgp : 0 < Nat.gcd N D := Nat.gcd_pos_of_pos_left _ hN
    rw [rv_sg hD hN]
    go_wp2_with fail
    refine (gcd_r _ _ _ _ _ _ hn0 hd0 hl).mono ?_
    rintro e w1 ⟨v1, rfl, h1, hf⟩
    replace F := fr_then F hf
    replace hb := hb.keep hf
    replace hn0 := hn0.keep hf
    replace hd0 := hd0.keep hf
    have s1 := hf.size
    simp only [World.size_alloc] at s1
    clear hn hd hf
    go_wp2_with fail
    refine (dm_r _ _ _ _ _ _ _ hn0 h1 hl hl hgp).mono ?_
    rintro e w2 ⟨v2, v3, rfl, h2, _, hf⟩
    replace F := fr_then F hf
    replace hb := hb.keep hf
    replace hd0 := hd0.keep hf
    replace h1 := h1.keep hf
    have s2 := hf.size
    clear hn0 hf
    go_wp2_with fail
    refine (dm_r _ _ _ _ _ _ _ hd0 h1 hl hl hgp).mono ?_
    rintro e w3 ⟨v4, v5, rfl, h3, _, hf⟩
    replace F := fr_then F hf
    replace hb := hb.keep hf
    replace h2 := h2.keep hf
    have s3 := hf.size
    obtain ⟨B1, m1, k1, rfl⟩ := h2.form
    obtain ⟨B2, m2, k2, rfl⟩ := h3.form
    clear hd0 hf h1
    go_wp2_with ((with_reducible apply wpList_st3); rfl; rfl; exact hb; exact ref3; rfl; rfl; rfl; intro w9 B9 F9)
    refine bodyPost_ret (results_cell3 rfl rfl B9 Tryz.underlying58 ref3) rfl ?_
    refine ⟨_, _, rfl, ⟨?_, ?_⟩, F.comp F9 fun k hk h => ⟨h, by omega⟩⟩
    · rw [rv_num hD]; exact h2.out F9 (fun k hk => by omega) (by omega)
    · rw [rv_den hD]; exact h3.out F9 (fun k hk => by omega) (by omega)
theorem rmake_q {S T : Nat → Prop} (w : World) (s : Bool) (vn vd : Value) (N D L : Nat) (q : Rat) (hq : Hid (rv s N D = q)) (hn : RC S w vn N L) (hd : RC T w vd D L) (hL1 : 1 ≤ L) (hl : L ≤ 1048576000) :
    Calls Tryz.prog 77 #[.bool s, vn, vd] w fun e w' => ∃ v1 v2, e = .returned (.agg #[.bool (sg q), v1, v2]) ∧ RR (fun k => w.heap.size ≤ k) w' v1 v2 q L ∧ Fr (fun k => k < w.heap.size) w w' := by
  have := rmake_r w s vn vd N D L hn hd hL1 hl
  rwa [hq.out] at this

set_option maxHeartbeats 2000000 in
theorem rof_r {S : Nat → Prop} (w : World) (s : Bool) (vn vd : Value) (q : Rat) (N D L : Nat) (h : RI S w s vn vd q N D L) (hL1 : 1 ≤ L) (hl : L ≤ 104857600) :
    Calls Tryz.prog 32 #[.agg #[.bool s, vn, vd]] w fun e w' => ∃ v1 v2, e = .returned (.agg #[.bool (sg q), v1, v2]) ∧ RR (fun k => w.heap.size ≤ k) w' v1 v2 q (3 * L) ∧ Fr (fun k => k < w.heap.size) w w' := by
  obtain ⟨⟨A1, n1, c1, rfl⟩, ⟨A2, n2, c2, rfl⟩⟩ := h.form
  have F := ((Fr.refl (fun k => k < w.heap.size) w).alloc (.cells #[.bool s, .slice A1 n1 c1, .slice A2 n2 c2] 54)).alloc (.cells #[.bool false, .slice none 0 0, .slice none 0 0] 58)
  have hb := box_nr (w.alloc (.cells #[.bool s, .slice A1 n1 c1, .slice A2 n2 c2] 54))
  have hx := (Box3.new w 54 (.bool s) (.slice A1 n1 c1) (.slice A2 n2 c2)).alloc (.cells #[.bool false, .slice none 0 0, .slice none 0 0] 58)
  have h0 := h.keep F
  have hv := h.val
  simp only [World.size_alloc] at hb
  generalize hW0 : (w.alloc (.cells #[.bool s, .slice A1 n1 c1, .slice A2 n2 c2] 54)).alloc (.cells #[.bool false, .slice none 0 0, .slice none 0 0] 58) = W0 at F hb hx h0
  have dr : ∀ R, Fr R W0 W0.drew := fun R => (Fr.refl R W0).drew
  replace h0 := h0.keep (dr _)
  replace hb := hb.keep (dr _)
  replace hx := hx.keep (dr _)
  replace F := F.drew
  have S0 : W0.drew.cell? ⟨w.heap.size, 0, none⟩ = some (.bool s) ∧ W0.drew.cell? ⟨w.heap.size, 1, none⟩ = some (.slice A1 n1 c1) ∧ W0.drew.cell? ⟨w.heap.size, 2, none⟩ = some (.slice A2 n2 c2) := ⟨hx.c0, hx.c1, hx.c2⟩
  have hL3 : 1 ≤ 3 * L := by omega
  have hl3 : 3 * L ≤ 1048576000 := by omega
  have HV := Lib.hid hv
  clear h dr hv
  go_enter Tryz.func32, Tryz.ntmps32
  go_wp2_with fail
  clear hW0
  go_region_held3 (fun u => u.cell? ⟨w.heap.size, 0, none⟩ = some (.bool s) ∧ u.cell? ⟨w.heap.size, 1, none⟩ = some (.slice A1 n1 c1) ∧ u.cell? ⟨w.heap.size, 2, none⟩ = some (.slice A2 n2 c2)) (first | exact S0 | exact S1 | exact S2 | exact S3 | exact S4) (first
    | ((with_reducible refine (of_r _ (.slice A1 n1 c1) N L h0.num (by omega)).mono ?_); rintro e w1 ⟨v1, rfl, h1, hf1⟩; obtain ⟨B1, m1, k1, rfl⟩ := h1.form; have hx1 := hx.keep hf1; have S1 : w1.cell? ⟨w.heap.size, 0, none⟩ = some (.bool s) ∧ w1.cell? ⟨w.heap.size, 1, none⟩ = some (.slice A1 n1 c1) ∧ w1.cell? ⟨w.heap.size, 2, none⟩ = some (.slice A2 n2 c2) := ⟨hx1.c0, hx1.c1, hx1.c2⟩)
    | ((with_reducible refine (of_r _ (.slice A2 n2 c2) D L (h0.den.keep hf1) (by omega)).mono ?_); rintro e w2 ⟨v1, rfl, h2, hf2⟩; obtain ⟨B2, m2, k2, rfl⟩ := h2.form; have hx2 := hx1.keep hf2; have S2 : w2.cell? ⟨w.heap.size, 0, none⟩ = some (.bool s) ∧ w2.cell? ⟨w.heap.size, 1, none⟩ = some (.slice A1 n1 c1) ∧ w2.cell? ⟨w.heap.size, 2, none⟩ = some (.slice A2 n2 c2) := ⟨hx2.c0, hx2.c1, hx2.c2⟩)
    | ((with_reducible refine (rmake_q _ s (.slice B1 m1 k1) (.slice B2 m2 k2) N D (3 * L) q HV (h1.keep hf2) h2 hL3 hl3).mono ?_); rintro e w3 ⟨v1, v2, rfl, h3, hf3⟩; obtain ⟨⟨C1, i1, j1, rfl⟩, ⟨C2, i2, j2, rfl⟩⟩ := h3.form; have hx3 := hx2.keep hf3; have hb3 := ((hb.keep hf1).keep hf2).keep hf3; have S3 : w3.cell? ⟨w.heap.size, 0, none⟩ = some (.bool s) ∧ w3.cell? ⟨w.heap.size, 1, none⟩ = some (.slice A1 n1 c1) ∧ w3.cell? ⟨w.heap.size, 2, none⟩ = some (.slice A2 n2 c2) := ⟨hx3.c0, hx3.c1, hx3.c2⟩; have F4 := fr_set3 w3 (w.heap.size + 1) (.bool (sg q)) (.slice C1 i1 j1) (.slice C2 i2 j2); have hx4 := hx3.fr F4 (by omega); have S4 := And.intro hx4.c0 (And.intro hx4.c1 hx4.c2); have d0 := hb3.c0; have d1 := hb3.c1; have d2 := hb3.c2; have f0 := hb3.free 0; have f1 := hb3.free 1; have f2 := hb3.free 2))
  have B4 := hb3.set3 (.bool (sg q)) (.slice C1 i1 j1) (.slice C2 i2 j2)
  have s0 := hb.lt
  have s1 := hf1.size
  have s2 := hf2.size
  have F3 := fr_then (fr_then (fr_then F hf1) hf2) hf3
  go_wp2_with fail
  refine bodyPost_ret (results_cell3 rfl rfl B4 Tryz.underlying58 ref3) rfl ?_
  exact ⟨_, _, rfl, h3.out F4 (fun k hk => by omega) (by omega), F3.comp F4 fun k hk h => ⟨h, by omega⟩⟩
end Go.Proofs.YtlppcfeimpcbjaaGreat


/- The reference's rationals: size, Int, Frac, Zero, Neg, Sign, Bits. -/
namespace Go.Proofs.YtlppcfeimpcbjaaGreat
open Go.RowKit

theorem rsize_r (w : World) (z : Int) (h0 : -9223372036854775808 ≤ z) (h1 : z ≤ 9223372036854775807) :
    Calls Tryz.prog 76 #[.int .i64 z] w fun e w' => ∃ v, e = .returned v ∧ RC (fun k => w.heap.size ≤ k) w' v z.natAbs 6 ∧ Fr (fun k => k < w.heap.size) w w' := by
  have hD : ∀ n : Nat, n < 9223372036854775808 → n < DB ^ 5 := fun n h => Nat.lt_of_lt_of_le h (by decide)
  go_enter Tryz.func76, Tryz.ntmps76
  by_cases hz : z < 0
  · have w1 : IntKind.i64.wrap (z + 1) = z + 1 := by rw [IntKind.wrap_i64]; omega
    have w2 : IntKind.i64.wrap (-(z + 1)) = -(z + 1) := by rw [IntKind.wrap_i64]; omega
    obtain ⟨n, hn⟩ := Int.eq_ofNat_of_zero_le (show 0 ≤ -(z + 1) by omega)
    rw [hn] at w2
    have p1 := hD n (by omega)
    have HN := Lib.hid hn
    have w2' : IntKind.i64.wrap (-(z + 1)) = (n : Int) := by rw [hn]; exact w2
    clear hD hn w2
    go_wp2_with fail
    refine (small_r _ n 5 (by have := HN.out; omega) p1).mono ?_
    rintro e w3 ⟨v1, rfl, h2, hf⟩
    have G := (Fr.refl (fun k => k < w3.heap.size) w3).alloc (.cells #[.int .i64 1] 3)
    have h3 := rc_one w3
    go_wp2_with fail
    refine (add_r _ _ _ _ _ _ _ (h2.keep G) h3 (by omega) (by omega)).mono ?_
    rintro e w4 ⟨v2, rfl, h4, hf2⟩
    have s1 := hf.size
    have s2 := G.size
    go_wp2_with fail
    go_ret
    have e1 : n + 1 = z.natAbs := by have := HN.out; omega
    rw [e1] at h4
    exact ⟨v2, rfl, h4.mono fun k hk => by omega, fr_then (fr_then hf G) hf2⟩
  · obtain ⟨n, rfl⟩ := Int.eq_ofNat_of_zero_le (show 0 ≤ z by omega)
    have p1 := hD n (by omega)
    clear hD
    go_wp2_with fail
    refine (small_r _ n 5 (by omega) p1).mono ?_
    rintro e w3 ⟨v1, rfl, h2, hf⟩
    go_wp2_with fail
    go_ret
    exact ⟨v1, rfl, by rw [Int.natAbs_natCast]; exact h2.wide (by omega), hf⟩

set_option maxHeartbeats 1000000 in
theorem rint_r (w : World) (z : Int) (h0 : -9223372036854775808 ≤ z) (h1 : z ≤ 9223372036854775807) :
    Calls Tryz.prog 29 #[.int .i64 z] w fun e w' => ∃ v1 v2, e = .returned (.agg #[.bool (sg (z : Rat)), v1, v2]) ∧ RR (fun k => w.heap.size ≤ k) w' v1 v2 (z : Rat) 6 ∧ Fr (fun k => k < w.heap.size) w w' := by
  have F := fr_nr (fun k => k < w.heap.size) w
  have hb := box_nr w
  have HS := Lib.hid (show decide (z < 0) = sg (z : Rat) from rfl)
  go_enter Tryz.func29, Tryz.ntmps29
  go_wp2_with fail
  refine (rsize_r _ z h0 h1).mono ?_
  rintro e w1 ⟨v1, rfl, h2, hf⟩
  obtain ⟨A1, n1, c1, rfl⟩ := h2.form
  have s1 := hf.size
  simp only [World.size_alloc] at h2 s1
  have h3 := rc_one w1
  have G := (Fr.refl (fun k => k < w1.heap.size) w1).alloc (.cells #[.int .i64 1] 3)
  replace h2 := h2.keep G
  replace hb := (hb.keep hf).keep G
  replace F := fr_then (fr_then F hf) G
  clear hf G
  go_wp2_with ((with_reducible apply wpList_st3); rfl; rfl; exact hb; exact ref3; rfl; rfl; rfl; intro w9 B9 F9)
  refine bodyPost_ret (results_cell3 rfl rfl B9 Tryz.underlying58 ref3) rfl ?_
  exact ⟨_, _, by rw [HS.out], ⟨h2.out F9 (fun k hk => by omega) (by omega), (h3.wide (by omega)).out F9 (fun k hk => by omega) (by omega)⟩, F.comp F9 fun k hk h => ⟨h, by omega⟩⟩

theorem rv_frac (p q : Int) : rv (decide (p < 0) != decide (q < 0)) p.natAbs q.natAbs = mkRat (if q < 0 then -p else p) q.natAbs := by
  unfold rv sgn
  congr 1
  by_cases h1 : p < 0 <;> by_cases h2 : q < 0 <;> simp [h1, h2] <;> omega
/-- one number of Go's by another one -/
def fr (p q : Int) : Rat := rv (decide (p < 0) != decide (q < 0)) p.natAbs q.natAbs

set_option maxHeartbeats 1000000 in
theorem rfrac_r (w : World) (p q : Int) (h0 : -9223372036854775808 ≤ p) (h1 : p ≤ 9223372036854775807) (h2 : -9223372036854775808 ≤ q) (h3 : q ≤ 9223372036854775807) :
    Calls Tryz.prog 59 #[.int .i64 p, .int .i64 q] w fun e w' => ∃ v1 v2, e = .returned (.agg #[.bool (sg (fr p q)), v1, v2]) ∧ RR (fun k => w.heap.size ≤ k) w' v1 v2 (fr p q) 6 ∧ Fr (fun k => k < w.heap.size) w w' := by
  have F := fr_nr (fun k => k < w.heap.size) w
  have hb := box_nr w
  obtain ⟨x, hx⟩ : ∃ x, x = (decide (p < 0) != decide (q < 0)) := ⟨_, rfl⟩
  have HQ := Lib.hid (show rv x p.natAbs q.natAbs = fr p q by rw [hx]; rfl)
  have HX := Lib.hid hx.symm
  clear hx
  go_enter Tryz.func59, Tryz.ntmps59
  go_wp2_with fail
  refine (rsize_r _ p h0 h1).mono ?_
  rintro e w1 ⟨v1, rfl, k1, hf⟩
  have s1 := hf.size
  simp only [World.size_alloc] at s1
  replace hb := hb.keep hf
  replace F := fr_then F hf
  clear hf
  go_wp2_with fail
  refine (rsize_r _ q h2 h3).mono ?_
  rintro e w2 ⟨v2, rfl, k2, hf⟩
  have s2 := hf.size
  replace hb := hb.keep hf
  replace k1 := k1.keep hf
  replace F := fr_then F hf
  clear hf
  go_wp2_with fail
  have p1 := rmake_q w2 x v1 v2 _ _ 6 (fr p q) HQ k1 k2 (by decide) (by decide)
  rw [← HX.out] at p1
  have hn : (decide (p < 0) != decide (q < 0)) = (!(decide (p < 0) == decide (q < 0))) := rfl
  first
    | refine p1.mono ?_
    | (rw [hn] at p1; refine p1.mono ?_)
    | (simp at p1; refine p1.mono ?_)
  rintro e w3 ⟨v3, v4, rfl, k3, hf⟩
  obtain ⟨⟨C1, i1, j1, rfl⟩, ⟨C2, i2, j2, rfl⟩⟩ := k3.form
  have s3 := hf.size
  replace hb := hb.keep hf
  replace F := fr_then F hf
  clear hf p1 k1 k2
  go_wp2_with ((with_reducible apply wpList_st3); rfl; rfl; exact hb; exact ref3; rfl; rfl; rfl; intro w9 B9 F9)
  refine bodyPost_ret (results_cell3 rfl rfl B9 Tryz.underlying58 ref3) rfl ?_
  exact ⟨_, _, rfl, k3.out F9 (fun k hk => by omega) (by omega), F.comp F9 fun k hk h => ⟨h, by omega⟩⟩

end Go.Proofs.YtlppcfeimpcbjaaGreat


/- The reference's rationals: Mul, Add, Sub, Div, Cmp, Bits. -/
namespace Go.Proofs.YtlppcfeimpcbjaaGreat
open Go.RowKit

set_option maxHeartbeats 4000000 in
theorem rmul_q {S T : Nat → Prop} (w : World) (s t : Bool) (vn vd un ud : Value) (x y : Rat) (L : Nat) (hx : RR S w vn vd x L) (hy : RR T w un ud y L) (hs : s = sg x) (ht : t = sg y) (hL1 : 1 ≤ L) (hl : L ≤ 104857600) :
    Calls Tryz.prog 58 #[.agg #[.bool s, vn, vd], .agg #[.bool t, un, ud]] w fun e w' => ∃ v1 v2, e = .returned (.agg #[.bool (sg (x * y)), v1, v2]) ∧ RR (fun k => w.heap.size ≤ k) w' v1 v2 (x * y) (2 * L) ∧ Fr (fun k => k < w.heap.size) w w' := by
  subst hs ht
  obtain ⟨⟨A1, n1, c1, rfl⟩, ⟨A2, n2, c2, rfl⟩⟩ := hx.form
  obtain ⟨⟨A3, n3, c3, rfl⟩, ⟨A4, n4, c4, rfl⟩⟩ := hy.form
  have F := (((Fr.refl (fun k => k < w.heap.size) w).alloc (.cells #[.bool (sg x), .slice A1 n1 c1, .slice A2 n2 c2] 58)).alloc (.cells #[.bool (sg y), .slice A3 n3 c3, .slice A4 n4 c4] 58)).alloc (.cells #[.bool false, .slice none 0 0, .slice none 0 0] 58)
  have x1 := ((Box3.new w 58 (.bool (sg x)) (.slice A1 n1 c1) (.slice A2 n2 c2)).alloc (.cells #[.bool (sg y), .slice A3 n3 c3, .slice A4 n4 c4] 58)).alloc (.cells #[.bool false, .slice none 0 0, .slice none 0 0] 58)
  have x2 := (Box3.new (w.alloc (.cells #[.bool (sg x), .slice A1 n1 c1, .slice A2 n2 c2] 58)) 58 (.bool (sg y)) (.slice A3 n3 c3) (.slice A4 n4 c4)).alloc (.cells #[.bool false, .slice none 0 0, .slice none 0 0] 58)
  have hb := box_nr ((w.alloc (.cells #[.bool (sg x), .slice A1 n1 c1, .slice A2 n2 c2] 58)).alloc (.cells #[.bool (sg y), .slice A3 n3 c3, .slice A4 n4 c4] 58))
  simp only [World.size_alloc] at x2 hb
  have hx0 := hx.keep F
  have hy0 := hy.keep F
  have hxl := hx.low.fr F
  have hyl := hy.low.fr F
  have W0s : w.heap.size + 1 + 1 + 1 ≤ (((w.alloc (.cells #[.bool (sg x), .slice A1 n1 c1, .slice A2 n2 c2] 58)).alloc (.cells #[.bool (sg y), .slice A3 n3 c3, .slice A4 n4 c4] 58)).alloc (.cells #[.bool false, .slice none 0 0, .slice none 0 0] 58)).heap.size := by simp
  generalize hW0 : ((w.alloc (.cells #[.bool (sg x), .slice A1 n1 c1, .slice A2 n2 c2] 58)).alloc (.cells #[.bool (sg y), .slice A3 n3 c3, .slice A4 n4 c4] 58)).alloc (.cells #[.bool false, .slice none 0 0, .slice none 0 0] 58) = W0 at F x1 x2 hb hx0 hy0 hxl hyl W0s
  clear hx hy
  have dr : ∀ R, Fr R W0 W0.drew := fun R => (Fr.refl R W0).drew
  replace hx0 := hx0.keep (dr _)
  replace hy0 := hy0.keep (dr _)
  replace x1 := x1.keep (dr _)
  replace x2 := x2.keep (dr _)
  replace hb := hb.keep (dr _)
  replace F := F.drew
  have S0 : W0.drew.cell? ⟨w.heap.size, 0, none⟩ = some (.bool (sg x)) ∧ W0.drew.cell? ⟨w.heap.size, 1, none⟩ = some (.slice A1 n1 c1) ∧ W0.drew.cell? ⟨w.heap.size, 2, none⟩ = some (.slice A2 n2 c2) ∧ W0.drew.cell? ⟨w.heap.size + 1, 0, none⟩ = some (.bool (sg y)) ∧ W0.drew.cell? ⟨w.heap.size + 1, 1, none⟩ = some (.slice A3 n3 c3) ∧ W0.drew.cell? ⟨w.heap.size + 1, 2, none⟩ = some (.slice A4 n4 c4) := ⟨x1.c0, x1.c1, x1.c2, x2.c0, x2.c1, x2.c2⟩
  have W0d : W0.drew.heap.size = W0.heap.size := rfl
  have HQ := Lib.hid (show rv (sg x != sg y) (x.num.natAbs * y.num.natAbs) (x.den * y.den) = x * y by rw [rv_mul, rv_self, rv_self])
  have hL2 : 1 ≤ L + L := by omega
  have hl2 : L + L ≤ 1048576000 := by omega
  obtain ⟨b, hbb⟩ : ∃ b, b = (sg x != sg y) := ⟨_, rfl⟩
  rw [← hbb] at HQ
  have hbb2 : (!(sg x == sg y)) = b := hbb.symm
  have hbb3 : (sg x != sg y) = b := hbb.symm
  clear hbb dr hxl hyl
  go_enter Tryz.func58, Tryz.ntmps58
  go_wp2_with fail
  clear hW0
  go_region_held3 (fun u => u.cell? ⟨w.heap.size, 0, none⟩ = some (.bool (sg x)) ∧ u.cell? ⟨w.heap.size, 1, none⟩ = some (.slice A1 n1 c1) ∧ u.cell? ⟨w.heap.size, 2, none⟩ = some (.slice A2 n2 c2) ∧ u.cell? ⟨w.heap.size + 1, 0, none⟩ = some (.bool (sg y)) ∧ u.cell? ⟨w.heap.size + 1, 1, none⟩ = some (.slice A3 n3 c3) ∧ u.cell? ⟨w.heap.size + 1, 2, none⟩ = some (.slice A4 n4 c4)) (first | exact S0 | exact S1 | exact S2 | exact S3 | exact S4) (first
    | ((with_reducible refine (mul_r _ (.slice A1 n1 c1) (.slice A3 n3 c3) _ _ L L hx0.num hy0.num (by omega)).mono ?_); rintro e w1 ⟨v1, rfl, h1, hf1⟩; obtain ⟨B1, m1, k1, rfl⟩ := h1.form; have y1 := x1.keep hf1; have y2 := x2.keep hf1; have S1 : w1.cell? ⟨w.heap.size, 0, none⟩ = some (.bool (sg x)) ∧ w1.cell? ⟨w.heap.size, 1, none⟩ = some (.slice A1 n1 c1) ∧ w1.cell? ⟨w.heap.size, 2, none⟩ = some (.slice A2 n2 c2) ∧ w1.cell? ⟨w.heap.size + 1, 0, none⟩ = some (.bool (sg y)) ∧ w1.cell? ⟨w.heap.size + 1, 1, none⟩ = some (.slice A3 n3 c3) ∧ w1.cell? ⟨w.heap.size + 1, 2, none⟩ = some (.slice A4 n4 c4) := ⟨y1.c0, y1.c1, y1.c2, y2.c0, y2.c1, y2.c2⟩)
    | ((with_reducible refine (mul_r _ (.slice A2 n2 c2) (.slice A4 n4 c4) _ _ L L (hx0.den.keep hf1) (hy0.den.keep hf1) (by omega)).mono ?_); rintro e w2 ⟨v1, rfl, h2, hf2⟩; obtain ⟨B2, m2, k2, rfl⟩ := h2.form; have z1 := y1.keep hf2; have z2 := y2.keep hf2; have S2 : w2.cell? ⟨w.heap.size, 0, none⟩ = some (.bool (sg x)) ∧ w2.cell? ⟨w.heap.size, 1, none⟩ = some (.slice A1 n1 c1) ∧ w2.cell? ⟨w.heap.size, 2, none⟩ = some (.slice A2 n2 c2) ∧ w2.cell? ⟨w.heap.size + 1, 0, none⟩ = some (.bool (sg y)) ∧ w2.cell? ⟨w.heap.size + 1, 1, none⟩ = some (.slice A3 n3 c3) ∧ w2.cell? ⟨w.heap.size + 1, 2, none⟩ = some (.slice A4 n4 c4) := ⟨z1.c0, z1.c1, z1.c2, z2.c0, z2.c1, z2.c2⟩)
    | ((with_reducible refine (rmake_q _ b (.slice B1 m1 k1) (.slice B2 m2 k2) _ _ (L + L) (x * y) HQ (h1.keep hf2) h2 hL2 hl2).mono ?_); rintro e w3 ⟨v1, v2, rfl, h3, hf3⟩; obtain ⟨⟨C1, i1, j1, rfl⟩, ⟨C2, i2, j2, rfl⟩⟩ := h3.form; have u1 := z1.keep hf3; have u2 := z2.keep hf3; have S3 : w3.cell? ⟨w.heap.size, 0, none⟩ = some (.bool (sg x)) ∧ w3.cell? ⟨w.heap.size, 1, none⟩ = some (.slice A1 n1 c1) ∧ w3.cell? ⟨w.heap.size, 2, none⟩ = some (.slice A2 n2 c2) ∧ w3.cell? ⟨w.heap.size + 1, 0, none⟩ = some (.bool (sg y)) ∧ w3.cell? ⟨w.heap.size + 1, 1, none⟩ = some (.slice A3 n3 c3) ∧ w3.cell? ⟨w.heap.size + 1, 2, none⟩ = some (.slice A4 n4 c4) := ⟨u1.c0, u1.c1, u1.c2, u2.c0, u2.c1, u2.c2⟩; have hb3 := ((hb.keep hf1).keep hf2).keep hf3; have F4 := fr_set3 w3 (w.heap.size + 1 + 1) (.bool (sg (x * y))) (.slice C1 i1 j1) (.slice C2 i2 j2); have q1 := u1.fr F4 (by omega); have q2 := u2.fr F4 (by omega); have S4 := And.intro q1.c0 (And.intro q1.c1 (And.intro q1.c2 (And.intro q2.c0 (And.intro q2.c1 q2.c2)))); have d0 := hb3.c0; have d1 := hb3.c1; have d2 := hb3.c2; have f0 := hb3.free 0; have f1 := hb3.free 1; have f2 := hb3.free 2))
  have B4 := hb3.set3 (.bool (sg (x * y))) (.slice C1 i1 j1) (.slice C2 i2 j2)
  have s1 := hf1.size
  have s2 := hf2.size
  have F3 := fr_then (fr_then (fr_then F hf1) hf2) hf3
  go_wp2_with fail
  refine bodyPost_ret (results_cell3 rfl rfl B4 Tryz.underlying58 ref3) rfl ?_
  exact ⟨_, _, rfl, (h3.out F4 (fun k hk => by omega) (by omega)).wide (by omega), F3.comp F4 fun k hk h => ⟨h, by omega⟩⟩

end Go.Proofs.YtlppcfeimpcbjaaGreat


/- The reference's rationals: Add, Sub, Div, Cmp. -/
namespace Go.Proofs.YtlppcfeimpcbjaaGreat
open Go.RowKit

set_option maxHeartbeats 4000000 in
theorem radd_q {S T : Nat → Prop} (w : World) (s t : Bool) (vn vd un ud : Value) (x y : Rat) (L : Nat) (hx : RR S w vn vd x L) (hy : RR T w un ud y L) (hs : s = sg x) (ht : t = sg y) (hL1 : 1 ≤ L) (hl : L ≤ 104857600) :
    Calls Tryz.prog 34 #[.agg #[.bool s, vn, vd], .agg #[.bool t, un, ud]] w fun e w' => ∃ v1 v2, e = .returned (.agg #[.bool (sg (x + y)), v1, v2]) ∧ RR (fun k => w.heap.size ≤ k) w' v1 v2 (x + y) (4 * L) ∧ Fr (fun k => k < w.heap.size) w w' := by
  subst hs ht
  obtain ⟨⟨A1, n1, c1, rfl⟩, ⟨A2, n2, c2, rfl⟩⟩ := hx.form
  obtain ⟨⟨A3, n3, c3, rfl⟩, ⟨A4, n4, c4, rfl⟩⟩ := hy.form
  have F := (((Fr.refl (fun k => k < w.heap.size) w).alloc (.cells #[.bool (sg x), .slice A1 n1 c1, .slice A2 n2 c2] 58)).alloc (.cells #[.bool (sg y), .slice A3 n3 c3, .slice A4 n4 c4] 58)).alloc (.cells #[.bool false, .slice none 0 0, .slice none 0 0] 58)
  have x1 := ((Box3.new w 58 (.bool (sg x)) (.slice A1 n1 c1) (.slice A2 n2 c2)).alloc (.cells #[.bool (sg y), .slice A3 n3 c3, .slice A4 n4 c4] 58)).alloc (.cells #[.bool false, .slice none 0 0, .slice none 0 0] 58)
  have x2 := (Box3.new (w.alloc (.cells #[.bool (sg x), .slice A1 n1 c1, .slice A2 n2 c2] 58)) 58 (.bool (sg y)) (.slice A3 n3 c3) (.slice A4 n4 c4)).alloc (.cells #[.bool false, .slice none 0 0, .slice none 0 0] 58)
  have hb := box_nr ((w.alloc (.cells #[.bool (sg x), .slice A1 n1 c1, .slice A2 n2 c2] 58)).alloc (.cells #[.bool (sg y), .slice A3 n3 c3, .slice A4 n4 c4] 58))
  simp only [World.size_alloc] at x2 hb
  have hx0 := hx.keep F
  have hy0 := hy.keep F
  have hxl := hx.low.fr F
  have hyl := hy.low.fr F
  generalize hW0 : ((w.alloc (.cells #[.bool (sg x), .slice A1 n1 c1, .slice A2 n2 c2] 58)).alloc (.cells #[.bool (sg y), .slice A3 n3 c3, .slice A4 n4 c4] 58)).alloc (.cells #[.bool false, .slice none 0 0, .slice none 0 0] 58) = W0 at F x1 x2 hb hx0 hy0 hxl hyl
  clear hx hy
  have dr : ∀ R, Fr R W0 W0.drew := fun R => (Fr.refl R W0).drew
  replace hx0 := hx0.keep (dr _)
  replace hy0 := hy0.keep (dr _)
  replace hxl := hxl.fr (dr _)
  replace hyl := hyl.fr (dr _)
  replace x1 := x1.keep (dr _)
  replace x2 := x2.keep (dr _)
  replace hb := hb.keep (dr _)
  replace F := F.drew
  have S0 : W0.drew.cell? ⟨w.heap.size, 0, none⟩ = some (.bool (sg x)) ∧ W0.drew.cell? ⟨w.heap.size, 1, none⟩ = some (.slice A1 n1 c1) ∧ W0.drew.cell? ⟨w.heap.size, 2, none⟩ = some (.slice A2 n2 c2) ∧ W0.drew.cell? ⟨w.heap.size + 1, 0, none⟩ = some (.bool (sg y)) ∧ W0.drew.cell? ⟨w.heap.size + 1, 1, none⟩ = some (.slice A3 n3 c3) ∧ W0.drew.cell? ⟨w.heap.size + 1, 2, none⟩ = some (.slice A4 n4 c4) := ⟨x1.c0, x1.c1, x1.c2, x2.c0, x2.c1, x2.c2⟩
  have hL3 : 1 ≤ 3 * L := by omega
  have hl3 : 3 * L ≤ 1048576000 := by omega
  have s0 := hb.lt
  clear dr hxl hyl
  go_enter Tryz.func34, Tryz.ntmps34
  go_wp2_with fail
  clear hW0
  go_region_held3 (fun u => u.cell? ⟨w.heap.size, 0, none⟩ = some (.bool (sg x)) ∧ u.cell? ⟨w.heap.size, 1, none⟩ = some (.slice A1 n1 c1) ∧ u.cell? ⟨w.heap.size, 2, none⟩ = some (.slice A2 n2 c2) ∧ u.cell? ⟨w.heap.size + 1, 0, none⟩ = some (.bool (sg y)) ∧ u.cell? ⟨w.heap.size + 1, 1, none⟩ = some (.slice A3 n3 c3) ∧ u.cell? ⟨w.heap.size + 1, 2, none⟩ = some (.slice A4 n4 c4)) (first | exact S0 | exact S1 | exact S2) (first
    | ((with_reducible refine (mul_r _ (.slice A1 n1 c1) (.slice A4 n4 c4) _ _ L L hx0.num hy0.den (by omega)).mono ?_); rintro e w1 ⟨v1, rfl, h1, hf1⟩; obtain ⟨B1, m1, k1, rfl⟩ := h1.form; have y1 := x1.keep hf1; have y2 := x2.keep hf1; have S1 : w1.cell? ⟨w.heap.size, 0, none⟩ = some (.bool (sg x)) ∧ w1.cell? ⟨w.heap.size, 1, none⟩ = some (.slice A1 n1 c1) ∧ w1.cell? ⟨w.heap.size, 2, none⟩ = some (.slice A2 n2 c2) ∧ w1.cell? ⟨w.heap.size + 1, 0, none⟩ = some (.bool (sg y)) ∧ w1.cell? ⟨w.heap.size + 1, 1, none⟩ = some (.slice A3 n3 c3) ∧ w1.cell? ⟨w.heap.size + 1, 2, none⟩ = some (.slice A4 n4 c4) := ⟨y1.c0, y1.c1, y1.c2, y2.c0, y2.c1, y2.c2⟩)
    | ((with_reducible refine (mul_r _ (.slice A3 n3 c3) (.slice A2 n2 c2) _ _ L L (hy0.num.keep hf1) (hx0.den.keep hf1) (by omega)).mono ?_); rintro e w2 ⟨v1, rfl, h2, hf2⟩; obtain ⟨B2, m2, k2, rfl⟩ := h2.form; have z1 := y1.keep hf2; have z2 := y2.keep hf2; have S2 : w2.cell? ⟨w.heap.size, 0, none⟩ = some (.bool (sg x)) ∧ w2.cell? ⟨w.heap.size, 1, none⟩ = some (.slice A1 n1 c1) ∧ w2.cell? ⟨w.heap.size, 2, none⟩ = some (.slice A2 n2 c2) ∧ w2.cell? ⟨w.heap.size + 1, 0, none⟩ = some (.bool (sg y)) ∧ w2.cell? ⟨w.heap.size + 1, 1, none⟩ = some (.slice A3 n3 c3) ∧ w2.cell? ⟨w.heap.size + 1, 2, none⟩ = some (.slice A4 n4 c4) := ⟨z1.c0, z1.c1, z1.c2, z2.c0, z2.c1, z2.c2⟩))
  have s1 := hf1.size
  have s2 := hf2.size
  have F2 := fr_then (fr_then F hf1) hf2
  replace hb := (hb.keep hf1).keep hf2
  replace hx0 := (hx0.keep hf1).keep hf2
  replace hy0 := (hy0.keep hf1).keep hf2
  have ha := h1.keep hf2
  have a2 := z1.c2
  have b2 := z2.c2
  clear S0 S1 S2 F hf1 hf2 h1 x1 x2 y1 y2
  go_wp2_with fail
  refine (mul_r _ _ _ _ _ L L hx0.den hy0.den (by omega)).mono ?_
  rintro e w3 ⟨v3, rfl, hd, hf⟩
  obtain ⟨B3, m3, k3, rfl⟩ := hd.form
  replace F2 := fr_then F2 hf
  replace hb := hb.keep hf
  replace z1 := z1.keep hf
  replace z2 := z2.keep hf
  replace ha := (ha.keep hf).wide (K := 3 * L) (by omega)
  replace h2 := (h2.keep hf).wide (K := 3 * L) (by omega)
  replace hd := hd.wide (K := 3 * L) (by omega)
  replace a2 := z1.c0
  replace b2 := z2.c0
  have s3 := hf.size
  clear hf hx0 hy0
  by_cases hsx : sg x = sg y
  · have HR := Lib.hid (rv_add_same hsx)
    have hsb : (sg x == sg y) = true := beq_iff_eq.2 hsx
    clear hsx
    have dr3 : ∀ R, Fr R w3 w3.drew := fun R => (Fr.refl R w3).drew
    replace ha := ha.keep (dr3 _)
    replace h2 := h2.keep (dr3 _)
    replace hd := hd.keep (dr3 _)
    replace z1 := z1.keep (dr3 _)
    replace hb := hb.keep (dr3 _)
    replace F2 := F2.drew
    have S7 := z1.c0
    have s4 := hb.lt
    clear z2
    go_wp2_with fail
    go_region_held3 (fun u => u.cell? ⟨w.heap.size, 0, none⟩ = some (.bool (sg x))) (first | exact S7 | exact S8 | exact S9 | exact S10) (first
      | ((with_reducible refine (add_r _ (.slice B1 m1 k1) (.slice B2 m2 k2) _ _ (3 * L) (3 * L) ha h2 (by omega) (by omega)).mono ?_); rintro e w4 ⟨v1, rfl, h4, hf4⟩; obtain ⟨C1, i1, j1, rfl⟩ := h4.form; have S8 := (z1.keep hf4).c0)
      | ((with_reducible refine (rmake_q _ (sg x) (.slice C1 i1 j1) (.slice B3 m3 k3) _ _ (3 * L + 1) (x + y) HR (h4.wide (show max (3 * L) (3 * L) + 1 ≤ 3 * L + 1 by simp)) ((hd.keep hf4).wide (by omega)) (by omega) (by omega)).mono ?_); rintro e w5 ⟨v1, v2, rfl, h5, hf5⟩; obtain ⟨⟨C2, i2, j2, rfl⟩, ⟨C3, i3, j3, rfl⟩⟩ := h5.form; have S9 := ((z1.keep hf4).keep hf5).c0; have hb5 := (hb.keep hf4).keep hf5; have F5 := fr_set3 w5 (w.heap.size + 1 + 1) (.bool (sg (x + y))) (.slice C2 i2 j2) (.slice C3 i3 j3); have S10 := (((z1.keep hf4).keep hf5).fr F5 (by omega)).c0; have d0 := hb5.c0; have d1 := hb5.c1; have d2 := hb5.c2; have f0 := hb5.free 0; have f1 := hb5.free 1; have f2 := hb5.free 2))
    have B5 := hb5.set3 (.bool (sg (x + y))) (.slice C2 i2 j2) (.slice C3 i3 j3)
    have s5 := hf4.size
    have F6 := fr_then (fr_then F2 hf4) hf5
    go_wp2_with fail
    refine bodyPost_ret (results_cell3 rfl rfl B5 Tryz.underlying58 ref3) rfl ?_
    exact ⟨_, _, rfl, (h5.out F5 (fun k hk => by omega) (by omega)).wide (by omega), F6.comp F5 fun k hk h => ⟨h, by omega⟩⟩
  · have hsb : (sg x == sg y) = false := beq_eq_false_iff_ne.2 hsx
    have s4 := hb.lt
    have p0 := cmp_r' _ _ _ _ _ _ _ ha h2
    by_cases hle : y.num.natAbs * x.den ≤ x.num.natAbs * y.den
    · have HR := Lib.hid (rv_add_ge hsx hle)
      clear hsx
      obtain ⟨c, hc, hc0⟩ : ∃ c, cmpN (x.num.natAbs * y.den) (y.num.natAbs * x.den) = c ∧ 0 ≤ c := ⟨_, rfl, by unfold cmpN; split <;> (try split) <;> omega⟩
      rw [hc] at p0
      clear hc
      have HL := Lib.hid hle
      clear hle
      go_wp2_with fail
      refine p0.mono ?_
      rintro e w4 ⟨rfl, hf⟩
      replace F2 := fr_then F2 hf
      replace hb := hb.keep hf
      replace z1 := z1.keep hf
      replace ha := ha.keep hf
      replace h2 := h2.keep hf
      replace hd := hd.keep hf
      replace a2 := z1.c0
      have s5 := hf.size
      clear p0 hf b2 z2
      go_wp2_with fail
      refine (sub_r _ _ _ _ _ _ _ ha h2 (by omega) HL.out).mono ?_
      rintro e w5 ⟨v5, rfl, h5, hf⟩
      obtain ⟨C1, i1, j1, rfl⟩ := h5.form
      replace F2 := fr_then F2 hf
      replace hb := hb.keep hf
      replace z1 := z1.keep hf
      replace hd := hd.keep hf
      replace a2 := z1.c0
      have s6 := hf.size
      clear hf ha h2
      go_wp2_with fail
      refine (rmake_q _ (sg x) _ _ _ _ (3 * L) (x + y) HR h5 hd hL3 hl3).mono ?_
      rintro e w6 ⟨v1, v2, rfl, h6, hf⟩
      obtain ⟨⟨C2, i2, j2, rfl⟩, ⟨C3, i3, j3, rfl⟩⟩ := h6.form
      replace F2 := fr_then F2 hf
      replace hb := hb.keep hf
      clear hf h5 hd
      go_wp2_with ((with_reducible apply wpList_st3); rfl; rfl; exact hb; exact ref3; rfl; rfl; rfl; intro w9 B9 F9)
      refine bodyPost_ret (results_cell3 rfl rfl B9 Tryz.underlying58 ref3) rfl ?_
      exact ⟨_, _, rfl, (h6.out F9 (fun k hk => by omega) (by omega)).wide (by omega), F2.comp F9 fun k hk h => ⟨h, by omega⟩⟩
    · have HR := Lib.hid (rv_add_lt hsx (by omega))
      clear hsx
      have hc : cmpN (x.num.natAbs * y.den) (y.num.natAbs * x.den) = -1 := by unfold cmpN; rw [if_pos (by omega)]
      rw [hc] at p0
      clear hc
      have HL := Lib.hid (show x.num.natAbs * y.den ≤ y.num.natAbs * x.den by omega)
      clear hle
      go_wp2_with fail
      refine p0.mono ?_
      rintro e w4 ⟨rfl, hf⟩
      replace F2 := fr_then F2 hf
      replace hb := hb.keep hf
      replace z2 := z2.keep hf
      replace ha := ha.keep hf
      replace h2 := h2.keep hf
      replace hd := hd.keep hf
      have s5 := hf.size
      clear p0 hf a2 b2 z1
      go_wp2_with fail
      refine (sub_r _ _ _ _ _ _ _ h2 ha (by omega) HL.out).mono ?_
      rintro e w5 ⟨v5, rfl, h5, hf⟩
      obtain ⟨C1, i1, j1, rfl⟩ := h5.form
      replace F2 := fr_then F2 hf
      replace hb := hb.keep hf
      replace z2 := z2.keep hf
      replace hd := hd.keep hf
      have b3 := z2.c0
      have s6 := hf.size
      clear hf ha h2
      go_wp2_with fail
      refine (rmake_q _ (sg y) _ _ _ _ (3 * L) (x + y) HR h5 hd hL3 hl3).mono ?_
      rintro e w6 ⟨v1, v2, rfl, h6, hf⟩
      obtain ⟨⟨C2, i2, j2, rfl⟩, ⟨C3, i3, j3, rfl⟩⟩ := h6.form
      replace F2 := fr_then F2 hf
      replace hb := hb.keep hf
      clear hf h5 hd
      go_wp2_with ((with_reducible apply wpList_st3); rfl; rfl; exact hb; exact ref3; rfl; rfl; rfl; intro w9 B9 F9)
      refine bodyPost_ret (results_cell3 rfl rfl B9 Tryz.underlying58 ref3) rfl ?_
      exact ⟨_, _, rfl, (h6.out F9 (fun k hk => by omega) (by omega)).wide (by omega), F2.comp F9 fun k hk h => ⟨h, by omega⟩⟩
end Go.Proofs.YtlppcfeimpcbjaaGreat


/- The reference's rationals: Sub, Div, Cmp, Is, Own. -/
namespace Go.Proofs.YtlppcfeimpcbjaaGreat
open Go.RowKit

theorem inv_num {y : Rat} (h : y ≠ 0) : (y⁻¹).num.natAbs = y.den := by
  have h1 : y.num ≠ 0 := fun e => h (Rat.num_eq_zero.1 e)
  rw [Rat.num_inv, Int.natAbs_mul, Int.natAbs_sign_of_ne_zero h1, Nat.one_mul, Int.natAbs_natCast]
theorem inv_den {y : Rat} (h : y ≠ 0) : (y⁻¹).den = y.num.natAbs := by
  have h1 : y.num ≠ 0 := fun e => h (Rat.num_eq_zero.1 e)
  rw [Rat.den_inv, if_neg h1]
theorem inv_sg (y : Rat) : sg y⁻¹ = sg y := by
  unfold sg
  rw [Rat.num_inv]
  have hd : (0 : Int) < y.den := by have := y.den_pos; omega
  rcases Int.lt_trichotomy y.num 0 with h | h | h
  · rw [Int.sign_eq_neg_one_of_neg h, decide_eq_true h]; exact decide_eq_true (by omega)
  · rw [h]; simp
  · rw [Int.sign_eq_one_of_pos h, decide_eq_false (show ¬ y.num < 0 by omega)]; exact decide_eq_false (by omega)
theorem RR.inv {S : Nat → Prop} {w : World} {vn vd : Value} {q : Rat} {L : Nat} (h : RR S w vn vd q L) (h0 : q ≠ 0) : RR S w vd vn q⁻¹ L := ⟨by rw [inv_num h0]; exact h.den, by rw [inv_den h0]; exact h.num⟩

theorem canon_full {S : Nat → Prop} (w : World) (v : Value) (xs : List Nat) (hs : Sl Lm S w v xs) :
    Calls Tryz.prog 140 #[v] w fun e w' => e = .returned (.bool (decide (xs = dg LB (val xs)))) ∧ w' = w := by
  have hd := Kd.nat_all hs
  obtain ⟨A, c, rfl, _, _, hlx⟩ := hs.slice
  by_cases h0 : xs.length = 0
  · have hx := List.length_eq_zero_iff.1 h0
    have HX := Lib.hid (show decide (xs = dg LB (val xs)) = true from decide_eq_true (by rw [hx]; exact (dg_zero LB).symm))
    rw [h0]
    clear hs h0 hx hd hlx
    go_enter Tryz.func140, Tryz.ntmps140
    go_wp2
    go_ret
    exact ⟨congrArg (fun b : Bool => Ending.returned (.bool b)) HX.out.symm, rfl⟩
  · obtain ⟨ad, rfl, hc, hm⟩ := Kd.nat_cell hs (i := xs.length - 1) (by omega)
    have hb2 : ((xs.length : Int) == 0) = false := beq_eq_false_iff_ne.2 (by omega)
    have hlast : xs.getLast? = some (xs[xs.length - 1]'(by omega)) := by rw [List.getLast?_eq_getElem?, List.getElem?_eq_getElem]
    have hr : decide (xs = dg LB (val xs)) = ((xs[xs.length - 1]'(by omega) : Int) != 0) := by
      by_cases hX : xs[xs.length - 1]'(by omega) = 0
      · rw [hX, decide_eq_false fun e => ?_]; · rfl
        have := dg_last LB2 (val xs) (xs[xs.length - 1]'(by omega)) (by rw [← e]; exact hlast)
        omega
      · rw [decide_eq_true]
        · rw [bne, beq_eq_false_iff_ne.2 (by omega)]; rfl
        · exact (dg_ofB LB2 hd fun d hdl => by rw [hlast] at hdl; cases hdl; exact hX).symm
    generalize xs[xs.length - 1]'(by omega) = X at hr hc hm
    have HR := Lib.hid hr
    clear hs hlast hr hd
    go_enter Tryz.func140, Tryz.ntmps140
    go_wp2
    go_ret
    exact ⟨congrArg (fun b : Bool => Ending.returned (.bool b)) HR.out.symm, rfl⟩

theorem is_full {S T : Nat → Prop} (w : World) (vr v : Value) (xs : List Nat) (N L K : Nat) (hr : RC S w vr N K) (h : Sl Lm T w v xs) (hx : xs.length ≤ L) (hL : L ≤ 1099511620) :
    Calls Tryz.prog 122 #[vr, v] w fun e w' => e = .returned (.bool (decide (xs = dg LB N))) ∧ Fr (fun k => k < w.heap.size) w w' := by
  have p1 := canon_full w v xs h
  have hn : Num T w v (val xs) L := ⟨xs, h, rfl, hx⟩
  by_cases hc : xs = dg LB (val xs)
  · rw [decide_eq_true hc] at p1
    have he : decide (xs = dg LB N) = (cmpN (val xs) N == 0) := by
      unfold cmpN
      by_cases e : val xs = N
      · rw [decide_eq_true (by rw [← e]; exact hc), e]; simp
      · rw [decide_eq_false fun e2 => e (by rw [e2]; exact val_dg N)]
        split
        · rfl
        · split
          · rfl
          · omega
    have HE := Lib.hid he
    clear he hc
    go_enter Tryz.func122, Tryz.ntmps122
    go_wp2_with fail
    refine p1.mono ?_
    rintro e w' ⟨rfl, rfl⟩
    clear p1
    go_wp2_with fail
    refine (of_r _ _ _ _ hn hL).mono ?_
    rintro e w1 ⟨v1, rfl, h1, hf⟩
    go_wp2_with fail
    refine (cmp_r _ _ _ _ _ _ _ h1 (hr.keep hf)).mono ?_
    rintro e w2 ⟨rfl, hf2⟩
    go_wp2_with fail
    go_ret
    exact ⟨congrArg (fun b : Bool => Ending.returned (.bool b)) HE.out.symm, fr_then hf (hf2.mono fun _ _ _ => trivial)⟩
  · rw [decide_eq_false hc] at p1
    have HE := Lib.hid (show decide (xs = dg LB N) = false from decide_eq_false fun e => hc (by rw [e, val_dg]))
    clear hc
    go_enter Tryz.func122, Tryz.ntmps122
    go_wp2_with fail
    refine p1.mono ?_
    rintro e w' ⟨rfl, rfl⟩
    clear p1
    go_wp2_with fail
    go_ret
    exact ⟨congrArg (fun b : Bool => Ending.returned (.bool b)) HE.out.symm, Fr.refl _ _⟩

/-- the same number, the same limbs -/
def Like (s : Bool) (xs ys : List Nat) (q : Rat) : Prop := s = sg q ∧ xs = dg LB q.num.natAbs ∧ ys = dg LB q.den
instance (s : Bool) (xs ys : List Nat) (q : Rat) : Decidable (Like s xs ys q) := by unfold Like; exact inferInstance

set_option maxHeartbeats 1000000 in
theorem ris_full {S T U : Nat → Prop} (w : World) (s t : Bool) (vn vd un ud : Value) (q : Rat) (xs ys : List Nat) (L K : Nat) (hq : RR S w vn vd q K) (hs : s = sg q) (hx : Sl Lm T w un xs) (hy : Sl Lm U w ud ys) (hxl : xs.length ≤ L) (hyl : ys.length ≤ L) (hL : L ≤ 1099511620) :
    Calls Tryz.prog 86 #[.agg #[.bool s, vn, vd], .agg #[.bool t, un, ud]] w fun e w' => e = .returned (.bool (decide (Like t xs ys q))) ∧ Fr (fun k => k < w.heap.size) w w' := by
  subst hs
  obtain ⟨⟨A1, n1, c1, rfl⟩, ⟨A2, n2, c2, rfl⟩⟩ := hq.form
  obtain ⟨A3, n3, c3, rfl⟩ := hx.form
  obtain ⟨A4, n4, c4, rfl⟩ := hy.form
  have F := ((Fr.refl (fun k => k < w.heap.size) w).alloc (.cells #[.bool (sg q), .slice A1 n1 c1, .slice A2 n2 c2] 58)).alloc (.cells #[.bool t, .slice A3 n3 c3, .slice A4 n4 c4] 54)
  have x1 := (Box3.new w 58 (.bool (sg q)) (.slice A1 n1 c1) (.slice A2 n2 c2)).alloc (.cells #[.bool t, .slice A3 n3 c3, .slice A4 n4 c4] 54)
  have x2 := Box3.new (w.alloc (.cells #[.bool (sg q), .slice A1 n1 c1, .slice A2 n2 c2] 58)) 54 (.bool t) (.slice A3 n3 c3) (.slice A4 n4 c4)
  simp only [World.size_alloc] at x2
  have hq0 := hq.keep F
  have p1 := is_full _ _ _ xs _ L K hq0.num (hx.keep' Lm_pos F) hxl hL
  have hy0 := hy.keep' Lm_pos F
  obtain ⟨r, hr⟩ : ∃ r, r = decide (Like t xs ys q) := ⟨_, rfl⟩
  rw [← hr]
  clear hq hx hy
  by_cases ht : t = sg q
  · have hb : (t == sg q) = true := beq_iff_eq.2 ht
    by_cases h1 : xs = dg LB q.num.natAbs
    · rw [decide_eq_true h1] at p1
      have HR := Lib.hid (show r = decide (ys = dg LB q.den) by rw [hr]; exact decide_eq_decide.2 ⟨fun h => h.2.2, fun h => ⟨ht, h1, h⟩⟩)
      clear hr h1 ht
      go_enter Tryz.func86, Tryz.ntmps86
      go_wp2_with fail
      refine p1.mono ?_
      rintro e w1 ⟨rfl, hf⟩
      have a2 := (x1.keep hf).c2
      have b2 := (x2.keep hf).c2
      clear p1
      go_wp2_with fail
      refine (is_full _ _ _ ys _ L K (hq0.den.keep hf) (hy0.keep' Lm_pos hf) hyl hL).mono ?_
      rintro e w2 ⟨rfl, hf2⟩
      go_wp2_with fail
      go_ret
      exact ⟨congrArg (fun b : Bool => Ending.returned (.bool b)) HR.out.symm, fr_then (fr_then F hf) hf2⟩
    · rw [decide_eq_false h1] at p1
      have HR := Lib.hid (show r = false by rw [hr]; exact decide_eq_false fun h => h1 h.2.1)
      clear hr h1 ht
      go_enter Tryz.func86, Tryz.ntmps86
      go_wp2_with fail
      refine p1.mono ?_
      rintro e w1 ⟨rfl, hf⟩
      clear p1
      go_wp2_with fail
      go_ret
      exact ⟨congrArg (fun b : Bool => Ending.returned (.bool b)) HR.out.symm, fr_then F hf⟩
  · have hb : (t == sg q) = false := beq_eq_false_iff_ne.2 ht
    have HR := Lib.hid (show r = false by rw [hr]; exact decide_eq_false fun h => ht h.1)
    clear hr ht p1
    go_enter Tryz.func86, Tryz.ntmps86
    go_wp2_with fail
    go_ret
    exact ⟨congrArg (fun b : Bool => Ending.returned (.bool b)) HR.out.symm, F⟩

theorem ris_yes {S T : Nat → Prop} (w : World) (s t : Bool) (vn vd un ud : Value) (q p : Rat) (L K : Nat) (hq : RR S w vn vd q K) (hs : s = sg q) (hp : RV T w un ud p L) (ht : t = sg p) (e : q = p) (hL : L ≤ 1099511620) :
    Calls Tryz.prog 86 #[.agg #[.bool s, vn, vd], .agg #[.bool t, un, ud]] w fun e w' => e = .returned (.bool true) ∧ Fr (fun k => k < w.heap.size) w w' := by
  subst e
  have h := ris_full w s t vn vd un ud q _ _ L K hq hs hp.num.sl hp.den.sl hp.num.len hp.den.len hL
  rwa [decide_eq_true (show Like t (dg LB q.num.natAbs) (dg LB q.den) q from ⟨ht, rfl, rfl⟩)] at h
end Go.Proofs.YtlppcfeimpcbjaaGreat


/- The reference's rationals: Make, Of, Is. -/
import Derived.Test.YtodpbkcdcchljaaRatB
namespace Go.Proofs.Ytodpbkcdcchljaa
open Go.RowKit

/-- A rational of the reference. -/
structure RR (S : Nat → Prop) (w : World) (vn vd : Value) (q : Rat) (L : Nat) : Prop where
  num : RC S w vn q.num.natAbs L
  den : RC S w vd q.den L
theorem RC.fr {S : Nat → Prop} {w w' : World} {v : Value} {N L : Nat} (h : RC S w v N L) (hf : Fr S w w') : RC S w' v N L := ⟨h.sl.fr hf, h.len⟩
theorem RC.wide {S : Nat → Prop} {w : World} {v : Value} {N L K : Nat} (h : RC S w v N L) (hl : L ≤ K) : RC S w v N K := ⟨h.sl, Nat.le_trans h.len hl⟩
theorem RC.low {S : Nat → Prop} {w : World} {v : Value} {N L : Nat} (h : RC S w v N L) : RC (fun k => k < w.heap.size) w v N L := ⟨h.sl.low Dg_pos, h.len⟩
theorem RC.out {a b : Nat} {R : Nat → Prop} {w w' : World} {v : Value} {N L : Nat} (h : RC (fun k => a ≤ k) w v N L) (hf : Fr R w w') (hr : ∀ k, a ≤ k → R k) (hb : b ≤ a) : RC (fun k => b ≤ k) w' v N L :=
  (h.fr (hf.mono fun k _ hk => hr k hk)).mono fun _ hk => Nat.le_trans hb hk
theorem RR.keep {S : Nat → Prop} {w w' : World} {vn vd : Value} {q : Rat} {L : Nat} (h : RR S w vn vd q L) (hf : Fr (fun k => k < w.heap.size) w w') : RR S w' vn vd q L := ⟨h.num.keep hf, h.den.keep hf⟩
theorem RR.mono {S T : Nat → Prop} {w : World} {vn vd : Value} {q : Rat} {L : Nat} (h : RR S w vn vd q L) (hs : ∀ k, S k → T k) : RR T w vn vd q L := ⟨h.num.mono hs, h.den.mono hs⟩
theorem RR.wide {S : Nat → Prop} {w : World} {vn vd : Value} {q : Rat} {L K : Nat} (h : RR S w vn vd q L) (hl : L ≤ K) : RR S w vn vd q K := ⟨h.num.wide hl, h.den.wide hl⟩
theorem RR.fr {S : Nat → Prop} {w w' : World} {vn vd : Value} {q : Rat} {L : Nat} (h : RR S w vn vd q L) (hf : Fr S w w') : RR S w' vn vd q L := ⟨h.num.fr hf, h.den.fr hf⟩
theorem RR.low {S : Nat → Prop} {w : World} {vn vd : Value} {q : Rat} {L : Nat} (h : RR S w vn vd q L) : RR (fun k => k < w.heap.size) w vn vd q L := ⟨h.num.low, h.den.low⟩
theorem RR.out {a b : Nat} {R : Nat → Prop} {w w' : World} {vn vd : Value} {q : Rat} {L : Nat} (h : RR (fun k => a ≤ k) w vn vd q L) (hf : Fr R w w') (hr : ∀ k, a ≤ k → R k) (hb : b ≤ a) : RR (fun k => b ≤ k) w' vn vd q L :=
  ⟨h.num.out hf hr hb, h.den.out hf hr hb⟩
theorem RR.form {S : Nat → Prop} {w : World} {vn vd : Value} {q : Rat} {L : Nat} (h : RR S w vn vd q L) : (∃ A n c, vn = .slice A n c) ∧ ∃ A n c, vd = .slice A n c := ⟨h.num.form, h.den.form⟩

theorem ref3 : (Try.prog.info? 34).map (·.size) = some 3 := by kernel_rfl
theorem dd_one : dg DB 1 = [1] := by
  have := dg_pos DB2 (n := 1) (by decide)
  rw [this, show 1 % DB = 1 from rfl, show 1 / DB = 0 from rfl, dg_zero]
theorem rc_one (w : World) : RC (fun k => w.heap.size ≤ k) (w.alloc (.cells #[.int .i64 1] 3)) (.slice (some ⟨w.heap.size, 0, none⟩) 1 1) 1 1 := by
  have h := Own.one (K := Dg) (e := 3) (S := fun k => w.heap.size ≤ k) w (Nat.le_refl _) (x := 1) (cs := [.int .i64 1]) rfl (fun T W => ⟨rfl, by decide⟩)
  exact ⟨by rw [dd_one]; exact h.sl, by rw [dd_one]; exact Nat.le_refl _⟩
theorem RR.zero {S : Nat → Prop} {w : World} {v : Value} {L : Nat} (h : RC S w v 1 L) : RR S w (.slice none 0 0) v 0 L := ⟨⟨by rw [show (0 : Rat).num.natAbs = 0 from rfl, dg_zero]; exact Sl.nil _ _ _, by rw [show (0 : Rat).num.natAbs = 0 from rfl, dg_zero]; exact Nat.zero_le _⟩, h⟩

theorem fr_nr (S : Nat → Prop) (w : World) : Fr S w (w.alloc (.cells #[.bool false, .slice none 0 0, .slice none 0 0] 34)) := (Fr.refl _ _).alloc _
theorem box_nr (w : World) : Box3 (w.alloc (.cells #[.bool false, .slice none 0 0, .slice none 0 0] 34)) w.heap.size 34 (.bool false) (.slice none 0 0) (.slice none 0 0) := Box3.new _ _ _ _ _

theorem rv_dead {s : Bool} {N D : Nat} (h : N = 0 ∨ D = 0) : rv s N D = 0 := by
  rcases h with rfl | rfl
  · exact rv_num0 s D
  · exact rv_den0 s N
theorem dd_eq0 (N : Nat) : (((dg DB N).length : Int) == 0) = decide (N = 0) := by
  rcases Nat.eq_zero_or_pos N with rfl | hp
  · rw [dg_zero]; rfl
  · have h1 := (dg_len_pos DB2).2 hp
    rw [decide_eq_false (by omega)]
    exact beq_eq_false_iff_ne.2 (by omega)

set_option maxHeartbeats 2000000 in
theorem rmake_r {S T : Nat → Prop} (w : World) (s : Bool) (vn vd : Value) (N D L : Nat) (hn : RC S w vn N L) (hd : RC T w vd D L) (hL1 : 1 ≤ L) (hl : L ≤ 1048576000) :
    Calls Try.prog 22 #[.bool s, vn, vd] w fun e w' => ∃ v1 v2, e = .returned (.agg #[.bool (sg (rv s N D)), v1, v2]) ∧ RR (fun k => w.heap.size ≤ k) w' v1 v2 (rv s N D) L ∧ Fr (fun k => k < w.heap.size) w w' := by
  have F := fr_nr (fun k => k < w.heap.size) w
  have hb := box_nr w
  have hn0 := hn.keep (fr_nr _ w)
  have hd0 := hd.keep (fr_nr _ w)
  have e1 := dd_eq0 N
  have e2 := dd_eq0 D
  obtain ⟨A1, c1, hv1, _⟩ := hn.sl.slice
  obtain ⟨A2, c2, hv2, _⟩ := hd.sl.slice
  subst hv1 hv2
  go_enter Try.func22, Try.ntmps22
  by_cases hz : N = 0 ∨ D = 0
  · rw [rv_dead hz, sg_zero]
    generalize (dg DB N).length = m at e1 ⊢
    generalize (dg DB D).length = k at e2 ⊢
    have h1 := rc_one (w.alloc (.cells #[.bool false, .slice none 0 0, .slice none 0 0] 34))
    have G := (Fr.refl (fun k => k < w.heap.size + 1) (w.alloc (.cells #[.bool false, .slice none 0 0, .slice none 0 0] 34))).alloc (.cells #[.int .i64 1] 3)
    have B1 := hb.alloc (.cells #[.int .i64 1] 3)
    simp only [World.size_alloc] at h1
    rcases Nat.eq_zero_or_pos N with hN | hN
    · rw [decide_eq_true hN] at e1
      clear e2 hn0 hd0 hn hd hz
      go_wp2_with ((with_reducible apply wpList_st3); rfl; rfl; exact B1; exact ref3; rfl; rfl; rfl; intro w9 B9 F9)
      refine bodyPost_ret (results_cell3 rfl rfl B9 Try.underlying34 ref3) rfl ?_
      exact ⟨_, _, rfl, RR.zero ((h1.out F9 (fun k hk => by omega) (by omega)).wide hL1), (F.alloc _).comp F9 fun k hk h => ⟨h, by omega⟩⟩
    · have hD : D = 0 := by omega
      rw [decide_eq_false (by omega)] at e1
      rw [decide_eq_true hD] at e2
      clear hn0 hd0 hn hd hz
      go_wp2_with ((with_reducible apply wpList_st3); rfl; rfl; exact B1; exact ref3; rfl; rfl; rfl; intro w9 B9 F9)
      refine bodyPost_ret (results_cell3 rfl rfl B9 Try.underlying34 ref3) rfl ?_
      exact ⟨_, _, rfl, RR.zero ((h1.out F9 (fun k hk => by omega) (by omega)).wide hL1), (F.alloc _).comp F9 fun k hk h => ⟨h, by omega⟩⟩
  · have hN : 0 < N := by omega
    have hD : 0 < D := by omega
    rw [decide_eq_false (by omega)] at e1 e2
    have hgp : 0 < Nat.gcd N D := Nat.gcd_pos_of_pos_left _ hN
    rw [rv_sg hD hN]
    go_wp2_with fail
    refine (gcd_r _ _ _ _ _ _ hn0 hd0 hl).mono ?_
    rintro e w1 ⟨v1, rfl, h1, hf⟩
    replace F := fr_then F hf
    replace hb := hb.keep hf
    replace hn0 := hn0.keep hf
    replace hd0 := hd0.keep hf
    have s1 := hf.size
    simp only [World.size_alloc] at s1
    clear hn hd hf
    go_wp2_with fail
    refine (dm_r _ _ _ _ _ _ _ hn0 h1 hl hl hgp).mono ?_
    rintro e w2 ⟨v2, v3, rfl, h2, _, hf⟩
    replace F := fr_then F hf
    replace hb := hb.keep hf
    replace hd0 := hd0.keep hf
    replace h1 := h1.keep hf
    have s2 := hf.size
    clear hn0 hf
    go_wp2_with fail
    refine (dm_r _ _ _ _ _ _ _ hd0 h1 hl hl hgp).mono ?_
    rintro e w3 ⟨v4, v5, rfl, h3, _, hf⟩
    replace F := fr_then F hf
    replace hb := hb.keep hf
    replace h2 := h2.keep hf
    have s3 := hf.size
    obtain ⟨B1, m1, k1, rfl⟩ := h2.form
    obtain ⟨B2, m2, k2, rfl⟩ := h3.form
    clear hd0 hf h1
    go_wp2_with ((with_reducible apply wpList_st3); rfl; rfl; exact hb; exact ref3; rfl; rfl; rfl; intro w9 B9 F9)
    refine bodyPost_ret (results_cell3 rfl rfl B9 Try.underlying34 ref3) rfl ?_
    refine ⟨_, _, rfl, ⟨?_, ?_⟩, F.comp F9 fun k hk h => ⟨h, by omega⟩⟩
    · rw [rv_num hD]; exact h2.out F9 (fun k hk => by omega) (by omega)
    · rw [rv_den hD]; exact h3.out F9 (fun k hk => by omega) (by omega)
theorem rmake_q {S T : Nat → Prop} (w : World) (s : Bool) (vn vd : Value) (N D L : Nat) (q : Rat) (hq : Hid (rv s N D = q)) (hn : RC S w vn N L) (hd : RC T w vd D L) (hL1 : 1 ≤ L) (hl : L ≤ 1048576000) :
    Calls Try.prog 22 #[.bool s, vn, vd] w fun e w' => ∃ v1 v2, e = .returned (.agg #[.bool (sg q), v1, v2]) ∧ RR (fun k => w.heap.size ≤ k) w' v1 v2 q L ∧ Fr (fun k => k < w.heap.size) w w' := by
  have := rmake_r w s vn vd N D L hn hd hL1 hl
  rwa [hq.out] at this

set_option maxHeartbeats 2000000 in
theorem rof_r {S : Nat → Prop} (w : World) (s : Bool) (vn vd : Value) (q : Rat) (N D L : Nat) (h : RI S w s vn vd q N D L) (hL1 : 1 ≤ L) (hl : L ≤ 104857600) :
    Calls Try.prog 17 #[.agg #[.bool s, vn, vd]] w fun e w' => ∃ v1 v2, e = .returned (.agg #[.bool (sg q), v1, v2]) ∧ RR (fun k => w.heap.size ≤ k) w' v1 v2 q (3 * L) ∧ Fr (fun k => k < w.heap.size) w w' := by
  obtain ⟨⟨A1, n1, c1, rfl⟩, ⟨A2, n2, c2, rfl⟩⟩ := h.form
  have F := ((Fr.refl (fun k => k < w.heap.size) w).alloc (.cells #[.bool s, .slice A1 n1 c1, .slice A2 n2 c2] 25)).alloc (.cells #[.bool false, .slice none 0 0, .slice none 0 0] 34)
  have hb := box_nr (w.alloc (.cells #[.bool s, .slice A1 n1 c1, .slice A2 n2 c2] 25))
  have hx := (Box3.new w 25 (.bool s) (.slice A1 n1 c1) (.slice A2 n2 c2)).alloc (.cells #[.bool false, .slice none 0 0, .slice none 0 0] 34)
  have h0 := h.keep F
  have hv := h.val
  simp only [World.size_alloc] at hb
  generalize hW0 : (w.alloc (.cells #[.bool s, .slice A1 n1 c1, .slice A2 n2 c2] 25)).alloc (.cells #[.bool false, .slice none 0 0, .slice none 0 0] 34) = W0 at F hb hx h0
  have dr : ∀ R, Fr R W0 W0.drew := fun R => (Fr.refl R W0).drew
  replace h0 := h0.keep (dr _)
  replace hb := hb.keep (dr _)
  replace hx := hx.keep (dr _)
  replace F := F.drew
  have S0 : W0.drew.cell? ⟨w.heap.size, 0, none⟩ = some (.bool s) ∧ W0.drew.cell? ⟨w.heap.size, 1, none⟩ = some (.slice A1 n1 c1) ∧ W0.drew.cell? ⟨w.heap.size, 2, none⟩ = some (.slice A2 n2 c2) := ⟨hx.c0, hx.c1, hx.c2⟩
  have hL3 : 1 ≤ 3 * L := by omega
  have hl3 : 3 * L ≤ 1048576000 := by omega
  have HV := Lib.hid hv
  clear h dr hv
  go_enter Try.func17, Try.ntmps17
  go_wp2_with fail
  clear hW0
  go_region_held3 (fun u => u.cell? ⟨w.heap.size, 0, none⟩ = some (.bool s) ∧ u.cell? ⟨w.heap.size, 1, none⟩ = some (.slice A1 n1 c1) ∧ u.cell? ⟨w.heap.size, 2, none⟩ = some (.slice A2 n2 c2)) (first | exact S0 | exact S1 | exact S2 | exact S3 | exact S4) (first
    | ((with_reducible refine (of_r _ (.slice A1 n1 c1) N L h0.num (by omega)).mono ?_); rintro e w1 ⟨v1, rfl, h1, hf1⟩; obtain ⟨B1, m1, k1, rfl⟩ := h1.form; have hx1 := hx.keep hf1; have S1 : w1.cell? ⟨w.heap.size, 0, none⟩ = some (.bool s) ∧ w1.cell? ⟨w.heap.size, 1, none⟩ = some (.slice A1 n1 c1) ∧ w1.cell? ⟨w.heap.size, 2, none⟩ = some (.slice A2 n2 c2) := ⟨hx1.c0, hx1.c1, hx1.c2⟩)
    | ((with_reducible refine (of_r _ (.slice A2 n2 c2) D L (h0.den.keep hf1) (by omega)).mono ?_); rintro e w2 ⟨v1, rfl, h2, hf2⟩; obtain ⟨B2, m2, k2, rfl⟩ := h2.form; have hx2 := hx1.keep hf2; have S2 : w2.cell? ⟨w.heap.size, 0, none⟩ = some (.bool s) ∧ w2.cell? ⟨w.heap.size, 1, none⟩ = some (.slice A1 n1 c1) ∧ w2.cell? ⟨w.heap.size, 2, none⟩ = some (.slice A2 n2 c2) := ⟨hx2.c0, hx2.c1, hx2.c2⟩)
    | ((with_reducible refine (rmake_q _ s (.slice B1 m1 k1) (.slice B2 m2 k2) N D (3 * L) q HV (h1.keep hf2) h2 hL3 hl3).mono ?_); rintro e w3 ⟨v1, v2, rfl, h3, hf3⟩; obtain ⟨⟨C1, i1, j1, rfl⟩, ⟨C2, i2, j2, rfl⟩⟩ := h3.form; have hx3 := hx2.keep hf3; have hb3 := ((hb.keep hf1).keep hf2).keep hf3; have S3 : w3.cell? ⟨w.heap.size, 0, none⟩ = some (.bool s) ∧ w3.cell? ⟨w.heap.size, 1, none⟩ = some (.slice A1 n1 c1) ∧ w3.cell? ⟨w.heap.size, 2, none⟩ = some (.slice A2 n2 c2) := ⟨hx3.c0, hx3.c1, hx3.c2⟩; have F4 := fr_set3 w3 (w.heap.size + 1) (.bool (sg q)) (.slice C1 i1 j1) (.slice C2 i2 j2); have hx4 := hx3.fr F4 (by omega); have S4 := And.intro hx4.c0 (And.intro hx4.c1 hx4.c2); have d0 := hb3.c0; have d1 := hb3.c1; have d2 := hb3.c2; have f0 := hb3.free 0; have f1 := hb3.free 1; have f2 := hb3.free 2))
  have B4 := hb3.set3 (.bool (sg q)) (.slice C1 i1 j1) (.slice C2 i2 j2)
  have s0 := hb.lt
  have s1 := hf1.size
  have s2 := hf2.size
  have F3 := fr_then (fr_then (fr_then F hf1) hf2) hf3
  go_wp2_with fail
  refine bodyPost_ret (results_cell3 rfl rfl B4 Try.underlying34 ref3) rfl ?_
  exact ⟨_, _, rfl, h3.out F4 (fun k hk => by omega) (by omega), F3.comp F4 fun k hk h => ⟨h, by omega⟩⟩
end Go.Proofs.Ytodpbkcdcchljaa

import Derived.Test.YtjnojkfkhccgaaaGreatTenV

/- TensorMakes. -/
namespace Go.Proofs.YtjnojkfkhccgaaaGreat
open Go.RowKit

theorem mayT_norm {sh : List Int} {es : List RatL} (h : fitsT sh es.length = 0) : mayT sh (es.map normR) = 0 := mayT_0 (by rw [List.length_map]; exact h) fun x hx => by
  obtain ⟨y, _, rfl⟩ := List.mem_map.1 hx
  exact like_can _
theorem norm_can (es : List RatL) : es.map normR = (es.map qOf).map canR := by rw [List.map_map]; rfl

theorem Rm_lt {S : Nat → Prop} {w : World} {v : Value} {es : List RatL} (h : Sl Rm S w v es) : ∀ x ∈ es, (∀ d ∈ x.2.1, d < LB) ∧ ∀ d ∈ x.2.2, d < LB := by
  intro x hx
  obtain ⟨A, c, rfl, _⟩ := h.slice
  obtain ⟨i, hi, rfl⟩ := List.mem_iff_getElem.1 hx
  obtain ⟨_, _, _, _, _, _, _, _, _, _, _, _, h1, h2⟩ := Rm_get h hi
  exact ⟨Kd.nat_all h1, Kd.nat_all h2⟩
theorem qOf_len {x : RatL} {L : Nat} (h : (∀ d ∈ x.2.1, d < LB) ∧ ∀ d ∈ x.2.2, d < LB) (l1 : x.2.1.length ≤ L) (l2 : x.2.2.length ≤ L) (hL : 1 ≤ L) : (dg LB (qOf x).num.natAbs).length ≤ L ∧ (dg LB (qOf x).den).length ≤ L := by
  have b1 : val x.2.1 < LB ^ L := Nat.lt_of_lt_of_le (ofB_lt h.1) (Nat.pow_le_pow_right LBpos l1)
  have b2 : val x.2.2 < LB ^ L := Nat.lt_of_lt_of_le (ofB_lt h.2) (Nat.pow_le_pow_right LBpos l2)
  unfold qOf
  rcases Nat.eq_zero_or_pos (val x.2.2) with h0 | hp
  · rw [h0, rv_den0]
    refine ⟨by rw [show (0 : Rat).num.natAbs = 0 from rfl, dg_zero]; exact Nat.zero_le _, Nat.le_trans (dg_len_le LB2 (k := 1) ?_) hL⟩
    rw [show (0 : Rat).den = 1 from rfl]
    decide
  · rw [rv_num hp, rv_den hp]
    exact ⟨dg_len_le LB2 (Nat.lt_of_le_of_lt (Nat.div_le_self _ _) b1), dg_len_le LB2 (Nat.lt_of_le_of_lt (Nat.div_le_self _ _) b2)⟩

set_option maxRecDepth 20000 in
set_option maxHeartbeats 8000000 in
theorem tmakes_walk {S : Nat → Prop} {sh : List Int} {es : List RatL} (w : World) (v : Value) (L : Nat) (h : TL S w v sh es L) (hL : L ≤ 1048576) :
    Calls Tryz.prog 3 #[v] w fun e w' => e = .returned (.bool true) ∧ Fr (fun k => k < w.heap.size) w w' := by
  obtain ⟨vs, ve, rfl, hs, he⟩ := h.ex
  have ls := h.ls
  have le := h.le
  have hlt := Rm_lt he
  have HL := Lib.hid (show ∀ x ∈ es, x.2.1.length ≤ L + 1 ∧ x.2.2.length ≤ L + 1 from fun x hx => by have := h.lx x hx; omega)
  have HL2 := Lib.hid (show ∀ x ∈ es, x.2.1.length ≤ 1099511627000 ∧ x.2.2.length ≤ 1099511627000 from fun x hx => by have := h.lx x hx; omega)
  have HLQ := Lib.hid (show ∀ q ∈ es.map qOf, (dg LB q.num.natAbs).length ≤ L + 1 ∧ (dg LB q.den).length ≤ L + 1 from fun q hq => by
    obtain ⟨x, hx, rfl⟩ := List.mem_map.1 hq
    have := h.lx x hx
    exact qOf_len (hlt x hx) (by omega) (by omega) (by omega))
  have HLN := Lib.hid (show ∀ x ∈ es.map normR, x.2.1.length ≤ L + 1 ∧ x.2.2.length ≤ L + 1 from fun x hx => by
    obtain ⟨y, hy, rfl⟩ := List.mem_map.1 hx
    have := h.lx y hy
    exact qOf_len (hlt y hy) (by omega) (by omega) (by omega))
  clear hlt
  obtain ⟨A, c, rfl, _, _, _⟩ := hs.slice
  obtain ⟨A', c', rfl, _, _, hle⟩ := he.slice
  have hl1 : 1 ≤ L + 1 := by omega
  have hl2 : L + 1 ≤ 104857600 := by omega
  have F := fun R => (Fr.refl R w).alloc (.cells #[.slice A sh.length c, .slice A' es.length c'] 26)
  have x1 := Box2.new w 26 (.slice A sh.length c) (.slice A' es.length c')
  have HS := Lib.hid (hs.up Im_pos (Nat.le_refl _) (F _))
  have HE := Lib.hid (he.up Rm_pos (Nat.le_refl _) (F _))
  replace F := F (fun k => k < w.heap.size)
  have a0 := x1.c0
  have a1 := x1.c1
  clear h hs he
  go_enter Tryz.func3, Tryz.ntmps3
  go_wp2_with fail
  with_reducible refine (town_t _ (.slice A sh.length c) (.slice A' es.length c') sh es HS.out HE.out (by omega) (by omega) HL2.out).mono ?_
  rintro e w1 ⟨v1, v2, rfl, h1, h2, hf⟩
  obtain ⟨B1, i1, j1, rfl⟩ := h1.form
  obtain ⟨B2, i2, j2, rfl⟩ := h2.form
  have al := fun R => (Fr.refl R w1).alloc (.cells #[.slice B1 i1 j1, .slice B2 i2 j2] 26)
  have x3 := Box2.new w1 26 (.slice B1 i1 j1) (.slice B2 i2 j2)
  replace x1 := (x1.keep hf).keep (al _)
  replace HS := Lib.hid ((HS.out.keep' Im_pos hf).keep' Im_pos (al _))
  replace HE := Lib.hid ((HE.out.keep' Rm_pos hf).keep' Rm_pos (al _))
  have H1 := Lib.hid (h1.sl.keep' Im_pos (al _))
  have H2 := Lib.hid (h2.sl.keep' Rm_pos (al _))
  replace F := fr_then (fr_then F hf) (al _)
  clear h1 h2 hf al a0 a1
  have a0 := x3.c0
  have a1 := x3.c1
  go_wp2_with fail
  have p := make_t _ (.slice B1 i1 j1) (.slice B2 i2 j2) sh es (L + 1) H1.out H2.out HL.out hl1 hl2 (by omega) (by omega)
  obtain ⟨r, hr⟩ : ∃ r, r = fitsT sh es.length := ⟨_, rfl⟩
  rw [← hr] at p
  have HR := Lib.hid hr
  with_reducible refine p.mono ?_
  rintro e w2 ⟨v1, v2, rfl, hn, hy, hf⟩
  obtain ⟨B3, i3, j3, rfl⟩ : ∃ A n c, v1 = .slice A n c := by
    by_cases h0 : r = 0
    · exact (hy h0).1.form
    · exact ⟨_, _, _, (hn h0).1⟩
  obtain ⟨B4, i4, j4, rfl⟩ : ∃ A n c, v2 = .slice A n c := by
    by_cases h0 : r = 0
    · exact (hy h0).2.form
    · exact ⟨_, _, _, (hn h0).2⟩
  have al := fun R => (Fr.refl R w2).alloc (.cells #[.slice B3 i3 j3, .slice B4 i4 j4] 26)
  have x4 := Box2.new w2 26 (.slice B3 i3 j3) (.slice B4 i4 j4)
  replace x1 := (x1.keep hf).keep (al _)
  replace HS := Lib.hid ((HS.out.keep' Im_pos hf).keep' Im_pos (al _))
  replace HE := Lib.hid ((HE.out.keep' Rm_pos hf).keep' Rm_pos (al _))
  replace F := fr_then (fr_then F hf) (al _)
  have HN := Lib.hid hn
  have HY := Lib.hid (show r = 0 → Sl Im _ _ (.slice B3 i3 j3) sh ∧ Sl Rm _ _ (.slice B4 i4 j4) (es.map normR) from fun h => ⟨(hy h).1.sl.keep' Im_pos (al _), (hy h).2.sl.keep' Rm_pos (al _)⟩)
  clear p hr hn hy hf al a0 a1 x3 H1 H2
  have a0 := x1.c0
  have a1 := x1.c1
  obtain ⟨m, hm⟩ : ∃ m, m = mayS sh := ⟨_, rfl⟩
  obtain ⟨z, hz⟩ : ∃ z, z = cntS sh := ⟨_, rfl⟩
  have HM := Lib.hid hm
  have HZ := Lib.hid hz
  have P1 := Lib.hid (smay_calls _ (.slice A sh.length c) sh HS.out)
  rw [← hm] at P1
  have D := fun R => (Fr.refl R (w2.alloc (.cells #[.slice B3 i3 j3, .slice B4 i4 j4] 26))).drew
  have P2 := Lib.hid (scount_calls _ (.slice A sh.length c) sh (HS.out.keep' Im_pos (D _)))
  rw [← hz] at P2
  clear hm hz
  go_wp2_with fail
  with_reducible refine P1.out.mono ?_
  rintro e wq ⟨rfl, rfl⟩
  have FD := F.drew
  have y1 := x1.keep (D _)
  have y4 := x4.keep (D _)
  have HSD := Lib.hid (HS.out.keep' Im_pos (D _))
  have HED := Lib.hid (HE.out.keep' Rm_pos (D _))
  by_cases hm0 : m = 0
  · subst hm0
    by_cases hc : (es.length : Int) = z
    · have hli : ((es.length : Int) == z) = true := by rw [beq_iff_eq]; exact hc
      have hft := fitsT_0 HM.out.symm (hc.trans HZ.out)
      have hr0 : r = 0 := HR.out.trans hft
      have HY1 := Lib.hid (HY.out hr0)
      have HMT := Lib.hid (mayT_norm hft)
      have HYD := Lib.hid (And.intro (HY1.out.1.keep' Im_pos (D _)) (HY1.out.2.keep' Rm_pos (D _)))
      clear hc hft HY HN HY1 F x1 x4 HS HE
      have S0 : (w2.alloc (.cells #[.slice B3 i3 j3, .slice B4 i4 j4] 26)).drew.cell? ⟨w.heap.size, 0, none⟩ = some (.slice A sh.length c) ∧ (w2.alloc (.cells #[.slice B3 i3 j3, .slice B4 i4 j4] 26)).drew.cell? ⟨w.heap.size, 1, none⟩ = some (.slice A' es.length c') := ⟨y1.c0, y1.c1⟩
      go_wp2_with fail
      go_region_held3 (fun u => u.cell? ⟨w.heap.size, 0, none⟩ = some (.slice A sh.length c) ∧ u.cell? ⟨w.heap.size, 1, none⟩ = some (.slice A' es.length c')) (with_reducible exact S0) (first
        | ((with_reducible refine P2.out.mono ?_); rintro e wq ⟨rfl, rfl⟩))
      clear S0 P1 P2 a0 a1
      go_wp2_with fail
      generalize hWD : (w2.alloc (.cells #[.slice B3 i3 j3, .slice B4 i4 j4] 26)).drew = WD at FD y1 y4 HSD HED HYD ⊢
      have D2 := fun R => (Fr.refl R WD).drew
      have z1 := y1.keep (D2 _)
      have z4 := y4.keep (D2 _)
      have KS : ∀ u, Fr (fun k => k < WD.drew.heap.size) WD.drew u → u.cell? ⟨w.heap.size, 0, none⟩ = some (.slice A sh.length c) ∧ u.cell? ⟨w.heap.size, 1, none⟩ = some (.slice A' es.length c') ∧ u.cell? ⟨w2.heap.size, 0, none⟩ = some (.slice B3 i3 j3) ∧ u.cell? ⟨w2.heap.size, 1, none⟩ = some (.slice B4 i4 j4) := fun u h => ⟨(z1.keep h).c0, (z1.keep h).c1, (z4.keep h).c0, (z4.keep h).c1⟩
      have K0 := Fr.refl (fun k => k < WD.drew.heap.size) WD.drew
      have FE := FD.drew
      have HS2 := Lib.hid (HSD.out.keep' Im_pos (D2 _))
      have HE2 := Lib.hid (HED.out.keep' Rm_pos (D2 _))
      have HX1 := Lib.hid (HYD.out.1.keep' Im_pos (D2 _))
      have HX2 := Lib.hid (HYD.out.2.keep' Rm_pos (D2 _))
      have HX3 := Lib.hid (show Sl Rm _ _ (.slice B4 i4 j4) ((es.map qOf).map canR) by rw [← norm_can]; exact HX2.out)
      clear FD y1 y4 HSD HED HYD D2 z1 z4 D hWD
      go_region_held3 (fun u => u.cell? ⟨w.heap.size, 0, none⟩ = some (.slice A sh.length c) ∧ u.cell? ⟨w.heap.size, 1, none⟩ = some (.slice A' es.length c') ∧ u.cell? ⟨w2.heap.size, 0, none⟩ = some (.slice B3 i3 j3) ∧ u.cell? ⟨w2.heap.size, 1, none⟩ = some (.slice B4 i4 j4)) (with_reducible exact KS _ K0) (first
        | ((with_reducible refine (tof_t _ (.slice A sh.length c) (.slice A' es.length c') sh es (L + 1) (HS2.out.keep' Im_pos K0) (HE2.out.keep' Rm_pos K0) (by omega) (by omega) HL.out hl1 hl2).mono ?_); rintro e wq ⟨v5, v6, rfl, h5, h6, hf⟩; obtain ⟨B5, i5, j5, rfl⟩ := h5.form; obtain ⟨B6, i6, j6, rfl⟩ := h6.form; have K0 := fr_then K0 hf)
        | ((with_reducible refine (tis_t _ (.slice B5 i5 j5) (.slice B6 i6 j6) (.slice B3 i3 j3) (.slice B4 i4 j4) sh (es.map qOf) (L + 1) _ h5.sl h6.sl (HX1.out.keep' Im_pos K0) (HX3.out.keep' Rm_pos K0) HLQ.out (by omega)).mono ?_); rintro e wq ⟨rfl, hf⟩; have K0 := fr_then K0 hf)
        | ((with_reducible refine (may_h _ (.slice B3 i3 j3) (.slice B4 i4 j4) sh (es.map normR) (L + 1) 0 HMT (HX1.out.keep' Im_pos K0) (HX2.out.keep' Rm_pos K0) HLN.out hl1 hl2).mono ?_); rintro e wq ⟨rfl, hf⟩; have K0 := fr_then K0 hf)
        | ((with_reducible refine (tknown _).mono ?_); rintro e wq ⟨rfl, hf⟩; have K0 := fr_then K0 hf))
      go_wp2_with fail
      go_ret
      exact ⟨rfl, fr_then FE K0⟩
    · have hli : ((es.length : Int) == z) = false := by rw [beq_eq_false_iff_ne]; exact hc
      have hr13 : r = 13 := HR.out.trans (fitsT_13 HM.out.symm (fun h => hc (h.trans HZ.out.symm)))
      obtain ⟨e1, e2⟩ := HN.out (by rw [hr13]; decide)
      cases e1
      cases e2
      have S0 : (w2.alloc (.cells #[.slice none 0 0, .slice none 0 0] 26)).drew.cell? ⟨w.heap.size, 0, none⟩ = some (.slice A sh.length c) ∧ (w2.alloc (.cells #[.slice none 0 0, .slice none 0 0] 26)).drew.cell? ⟨w.heap.size, 1, none⟩ = some (.slice A' es.length c') := ⟨y1.c0, y1.c1⟩
      have z0 := y4.c0
      have z1 := y4.c1
      clear hc HY HN
      go_wp2_with fail
      go_region_held3 (fun u => u.cell? ⟨w.heap.size, 0, none⟩ = some (.slice A sh.length c) ∧ u.cell? ⟨w.heap.size, 1, none⟩ = some (.slice A' es.length c')) (with_reducible exact S0) (first
        | ((with_reducible refine P2.out.mono ?_); rintro e wq ⟨rfl, rfl⟩))
      clear S0 P1 P2
      go_wp2_with fail
      with_reducible refine (empty_t _).mono ?_
      rintro e wq ⟨rfl, hf1⟩
      go_wp2_with fail
      with_reducible refine (tknown _).mono ?_
      rintro e wz ⟨rfl, hf2⟩
      go_wp2_with fail
      go_ret
      exact ⟨rfl, fr_then (fr_then FD hf1) hf2⟩
  · have hrm : r = m := HR.out.trans ((fitsT_no (by rw [← HM.out]; exact hm0)).trans HM.out.symm)
    obtain ⟨e1, e2⟩ := HN.out (by rw [hrm]; exact hm0)
    cases e1
    cases e2
    have z0 := y4.c0
    have z1 := y4.c1
    have hmb : (m == 0) = false := beq_eq_false_iff_ne.2 hm0
    clear HY HN P2
    go_wp2_with fail
    go_region
    all_goals
      go_wp2_with fail
      with_reducible refine (empty_t _).mono ?_
      rintro e wq ⟨rfl, hf1⟩
      go_wp2_with fail
      with_reducible refine (tknown _).mono ?_
      rintro e wz ⟨rfl, hf2⟩
      go_wp2_with fail
      go_ret
      exact ⟨rfl, fr_then (fr_then FD hf1) hf2⟩
end Go.Proofs.YtjnojkfkhccgaaaGreat

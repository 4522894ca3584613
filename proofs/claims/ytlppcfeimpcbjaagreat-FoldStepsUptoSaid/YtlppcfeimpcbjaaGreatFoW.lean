import Derived.Test.YtlppcfeimpcbjaaGreatFoldF
import Derived.Test.YtlppcfeimpcbjaaGreatFoV
set_option linter.unusedSimpArgs false
set_option linter.unusedVariables false

/- FoldSteps: printed by gen_fow.py. -/
namespace Go.Proofs.YtlppcfeimpcbjaaGreat
open Go.RowKit

set_option maxRecDepth 20000 in
set_option maxHeartbeats 32000000 in
theorem fsteps_walk {S T : Nat → Prop} {sha axes : List Int} {ea : List RatL} (w : World) (vx vy : Value) (L : Nat) (hx : TL S w vx sha ea L) (hy : Sl Im T w vy axes) (_hl : axes.length ≤ L) (hL : L ≤ 1048576) :
    Calls Tryz.prog 5 #[vx, vy] w fun e w' => e = .returned (.bool true) ∧ Fr (fun k => k < w.heap.size) w w' := by
  have FA := Lib.hid (hx.fit hL)
  obtain ⟨va, ve, rfl, ha, he⟩ := hx.ex
  obtain ⟨A, c, rfl, _, _, _⟩ := ha.slice
  obtain ⟨A', c', rfl, _, _, _⟩ := he.slice
  obtain ⟨B, d, rfl, _, _, _⟩ := hy.slice
  have HA := TV.hold ⟨ha.any, he.any⟩
  have HX : Hold (fun u => Sl Im (fun _ => True) u (.slice B axes.length d) axes) w := fun _ hu => hy.any.keep' Im_pos hu
  clear hx ha he hy
  have F := ((Fr.refl (fun k => k < w.heap.size) w).alloc (.cells #[.slice A sha.length c, .slice A' ea.length c'] 26))
  have xa := (Box2.new w 26 (.slice A sha.length c) (.slice A' ea.length c'))
  replace HA := HA.keep (F.mono fun k h _ => h)
  replace HX := HX.keep (F.mono fun k h _ => h)
  obtain ⟨b1, hb1⟩ : ∃ b, few10B ea = b := ⟨_, rfl⟩
  have HB1 := Lib.hid hb1
  obtain ⟨b2, hb2⟩ : ∃ b, axB axes sha.length = b := ⟨_, rfl⟩
  have HB2 := Lib.hid hb2
  obtain ⟨r0, hr0⟩ : ∃ r, mayT sha ea = r := ⟨_, rfl⟩
  have HR0 := Lib.hid hr0
  clear hb1 hb2 hr0
  go_enter Tryz.func5, Tryz.ntmps5
  have P := Lib.hid (few10_u HA.now HB1)
  have pp20 := xa.c0
  have pp21 := xa.c1
  go_wp2_with fail
  clear pp20 pp21
  with_reducible refine P.out.mono ?_
  rintro e V1 ⟨v, rfl, hf, H⟩
  obtain rfl := H.now
  replace xa := xa.keep hf
  replace HA := HA.keep hf
  replace HX := HX.keep hf
  replace F := fr_then F hf
  clear P hf H
  cases b1 with
  | false =>
    have P := Lib.hid (known10_u V1)
    have pp20 := xa.c0
    have pp21 := xa.c1
    go_wp2_with fail
    clear pp20 pp21
    with_reducible refine P.out.mono ?_
    rintro e V2 ⟨v, rfl, hf, H⟩
    obtain rfl := H.now
    replace xa := xa.keep hf
    replace HA := HA.keep hf
    replace HX := HX.keep hf
    replace F := fr_then F hf
    clear P hf H
    have pp20 := xa.c0
    have pp21 := xa.c1
    go_wp2_with fail
    clear pp20 pp21
    go_ret
    exact ⟨rfl, F⟩
  | true =>
    have GA := fit3 FA.out HB1.out
    have G3 := Lib.hid GA.1
    have h64 := GA.2
    clear GA
    have P := Lib.hid (may_u HA.now G3 HR0)
    have pp20 := xa.c0
    have pp21 := xa.c1
    go_wp2_with fail
    clear pp20 pp21
    with_reducible refine P.out.mono ?_
    rintro e V3 ⟨v, rfl, hf, H⟩
    obtain rfl := H.now
    replace xa := xa.keep hf
    replace HA := HA.keep hf
    replace HX := HX.keep hf
    replace F := fr_then F hf
    clear P hf H
    by_cases h0 : r0 = 0
    case neg =>
      have hb0 : (r0 == 0) = false := beq_eq_false_iff_ne.2 h0
      have P := Lib.hid (known10_u V3)
      have pp20 := xa.c0
      have pp21 := xa.c1
      go_wp2_with fail
      clear pp20 pp21
      with_reducible refine P.out.mono ?_
      rintro e V4 ⟨v, rfl, hf, H⟩
      obtain rfl := H.now
      replace xa := xa.keep hf
      replace HA := HA.keep hf
      replace HX := HX.keep hf
      replace F := fr_then F hf
      clear P hf H
      have pp20 := xa.c0
      have pp21 := xa.c1
      go_wp2_with fail
      clear pp20 pp21
      go_ret
      exact ⟨rfl, F⟩
    subst h0
    have P := Lib.hid (r6axes_u HX.now HB2)
    have pp20 := xa.c0
    have pp21 := xa.c1
    go_wp2_with fail
    clear pp20 pp21
    with_reducible refine P.out.mono ?_
    rintro e V5 ⟨v, rfl, hf, H⟩
    obtain rfl := H.now
    replace xa := xa.keep hf
    replace HA := HA.keep hf
    replace HX := HX.keep hf
    replace F := fr_then F hf
    clear P hf H
    cases b2 with
    | false =>
      have P := Lib.hid (known10_u V5)
      have pp20 := xa.c0
      have pp21 := xa.c1
      go_wp2_with fail
      clear pp20 pp21
      with_reducible refine P.out.mono ?_
      rintro e V6 ⟨v, rfl, hf, H⟩
      obtain rfl := H.now
      replace xa := xa.keep hf
      replace HA := HA.keep hf
      replace HX := HX.keep hf
      replace F := fr_then F hf
      clear P hf H
      have pp20 := xa.c0
      have pp21 := xa.c1
      go_wp2_with fail
      clear pp20 pp21
      go_ret
      exact ⟨rfl, F⟩
    | true =>
      have hma := mayT_ok HR0.out
      have hax := of_decide_eq_true HB2.out
      obtain ⟨-, hd1, -⟩ := mayS_ok hma.1
      have hcn : (ea.length : Int) = pr sha := by rw [hma.2.1, cntS_ok hma.1]
      have hcm : ((ea.map qOf).length : Int) = pr sha := by rw [List.length_map]; exact hcn
      have HRI := Lib.hid hax.1
      have HAL := Lib.hid hax.2
      have HMS := Lib.hid hma.1
      have HCM := Lib.hid hcm
      have HE0 : Hid (sumE sha ea [] = 0) := Lib.hid ((if_neg (by rw [HR0.out]; simp)).trans (axE_0 (fun i hi => absurd hi (Nat.not_lt_zero _)) (fun x hx => absurd hx List.not_mem_nil)))
      have HE1 : Hid (sumE sha ea axes = 0) := Lib.hid ((if_neg (by rw [HR0.out]; simp)).trans (axE_0 hax.1 hax.2))
      have HD0 : Hid (dropI [] 0 sha = sha) := Lib.hid drop_none
      have HQ0 : Hid (sumL (plc sha []) (ea.map qOf) (pr sha).toNat ea.length = ea.map qOf) := Lib.hid (by
        have h := sumL_nil (q := ea.map qOf) hd1 hcm
        rw [List.length_map] at h
        rw [show (pr sha).toNat = ea.length by omega]
        exact h)
      have HCAN : Hid ((ea.map qOf).map canR = ea) := Lib.hid (by
        rw [List.map_map]
        exact (List.map_congr_left fun x hx => (like_eq (hma.2.2 x hx)).symm).trans (List.map_id _))
      have F5 : Hid (Fit sha ((ea.map qOf).map canR) 3) := Lib.hid (by rw [HCAN.out]; exact G3.out)
      have HQ5 : Hid (((ea.map qOf).map canR).map qOf = ea.map qOf) := Lib.hid (by rw [HCAN.out])
      obtain ⟨sh', hsh⟩ : ∃ s, dropI axes 0 sha = s := ⟨_, rfl⟩
      obtain ⟨qs, hqs⟩ : ∃ s, sumL (plc sha axes) (ea.map qOf) (pr sh').toNat ea.length = s := ⟨_, rfl⟩
      have HSH := Lib.hid hsh
      have HQS := Lib.hid hqs
      have hmd := drop_may (axes := axes) hma.1
      rw [hsh] at hmd
      have hps := pr_pos (mayS_ok hmd).2.1
      have hql : qs.length = (pr sh').toNat := by rw [← hqs, sumL_len]
      have HM7 : Hid (mayT sh' (qs.map canR) = 0) := Lib.hid (mayT_can hmd (by omega))
      have hpl := drop_pr (axes := axes) (i := 0) hd1
      rw [hsh] at hpl
      have hl4 := (mayS_ok hmd).1
      have F7 : Hid (Fit sh' (qs.map canR) 300) := Lib.hid (fit_can (by omega) (by omega) (fun q hq => by
        rw [← hqs] at hq
        exact (lensl_sum _ (fun x hx => G3.out.lens x hx) (by decide) _ _ q hq).wide (by omega)) (by decide) (by decide))
      have G300 : Hid (Fit sha ea 300) := Lib.hid (fit_wide G3.out (by decide) (by decide))
      clear hsh hqs hma hax hd1 hcm hmd hps hql hl4 hpl hcn
      have P := Lib.hid (sum_u (K := 300) HA.now (Sl.nil Im (fun _ => True) _) G3 HE0 HD0 HQ0 (Lib.hid (by omega)))
      have pp20 := xa.c0
      have pp21 := xa.c1
      go_wp2_with fail
      clear pp20 pp21
      with_reducible refine P.out.mono ?_
      rintro e W5 ⟨v, rfl, hf, H⟩
      obtain ⟨A5, n5, c5, B5, m5, k5, rfl, -⟩ := H.now
      have al := fun R => (Fr.refl R W5).alloc (.cells #[.slice A5 n5 c5, .slice B5 m5 k5] 26)
      replace xa := xa.keep hf
      replace HA := HA.keep hf
      replace HX := HX.keep hf
      replace F := fr_then F hf
      replace xa := xa.keep (al _)
      replace HA := HA.keep (al _)
      replace HX := HX.keep (al _)
      replace F := fr_then F (al _)
      have z5 := Box2.new W5 26 (.slice A5 n5 c5) (.slice B5 m5 k5)
      have H5 : Hold (fun u => TC 0 sha ((ea.map qOf).map canR) u (.slice A5 n5 c5) (.slice B5 m5 k5)) (W5.alloc (.cells #[.slice A5 n5 c5, .slice B5 m5 k5] 26)) := (H.mono fun _ h => h.out).keep (al _)
      clear P hf H al
      have P := Lib.hid (sum_u (K := 300) HA.now HX.now G3 HE1 HSH HQS (Lib.hid (by omega)))
      have pp20 := xa.c0
      have pp21 := xa.c1
      have pp50 := z5.c0
      have pp51 := z5.c1
      go_wp2_with fail
      clear pp20 pp21 pp50 pp51
      generalize W5.alloc (.cells #[.slice A5 n5 c5, .slice B5 m5 k5] 26) = U5 at *
      generalize W5.heap.size = b5 at *
      with_reducible refine P.out.mono ?_
      rintro e W7 ⟨v, rfl, hf, H⟩
      obtain ⟨A7, n7, c7, B7, m7, k7, rfl, -⟩ := H.now
      have al := fun R => (Fr.refl R W7).alloc (.cells #[.slice A7 n7 c7, .slice B7 m7 k7] 26)
      replace xa := xa.keep hf
      replace z5 := z5.keep hf
      replace HA := HA.keep hf
      replace H5 := H5.keep hf
      replace HX := HX.keep hf
      replace F := fr_then F hf
      replace xa := xa.keep (al _)
      replace z5 := z5.keep (al _)
      replace HA := HA.keep (al _)
      replace H5 := H5.keep (al _)
      replace HX := HX.keep (al _)
      replace F := fr_then F (al _)
      have z7 := Box2.new W7 26 (.slice A7 n7 c7) (.slice B7 m7 k7)
      have H7 : Hold (fun u => TC 0 sh' (qs.map canR) u (.slice A7 n7 c7) (.slice B7 m7 k7)) (W7.alloc (.cells #[.slice A7 n7 c7, .slice B7 m7 k7] 26)) := (H.mono fun _ h => h.out).keep (al _)
      clear P hf H al
      have P := Lib.hid (tsame_u (H5.now.2 rfl) HA.now F5 G3 rfl HQ5)
      have pp20 := xa.c0
      have pp21 := xa.c1
      have pp50 := z5.c0
      have pp51 := z5.c1
      have pp70 := z7.c0
      have pp71 := z7.c1
      go_wp2_with fail
      clear pp20 pp21 pp50 pp51 pp70 pp71
      generalize W7.alloc (.cells #[.slice A7 n7 c7, .slice B7 m7 k7] 26) = U7 at *
      generalize W7.heap.size = b7 at *
      with_reducible refine P.out.mono ?_
      rintro e V7 ⟨v, rfl, hf, H⟩
      obtain rfl := H.now
      replace xa := xa.keep hf
      replace z5 := z5.keep hf
      replace z7 := z7.keep hf
      replace HA := HA.keep hf
      replace H5 := H5.keep hf
      replace H7 := H7.keep hf
      replace HX := HX.keep hf
      replace F := fr_then F hf
      clear P hf H
      have P := Lib.hid (tmay_u (H7.now.2 rfl) F7 HM7)
      have pp20 := xa.c0
      have pp21 := xa.c1
      have pp50 := z5.c0
      have pp51 := z5.c1
      have pp70 := z7.c0
      have pp71 := z7.c1
      go_wp2_with fail
      clear pp20 pp21 pp50 pp51 pp70 pp71
      with_reducible refine P.out.mono ?_
      rintro e V8 ⟨v, rfl, hf, H⟩
      obtain rfl := H.now
      replace xa := xa.keep hf
      replace z5 := z5.keep hf
      replace z7 := z7.keep hf
      replace HA := HA.keep hf
      replace H5 := H5.keep hf
      replace H7 := H7.keep hf
      replace HX := HX.keep hf
      replace F := fr_then F hf
      clear P hf H
      by_cases hz : 0 < axes.length
      case neg =>
        have hbz : ((axes.length : Int) == 0) = true := beq_iff_eq.2 (by omega)
        have hnil : axes = [] := List.eq_nil_of_length_eq_zero (by omega)
        have hs7 : sh' = sha := by rw [← HSH.out, hnil]; exact drop_none
        have HQ7 : Hid ((qs.map canR).map qOf = ea.map qOf) := Lib.hid (by rw [← HQS.out, hs7, hnil, HQ0.out]; exact HQ5.out)
        have HS7 := Lib.hid hs7
        clear hnil hs7
        have P := Lib.hid (tsame_u (H7.now.2 rfl) HA.now F7 G300 HS7.out HQ7)
        have pp20 := xa.c0
        have pp21 := xa.c1
        have pp50 := z5.c0
        have pp51 := z5.c1
        have pp70 := z7.c0
        have pp71 := z7.c1
        go_wp2_with fail
        clear pp20 pp21 pp50 pp51 pp70 pp71
        with_reducible refine P.out.mono ?_
        rintro e V9 ⟨v, rfl, hf, H⟩
        obtain rfl := H.now
        replace xa := xa.keep hf
        replace z5 := z5.keep hf
        replace z7 := z7.keep hf
        replace HA := HA.keep hf
        replace H5 := H5.keep hf
        replace H7 := H7.keep hf
        replace HX := HX.keep hf
        replace F := fr_then F hf
        clear P hf H
        have P := Lib.hid (known10_u V9)
        have pp20 := xa.c0
        have pp21 := xa.c1
        have pp50 := z5.c0
        have pp51 := z5.c1
        have pp70 := z7.c0
        have pp71 := z7.c1
        go_wp2_with fail
        clear pp20 pp21 pp50 pp51 pp70 pp71
        with_reducible refine P.out.mono ?_
        rintro e V10 ⟨v, rfl, hf, H⟩
        obtain rfl := H.now
        replace xa := xa.keep hf
        replace z5 := z5.keep hf
        replace z7 := z7.keep hf
        replace HA := HA.keep hf
        replace H5 := H5.keep hf
        replace H7 := H7.keep hf
        replace HX := HX.keep hf
        replace F := fr_then F hf
        clear P hf H
        have pp20 := xa.c0
        have pp21 := xa.c1
        have pp50 := z5.c0
        have pp51 := z5.c1
        have pp70 := z7.c0
        have pp71 := z7.c1
        go_wp2_with fail
        clear pp20 pp21 pp50 pp51 pp70 pp71
        go_ret
        exact ⟨rfl, F⟩
      have hbz : ((axes.length : Int) == 0) = false := beq_eq_false_iff_ne.2 (by omega)
      obtain ⟨m, hm⟩ : ∃ m, axes.length - 1 = m := ⟨_, rfl⟩
      have hm1 : m < axes.length := by omega
      have hw : IntKind.i64.wrap ((axes.length : Int) - 1) = (m : Int) := by rw [IntKind.wrap_i64]; omega
      obtain ⟨ad, rfl, -, hx1, hx2⟩ := Kd.int_cell HX.now (i := m) hm1
      obtain ⟨last, hlast⟩ : ∃ x, axes[m] = x := ⟨_, rfl⟩
      obtain ⟨ini, hini⟩ : ∃ x, axes.take m = x := ⟨_, rfl⟩
      rw [hlast] at hx1 hx2
      have hle : ini.length = m := by rw [← hini, List.length_take]; omega
      have hap : ini ++ [last] = axes := by
        rw [← hini, ← hlast, List.take_append_getElem, show m + 1 = axes.length by omega, List.take_length]
      have HLAST : Hid (∀ h : m < axes.length, axes[m] = last) := Lib.hid fun _ => hlast
      have HLR : Hid (-9223372036854775808 ≤ last ∧ last < 9223372036854775808) := Lib.hid ⟨by omega, by omega⟩
      have HI : Hold (fun u => Sl Im (fun _ => True) u (.slice (some ad) m d) ini) V8 := fun u hu => by
        have := (HX.at hu).take (m := m) (by omega)
        rwa [hini] at this
      have hri := HRI.out
      have hal := HAL.out
      rw [← hap] at hri hal
      obtain ⟨k1, k2, k3, k4⟩ := steps_two (q := ea.map qOf) HMS.out HCM.out hri hal
      rw [hap] at k3 k4
      obtain ⟨sh1, hsh1⟩ : ∃ s, dropI [last] 0 sha = s := ⟨_, rfl⟩
      rw [hsh1] at k1 k3 k4
      have hms1 := drop_may (axes := [last]) HMS.out
      rw [hsh1] at hms1
      have hps1 := pr_pos (mayS_ok hms1).2.1
      obtain ⟨q1, hq1⟩ : ∃ s, sumL (plc sha [last]) (ea.map qOf) (pr sh1).toNat ea.length = s := ⟨_, rfl⟩
      have hql1 : q1.length = (pr sh1).toNat := by rw [← hq1, sumL_len]
      have hle4 := (mayS_ok hms1).1
      have hpl1 := drop_pr (axes := [last]) (i := 0) (mayS_ok HMS.out).2.1
      have hcn := HCM.out
      rw [List.length_map] at hcn
      rw [hsh1, ← hcn] at hpl1
      have hq64 : q1.length ≤ 64 := by omega
      have HE9 : Hid (sumE sha ea [last] = 0) := Lib.hid ((if_neg (by rw [HR0.out]; simp)).trans k2)
      have HD9 := Lib.hid hsh1
      have HQ9 := Lib.hid hq1
      have hmq1 := mayT_can (qs := q1) hms1 (by omega)
      have HE10 : Hid (sumE sh1 (q1.map canR) ini = 0) := Lib.hid ((if_neg (by rw [hmq1]; simp)).trans k1)
      have HD10 : Hid (dropI ini 0 sh1 = sh') := Lib.hid (k3.trans HSH.out)
      have HQ10 : Hid (sumL (plc sh1 ini) ((q1.map canR).map qOf) (pr sh').toNat (q1.map canR).length = qs) := Lib.hid (by
        have h := k4 (pr sh').toNat
        rw [List.length_map, hq1, HQS.out, ← hql1] at h
        rw [List.length_map, List.map_map, show (qOf ∘ canR) = id from funext fun q => qOf_can q, List.map_id]
        exact h)
      have F1 : Hid (Fit sh1 (q1.map canR) 300) := Lib.hid (fit_can (by omega) (by omega) (fun q hq => by
        rw [← hq1] at hq
        exact (lensl_sum _ (fun x hx => G3.out.lens x hx) (by decide) _ _ q hq).wide (by omega)) (by decide) (by decide))
      have HK10 : Hid ((q1.map canR).length * (300 + 1) + 1 ≤ 20000 ∧ 300 ≤ 20000 ∧ 20000 ≤ 104857600) := Lib.hid ⟨by rw [List.length_map]; omega, by decide, by decide⟩
      clear hri hal k1 k2 k3 k4 hsh1 hms1 hps1 hq1 hql1 hle4 hpl1 hcn hq64 hmq1 hlast hini hap hx1 hx2 hm
      have pp20 := xa.c0
      have pp21 := xa.c1
      have pp50 := z5.c0
      have pp51 := z5.c1
      have pp70 := z7.c0
      have pp71 := z7.c1
      go_wp2_with fail
      clear pp20 pp21 pp50 pp51 pp70 pp71
      have DR := fun R => (Fr.refl R V8).drew
      replace xa := xa.keep (DR _)
      replace z5 := z5.keep (DR _)
      replace z7 := z7.keep (DR _)
      replace HA := HA.keep (DR _)
      replace H5 := H5.keep (DR _)
      replace H7 := H7.keep (DR _)
      replace HX := HX.keep (DR _)
      replace HI := HI.keep (DR _)
      replace F := F.drew
      clear DR
      refine wpTill.begin (fun _ => True) 13 (by kernel_rfl) ?_
      change wpTill _ _ _ _ _ _ 15 _ _ _
      refine wpTill.free (jj := 13) (m := 2) [(0, Fact.eq (.agg #[.slice A sha.length c, .slice A' ea.length c'])),
            (1, Fact.eq (.slice (some ad) axes.length d)),
            (2, Fact.eq (.slice (some ad) axes.length d)),
            (3, Fact.eq (.int .i64 (axes.length : Int))),
            (4, Fact.eq (.int .i64 (m : Int))),
            (5, Fact.eq (.pointer (some (ad.add m)))),
            (6, Fact.eq (.int .i64 last)),
            (7, Fact.held (IntG [last])),
            (8, Fact.held (Tup (0) (TC 0 sh1 (q1.map canR)))),
            (9, Fact.same 8),
            (10, Fact.fst 9),
            (12, Fact.mem (New2 V8.drew.heap.size 26 (.slice none 0 0) (.slice none 0 0)) New2.keep)] [(11, Fact.snd 9)] [0, 0, 0, 4, 12, 30, 62, 126, 255, 511, 1023, 1023, 0, 6143, 16383] [] ?_ (by kernel_rfl) (by kernel_rfl) (by kernel_rfl) [(0, some 68), (1, some 69), (2, some 70), (3, some 71), (4, some 72), (5, some 73), (6, some 74), (7, some 75), (8, some 76), (9, some 67), (10, some 77), (12, some 9), (11, some 78)] (by kernel_rfl) ?hA1 ?hQ1 (fun _ _ => trivial) (by kernel_rfl) ?steps1 ?looses1 ?cont1
      case hQ1 => exact fun _ _ _ _ _ h => h
      case hA1 =>
        intro vs
        simp only [fillD, List.foldl_cons, List.foldl_nil, Act.put, List.setIfInBounds_toArray, List.set_cons_zero, List.set_cons_succ]
        exact rfl
      case steps1 =>
        refine ⟨?_, ?_, ?_, ?_, ?_, ?_, ?_, ?_, ?_, ?_, ?_, ?_, trivial⟩
        · rintro vs u ⟨hV0, hV1, hV2, hV3, hV4, hV5, hV6, hV7, hV8, hV9, hV10, hV12, hV11, -⟩ G
          have o0 := (xa.keep G).c0
          have o1 := (xa.keep G).c1
          exact stepAt.pure (v := .agg #[.slice A sha.length c, .slice A' ea.length c']) rfl rfl (by go_simp) rfl
        · rintro vs u ⟨hV0, hV1, hV2, hV3, hV4, hV5, hV6, hV7, hV8, hV9, hV10, hV12, hV11, -⟩ G
          exact stepAt.pure (v := .slice (some ad) axes.length d) rfl rfl (by go_simp) rfl
        · rintro vs u ⟨hV0, hV1, hV2, hV3, hV4, hV5, hV6, hV7, hV8, hV9, hV10, hV12, hV11, -⟩ G
          exact stepAt.pure (v := .slice (some ad) axes.length d) rfl rfl (by go_simp) rfl
        · rintro vs u ⟨hV0, hV1, hV2, hV3, hV4, hV5, hV6, hV7, hV8, hV9, hV10, hV12, hV11, -⟩ G
          have eV2 : vs 2 = .slice (some ad) axes.length d := hV2 rfl
          exact stepAt.pure (v := .int .i64 (axes.length : Int)) rfl rfl (by simp only [eV2]; go_simp) rfl
        · rintro vs u ⟨hV0, hV1, hV2, hV3, hV4, hV5, hV6, hV7, hV8, hV9, hV10, hV12, hV11, -⟩ G
          have eV3 : vs 3 = .int .i64 (axes.length : Int) := hV3 rfl
          exact stepAt.pure (v := .int .i64 (m : Int)) rfl rfl (by simp only [eV3]; go_simp <;> (first | exact hw | omega)) rfl
        · rintro vs u ⟨hV0, hV1, hV2, hV3, hV4, hV5, hV6, hV7, hV8, hV9, hV10, hV12, hV11, -⟩ G
          have eV1 : vs 1 = .slice (some ad) axes.length d := hV1 rfl
          have eV4 : vs 4 = .int .i64 (m : Int) := hV4 rfl
          exact stepAt.pure (v := .pointer (some (ad.add m))) rfl rfl (by simp only [eV1, eV4]; go_simp <;> omega) rfl
        · rintro vs u ⟨hV0, hV1, hV2, hV3, hV4, hV5, hV6, hV7, hV8, hV9, hV10, hV12, hV11, -⟩ G
          obtain ⟨ad', hA', o0, _, _⟩ := Kd.int_cell (HX.at G) (i := m) hm1
          cases hA'
          rw [HLAST.out hm1] at o0
          have eV5 : vs 5 = .pointer (some (ad.add m)) := hV5 rfl
          exact stepAt.pure (v := .int .i64 last) rfl rfl (by simp only [eV5]; go_simp) rfl
        · rintro vs u ⟨hV0, hV1, hV2, hV3, hV4, hV5, hV6, hV7, hV8, hV9, hV10, hV12, hV11, -⟩ G
          have eV6 : vs 6 = .int .i64 last := hV6 rfl
          exact stepAt.value (v := .slice (some ⟨u.heap.size, 0, none⟩) 1 1) (u := u.alloc (.cells #[.int .i64 last] 3)) rfl rfl (by simp only [eV6]; go_simp) ((Fr.refl _ _).alloc _) (ints_hold u 3 [last] _ rfl (fun x hx => by rw [List.mem_singleton] at hx; subst hx; exact HLR.out) (by simp))
        · rintro vs u ⟨hV0, hV1, hV2, hV3, hV4, hV5, hV6, hV7, hV8, hV9, hV10, hV12, hV11, -⟩ G
          refine stepAt.call (f := 13) (args := #[vs 0, vs 7]) rfl rfl (by go_simp) ?_
          have eV0 : vs 0 = .agg #[.slice A sha.length c, .slice A' ea.length c'] := hV0 rfl
          have HV7 : Hold (fun u' => (IntG [last]) u' (vs 7)) u := hV7 rfl
          obtain ⟨A1_7, n1_7, c1_7, eV7, -⟩ := HV7.now
          rw [eV7] at HV7
          rw [eV0, eV7]
          exact sum_g (K := 300) (HA.at G) HV7.now G3 HE9 HD9 HQ9 (Lib.hid (by omega))
        · rintro vs u ⟨hV0, hV1, hV2, hV3, hV4, hV5, hV6, hV7, hV8, hV9, hV10, hV12, hV11, -⟩ G
          exact stepAt.pure (v := vs 8) rfl rfl (by go_simp) rfl
        · rintro vs u ⟨hV0, hV1, hV2, hV3, hV4, hV5, hV6, hV7, hV8, hV9, hV10, hV12, hV11, -⟩ G
          have HV8 : Hold (fun u' => (Tup (0) (TC 0 sh1 (q1.map canR))) u' (vs 8)) u := hV8 rfl
          obtain ⟨A1_8, n1_8, c1_8, B1_8, m1_8, k1_8, eV8, -⟩ := HV8.now
          rw [eV8] at HV8
          have eV9 : vs 9 = .tuple #[.agg #[.slice A1_8 n1_8 c1_8, .slice B1_8 m1_8 k1_8], .int .i64 0] := (show vs 9 = vs 8 from hV9 rfl).trans eV8
          exact stepAt.pure (v := .agg #[.slice A1_8 n1_8 c1_8, .slice B1_8 m1_8 k1_8]) rfl rfl (by simp only [eV9]; go_simp) ⟨_, _, eV9, rfl⟩
        · rintro vs u ⟨hV0, hV1, hV2, hV3, hV4, hV5, hV6, hV7, hV8, hV9, hV10, hV12, hV11, -⟩ G
          exact stepAt.value (v := .pointer (some ⟨u.heap.size, 0, none⟩)) (u := u.alloc (.cells #[.slice none 0 0, .slice none 0 0] 26)) rfl rfl (by go_simp) ((Fr.refl _ _).alloc _) ⟨_, rfl, G.size, Box2.new _ _ _ _⟩
      case looses1 =>
        refine ⟨?_, trivial⟩
        · rintro vs u ⟨hV0, hV1, hV2, hV3, hV4, hV5, hV6, hV7, hV8, hV9, hV10, hV12, hV11, -⟩ G
          have HV8 : Hold (fun u' => (Tup (0) (TC 0 sh1 (q1.map canR))) u' (vs 8)) u := hV8 rfl
          obtain ⟨A1_8, n1_8, c1_8, B1_8, m1_8, k1_8, eV8, -⟩ := HV8.now
          rw [eV8] at HV8
          have eV9 : vs 9 = .tuple #[.agg #[.slice A1_8 n1_8 c1_8, .slice B1_8 m1_8 k1_8], .int .i64 0] := (show vs 9 = vs 8 from hV9 rfl).trans eV8
          exact pureAt.of (v := .int .i64 0) rfl rfl (fun _ => by simp only [eV9]; go_simp) ⟨_, _, eV9, rfl⟩
      rintro vs u ⟨hV0, hV1, hV2, hV3, hV4, hV5, hV6, hV7, hV8, hV9, hV10, hV12, hV11, -⟩ G
      have eV0 : vs 0 = .agg #[.slice A sha.length c, .slice A' ea.length c'] := hV0
      have eV1 : vs 1 = .slice (some ad) axes.length d := hV1
      have eV2 : vs 2 = .slice (some ad) axes.length d := hV2
      have eV3 : vs 3 = .int .i64 (axes.length : Int) := hV3
      have eV4 : vs 4 = .int .i64 (m : Int) := hV4
      have eV5 : vs 5 = .pointer (some (ad.add m)) := hV5
      have eV6 : vs 6 = .int .i64 last := hV6
      replace hV7 : Hold (fun u' => (IntG [last]) u' (vs 7)) u := hV7
      obtain ⟨A1_7, n1_7, c1_7, eV7, -⟩ := hV7.now
      rw [eV7] at hV7
      replace hV8 : Hold (fun u' => (Tup (0) (TC 0 sh1 (q1.map canR))) u' (vs 8)) u := hV8
      obtain ⟨A1_8, n1_8, c1_8, B1_8, m1_8, k1_8, eV8, -⟩ := hV8.now
      rw [eV8] at hV8
      have eV9 : vs 9 = _ := (show vs 9 = vs 8 from hV9).trans eV8
      obtain ⟨x10, z10, a10, eV10⟩ := hV10
      have a10 := eV9.symm.trans a10
      cases a10
      replace eV10 : vs 10 = _ := eV10
      obtain ⟨b1_12, eV12, l1_12, y1_12⟩ := hV12
      replace eV12 : vs 12 = _ := eV12
      obtain ⟨x11, z11, a11, eV11⟩ := hV11
      have a11 := eV9.symm.trans a11
      cases a11
      replace eV11 : vs 11 = _ := eV11
      simp only [eV0, eV1, eV2, eV3, eV4, eV5, eV6, eV7, eV8, eV9, eV10, eV12, eV11]
      clear eV0 eV1 eV2 eV3 eV4 eV5 eV6 eV7 eV8 eV9 eV10 eV12 eV11 hV0 hV1 hV2 hV3 hV4 hV5 hV6 hV9
      have g0 := y1_12.free 0
      have g1 := y1_12.free 1
      have g2 := y1_12.c0
      have g3 := y1_12.c1
      refine wpTill.next 13 rfl (by kernel_rfl) (by rfl) (fun K hK => ?_)
      go_simp
      refine hK _ _ (no_wait (by kernel_rfl)) ?_
      clear hK K
      refine wpTill.next 14 rfl (by kernel_rfl) (by rfl) (fun K hK => ?_)
      go_simp
      refine hK _ _ (no_wait (by kernel_rfl)) ?_
      clear hK K
      refine wpTill.done (by kernel_rfl) ?_
      have F9 := fr_put2 u b1_12 (.slice A1_8 n1_8 c1_8) (.slice B1_8 m1_8 k1_8)
      have G9 := G.comp F9 (R := fun k => k < V8.drew.heap.size) fun k _ hk => ⟨hk, by omega⟩
      have z1 := y1_12.set2 (.slice A1_8 n1_8 c1_8) (.slice B1_8 m1_8 k1_8)
      have T1 := (hV8.now.out.fill (.slice A1_8 n1_8 c1_8) (.slice B1_8 m1_8 k1_8) y1_12).hold
      replace xa := xa.keep G9
      replace z5 := z5.keep G9
      replace z7 := z7.keep G9
      replace HA := HA.keep G9
      replace H5 := H5.keep G9
      replace H7 := H7.keep G9
      replace HX := HX.keep G9
      replace HI := HI.keep G9
      replace F := fr_then F G9
      generalize (u.setCell ⟨b1_12, 0, none⟩ (.slice A1_8 n1_8 c1_8)).setCell ⟨b1_12, 1, none⟩ (.slice B1_8 m1_8 k1_8) = U1 at z1 T1 xa z5 z7 HA H5 H7 HX HI F ⊢
      clear g0 g1 g2 g3 F9 G9 G y1_12 l1_12 hV8
      go_wp2_with fail
      have DR := fun R => (Fr.refl R U1).drew
      replace xa := xa.keep (DR _)
      replace z5 := z5.keep (DR _)
      replace z7 := z7.keep (DR _)
      replace z1 := z1.keep (DR _)
      replace HA := HA.keep (DR _)
      replace H5 := H5.keep (DR _)
      replace H7 := H7.keep (DR _)
      replace T1 := T1.keep (DR _)
      replace HX := HX.keep (DR _)
      replace HI := HI.keep (DR _)
      replace F := F.drew
      clear DR
      refine wpTill.begin (fun _ => True) 11 (by kernel_rfl) ?_
      change wpTill _ _ _ _ _ _ 13 _ _ _
      refine wpTill.free (jj := 11) (m := 2) [(0, Fact.eq (.agg #[.slice A1_8 n1_8 c1_8, .slice B1_8 m1_8 k1_8])),
            (1, Fact.eq (.slice (some ad) axes.length d)),
            (2, Fact.eq (.slice (some ad) axes.length d)),
            (3, Fact.eq (.int .i64 (axes.length : Int))),
            (4, Fact.eq (.int .i64 (m : Int))),
            (5, Fact.eq (.slice (some ad) m d)),
            (6, Fact.held (Tup (0) (TC 0 sh' (qs.map canR)))),
            (7, Fact.same 6),
            (8, Fact.fst 7),
            (10, Fact.mem (New2 U1.drew.heap.size 26 (.slice none 0 0) (.slice none 0 0)) New2.keep)] [(9, Fact.snd 7)] [0, 0, 0, 4, 12, 30, 63, 127, 255, 255, 0, 1535, 4095] [] ?_ (by kernel_rfl) (by kernel_rfl) (by kernel_rfl) [(0, some 80), (1, some 81), (2, some 82), (3, some 83), (4, some 84), (5, some 85), (6, some 86), (7, some 79), (8, some 87), (10, some 11), (9, some 88)] (by kernel_rfl) ?hA2 ?hQ2 (fun _ _ => trivial) (by kernel_rfl) ?steps2 ?looses2 ?cont2
      case hQ2 => exact fun _ _ _ _ _ h => h
      case hA2 =>
        intro vs
        simp only [fillD, List.foldl_cons, List.foldl_nil, Act.put, List.setIfInBounds_toArray, List.set_cons_zero, List.set_cons_succ]
        exact rfl
      case steps2 =>
        refine ⟨?_, ?_, ?_, ?_, ?_, ?_, ?_, ?_, ?_, ?_, trivial⟩
        · rintro vs u ⟨hV0, hV1, hV2, hV3, hV4, hV5, hV6, hV7, hV8, hV10, hV9, -⟩ G
          have o0 := (z1.keep G).c0
          have o1 := (z1.keep G).c1
          exact stepAt.pure (v := .agg #[.slice A1_8 n1_8 c1_8, .slice B1_8 m1_8 k1_8]) rfl rfl (by go_simp) rfl
        · rintro vs u ⟨hV0, hV1, hV2, hV3, hV4, hV5, hV6, hV7, hV8, hV10, hV9, -⟩ G
          exact stepAt.pure (v := .slice (some ad) axes.length d) rfl rfl (by go_simp) rfl
        · rintro vs u ⟨hV0, hV1, hV2, hV3, hV4, hV5, hV6, hV7, hV8, hV10, hV9, -⟩ G
          exact stepAt.pure (v := .slice (some ad) axes.length d) rfl rfl (by go_simp) rfl
        · rintro vs u ⟨hV0, hV1, hV2, hV3, hV4, hV5, hV6, hV7, hV8, hV10, hV9, -⟩ G
          have eV2 : vs 2 = .slice (some ad) axes.length d := hV2 rfl
          exact stepAt.pure (v := .int .i64 (axes.length : Int)) rfl rfl (by simp only [eV2]; go_simp) rfl
        · rintro vs u ⟨hV0, hV1, hV2, hV3, hV4, hV5, hV6, hV7, hV8, hV10, hV9, -⟩ G
          have eV3 : vs 3 = .int .i64 (axes.length : Int) := hV3 rfl
          exact stepAt.pure (v := .int .i64 (m : Int)) rfl rfl (by simp only [eV3]; go_simp <;> (first | exact hw | omega)) rfl
        · rintro vs u ⟨hV0, hV1, hV2, hV3, hV4, hV5, hV6, hV7, hV8, hV10, hV9, -⟩ G
          have eV1 : vs 1 = .slice (some ad) axes.length d := hV1 rfl
          have eV4 : vs 4 = .int .i64 (m : Int) := hV4 rfl
          exact stepAt.pure (v := .slice (some ad) m d) rfl rfl (by simp only [eV1, eV4]; go_simp <;> omega) rfl
        · rintro vs u ⟨hV0, hV1, hV2, hV3, hV4, hV5, hV6, hV7, hV8, hV10, hV9, -⟩ G
          refine stepAt.call (f := 13) (args := #[vs 0, vs 5]) rfl rfl (by go_simp) ?_
          have eV0 : vs 0 = .agg #[.slice A1_8 n1_8 c1_8, .slice B1_8 m1_8 k1_8] := hV0 rfl
          have eV5 : vs 5 = .slice (some ad) m d := hV5 rfl
          rw [eV0, eV5]
          exact sum_u (K := 20000) ((T1.at G).2 rfl) (HI.at G) F1 HE10 HD10 HQ10 HK10
        · rintro vs u ⟨hV0, hV1, hV2, hV3, hV4, hV5, hV6, hV7, hV8, hV10, hV9, -⟩ G
          exact stepAt.pure (v := vs 6) rfl rfl (by go_simp) rfl
        · rintro vs u ⟨hV0, hV1, hV2, hV3, hV4, hV5, hV6, hV7, hV8, hV10, hV9, -⟩ G
          have HV6 : Hold (fun u' => (Tup (0) (TC 0 sh' (qs.map canR))) u' (vs 6)) u := hV6 rfl
          obtain ⟨A2_6, n2_6, c2_6, B2_6, m2_6, k2_6, eV6, -⟩ := HV6.now
          rw [eV6] at HV6
          have eV7 : vs 7 = .tuple #[.agg #[.slice A2_6 n2_6 c2_6, .slice B2_6 m2_6 k2_6], .int .i64 0] := (show vs 7 = vs 6 from hV7 rfl).trans eV6
          exact stepAt.pure (v := .agg #[.slice A2_6 n2_6 c2_6, .slice B2_6 m2_6 k2_6]) rfl rfl (by simp only [eV7]; go_simp) ⟨_, _, eV7, rfl⟩
        · rintro vs u ⟨hV0, hV1, hV2, hV3, hV4, hV5, hV6, hV7, hV8, hV10, hV9, -⟩ G
          exact stepAt.value (v := .pointer (some ⟨u.heap.size, 0, none⟩)) (u := u.alloc (.cells #[.slice none 0 0, .slice none 0 0] 26)) rfl rfl (by go_simp) ((Fr.refl _ _).alloc _) ⟨_, rfl, G.size, Box2.new _ _ _ _⟩
      case looses2 =>
        refine ⟨?_, trivial⟩
        · rintro vs u ⟨hV0, hV1, hV2, hV3, hV4, hV5, hV6, hV7, hV8, hV10, hV9, -⟩ G
          have HV6 : Hold (fun u' => (Tup (0) (TC 0 sh' (qs.map canR))) u' (vs 6)) u := hV6 rfl
          obtain ⟨A2_6, n2_6, c2_6, B2_6, m2_6, k2_6, eV6, -⟩ := HV6.now
          rw [eV6] at HV6
          have eV7 : vs 7 = .tuple #[.agg #[.slice A2_6 n2_6 c2_6, .slice B2_6 m2_6 k2_6], .int .i64 0] := (show vs 7 = vs 6 from hV7 rfl).trans eV6
          exact pureAt.of (v := .int .i64 0) rfl rfl (fun _ => by simp only [eV7]; go_simp) ⟨_, _, eV7, rfl⟩
      rintro vs u ⟨hV0, hV1, hV2, hV3, hV4, hV5, hV6, hV7, hV8, hV10, hV9, -⟩ G
      have eV0 : vs 0 = .agg #[.slice A1_8 n1_8 c1_8, .slice B1_8 m1_8 k1_8] := hV0
      have eV1 : vs 1 = .slice (some ad) axes.length d := hV1
      have eV2 : vs 2 = .slice (some ad) axes.length d := hV2
      have eV3 : vs 3 = .int .i64 (axes.length : Int) := hV3
      have eV4 : vs 4 = .int .i64 (m : Int) := hV4
      have eV5 : vs 5 = .slice (some ad) m d := hV5
      replace hV6 : Hold (fun u' => (Tup (0) (TC 0 sh' (qs.map canR))) u' (vs 6)) u := hV6
      obtain ⟨A2_6, n2_6, c2_6, B2_6, m2_6, k2_6, eV6, -⟩ := hV6.now
      rw [eV6] at hV6
      have eV7 : vs 7 = _ := (show vs 7 = vs 6 from hV7).trans eV6
      obtain ⟨x8, z8, a8, eV8⟩ := hV8
      have a8 := eV7.symm.trans a8
      cases a8
      replace eV8 : vs 8 = _ := eV8
      obtain ⟨b2_10, eV10, l2_10, y2_10⟩ := hV10
      replace eV10 : vs 10 = _ := eV10
      obtain ⟨x9, z9, a9, eV9⟩ := hV9
      have a9 := eV7.symm.trans a9
      cases a9
      replace eV9 : vs 9 = _ := eV9
      simp only [eV0, eV1, eV2, eV3, eV4, eV5, eV6, eV7, eV8, eV10, eV9]
      clear eV0 eV1 eV2 eV3 eV4 eV5 eV6 eV7 eV8 eV10 eV9 hV0 hV1 hV2 hV3 hV4 hV5 hV7
      have g0 := y2_10.free 0
      have g1 := y2_10.free 1
      have g2 := y2_10.c0
      have g3 := y2_10.c1
      refine wpTill.next 11 rfl (by kernel_rfl) (by rfl) (fun K hK => ?_)
      go_simp
      refine hK _ _ (no_wait (by kernel_rfl)) ?_
      clear hK K
      refine wpTill.next 12 rfl (by kernel_rfl) (by rfl) (fun K hK => ?_)
      go_simp
      refine hK _ _ (no_wait (by kernel_rfl)) ?_
      clear hK K
      refine wpTill.done (by kernel_rfl) ?_
      have F9 := fr_put2 u b2_10 (.slice A2_6 n2_6 c2_6) (.slice B2_6 m2_6 k2_6)
      have G9 := G.comp F9 (R := fun k => k < U1.drew.heap.size) fun k _ hk => ⟨hk, by omega⟩
      have z2 := y2_10.set2 (.slice A2_6 n2_6 c2_6) (.slice B2_6 m2_6 k2_6)
      have T2 := (hV6.now.out.fill (.slice A2_6 n2_6 c2_6) (.slice B2_6 m2_6 k2_6) y2_10).hold
      replace xa := xa.keep G9
      replace z5 := z5.keep G9
      replace z7 := z7.keep G9
      replace z1 := z1.keep G9
      replace HA := HA.keep G9
      replace H5 := H5.keep G9
      replace H7 := H7.keep G9
      replace T1 := T1.keep G9
      replace HX := HX.keep G9
      replace HI := HI.keep G9
      replace F := fr_then F G9
      generalize (u.setCell ⟨b2_10, 0, none⟩ (.slice A2_6 n2_6 c2_6)).setCell ⟨b2_10, 1, none⟩ (.slice B2_6 m2_6 k2_6) = U2 at z2 T2 xa z5 z7 z1 HA H5 H7 T1 HX HI F ⊢
      clear g0 g1 g2 g3 F9 G9 G y2_10 l2_10 hV6
      have P := Lib.hid (tsame_u (T2.now.2 rfl) (H7.now.2 rfl) F7 F7 rfl (Lib.hid rfl))
      have pp20 := xa.c0
      have pp21 := xa.c1
      have pp50 := z5.c0
      have pp51 := z5.c1
      have pp70 := z7.c0
      have pp71 := z7.c1
      have pp90 := z1.c0
      have pp91 := z1.c1
      have pp110 := z2.c0
      have pp111 := z2.c1
      go_wp2_with fail
      clear pp20 pp21 pp50 pp51 pp70 pp71 pp90 pp91 pp110 pp111
      with_reducible refine P.out.mono ?_
      rintro e V11 ⟨v, rfl, hf, H⟩
      obtain rfl := H.now
      replace xa := xa.keep hf
      replace z5 := z5.keep hf
      replace z7 := z7.keep hf
      replace z1 := z1.keep hf
      replace z2 := z2.keep hf
      replace HA := HA.keep hf
      replace H5 := H5.keep hf
      replace H7 := H7.keep hf
      replace T1 := T1.keep hf
      replace T2 := T2.keep hf
      replace HX := HX.keep hf
      replace HI := HI.keep hf
      replace F := fr_then F hf
      clear P hf H
      have P := Lib.hid (known10_u V11)
      have pp20 := xa.c0
      have pp21 := xa.c1
      have pp50 := z5.c0
      have pp51 := z5.c1
      have pp70 := z7.c0
      have pp71 := z7.c1
      have pp90 := z1.c0
      have pp91 := z1.c1
      have pp110 := z2.c0
      have pp111 := z2.c1
      go_wp2_with fail
      clear pp20 pp21 pp50 pp51 pp70 pp71 pp90 pp91 pp110 pp111
      with_reducible refine P.out.mono ?_
      rintro e V12 ⟨v, rfl, hf, H⟩
      obtain rfl := H.now
      replace xa := xa.keep hf
      replace z5 := z5.keep hf
      replace z7 := z7.keep hf
      replace z1 := z1.keep hf
      replace z2 := z2.keep hf
      replace HA := HA.keep hf
      replace H5 := H5.keep hf
      replace H7 := H7.keep hf
      replace T1 := T1.keep hf
      replace T2 := T2.keep hf
      replace HX := HX.keep hf
      replace HI := HI.keep hf
      replace F := fr_then F hf
      clear P hf H
      have pp20 := xa.c0
      have pp21 := xa.c1
      have pp50 := z5.c0
      have pp51 := z5.c1
      have pp70 := z7.c0
      have pp71 := z7.c1
      have pp90 := z1.c0
      have pp91 := z1.c1
      have pp110 := z2.c0
      have pp111 := z2.c1
      go_wp2_with fail
      clear pp20 pp21 pp50 pp51 pp70 pp71 pp90 pp91 pp110 pp111
      go_ret
      exact ⟨rfl, F⟩
end Go.Proofs.YtlppcfeimpcbjaaGreat

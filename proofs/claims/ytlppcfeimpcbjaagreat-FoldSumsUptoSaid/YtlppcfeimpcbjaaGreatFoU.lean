import Derived.Test.YtlppcfeimpcbjaaGreatFoT
set_option linter.unusedSimpArgs false
set_option linter.unusedVariables false

/- FoldSums: printed by gen_fou.py. -/
namespace Go.Proofs.YtlppcfeimpcbjaaGreat
open Go.RowKit

section
variable {w : World} {sh axes sh' : List Int} {qa qs : List Rat} {a b v : Value} {K M : Nat} {r : Int}
theorem rsum_u (h : QV sh qa K w a b) (g : Sl Im (fun _ => True) w v axes) (hr : Hid (axE axes sh.length = r)) (hm : Hid (mayS sh = 0 ∧ (qa.length : Int) = pr sh)) (hd : Hid (dropI axes 0 sh = sh')) (hq : Hid (sumL (plc sh axes) qa (pr sh').toNat qa.length = qs)) (hK : Hid (K ≤ M ∧ 6 ≤ M ∧ M ≤ 104857600))
    (hB : Hid (∀ n i, i ≤ qa.length → (dg DB (sumP (plc sh axes) qa n i).num.natAbs).length ≤ M ∧ (dg DB (sumP (plc sh axes) qa n i).den).length ≤ M)) :
    Calls Tryz.prog 17 #[.agg #[a, b], v] w (Ret w (Tup r (QC r sh' qs M))) := by
  have hp := pr_pos (mayS_ok (drop_may (axes := axes) hm.out.1)).2.1
  have p := rsum_t w a b v sh axes qa K M (pr (dropI axes 0 sh)).toNat r hr h.1 h.2 g hm (Lib.hid (by omega)) hK.out.1 hK.out.2.1 hK.out.2.2 hB
  rw [hd.out, hq.out] at p
  exact p.mono fun _ _ h => h.ret
theorem rmean_u (h : QV sh qa K w a b) (g : Sl Im (fun _ => True) w v axes) (hr : Hid (axE axes sh.length = r)) (hm : Hid (mayS sh = 0 ∧ (qa.length : Int) = pr sh)) (hd : Hid (dropI axes 0 sh = sh')) (hq : Hid ((sumL (plc sh axes) qa (pr sh').toNat qa.length).map (fun q => q * fr 1 ((qa.length / (pr sh').toNat : Nat) : Int)) = qs)) (hK : Hid (K ≤ M ∧ 6 ≤ M ∧ 2 * M ≤ 104857600))
    (hB : Hid (∀ n i, i ≤ qa.length → (dg DB (sumP (plc sh axes) qa n i).num.natAbs).length ≤ M ∧ (dg DB (sumP (plc sh axes) qa n i).den).length ≤ M)) :
    Calls Tryz.prog 19 #[.agg #[a, b], v] w (Ret w (Tup r (QC r sh' qs (2 * M)))) := by
  have hp := pr_pos (mayS_ok (drop_may (axes := axes) hm.out.1)).2.1
  have p := rmean_t w a b v sh axes qa K M (2 * M) (pr (dropI axes 0 sh)).toNat _ _ r hr h.1 h.2 g hm (Lib.hid (by omega)) hK.out.1 hK.out.2.1 (Nat.le_refl _) hK.out.2.2 (Lib.hid rfl) (Lib.hid rfl) hB
  rw [hd.out, hq.out] at p
  exact p.mono fun _ _ h => h.ret
end
/-- the factor of the means, by both ways -/
theorem mean_by {N L : Nat} (h0 : 0 < N) (h : (N : Int) ∣ (L : Int)) : fr (N : Int) (L : Int) = fr 1 ((L / N : Nat) : Int) := by
  obtain ⟨m, rfl⟩ := Int.natCast_dvd_natCast.1 h
  rw [Nat.mul_div_cancel_left _ h0]
  exact fr_mean h0

set_option maxRecDepth 20000 in
set_option maxHeartbeats 32000000 in
theorem fsums_walk {S T : Nat → Prop} {sha axes : List Int} {ea : List RatL} (w : World) (vx vy : Value) (L : Nat) (hx : TL S w vx sha ea L) (hy : Sl Im T w vy axes) (_hl : axes.length ≤ L) (hL : L ≤ 1048576) :
    Calls Tryz.prog 3 #[vx, vy] w fun e w' => e = .returned (.bool true) ∧ Fr (fun k => k < w.heap.size) w w' := by
  have FA := Lib.hid (hx.fit hL)
  obtain ⟨va, ve, rfl, ha, he⟩ := hx.ex
  obtain ⟨A, c, rfl, _, _, _⟩ := ha.slice
  obtain ⟨A', c', rfl, _, _, _⟩ := he.slice
  obtain ⟨B, d, rfl, _, _, _⟩ := hy.slice
  have HA := TV.hold ⟨ha.any, he.any⟩
  have HX : Hold (fun u => Sl Im (fun _ => True) u (.slice B axes.length d) axes) w := fun _ hu => hy.any.keep' Im_pos hu
  clear hx ha he hy
  have F := ((Fr.refl (fun k => k < w.heap.size) w).alloc (.cells #[.slice A sha.length c, .slice A' ea.length c'] 26))
  have xa := (Box2.new w 26 (.slice A sha.length c) (.slice A' ea.length c'))
  replace HA := HA.keep (F.mono fun k h _ => h)
  replace HX := HX.keep (F.mono fun k h _ => h)
  obtain ⟨b1, hb1⟩ : ∃ b, few10B ea = b := ⟨_, rfl⟩
  have HB1 := Lib.hid hb1
  clear hb1
  go_enter Tryz.func3, Tryz.ntmps3
  have P := Lib.hid (few10_u HA.now HB1)
  have pp20 := xa.c0
  have pp21 := xa.c1
  go_wp2_with fail
  clear pp20 pp21
  with_reducible refine P.out.mono ?_
  rintro e V1 ⟨v, rfl, hf, H⟩
  obtain rfl := H.now
  replace xa := xa.keep hf
  replace HA := HA.keep hf
  replace HX := HX.keep hf
  replace F := fr_then F hf
  clear P hf H
  cases b1 with
  | false =>
    have P := Lib.hid (known10_u V1)
    have pp20 := xa.c0
    have pp21 := xa.c1
    go_wp2_with fail
    clear pp20 pp21
    with_reducible refine P.out.mono ?_
    rintro e V2 ⟨v, rfl, hf, H⟩
    obtain rfl := H.now
    replace xa := xa.keep hf
    replace HA := HA.keep hf
    replace HX := HX.keep hf
    replace F := fr_then F hf
    clear P hf H
    have pp20 := xa.c0
    have pp21 := xa.c1
    go_wp2_with fail
    clear pp20 pp21
    go_ret
    exact ⟨rfl, F⟩
  | true =>
    by_cases h10 : 10 < axes.length
    case pos =>
      have P := Lib.hid (known10_u V1)
      have pp20 := xa.c0
      have pp21 := xa.c1
      go_wp2_with fail
      clear pp20 pp21
      with_reducible refine P.out.mono ?_
      rintro e V3 ⟨v, rfl, hf, H⟩
      obtain rfl := H.now
      replace xa := xa.keep hf
      replace HA := HA.keep hf
      replace HX := HX.keep hf
      replace F := fr_then F hf
      clear P hf H
      have pp20 := xa.c0
      have pp21 := xa.c1
      go_wp2_with fail
      clear pp20 pp21
      go_ret
      exact ⟨rfl, F⟩
    have GA := fit3 FA.out HB1.out
    have G3 := Lib.hid GA.1
    have h64 := GA.2
    obtain ⟨e1, he1⟩ : ∃ r, sumE sha ea axes = r := ⟨_, rfl⟩
    obtain ⟨r0, hr0⟩ : ∃ r, mayT sha ea = r := ⟨_, rfl⟩
    have HE1 := Lib.hid he1
    have HR0 := Lib.hid hr0
    have HNZ : Hid (r0 ≠ 0 → e1 = r0) := Lib.hid fun h => by
      rw [← he1, ← hr0]
      rw [← hr0] at h
      exact if_pos h
    have HZ : Hid (r0 = 0 → axE axes sha.length = e1) := Lib.hid fun h => by
      rw [← hr0] at h
      exact (if_neg (by simpa using h)).symm.trans he1
    obtain ⟨sh', hsh⟩ : ∃ s, dropI axes 0 sha = s := ⟨_, rfl⟩
    obtain ⟨qs, hqs⟩ : ∃ s, sumL (plc sha axes) (ea.map qOf) (pr sh').toNat ea.length = s := ⟨_, rfl⟩
    obtain ⟨qm, hqm⟩ : ∃ s, (sumL (plc sha axes) (ea.map qOf) (pr sh').toNat ea.length).map (fun q => q * fr ((pr sh').toNat : Int) (ea.length : Int)) = s := ⟨_, rfl⟩
    have HSH := Lib.hid hsh
    have HQS := Lib.hid hqs
    have HQM := Lib.hid hqm
    clear he1 hr0 GA hsh hqs hqm
    have P := Lib.hid (sum_u (K := 300) HA.now HX.now G3 HE1 HSH HQS (Lib.hid (by omega)))
    have pp20 := xa.c0
    have pp21 := xa.c1
    go_wp2_with fail
    clear pp20 pp21
    with_reducible refine P.out.mono ?_
    rintro e W5 ⟨v, rfl, hf, H⟩
    obtain ⟨A5, n5, c5, B5, m5, k5, rfl, -⟩ := H.now
    have al := fun R => (Fr.refl R W5).alloc (.cells #[.slice A5 n5 c5, .slice B5 m5 k5] 26)
    replace xa := xa.keep hf
    replace HA := HA.keep hf
    replace HX := HX.keep hf
    replace F := fr_then F hf
    replace xa := xa.keep (al _)
    replace HA := HA.keep (al _)
    replace HX := HX.keep (al _)
    replace F := fr_then F (al _)
    have z5 := Box2.new W5 26 (.slice A5 n5 c5) (.slice B5 m5 k5)
    have H5 : Hold (fun u => TC e1 sh' (qs.map canR) u (.slice A5 n5 c5) (.slice B5 m5 k5)) (W5.alloc (.cells #[.slice A5 n5 c5, .slice B5 m5 k5] 26)) := (H.mono fun _ h => h.out).keep (al _)
    clear P hf H al
    have P := Lib.hid (mean_u (K := 300) HA.now HX.now G3 HE1 HSH HQM (by omega) (Lib.hid (by omega)))
    have pp20 := xa.c0
    have pp21 := xa.c1
    have pp50 := z5.c0
    have pp51 := z5.c1
    go_wp2_with fail
    clear pp20 pp21 pp50 pp51
    generalize W5.alloc (.cells #[.slice A5 n5 c5, .slice B5 m5 k5] 26) = U5 at *
    generalize W5.heap.size = b5 at *
    with_reducible refine P.out.mono ?_
    rintro e W7 ⟨v, rfl, hf, H⟩
    obtain ⟨A7, n7, c7, B7, m7, k7, rfl, -⟩ := H.now
    have al := fun R => (Fr.refl R W7).alloc (.cells #[.slice A7 n7 c7, .slice B7 m7 k7] 26)
    replace xa := xa.keep hf
    replace z5 := z5.keep hf
    replace HA := HA.keep hf
    replace H5 := H5.keep hf
    replace HX := HX.keep hf
    replace F := fr_then F hf
    replace xa := xa.keep (al _)
    replace z5 := z5.keep (al _)
    replace HA := HA.keep (al _)
    replace H5 := H5.keep (al _)
    replace HX := HX.keep (al _)
    replace F := fr_then F (al _)
    have z7 := Box2.new W7 26 (.slice A7 n7 c7) (.slice B7 m7 k7)
    have H7 : Hold (fun u => TC e1 sh' (qm.map canR) u (.slice A7 n7 c7) (.slice B7 m7 k7)) (W7.alloc (.cells #[.slice A7 n7 c7, .slice B7 m7 k7] 26)) := (H.mono fun _ h => h.out).keep (al _)
    clear P hf H al
    have P := Lib.hid (may_u HA.now G3 HR0)
    have pp20 := xa.c0
    have pp21 := xa.c1
    have pp50 := z5.c0
    have pp51 := z5.c1
    have pp70 := z7.c0
    have pp71 := z7.c1
    go_wp2_with fail
    clear pp20 pp21 pp50 pp51 pp70 pp71
    generalize W7.alloc (.cells #[.slice A7 n7 c7, .slice B7 m7 k7] 26) = U7 at *
    generalize W7.heap.size = b7 at *
    with_reducible refine P.out.mono ?_
    rintro e V4 ⟨v, rfl, hf, H⟩
    obtain rfl := H.now
    replace xa := xa.keep hf
    replace z5 := z5.keep hf
    replace z7 := z7.keep hf
    replace HA := HA.keep hf
    replace H5 := H5.keep hf
    replace H7 := H7.keep hf
    replace HX := HX.keep hf
    replace F := fr_then F hf
    clear P hf H
    by_cases h0 : r0 = 0
    case neg =>
      have hb0 : (r0 == 0) = false := beq_eq_false_iff_ne.2 h0
      have e10 := HNZ.out h0
      subst e10
      have P := Lib.hid (told10_e H5.now (Lib.hid h0))
      have pp20 := xa.c0
      have pp21 := xa.c1
      have pp50 := z5.c0
      have pp51 := z5.c1
      have pp70 := z7.c0
      have pp71 := z7.c1
      go_wp2_with fail
      clear pp20 pp21 pp50 pp51 pp70 pp71
      with_reducible refine P.out.mono ?_
      rintro e V5 ⟨v, rfl, hf, H⟩
      obtain rfl := H.now
      replace xa := xa.keep hf
      replace z5 := z5.keep hf
      replace z7 := z7.keep hf
      replace HA := HA.keep hf
      replace H5 := H5.keep hf
      replace H7 := H7.keep hf
      replace HX := HX.keep hf
      replace F := fr_then F hf
      clear P hf H
      have P := Lib.hid (told10_e H7.now (Lib.hid h0))
      have pp20 := xa.c0
      have pp21 := xa.c1
      have pp50 := z5.c0
      have pp51 := z5.c1
      have pp70 := z7.c0
      have pp71 := z7.c1
      go_wp2_with fail
      clear pp20 pp21 pp50 pp51 pp70 pp71
      with_reducible refine P.out.mono ?_
      rintro e V6 ⟨v, rfl, hf, H⟩
      obtain rfl := H.now
      replace xa := xa.keep hf
      replace z5 := z5.keep hf
      replace z7 := z7.keep hf
      replace HA := HA.keep hf
      replace H5 := H5.keep hf
      replace H7 := H7.keep hf
      replace HX := HX.keep hf
      replace F := fr_then F hf
      clear P hf H
      have P := Lib.hid (known10_u V6)
      have pp20 := xa.c0
      have pp21 := xa.c1
      have pp50 := z5.c0
      have pp51 := z5.c1
      have pp70 := z7.c0
      have pp71 := z7.c1
      go_wp2_with fail
      clear pp20 pp21 pp50 pp51 pp70 pp71
      with_reducible refine P.out.mono ?_
      rintro e V7 ⟨v, rfl, hf, H⟩
      obtain rfl := H.now
      replace xa := xa.keep hf
      replace z5 := z5.keep hf
      replace z7 := z7.keep hf
      replace HA := HA.keep hf
      replace H5 := H5.keep hf
      replace H7 := H7.keep hf
      replace HX := HX.keep hf
      replace F := fr_then F hf
      clear P hf H
      have pp20 := xa.c0
      have pp21 := xa.c1
      have pp50 := z5.c0
      have pp51 := z5.c1
      have pp70 := z7.c0
      have pp71 := z7.c1
      go_wp2_with fail
      clear pp20 pp21 pp50 pp51 pp70 pp71
      go_ret
      exact ⟨rfl, F⟩
    subst h0
    have hma := mayT_ok HR0.out
    have HMA := Lib.hid (show mayS sha = 0 ∧ ((ea.map qOf).length : Int) = pr sha from ⟨hma.1, by rw [List.length_map, hma.2.1, cntS_ok hma.1]⟩)
    have HAX := Lib.hid (HZ.out rfl)
    have HQS2 := Lib.hid (show sumL (plc sha axes) (ea.map qOf) (pr sh').toNat (ea.map qOf).length = qs by rw [List.length_map]; exact HQS.out)
    have HQM2 := Lib.hid (show (sumL (plc sha axes) (ea.map qOf) (pr sh').toNat (ea.map qOf).length).map (fun q => q * fr 1 (((ea.map qOf).length / (pr sh').toNat : Nat) : Int)) = qm by
      have hp := pr_pos (mayS_ok (drop_may (axes := axes) hma.1)).2.1
      have hdv := pr_drop_dvd (axes := axes) (i := 0) (l := sha)
      rw [HSH.out] at hp hdv
      have hl := HMA.out.2
      rw [List.length_map] at hl ⊢
      rw [← hl] at hdv
      rw [← mean_by (by omega) (by rw [show (((pr sh').toNat : Nat) : Int) = pr sh' by omega]; exact hdv)]
      exact HQM.out)
    have HBD := Lib.hid (show ∀ n i, i ≤ (ea.map qOf).length → (dg DB (sumP (plc sha axes) (ea.map qOf) n i).num.natAbs).length ≤ 900 ∧ (dg DB (sumP (plc sha axes) (ea.map qOf) n i).den).length ≤ 900 from fun n i hi => lens_db (sumP_lens G3.out.lens G3.out.one _ ea.length (by omega) n i (by rwa [List.length_map] at hi)) (show 3 * 300 ≤ 900 by decide))
    clear hma
    have P := Lib.hid (of_u HA.now G3)
    have pp20 := xa.c0
    have pp21 := xa.c1
    have pp50 := z5.c0
    have pp51 := z5.c1
    have pp70 := z7.c0
    have pp71 := z7.c1
    go_wp2_with fail
    clear pp20 pp21 pp50 pp51 pp70 pp71
    with_reducible refine P.out.mono ?_
    rintro e V8 ⟨v, rfl, hf, H⟩
    obtain ⟨Aq1, nq1, cq1, Bq1, mq1, kq1, rfl, -⟩ := H.now
    replace xa := xa.keep hf
    replace z5 := z5.keep hf
    replace z7 := z7.keep hf
    replace HA := HA.keep hf
    replace H5 := H5.keep hf
    replace H7 := H7.keep hf
    replace HX := HX.keep hf
    replace F := fr_then F hf
    have Hq1 : Hold (fun u => QV sha (ea.map qOf) (3 * 3) u (.slice Aq1 nq1 cq1) (.slice Bq1 mq1 kq1)) V8 := H.mono fun _ h => h.out
    clear P hf H
    have P := Lib.hid (rsum_u (M := 900) Hq1.now HX.now HAX HMA HSH HQS2 (Lib.hid (by decide)) HBD)
    have pp20 := xa.c0
    have pp21 := xa.c1
    have pp50 := z5.c0
    have pp51 := z5.c1
    have pp70 := z7.c0
    have pp71 := z7.c1
    go_wp2_with fail
    clear pp20 pp21 pp50 pp51 pp70 pp71
    with_reducible refine P.out.mono ?_
    rintro e W10 ⟨v, rfl, hf, H⟩
    obtain ⟨A10, n10, c10, B10, m10, k10, rfl, -⟩ := H.now
    have al := fun R => (Fr.refl R W10).alloc (.cells #[.slice A10 n10 c10, .slice B10 m10 k10] 36)
    replace xa := xa.keep hf
    replace z5 := z5.keep hf
    replace z7 := z7.keep hf
    replace HA := HA.keep hf
    replace H5 := H5.keep hf
    replace H7 := H7.keep hf
    replace Hq1 := Hq1.keep hf
    replace HX := HX.keep hf
    replace F := fr_then F hf
    replace xa := xa.keep (al _)
    replace z5 := z5.keep (al _)
    replace z7 := z7.keep (al _)
    replace HA := HA.keep (al _)
    replace H5 := H5.keep (al _)
    replace H7 := H7.keep (al _)
    replace Hq1 := Hq1.keep (al _)
    replace HX := HX.keep (al _)
    replace F := fr_then F (al _)
    have z10 := Box2.new W10 36 (.slice A10 n10 c10) (.slice B10 m10 k10)
    have H10 : Hold (fun u => QC e1 sh' qs 900 u (.slice A10 n10 c10) (.slice B10 m10 k10)) (W10.alloc (.cells #[.slice A10 n10 c10, .slice B10 m10 k10] 36)) := (H.mono fun _ h => h.out).keep (al _)
    clear P hf H al
    have P := Lib.hid (of_u HA.now G3)
    have pp20 := xa.c0
    have pp21 := xa.c1
    have pp50 := z5.c0
    have pp51 := z5.c1
    have pp70 := z7.c0
    have pp71 := z7.c1
    have pp100 := z10.c0
    have pp101 := z10.c1
    go_wp2_with fail
    clear pp20 pp21 pp50 pp51 pp70 pp71 pp100 pp101
    generalize W10.alloc (.cells #[.slice A10 n10 c10, .slice B10 m10 k10] 36) = U10 at *
    generalize W10.heap.size = b10 at *
    with_reducible refine P.out.mono ?_
    rintro e V9 ⟨v, rfl, hf, H⟩
    obtain ⟨Aq2, nq2, cq2, Bq2, mq2, kq2, rfl, -⟩ := H.now
    replace xa := xa.keep hf
    replace z5 := z5.keep hf
    replace z7 := z7.keep hf
    replace z10 := z10.keep hf
    replace HA := HA.keep hf
    replace H5 := H5.keep hf
    replace H7 := H7.keep hf
    replace Hq1 := Hq1.keep hf
    replace H10 := H10.keep hf
    replace HX := HX.keep hf
    replace F := fr_then F hf
    have Hq2 : Hold (fun u => QV sha (ea.map qOf) (3 * 3) u (.slice Aq2 nq2 cq2) (.slice Bq2 mq2 kq2)) V9 := H.mono fun _ h => h.out
    clear P hf H
    have P := Lib.hid (rmean_u (M := 900) Hq2.now HX.now HAX HMA HSH HQM2 (Lib.hid (by decide)) HBD)
    have pp20 := xa.c0
    have pp21 := xa.c1
    have pp50 := z5.c0
    have pp51 := z5.c1
    have pp70 := z7.c0
    have pp71 := z7.c1
    have pp100 := z10.c0
    have pp101 := z10.c1
    go_wp2_with fail
    clear pp20 pp21 pp50 pp51 pp70 pp71 pp100 pp101
    with_reducible refine P.out.mono ?_
    rintro e W12 ⟨v, rfl, hf, H⟩
    obtain ⟨A12, n12, c12, B12, m12, k12, rfl, -⟩ := H.now
    have al := fun R => (Fr.refl R W12).alloc (.cells #[.slice A12 n12 c12, .slice B12 m12 k12] 36)
    replace xa := xa.keep hf
    replace z5 := z5.keep hf
    replace z7 := z7.keep hf
    replace z10 := z10.keep hf
    replace HA := HA.keep hf
    replace H5 := H5.keep hf
    replace H7 := H7.keep hf
    replace Hq1 := Hq1.keep hf
    replace H10 := H10.keep hf
    replace Hq2 := Hq2.keep hf
    replace HX := HX.keep hf
    replace F := fr_then F hf
    replace xa := xa.keep (al _)
    replace z5 := z5.keep (al _)
    replace z7 := z7.keep (al _)
    replace z10 := z10.keep (al _)
    replace HA := HA.keep (al _)
    replace H5 := H5.keep (al _)
    replace H7 := H7.keep (al _)
    replace Hq1 := Hq1.keep (al _)
    replace H10 := H10.keep (al _)
    replace Hq2 := Hq2.keep (al _)
    replace HX := HX.keep (al _)
    replace F := fr_then F (al _)
    have z12 := Box2.new W12 36 (.slice A12 n12 c12) (.slice B12 m12 k12)
    have H12 : Hold (fun u => QC e1 sh' qm (2 * 900) u (.slice A12 n12 c12) (.slice B12 m12 k12)) (W12.alloc (.cells #[.slice A12 n12 c12, .slice B12 m12 k12] 36)) := (H.mono fun _ h => h.out).keep (al _)
    clear P hf H al
    have P := Lib.hid (told10_u H5.now H10.now ⟨⟨_, _, _, rfl⟩, ⟨_, _, _, rfl⟩⟩ (Lib.hid fun _ => ⟨rfl, rfl⟩) (by decide))
    have pp20 := xa.c0
    have pp21 := xa.c1
    have pp50 := z5.c0
    have pp51 := z5.c1
    have pp70 := z7.c0
    have pp71 := z7.c1
    have pp100 := z10.c0
    have pp101 := z10.c1
    have pp120 := z12.c0
    have pp121 := z12.c1
    go_wp2_with fail
    clear pp20 pp21 pp50 pp51 pp70 pp71 pp100 pp101 pp120 pp121
    generalize W12.alloc (.cells #[.slice A12 n12 c12, .slice B12 m12 k12] 36) = U12 at *
    generalize W12.heap.size = b12 at *
    with_reducible refine P.out.mono ?_
    rintro e V10 ⟨v, rfl, hf, H⟩
    obtain rfl := H.now
    replace xa := xa.keep hf
    replace z5 := z5.keep hf
    replace z7 := z7.keep hf
    replace z10 := z10.keep hf
    replace z12 := z12.keep hf
    replace HA := HA.keep hf
    replace H5 := H5.keep hf
    replace H7 := H7.keep hf
    replace Hq1 := Hq1.keep hf
    replace H10 := H10.keep hf
    replace Hq2 := Hq2.keep hf
    replace H12 := H12.keep hf
    replace HX := HX.keep hf
    replace F := fr_then F hf
    clear P hf H
    have P := Lib.hid (told10_u H7.now H12.now ⟨⟨_, _, _, rfl⟩, ⟨_, _, _, rfl⟩⟩ (Lib.hid fun _ => ⟨rfl, rfl⟩) (by decide))
    have pp20 := xa.c0
    have pp21 := xa.c1
    have pp50 := z5.c0
    have pp51 := z5.c1
    have pp70 := z7.c0
    have pp71 := z7.c1
    have pp100 := z10.c0
    have pp101 := z10.c1
    have pp120 := z12.c0
    have pp121 := z12.c1
    go_wp2_with fail
    clear pp20 pp21 pp50 pp51 pp70 pp71 pp100 pp101 pp120 pp121
    with_reducible refine P.out.mono ?_
    rintro e V11 ⟨v, rfl, hf, H⟩
    obtain rfl := H.now
    replace xa := xa.keep hf
    replace z5 := z5.keep hf
    replace z7 := z7.keep hf
    replace z10 := z10.keep hf
    replace z12 := z12.keep hf
    replace HA := HA.keep hf
    replace H5 := H5.keep hf
    replace H7 := H7.keep hf
    replace Hq1 := Hq1.keep hf
    replace H10 := H10.keep hf
    replace Hq2 := Hq2.keep hf
    replace H12 := H12.keep hf
    replace HX := HX.keep hf
    replace F := fr_then F hf
    clear P hf H
    have P := Lib.hid (known10_u V11)
    have pp20 := xa.c0
    have pp21 := xa.c1
    have pp50 := z5.c0
    have pp51 := z5.c1
    have pp70 := z7.c0
    have pp71 := z7.c1
    have pp100 := z10.c0
    have pp101 := z10.c1
    have pp120 := z12.c0
    have pp121 := z12.c1
    go_wp2_with fail
    clear pp20 pp21 pp50 pp51 pp70 pp71 pp100 pp101 pp120 pp121
    with_reducible refine P.out.mono ?_
    rintro e V12 ⟨v, rfl, hf, H⟩
    obtain rfl := H.now
    replace xa := xa.keep hf
    replace z5 := z5.keep hf
    replace z7 := z7.keep hf
    replace z10 := z10.keep hf
    replace z12 := z12.keep hf
    replace HA := HA.keep hf
    replace H5 := H5.keep hf
    replace H7 := H7.keep hf
    replace Hq1 := Hq1.keep hf
    replace H10 := H10.keep hf
    replace Hq2 := Hq2.keep hf
    replace H12 := H12.keep hf
    replace HX := HX.keep hf
    replace F := fr_then F hf
    clear P hf H
    have pp20 := xa.c0
    have pp21 := xa.c1
    have pp50 := z5.c0
    have pp51 := z5.c1
    have pp70 := z7.c0
    have pp71 := z7.c1
    have pp100 := z10.c0
    have pp101 := z10.c1
    have pp120 := z12.c0
    have pp121 := z12.c1
    go_wp2_with fail
    clear pp20 pp21 pp50 pp51 pp70 pp71 pp100 pp101 pp120 pp121
    go_ret
    exact ⟨rfl, F⟩
end Go.Proofs.YtlppcfeimpcbjaaGreat

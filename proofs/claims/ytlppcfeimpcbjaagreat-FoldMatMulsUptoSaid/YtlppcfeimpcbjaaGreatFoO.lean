import Derived.Test.YtlppcfeimpcbjaaGreatFoldF
set_option linter.unusedSimpArgs false
set_option linter.unusedVariables false

/- FoldMatMuls: printed by gen_foo.py. -/
namespace Go.Proofs.YtlppcfeimpcbjaaGreat
open Go.RowKit

set_option maxRecDepth 20000 in
set_option maxHeartbeats 32000000 in
theorem fmm_walk {S : Nat → Prop} {sha shb : List Int} {ea eb : List RatL} (w : World) (vx vy : Value) (L : Nat) (hx : TL S w vx sha ea L) (hy : TL S w vy shb eb L) (hL : L ≤ 1048576) :
    Calls Tryz.prog 4 #[vx, vy] w fun e w' => e = .returned (.bool true) ∧ Fr (fun k => k < w.heap.size) w w' := by
  have FA := Lib.hid (hx.fit hL)
  have FB := Lib.hid (hy.fit hL)
  obtain ⟨va, ve, rfl, ha, he⟩ := hx.ex
  obtain ⟨vb, vf, rfl, hb, hf⟩ := hy.ex
  obtain ⟨A, c, rfl, _, _, _⟩ := ha.slice
  obtain ⟨A', c', rfl, _, _, _⟩ := he.slice
  obtain ⟨B, d, rfl, _, _, _⟩ := hb.slice
  obtain ⟨B', d', rfl, _, _, _⟩ := hf.slice
  have HA := TV.hold ⟨ha.any, he.any⟩
  have HB := TV.hold ⟨hb.any, hf.any⟩
  clear hx hy ha he hb hf
  have F := ((Fr.refl (fun k => k < w.heap.size) w).alloc (.cells #[.slice A sha.length c, .slice A' ea.length c'] 26)).alloc (.cells #[.slice B shb.length d, .slice B' eb.length d'] 26)
  have xa := (Box2.new w 26 (.slice A sha.length c) (.slice A' ea.length c')).alloc (.cells #[.slice B shb.length d, .slice B' eb.length d'] 26)
  have xb := Box2.new (w.alloc (.cells #[.slice A sha.length c, .slice A' ea.length c'] 26)) 26 (.slice B shb.length d) (.slice B' eb.length d')
  simp only [World.size_alloc] at xb
  replace HA := HA.keep (F.mono fun k h _ => h)
  replace HB := HB.keep (F.mono fun k h _ => h)
  obtain ⟨b1, hb1⟩ : ∃ b, few10B ea = b := ⟨_, rfl⟩
  obtain ⟨b2, hb2⟩ : ∃ b, few10B eb = b := ⟨_, rfl⟩
  have HB1 := Lib.hid hb1
  have HB2 := Lib.hid hb2
  clear hb1 hb2
  go_enter Tryz.func4, Tryz.ntmps4
  have P := Lib.hid (few10_u HA.now HB1)
  have pp20 := xa.c0
  have pp21 := xa.c1
  have pp30 := xb.c0
  have pp31 := xb.c1
  go_wp2_with fail
  clear pp20 pp21 pp30 pp31
  with_reducible refine P.out.mono ?_
  rintro e V1 ⟨v, rfl, hf, H⟩
  obtain rfl := H.now
  replace xa := xa.keep hf
  replace xb := xb.keep hf
  replace HA := HA.keep hf
  replace HB := HB.keep hf
  replace F := fr_then F hf
  clear P hf H
  cases b1 with
  | false =>
    have P := Lib.hid (known10_u V1)
    have pp20 := xa.c0
    have pp21 := xa.c1
    have pp30 := xb.c0
    have pp31 := xb.c1
    go_wp2_with fail
    clear pp20 pp21 pp30 pp31
    with_reducible refine P.out.mono ?_
    rintro e V2 ⟨v, rfl, hf, H⟩
    obtain rfl := H.now
    replace xa := xa.keep hf
    replace xb := xb.keep hf
    replace HA := HA.keep hf
    replace HB := HB.keep hf
    replace F := fr_then F hf
    clear P hf H
    have pp20 := xa.c0
    have pp21 := xa.c1
    have pp30 := xb.c0
    have pp31 := xb.c1
    go_wp2_with fail
    clear pp20 pp21 pp30 pp31
    go_ret
    exact ⟨rfl, F⟩
  | true =>
    have P := Lib.hid (few10_u HB.now HB2)
    have pp20 := xa.c0
    have pp21 := xa.c1
    have pp30 := xb.c0
    have pp31 := xb.c1
    go_wp2_with fail
    clear pp20 pp21 pp30 pp31
    with_reducible refine P.out.mono ?_
    rintro e V3 ⟨v, rfl, hf, H⟩
    obtain rfl := H.now
    replace xa := xa.keep hf
    replace xb := xb.keep hf
    replace HA := HA.keep hf
    replace HB := HB.keep hf
    replace F := fr_then F hf
    clear P hf H
    cases b2 with
    | false =>
      have P := Lib.hid (known10_u V3)
      have pp20 := xa.c0
      have pp21 := xa.c1
      have pp30 := xb.c0
      have pp31 := xb.c1
      go_wp2_with fail
      clear pp20 pp21 pp30 pp31
      with_reducible refine P.out.mono ?_
      rintro e V4 ⟨v, rfl, hf, H⟩
      obtain rfl := H.now
      replace xa := xa.keep hf
      replace xb := xb.keep hf
      replace HA := HA.keep hf
      replace HB := HB.keep hf
      replace F := fr_then F hf
      clear P hf H
      have pp20 := xa.c0
      have pp21 := xa.c1
      have pp30 := xb.c0
      have pp31 := xb.c1
      go_wp2_with fail
      clear pp20 pp21 pp30 pp31
      go_ret
      exact ⟨rfl, F⟩
    | true =>
      have GA := fit3 FA.out HB1.out
      have GB := fit3 FB.out HB2.out
      have G3 := Lib.hid GA.1
      have G4 := Lib.hid GB.1
      have h64 := GA.2
      obtain ⟨e1, he1⟩ : ∃ r, mmE sha ea shb eb = r := ⟨_, rfl⟩
      obtain ⟨r0, hr0⟩ : ∃ r, (if mayT sha ea ≠ 0 then mayT sha ea else mayT shb eb) = r := ⟨_, rfl⟩
      have HE1 := Lib.hid he1
      have HR0 := Lib.hid hr0
      have HNZ : Hid (r0 ≠ 0 → e1 = r0) := Lib.hid fun h => by
        rw [← he1, ← hr0]
        rw [← hr0] at h
        by_cases h1 : mayT sha ea = 0
        · rw [if_neg (by simpa using h1)] at h ⊢
          exact mmE_b h1 h
        · rw [if_pos h1] at h ⊢
          exact mmE_a h1
      have HZ : Hid (r0 = 0 → mayT sha ea = 0 ∧ mayT shb eb = 0) := Lib.hid fun h => by
        rw [← hr0] at h
        by_cases h1 : mayT sha ea = 0
        · rw [if_neg (by simpa using h1)] at h
          exact ⟨h1, h⟩
        · rw [if_pos h1] at h
          exact absurd h h1
      obtain ⟨sh', hsh⟩ : ∃ s, [sha.getD 0 0, shb.getD 1 0] = s := ⟨_, rfl⟩
      obtain ⟨qs, hqs⟩ : ∃ s, mmL (ea.map qOf) (eb.map qOf) (sha.getD 0 0).toNat (sha.getD 1 0).toNat (shb.getD 1 0).toNat = s := ⟨_, rfl⟩
      have HSH := Lib.hid hsh
      have HQS := Lib.hid hqs
      clear he1 hr0 GA GB hsh hqs
      have P := Lib.hid (mm_u (K := 500) HA.now HB.now G3 G4 HE1 (Lib.hid fun _ => HSH.out) (Lib.hid fun _ => HQS.out) (Lib.hid (by omega)))
      have pp20 := xa.c0
      have pp21 := xa.c1
      have pp30 := xb.c0
      have pp31 := xb.c1
      go_wp2_with fail
      clear pp20 pp21 pp30 pp31
      with_reducible refine P.out.mono ?_
      rintro e W5 ⟨v, rfl, hf, H⟩
      obtain ⟨A5, n5, c5, B5, m5, k5, rfl, -⟩ := H.now
      have al := fun R => (Fr.refl R W5).alloc (.cells #[.slice A5 n5 c5, .slice B5 m5 k5] 26)
      replace xa := xa.keep hf
      replace xb := xb.keep hf
      replace HA := HA.keep hf
      replace HB := HB.keep hf
      replace F := fr_then F hf
      replace xa := xa.keep (al _)
      replace xb := xb.keep (al _)
      replace HA := HA.keep (al _)
      replace HB := HB.keep (al _)
      replace F := fr_then F (al _)
      have z5 := Box2.new W5 26 (.slice A5 n5 c5) (.slice B5 m5 k5)
      have H5 : Hold (fun u => TC e1 sh' (qs.map canR) u (.slice A5 n5 c5) (.slice B5 m5 k5)) (W5.alloc (.cells #[.slice A5 n5 c5, .slice B5 m5 k5] 26)) := (H.mono fun _ h => h.out).keep (al _)
      clear P hf H al
      have AB := fun R => (Fr.refl R (W5.alloc (.cells #[.slice A5 n5 c5, .slice B5 m5 k5] 26))).alloc (.cells #[.slice A sha.length c, .slice A' ea.length c', .slice B shb.length d, .slice B' eb.length d'] 26)
      have hrow := heap_alloc_new (W5.alloc (.cells #[.slice A5 n5 c5, .slice B5 m5 k5] 26)) (.cells #[.slice A sha.length c, .slice A' ea.length c', .slice B shb.length d, .slice B' eb.length d'] 26)
      rw [World.size_alloc] at hrow
      have P := Lib.hid (first10_2 (HA.keep (AB _)).now (HB.keep (AB _)).now hrow G3 G4 HR0)
      clear hrow
      have pp20 := xa.c0
      have pp21 := xa.c1
      have pp30 := xb.c0
      have pp31 := xb.c1
      have pp50 := z5.c0
      have pp51 := z5.c1
      go_wp2_with fail
      clear pp20 pp21 pp30 pp31 pp50 pp51
      replace xa := xa.keep (AB _)
      replace xb := xb.keep (AB _)
      replace z5 := z5.keep (AB _)
      replace HA := HA.keep (AB _)
      replace HB := HB.keep (AB _)
      replace H5 := H5.keep (AB _)
      replace F := fr_then F (AB _)
      clear AB
      generalize (W5.alloc (.cells #[.slice A5 n5 c5, .slice B5 m5 k5] 26)).alloc (.cells #[.slice A sha.length c, .slice A' ea.length c', .slice B shb.length d, .slice B' eb.length d'] 26) = U5 at *
      generalize W5.heap.size = b5 at *
      with_reducible refine P.out.mono ?_
      rintro e V9 ⟨v, rfl, hf, H⟩
      obtain rfl := H.now
      replace xa := xa.keep hf
      replace xb := xb.keep hf
      replace z5 := z5.keep hf
      replace HA := HA.keep hf
      replace HB := HB.keep hf
      replace H5 := H5.keep hf
      replace F := fr_then F hf
      clear P hf H
      by_cases h0 : r0 = 0
      case neg =>
        have hb0 : (r0 == 0) = false := beq_eq_false_iff_ne.2 h0
        have e10 := HNZ.out h0
        subst e10
        have P := Lib.hid (told10_e H5.now (Lib.hid h0))
        have pp20 := xa.c0
        have pp21 := xa.c1
        have pp30 := xb.c0
        have pp31 := xb.c1
        have pp50 := z5.c0
        have pp51 := z5.c1
        go_wp2_with fail
        clear pp20 pp21 pp30 pp31 pp50 pp51
        with_reducible refine P.out.mono ?_
        rintro e V5 ⟨v, rfl, hf, H⟩
        obtain rfl := H.now
        replace xa := xa.keep hf
        replace xb := xb.keep hf
        replace z5 := z5.keep hf
        replace HA := HA.keep hf
        replace HB := HB.keep hf
        replace H5 := H5.keep hf
        replace F := fr_then F hf
        clear P hf H
        have P := Lib.hid (known10_u V5)
        have pp20 := xa.c0
        have pp21 := xa.c1
        have pp30 := xb.c0
        have pp31 := xb.c1
        have pp50 := z5.c0
        have pp51 := z5.c1
        go_wp2_with fail
        clear pp20 pp21 pp30 pp31 pp50 pp51
        with_reducible refine P.out.mono ?_
        rintro e V6 ⟨v, rfl, hf, H⟩
        obtain rfl := H.now
        replace xa := xa.keep hf
        replace xb := xb.keep hf
        replace z5 := z5.keep hf
        replace HA := HA.keep hf
        replace HB := HB.keep hf
        replace H5 := H5.keep hf
        replace F := fr_then F hf
        clear P hf H
        have pp20 := xa.c0
        have pp21 := xa.c1
        have pp30 := xb.c0
        have pp31 := xb.c1
        have pp50 := z5.c0
        have pp51 := z5.c1
        go_wp2_with fail
        clear pp20 pp21 pp30 pp31 pp50 pp51
        go_ret
        exact ⟨rfl, F⟩
      subst h0
      have HM := HZ.out rfl
      have hma := mayT_ok HM.1
      have hmb := mayT_ok HM.2
      have HMA := Lib.hid (show mayS sha = 0 ∧ ((ea.map qOf).length : Int) = pr sha from ⟨hma.1, by rw [List.length_map, hma.2.1, cntS_ok hma.1]⟩)
      have HMB := Lib.hid (show mayS shb = 0 ∧ ((eb.map qOf).length : Int) = pr shb from ⟨hmb.1, by rw [List.length_map, hmb.2.1, cntS_ok hmb.1]⟩)
      have HE2 := Lib.hid ((mm_rm HM.1 HM.2).symm.trans HE1.out)
      have HBD := Lib.hid (show e1 = 0 → ∀ n k, k ≤ (sha.getD 1 0).toNat → (dg DB (mmS (ea.map qOf) (eb.map qOf) (sha.getD 1 0).toNat (shb.getD 1 0).toNat n k).num.natAbs).length ≤ 1500 ∧ (dg DB (mmS (ea.map qOf) (eb.map qOf) (sha.getD 1 0).toNat (shb.getD 1 0).toNat n k).den).length ≤ 1500 from fun h n k hk => lens_db (mm_bound (K := 500) G3.out G4.out (HE1.out.trans h) (by omega) n k hk) (by decide))
      
      clear hma hmb HM
      have pp20 := xa.c0
      have pp21 := xa.c1
      have pp30 := xb.c0
      have pp31 := xb.c1
      have pp50 := z5.c0
      have pp51 := z5.c1
      go_wp2_with fail
      clear pp20 pp21 pp30 pp31 pp50 pp51
      have DR := fun R => (Fr.refl R V9).drew
      replace xa := xa.keep (DR _)
      replace xb := xb.keep (DR _)
      replace z5 := z5.keep (DR _)
      replace HA := HA.keep (DR _)
      replace HB := HB.keep (DR _)
      replace H5 := H5.keep (DR _)
      replace F := F.drew
      clear DR
      refine wpTill.begin (fun _ => True) 9 (by kernel_rfl) ?_
      change wpTill _ _ _ _ _ _ 11 _ _ _
      refine wpTill.free (jj := 9) (m := 2) [(0, Fact.eq (.agg #[.slice A sha.length c, .slice A' ea.length c'])),
            (1, Fact.held (Agg (QV sha (ea.map qOf) (3 * 3)))),
            (2, Fact.eq (.agg #[.slice B shb.length d, .slice B' eb.length d'])),
            (3, Fact.held (Agg (QV shb (eb.map qOf) (3 * 3)))),
            (4, Fact.held (Tup (e1) (QC e1 sh' qs 1500))),
            (5, Fact.same 4),
            (6, Fact.fst 5),
            (8, Fact.mem (New2 V9.drew.heap.size 36 (.slice none 0 0) (.slice none 0 0)) New2.keep)] [(7, Fact.snd 5)] [0, 1, 0, 7, 15, 31, 63, 63, 0, 383, 1023] [] ?_ (by kernel_rfl) (by kernel_rfl) (by kernel_rfl) [(0, some 40), (1, some 41), (2, some 42), (3, some 43), (4, some 44), (5, some 39), (6, some 45), (8, some 8), (7, some 46)] (by kernel_rfl) ?hA1 ?hQ1 (fun _ _ => trivial) (by kernel_rfl) ?steps1 ?looses1 ?cont1
      case hQ1 => exact fun _ _ _ _ _ h => h
      case hA1 =>
        intro vs
        simp only [fillD, List.foldl_cons, List.foldl_nil, Act.put, List.setIfInBounds_toArray, List.set_cons_zero, List.set_cons_succ]
        exact rfl
      case steps1 =>
        refine ⟨?_, ?_, ?_, ?_, ?_, ?_, ?_, ?_, trivial⟩
        · rintro vs u ⟨hV0, hV1, hV2, hV3, hV4, hV5, hV6, hV8, hV7, -⟩ G
          have o0 := (xa.keep G).c0
          have o1 := (xa.keep G).c1
          exact stepAt.pure (v := .agg #[.slice A sha.length c, .slice A' ea.length c']) rfl rfl (by go_simp) rfl
        · rintro vs u ⟨hV0, hV1, hV2, hV3, hV4, hV5, hV6, hV8, hV7, -⟩ G
          refine stepAt.call (f := 18) (args := #[vs 0]) rfl rfl (by go_simp) ?_
          have eV0 : vs 0 = .agg #[.slice A sha.length c, .slice A' ea.length c'] := hV0 rfl
          rw [eV0]
          exact of_u (HA.at G) G3
        · rintro vs u ⟨hV0, hV1, hV2, hV3, hV4, hV5, hV6, hV8, hV7, -⟩ G
          have o0 := (xb.keep G).c0
          have o1 := (xb.keep G).c1
          exact stepAt.pure (v := .agg #[.slice B shb.length d, .slice B' eb.length d']) rfl rfl (by go_simp) rfl
        · rintro vs u ⟨hV0, hV1, hV2, hV3, hV4, hV5, hV6, hV8, hV7, -⟩ G
          refine stepAt.call (f := 18) (args := #[vs 2]) rfl rfl (by go_simp) ?_
          have eV2 : vs 2 = .agg #[.slice B shb.length d, .slice B' eb.length d'] := hV2 rfl
          rw [eV2]
          exact of_u (HB.at G) G4
        · rintro vs u ⟨hV0, hV1, hV2, hV3, hV4, hV5, hV6, hV8, hV7, -⟩ G
          refine stepAt.call (f := 22) (args := #[vs 1, vs 3]) rfl rfl (by go_simp) ?_
          have HV1 : Hold (fun u' => (Agg (QV sha (ea.map qOf) (3 * 3))) u' (vs 1)) u := hV1 rfl
          obtain ⟨A1_1, n1_1, c1_1, B1_1, m1_1, k1_1, eV1, -⟩ := HV1.now
          rw [eV1] at HV1
          have HV3 : Hold (fun u' => (Agg (QV shb (eb.map qOf) (3 * 3))) u' (vs 3)) u := hV3 rfl
          obtain ⟨A1_3, n1_3, c1_3, B1_3, m1_3, k1_3, eV3, -⟩ := HV3.now
          rw [eV3] at HV3
          rw [eV1, eV3]
          exact rmm_u (M := 1500) HV1.now.out HV3.now.out HE2 HMA HMB (Lib.hid fun _ => HSH.out) (Lib.hid (by decide)) (Lib.hid fun _ => HQS.out) HBD
        · rintro vs u ⟨hV0, hV1, hV2, hV3, hV4, hV5, hV6, hV8, hV7, -⟩ G
          exact stepAt.pure (v := vs 4) rfl rfl (by go_simp) rfl
        · rintro vs u ⟨hV0, hV1, hV2, hV3, hV4, hV5, hV6, hV8, hV7, -⟩ G
          have HV4 : Hold (fun u' => (Tup (e1) (QC e1 sh' qs 1500)) u' (vs 4)) u := hV4 rfl
          obtain ⟨A1_4, n1_4, c1_4, B1_4, m1_4, k1_4, eV4, -⟩ := HV4.now
          rw [eV4] at HV4
          have eV5 : vs 5 = .tuple #[.agg #[.slice A1_4 n1_4 c1_4, .slice B1_4 m1_4 k1_4], .int .i64 e1] := (show vs 5 = vs 4 from hV5 rfl).trans eV4
          exact stepAt.pure (v := .agg #[.slice A1_4 n1_4 c1_4, .slice B1_4 m1_4 k1_4]) rfl rfl (by simp only [eV5]; go_simp) ⟨_, _, eV5, rfl⟩
        · rintro vs u ⟨hV0, hV1, hV2, hV3, hV4, hV5, hV6, hV8, hV7, -⟩ G
          exact stepAt.value (v := .pointer (some ⟨u.heap.size, 0, none⟩)) (u := u.alloc (.cells #[.slice none 0 0, .slice none 0 0] 36)) rfl rfl (by go_simp) ((Fr.refl _ _).alloc _) ⟨_, rfl, G.size, Box2.new _ _ _ _⟩
      case looses1 =>
        refine ⟨?_, trivial⟩
        · rintro vs u ⟨hV0, hV1, hV2, hV3, hV4, hV5, hV6, hV8, hV7, -⟩ G
          have HV4 : Hold (fun u' => (Tup (e1) (QC e1 sh' qs 1500)) u' (vs 4)) u := hV4 rfl
          obtain ⟨A1_4, n1_4, c1_4, B1_4, m1_4, k1_4, eV4, -⟩ := HV4.now
          rw [eV4] at HV4
          have eV5 : vs 5 = .tuple #[.agg #[.slice A1_4 n1_4 c1_4, .slice B1_4 m1_4 k1_4], .int .i64 e1] := (show vs 5 = vs 4 from hV5 rfl).trans eV4
          exact pureAt.of (v := .int .i64 e1) rfl rfl (fun _ => by simp only [eV5]; go_simp) ⟨_, _, eV5, rfl⟩
      rintro vs u ⟨hV0, hV1, hV2, hV3, hV4, hV5, hV6, hV8, hV7, -⟩ G
      have eV0 : vs 0 = .agg #[.slice A sha.length c, .slice A' ea.length c'] := hV0
      replace hV1 : Hold (fun u' => (Agg (QV sha (ea.map qOf) (3 * 3))) u' (vs 1)) u := hV1
      obtain ⟨A1_1, n1_1, c1_1, B1_1, m1_1, k1_1, eV1, -⟩ := hV1.now
      rw [eV1] at hV1
      have eV2 : vs 2 = .agg #[.slice B shb.length d, .slice B' eb.length d'] := hV2
      replace hV3 : Hold (fun u' => (Agg (QV shb (eb.map qOf) (3 * 3))) u' (vs 3)) u := hV3
      obtain ⟨A1_3, n1_3, c1_3, B1_3, m1_3, k1_3, eV3, -⟩ := hV3.now
      rw [eV3] at hV3
      replace hV4 : Hold (fun u' => (Tup (e1) (QC e1 sh' qs 1500)) u' (vs 4)) u := hV4
      obtain ⟨A1_4, n1_4, c1_4, B1_4, m1_4, k1_4, eV4, -⟩ := hV4.now
      rw [eV4] at hV4
      have eV5 : vs 5 = _ := (show vs 5 = vs 4 from hV5).trans eV4
      obtain ⟨x6, z6, a6, eV6⟩ := hV6
      have a6 := eV5.symm.trans a6
      cases a6
      replace eV6 : vs 6 = _ := eV6
      obtain ⟨b1_8, eV8, l1_8, y1_8⟩ := hV8
      replace eV8 : vs 8 = _ := eV8
      obtain ⟨x7, z7, a7, eV7⟩ := hV7
      have a7 := eV5.symm.trans a7
      cases a7
      replace eV7 : vs 7 = _ := eV7
      simp only [eV0, eV1, eV2, eV3, eV4, eV5, eV6, eV8, eV7]
      clear eV0 eV1 eV2 eV3 eV4 eV5 eV6 eV8 eV7 hV0 hV2 hV5
      have g0 := y1_8.free 0
      have g1 := y1_8.free 1
      have g2 := y1_8.c0
      have g3 := y1_8.c1
      refine wpTill.next 9 rfl (by kernel_rfl) (by rfl) (fun K hK => ?_)
      go_simp
      refine hK _ _ (no_wait (by kernel_rfl)) ?_
      clear hK K
      refine wpTill.next 10 rfl (by kernel_rfl) (by rfl) (fun K hK => ?_)
      go_simp
      refine hK _ _ (no_wait (by kernel_rfl)) ?_
      clear hK K
      refine wpTill.done (by kernel_rfl) ?_
      have F9 := fr_put2 u b1_8 (.slice A1_4 n1_4 c1_4) (.slice B1_4 m1_4 k1_4)
      have G9 := G.comp F9 (R := fun k => k < V9.drew.heap.size) fun k _ hk => ⟨hk, by omega⟩
      have z1 := y1_8.set2 (.slice A1_4 n1_4 c1_4) (.slice B1_4 m1_4 k1_4)
      have T1 := (hV4.now.out.fill (.slice A1_4 n1_4 c1_4) (.slice B1_4 m1_4 k1_4) y1_8).hold
      replace xa := xa.keep G9
      replace xb := xb.keep G9
      replace z5 := z5.keep G9
      replace HA := HA.keep G9
      replace HB := HB.keep G9
      replace H5 := H5.keep G9
      replace F := fr_then F G9
      generalize (u.setCell ⟨b1_8, 0, none⟩ (.slice A1_4 n1_4 c1_4)).setCell ⟨b1_8, 1, none⟩ (.slice B1_4 m1_4 k1_4) = U1 at z1 T1 xa xb z5 HA HB H5 F ⊢
      clear g0 g1 g2 g3 F9 G9 G y1_8 l1_8 hV4
      have P := Lib.hid (told10_u H5.now T1.now ⟨⟨_, _, _, rfl⟩, ⟨_, _, _, rfl⟩⟩ (Lib.hid fun _ => ⟨rfl, rfl⟩) (by decide))
      have pp20 := xa.c0
      have pp21 := xa.c1
      have pp30 := xb.c0
      have pp31 := xb.c1
      have pp50 := z5.c0
      have pp51 := z5.c1
      have pp80 := z1.c0
      have pp81 := z1.c1
      go_wp2_with fail
      clear pp20 pp21 pp30 pp31 pp50 pp51 pp80 pp81
      with_reducible refine P.out.mono ?_
      rintro e V7 ⟨v, rfl, hf, H⟩
      obtain rfl := H.now
      replace xa := xa.keep hf
      replace xb := xb.keep hf
      replace z5 := z5.keep hf
      replace z1 := z1.keep hf
      replace HA := HA.keep hf
      replace HB := HB.keep hf
      replace H5 := H5.keep hf
      replace T1 := T1.keep hf
      replace F := fr_then F hf
      clear P hf H
      have P := Lib.hid (known10_u V7)
      have pp20 := xa.c0
      have pp21 := xa.c1
      have pp30 := xb.c0
      have pp31 := xb.c1
      have pp50 := z5.c0
      have pp51 := z5.c1
      have pp80 := z1.c0
      have pp81 := z1.c1
      go_wp2_with fail
      clear pp20 pp21 pp30 pp31 pp50 pp51 pp80 pp81
      with_reducible refine P.out.mono ?_
      rintro e V8 ⟨v, rfl, hf, H⟩
      obtain rfl := H.now
      replace xa := xa.keep hf
      replace xb := xb.keep hf
      replace z5 := z5.keep hf
      replace z1 := z1.keep hf
      replace HA := HA.keep hf
      replace HB := HB.keep hf
      replace H5 := H5.keep hf
      replace T1 := T1.keep hf
      replace F := fr_then F hf
      clear P hf H
      have pp20 := xa.c0
      have pp21 := xa.c1
      have pp30 := xb.c0
      have pp31 := xb.c1
      have pp50 := z5.c0
      have pp51 := z5.c1
      have pp80 := z1.c0
      have pp81 := z1.c1
      go_wp2_with fail
      clear pp20 pp21 pp30 pp31 pp50 pp51 pp80 pp81
      go_ret
      exact ⟨rfl, F⟩
end Go.Proofs.YtlppcfeimpcbjaaGreat

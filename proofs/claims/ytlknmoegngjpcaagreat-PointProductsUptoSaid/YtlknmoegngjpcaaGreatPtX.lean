import Derived.Test.YtlknmoegngjpcaaGreatPointE
set_option linter.unusedSimpArgs false
set_option linter.unusedVariables false

/- PointProducts: printed by gen_ptv.py. -/
namespace Go.Proofs.YtlknmoegngjpcaaGreat
open Go.RowKit

set_option maxRecDepth 20000 in
set_option maxHeartbeats 32000000 in
theorem pprods_walk {S : Nat → Prop} {sha shb : List Int} {ea eb : List RatL} (w : World) (vx vy : Value) (L : Nat) (hx : TL S w vx sha ea L) (hy : TL S w vy shb eb L) (hL : L ≤ 1048576) :
    Calls Tryz.prog 6 #[vx, vy] w fun e w' => e = .returned (.bool true) ∧ Fr (fun k => k < w.heap.size) w w' := by
  have FA := Lib.hid (hx.fit hL)
  have FB := Lib.hid (hy.fit hL)
  obtain ⟨va, ve, rfl, ha, he⟩ := hx.ex
  obtain ⟨vb, vf, rfl, hb, hf⟩ := hy.ex
  obtain ⟨A, c, rfl, _, _, _⟩ := ha.slice
  obtain ⟨A', c', rfl, _, _, _⟩ := he.slice
  obtain ⟨B, d, rfl, _, _, _⟩ := hb.slice
  obtain ⟨B', d', rfl, _, _, _⟩ := hf.slice
  have HA := TV.hold ⟨ha.any, he.any⟩
  have HB := TV.hold ⟨hb.any, hf.any⟩
  clear hx hy ha he hb hf
  have F := ((Fr.refl (fun k => k < w.heap.size) w).alloc (.cells #[.slice A sha.length c, .slice A' ea.length c'] 26)).alloc (.cells #[.slice B shb.length d, .slice B' eb.length d'] 26)
  have xa := (Box2.new w 26 (.slice A sha.length c) (.slice A' ea.length c')).alloc (.cells #[.slice B shb.length d, .slice B' eb.length d'] 26)
  have xb := Box2.new (w.alloc (.cells #[.slice A sha.length c, .slice A' ea.length c'] 26)) 26 (.slice B shb.length d) (.slice B' eb.length d')
  simp only [World.size_alloc] at xb
  replace HA := HA.keep (F.mono fun k h _ => h)
  replace HB := HB.keep (F.mono fun k h _ => h)
  obtain ⟨b1, hb1⟩ : ∃ b, fewB ea = b := ⟨_, rfl⟩
  obtain ⟨b2, hb2⟩ : ∃ b, fewB eb = b := ⟨_, rfl⟩
  obtain ⟨r1, hr1⟩ : ∃ r, mayT sha ea = r := ⟨_, rfl⟩
  obtain ⟨r2, hr2⟩ : ∃ r, mayT shb eb = r := ⟨_, rfl⟩
  obtain ⟨r0, hr0⟩ : ∃ r, (if r1 ≠ 0 then r1 else r2) = r := ⟨_, rfl⟩
  obtain ⟨e1, he1⟩ : ∃ r, bothE noR sha ea shb eb = r := ⟨_, rfl⟩
  obtain ⟨e2, he2⟩ : ∃ r, bothE divR sha ea shb eb = r := ⟨_, rfl⟩
  have HER := Lib.hid (show r0 ≠ 0 → r0 = bothE noR sha ea shb eb ∧ r0 = bothE divR sha ea shb eb from fun h => by have t1 := bothE_r0 noR sha ea shb eb (by rw [hr1, hr2, hr0]; exact h); have t2 := bothE_r0 divR sha ea shb eb (by rw [hr1, hr2, hr0]; exact h); rw [hr1, hr2, hr0] at t1 t2; exact ⟨t1.symm, t2.symm⟩)
  have HEY := Lib.hid (show r0 = 0 → mayT sha ea = 0 ∧ mayT shb eb = 0 from fun h => by rw [hr1, hr2]; rw [h] at hr0; exact first_0 hr0)
  have HS1 := Lib.hid (show bothE noR sha ea shb eb = 0 → sha = sha ∧ (List.range ea.length).map (zipG mulG ea eb) = (List.zipWith (fun (x y : Rat) => x * y) (ea.map qOf) (eb.map qOf)).map canR from fun h => ⟨rfl, zip_mul ea eb (bothE_len h)⟩)
  have HS2 := Lib.hid (show bothE divR sha ea shb eb = 0 → sha = sha ∧ (List.range ea.length).map (zipG divG ea eb) = (List.zipWith (fun (x y : Rat) => x / y) (ea.map qOf) (eb.map qOf)).map canR from fun h => ⟨rfl, zip_div ea eb (bothE_len h)⟩)
  have FQA := Lib.hid (FA.out.fq)
  have FQB := Lib.hid (FB.out.fq)
  rw [he1, he2] at HER
  rw [he1] at HS1
  rw [he2] at HS2
  have HE1 := Lib.hid he1
  have HE2 := Lib.hid he2
  clear he1 he2
  have HB1 := Lib.hid hb1
  have HB2 := Lib.hid hb2
  have HR1 := Lib.hid hr1
  have HR2 := Lib.hid hr2
  have HR0 := Lib.hid hr0
  clear hb1 hb2 hr1 hr2 hr0
  go_enter Tryz.func6, Tryz.ntmps6
  repeat' ((fail_if_success (with_reducible refine wpTill.row (fun _ => True) 0 ?_ ?_)); go_step)
  apply wp_region_lit
  repeat' ((fail_if_success (with_reducible refine wpTill.row (fun _ => True) 0 ?_ ?_)); go_step)
  generalize (w.alloc (.cells #[.slice A sha.length c, .slice A' ea.length c'] 26)).alloc (.cells #[.slice B shb.length d, .slice B' eb.length d'] 26) = W0 at F xa xb HA HB ⊢
  cases b1
  · refine wpTill.row (fun _ => True) 7 (by kernel_rfl) ?_
    change wpTill _ _ _ _ _ _ 8 _ _ _
    refine wpTill.free (jj := 7) (m := 0) [(0, Fact.eq (.agg #[.slice A sha.length c, .slice A' ea.length c'])),
      (1, Fact.eq (.bool false)),
      (2, Fact.eq (.bool true)),
      (3, Fact.eq (.bool true)),
      (4, Fact.eq undef),
      (5, Fact.eq undef),
      (6, Fact.eq undef),
      (7, Fact.eq (.bool true))] [] [0, 1, 3, 7, 15, 31, 63, 127] [] ?_ (by kernel_rfl) (by kernel_rfl) (by kernel_rfl) [(0, some 14), (1, some 15), (2, some 16), (3, some 17), (4, some 18), (5, some 19), (6, some 20), (7, some 21)] (by kernel_rfl) ?hA15 ?hQ15 (fun _ _ => trivial) (by kernel_rfl) ?steps15 ?looses15 ?cont15
    case hQ15 => exact fun _ _ _ _ _ h => h
    case hA15 =>
      intro vs
      simp only [fillD, List.foldl_cons, List.foldl_nil, Act.put, List.setIfInBounds_toArray, List.set_cons_zero, List.set_cons_succ]
      exact rfl
    case steps15 =>
      refine ⟨?_, ?_, ?_, ?_, ?_, ?_, ?_, ?_, trivial⟩
      · rintro vs u ⟨hV0, hV1, hV2, hV3, hV4, hV5, hV6, hV7, -⟩ G
        have o0 := (xa.keep G).c0
        have o1 := (xa.keep G).c1
        exact stepAt.pure (v := .agg #[.slice A sha.length c, .slice A' ea.length c']) rfl rfl (by go_simp) rfl
      · rintro vs u ⟨hV0, hV1, hV2, hV3, hV4, hV5, hV6, hV7, -⟩ G
        refine stepAt.call (f := 11) (args := #[vs 0]) rfl rfl (by go_simp) ?_
        have eV0 : vs 0 = .agg #[.slice A sha.length c, .slice A' ea.length c'] := hV0 rfl
        rw [eV0]
        exact (few_u (HA.at G) HB1).mono fun _ _ ⟨v, h1, h2, h3⟩ => ⟨v, h1, h2, h3.now⟩
      · rintro vs u ⟨hV0, hV1, hV2, hV3, hV4, hV5, hV6, hV7, -⟩ G
        have eV1 : vs 1 = .bool false := hV1 rfl
        exact stepAt.pure (v := .bool true) rfl rfl (by simp only [eV1]; go_simp) rfl
      · rintro vs u ⟨hV0, hV1, hV2, hV3, hV4, hV5, hV6, hV7, -⟩ G
        have eV2 : vs 2 = .bool true := hV2 rfl
        exact stepAt.pure (v := .bool true) rfl rfl (by simp only [eV2]; go_simp) rfl
      · rintro vs u ⟨hV0, hV1, hV2, hV3, hV4, hV5, hV6, hV7, -⟩ G
        exact stepAt.unwanted rfl (wanted_not (g := 3) (b := false) (t := 17) rfl (by kernel_rfl) (congrArg some (show vs 3 = _ from hV3 rfl))) rfl
      · rintro vs u ⟨hV0, hV1, hV2, hV3, hV4, hV5, hV6, hV7, -⟩ G
        exact stepAt.unwanted rfl (wanted_not (g := 3) (b := false) (t := 17) rfl (by kernel_rfl) (congrArg some (show vs 3 = _ from hV3 rfl))) rfl
      · rintro vs u ⟨hV0, hV1, hV2, hV3, hV4, hV5, hV6, hV7, -⟩ G
        exact stepAt.unwanted rfl (wanted_not (g := 3) (b := false) (t := 17) rfl (by kernel_rfl) (congrArg some (show vs 3 = _ from hV3 rfl))) rfl
      · rintro vs u ⟨hV0, hV1, hV2, hV3, hV4, hV5, hV6, hV7, -⟩ G
        have eV3 : vs 3 = .bool true := hV3 rfl
        have eV6 : vs 6 = undef := hV6 rfl
        exact stepAt.pure (v := .bool true) rfl rfl (by simp only [eV3, eV6]; go_simp) rfl
    case looses15 =>
      exact trivial
    rintro vs U1 ⟨hV0, hV1, hV2, hV3, hV4, hV5, hV6, hV7, -⟩ G
    have eV0 : vs 0 = .agg #[.slice A sha.length c, .slice A' ea.length c'] := hV0
    have eV1 : vs 1 = .bool false := hV1
    have eV2 : vs 2 = .bool true := hV2
    have eV3 : vs 3 = .bool true := hV3
    have eV4 : vs 4 = undef := hV4
    have eV5 : vs 5 = undef := hV5
    have eV6 : vs 6 = undef := hV6
    have eV7 : vs 7 = .bool true := hV7
    simp only [eV0, eV1, eV2, eV3, eV4, eV5, eV6, eV7]
    clear eV0 eV1 eV2 eV3 eV4 eV5 eV6 eV7 hV0 hV1 hV2 hV3 hV4 hV5 hV6 hV7
    refine wpTill.done (by kernel_rfl) ?_
    replace xa := xa.keep G
    replace xb := xb.keep G
    replace HA := HA.keep G
    replace HB := HB.keep G
    replace F := fr_then F G
    clear G
    repeat' ((fail_if_success (with_reducible refine wpTill.row (fun _ => True) 0 ?_ ?_)); go_step)
    refine wpTill.row (fun _ => True) 1 (by kernel_rfl) ?_
    change wpTill _ _ _ _ _ _ 2 _ _ _
    refine wpTill.free (jj := 1) (m := 1) [(0, Fact.eq (.bool true))] [] [0, 1] [] ?_ (by kernel_rfl) (by kernel_rfl) (by kernel_rfl) [(0, some 22)] (by kernel_rfl) ?hA16 ?hQ16 (fun _ _ => trivial) (by kernel_rfl) ?steps16 ?looses16 ?cont16
    case hQ16 => exact fun _ _ _ _ _ h => h
    case hA16 =>
      intro vs
      simp only [fillD, List.foldl_cons, List.foldl_nil, Act.put, List.setIfInBounds_toArray, List.set_cons_zero, List.set_cons_succ]
      exact rfl
    case steps16 =>
      refine ⟨?_, trivial⟩
      · rintro vs u ⟨hV0, -⟩ G
        refine stepAt.call (f := 15) (args := #[]) rfl rfl (by go_simp) ?_
        exact (known_u u).mono fun _ _ ⟨v, h1, h2, h3⟩ => ⟨v, h1, h2, h3.now⟩
    case looses16 =>
      exact trivial
    rintro vs U2 ⟨hV0, -⟩ G
    have eV0 : vs 0 = .bool true := hV0
    simp only [eV0]
    clear eV0 hV0
    refine wpTill.next 1 rfl (by kernel_rfl) (by rfl) (fun K hK => ?_)
    go_simp
    refine hK _ _ (no_wait (by kernel_rfl)) ?_
    clear hK K
    refine wpTill.done (by kernel_rfl) ?_
    replace xa := xa.keep G
    replace xb := xb.keep G
    replace HA := HA.keep G
    replace HB := HB.keep G
    replace F := fr_then F G
    clear G
    repeat' ((fail_if_success (with_reducible refine wpTill.row (fun _ => True) 0 ?_ ?_)); go_step)
    go_ret
    exact ⟨rfl, F⟩
  · cases b2
    · refine wpTill.row (fun _ => True) 7 (by kernel_rfl) ?_
      change wpTill _ _ _ _ _ _ 8 _ _ _
      refine wpTill.free (jj := 7) (m := 0) [(0, Fact.eq (.agg #[.slice A sha.length c, .slice A' ea.length c'])),
      (1, Fact.eq (.bool true)),
      (2, Fact.eq (.bool false)),
      (3, Fact.eq (.bool false)),
      (4, Fact.eq (.agg #[.slice B shb.length d, .slice B' eb.length d'])),
      (5, Fact.eq (.bool false)),
      (6, Fact.eq (.bool true)),
      (7, Fact.eq (.bool true))] [] [0, 1, 3, 7, 15, 31, 63, 127] [] ?_ (by kernel_rfl) (by kernel_rfl) (by kernel_rfl) [(0, some 14), (1, some 15), (2, some 16), (3, some 17), (4, some 18), (5, some 19), (6, some 20), (7, some 21)] (by kernel_rfl) ?hA17 ?hQ17 (fun _ _ => trivial) (by kernel_rfl) ?steps17 ?looses17 ?cont17
      case hQ17 => exact fun _ _ _ _ _ h => h
      case hA17 =>
        intro vs
        simp only [fillD, List.foldl_cons, List.foldl_nil, Act.put, List.setIfInBounds_toArray, List.set_cons_zero, List.set_cons_succ]
        exact rfl
      case steps17 =>
        refine ⟨?_, ?_, ?_, ?_, ?_, ?_, ?_, ?_, trivial⟩
        · rintro vs u ⟨hV0, hV1, hV2, hV3, hV4, hV5, hV6, hV7, -⟩ G
          have o0 := (xa.keep G).c0
          have o1 := (xa.keep G).c1
          exact stepAt.pure (v := .agg #[.slice A sha.length c, .slice A' ea.length c']) rfl rfl (by go_simp) rfl
        · rintro vs u ⟨hV0, hV1, hV2, hV3, hV4, hV5, hV6, hV7, -⟩ G
          refine stepAt.call (f := 11) (args := #[vs 0]) rfl rfl (by go_simp) ?_
          have eV0 : vs 0 = .agg #[.slice A sha.length c, .slice A' ea.length c'] := hV0 rfl
          rw [eV0]
          exact (few_u (HA.at G) HB1).mono fun _ _ ⟨v, h1, h2, h3⟩ => ⟨v, h1, h2, h3.now⟩
        · rintro vs u ⟨hV0, hV1, hV2, hV3, hV4, hV5, hV6, hV7, -⟩ G
          have eV1 : vs 1 = .bool true := hV1 rfl
          exact stepAt.pure (v := .bool false) rfl rfl (by simp only [eV1]; go_simp) rfl
        · rintro vs u ⟨hV0, hV1, hV2, hV3, hV4, hV5, hV6, hV7, -⟩ G
          have eV2 : vs 2 = .bool false := hV2 rfl
          exact stepAt.pure (v := .bool false) rfl rfl (by simp only [eV2]; go_simp) rfl
        · rintro vs u ⟨hV0, hV1, hV2, hV3, hV4, hV5, hV6, hV7, -⟩ G
          have o0 := (xb.keep G).c0
          have o1 := (xb.keep G).c1
          exact stepAt.pure (v := .agg #[.slice B shb.length d, .slice B' eb.length d']) rfl (wanted_by (g := 3) (b := false) (t := 17) rfl (by kernel_rfl) (congrArg some (show vs 3 = _ from hV3 rfl))) (by go_simp) rfl
        · rintro vs u ⟨hV0, hV1, hV2, hV3, hV4, hV5, hV6, hV7, -⟩ G
          refine stepAt.call (f := 11) (args := #[vs 4]) rfl (wanted_by (g := 3) (b := false) (t := 17) rfl (by kernel_rfl) (congrArg some (show vs 3 = _ from hV3 rfl))) (by go_simp) ?_
          have eV4 : vs 4 = .agg #[.slice B shb.length d, .slice B' eb.length d'] := hV4 rfl
          rw [eV4]
          exact (few_u (HB.at G) HB2).mono fun _ _ ⟨v, h1, h2, h3⟩ => ⟨v, h1, h2, h3.now⟩
        · rintro vs u ⟨hV0, hV1, hV2, hV3, hV4, hV5, hV6, hV7, -⟩ G
          have eV5 : vs 5 = .bool false := hV5 rfl
          exact stepAt.pure (v := .bool true) rfl (wanted_by (g := 3) (b := false) (t := 17) rfl (by kernel_rfl) (congrArg some (show vs 3 = _ from hV3 rfl))) (by simp only [eV5]; go_simp) rfl
        · rintro vs u ⟨hV0, hV1, hV2, hV3, hV4, hV5, hV6, hV7, -⟩ G
          have eV3 : vs 3 = .bool false := hV3 rfl
          have eV6 : vs 6 = .bool true := hV6 rfl
          exact stepAt.pure (v := .bool true) rfl rfl (by simp only [eV3, eV6]; go_simp) rfl
      case looses17 =>
        exact trivial
      rintro vs U1 ⟨hV0, hV1, hV2, hV3, hV4, hV5, hV6, hV7, -⟩ G
      have eV0 : vs 0 = .agg #[.slice A sha.length c, .slice A' ea.length c'] := hV0
      have eV1 : vs 1 = .bool true := hV1
      have eV2 : vs 2 = .bool false := hV2
      have eV3 : vs 3 = .bool false := hV3
      have eV4 : vs 4 = .agg #[.slice B shb.length d, .slice B' eb.length d'] := hV4
      have eV5 : vs 5 = .bool false := hV5
      have eV6 : vs 6 = .bool true := hV6
      have eV7 : vs 7 = .bool true := hV7
      simp only [eV0, eV1, eV2, eV3, eV4, eV5, eV6, eV7]
      clear eV0 eV1 eV2 eV3 eV4 eV5 eV6 eV7 hV0 hV1 hV2 hV3 hV4 hV5 hV6 hV7
      refine wpTill.done (by kernel_rfl) ?_
      replace xa := xa.keep G
      replace xb := xb.keep G
      replace HA := HA.keep G
      replace HB := HB.keep G
      replace F := fr_then F G
      clear G
      repeat' ((fail_if_success (with_reducible refine wpTill.row (fun _ => True) 0 ?_ ?_)); go_step)
      refine wpTill.row (fun _ => True) 1 (by kernel_rfl) ?_
      change wpTill _ _ _ _ _ _ 2 _ _ _
      refine wpTill.free (jj := 1) (m := 1) [(0, Fact.eq (.bool true))] [] [0, 1] [] ?_ (by kernel_rfl) (by kernel_rfl) (by kernel_rfl) [(0, some 22)] (by kernel_rfl) ?hA18 ?hQ18 (fun _ _ => trivial) (by kernel_rfl) ?steps18 ?looses18 ?cont18
      case hQ18 => exact fun _ _ _ _ _ h => h
      case hA18 =>
        intro vs
        simp only [fillD, List.foldl_cons, List.foldl_nil, Act.put, List.setIfInBounds_toArray, List.set_cons_zero, List.set_cons_succ]
        exact rfl
      case steps18 =>
        refine ⟨?_, trivial⟩
        · rintro vs u ⟨hV0, -⟩ G
          refine stepAt.call (f := 15) (args := #[]) rfl rfl (by go_simp) ?_
          exact (known_u u).mono fun _ _ ⟨v, h1, h2, h3⟩ => ⟨v, h1, h2, h3.now⟩
      case looses18 =>
        exact trivial
      rintro vs U2 ⟨hV0, -⟩ G
      have eV0 : vs 0 = .bool true := hV0
      simp only [eV0]
      clear eV0 hV0
      refine wpTill.next 1 rfl (by kernel_rfl) (by rfl) (fun K hK => ?_)
      go_simp
      refine hK _ _ (no_wait (by kernel_rfl)) ?_
      clear hK K
      refine wpTill.done (by kernel_rfl) ?_
      replace xa := xa.keep G
      replace xb := xb.keep G
      replace HA := HA.keep G
      replace HB := HB.keep G
      replace F := fr_then F G
      clear G
      repeat' ((fail_if_success (with_reducible refine wpTill.row (fun _ => True) 0 ?_ ?_)); go_step)
      go_ret
      exact ⟨rfl, F⟩
    · refine wpTill.row (fun _ => True) 7 (by kernel_rfl) ?_
      change wpTill _ _ _ _ _ _ 8 _ _ _
      refine wpTill.free (jj := 7) (m := 0) [(0, Fact.eq (.agg #[.slice A sha.length c, .slice A' ea.length c'])),
      (1, Fact.eq (.bool true)),
      (2, Fact.eq (.bool false)),
      (3, Fact.eq (.bool false)),
      (4, Fact.eq (.agg #[.slice B shb.length d, .slice B' eb.length d'])),
      (5, Fact.eq (.bool true)),
      (6, Fact.eq (.bool false)),
      (7, Fact.eq (.bool false))] [] [0, 1, 3, 7, 15, 31, 63, 127] [] ?_ (by kernel_rfl) (by kernel_rfl) (by kernel_rfl) [(0, some 14), (1, some 15), (2, some 16), (3, some 17), (4, some 18), (5, some 19), (6, some 20), (7, some 21)] (by kernel_rfl) ?hA19 ?hQ19 (fun _ _ => trivial) (by kernel_rfl) ?steps19 ?looses19 ?cont19
      case hQ19 => exact fun _ _ _ _ _ h => h
      case hA19 =>
        intro vs
        simp only [fillD, List.foldl_cons, List.foldl_nil, Act.put, List.setIfInBounds_toArray, List.set_cons_zero, List.set_cons_succ]
        exact rfl
      case steps19 =>
        refine ⟨?_, ?_, ?_, ?_, ?_, ?_, ?_, ?_, trivial⟩
        · rintro vs u ⟨hV0, hV1, hV2, hV3, hV4, hV5, hV6, hV7, -⟩ G
          have o0 := (xa.keep G).c0
          have o1 := (xa.keep G).c1
          exact stepAt.pure (v := .agg #[.slice A sha.length c, .slice A' ea.length c']) rfl rfl (by go_simp) rfl
        · rintro vs u ⟨hV0, hV1, hV2, hV3, hV4, hV5, hV6, hV7, -⟩ G
          refine stepAt.call (f := 11) (args := #[vs 0]) rfl rfl (by go_simp) ?_
          have eV0 : vs 0 = .agg #[.slice A sha.length c, .slice A' ea.length c'] := hV0 rfl
          rw [eV0]
          exact (few_u (HA.at G) HB1).mono fun _ _ ⟨v, h1, h2, h3⟩ => ⟨v, h1, h2, h3.now⟩
        · rintro vs u ⟨hV0, hV1, hV2, hV3, hV4, hV5, hV6, hV7, -⟩ G
          have eV1 : vs 1 = .bool true := hV1 rfl
          exact stepAt.pure (v := .bool false) rfl rfl (by simp only [eV1]; go_simp) rfl
        · rintro vs u ⟨hV0, hV1, hV2, hV3, hV4, hV5, hV6, hV7, -⟩ G
          have eV2 : vs 2 = .bool false := hV2 rfl
          exact stepAt.pure (v := .bool false) rfl rfl (by simp only [eV2]; go_simp) rfl
        · rintro vs u ⟨hV0, hV1, hV2, hV3, hV4, hV5, hV6, hV7, -⟩ G
          have o0 := (xb.keep G).c0
          have o1 := (xb.keep G).c1
          exact stepAt.pure (v := .agg #[.slice B shb.length d, .slice B' eb.length d']) rfl (wanted_by (g := 3) (b := false) (t := 17) rfl (by kernel_rfl) (congrArg some (show vs 3 = _ from hV3 rfl))) (by go_simp) rfl
        · rintro vs u ⟨hV0, hV1, hV2, hV3, hV4, hV5, hV6, hV7, -⟩ G
          refine stepAt.call (f := 11) (args := #[vs 4]) rfl (wanted_by (g := 3) (b := false) (t := 17) rfl (by kernel_rfl) (congrArg some (show vs 3 = _ from hV3 rfl))) (by go_simp) ?_
          have eV4 : vs 4 = .agg #[.slice B shb.length d, .slice B' eb.length d'] := hV4 rfl
          rw [eV4]
          exact (few_u (HB.at G) HB2).mono fun _ _ ⟨v, h1, h2, h3⟩ => ⟨v, h1, h2, h3.now⟩
        · rintro vs u ⟨hV0, hV1, hV2, hV3, hV4, hV5, hV6, hV7, -⟩ G
          have eV5 : vs 5 = .bool true := hV5 rfl
          exact stepAt.pure (v := .bool false) rfl (wanted_by (g := 3) (b := false) (t := 17) rfl (by kernel_rfl) (congrArg some (show vs 3 = _ from hV3 rfl))) (by simp only [eV5]; go_simp) rfl
        · rintro vs u ⟨hV0, hV1, hV2, hV3, hV4, hV5, hV6, hV7, -⟩ G
          have eV3 : vs 3 = .bool false := hV3 rfl
          have eV6 : vs 6 = .bool false := hV6 rfl
          exact stepAt.pure (v := .bool false) rfl rfl (by simp only [eV3, eV6]; go_simp) rfl
      case looses19 =>
        exact trivial
      rintro vs U1 ⟨hV0, hV1, hV2, hV3, hV4, hV5, hV6, hV7, -⟩ G
      have eV0 : vs 0 = .agg #[.slice A sha.length c, .slice A' ea.length c'] := hV0
      have eV1 : vs 1 = .bool true := hV1
      have eV2 : vs 2 = .bool false := hV2
      have eV3 : vs 3 = .bool false := hV3
      have eV4 : vs 4 = .agg #[.slice B shb.length d, .slice B' eb.length d'] := hV4
      have eV5 : vs 5 = .bool true := hV5
      have eV6 : vs 6 = .bool false := hV6
      have eV7 : vs 7 = .bool false := hV7
      simp only [eV0, eV1, eV2, eV3, eV4, eV5, eV6, eV7]
      clear eV0 eV1 eV2 eV3 eV4 eV5 eV6 eV7 hV0 hV1 hV2 hV3 hV4 hV5 hV6 hV7
      refine wpTill.done (by kernel_rfl) ?_
      replace xa := xa.keep G
      replace xb := xb.keep G
      replace HA := HA.keep G
      replace HB := HB.keep G
      replace F := fr_then F G
      clear G
      repeat' ((fail_if_success (with_reducible refine wpTill.row (fun _ => True) 0 ?_ ?_)); go_step)
      refine wpTill.row (fun _ => True) 7 (by kernel_rfl) ?_
      change wpTill _ _ _ _ _ _ 9 _ _ _
      refine wpTill.free (jj := 7) (m := 2) [(0, Fact.eq (.agg #[.slice A sha.length c, .slice A' ea.length c'])),
      (1, Fact.eq (.agg #[.slice B shb.length d, .slice B' eb.length d'])),
      (2, Fact.held (Tup (e1) (TC e1 sha ((List.range ea.length).map (zipG mulG ea eb))))),
      (3, Fact.same 2),
      (4, Fact.fst 3),
      (6, Fact.mem (New2 U1.heap.size 26 (.slice none 0 0) (.slice none 0 0)) New2.keep)] [(5, Fact.snd 3)] [0, 0, 3, 7, 15, 15, 0, 95, 255] [] ?_ (by kernel_rfl) (by kernel_rfl) (by kernel_rfl) [(0, some 24), (1, some 25), (2, some 26), (3, some 23), (4, some 27), (6, some 5), (5, some 28)] (by kernel_rfl) ?hA20 ?hQ20 (fun _ _ => trivial) (by kernel_rfl) ?steps20 ?looses20 ?cont20
      case hQ20 => exact fun _ _ _ _ _ h => h
      case hA20 =>
        intro vs
        simp only [fillD, List.foldl_cons, List.foldl_nil, Act.put, List.setIfInBounds_toArray, List.set_cons_zero, List.set_cons_succ]
        exact rfl
      case steps20 =>
        refine ⟨?_, ?_, ?_, ?_, ?_, ?_, trivial⟩
        · rintro vs u ⟨hV0, hV1, hV2, hV3, hV4, hV6, hV5, -⟩ G
          have o0 := (xa.keep G).c0
          have o1 := (xa.keep G).c1
          exact stepAt.pure (v := .agg #[.slice A sha.length c, .slice A' ea.length c']) rfl rfl (by go_simp) rfl
        · rintro vs u ⟨hV0, hV1, hV2, hV3, hV4, hV6, hV5, -⟩ G
          have o0 := (xb.keep G).c0
          have o1 := (xb.keep G).c1
          exact stepAt.pure (v := .agg #[.slice B shb.length d, .slice B' eb.length d']) rfl rfl (by go_simp) rfl
        · rintro vs u ⟨hV0, hV1, hV2, hV3, hV4, hV6, hV5, -⟩ G
          refine stepAt.call (f := 30) (args := #[vs 0, vs 1]) rfl rfl (by go_simp) ?_
          have eV0 : vs 0 = .agg #[.slice A sha.length c, .slice A' ea.length c'] := hV0 rfl
          have eV1 : vs 1 = .agg #[.slice B shb.length d, .slice B' eb.length d'] := hV1 rfl
          rw [eV0, eV1]
          exact mul_u (HA.at G) (HB.at G) FA FB HE1
        · rintro vs u ⟨hV0, hV1, hV2, hV3, hV4, hV6, hV5, -⟩ G
          exact stepAt.pure (v := vs 2) rfl rfl (by go_simp) rfl
        · rintro vs u ⟨hV0, hV1, hV2, hV3, hV4, hV6, hV5, -⟩ G
          have HV2 : Hold (fun u' => (Tup (e1) (TC e1 sha ((List.range ea.length).map (zipG mulG ea eb)))) u' (vs 2)) u := hV2 rfl
          obtain ⟨A2_2, n2_2, c2_2, B2_2, m2_2, k2_2, eV2, -⟩ := HV2.now
          rw [eV2] at HV2
          have eV3 : vs 3 = .tuple #[.agg #[.slice A2_2 n2_2 c2_2, .slice B2_2 m2_2 k2_2], .int .i64 e1] := (show vs 3 = vs 2 from hV3 rfl).trans eV2
          exact stepAt.pure (v := .agg #[.slice A2_2 n2_2 c2_2, .slice B2_2 m2_2 k2_2]) rfl rfl (by simp only [eV3]; go_simp) ⟨_, _, eV3, rfl⟩
        · rintro vs u ⟨hV0, hV1, hV2, hV3, hV4, hV6, hV5, -⟩ G
          exact stepAt.value (v := .pointer (some ⟨u.heap.size, 0, none⟩)) (u := u.alloc (.cells #[.slice none 0 0, .slice none 0 0] 26)) rfl rfl (by go_simp) ((Fr.refl _ _).alloc _) ⟨_, rfl, G.size, Box2.new _ _ _ _⟩
      case looses20 =>
        refine ⟨?_, trivial⟩
        · rintro vs u ⟨hV0, hV1, hV2, hV3, hV4, hV6, hV5, -⟩ G
          have HV2 : Hold (fun u' => (Tup (e1) (TC e1 sha ((List.range ea.length).map (zipG mulG ea eb)))) u' (vs 2)) u := hV2 rfl
          obtain ⟨A2_2, n2_2, c2_2, B2_2, m2_2, k2_2, eV2, -⟩ := HV2.now
          rw [eV2] at HV2
          have eV3 : vs 3 = .tuple #[.agg #[.slice A2_2 n2_2 c2_2, .slice B2_2 m2_2 k2_2], .int .i64 e1] := (show vs 3 = vs 2 from hV3 rfl).trans eV2
          exact pureAt.of (v := .int .i64 e1) rfl rfl (fun _ => by simp only [eV3]; go_simp) ⟨_, _, eV3, rfl⟩
      rintro vs u ⟨hV0, hV1, hV2, hV3, hV4, hV6, hV5, -⟩ G
      have eV0 : vs 0 = .agg #[.slice A sha.length c, .slice A' ea.length c'] := hV0
      have eV1 : vs 1 = .agg #[.slice B shb.length d, .slice B' eb.length d'] := hV1
      replace hV2 : Hold (fun u' => (Tup (e1) (TC e1 sha ((List.range ea.length).map (zipG mulG ea eb)))) u' (vs 2)) u := hV2
      obtain ⟨A2_2, n2_2, c2_2, B2_2, m2_2, k2_2, eV2, -⟩ := hV2.now
      rw [eV2] at hV2
      have eV3 : vs 3 = _ := (show vs 3 = vs 2 from hV3).trans eV2
      obtain ⟨x4, z4, a4, eV4⟩ := hV4
      have a4 := eV3.symm.trans a4
      cases a4
      replace eV4 : vs 4 = _ := eV4
      obtain ⟨b2_6, eV6, l2_6, y2_6⟩ := hV6
      replace eV6 : vs 6 = _ := eV6
      obtain ⟨x5, z5, a5, eV5⟩ := hV5
      have a5 := eV3.symm.trans a5
      cases a5
      replace eV5 : vs 5 = _ := eV5
      simp only [eV0, eV1, eV2, eV3, eV4, eV6, eV5]
      clear eV0 eV1 eV2 eV3 eV4 eV6 eV5 hV0 hV1 hV3
      have g0 := y2_6.free 0
      have g1 := y2_6.free 1
      have g2 := y2_6.c0
      have g3 := y2_6.c1
      refine wpTill.next 7 rfl (by kernel_rfl) (by rfl) (fun K hK => ?_)
      go_simp
      refine hK _ _ (no_wait (by kernel_rfl)) ?_
      clear hK K
      refine wpTill.next 8 rfl (by kernel_rfl) (by rfl) (fun K hK => ?_)
      go_simp
      refine hK _ _ (no_wait (by kernel_rfl)) ?_
      clear hK K
      refine wpTill.done (by kernel_rfl) ?_
      have F9 := fr_put2 u b2_6 (.slice A2_2 n2_2 c2_2) (.slice B2_2 m2_2 k2_2)
      have G9 := G.comp F9 (R := fun k => k < U1.heap.size) fun k _ hk => ⟨hk, by omega⟩
      have z2 := y2_6.set2 (.slice A2_2 n2_2 c2_2) (.slice B2_2 m2_2 k2_2)
      have T2 := (hV2.now.out.fill (.slice A2_2 n2_2 c2_2) (.slice B2_2 m2_2 k2_2) y2_6).hold
      replace xa := xa.keep G9
      replace xb := xb.keep G9
      replace HA := HA.keep G9
      replace HB := HB.keep G9
      replace F := fr_then F G9
      generalize (u.setCell ⟨b2_6, 0, none⟩ (.slice A2_2 n2_2 c2_2)).setCell ⟨b2_6, 1, none⟩ (.slice B2_2 m2_2 k2_2) = U2 at z2 T2 xa xb HA HB F ⊢
      clear g0 g1 g2 g3 F9 G9 G y2_6 l2_6 hV2
      repeat' ((fail_if_success (with_reducible refine wpTill.row (fun _ => True) 0 ?_ ?_)); go_step)
      refine wpTill.row (fun _ => True) 7 (by kernel_rfl) ?_
      change wpTill _ _ _ _ _ _ 9 _ _ _
      refine wpTill.free (jj := 7) (m := 2) [(0, Fact.eq (.agg #[.slice A sha.length c, .slice A' ea.length c'])),
      (1, Fact.eq (.agg #[.slice B shb.length d, .slice B' eb.length d'])),
      (2, Fact.held (Tup (e2) (TC e2 sha ((List.range ea.length).map (zipG divG ea eb))))),
      (3, Fact.same 2),
      (4, Fact.fst 3),
      (6, Fact.mem (New2 U2.heap.size 26 (.slice none 0 0) (.slice none 0 0)) New2.keep)] [(5, Fact.snd 3)] [0, 0, 3, 7, 15, 15, 0, 95, 255] [] ?_ (by kernel_rfl) (by kernel_rfl) (by kernel_rfl) [(0, some 30), (1, some 31), (2, some 32), (3, some 29), (4, some 33), (6, some 7), (5, some 34)] (by kernel_rfl) ?hA21 ?hQ21 (fun _ _ => trivial) (by kernel_rfl) ?steps21 ?looses21 ?cont21
      case hQ21 => exact fun _ _ _ _ _ h => h
      case hA21 =>
        intro vs
        simp only [fillD, List.foldl_cons, List.foldl_nil, Act.put, List.setIfInBounds_toArray, List.set_cons_zero, List.set_cons_succ]
        exact rfl
      case steps21 =>
        refine ⟨?_, ?_, ?_, ?_, ?_, ?_, trivial⟩
        · rintro vs u ⟨hV0, hV1, hV2, hV3, hV4, hV6, hV5, -⟩ G
          have o0 := (xa.keep G).c0
          have o1 := (xa.keep G).c1
          exact stepAt.pure (v := .agg #[.slice A sha.length c, .slice A' ea.length c']) rfl rfl (by go_simp) rfl
        · rintro vs u ⟨hV0, hV1, hV2, hV3, hV4, hV6, hV5, -⟩ G
          have o0 := (xb.keep G).c0
          have o1 := (xb.keep G).c1
          exact stepAt.pure (v := .agg #[.slice B shb.length d, .slice B' eb.length d']) rfl rfl (by go_simp) rfl
        · rintro vs u ⟨hV0, hV1, hV2, hV3, hV4, hV6, hV5, -⟩ G
          refine stepAt.call (f := 31) (args := #[vs 0, vs 1]) rfl rfl (by go_simp) ?_
          have eV0 : vs 0 = .agg #[.slice A sha.length c, .slice A' ea.length c'] := hV0 rfl
          have eV1 : vs 1 = .agg #[.slice B shb.length d, .slice B' eb.length d'] := hV1 rfl
          rw [eV0, eV1]
          exact div_u (HA.at G) (HB.at G) FA FB HE2
        · rintro vs u ⟨hV0, hV1, hV2, hV3, hV4, hV6, hV5, -⟩ G
          exact stepAt.pure (v := vs 2) rfl rfl (by go_simp) rfl
        · rintro vs u ⟨hV0, hV1, hV2, hV3, hV4, hV6, hV5, -⟩ G
          have HV2 : Hold (fun u' => (Tup (e2) (TC e2 sha ((List.range ea.length).map (zipG divG ea eb)))) u' (vs 2)) u := hV2 rfl
          obtain ⟨A3_2, n3_2, c3_2, B3_2, m3_2, k3_2, eV2, -⟩ := HV2.now
          rw [eV2] at HV2
          have eV3 : vs 3 = .tuple #[.agg #[.slice A3_2 n3_2 c3_2, .slice B3_2 m3_2 k3_2], .int .i64 e2] := (show vs 3 = vs 2 from hV3 rfl).trans eV2
          exact stepAt.pure (v := .agg #[.slice A3_2 n3_2 c3_2, .slice B3_2 m3_2 k3_2]) rfl rfl (by simp only [eV3]; go_simp) ⟨_, _, eV3, rfl⟩
        · rintro vs u ⟨hV0, hV1, hV2, hV3, hV4, hV6, hV5, -⟩ G
          exact stepAt.value (v := .pointer (some ⟨u.heap.size, 0, none⟩)) (u := u.alloc (.cells #[.slice none 0 0, .slice none 0 0] 26)) rfl rfl (by go_simp) ((Fr.refl _ _).alloc _) ⟨_, rfl, G.size, Box2.new _ _ _ _⟩
      case looses21 =>
        refine ⟨?_, trivial⟩
        · rintro vs u ⟨hV0, hV1, hV2, hV3, hV4, hV6, hV5, -⟩ G
          have HV2 : Hold (fun u' => (Tup (e2) (TC e2 sha ((List.range ea.length).map (zipG divG ea eb)))) u' (vs 2)) u := hV2 rfl
          obtain ⟨A3_2, n3_2, c3_2, B3_2, m3_2, k3_2, eV2, -⟩ := HV2.now
          rw [eV2] at HV2
          have eV3 : vs 3 = .tuple #[.agg #[.slice A3_2 n3_2 c3_2, .slice B3_2 m3_2 k3_2], .int .i64 e2] := (show vs 3 = vs 2 from hV3 rfl).trans eV2
          exact pureAt.of (v := .int .i64 e2) rfl rfl (fun _ => by simp only [eV3]; go_simp) ⟨_, _, eV3, rfl⟩
      rintro vs u ⟨hV0, hV1, hV2, hV3, hV4, hV6, hV5, -⟩ G
      have eV0 : vs 0 = .agg #[.slice A sha.length c, .slice A' ea.length c'] := hV0
      have eV1 : vs 1 = .agg #[.slice B shb.length d, .slice B' eb.length d'] := hV1
      replace hV2 : Hold (fun u' => (Tup (e2) (TC e2 sha ((List.range ea.length).map (zipG divG ea eb)))) u' (vs 2)) u := hV2
      obtain ⟨A3_2, n3_2, c3_2, B3_2, m3_2, k3_2, eV2, -⟩ := hV2.now
      rw [eV2] at hV2
      have eV3 : vs 3 = _ := (show vs 3 = vs 2 from hV3).trans eV2
      obtain ⟨x4, z4, a4, eV4⟩ := hV4
      have a4 := eV3.symm.trans a4
      cases a4
      replace eV4 : vs 4 = _ := eV4
      obtain ⟨b3_6, eV6, l3_6, y3_6⟩ := hV6
      replace eV6 : vs 6 = _ := eV6
      obtain ⟨x5, z5, a5, eV5⟩ := hV5
      have a5 := eV3.symm.trans a5
      cases a5
      replace eV5 : vs 5 = _ := eV5
      simp only [eV0, eV1, eV2, eV3, eV4, eV6, eV5]
      clear eV0 eV1 eV2 eV3 eV4 eV6 eV5 hV0 hV1 hV3
      have g0 := y3_6.free 0
      have g1 := y3_6.free 1
      have g2 := y3_6.c0
      have g3 := y3_6.c1
      refine wpTill.next 7 rfl (by kernel_rfl) (by rfl) (fun K hK => ?_)
      go_simp
      refine hK _ _ (no_wait (by kernel_rfl)) ?_
      clear hK K
      refine wpTill.next 8 rfl (by kernel_rfl) (by rfl) (fun K hK => ?_)
      go_simp
      refine hK _ _ (no_wait (by kernel_rfl)) ?_
      clear hK K
      refine wpTill.done (by kernel_rfl) ?_
      have F9 := fr_put2 u b3_6 (.slice A3_2 n3_2 c3_2) (.slice B3_2 m3_2 k3_2)
      have G9 := G.comp F9 (R := fun k => k < U2.heap.size) fun k _ hk => ⟨hk, by omega⟩
      have z3 := y3_6.set2 (.slice A3_2 n3_2 c3_2) (.slice B3_2 m3_2 k3_2)
      have T3 := (hV2.now.out.fill (.slice A3_2 n3_2 c3_2) (.slice B3_2 m3_2 k3_2) y3_6).hold
      replace xa := xa.keep G9
      replace xb := xb.keep G9
      replace z2 := z2.keep G9
      replace HA := HA.keep G9
      replace HB := HB.keep G9
      replace T2 := T2.keep G9
      replace F := fr_then F G9
      generalize (u.setCell ⟨b3_6, 0, none⟩ (.slice A3_2 n3_2 c3_2)).setCell ⟨b3_6, 1, none⟩ (.slice B3_2 m3_2 k3_2) = U3 at z3 T3 xa xb z2 HA HB T2 F ⊢
      clear g0 g1 g2 g3 F9 G9 G y3_6 l3_6 hV2
      repeat' ((fail_if_success (with_reducible refine wpTill.row (fun _ => True) 0 ?_ ?_)); go_step)
      refine wpTill.row (fun _ => True) 3 (by kernel_rfl) ?_
      change wpTill _ _ _ _ _ _ 4 _ _ _
      refine wpTill.free (jj := 3) (m := 1) [(0, Fact.eq (.agg #[.slice A sha.length c, .slice A' ea.length c'])),
      (1, Fact.eq (.agg #[.slice B shb.length d, .slice B' eb.length d'])),
      (2, Fact.eq (.int .i64 r0))] [] [0, 0, 3, 7] [] ?_ (by kernel_rfl) (by kernel_rfl) (by kernel_rfl) [(0, some 35), (1, some 36), (2, some 37)] (by kernel_rfl) ?hA22 ?hQ22 (fun _ _ => trivial) (by kernel_rfl) ?steps22 ?looses22 ?cont22
      case hQ22 => exact fun _ _ _ _ _ h => h
      case hA22 =>
        intro vs
        simp only [fillD, List.foldl_cons, List.foldl_nil, Act.put, List.setIfInBounds_toArray, List.set_cons_zero, List.set_cons_succ]
        exact rfl
      case steps22 =>
        refine ⟨?_, ?_, ?_, trivial⟩
        · rintro vs u ⟨hV0, hV1, hV2, -⟩ G
          have o0 := (xa.keep G).c0
          have o1 := (xa.keep G).c1
          exact stepAt.pure (v := .agg #[.slice A sha.length c, .slice A' ea.length c']) rfl rfl (by go_simp) rfl
        · rintro vs u ⟨hV0, hV1, hV2, -⟩ G
          have o0 := (xb.keep G).c0
          have o1 := (xb.keep G).c1
          exact stepAt.pure (v := .agg #[.slice B shb.length d, .slice B' eb.length d']) rfl rfl (by go_simp) rfl
        · rintro vs u ⟨hV0, hV1, hV2, -⟩ G
          refine stepAt.call (f := 27) (args := #[vs 0, vs 1]) rfl rfl (by go_simp) ?_
          have eV0 : vs 0 = .agg #[.slice A sha.length c, .slice A' ea.length c'] := hV0 rfl
          have eV1 : vs 1 = .agg #[.slice B shb.length d, .slice B' eb.length d'] := hV1 rfl
          rw [eV0, eV1]
          exact (first_u (HA.at G) (HB.at G) FA FB HR1 HR2 HR0).mono fun _ _ ⟨v, h1, h2, h3⟩ => ⟨v, h1, h2, h3.now⟩
      case looses22 =>
        exact trivial
      rintro vs U4 ⟨hV0, hV1, hV2, -⟩ G
      have eV0 : vs 0 = .agg #[.slice A sha.length c, .slice A' ea.length c'] := hV0
      have eV1 : vs 1 = .agg #[.slice B shb.length d, .slice B' eb.length d'] := hV1
      have eV2 : vs 2 = .int .i64 r0 := hV2
      simp only [eV0, eV1, eV2]
      clear eV0 eV1 eV2 hV0 hV1 hV2
      refine wpTill.next 3 rfl (by kernel_rfl) (by rfl) (fun K hK => ?_)
      go_simp
      refine hK _ _ (no_wait (by kernel_rfl)) ?_
      clear hK K
      refine wpTill.done (by kernel_rfl) ?_
      replace xa := xa.keep G
      replace xb := xb.keep G
      replace z2 := z2.keep G
      replace z3 := z3.keep G
      replace HA := HA.keep G
      replace HB := HB.keep G
      replace T2 := T2.keep G
      replace T3 := T3.keep G
      replace F := fr_then F G
      clear G
      repeat' ((fail_if_success (with_reducible refine wpTill.row (fun _ => True) 0 ?_ ?_)); go_step)
      by_cases h0 : r0 = 0
      case neg =>
        have hb0 : (r0 == 0) = false := beq_eq_false_iff_ne.2 h0
        have HX := Lib.hid (HER.out h0)
        obtain ⟨rfl, rfl⟩ := HX.out
        clear HX
        refine wpTill.row (fun _ => True) 1 (by kernel_rfl) ?_
        change wpTill _ _ _ _ _ _ 2 _ _ _
        refine wpTill.free (jj := 1) (m := 0) [(0, Fact.eq (.int .i64 r0)),
      (1, Fact.eq (.bool true))] [] [0, 1] [] ?_ (by kernel_rfl) (by kernel_rfl) (by kernel_rfl) [(0, some 38), (1, some 39)] (by kernel_rfl) ?hA23 ?hQ23 (fun _ _ => trivial) (by kernel_rfl) ?steps23 ?looses23 ?cont23
        case hQ23 => exact fun _ _ _ _ _ h => h
        case hA23 =>
          intro vs
          simp only [fillD, List.foldl_cons, List.foldl_nil, Act.put, List.setIfInBounds_toArray, List.set_cons_zero, List.set_cons_succ]
          exact rfl
        case steps23 =>
          refine ⟨?_, ?_, trivial⟩
          · rintro vs u ⟨hV0, hV1, -⟩ G
            exact stepAt.pure (v := .int .i64 r0) rfl rfl (by go_simp) rfl
          · rintro vs u ⟨hV0, hV1, -⟩ G
            have eV0 : vs 0 = .int .i64 r0 := hV0 rfl
            exact stepAt.pure (v := .bool true) rfl rfl (by simp only [eV0]; go_simp) rfl
        case looses23 =>
          exact trivial
        rintro vs U5 ⟨hV0, hV1, -⟩ G
        have eV0 : vs 0 = .int .i64 r0 := hV0
        have eV1 : vs 1 = .bool true := hV1
        simp only [eV0, eV1]
        clear eV0 eV1 hV0 hV1
        refine wpTill.done (by kernel_rfl) ?_
        replace xa := xa.keep G
        replace xb := xb.keep G
        replace z2 := z2.keep G
        replace z3 := z3.keep G
        replace HA := HA.keep G
        replace HB := HB.keep G
        replace T2 := T2.keep G
        replace T3 := T3.keep G
        replace F := fr_then F G
        clear G
        repeat' ((fail_if_success (with_reducible refine wpTill.row (fun _ => True) 0 ?_ ?_)); go_step)
        refine wpTill.row (fun _ => True) 15 (by kernel_rfl) ?_
        change wpTill _ _ _ _ _ _ 16 _ _ _
        refine wpTill.free (jj := 15) (m := 1) [(0, Fact.eq (.agg #[.slice A2_2 n2_2 c2_2, .slice B2_2 m2_2 k2_2])),
      (1, Fact.eq (.int .i64 r0)),
      (2, Fact.eq (.agg #[.slice none 0 0, .slice none 0 0])),
      (3, Fact.eq (.int .i64 r0)),
      (4, Fact.eq (.bool true)),
      (5, Fact.eq (.bool true)),
      (6, Fact.eq (.agg #[.slice A3_2 n3_2 c3_2, .slice B3_2 m3_2 k3_2])),
      (7, Fact.eq (.int .i64 r0)),
      (8, Fact.eq (.agg #[.slice none 0 0, .slice none 0 0])),
      (9, Fact.eq (.int .i64 r0)),
      (10, Fact.eq (.bool true)),
      (11, Fact.eq (.bool true)),
      (12, Fact.eq (.bool true)),
      (13, Fact.eq (.bool true)),
      (14, Fact.eq (.bool true))] [] [0, 0, 0, 0, 15, 31, 63, 63, 63, 63, 1023, 2047, 4095, 8191, 16383, 32767] [] ?_ (by kernel_rfl) (by kernel_rfl) (by kernel_rfl) [(0, some 40), (1, some 41), (2, some 42), (3, some 43), (4, some 44), (5, some 45), (6, some 46), (7, some 47), (8, some 48), (9, some 49), (10, some 50), (11, some 51), (12, some 52), (13, some 53), (14, some 54)] (by kernel_rfl) ?hA24 ?hQ24 (fun _ _ => trivial) (by kernel_rfl) ?steps24 ?looses24 ?cont24
        case hQ24 => exact fun _ _ _ _ _ h => h
        case hA24 =>
          intro vs
          simp only [fillD, List.foldl_cons, List.foldl_nil, Act.put, List.setIfInBounds_toArray, List.set_cons_zero, List.set_cons_succ]
          exact rfl
        case steps24 =>
          refine ⟨?_, ?_, ?_, ?_, ?_, ?_, ?_, ?_, ?_, ?_, ?_, ?_, ?_, ?_, ?_, trivial⟩
          · rintro vs u ⟨hV0, hV1, hV2, hV3, hV4, hV5, hV6, hV7, hV8, hV9, hV10, hV11, hV12, hV13, hV14, -⟩ G
            have o0 := (z2.keep G).c0
            have o1 := (z2.keep G).c1
            exact stepAt.pure (v := .agg #[.slice A2_2 n2_2 c2_2, .slice B2_2 m2_2 k2_2]) rfl rfl (by go_simp) rfl
          · rintro vs u ⟨hV0, hV1, hV2, hV3, hV4, hV5, hV6, hV7, hV8, hV9, hV10, hV11, hV12, hV13, hV14, -⟩ G
            exact stepAt.pure (v := .int .i64 r0) rfl rfl (by go_simp) rfl
          · rintro vs u ⟨hV0, hV1, hV2, hV3, hV4, hV5, hV6, hV7, hV8, hV9, hV10, hV11, hV12, hV13, hV14, -⟩ G
            exact stepAt.pure (v := .agg #[.slice none 0 0, .slice none 0 0]) rfl rfl (by go_simp) rfl
          · rintro vs u ⟨hV0, hV1, hV2, hV3, hV4, hV5, hV6, hV7, hV8, hV9, hV10, hV11, hV12, hV13, hV14, -⟩ G
            exact stepAt.pure (v := .int .i64 r0) rfl rfl (by go_simp) rfl
          · rintro vs u ⟨hV0, hV1, hV2, hV3, hV4, hV5, hV6, hV7, hV8, hV9, hV10, hV11, hV12, hV13, hV14, -⟩ G
            refine stepAt.call (f := 17) (args := #[vs 0, vs 1, vs 2, vs 3]) rfl rfl (by go_simp) ?_
            have eV0 : vs 0 = .agg #[.slice A2_2 n2_2 c2_2, .slice B2_2 m2_2 k2_2] := hV0 rfl
            have eV1 : vs 1 = .int .i64 r0 := hV1 rfl
            have eV2 : vs 2 = .agg #[.slice none 0 0, .slice none 0 0] := hV2 rfl
            have eV3 : vs 3 = .int .i64 r0 := hV3 rfl
            rw [eV0, eV1, eV2, eV3]
            exact (told_u (shb := sha) (qb := []) (K := 0) (T2.at G) (fun h => absurd h h0) ⟨⟨_, _, _, rfl⟩, ⟨_, _, _, rfl⟩⟩ (Lib.hid fun h => absurd h h0) (by decide)).mono fun _ _ ⟨v, h1, h2, h3⟩ => ⟨v, h1, h2, h3.now⟩
          · rintro vs u ⟨hV0, hV1, hV2, hV3, hV4, hV5, hV6, hV7, hV8, hV9, hV10, hV11, hV12, hV13, hV14, -⟩ G
            have eV4 : vs 4 = .bool true := hV4 rfl
            exact stepAt.pure (v := .bool true) rfl rfl (by simp only [eV4]; go_simp) rfl
          · rintro vs u ⟨hV0, hV1, hV2, hV3, hV4, hV5, hV6, hV7, hV8, hV9, hV10, hV11, hV12, hV13, hV14, -⟩ G
            have o0 := (z3.keep G).c0
            have o1 := (z3.keep G).c1
            exact stepAt.pure (v := .agg #[.slice A3_2 n3_2 c3_2, .slice B3_2 m3_2 k3_2]) rfl (wanted_by (g := 5) (b := true) (t := 45) rfl (by kernel_rfl) (congrArg some (show vs 5 = _ from hV5 rfl))) (by go_simp) rfl
          · rintro vs u ⟨hV0, hV1, hV2, hV3, hV4, hV5, hV6, hV7, hV8, hV9, hV10, hV11, hV12, hV13, hV14, -⟩ G
            exact stepAt.pure (v := .int .i64 r0) rfl (wanted_by (g := 5) (b := true) (t := 45) rfl (by kernel_rfl) (congrArg some (show vs 5 = _ from hV5 rfl))) (by go_simp) rfl
          · rintro vs u ⟨hV0, hV1, hV2, hV3, hV4, hV5, hV6, hV7, hV8, hV9, hV10, hV11, hV12, hV13, hV14, -⟩ G
            exact stepAt.pure (v := .agg #[.slice none 0 0, .slice none 0 0]) rfl (wanted_by (g := 5) (b := true) (t := 45) rfl (by kernel_rfl) (congrArg some (show vs 5 = _ from hV5 rfl))) (by go_simp) rfl
          · rintro vs u ⟨hV0, hV1, hV2, hV3, hV4, hV5, hV6, hV7, hV8, hV9, hV10, hV11, hV12, hV13, hV14, -⟩ G
            exact stepAt.pure (v := .int .i64 r0) rfl (wanted_by (g := 5) (b := true) (t := 45) rfl (by kernel_rfl) (congrArg some (show vs 5 = _ from hV5 rfl))) (by go_simp) rfl
          · rintro vs u ⟨hV0, hV1, hV2, hV3, hV4, hV5, hV6, hV7, hV8, hV9, hV10, hV11, hV12, hV13, hV14, -⟩ G
            refine stepAt.call (f := 17) (args := #[vs 6, vs 7, vs 8, vs 9]) rfl (wanted_by (g := 5) (b := true) (t := 45) rfl (by kernel_rfl) (congrArg some (show vs 5 = _ from hV5 rfl))) (by go_simp) ?_
            have eV6 : vs 6 = .agg #[.slice A3_2 n3_2 c3_2, .slice B3_2 m3_2 k3_2] := hV6 rfl
            have eV7 : vs 7 = .int .i64 r0 := hV7 rfl
            have eV8 : vs 8 = .agg #[.slice none 0 0, .slice none 0 0] := hV8 rfl
            have eV9 : vs 9 = .int .i64 r0 := hV9 rfl
            rw [eV6, eV7, eV8, eV9]
            exact (told_u (shb := sha) (qb := []) (K := 0) (T3.at G) (fun h => absurd h h0) ⟨⟨_, _, _, rfl⟩, ⟨_, _, _, rfl⟩⟩ (Lib.hid fun h => absurd h h0) (by decide)).mono fun _ _ ⟨v, h1, h2, h3⟩ => ⟨v, h1, h2, h3.now⟩
          · rintro vs u ⟨hV0, hV1, hV2, hV3, hV4, hV5, hV6, hV7, hV8, hV9, hV10, hV11, hV12, hV13, hV14, -⟩ G
            have eV5 : vs 5 = .bool true := hV5 rfl
            have eV10 : vs 10 = .bool true := hV10 rfl
            exact stepAt.pure (v := .bool true) rfl rfl (by simp only [eV5, eV10]; go_simp) rfl
          · rintro vs u ⟨hV0, hV1, hV2, hV3, hV4, hV5, hV6, hV7, hV8, hV9, hV10, hV11, hV12, hV13, hV14, -⟩ G
            have eV11 : vs 11 = .bool true := hV11 rfl
            exact stepAt.pure (v := .bool true) rfl rfl (by simp only [eV11]; go_simp) rfl
          · rintro vs u ⟨hV0, hV1, hV2, hV3, hV4, hV5, hV6, hV7, hV8, hV9, hV10, hV11, hV12, hV13, hV14, -⟩ G
            refine stepAt.call (f := 15) (args := #[]) rfl (wanted_by (g := 12) (b := true) (t := 52) rfl (by kernel_rfl) (congrArg some (show vs 12 = _ from hV12 rfl))) (by go_simp) ?_
            exact (known_u u).mono fun _ _ ⟨v, h1, h2, h3⟩ => ⟨v, h1, h2, h3.now⟩
          · rintro vs u ⟨hV0, hV1, hV2, hV3, hV4, hV5, hV6, hV7, hV8, hV9, hV10, hV11, hV12, hV13, hV14, -⟩ G
            have eV12 : vs 12 = .bool true := hV12 rfl
            have eV13 : vs 13 = .bool true := hV13 rfl
            exact stepAt.pure (v := .bool true) rfl rfl (by simp only [eV12, eV13]; go_simp) rfl
        case looses24 =>
          exact trivial
        rintro vs U6 ⟨hV0, hV1, hV2, hV3, hV4, hV5, hV6, hV7, hV8, hV9, hV10, hV11, hV12, hV13, hV14, -⟩ G
        have eV0 : vs 0 = .agg #[.slice A2_2 n2_2 c2_2, .slice B2_2 m2_2 k2_2] := hV0
        have eV1 : vs 1 = .int .i64 r0 := hV1
        have eV2 : vs 2 = .agg #[.slice none 0 0, .slice none 0 0] := hV2
        have eV3 : vs 3 = .int .i64 r0 := hV3
        have eV4 : vs 4 = .bool true := hV4
        have eV5 : vs 5 = .bool true := hV5
        have eV6 : vs 6 = .agg #[.slice A3_2 n3_2 c3_2, .slice B3_2 m3_2 k3_2] := hV6
        have eV7 : vs 7 = .int .i64 r0 := hV7
        have eV8 : vs 8 = .agg #[.slice none 0 0, .slice none 0 0] := hV8
        have eV9 : vs 9 = .int .i64 r0 := hV9
        have eV10 : vs 10 = .bool true := hV10
        have eV11 : vs 11 = .bool true := hV11
        have eV12 : vs 12 = .bool true := hV12
        have eV13 : vs 13 = .bool true := hV13
        have eV14 : vs 14 = .bool true := hV14
        simp only [eV0, eV1, eV2, eV3, eV4, eV5, eV6, eV7, eV8, eV9, eV10, eV11, eV12, eV13, eV14]
        clear eV0 eV1 eV2 eV3 eV4 eV5 eV6 eV7 eV8 eV9 eV10 eV11 eV12 eV13 eV14 hV0 hV1 hV2 hV3 hV4 hV5 hV6 hV7 hV8 hV9 hV10 hV11 hV12 hV13 hV14
        refine wpTill.next 15 rfl (by kernel_rfl) (by rfl) (fun K hK => ?_)
        go_simp
        refine hK _ _ (no_wait (by kernel_rfl)) ?_
        clear hK K
        refine wpTill.done (by kernel_rfl) ?_
        replace xa := xa.keep G
        replace xb := xb.keep G
        replace z2 := z2.keep G
        replace z3 := z3.keep G
        replace HA := HA.keep G
        replace HB := HB.keep G
        replace T2 := T2.keep G
        replace T3 := T3.keep G
        replace F := fr_then F G
        clear G
        repeat' ((fail_if_success (with_reducible refine wpTill.row (fun _ => True) 0 ?_ ?_)); go_step)
        go_ret
        exact ⟨rfl, F⟩
      subst h0
      have HX := HEY.out rfl
      have HE1' := Lib.hid ((bothE_no HX.1 HX.2).trans HE1.out)
      have HE2' := Lib.hid ((bothE_div HX.1 HX.2).trans HE2.out)
      have HLEN := Lib.hid (show sha = shb → (ea.map qOf).length = (eb.map qOf).length from fun h => by subst h; rw [List.length_map, List.length_map]; exact may_same HX.1 HX.2)
      clear HX
      refine wpTill.row (fun _ => True) 1 (by kernel_rfl) ?_
      change wpTill _ _ _ _ _ _ 2 _ _ _
      refine wpTill.free (jj := 1) (m := 0) [(0, Fact.eq (.int .i64 0)),
      (1, Fact.eq (.bool false))] [] [0, 1] [] ?_ (by kernel_rfl) (by kernel_rfl) (by kernel_rfl) [(0, some 38), (1, some 39)] (by kernel_rfl) ?hA25 ?hQ25 (fun _ _ => trivial) (by kernel_rfl) ?steps25 ?looses25 ?cont25
      case hQ25 => exact fun _ _ _ _ _ h => h
      case hA25 =>
        intro vs
        simp only [fillD, List.foldl_cons, List.foldl_nil, Act.put, List.setIfInBounds_toArray, List.set_cons_zero, List.set_cons_succ]
        exact rfl
      case steps25 =>
        refine ⟨?_, ?_, trivial⟩
        · rintro vs u ⟨hV0, hV1, -⟩ G
          exact stepAt.pure (v := .int .i64 0) rfl rfl (by go_simp) rfl
        · rintro vs u ⟨hV0, hV1, -⟩ G
          have eV0 : vs 0 = .int .i64 0 := hV0 rfl
          exact stepAt.pure (v := .bool false) rfl rfl (by simp only [eV0]; go_simp) rfl
      case looses25 =>
        exact trivial
      rintro vs U5 ⟨hV0, hV1, -⟩ G
      have eV0 : vs 0 = .int .i64 0 := hV0
      have eV1 : vs 1 = .bool false := hV1
      simp only [eV0, eV1]
      clear eV0 eV1 hV0 hV1
      refine wpTill.done (by kernel_rfl) ?_
      replace xa := xa.keep G
      replace xb := xb.keep G
      replace z2 := z2.keep G
      replace z3 := z3.keep G
      replace HA := HA.keep G
      replace HB := HB.keep G
      replace T2 := T2.keep G
      replace T3 := T3.keep G
      replace F := fr_then F G
      clear G
      repeat' ((fail_if_success (with_reducible refine wpTill.row (fun _ => True) 0 ?_ ?_)); go_step)
      have DR := fun R => (Fr.refl R U5).drew
      replace xa := xa.keep (DR _)
      replace xb := xb.keep (DR _)
      replace z2 := z2.keep (DR _)
      replace z3 := z3.keep (DR _)
      replace HA := HA.keep (DR _)
      replace HB := HB.keep (DR _)
      replace T2 := T2.keep (DR _)
      replace T3 := T3.keep (DR _)
      replace F := F.drew
      clear DR
      refine wpTill.begin (fun _ => True) 9 (by kernel_rfl) ?_
      change wpTill _ _ _ _ _ _ 11 _ _ _
      refine wpTill.free (jj := 9) (m := 2) [(0, Fact.eq (.agg #[.slice A sha.length c, .slice A' ea.length c'])),
      (1, Fact.held (Agg (QV sha (ea.map qOf) (3 * (L + 2))))),
      (2, Fact.eq (.agg #[.slice B shb.length d, .slice B' eb.length d'])),
      (3, Fact.held (Agg (QV shb (eb.map qOf) (3 * (L + 2))))),
      (4, Fact.held (Tup (e1) (QC e1 sha (List.zipWith (fun (x y : Rat) => x * y) (ea.map qOf) (eb.map qOf)) (2 * (3 * (L + 2)))))),
      (5, Fact.same 4),
      (6, Fact.fst 5),
      (8, Fact.mem (New2 U5.drew.heap.size 32 (.slice none 0 0) (.slice none 0 0)) New2.keep)] [(7, Fact.snd 5)] [0, 1, 0, 7, 15, 31, 63, 63, 0, 383, 1023] [] ?_ (by kernel_rfl) (by kernel_rfl) (by kernel_rfl) [(0, some 56), (1, some 57), (2, some 58), (3, some 59), (4, some 60), (5, some 55), (6, some 61), (8, some 10), (7, some 62)] (by kernel_rfl) ?hA26 ?hQ26 (fun _ _ => trivial) (by kernel_rfl) ?steps26 ?looses26 ?cont26
      case hQ26 => exact fun _ _ _ _ _ h => h
      case hA26 =>
        intro vs
        simp only [fillD, List.foldl_cons, List.foldl_nil, Act.put, List.setIfInBounds_toArray, List.set_cons_zero, List.set_cons_succ]
        exact rfl
      case steps26 =>
        refine ⟨?_, ?_, ?_, ?_, ?_, ?_, ?_, ?_, trivial⟩
        · rintro vs u ⟨hV0, hV1, hV2, hV3, hV4, hV5, hV6, hV8, hV7, -⟩ G
          have o0 := (xa.keep G).c0
          have o1 := (xa.keep G).c1
          exact stepAt.pure (v := .agg #[.slice A sha.length c, .slice A' ea.length c']) rfl rfl (by go_simp) rfl
        · rintro vs u ⟨hV0, hV1, hV2, hV3, hV4, hV5, hV6, hV8, hV7, -⟩ G
          refine stepAt.call (f := 14) (args := #[vs 0]) rfl rfl (by go_simp) ?_
          have eV0 : vs 0 = .agg #[.slice A sha.length c, .slice A' ea.length c'] := hV0 rfl
          rw [eV0]
          exact of_u (HA.at G) FA
        · rintro vs u ⟨hV0, hV1, hV2, hV3, hV4, hV5, hV6, hV8, hV7, -⟩ G
          have o0 := (xb.keep G).c0
          have o1 := (xb.keep G).c1
          exact stepAt.pure (v := .agg #[.slice B shb.length d, .slice B' eb.length d']) rfl rfl (by go_simp) rfl
        · rintro vs u ⟨hV0, hV1, hV2, hV3, hV4, hV5, hV6, hV8, hV7, -⟩ G
          refine stepAt.call (f := 14) (args := #[vs 2]) rfl rfl (by go_simp) ?_
          have eV2 : vs 2 = .agg #[.slice B shb.length d, .slice B' eb.length d'] := hV2 rfl
          rw [eV2]
          exact of_u (HB.at G) FB
        · rintro vs u ⟨hV0, hV1, hV2, hV3, hV4, hV5, hV6, hV8, hV7, -⟩ G
          refine stepAt.call (f := 32) (args := #[vs 1, vs 3]) rfl rfl (by go_simp) ?_
          have HV1 : Hold (fun u' => (Agg (QV sha (ea.map qOf) (3 * (L + 2)))) u' (vs 1)) u := hV1 rfl
          obtain ⟨A6_1, n6_1, c6_1, B6_1, m6_1, k6_1, eV1, -⟩ := HV1.now
          rw [eV1] at HV1
          have HV3 : Hold (fun u' => (Agg (QV shb (eb.map qOf) (3 * (L + 2)))) u' (vs 3)) u := hV3 rfl
          obtain ⟨A6_3, n6_3, c6_3, B6_3, m6_3, k6_3, eV3, -⟩ := HV3.now
          rw [eV3] at HV3
          rw [eV1, eV3]
          exact rmul_u HV1.now.out HV3.now.out FQA FQB HE1' HLEN
        · rintro vs u ⟨hV0, hV1, hV2, hV3, hV4, hV5, hV6, hV8, hV7, -⟩ G
          exact stepAt.pure (v := vs 4) rfl rfl (by go_simp) rfl
        · rintro vs u ⟨hV0, hV1, hV2, hV3, hV4, hV5, hV6, hV8, hV7, -⟩ G
          have HV4 : Hold (fun u' => (Tup (e1) (QC e1 sha (List.zipWith (fun (x y : Rat) => x * y) (ea.map qOf) (eb.map qOf)) (2 * (3 * (L + 2))))) u' (vs 4)) u := hV4 rfl
          obtain ⟨A6_4, n6_4, c6_4, B6_4, m6_4, k6_4, eV4, -⟩ := HV4.now
          rw [eV4] at HV4
          have eV5 : vs 5 = .tuple #[.agg #[.slice A6_4 n6_4 c6_4, .slice B6_4 m6_4 k6_4], .int .i64 e1] := (show vs 5 = vs 4 from hV5 rfl).trans eV4
          exact stepAt.pure (v := .agg #[.slice A6_4 n6_4 c6_4, .slice B6_4 m6_4 k6_4]) rfl rfl (by simp only [eV5]; go_simp) ⟨_, _, eV5, rfl⟩
        · rintro vs u ⟨hV0, hV1, hV2, hV3, hV4, hV5, hV6, hV8, hV7, -⟩ G
          exact stepAt.value (v := .pointer (some ⟨u.heap.size, 0, none⟩)) (u := u.alloc (.cells #[.slice none 0 0, .slice none 0 0] 32)) rfl rfl (by go_simp) ((Fr.refl _ _).alloc _) ⟨_, rfl, G.size, Box2.new _ _ _ _⟩
      case looses26 =>
        refine ⟨?_, trivial⟩
        · rintro vs u ⟨hV0, hV1, hV2, hV3, hV4, hV5, hV6, hV8, hV7, -⟩ G
          have HV4 : Hold (fun u' => (Tup (e1) (QC e1 sha (List.zipWith (fun (x y : Rat) => x * y) (ea.map qOf) (eb.map qOf)) (2 * (3 * (L + 2))))) u' (vs 4)) u := hV4 rfl
          obtain ⟨A6_4, n6_4, c6_4, B6_4, m6_4, k6_4, eV4, -⟩ := HV4.now
          rw [eV4] at HV4
          have eV5 : vs 5 = .tuple #[.agg #[.slice A6_4 n6_4 c6_4, .slice B6_4 m6_4 k6_4], .int .i64 e1] := (show vs 5 = vs 4 from hV5 rfl).trans eV4
          exact pureAt.of (v := .int .i64 e1) rfl rfl (fun _ => by simp only [eV5]; go_simp) ⟨_, _, eV5, rfl⟩
      rintro vs u ⟨hV0, hV1, hV2, hV3, hV4, hV5, hV6, hV8, hV7, -⟩ G
      have eV0 : vs 0 = .agg #[.slice A sha.length c, .slice A' ea.length c'] := hV0
      replace hV1 : Hold (fun u' => (Agg (QV sha (ea.map qOf) (3 * (L + 2)))) u' (vs 1)) u := hV1
      obtain ⟨A6_1, n6_1, c6_1, B6_1, m6_1, k6_1, eV1, -⟩ := hV1.now
      rw [eV1] at hV1
      have eV2 : vs 2 = .agg #[.slice B shb.length d, .slice B' eb.length d'] := hV2
      replace hV3 : Hold (fun u' => (Agg (QV shb (eb.map qOf) (3 * (L + 2)))) u' (vs 3)) u := hV3
      obtain ⟨A6_3, n6_3, c6_3, B6_3, m6_3, k6_3, eV3, -⟩ := hV3.now
      rw [eV3] at hV3
      replace hV4 : Hold (fun u' => (Tup (e1) (QC e1 sha (List.zipWith (fun (x y : Rat) => x * y) (ea.map qOf) (eb.map qOf)) (2 * (3 * (L + 2))))) u' (vs 4)) u := hV4
      obtain ⟨A6_4, n6_4, c6_4, B6_4, m6_4, k6_4, eV4, -⟩ := hV4.now
      rw [eV4] at hV4
      have eV5 : vs 5 = _ := (show vs 5 = vs 4 from hV5).trans eV4
      obtain ⟨x6, z6, a6, eV6⟩ := hV6
      have a6 := eV5.symm.trans a6
      cases a6
      replace eV6 : vs 6 = _ := eV6
      obtain ⟨b6_8, eV8, l6_8, y6_8⟩ := hV8
      replace eV8 : vs 8 = _ := eV8
      obtain ⟨x7, z7, a7, eV7⟩ := hV7
      have a7 := eV5.symm.trans a7
      cases a7
      replace eV7 : vs 7 = _ := eV7
      simp only [eV0, eV1, eV2, eV3, eV4, eV5, eV6, eV8, eV7]
      clear eV0 eV1 eV2 eV3 eV4 eV5 eV6 eV8 eV7 hV0 hV2 hV5
      have g0 := y6_8.free 0
      have g1 := y6_8.free 1
      have g2 := y6_8.c0
      have g3 := y6_8.c1
      refine wpTill.next 9 rfl (by kernel_rfl) (by rfl) (fun K hK => ?_)
      go_simp
      refine hK _ _ (no_wait (by kernel_rfl)) ?_
      clear hK K
      refine wpTill.next 10 rfl (by kernel_rfl) (by rfl) (fun K hK => ?_)
      go_simp
      refine hK _ _ (no_wait (by kernel_rfl)) ?_
      clear hK K
      refine wpTill.done (by kernel_rfl) ?_
      have F9 := fr_put2 u b6_8 (.slice A6_4 n6_4 c6_4) (.slice B6_4 m6_4 k6_4)
      have G9 := G.comp F9 (R := fun k => k < U5.drew.heap.size) fun k _ hk => ⟨hk, by omega⟩
      have z6 := y6_8.set2 (.slice A6_4 n6_4 c6_4) (.slice B6_4 m6_4 k6_4)
      have T6 := (hV4.now.out.fill (.slice A6_4 n6_4 c6_4) (.slice B6_4 m6_4 k6_4) y6_8).hold
      replace xa := xa.keep G9
      replace xb := xb.keep G9
      replace z2 := z2.keep G9
      replace z3 := z3.keep G9
      replace HA := HA.keep G9
      replace HB := HB.keep G9
      replace T2 := T2.keep G9
      replace T3 := T3.keep G9
      replace F := fr_then F G9
      generalize (u.setCell ⟨b6_8, 0, none⟩ (.slice A6_4 n6_4 c6_4)).setCell ⟨b6_8, 1, none⟩ (.slice B6_4 m6_4 k6_4) = U6 at z6 T6 xa xb z2 z3 HA HB T2 T3 F ⊢
      clear g0 g1 g2 g3 F9 G9 G y6_8 l6_8 hV4
      repeat' ((fail_if_success (with_reducible refine wpTill.row (fun _ => True) 0 ?_ ?_)); go_step)
      have DR := fun R => (Fr.refl R U6).drew
      replace xa := xa.keep (DR _)
      replace xb := xb.keep (DR _)
      replace z2 := z2.keep (DR _)
      replace z3 := z3.keep (DR _)
      replace z6 := z6.keep (DR _)
      replace HA := HA.keep (DR _)
      replace HB := HB.keep (DR _)
      replace T2 := T2.keep (DR _)
      replace T3 := T3.keep (DR _)
      replace T6 := T6.keep (DR _)
      replace F := F.drew
      clear DR
      refine wpTill.begin (fun _ => True) 9 (by kernel_rfl) ?_
      change wpTill _ _ _ _ _ _ 11 _ _ _
      refine wpTill.free (jj := 9) (m := 2) [(0, Fact.eq (.agg #[.slice A sha.length c, .slice A' ea.length c'])),
      (1, Fact.held (Agg (QV sha (ea.map qOf) (3 * (L + 2))))),
      (2, Fact.eq (.agg #[.slice B shb.length d, .slice B' eb.length d'])),
      (3, Fact.held (Agg (QV shb (eb.map qOf) (3 * (L + 2))))),
      (4, Fact.held (Tup (e2) (QC e2 sha (List.zipWith (fun (x y : Rat) => x / y) (ea.map qOf) (eb.map qOf)) (2 * (3 * (L + 2)))))),
      (5, Fact.same 4),
      (6, Fact.fst 5),
      (8, Fact.mem (New2 U6.drew.heap.size 32 (.slice none 0 0) (.slice none 0 0)) New2.keep)] [(7, Fact.snd 5)] [0, 1, 0, 7, 15, 31, 63, 63, 0, 383, 1023] [] ?_ (by kernel_rfl) (by kernel_rfl) (by kernel_rfl) [(0, some 64), (1, some 65), (2, some 66), (3, some 67), (4, some 68), (5, some 63), (6, some 69), (8, some 12), (7, some 70)] (by kernel_rfl) ?hA27 ?hQ27 (fun _ _ => trivial) (by kernel_rfl) ?steps27 ?looses27 ?cont27
      case hQ27 => exact fun _ _ _ _ _ h => h
      case hA27 =>
        intro vs
        simp only [fillD, List.foldl_cons, List.foldl_nil, Act.put, List.setIfInBounds_toArray, List.set_cons_zero, List.set_cons_succ]
        exact rfl
      case steps27 =>
        refine ⟨?_, ?_, ?_, ?_, ?_, ?_, ?_, ?_, trivial⟩
        · rintro vs u ⟨hV0, hV1, hV2, hV3, hV4, hV5, hV6, hV8, hV7, -⟩ G
          have o0 := (xa.keep G).c0
          have o1 := (xa.keep G).c1
          exact stepAt.pure (v := .agg #[.slice A sha.length c, .slice A' ea.length c']) rfl rfl (by go_simp) rfl
        · rintro vs u ⟨hV0, hV1, hV2, hV3, hV4, hV5, hV6, hV8, hV7, -⟩ G
          refine stepAt.call (f := 14) (args := #[vs 0]) rfl rfl (by go_simp) ?_
          have eV0 : vs 0 = .agg #[.slice A sha.length c, .slice A' ea.length c'] := hV0 rfl
          rw [eV0]
          exact of_u (HA.at G) FA
        · rintro vs u ⟨hV0, hV1, hV2, hV3, hV4, hV5, hV6, hV8, hV7, -⟩ G
          have o0 := (xb.keep G).c0
          have o1 := (xb.keep G).c1
          exact stepAt.pure (v := .agg #[.slice B shb.length d, .slice B' eb.length d']) rfl rfl (by go_simp) rfl
        · rintro vs u ⟨hV0, hV1, hV2, hV3, hV4, hV5, hV6, hV8, hV7, -⟩ G
          refine stepAt.call (f := 14) (args := #[vs 2]) rfl rfl (by go_simp) ?_
          have eV2 : vs 2 = .agg #[.slice B shb.length d, .slice B' eb.length d'] := hV2 rfl
          rw [eV2]
          exact of_u (HB.at G) FB
        · rintro vs u ⟨hV0, hV1, hV2, hV3, hV4, hV5, hV6, hV8, hV7, -⟩ G
          refine stepAt.call (f := 33) (args := #[vs 1, vs 3]) rfl rfl (by go_simp) ?_
          have HV1 : Hold (fun u' => (Agg (QV sha (ea.map qOf) (3 * (L + 2)))) u' (vs 1)) u := hV1 rfl
          obtain ⟨A7_1, n7_1, c7_1, B7_1, m7_1, k7_1, eV1, -⟩ := HV1.now
          rw [eV1] at HV1
          have HV3 : Hold (fun u' => (Agg (QV shb (eb.map qOf) (3 * (L + 2)))) u' (vs 3)) u := hV3 rfl
          obtain ⟨A7_3, n7_3, c7_3, B7_3, m7_3, k7_3, eV3, -⟩ := HV3.now
          rw [eV3] at HV3
          rw [eV1, eV3]
          exact rdiv_u HV1.now.out HV3.now.out FQA FQB HE2' HLEN
        · rintro vs u ⟨hV0, hV1, hV2, hV3, hV4, hV5, hV6, hV8, hV7, -⟩ G
          exact stepAt.pure (v := vs 4) rfl rfl (by go_simp) rfl
        · rintro vs u ⟨hV0, hV1, hV2, hV3, hV4, hV5, hV6, hV8, hV7, -⟩ G
          have HV4 : Hold (fun u' => (Tup (e2) (QC e2 sha (List.zipWith (fun (x y : Rat) => x / y) (ea.map qOf) (eb.map qOf)) (2 * (3 * (L + 2))))) u' (vs 4)) u := hV4 rfl
          obtain ⟨A7_4, n7_4, c7_4, B7_4, m7_4, k7_4, eV4, -⟩ := HV4.now
          rw [eV4] at HV4
          have eV5 : vs 5 = .tuple #[.agg #[.slice A7_4 n7_4 c7_4, .slice B7_4 m7_4 k7_4], .int .i64 e2] := (show vs 5 = vs 4 from hV5 rfl).trans eV4
          exact stepAt.pure (v := .agg #[.slice A7_4 n7_4 c7_4, .slice B7_4 m7_4 k7_4]) rfl rfl (by simp only [eV5]; go_simp) ⟨_, _, eV5, rfl⟩
        · rintro vs u ⟨hV0, hV1, hV2, hV3, hV4, hV5, hV6, hV8, hV7, -⟩ G
          exact stepAt.value (v := .pointer (some ⟨u.heap.size, 0, none⟩)) (u := u.alloc (.cells #[.slice none 0 0, .slice none 0 0] 32)) rfl rfl (by go_simp) ((Fr.refl _ _).alloc _) ⟨_, rfl, G.size, Box2.new _ _ _ _⟩
      case looses27 =>
        refine ⟨?_, trivial⟩
        · rintro vs u ⟨hV0, hV1, hV2, hV3, hV4, hV5, hV6, hV8, hV7, -⟩ G
          have HV4 : Hold (fun u' => (Tup (e2) (QC e2 sha (List.zipWith (fun (x y : Rat) => x / y) (ea.map qOf) (eb.map qOf)) (2 * (3 * (L + 2))))) u' (vs 4)) u := hV4 rfl
          obtain ⟨A7_4, n7_4, c7_4, B7_4, m7_4, k7_4, eV4, -⟩ := HV4.now
          rw [eV4] at HV4
          have eV5 : vs 5 = .tuple #[.agg #[.slice A7_4 n7_4 c7_4, .slice B7_4 m7_4 k7_4], .int .i64 e2] := (show vs 5 = vs 4 from hV5 rfl).trans eV4
          exact pureAt.of (v := .int .i64 e2) rfl rfl (fun _ => by simp only [eV5]; go_simp) ⟨_, _, eV5, rfl⟩
      rintro vs u ⟨hV0, hV1, hV2, hV3, hV4, hV5, hV6, hV8, hV7, -⟩ G
      have eV0 : vs 0 = .agg #[.slice A sha.length c, .slice A' ea.length c'] := hV0
      replace hV1 : Hold (fun u' => (Agg (QV sha (ea.map qOf) (3 * (L + 2)))) u' (vs 1)) u := hV1
      obtain ⟨A7_1, n7_1, c7_1, B7_1, m7_1, k7_1, eV1, -⟩ := hV1.now
      rw [eV1] at hV1
      have eV2 : vs 2 = .agg #[.slice B shb.length d, .slice B' eb.length d'] := hV2
      replace hV3 : Hold (fun u' => (Agg (QV shb (eb.map qOf) (3 * (L + 2)))) u' (vs 3)) u := hV3
      obtain ⟨A7_3, n7_3, c7_3, B7_3, m7_3, k7_3, eV3, -⟩ := hV3.now
      rw [eV3] at hV3
      replace hV4 : Hold (fun u' => (Tup (e2) (QC e2 sha (List.zipWith (fun (x y : Rat) => x / y) (ea.map qOf) (eb.map qOf)) (2 * (3 * (L + 2))))) u' (vs 4)) u := hV4
      obtain ⟨A7_4, n7_4, c7_4, B7_4, m7_4, k7_4, eV4, -⟩ := hV4.now
      rw [eV4] at hV4
      have eV5 : vs 5 = _ := (show vs 5 = vs 4 from hV5).trans eV4
      obtain ⟨x6, z6, a6, eV6⟩ := hV6
      have a6 := eV5.symm.trans a6
      cases a6
      replace eV6 : vs 6 = _ := eV6
      obtain ⟨b7_8, eV8, l7_8, y7_8⟩ := hV8
      replace eV8 : vs 8 = _ := eV8
      obtain ⟨x7, z7, a7, eV7⟩ := hV7
      have a7 := eV5.symm.trans a7
      cases a7
      replace eV7 : vs 7 = _ := eV7
      simp only [eV0, eV1, eV2, eV3, eV4, eV5, eV6, eV8, eV7]
      clear eV0 eV1 eV2 eV3 eV4 eV5 eV6 eV8 eV7 hV0 hV2 hV5
      have g0 := y7_8.free 0
      have g1 := y7_8.free 1
      have g2 := y7_8.c0
      have g3 := y7_8.c1
      refine wpTill.next 9 rfl (by kernel_rfl) (by rfl) (fun K hK => ?_)
      go_simp
      refine hK _ _ (no_wait (by kernel_rfl)) ?_
      clear hK K
      refine wpTill.next 10 rfl (by kernel_rfl) (by rfl) (fun K hK => ?_)
      go_simp
      refine hK _ _ (no_wait (by kernel_rfl)) ?_
      clear hK K
      refine wpTill.done (by kernel_rfl) ?_
      have F9 := fr_put2 u b7_8 (.slice A7_4 n7_4 c7_4) (.slice B7_4 m7_4 k7_4)
      have G9 := G.comp F9 (R := fun k => k < U6.drew.heap.size) fun k _ hk => ⟨hk, by omega⟩
      have z7 := y7_8.set2 (.slice A7_4 n7_4 c7_4) (.slice B7_4 m7_4 k7_4)
      have T7 := (hV4.now.out.fill (.slice A7_4 n7_4 c7_4) (.slice B7_4 m7_4 k7_4) y7_8).hold
      replace xa := xa.keep G9
      replace xb := xb.keep G9
      replace z2 := z2.keep G9
      replace z3 := z3.keep G9
      replace z6 := z6.keep G9
      replace HA := HA.keep G9
      replace HB := HB.keep G9
      replace T2 := T2.keep G9
      replace T3 := T3.keep G9
      replace T6 := T6.keep G9
      replace F := fr_then F G9
      generalize (u.setCell ⟨b7_8, 0, none⟩ (.slice A7_4 n7_4 c7_4)).setCell ⟨b7_8, 1, none⟩ (.slice B7_4 m7_4 k7_4) = U7 at z7 T7 xa xb z2 z3 z6 HA HB T2 T3 T6 F ⊢
      clear g0 g1 g2 g3 F9 G9 G y7_8 l7_8 hV4
      repeat' ((fail_if_success (with_reducible refine wpTill.row (fun _ => True) 0 ?_ ?_)); go_step)
      refine wpTill.row (fun _ => True) 15 (by kernel_rfl) ?_
      change wpTill _ _ _ _ _ _ 16 _ _ _
      refine wpTill.free (jj := 15) (m := 1) [(0, Fact.eq (.agg #[.slice A2_2 n2_2 c2_2, .slice B2_2 m2_2 k2_2])),
      (1, Fact.eq (.int .i64 e1)),
      (2, Fact.eq (.agg #[.slice A6_4 n6_4 c6_4, .slice B6_4 m6_4 k6_4])),
      (3, Fact.eq (.int .i64 e1)),
      (4, Fact.eq (.bool true)),
      (5, Fact.eq (.bool true)),
      (6, Fact.eq (.agg #[.slice A3_2 n3_2 c3_2, .slice B3_2 m3_2 k3_2])),
      (7, Fact.eq (.int .i64 e2)),
      (8, Fact.eq (.agg #[.slice A7_4 n7_4 c7_4, .slice B7_4 m7_4 k7_4])),
      (9, Fact.eq (.int .i64 e2)),
      (10, Fact.eq (.bool true)),
      (11, Fact.eq (.bool true)),
      (12, Fact.eq (.bool true)),
      (13, Fact.eq (.bool true)),
      (14, Fact.eq (.bool true))] [] [0, 0, 0, 0, 15, 31, 63, 63, 63, 63, 1023, 2047, 4095, 8191, 16383, 32767] [] ?_ (by kernel_rfl) (by kernel_rfl) (by kernel_rfl) [(0, some 71), (1, some 72), (2, some 73), (3, some 74), (4, some 75), (5, some 76), (6, some 77), (7, some 78), (8, some 79), (9, some 80), (10, some 81), (11, some 82), (12, some 83), (13, some 84), (14, some 85)] (by kernel_rfl) ?hA28 ?hQ28 (fun _ _ => trivial) (by kernel_rfl) ?steps28 ?looses28 ?cont28
      case hQ28 => exact fun _ _ _ _ _ h => h
      case hA28 =>
        intro vs
        simp only [fillD, List.foldl_cons, List.foldl_nil, Act.put, List.setIfInBounds_toArray, List.set_cons_zero, List.set_cons_succ]
        exact rfl
      case steps28 =>
        refine ⟨?_, ?_, ?_, ?_, ?_, ?_, ?_, ?_, ?_, ?_, ?_, ?_, ?_, ?_, ?_, trivial⟩
        · rintro vs u ⟨hV0, hV1, hV2, hV3, hV4, hV5, hV6, hV7, hV8, hV9, hV10, hV11, hV12, hV13, hV14, -⟩ G
          have o0 := (z2.keep G).c0
          have o1 := (z2.keep G).c1
          exact stepAt.pure (v := .agg #[.slice A2_2 n2_2 c2_2, .slice B2_2 m2_2 k2_2]) rfl rfl (by go_simp) rfl
        · rintro vs u ⟨hV0, hV1, hV2, hV3, hV4, hV5, hV6, hV7, hV8, hV9, hV10, hV11, hV12, hV13, hV14, -⟩ G
          exact stepAt.pure (v := .int .i64 e1) rfl rfl (by go_simp) rfl
        · rintro vs u ⟨hV0, hV1, hV2, hV3, hV4, hV5, hV6, hV7, hV8, hV9, hV10, hV11, hV12, hV13, hV14, -⟩ G
          have o0 := (z6.keep G).c0
          have o1 := (z6.keep G).c1
          exact stepAt.pure (v := .agg #[.slice A6_4 n6_4 c6_4, .slice B6_4 m6_4 k6_4]) rfl rfl (by go_simp) rfl
        · rintro vs u ⟨hV0, hV1, hV2, hV3, hV4, hV5, hV6, hV7, hV8, hV9, hV10, hV11, hV12, hV13, hV14, -⟩ G
          exact stepAt.pure (v := .int .i64 e1) rfl rfl (by go_simp) rfl
        · rintro vs u ⟨hV0, hV1, hV2, hV3, hV4, hV5, hV6, hV7, hV8, hV9, hV10, hV11, hV12, hV13, hV14, -⟩ G
          refine stepAt.call (f := 17) (args := #[vs 0, vs 1, vs 2, vs 3]) rfl rfl (by go_simp) ?_
          have eV0 : vs 0 = .agg #[.slice A2_2 n2_2 c2_2, .slice B2_2 m2_2 k2_2] := hV0 rfl
          have eV1 : vs 1 = .int .i64 e1 := hV1 rfl
          have eV2 : vs 2 = .agg #[.slice A6_4 n6_4 c6_4, .slice B6_4 m6_4 k6_4] := hV2 rfl
          have eV3 : vs 3 = .int .i64 e1 := hV3 rfl
          rw [eV0, eV1, eV2, eV3]
          exact (told_u (T2.at G) (T6.at G) ⟨⟨_, _, _, rfl⟩, ⟨_, _, _, rfl⟩⟩ HS1 (by omega)).mono fun _ _ ⟨v, h1, h2, h3⟩ => ⟨v, h1, h2, h3.now⟩
        · rintro vs u ⟨hV0, hV1, hV2, hV3, hV4, hV5, hV6, hV7, hV8, hV9, hV10, hV11, hV12, hV13, hV14, -⟩ G
          have eV4 : vs 4 = .bool true := hV4 rfl
          exact stepAt.pure (v := .bool true) rfl rfl (by simp only [eV4]; go_simp) rfl
        · rintro vs u ⟨hV0, hV1, hV2, hV3, hV4, hV5, hV6, hV7, hV8, hV9, hV10, hV11, hV12, hV13, hV14, -⟩ G
          have o0 := (z3.keep G).c0
          have o1 := (z3.keep G).c1
          exact stepAt.pure (v := .agg #[.slice A3_2 n3_2 c3_2, .slice B3_2 m3_2 k3_2]) rfl (wanted_by (g := 5) (b := true) (t := 76) rfl (by kernel_rfl) (congrArg some (show vs 5 = _ from hV5 rfl))) (by go_simp) rfl
        · rintro vs u ⟨hV0, hV1, hV2, hV3, hV4, hV5, hV6, hV7, hV8, hV9, hV10, hV11, hV12, hV13, hV14, -⟩ G
          exact stepAt.pure (v := .int .i64 e2) rfl (wanted_by (g := 5) (b := true) (t := 76) rfl (by kernel_rfl) (congrArg some (show vs 5 = _ from hV5 rfl))) (by go_simp) rfl
        · rintro vs u ⟨hV0, hV1, hV2, hV3, hV4, hV5, hV6, hV7, hV8, hV9, hV10, hV11, hV12, hV13, hV14, -⟩ G
          have o0 := (z7.keep G).c0
          have o1 := (z7.keep G).c1
          exact stepAt.pure (v := .agg #[.slice A7_4 n7_4 c7_4, .slice B7_4 m7_4 k7_4]) rfl (wanted_by (g := 5) (b := true) (t := 76) rfl (by kernel_rfl) (congrArg some (show vs 5 = _ from hV5 rfl))) (by go_simp) rfl
        · rintro vs u ⟨hV0, hV1, hV2, hV3, hV4, hV5, hV6, hV7, hV8, hV9, hV10, hV11, hV12, hV13, hV14, -⟩ G
          exact stepAt.pure (v := .int .i64 e2) rfl (wanted_by (g := 5) (b := true) (t := 76) rfl (by kernel_rfl) (congrArg some (show vs 5 = _ from hV5 rfl))) (by go_simp) rfl
        · rintro vs u ⟨hV0, hV1, hV2, hV3, hV4, hV5, hV6, hV7, hV8, hV9, hV10, hV11, hV12, hV13, hV14, -⟩ G
          refine stepAt.call (f := 17) (args := #[vs 6, vs 7, vs 8, vs 9]) rfl (wanted_by (g := 5) (b := true) (t := 76) rfl (by kernel_rfl) (congrArg some (show vs 5 = _ from hV5 rfl))) (by go_simp) ?_
          have eV6 : vs 6 = .agg #[.slice A3_2 n3_2 c3_2, .slice B3_2 m3_2 k3_2] := hV6 rfl
          have eV7 : vs 7 = .int .i64 e2 := hV7 rfl
          have eV8 : vs 8 = .agg #[.slice A7_4 n7_4 c7_4, .slice B7_4 m7_4 k7_4] := hV8 rfl
          have eV9 : vs 9 = .int .i64 e2 := hV9 rfl
          rw [eV6, eV7, eV8, eV9]
          exact (told_u (T3.at G) (T7.at G) ⟨⟨_, _, _, rfl⟩, ⟨_, _, _, rfl⟩⟩ HS2 (by omega)).mono fun _ _ ⟨v, h1, h2, h3⟩ => ⟨v, h1, h2, h3.now⟩
        · rintro vs u ⟨hV0, hV1, hV2, hV3, hV4, hV5, hV6, hV7, hV8, hV9, hV10, hV11, hV12, hV13, hV14, -⟩ G
          have eV5 : vs 5 = .bool true := hV5 rfl
          have eV10 : vs 10 = .bool true := hV10 rfl
          exact stepAt.pure (v := .bool true) rfl rfl (by simp only [eV5, eV10]; go_simp) rfl
        · rintro vs u ⟨hV0, hV1, hV2, hV3, hV4, hV5, hV6, hV7, hV8, hV9, hV10, hV11, hV12, hV13, hV14, -⟩ G
          have eV11 : vs 11 = .bool true := hV11 rfl
          exact stepAt.pure (v := .bool true) rfl rfl (by simp only [eV11]; go_simp) rfl
        · rintro vs u ⟨hV0, hV1, hV2, hV3, hV4, hV5, hV6, hV7, hV8, hV9, hV10, hV11, hV12, hV13, hV14, -⟩ G
          refine stepAt.call (f := 15) (args := #[]) rfl (wanted_by (g := 12) (b := true) (t := 83) rfl (by kernel_rfl) (congrArg some (show vs 12 = _ from hV12 rfl))) (by go_simp) ?_
          exact (known_u u).mono fun _ _ ⟨v, h1, h2, h3⟩ => ⟨v, h1, h2, h3.now⟩
        · rintro vs u ⟨hV0, hV1, hV2, hV3, hV4, hV5, hV6, hV7, hV8, hV9, hV10, hV11, hV12, hV13, hV14, -⟩ G
          have eV12 : vs 12 = .bool true := hV12 rfl
          have eV13 : vs 13 = .bool true := hV13 rfl
          exact stepAt.pure (v := .bool true) rfl rfl (by simp only [eV12, eV13]; go_simp) rfl
      case looses28 =>
        exact trivial
      rintro vs U8 ⟨hV0, hV1, hV2, hV3, hV4, hV5, hV6, hV7, hV8, hV9, hV10, hV11, hV12, hV13, hV14, -⟩ G
      have eV0 : vs 0 = .agg #[.slice A2_2 n2_2 c2_2, .slice B2_2 m2_2 k2_2] := hV0
      have eV1 : vs 1 = .int .i64 e1 := hV1
      have eV2 : vs 2 = .agg #[.slice A6_4 n6_4 c6_4, .slice B6_4 m6_4 k6_4] := hV2
      have eV3 : vs 3 = .int .i64 e1 := hV3
      have eV4 : vs 4 = .bool true := hV4
      have eV5 : vs 5 = .bool true := hV5
      have eV6 : vs 6 = .agg #[.slice A3_2 n3_2 c3_2, .slice B3_2 m3_2 k3_2] := hV6
      have eV7 : vs 7 = .int .i64 e2 := hV7
      have eV8 : vs 8 = .agg #[.slice A7_4 n7_4 c7_4, .slice B7_4 m7_4 k7_4] := hV8
      have eV9 : vs 9 = .int .i64 e2 := hV9
      have eV10 : vs 10 = .bool true := hV10
      have eV11 : vs 11 = .bool true := hV11
      have eV12 : vs 12 = .bool true := hV12
      have eV13 : vs 13 = .bool true := hV13
      have eV14 : vs 14 = .bool true := hV14
      simp only [eV0, eV1, eV2, eV3, eV4, eV5, eV6, eV7, eV8, eV9, eV10, eV11, eV12, eV13, eV14]
      clear eV0 eV1 eV2 eV3 eV4 eV5 eV6 eV7 eV8 eV9 eV10 eV11 eV12 eV13 eV14 hV0 hV1 hV2 hV3 hV4 hV5 hV6 hV7 hV8 hV9 hV10 hV11 hV12 hV13 hV14
      refine wpTill.next 15 rfl (by kernel_rfl) (by rfl) (fun K hK => ?_)
      go_simp
      refine hK _ _ (no_wait (by kernel_rfl)) ?_
      clear hK K
      refine wpTill.done (by kernel_rfl) ?_
      replace xa := xa.keep G
      replace xb := xb.keep G
      replace z2 := z2.keep G
      replace z3 := z3.keep G
      replace z6 := z6.keep G
      replace z7 := z7.keep G
      replace HA := HA.keep G
      replace HB := HB.keep G
      replace T2 := T2.keep G
      replace T3 := T3.keep G
      replace T6 := T6.keep G
      replace T7 := T7.keep G
      replace F := fr_then F G
      clear G
      repeat' ((fail_if_success (with_reducible refine wpTill.row (fun _ => True) 0 ?_ ?_)); go_step)
      go_ret
      exact ⟨rfl, F⟩
end Go.Proofs.YtlknmoegngjpcaaGreat

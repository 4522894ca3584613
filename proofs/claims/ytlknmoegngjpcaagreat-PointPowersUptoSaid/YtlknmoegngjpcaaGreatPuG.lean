import Derived.Test.YtlknmoegngjpcaaGreatPtZ
set_option linter.unusedSimpArgs false
set_option linter.unusedVariables false

/- PointPowers: printed by gen_pta.py. -/
namespace Go.Proofs.YtlknmoegngjpcaaGreat
open Go.RowKit

set_option maxRecDepth 20000 in
set_option maxHeartbeats 32000000 in
theorem ppowers_walk {S : Nat → Prop} {sha : List Int} {ea : List RatL} (w : World) (vx : Value) (n : Int) (L : Nat) (hx : TL S w vx sha ea L) (hn : (Lit.int .i64 n).wf = true) (hL : L ≤ 1048576) :
    Calls Tryz.prog 3 #[vx, .int .i64 n] w fun e w' => e = .returned (.bool true) ∧ Fr (fun k => k < w.heap.size) w w' := by
  have FA := Lib.hid (hx.fit hL)
  have FQA := Lib.hid (FA.out.fq)
  obtain ⟨va, ve, rfl, ha, he⟩ := hx.ex
  obtain ⟨A, c, rfl, _, _, _⟩ := ha.slice
  obtain ⟨A', c', rfl, _, _, _⟩ := he.slice
  have HA := TV.hold ⟨ha.any, he.any⟩
  clear hx ha he
  have F := (Fr.refl (fun k => k < w.heap.size) w).alloc (.cells #[.slice A sha.length c, .slice A' ea.length c'] 26)
  have xa := Box2.new w 26 (.slice A sha.length c) (.slice A' ea.length c')
  replace HA := HA.keep (F.mono fun k h _ => h)
  obtain ⟨b1, hb1⟩ : ∃ b, fewB ea = b := ⟨_, rfl⟩
  obtain ⟨r, hr⟩ : ∃ r, mayT sha ea = r := ⟨_, rfl⟩
  have HB1 := Lib.hid hb1
  have HR := Lib.hid hr
  obtain ⟨p, hp⟩ : ∃ p, powE sha ea n = p := ⟨_, rfl⟩
  obtain ⟨b2, hb2⟩ : ∃ b, smallB (ea.map qOf) = b := ⟨_, rfl⟩
  have HP := Lib.hid hp
  have HB2 := Lib.hid hb2
  have HN := Lib.hid (show -9223372036854775808 ≤ n ∧ n ≤ 9223372036854775807 by simpa [Lit.wf, IntKind.min, IntKind.max, IntKind.signed, IntKind.bits] using hn)
  have HER := Lib.hid (show r ≠ 0 → r = p from fun h => by rw [← hp, ← hr]; rw [← hr] at h; exact (if_pos h).symm)
  have HPR := Lib.hid (show r = 0 → (if n < 0 ∨ 16 < n then (11 : Int) else 0) = p from fun h => by rw [← hp]; unfold powE; rw [hr]; exact (if_neg (by simpa using h)).symm)
  have HS := Lib.hid (show p = 0 → sha = sha ∧ (ea.map fun x => canR (qOf x ^ n.toNat)) = ((ea.map qOf).map (fun q => q ^ n.toNat)).map canR from fun _ => ⟨rfl, by rw [List.map_map, List.map_map]; rfl⟩)
  clear hp hb2
  clear hb1 hr
  go_enter Tryz.func3, Tryz.ntmps3
  repeat' ((fail_if_success (with_reducible refine wpTill.row (fun _ => True) 0 ?_ ?_)); go_step)
  apply wp_region_lit
  repeat' ((fail_if_success (with_reducible refine wpTill.row (fun _ => True) 0 ?_ ?_)); go_step)
  generalize w.alloc (.cells #[.slice A sha.length c, .slice A' ea.length c'] 26) = W0 at F xa HA  ⊢
  cases b1
  · refine wpTill.row (fun _ => True) 13 (by kernel_rfl) ?_
    change wpTill _ _ _ _ _ _ 14 _ _ _
    refine wpTill.free (jj := 13) (m := 0) [(0, Fact.eq (.agg #[.slice A sha.length c, .slice A' ea.length c'])),
      (1, Fact.eq (.bool false)),
      (2, Fact.eq (.bool true)),
      (3, Fact.eq (.bool true)),
      (4, Fact.eq undef),
      (5, Fact.eq undef),
      (6, Fact.eq undef),
      (7, Fact.eq undef),
      (8, Fact.eq undef),
      (9, Fact.eq undef),
      (10, Fact.eq undef),
      (11, Fact.eq undef),
      (12, Fact.eq undef),
      (13, Fact.eq (.bool true))] [] [0, 1, 3, 7, 15, 31, 63, 127, 255, 511, 1023, 2047, 4095, 8191] [] ?_ (by kernel_rfl) (by kernel_rfl) (by kernel_rfl) [(0, some 10), (1, some 11), (2, some 12), (3, some 13), (4, some 14), (5, some 15), (6, some 16), (7, some 17), (8, some 18), (9, some 19), (10, some 20), (11, some 21), (12, some 22), (13, some 23)] (by kernel_rfl) ?hA10 ?hQ10 (fun _ _ => trivial) (by kernel_rfl) ?steps10 ?looses10 ?cont10
    case hQ10 => exact fun _ _ _ _ _ h => h
    case hA10 =>
      intro vs
      simp only [fillD, List.foldl_cons, List.foldl_nil, Act.put, List.setIfInBounds_toArray, List.set_cons_zero, List.set_cons_succ]
      exact rfl
    case steps10 =>
      refine ⟨?_, ?_, ?_, ?_, ?_, ?_, ?_, ?_, ?_, ?_, ?_, ?_, ?_, ?_, trivial⟩
      · rintro vs u ⟨hV0, hV1, hV2, hV3, hV4, hV5, hV6, hV7, hV8, hV9, hV10, hV11, hV12, hV13, -⟩ G
        have o0 := (xa.keep G).c0
        have o1 := (xa.keep G).c1
        exact stepAt.pure (v := .agg #[.slice A sha.length c, .slice A' ea.length c']) rfl rfl (by go_simp) rfl
      · rintro vs u ⟨hV0, hV1, hV2, hV3, hV4, hV5, hV6, hV7, hV8, hV9, hV10, hV11, hV12, hV13, -⟩ G
        refine stepAt.call (f := 11) (args := #[vs 0]) rfl rfl (by go_simp) ?_
        have eV0 : vs 0 = .agg #[.slice A sha.length c, .slice A' ea.length c'] := hV0 rfl
        rw [eV0]
        exact (few_u (HA.at G) HB1).mono fun _ _ ⟨v, h1, h2, h3⟩ => ⟨v, h1, h2, h3.now⟩
      · rintro vs u ⟨hV0, hV1, hV2, hV3, hV4, hV5, hV6, hV7, hV8, hV9, hV10, hV11, hV12, hV13, -⟩ G
        have eV1 : vs 1 = .bool false := hV1 rfl
        exact stepAt.pure (v := .bool true) rfl rfl (by simp only [eV1]; go_simp) rfl
      · rintro vs u ⟨hV0, hV1, hV2, hV3, hV4, hV5, hV6, hV7, hV8, hV9, hV10, hV11, hV12, hV13, -⟩ G
        have eV2 : vs 2 = .bool true := hV2 rfl
        exact stepAt.pure (v := .bool true) rfl rfl (by simp only [eV2]; go_simp) rfl
      · rintro vs u ⟨hV0, hV1, hV2, hV3, hV4, hV5, hV6, hV7, hV8, hV9, hV10, hV11, hV12, hV13, -⟩ G
        exact stepAt.unwanted rfl (wanted_not (g := 3) (b := false) (t := 13) rfl (by kernel_rfl) (congrArg some (show vs 3 = _ from hV3 rfl))) rfl
      · rintro vs u ⟨hV0, hV1, hV2, hV3, hV4, hV5, hV6, hV7, hV8, hV9, hV10, hV11, hV12, hV13, -⟩ G
        exact stepAt.unwanted rfl (wanted_not (g := 3) (b := false) (t := 13) rfl (by kernel_rfl) (congrArg some (show vs 3 = _ from hV3 rfl))) rfl
      · rintro vs u ⟨hV0, hV1, hV2, hV3, hV4, hV5, hV6, hV7, hV8, hV9, hV10, hV11, hV12, hV13, -⟩ G
        exact stepAt.unwanted rfl (wanted_not (g := 3) (b := false) (t := 13) rfl (by kernel_rfl) (congrArg some (show vs 3 = _ from hV3 rfl))) rfl
      · rintro vs u ⟨hV0, hV1, hV2, hV3, hV4, hV5, hV6, hV7, hV8, hV9, hV10, hV11, hV12, hV13, -⟩ G
        exact stepAt.unwanted rfl (wanted_not (g := 3) (b := false) (t := 13) rfl (by kernel_rfl) (congrArg some (show vs 3 = _ from hV3 rfl))) rfl
      · rintro vs u ⟨hV0, hV1, hV2, hV3, hV4, hV5, hV6, hV7, hV8, hV9, hV10, hV11, hV12, hV13, -⟩ G
        exact stepAt.unwanted rfl (wanted_undef (g := 7) (b := true) (t := 17) rfl (by kernel_rfl) (congrArg some (show vs 7 = _ from hV7 rfl))) rfl
      · rintro vs u ⟨hV0, hV1, hV2, hV3, hV4, hV5, hV6, hV7, hV8, hV9, hV10, hV11, hV12, hV13, -⟩ G
        exact stepAt.unwanted rfl (wanted_undef (g := 7) (b := true) (t := 17) rfl (by kernel_rfl) (congrArg some (show vs 7 = _ from hV7 rfl))) rfl
      · rintro vs u ⟨hV0, hV1, hV2, hV3, hV4, hV5, hV6, hV7, hV8, hV9, hV10, hV11, hV12, hV13, -⟩ G
        exact stepAt.unwanted rfl (wanted_undef (g := 7) (b := true) (t := 17) rfl (by kernel_rfl) (congrArg some (show vs 7 = _ from hV7 rfl))) rfl
      · rintro vs u ⟨hV0, hV1, hV2, hV3, hV4, hV5, hV6, hV7, hV8, hV9, hV10, hV11, hV12, hV13, -⟩ G
        exact stepAt.unwanted rfl (wanted_undef (g := 7) (b := true) (t := 17) rfl (by kernel_rfl) (congrArg some (show vs 7 = _ from hV7 rfl))) rfl
      · rintro vs u ⟨hV0, hV1, hV2, hV3, hV4, hV5, hV6, hV7, hV8, hV9, hV10, hV11, hV12, hV13, -⟩ G
        exact stepAt.unwanted rfl (wanted_not (g := 3) (b := false) (t := 13) rfl (by kernel_rfl) (congrArg some (show vs 3 = _ from hV3 rfl))) rfl
      · rintro vs u ⟨hV0, hV1, hV2, hV3, hV4, hV5, hV6, hV7, hV8, hV9, hV10, hV11, hV12, hV13, -⟩ G
        have eV3 : vs 3 = .bool true := hV3 rfl
        have eV12 : vs 12 = undef := hV12 rfl
        exact stepAt.pure (v := .bool true) rfl rfl (by simp only [eV3, eV12]; go_simp) rfl
    case looses10 =>
      exact trivial
    rintro vs U1 ⟨hV0, hV1, hV2, hV3, hV4, hV5, hV6, hV7, hV8, hV9, hV10, hV11, hV12, hV13, -⟩ G
    have eV0 : vs 0 = .agg #[.slice A sha.length c, .slice A' ea.length c'] := hV0
    have eV1 : vs 1 = .bool false := hV1
    have eV2 : vs 2 = .bool true := hV2
    have eV3 : vs 3 = .bool true := hV3
    have eV4 : vs 4 = undef := hV4
    have eV5 : vs 5 = undef := hV5
    have eV6 : vs 6 = undef := hV6
    have eV7 : vs 7 = undef := hV7
    have eV8 : vs 8 = undef := hV8
    have eV9 : vs 9 = undef := hV9
    have eV10 : vs 10 = undef := hV10
    have eV11 : vs 11 = undef := hV11
    have eV12 : vs 12 = undef := hV12
    have eV13 : vs 13 = .bool true := hV13
    simp only [eV0, eV1, eV2, eV3, eV4, eV5, eV6, eV7, eV8, eV9, eV10, eV11, eV12, eV13]
    clear eV0 eV1 eV2 eV3 eV4 eV5 eV6 eV7 eV8 eV9 eV10 eV11 eV12 eV13 hV0 hV1 hV2 hV3 hV4 hV5 hV6 hV7 hV8 hV9 hV10 hV11 hV12 hV13
    refine wpTill.done (by kernel_rfl) ?_
    replace xa := xa.keep G
    replace HA := HA.keep G
    replace F := fr_then F G
    clear G
    repeat' ((fail_if_success (with_reducible refine wpTill.row (fun _ => True) 0 ?_ ?_)); go_step)
    refine wpTill.row (fun _ => True) 1 (by kernel_rfl) ?_
    change wpTill _ _ _ _ _ _ 2 _ _ _
    refine wpTill.free (jj := 1) (m := 1) [(0, Fact.eq (.bool true))] [] [0, 1] [] ?_ (by kernel_rfl) (by kernel_rfl) (by kernel_rfl) [(0, some 24)] (by kernel_rfl) ?hA11 ?hQ11 (fun _ _ => trivial) (by kernel_rfl) ?steps11 ?looses11 ?cont11
    case hQ11 => exact fun _ _ _ _ _ h => h
    case hA11 =>
      intro vs
      simp only [fillD, List.foldl_cons, List.foldl_nil, Act.put, List.setIfInBounds_toArray, List.set_cons_zero, List.set_cons_succ]
      exact rfl
    case steps11 =>
      refine ⟨?_, trivial⟩
      · rintro vs u ⟨hV0, -⟩ G
        refine stepAt.call (f := 15) (args := #[]) rfl rfl (by go_simp) ?_
        exact (known_u u).mono fun _ _ ⟨v, h1, h2, h3⟩ => ⟨v, h1, h2, h3.now⟩
    case looses11 =>
      exact trivial
    rintro vs U2 ⟨hV0, -⟩ G
    have eV0 : vs 0 = .bool true := hV0
    simp only [eV0]
    clear eV0 hV0
    refine wpTill.next 1 rfl (by kernel_rfl) (by rfl) (fun K hK => ?_)
    go_simp
    refine hK _ _ (no_wait (by kernel_rfl)) ?_
    clear hK K
    refine wpTill.done (by kernel_rfl) ?_
    replace xa := xa.keep G
    replace HA := HA.keep G
    replace F := fr_then F G
    clear G
    repeat' ((fail_if_success (with_reducible refine wpTill.row (fun _ => True) 0 ?_ ?_)); go_step)
    go_ret
    exact ⟨rfl, F⟩
  · by_cases h0 : r = 0
    · subst h0
      have HPR0 := HPR.out rfl
      clear HER HPR
      cases b2
      · refine wpTill.row (fun _ => True) 13 (by kernel_rfl) ?_
        change wpTill _ _ _ _ _ _ 14 _ _ _
        refine wpTill.free (jj := 13) (m := 0) [(0, Fact.eq (.agg #[.slice A sha.length c, .slice A' ea.length c'])),
      (1, Fact.eq (.bool true)),
      (2, Fact.eq (.bool false)),
      (3, Fact.eq (.bool false)),
      (4, Fact.eq (.agg #[.slice A sha.length c, .slice A' ea.length c'])),
      (5, Fact.eq (.int .i64 0)),
      (6, Fact.eq (.bool true)),
      (7, Fact.eq (.bool true)),
      (8, Fact.eq (.agg #[.slice A sha.length c, .slice A' ea.length c'])),
      (9, Fact.held (Agg (QV sha (ea.map qOf) (3 * (L + 2))))),
      (10, Fact.eq (.bool false)),
      (11, Fact.eq (.bool true)),
      (12, Fact.eq (.bool true)),
      (13, Fact.eq (.bool true))] [] [0, 1, 3, 7, 15, 31, 63, 127, 255, 511, 1023, 2047, 4095, 8191] [] ?_ (by kernel_rfl) (by kernel_rfl) (by kernel_rfl) [(0, some 10), (1, some 11), (2, some 12), (3, some 13), (4, some 14), (5, some 15), (6, some 16), (7, some 17), (8, some 18), (9, some 19), (10, some 20), (11, some 21), (12, some 22), (13, some 23)] (by kernel_rfl) ?hA17 ?hQ17 (fun _ _ => trivial) (by kernel_rfl) ?steps17 ?looses17 ?cont17
        case hQ17 => exact fun _ _ _ _ _ h => h
        case hA17 =>
          intro vs
          simp only [fillD, List.foldl_cons, List.foldl_nil, Act.put, List.setIfInBounds_toArray, List.set_cons_zero, List.set_cons_succ]
          exact rfl
        case steps17 =>
          refine ⟨?_, ?_, ?_, ?_, ?_, ?_, ?_, ?_, ?_, ?_, ?_, ?_, ?_, ?_, trivial⟩
          · rintro vs u ⟨hV0, hV1, hV2, hV3, hV4, hV5, hV6, hV7, hV8, hV9, hV10, hV11, hV12, hV13, -⟩ G
            have o0 := (xa.keep G).c0
            have o1 := (xa.keep G).c1
            exact stepAt.pure (v := .agg #[.slice A sha.length c, .slice A' ea.length c']) rfl rfl (by go_simp) rfl
          · rintro vs u ⟨hV0, hV1, hV2, hV3, hV4, hV5, hV6, hV7, hV8, hV9, hV10, hV11, hV12, hV13, -⟩ G
            refine stepAt.call (f := 11) (args := #[vs 0]) rfl rfl (by go_simp) ?_
            have eV0 : vs 0 = .agg #[.slice A sha.length c, .slice A' ea.length c'] := hV0 rfl
            rw [eV0]
            exact (few_u (HA.at G) HB1).mono fun _ _ ⟨v, h1, h2, h3⟩ => ⟨v, h1, h2, h3.now⟩
          · rintro vs u ⟨hV0, hV1, hV2, hV3, hV4, hV5, hV6, hV7, hV8, hV9, hV10, hV11, hV12, hV13, -⟩ G
            have eV1 : vs 1 = .bool true := hV1 rfl
            exact stepAt.pure (v := .bool false) rfl rfl (by simp only [eV1]; go_simp) rfl
          · rintro vs u ⟨hV0, hV1, hV2, hV3, hV4, hV5, hV6, hV7, hV8, hV9, hV10, hV11, hV12, hV13, -⟩ G
            have eV2 : vs 2 = .bool false := hV2 rfl
            exact stepAt.pure (v := .bool false) rfl rfl (by simp only [eV2]; go_simp) rfl
          · rintro vs u ⟨hV0, hV1, hV2, hV3, hV4, hV5, hV6, hV7, hV8, hV9, hV10, hV11, hV12, hV13, -⟩ G
            have o0 := (xa.keep G).c0
            have o1 := (xa.keep G).c1
            exact stepAt.pure (v := .agg #[.slice A sha.length c, .slice A' ea.length c']) rfl (wanted_by (g := 3) (b := false) (t := 13) rfl (by kernel_rfl) (congrArg some (show vs 3 = _ from hV3 rfl))) (by go_simp) rfl
          · rintro vs u ⟨hV0, hV1, hV2, hV3, hV4, hV5, hV6, hV7, hV8, hV9, hV10, hV11, hV12, hV13, -⟩ G
            refine stepAt.call (f := 12) (args := #[vs 4]) rfl (wanted_by (g := 3) (b := false) (t := 13) rfl (by kernel_rfl) (congrArg some (show vs 3 = _ from hV3 rfl))) (by go_simp) ?_
            have eV4 : vs 4 = .agg #[.slice A sha.length c, .slice A' ea.length c'] := hV4 rfl
            rw [eV4]
            exact (may_u (HA.at G) FA HR).mono fun _ _ ⟨v, h1, h2, h3⟩ => ⟨v, h1, h2, h3.now⟩
          · rintro vs u ⟨hV0, hV1, hV2, hV3, hV4, hV5, hV6, hV7, hV8, hV9, hV10, hV11, hV12, hV13, -⟩ G
            have eV5 : vs 5 = .int .i64 0 := hV5 rfl
            exact stepAt.pure (v := .bool true) rfl (wanted_by (g := 3) (b := false) (t := 13) rfl (by kernel_rfl) (congrArg some (show vs 3 = _ from hV3 rfl))) (by simp only [eV5]; go_simp <;> omega) rfl
          · rintro vs u ⟨hV0, hV1, hV2, hV3, hV4, hV5, hV6, hV7, hV8, hV9, hV10, hV11, hV12, hV13, -⟩ G
            have eV6 : vs 6 = .bool true := hV6 rfl
            exact stepAt.pure (v := .bool true) rfl (wanted_by (g := 3) (b := false) (t := 13) rfl (by kernel_rfl) (congrArg some (show vs 3 = _ from hV3 rfl))) (by simp only [eV6]; go_simp) rfl
          · rintro vs u ⟨hV0, hV1, hV2, hV3, hV4, hV5, hV6, hV7, hV8, hV9, hV10, hV11, hV12, hV13, -⟩ G
            have o0 := (xa.keep G).c0
            have o1 := (xa.keep G).c1
            exact stepAt.pure (v := .agg #[.slice A sha.length c, .slice A' ea.length c']) rfl (wanted_by (g := 7) (b := true) (t := 17) rfl (by kernel_rfl) (congrArg some (show vs 7 = _ from hV7 rfl))) (by go_simp) rfl
          · rintro vs u ⟨hV0, hV1, hV2, hV3, hV4, hV5, hV6, hV7, hV8, hV9, hV10, hV11, hV12, hV13, -⟩ G
            refine stepAt.call (f := 14) (args := #[vs 8]) rfl (wanted_by (g := 7) (b := true) (t := 17) rfl (by kernel_rfl) (congrArg some (show vs 7 = _ from hV7 rfl))) (by go_simp) ?_
            have eV8 : vs 8 = .agg #[.slice A sha.length c, .slice A' ea.length c'] := hV8 rfl
            rw [eV8]
            exact of_u (HA.at G) FA
          · rintro vs u ⟨hV0, hV1, hV2, hV3, hV4, hV5, hV6, hV7, hV8, hV9, hV10, hV11, hV12, hV13, -⟩ G
            refine stepAt.call (f := 13) (args := #[vs 9, .int .i64 64, .int .i64 5]) rfl (wanted_by (g := 7) (b := true) (t := 17) rfl (by kernel_rfl) (congrArg some (show vs 7 = _ from hV7 rfl))) (by go_simp) ?_
            have HV9 : Hold (fun u' => (Agg (QV sha (ea.map qOf) (3 * (L + 2)))) u' (vs 9)) u := hV9 rfl
            obtain ⟨A1_9, n1_9, c1_9, B1_9, m1_9, k1_9, eV9, -⟩ := HV9.now
            rw [eV9] at HV9
            rw [eV9]
            exact (small_u HV9.now.out HB2).mono fun _ _ ⟨v, h1, h2, h3⟩ => ⟨v, h1, h2, h3.now⟩
          · rintro vs u ⟨hV0, hV1, hV2, hV3, hV4, hV5, hV6, hV7, hV8, hV9, hV10, hV11, hV12, hV13, -⟩ G
            have eV10 : vs 10 = .bool false := hV10 rfl
            exact stepAt.pure (v := .bool true) rfl (wanted_by (g := 7) (b := true) (t := 17) rfl (by kernel_rfl) (congrArg some (show vs 7 = _ from hV7 rfl))) (by simp only [eV10]; go_simp) rfl
          · rintro vs u ⟨hV0, hV1, hV2, hV3, hV4, hV5, hV6, hV7, hV8, hV9, hV10, hV11, hV12, hV13, -⟩ G
            have eV7 : vs 7 = .bool true := hV7 rfl
            have eV11 : vs 11 = .bool true := hV11 rfl
            exact stepAt.pure (v := .bool true) rfl (wanted_by (g := 3) (b := false) (t := 13) rfl (by kernel_rfl) (congrArg some (show vs 3 = _ from hV3 rfl))) (by simp only [eV7, eV11]; go_simp) rfl
          · rintro vs u ⟨hV0, hV1, hV2, hV3, hV4, hV5, hV6, hV7, hV8, hV9, hV10, hV11, hV12, hV13, -⟩ G
            have eV3 : vs 3 = .bool false := hV3 rfl
            have eV12 : vs 12 = .bool true := hV12 rfl
            exact stepAt.pure (v := .bool true) rfl rfl (by simp only [eV3, eV12]; go_simp) rfl
        case looses17 =>
          exact trivial
        rintro vs U1 ⟨hV0, hV1, hV2, hV3, hV4, hV5, hV6, hV7, hV8, hV9, hV10, hV11, hV12, hV13, -⟩ G
        have eV0 : vs 0 = .agg #[.slice A sha.length c, .slice A' ea.length c'] := hV0
        have eV1 : vs 1 = .bool true := hV1
        have eV2 : vs 2 = .bool false := hV2
        have eV3 : vs 3 = .bool false := hV3
        have eV4 : vs 4 = .agg #[.slice A sha.length c, .slice A' ea.length c'] := hV4
        have eV5 : vs 5 = .int .i64 0 := hV5
        have eV6 : vs 6 = .bool true := hV6
        have eV7 : vs 7 = .bool true := hV7
        have eV8 : vs 8 = .agg #[.slice A sha.length c, .slice A' ea.length c'] := hV8
        replace hV9 : Hold (fun u' => (Agg (QV sha (ea.map qOf) (3 * (L + 2)))) u' (vs 9)) U1 := hV9
        obtain ⟨A1_9, n1_9, c1_9, B1_9, m1_9, k1_9, eV9, -⟩ := hV9.now
        rw [eV9] at hV9
        have eV10 : vs 10 = .bool false := hV10
        have eV11 : vs 11 = .bool true := hV11
        have eV12 : vs 12 = .bool true := hV12
        have eV13 : vs 13 = .bool true := hV13
        simp only [eV0, eV1, eV2, eV3, eV4, eV5, eV6, eV7, eV8, eV9, eV10, eV11, eV12, eV13]
        clear eV0 eV1 eV2 eV3 eV4 eV5 eV6 eV7 eV8 eV9 eV10 eV11 eV12 eV13 hV0 hV1 hV2 hV3 hV4 hV5 hV6 hV7 hV8 hV10 hV11 hV12 hV13
        refine wpTill.done (by kernel_rfl) ?_
        replace xa := xa.keep G
        replace HA := HA.keep G
        replace F := fr_then F G
        clear G
        repeat' ((fail_if_success (with_reducible refine wpTill.row (fun _ => True) 0 ?_ ?_)); go_step)
        refine wpTill.row (fun _ => True) 1 (by kernel_rfl) ?_
        change wpTill _ _ _ _ _ _ 2 _ _ _
        refine wpTill.free (jj := 1) (m := 1) [(0, Fact.eq (.bool true))] [] [0, 1] [] ?_ (by kernel_rfl) (by kernel_rfl) (by kernel_rfl) [(0, some 24)] (by kernel_rfl) ?hA19 ?hQ19 (fun _ _ => trivial) (by kernel_rfl) ?steps19 ?looses19 ?cont19
        case hQ19 => exact fun _ _ _ _ _ h => h
        case hA19 =>
          intro vs
          simp only [fillD, List.foldl_cons, List.foldl_nil, Act.put, List.setIfInBounds_toArray, List.set_cons_zero, List.set_cons_succ]
          exact rfl
        case steps19 =>
          refine ⟨?_, trivial⟩
          · rintro vs u ⟨hV0, -⟩ G
            refine stepAt.call (f := 15) (args := #[]) rfl rfl (by go_simp) ?_
            exact (known_u u).mono fun _ _ ⟨v, h1, h2, h3⟩ => ⟨v, h1, h2, h3.now⟩
        case looses19 =>
          exact trivial
        rintro vs U2 ⟨hV0, -⟩ G
        have eV0 : vs 0 = .bool true := hV0
        simp only [eV0]
        clear eV0 hV0
        refine wpTill.next 1 rfl (by kernel_rfl) (by rfl) (fun K hK => ?_)
        go_simp
        refine hK _ _ (no_wait (by kernel_rfl)) ?_
        clear hK K
        refine wpTill.done (by kernel_rfl) ?_
        replace xa := xa.keep G
        replace HA := HA.keep G
        replace F := fr_then F G
        clear G
        repeat' ((fail_if_success (with_reducible refine wpTill.row (fun _ => True) 0 ?_ ?_)); go_step)
        go_ret
        exact ⟨rfl, F⟩
      · refine wpTill.row (fun _ => True) 13 (by kernel_rfl) ?_
        change wpTill _ _ _ _ _ _ 14 _ _ _
        refine wpTill.free (jj := 13) (m := 0) [(0, Fact.eq (.agg #[.slice A sha.length c, .slice A' ea.length c'])),
      (1, Fact.eq (.bool true)),
      (2, Fact.eq (.bool false)),
      (3, Fact.eq (.bool false)),
      (4, Fact.eq (.agg #[.slice A sha.length c, .slice A' ea.length c'])),
      (5, Fact.eq (.int .i64 0)),
      (6, Fact.eq (.bool true)),
      (7, Fact.eq (.bool true)),
      (8, Fact.eq (.agg #[.slice A sha.length c, .slice A' ea.length c'])),
      (9, Fact.held (Agg (QV sha (ea.map qOf) (3 * (L + 2))))),
      (10, Fact.eq (.bool true)),
      (11, Fact.eq (.bool false)),
      (12, Fact.eq (.bool false)),
      (13, Fact.eq (.bool false))] [] [0, 1, 3, 7, 15, 31, 63, 127, 255, 511, 1023, 2047, 4095, 8191] [] ?_ (by kernel_rfl) (by kernel_rfl) (by kernel_rfl) [(0, some 10), (1, some 11), (2, some 12), (3, some 13), (4, some 14), (5, some 15), (6, some 16), (7, some 17), (8, some 18), (9, some 19), (10, some 20), (11, some 21), (12, some 22), (13, some 23)] (by kernel_rfl) ?hA18 ?hQ18 (fun _ _ => trivial) (by kernel_rfl) ?steps18 ?looses18 ?cont18
        case hQ18 => exact fun _ _ _ _ _ h => h
        case hA18 =>
          intro vs
          simp only [fillD, List.foldl_cons, List.foldl_nil, Act.put, List.setIfInBounds_toArray, List.set_cons_zero, List.set_cons_succ]
          exact rfl
        case steps18 =>
          refine ⟨?_, ?_, ?_, ?_, ?_, ?_, ?_, ?_, ?_, ?_, ?_, ?_, ?_, ?_, trivial⟩
          · rintro vs u ⟨hV0, hV1, hV2, hV3, hV4, hV5, hV6, hV7, hV8, hV9, hV10, hV11, hV12, hV13, -⟩ G
            have o0 := (xa.keep G).c0
            have o1 := (xa.keep G).c1
            exact stepAt.pure (v := .agg #[.slice A sha.length c, .slice A' ea.length c']) rfl rfl (by go_simp) rfl
          · rintro vs u ⟨hV0, hV1, hV2, hV3, hV4, hV5, hV6, hV7, hV8, hV9, hV10, hV11, hV12, hV13, -⟩ G
            refine stepAt.call (f := 11) (args := #[vs 0]) rfl rfl (by go_simp) ?_
            have eV0 : vs 0 = .agg #[.slice A sha.length c, .slice A' ea.length c'] := hV0 rfl
            rw [eV0]
            exact (few_u (HA.at G) HB1).mono fun _ _ ⟨v, h1, h2, h3⟩ => ⟨v, h1, h2, h3.now⟩
          · rintro vs u ⟨hV0, hV1, hV2, hV3, hV4, hV5, hV6, hV7, hV8, hV9, hV10, hV11, hV12, hV13, -⟩ G
            have eV1 : vs 1 = .bool true := hV1 rfl
            exact stepAt.pure (v := .bool false) rfl rfl (by simp only [eV1]; go_simp) rfl
          · rintro vs u ⟨hV0, hV1, hV2, hV3, hV4, hV5, hV6, hV7, hV8, hV9, hV10, hV11, hV12, hV13, -⟩ G
            have eV2 : vs 2 = .bool false := hV2 rfl
            exact stepAt.pure (v := .bool false) rfl rfl (by simp only [eV2]; go_simp) rfl
          · rintro vs u ⟨hV0, hV1, hV2, hV3, hV4, hV5, hV6, hV7, hV8, hV9, hV10, hV11, hV12, hV13, -⟩ G
            have o0 := (xa.keep G).c0
            have o1 := (xa.keep G).c1
            exact stepAt.pure (v := .agg #[.slice A sha.length c, .slice A' ea.length c']) rfl (wanted_by (g := 3) (b := false) (t := 13) rfl (by kernel_rfl) (congrArg some (show vs 3 = _ from hV3 rfl))) (by go_simp) rfl
          · rintro vs u ⟨hV0, hV1, hV2, hV3, hV4, hV5, hV6, hV7, hV8, hV9, hV10, hV11, hV12, hV13, -⟩ G
            refine stepAt.call (f := 12) (args := #[vs 4]) rfl (wanted_by (g := 3) (b := false) (t := 13) rfl (by kernel_rfl) (congrArg some (show vs 3 = _ from hV3 rfl))) (by go_simp) ?_
            have eV4 : vs 4 = .agg #[.slice A sha.length c, .slice A' ea.length c'] := hV4 rfl
            rw [eV4]
            exact (may_u (HA.at G) FA HR).mono fun _ _ ⟨v, h1, h2, h3⟩ => ⟨v, h1, h2, h3.now⟩
          · rintro vs u ⟨hV0, hV1, hV2, hV3, hV4, hV5, hV6, hV7, hV8, hV9, hV10, hV11, hV12, hV13, -⟩ G
            have eV5 : vs 5 = .int .i64 0 := hV5 rfl
            exact stepAt.pure (v := .bool true) rfl (wanted_by (g := 3) (b := false) (t := 13) rfl (by kernel_rfl) (congrArg some (show vs 3 = _ from hV3 rfl))) (by simp only [eV5]; go_simp <;> omega) rfl
          · rintro vs u ⟨hV0, hV1, hV2, hV3, hV4, hV5, hV6, hV7, hV8, hV9, hV10, hV11, hV12, hV13, -⟩ G
            have eV6 : vs 6 = .bool true := hV6 rfl
            exact stepAt.pure (v := .bool true) rfl (wanted_by (g := 3) (b := false) (t := 13) rfl (by kernel_rfl) (congrArg some (show vs 3 = _ from hV3 rfl))) (by simp only [eV6]; go_simp) rfl
          · rintro vs u ⟨hV0, hV1, hV2, hV3, hV4, hV5, hV6, hV7, hV8, hV9, hV10, hV11, hV12, hV13, -⟩ G
            have o0 := (xa.keep G).c0
            have o1 := (xa.keep G).c1
            exact stepAt.pure (v := .agg #[.slice A sha.length c, .slice A' ea.length c']) rfl (wanted_by (g := 7) (b := true) (t := 17) rfl (by kernel_rfl) (congrArg some (show vs 7 = _ from hV7 rfl))) (by go_simp) rfl
          · rintro vs u ⟨hV0, hV1, hV2, hV3, hV4, hV5, hV6, hV7, hV8, hV9, hV10, hV11, hV12, hV13, -⟩ G
            refine stepAt.call (f := 14) (args := #[vs 8]) rfl (wanted_by (g := 7) (b := true) (t := 17) rfl (by kernel_rfl) (congrArg some (show vs 7 = _ from hV7 rfl))) (by go_simp) ?_
            have eV8 : vs 8 = .agg #[.slice A sha.length c, .slice A' ea.length c'] := hV8 rfl
            rw [eV8]
            exact of_u (HA.at G) FA
          · rintro vs u ⟨hV0, hV1, hV2, hV3, hV4, hV5, hV6, hV7, hV8, hV9, hV10, hV11, hV12, hV13, -⟩ G
            refine stepAt.call (f := 13) (args := #[vs 9, .int .i64 64, .int .i64 5]) rfl (wanted_by (g := 7) (b := true) (t := 17) rfl (by kernel_rfl) (congrArg some (show vs 7 = _ from hV7 rfl))) (by go_simp) ?_
            have HV9 : Hold (fun u' => (Agg (QV sha (ea.map qOf) (3 * (L + 2)))) u' (vs 9)) u := hV9 rfl
            obtain ⟨A1_9, n1_9, c1_9, B1_9, m1_9, k1_9, eV9, -⟩ := HV9.now
            rw [eV9] at HV9
            rw [eV9]
            exact (small_u HV9.now.out HB2).mono fun _ _ ⟨v, h1, h2, h3⟩ => ⟨v, h1, h2, h3.now⟩
          · rintro vs u ⟨hV0, hV1, hV2, hV3, hV4, hV5, hV6, hV7, hV8, hV9, hV10, hV11, hV12, hV13, -⟩ G
            have eV10 : vs 10 = .bool true := hV10 rfl
            exact stepAt.pure (v := .bool false) rfl (wanted_by (g := 7) (b := true) (t := 17) rfl (by kernel_rfl) (congrArg some (show vs 7 = _ from hV7 rfl))) (by simp only [eV10]; go_simp) rfl
          · rintro vs u ⟨hV0, hV1, hV2, hV3, hV4, hV5, hV6, hV7, hV8, hV9, hV10, hV11, hV12, hV13, -⟩ G
            have eV7 : vs 7 = .bool true := hV7 rfl
            have eV11 : vs 11 = .bool false := hV11 rfl
            exact stepAt.pure (v := .bool false) rfl (wanted_by (g := 3) (b := false) (t := 13) rfl (by kernel_rfl) (congrArg some (show vs 3 = _ from hV3 rfl))) (by simp only [eV7, eV11]; go_simp) rfl
          · rintro vs u ⟨hV0, hV1, hV2, hV3, hV4, hV5, hV6, hV7, hV8, hV9, hV10, hV11, hV12, hV13, -⟩ G
            have eV3 : vs 3 = .bool false := hV3 rfl
            have eV12 : vs 12 = .bool false := hV12 rfl
            exact stepAt.pure (v := .bool false) rfl rfl (by simp only [eV3, eV12]; go_simp) rfl
        case looses18 =>
          exact trivial
        rintro vs U1 ⟨hV0, hV1, hV2, hV3, hV4, hV5, hV6, hV7, hV8, hV9, hV10, hV11, hV12, hV13, -⟩ G
        have eV0 : vs 0 = .agg #[.slice A sha.length c, .slice A' ea.length c'] := hV0
        have eV1 : vs 1 = .bool true := hV1
        have eV2 : vs 2 = .bool false := hV2
        have eV3 : vs 3 = .bool false := hV3
        have eV4 : vs 4 = .agg #[.slice A sha.length c, .slice A' ea.length c'] := hV4
        have eV5 : vs 5 = .int .i64 0 := hV5
        have eV6 : vs 6 = .bool true := hV6
        have eV7 : vs 7 = .bool true := hV7
        have eV8 : vs 8 = .agg #[.slice A sha.length c, .slice A' ea.length c'] := hV8
        replace hV9 : Hold (fun u' => (Agg (QV sha (ea.map qOf) (3 * (L + 2)))) u' (vs 9)) U1 := hV9
        obtain ⟨A1_9, n1_9, c1_9, B1_9, m1_9, k1_9, eV9, -⟩ := hV9.now
        rw [eV9] at hV9
        have eV10 : vs 10 = .bool true := hV10
        have eV11 : vs 11 = .bool false := hV11
        have eV12 : vs 12 = .bool false := hV12
        have eV13 : vs 13 = .bool false := hV13
        simp only [eV0, eV1, eV2, eV3, eV4, eV5, eV6, eV7, eV8, eV9, eV10, eV11, eV12, eV13]
        clear eV0 eV1 eV2 eV3 eV4 eV5 eV6 eV7 eV8 eV9 eV10 eV11 eV12 eV13 hV0 hV1 hV2 hV3 hV4 hV5 hV6 hV7 hV8 hV10 hV11 hV12 hV13
        refine wpTill.done (by kernel_rfl) ?_
        replace xa := xa.keep G
        replace HA := HA.keep G
        replace F := fr_then F G
        clear G
        repeat' ((fail_if_success (with_reducible refine wpTill.row (fun _ => True) 0 ?_ ?_)); go_step)
        refine wpTill.row (fun _ => True) 7 (by kernel_rfl) ?_
        change wpTill _ _ _ _ _ _ 9 _ _ _
        refine wpTill.free (jj := 7) (m := 2) [(0, Fact.eq (.agg #[.slice A sha.length c, .slice A' ea.length c'])),
      (1, Fact.eq (.int .i64 n)),
      (2, Fact.held (Tup (p) (TC p sha (ea.map fun x => canR (qOf x ^ n.toNat))))),
      (3, Fact.same 2),
      (4, Fact.fst 3),
      (6, Fact.mem (New2 U1.heap.size 26 (.slice none 0 0) (.slice none 0 0)) New2.keep)] [(5, Fact.snd 3)] [0, 0, 3, 7, 15, 15, 0, 95, 255] [] ?_ (by kernel_rfl) (by kernel_rfl) (by kernel_rfl) [(0, some 26), (1, some 27), (2, some 28), (3, some 25), (4, some 29), (6, some 5), (5, some 30)] (by kernel_rfl) ?hA20 ?hQ20 (fun _ _ => trivial) (by kernel_rfl) ?steps20 ?looses20 ?cont20
        case hQ20 => exact fun _ _ _ _ _ h => h
        case hA20 =>
          intro vs
          simp only [fillD, List.foldl_cons, List.foldl_nil, Act.put, List.setIfInBounds_toArray, List.set_cons_zero, List.set_cons_succ]
          exact rfl
        case steps20 =>
          refine ⟨?_, ?_, ?_, ?_, ?_, ?_, trivial⟩
          · rintro vs u ⟨hV0, hV1, hV2, hV3, hV4, hV6, hV5, -⟩ G
            have o0 := (xa.keep G).c0
            have o1 := (xa.keep G).c1
            exact stepAt.pure (v := .agg #[.slice A sha.length c, .slice A' ea.length c']) rfl rfl (by go_simp) rfl
          · rintro vs u ⟨hV0, hV1, hV2, hV3, hV4, hV6, hV5, -⟩ G
            exact stepAt.pure (v := .int .i64 n) rfl rfl (by go_simp) rfl
          · rintro vs u ⟨hV0, hV1, hV2, hV3, hV4, hV6, hV5, -⟩ G
            refine stepAt.call (f := 16) (args := #[vs 0, vs 1]) rfl rfl (by go_simp) ?_
            have eV0 : vs 0 = .agg #[.slice A sha.length c, .slice A' ea.length c'] := hV0 rfl
            have eV1 : vs 1 = .int .i64 n := hV1 rfl
            rw [eV0, eV1]
            exact pow_u (HA.at G) FA HP HN
          · rintro vs u ⟨hV0, hV1, hV2, hV3, hV4, hV6, hV5, -⟩ G
            exact stepAt.pure (v := vs 2) rfl rfl (by go_simp) rfl
          · rintro vs u ⟨hV0, hV1, hV2, hV3, hV4, hV6, hV5, -⟩ G
            have HV2 : Hold (fun u' => (Tup (p) (TC p sha (ea.map fun x => canR (qOf x ^ n.toNat)))) u' (vs 2)) u := hV2 rfl
            obtain ⟨A2_2, n2_2, c2_2, B2_2, m2_2, k2_2, eV2, -⟩ := HV2.now
            rw [eV2] at HV2
            have eV3 : vs 3 = .tuple #[.agg #[.slice A2_2 n2_2 c2_2, .slice B2_2 m2_2 k2_2], .int .i64 p] := (show vs 3 = vs 2 from hV3 rfl).trans eV2
            exact stepAt.pure (v := .agg #[.slice A2_2 n2_2 c2_2, .slice B2_2 m2_2 k2_2]) rfl rfl (by simp only [eV3]; go_simp) ⟨_, _, eV3, rfl⟩
          · rintro vs u ⟨hV0, hV1, hV2, hV3, hV4, hV6, hV5, -⟩ G
            exact stepAt.value (v := .pointer (some ⟨u.heap.size, 0, none⟩)) (u := u.alloc (.cells #[.slice none 0 0, .slice none 0 0] 26)) rfl rfl (by go_simp) ((Fr.refl _ _).alloc _) ⟨_, rfl, G.size, Box2.new _ _ _ _⟩
        case looses20 =>
          refine ⟨?_, trivial⟩
          · rintro vs u ⟨hV0, hV1, hV2, hV3, hV4, hV6, hV5, -⟩ G
            have HV2 : Hold (fun u' => (Tup (p) (TC p sha (ea.map fun x => canR (qOf x ^ n.toNat)))) u' (vs 2)) u := hV2 rfl
            obtain ⟨A2_2, n2_2, c2_2, B2_2, m2_2, k2_2, eV2, -⟩ := HV2.now
            rw [eV2] at HV2
            have eV3 : vs 3 = .tuple #[.agg #[.slice A2_2 n2_2 c2_2, .slice B2_2 m2_2 k2_2], .int .i64 p] := (show vs 3 = vs 2 from hV3 rfl).trans eV2
            exact pureAt.of (v := .int .i64 p) rfl rfl (fun _ => by simp only [eV3]; go_simp) ⟨_, _, eV3, rfl⟩
        rintro vs u ⟨hV0, hV1, hV2, hV3, hV4, hV6, hV5, -⟩ G
        have eV0 : vs 0 = .agg #[.slice A sha.length c, .slice A' ea.length c'] := hV0
        have eV1 : vs 1 = .int .i64 n := hV1
        replace hV2 : Hold (fun u' => (Tup (p) (TC p sha (ea.map fun x => canR (qOf x ^ n.toNat)))) u' (vs 2)) u := hV2
        obtain ⟨A2_2, n2_2, c2_2, B2_2, m2_2, k2_2, eV2, -⟩ := hV2.now
        rw [eV2] at hV2
        have eV3 : vs 3 = _ := (show vs 3 = vs 2 from hV3).trans eV2
        obtain ⟨x4, z4, a4, eV4⟩ := hV4
        have a4 := eV3.symm.trans a4
        cases a4
        replace eV4 : vs 4 = _ := eV4
        obtain ⟨b2_6, eV6, l2_6, y2_6⟩ := hV6
        replace eV6 : vs 6 = _ := eV6
        obtain ⟨x5, z5, a5, eV5⟩ := hV5
        have a5 := eV3.symm.trans a5
        cases a5
        replace eV5 : vs 5 = _ := eV5
        simp only [eV0, eV1, eV2, eV3, eV4, eV6, eV5]
        clear eV0 eV1 eV2 eV3 eV4 eV6 eV5 hV0 hV1 hV3
        have g0 := y2_6.free 0
        have g1 := y2_6.free 1
        have g2 := y2_6.c0
        have g3 := y2_6.c1
        refine wpTill.next 7 rfl (by kernel_rfl) (by rfl) (fun K hK => ?_)
        go_simp
        refine hK _ _ (no_wait (by kernel_rfl)) ?_
        clear hK K
        refine wpTill.next 8 rfl (by kernel_rfl) (by rfl) (fun K hK => ?_)
        go_simp
        refine hK _ _ (no_wait (by kernel_rfl)) ?_
        clear hK K
        refine wpTill.done (by kernel_rfl) ?_
        have F9 := fr_put2 u b2_6 (.slice A2_2 n2_2 c2_2) (.slice B2_2 m2_2 k2_2)
        have G9 := G.comp F9 (R := fun k => k < U1.heap.size) fun k _ hk => ⟨hk, by omega⟩
        have z2 := y2_6.set2 (.slice A2_2 n2_2 c2_2) (.slice B2_2 m2_2 k2_2)
        have T2 := (hV2.now.out.fill (.slice A2_2 n2_2 c2_2) (.slice B2_2 m2_2 k2_2) y2_6).hold
        replace xa := xa.keep G9
        replace HA := HA.keep G9
        replace F := fr_then F G9
        generalize (u.setCell ⟨b2_6, 0, none⟩ (.slice A2_2 n2_2 c2_2)).setCell ⟨b2_6, 1, none⟩ (.slice B2_2 m2_2 k2_2) = U2 at z2 T2 xa HA F ⊢
        clear g0 g1 g2 g3 F9 G9 G y2_6 l2_6 hV2
        repeat' ((fail_if_success (with_reducible refine wpTill.row (fun _ => True) 0 ?_ ?_)); go_step)
        refine wpTill.row (fun _ => True) 2 (by kernel_rfl) ?_
        change wpTill _ _ _ _ _ _ 3 _ _ _
        refine wpTill.free (jj := 2) (m := 1) [(0, Fact.eq (.agg #[.slice A sha.length c, .slice A' ea.length c'])),
      (1, Fact.eq (.int .i64 0))] [] [0, 1, 3] [] ?_ (by kernel_rfl) (by kernel_rfl) (by kernel_rfl) [(0, some 31), (1, some 32)] (by kernel_rfl) ?hA21 ?hQ21 (fun _ _ => trivial) (by kernel_rfl) ?steps21 ?looses21 ?cont21
        case hQ21 => exact fun _ _ _ _ _ h => h
        case hA21 =>
          intro vs
          simp only [fillD, List.foldl_cons, List.foldl_nil, Act.put, List.setIfInBounds_toArray, List.set_cons_zero, List.set_cons_succ]
          exact rfl
        case steps21 =>
          refine ⟨?_, ?_, trivial⟩
          · rintro vs u ⟨hV0, hV1, -⟩ G
            have o0 := (xa.keep G).c0
            have o1 := (xa.keep G).c1
            exact stepAt.pure (v := .agg #[.slice A sha.length c, .slice A' ea.length c']) rfl rfl (by go_simp) rfl
          · rintro vs u ⟨hV0, hV1, -⟩ G
            refine stepAt.call (f := 12) (args := #[vs 0]) rfl rfl (by go_simp) ?_
            have eV0 : vs 0 = .agg #[.slice A sha.length c, .slice A' ea.length c'] := hV0 rfl
            rw [eV0]
            exact (may_u (HA.at G) FA HR).mono fun _ _ ⟨v, h1, h2, h3⟩ => ⟨v, h1, h2, h3.now⟩
        case looses21 =>
          exact trivial
        rintro vs U3 ⟨hV0, hV1, -⟩ G
        have eV0 : vs 0 = .agg #[.slice A sha.length c, .slice A' ea.length c'] := hV0
        have eV1 : vs 1 = .int .i64 0 := hV1
        simp only [eV0, eV1]
        clear eV0 eV1 hV0 hV1
        refine wpTill.next 2 rfl (by kernel_rfl) (by rfl) (fun K hK => ?_)
        go_simp
        refine hK _ _ (no_wait (by kernel_rfl)) ?_
        clear hK K
        refine wpTill.done (by kernel_rfl) ?_
        replace xa := xa.keep G
        replace z2 := z2.keep G
        replace HA := HA.keep G
        replace T2 := T2.keep G
        replace F := fr_then F G
        clear G
        repeat' ((fail_if_success (with_reducible refine wpTill.row (fun _ => True) 0 ?_ ?_)); go_step)
        refine wpTill.row (fun _ => True) 1 (by kernel_rfl) ?_
        change wpTill _ _ _ _ _ _ 2 _ _ _
        refine wpTill.free (jj := 1) (m := 0) [(0, Fact.eq (.int .i64 0)),
      (1, Fact.eq (.bool false))] [] [0, 1] [] ?_ (by kernel_rfl) (by kernel_rfl) (by kernel_rfl) [(0, some 33), (1, some 34)] (by kernel_rfl) ?hA22 ?hQ22 (fun _ _ => trivial) (by kernel_rfl) ?steps22 ?looses22 ?cont22
        case hQ22 => exact fun _ _ _ _ _ h => h
        case hA22 =>
          intro vs
          simp only [fillD, List.foldl_cons, List.foldl_nil, Act.put, List.setIfInBounds_toArray, List.set_cons_zero, List.set_cons_succ]
          exact rfl
        case steps22 =>
          refine ⟨?_, ?_, trivial⟩
          · rintro vs u ⟨hV0, hV1, -⟩ G
            exact stepAt.pure (v := .int .i64 0) rfl rfl (by go_simp) rfl
          · rintro vs u ⟨hV0, hV1, -⟩ G
            have eV0 : vs 0 = .int .i64 0 := hV0 rfl
            exact stepAt.pure (v := .bool false) rfl rfl (by simp only [eV0]; go_simp <;> omega) rfl
        case looses22 =>
          exact trivial
        rintro vs U4 ⟨hV0, hV1, -⟩ G
        have eV0 : vs 0 = .int .i64 0 := hV0
        have eV1 : vs 1 = .bool false := hV1
        simp only [eV0, eV1]
        clear eV0 eV1 hV0 hV1
        refine wpTill.done (by kernel_rfl) ?_
        replace xa := xa.keep G
        replace z2 := z2.keep G
        replace HA := HA.keep G
        replace T2 := T2.keep G
        replace F := fr_then F G
        clear G
        repeat' ((fail_if_success (with_reducible refine wpTill.row (fun _ => True) 0 ?_ ?_)); go_step)
        refine wpTill.row (fun _ => True) 8 (by kernel_rfl) ?_
        change wpTill _ _ _ _ _ _ 10 _ _ _
        refine wpTill.free (jj := 8) (m := 2) [(0, Fact.eq (.agg #[.slice A sha.length c, .slice A' ea.length c'])),
      (1, Fact.held (Agg (QV sha (ea.map qOf) (3 * (L + 2))))),
      (2, Fact.eq (.int .i64 n)),
      (3, Fact.held (Tup (p) (QC p sha ((ea.map qOf).map (fun q => q ^ n.toNat)) (16 * (3 * (L + 2)) + 6)))),
      (4, Fact.same 3),
      (5, Fact.fst 4),
      (7, Fact.mem (New2 U4.heap.size 32 (.slice none 0 0) (.slice none 0 0)) New2.keep)] [(6, Fact.snd 4)] [0, 1, 0, 7, 15, 31, 31, 0, 191, 511] [] ?_ (by kernel_rfl) (by kernel_rfl) (by kernel_rfl) [(0, some 44), (1, some 45), (2, some 46), (3, some 47), (4, some 43), (5, some 48), (7, some 8), (6, some 49)] (by kernel_rfl) ?hA23 ?hQ23 (fun _ _ => trivial) (by kernel_rfl) ?steps23 ?looses23 ?cont23
        case hQ23 => exact fun _ _ _ _ _ h => h
        case hA23 =>
          intro vs
          simp only [fillD, List.foldl_cons, List.foldl_nil, Act.put, List.setIfInBounds_toArray, List.set_cons_zero, List.set_cons_succ]
          exact rfl
        case steps23 =>
          refine ⟨?_, ?_, ?_, ?_, ?_, ?_, ?_, trivial⟩
          · rintro vs u ⟨hV0, hV1, hV2, hV3, hV4, hV5, hV7, hV6, -⟩ G
            have o0 := (xa.keep G).c0
            have o1 := (xa.keep G).c1
            exact stepAt.pure (v := .agg #[.slice A sha.length c, .slice A' ea.length c']) rfl rfl (by go_simp) rfl
          · rintro vs u ⟨hV0, hV1, hV2, hV3, hV4, hV5, hV7, hV6, -⟩ G
            refine stepAt.call (f := 14) (args := #[vs 0]) rfl rfl (by go_simp) ?_
            have eV0 : vs 0 = .agg #[.slice A sha.length c, .slice A' ea.length c'] := hV0 rfl
            rw [eV0]
            exact of_u (HA.at G) FA
          · rintro vs u ⟨hV0, hV1, hV2, hV3, hV4, hV5, hV7, hV6, -⟩ G
            exact stepAt.pure (v := .int .i64 n) rfl rfl (by go_simp) rfl
          · rintro vs u ⟨hV0, hV1, hV2, hV3, hV4, hV5, hV7, hV6, -⟩ G
            refine stepAt.call (f := 18) (args := #[vs 1, vs 2]) rfl rfl (by go_simp) ?_
            have HV1 : Hold (fun u' => (Agg (QV sha (ea.map qOf) (3 * (L + 2)))) u' (vs 1)) u := hV1 rfl
            obtain ⟨A5_1, n5_1, c5_1, B5_1, m5_1, k5_1, eV1, -⟩ := HV1.now
            rw [eV1] at HV1
            have eV2 : vs 2 = .int .i64 n := hV2 rfl
            rw [eV1, eV2]
            exact rpow_u HV1.now.out FQA (by omega) (Lib.hid HPR0)
          · rintro vs u ⟨hV0, hV1, hV2, hV3, hV4, hV5, hV7, hV6, -⟩ G
            exact stepAt.pure (v := vs 3) rfl rfl (by go_simp) rfl
          · rintro vs u ⟨hV0, hV1, hV2, hV3, hV4, hV5, hV7, hV6, -⟩ G
            have HV3 : Hold (fun u' => (Tup (p) (QC p sha ((ea.map qOf).map (fun q => q ^ n.toNat)) (16 * (3 * (L + 2)) + 6))) u' (vs 3)) u := hV3 rfl
            obtain ⟨A5_3, n5_3, c5_3, B5_3, m5_3, k5_3, eV3, -⟩ := HV3.now
            rw [eV3] at HV3
            have eV4 : vs 4 = .tuple #[.agg #[.slice A5_3 n5_3 c5_3, .slice B5_3 m5_3 k5_3], .int .i64 p] := (show vs 4 = vs 3 from hV4 rfl).trans eV3
            exact stepAt.pure (v := .agg #[.slice A5_3 n5_3 c5_3, .slice B5_3 m5_3 k5_3]) rfl rfl (by simp only [eV4]; go_simp) ⟨_, _, eV4, rfl⟩
          · rintro vs u ⟨hV0, hV1, hV2, hV3, hV4, hV5, hV7, hV6, -⟩ G
            exact stepAt.value (v := .pointer (some ⟨u.heap.size, 0, none⟩)) (u := u.alloc (.cells #[.slice none 0 0, .slice none 0 0] 32)) rfl rfl (by go_simp) ((Fr.refl _ _).alloc _) ⟨_, rfl, G.size, Box2.new _ _ _ _⟩
        case looses23 =>
          refine ⟨?_, trivial⟩
          · rintro vs u ⟨hV0, hV1, hV2, hV3, hV4, hV5, hV7, hV6, -⟩ G
            have HV3 : Hold (fun u' => (Tup (p) (QC p sha ((ea.map qOf).map (fun q => q ^ n.toNat)) (16 * (3 * (L + 2)) + 6))) u' (vs 3)) u := hV3 rfl
            obtain ⟨A5_3, n5_3, c5_3, B5_3, m5_3, k5_3, eV3, -⟩ := HV3.now
            rw [eV3] at HV3
            have eV4 : vs 4 = .tuple #[.agg #[.slice A5_3 n5_3 c5_3, .slice B5_3 m5_3 k5_3], .int .i64 p] := (show vs 4 = vs 3 from hV4 rfl).trans eV3
            exact pureAt.of (v := .int .i64 p) rfl rfl (fun _ => by simp only [eV4]; go_simp) ⟨_, _, eV4, rfl⟩
        rintro vs u ⟨hV0, hV1, hV2, hV3, hV4, hV5, hV7, hV6, -⟩ G
        have eV0 : vs 0 = .agg #[.slice A sha.length c, .slice A' ea.length c'] := hV0
        replace hV1 : Hold (fun u' => (Agg (QV sha (ea.map qOf) (3 * (L + 2)))) u' (vs 1)) u := hV1
        obtain ⟨A5_1, n5_1, c5_1, B5_1, m5_1, k5_1, eV1, -⟩ := hV1.now
        rw [eV1] at hV1
        have eV2 : vs 2 = .int .i64 n := hV2
        replace hV3 : Hold (fun u' => (Tup (p) (QC p sha ((ea.map qOf).map (fun q => q ^ n.toNat)) (16 * (3 * (L + 2)) + 6))) u' (vs 3)) u := hV3
        obtain ⟨A5_3, n5_3, c5_3, B5_3, m5_3, k5_3, eV3, -⟩ := hV3.now
        rw [eV3] at hV3
        have eV4 : vs 4 = _ := (show vs 4 = vs 3 from hV4).trans eV3
        obtain ⟨x5, z5, a5, eV5⟩ := hV5
        have a5 := eV4.symm.trans a5
        cases a5
        replace eV5 : vs 5 = _ := eV5
        obtain ⟨b5_7, eV7, l5_7, y5_7⟩ := hV7
        replace eV7 : vs 7 = _ := eV7
        obtain ⟨x6, z6, a6, eV6⟩ := hV6
        have a6 := eV4.symm.trans a6
        cases a6
        replace eV6 : vs 6 = _ := eV6
        simp only [eV0, eV1, eV2, eV3, eV4, eV5, eV7, eV6]
        clear eV0 eV1 eV2 eV3 eV4 eV5 eV7 eV6 hV0 hV2 hV4
        have g0 := y5_7.free 0
        have g1 := y5_7.free 1
        have g2 := y5_7.c0
        have g3 := y5_7.c1
        refine wpTill.next 8 rfl (by kernel_rfl) (by rfl) (fun K hK => ?_)
        go_simp
        refine hK _ _ (no_wait (by kernel_rfl)) ?_
        clear hK K
        refine wpTill.next 9 rfl (by kernel_rfl) (by rfl) (fun K hK => ?_)
        go_simp
        refine hK _ _ (no_wait (by kernel_rfl)) ?_
        clear hK K
        refine wpTill.done (by kernel_rfl) ?_
        have F9 := fr_put2 u b5_7 (.slice A5_3 n5_3 c5_3) (.slice B5_3 m5_3 k5_3)
        have G9 := G.comp F9 (R := fun k => k < U4.heap.size) fun k _ hk => ⟨hk, by omega⟩
        have z5 := y5_7.set2 (.slice A5_3 n5_3 c5_3) (.slice B5_3 m5_3 k5_3)
        have T5 := (hV3.now.out.fill (.slice A5_3 n5_3 c5_3) (.slice B5_3 m5_3 k5_3) y5_7).hold
        replace xa := xa.keep G9
        replace z2 := z2.keep G9
        replace HA := HA.keep G9
        replace T2 := T2.keep G9
        replace F := fr_then F G9
        generalize (u.setCell ⟨b5_7, 0, none⟩ (.slice A5_3 n5_3 c5_3)).setCell ⟨b5_7, 1, none⟩ (.slice B5_3 m5_3 k5_3) = U5 at z5 T5 xa z2 HA T2 F ⊢
        clear g0 g1 g2 g3 F9 G9 G y5_7 l5_7 hV3
        repeat' ((fail_if_success (with_reducible refine wpTill.row (fun _ => True) 0 ?_ ?_)); go_step)
        refine wpTill.row (fun _ => True) 8 (by kernel_rfl) ?_
        change wpTill _ _ _ _ _ _ 9 _ _ _
        refine wpTill.free (jj := 8) (m := 1) [(0, Fact.eq (.agg #[.slice A2_2 n2_2 c2_2, .slice B2_2 m2_2 k2_2])),
      (1, Fact.eq (.int .i64 p)),
      (2, Fact.eq (.agg #[.slice A5_3 n5_3 c5_3, .slice B5_3 m5_3 k5_3])),
      (3, Fact.eq (.int .i64 p)),
      (4, Fact.eq (.bool true)),
      (5, Fact.eq (.bool true)),
      (6, Fact.eq (.bool true)),
      (7, Fact.eq (.bool true))] [] [0, 0, 0, 0, 15, 31, 63, 127, 255] [] ?_ (by kernel_rfl) (by kernel_rfl) (by kernel_rfl) [(0, some 50), (1, some 51), (2, some 52), (3, some 53), (4, some 54), (5, some 55), (6, some 56), (7, some 57)] (by kernel_rfl) ?hA24 ?hQ24 (fun _ _ => trivial) (by kernel_rfl) ?steps24 ?looses24 ?cont24
        case hQ24 => exact fun _ _ _ _ _ h => h
        case hA24 =>
          intro vs
          simp only [fillD, List.foldl_cons, List.foldl_nil, Act.put, List.setIfInBounds_toArray, List.set_cons_zero, List.set_cons_succ]
          exact rfl
        case steps24 =>
          refine ⟨?_, ?_, ?_, ?_, ?_, ?_, ?_, ?_, trivial⟩
          · rintro vs u ⟨hV0, hV1, hV2, hV3, hV4, hV5, hV6, hV7, -⟩ G
            have o0 := (z2.keep G).c0
            have o1 := (z2.keep G).c1
            exact stepAt.pure (v := .agg #[.slice A2_2 n2_2 c2_2, .slice B2_2 m2_2 k2_2]) rfl rfl (by go_simp) rfl
          · rintro vs u ⟨hV0, hV1, hV2, hV3, hV4, hV5, hV6, hV7, -⟩ G
            exact stepAt.pure (v := .int .i64 p) rfl rfl (by go_simp) rfl
          · rintro vs u ⟨hV0, hV1, hV2, hV3, hV4, hV5, hV6, hV7, -⟩ G
            have o0 := (z5.keep G).c0
            have o1 := (z5.keep G).c1
            exact stepAt.pure (v := .agg #[.slice A5_3 n5_3 c5_3, .slice B5_3 m5_3 k5_3]) rfl rfl (by go_simp) rfl
          · rintro vs u ⟨hV0, hV1, hV2, hV3, hV4, hV5, hV6, hV7, -⟩ G
            exact stepAt.pure (v := .int .i64 p) rfl rfl (by go_simp) rfl
          · rintro vs u ⟨hV0, hV1, hV2, hV3, hV4, hV5, hV6, hV7, -⟩ G
            refine stepAt.call (f := 17) (args := #[vs 0, vs 1, vs 2, vs 3]) rfl rfl (by go_simp) ?_
            have eV0 : vs 0 = .agg #[.slice A2_2 n2_2 c2_2, .slice B2_2 m2_2 k2_2] := hV0 rfl
            have eV1 : vs 1 = .int .i64 p := hV1 rfl
            have eV2 : vs 2 = .agg #[.slice A5_3 n5_3 c5_3, .slice B5_3 m5_3 k5_3] := hV2 rfl
            have eV3 : vs 3 = .int .i64 p := hV3 rfl
            rw [eV0, eV1, eV2, eV3]
            exact (told_u (T2.at G) (T5.at G) ⟨⟨_, _, _, rfl⟩, ⟨_, _, _, rfl⟩⟩ HS (by omega)).mono fun _ _ ⟨v, h1, h2, h3⟩ => ⟨v, h1, h2, h3.now⟩
          · rintro vs u ⟨hV0, hV1, hV2, hV3, hV4, hV5, hV6, hV7, -⟩ G
            have eV4 : vs 4 = .bool true := hV4 rfl
            exact stepAt.pure (v := .bool true) rfl rfl (by simp only [eV4]; go_simp) rfl
          · rintro vs u ⟨hV0, hV1, hV2, hV3, hV4, hV5, hV6, hV7, -⟩ G
            refine stepAt.call (f := 15) (args := #[]) rfl (wanted_by (g := 5) (b := true) (t := 55) rfl (by kernel_rfl) (congrArg some (show vs 5 = _ from hV5 rfl))) (by go_simp) ?_
            exact (known_u u).mono fun _ _ ⟨v, h1, h2, h3⟩ => ⟨v, h1, h2, h3.now⟩
          · rintro vs u ⟨hV0, hV1, hV2, hV3, hV4, hV5, hV6, hV7, -⟩ G
            have eV5 : vs 5 = .bool true := hV5 rfl
            have eV6 : vs 6 = .bool true := hV6 rfl
            exact stepAt.pure (v := .bool true) rfl rfl (by simp only [eV5, eV6]; go_simp) rfl
        case looses24 =>
          exact trivial
        rintro vs U6 ⟨hV0, hV1, hV2, hV3, hV4, hV5, hV6, hV7, -⟩ G
        have eV0 : vs 0 = .agg #[.slice A2_2 n2_2 c2_2, .slice B2_2 m2_2 k2_2] := hV0
        have eV1 : vs 1 = .int .i64 p := hV1
        have eV2 : vs 2 = .agg #[.slice A5_3 n5_3 c5_3, .slice B5_3 m5_3 k5_3] := hV2
        have eV3 : vs 3 = .int .i64 p := hV3
        have eV4 : vs 4 = .bool true := hV4
        have eV5 : vs 5 = .bool true := hV5
        have eV6 : vs 6 = .bool true := hV6
        have eV7 : vs 7 = .bool true := hV7
        simp only [eV0, eV1, eV2, eV3, eV4, eV5, eV6, eV7]
        clear eV0 eV1 eV2 eV3 eV4 eV5 eV6 eV7 hV0 hV1 hV2 hV3 hV4 hV5 hV6 hV7
        refine wpTill.next 8 rfl (by kernel_rfl) (by rfl) (fun K hK => ?_)
        go_simp
        refine hK _ _ (no_wait (by kernel_rfl)) ?_
        clear hK K
        refine wpTill.done (by kernel_rfl) ?_
        replace xa := xa.keep G
        replace z2 := z2.keep G
        replace z5 := z5.keep G
        replace HA := HA.keep G
        replace T2 := T2.keep G
        replace T5 := T5.keep G
        replace F := fr_then F G
        clear G
        repeat' ((fail_if_success (with_reducible refine wpTill.row (fun _ => True) 0 ?_ ?_)); go_step)
        go_ret
        exact ⟨rfl, F⟩
    · have hb0 : (r == 0) = false := beq_eq_false_iff_ne.2 h0
      have hp := HER.out h0
      subst hp
      clear HER
      refine wpTill.row (fun _ => True) 13 (by kernel_rfl) ?_
      change wpTill _ _ _ _ _ _ 14 _ _ _
      refine wpTill.free (jj := 13) (m := 0) [(0, Fact.eq (.agg #[.slice A sha.length c, .slice A' ea.length c'])),
      (1, Fact.eq (.bool true)),
      (2, Fact.eq (.bool false)),
      (3, Fact.eq (.bool false)),
      (4, Fact.eq (.agg #[.slice A sha.length c, .slice A' ea.length c'])),
      (5, Fact.eq (.int .i64 r)),
      (6, Fact.eq (.bool false)),
      (7, Fact.eq (.bool false)),
      (8, Fact.eq undef),
      (9, Fact.eq undef),
      (10, Fact.eq undef),
      (11, Fact.eq undef),
      (12, Fact.eq (.bool false)),
      (13, Fact.eq (.bool false))] [] [0, 1, 3, 7, 15, 31, 63, 127, 255, 511, 1023, 2047, 4095, 8191] [] ?_ (by kernel_rfl) (by kernel_rfl) (by kernel_rfl) [(0, some 10), (1, some 11), (2, some 12), (3, some 13), (4, some 14), (5, some 15), (6, some 16), (7, some 17), (8, some 18), (9, some 19), (10, some 20), (11, some 21), (12, some 22), (13, some 23)] (by kernel_rfl) ?hA12 ?hQ12 (fun _ _ => trivial) (by kernel_rfl) ?steps12 ?looses12 ?cont12
      case hQ12 => exact fun _ _ _ _ _ h => h
      case hA12 =>
        intro vs
        simp only [fillD, List.foldl_cons, List.foldl_nil, Act.put, List.setIfInBounds_toArray, List.set_cons_zero, List.set_cons_succ]
        exact rfl
      case steps12 =>
        refine ⟨?_, ?_, ?_, ?_, ?_, ?_, ?_, ?_, ?_, ?_, ?_, ?_, ?_, ?_, trivial⟩
        · rintro vs u ⟨hV0, hV1, hV2, hV3, hV4, hV5, hV6, hV7, hV8, hV9, hV10, hV11, hV12, hV13, -⟩ G
          have o0 := (xa.keep G).c0
          have o1 := (xa.keep G).c1
          exact stepAt.pure (v := .agg #[.slice A sha.length c, .slice A' ea.length c']) rfl rfl (by go_simp) rfl
        · rintro vs u ⟨hV0, hV1, hV2, hV3, hV4, hV5, hV6, hV7, hV8, hV9, hV10, hV11, hV12, hV13, -⟩ G
          refine stepAt.call (f := 11) (args := #[vs 0]) rfl rfl (by go_simp) ?_
          have eV0 : vs 0 = .agg #[.slice A sha.length c, .slice A' ea.length c'] := hV0 rfl
          rw [eV0]
          exact (few_u (HA.at G) HB1).mono fun _ _ ⟨v, h1, h2, h3⟩ => ⟨v, h1, h2, h3.now⟩
        · rintro vs u ⟨hV0, hV1, hV2, hV3, hV4, hV5, hV6, hV7, hV8, hV9, hV10, hV11, hV12, hV13, -⟩ G
          have eV1 : vs 1 = .bool true := hV1 rfl
          exact stepAt.pure (v := .bool false) rfl rfl (by simp only [eV1]; go_simp) rfl
        · rintro vs u ⟨hV0, hV1, hV2, hV3, hV4, hV5, hV6, hV7, hV8, hV9, hV10, hV11, hV12, hV13, -⟩ G
          have eV2 : vs 2 = .bool false := hV2 rfl
          exact stepAt.pure (v := .bool false) rfl rfl (by simp only [eV2]; go_simp) rfl
        · rintro vs u ⟨hV0, hV1, hV2, hV3, hV4, hV5, hV6, hV7, hV8, hV9, hV10, hV11, hV12, hV13, -⟩ G
          have o0 := (xa.keep G).c0
          have o1 := (xa.keep G).c1
          exact stepAt.pure (v := .agg #[.slice A sha.length c, .slice A' ea.length c']) rfl (wanted_by (g := 3) (b := false) (t := 13) rfl (by kernel_rfl) (congrArg some (show vs 3 = _ from hV3 rfl))) (by go_simp) rfl
        · rintro vs u ⟨hV0, hV1, hV2, hV3, hV4, hV5, hV6, hV7, hV8, hV9, hV10, hV11, hV12, hV13, -⟩ G
          refine stepAt.call (f := 12) (args := #[vs 4]) rfl (wanted_by (g := 3) (b := false) (t := 13) rfl (by kernel_rfl) (congrArg some (show vs 3 = _ from hV3 rfl))) (by go_simp) ?_
          have eV4 : vs 4 = .agg #[.slice A sha.length c, .slice A' ea.length c'] := hV4 rfl
          rw [eV4]
          exact (may_u (HA.at G) FA HR).mono fun _ _ ⟨v, h1, h2, h3⟩ => ⟨v, h1, h2, h3.now⟩
        · rintro vs u ⟨hV0, hV1, hV2, hV3, hV4, hV5, hV6, hV7, hV8, hV9, hV10, hV11, hV12, hV13, -⟩ G
          have eV5 : vs 5 = .int .i64 r := hV5 rfl
          exact stepAt.pure (v := .bool false) rfl (wanted_by (g := 3) (b := false) (t := 13) rfl (by kernel_rfl) (congrArg some (show vs 3 = _ from hV3 rfl))) (by simp only [eV5]; go_simp <;> omega) rfl
        · rintro vs u ⟨hV0, hV1, hV2, hV3, hV4, hV5, hV6, hV7, hV8, hV9, hV10, hV11, hV12, hV13, -⟩ G
          have eV6 : vs 6 = .bool false := hV6 rfl
          exact stepAt.pure (v := .bool false) rfl (wanted_by (g := 3) (b := false) (t := 13) rfl (by kernel_rfl) (congrArg some (show vs 3 = _ from hV3 rfl))) (by simp only [eV6]; go_simp) rfl
        · rintro vs u ⟨hV0, hV1, hV2, hV3, hV4, hV5, hV6, hV7, hV8, hV9, hV10, hV11, hV12, hV13, -⟩ G
          exact stepAt.unwanted rfl (wanted_not (g := 7) (b := true) (t := 17) rfl (by kernel_rfl) (congrArg some (show vs 7 = _ from hV7 rfl))) rfl
        · rintro vs u ⟨hV0, hV1, hV2, hV3, hV4, hV5, hV6, hV7, hV8, hV9, hV10, hV11, hV12, hV13, -⟩ G
          exact stepAt.unwanted rfl (wanted_not (g := 7) (b := true) (t := 17) rfl (by kernel_rfl) (congrArg some (show vs 7 = _ from hV7 rfl))) rfl
        · rintro vs u ⟨hV0, hV1, hV2, hV3, hV4, hV5, hV6, hV7, hV8, hV9, hV10, hV11, hV12, hV13, -⟩ G
          exact stepAt.unwanted rfl (wanted_not (g := 7) (b := true) (t := 17) rfl (by kernel_rfl) (congrArg some (show vs 7 = _ from hV7 rfl))) rfl
        · rintro vs u ⟨hV0, hV1, hV2, hV3, hV4, hV5, hV6, hV7, hV8, hV9, hV10, hV11, hV12, hV13, -⟩ G
          exact stepAt.unwanted rfl (wanted_not (g := 7) (b := true) (t := 17) rfl (by kernel_rfl) (congrArg some (show vs 7 = _ from hV7 rfl))) rfl
        · rintro vs u ⟨hV0, hV1, hV2, hV3, hV4, hV5, hV6, hV7, hV8, hV9, hV10, hV11, hV12, hV13, -⟩ G
          have eV7 : vs 7 = .bool false := hV7 rfl
          have eV11 : vs 11 = undef := hV11 rfl
          exact stepAt.pure (v := .bool false) rfl (wanted_by (g := 3) (b := false) (t := 13) rfl (by kernel_rfl) (congrArg some (show vs 3 = _ from hV3 rfl))) (by simp only [eV7, eV11]; go_simp) rfl
        · rintro vs u ⟨hV0, hV1, hV2, hV3, hV4, hV5, hV6, hV7, hV8, hV9, hV10, hV11, hV12, hV13, -⟩ G
          have eV3 : vs 3 = .bool false := hV3 rfl
          have eV12 : vs 12 = .bool false := hV12 rfl
          exact stepAt.pure (v := .bool false) rfl rfl (by simp only [eV3, eV12]; go_simp) rfl
      case looses12 =>
        exact trivial
      rintro vs U1 ⟨hV0, hV1, hV2, hV3, hV4, hV5, hV6, hV7, hV8, hV9, hV10, hV11, hV12, hV13, -⟩ G
      have eV0 : vs 0 = .agg #[.slice A sha.length c, .slice A' ea.length c'] := hV0
      have eV1 : vs 1 = .bool true := hV1
      have eV2 : vs 2 = .bool false := hV2
      have eV3 : vs 3 = .bool false := hV3
      have eV4 : vs 4 = .agg #[.slice A sha.length c, .slice A' ea.length c'] := hV4
      have eV5 : vs 5 = .int .i64 r := hV5
      have eV6 : vs 6 = .bool false := hV6
      have eV7 : vs 7 = .bool false := hV7
      have eV8 : vs 8 = undef := hV8
      have eV9 : vs 9 = undef := hV9
      have eV10 : vs 10 = undef := hV10
      have eV11 : vs 11 = undef := hV11
      have eV12 : vs 12 = .bool false := hV12
      have eV13 : vs 13 = .bool false := hV13
      simp only [eV0, eV1, eV2, eV3, eV4, eV5, eV6, eV7, eV8, eV9, eV10, eV11, eV12, eV13]
      clear eV0 eV1 eV2 eV3 eV4 eV5 eV6 eV7 eV8 eV9 eV10 eV11 eV12 eV13 hV0 hV1 hV2 hV3 hV4 hV5 hV6 hV7 hV8 hV9 hV10 hV11 hV12 hV13
      refine wpTill.done (by kernel_rfl) ?_
      replace xa := xa.keep G
      replace HA := HA.keep G
      replace F := fr_then F G
      clear G
      repeat' ((fail_if_success (with_reducible refine wpTill.row (fun _ => True) 0 ?_ ?_)); go_step)
      refine wpTill.row (fun _ => True) 7 (by kernel_rfl) ?_
      change wpTill _ _ _ _ _ _ 9 _ _ _
      refine wpTill.free (jj := 7) (m := 2) [(0, Fact.eq (.agg #[.slice A sha.length c, .slice A' ea.length c'])),
      (1, Fact.eq (.int .i64 n)),
      (2, Fact.held (Tup (r) (TC r sha (ea.map fun x => canR (qOf x ^ n.toNat))))),
      (3, Fact.same 2),
      (4, Fact.fst 3),
      (6, Fact.mem (New2 U1.heap.size 26 (.slice none 0 0) (.slice none 0 0)) New2.keep)] [(5, Fact.snd 3)] [0, 0, 3, 7, 15, 15, 0, 95, 255] [] ?_ (by kernel_rfl) (by kernel_rfl) (by kernel_rfl) [(0, some 26), (1, some 27), (2, some 28), (3, some 25), (4, some 29), (6, some 5), (5, some 30)] (by kernel_rfl) ?hA13 ?hQ13 (fun _ _ => trivial) (by kernel_rfl) ?steps13 ?looses13 ?cont13
      case hQ13 => exact fun _ _ _ _ _ h => h
      case hA13 =>
        intro vs
        simp only [fillD, List.foldl_cons, List.foldl_nil, Act.put, List.setIfInBounds_toArray, List.set_cons_zero, List.set_cons_succ]
        exact rfl
      case steps13 =>
        refine ⟨?_, ?_, ?_, ?_, ?_, ?_, trivial⟩
        · rintro vs u ⟨hV0, hV1, hV2, hV3, hV4, hV6, hV5, -⟩ G
          have o0 := (xa.keep G).c0
          have o1 := (xa.keep G).c1
          exact stepAt.pure (v := .agg #[.slice A sha.length c, .slice A' ea.length c']) rfl rfl (by go_simp) rfl
        · rintro vs u ⟨hV0, hV1, hV2, hV3, hV4, hV6, hV5, -⟩ G
          exact stepAt.pure (v := .int .i64 n) rfl rfl (by go_simp) rfl
        · rintro vs u ⟨hV0, hV1, hV2, hV3, hV4, hV6, hV5, -⟩ G
          refine stepAt.call (f := 16) (args := #[vs 0, vs 1]) rfl rfl (by go_simp) ?_
          have eV0 : vs 0 = .agg #[.slice A sha.length c, .slice A' ea.length c'] := hV0 rfl
          have eV1 : vs 1 = .int .i64 n := hV1 rfl
          rw [eV0, eV1]
          exact pow_u (HA.at G) FA HP HN
        · rintro vs u ⟨hV0, hV1, hV2, hV3, hV4, hV6, hV5, -⟩ G
          exact stepAt.pure (v := vs 2) rfl rfl (by go_simp) rfl
        · rintro vs u ⟨hV0, hV1, hV2, hV3, hV4, hV6, hV5, -⟩ G
          have HV2 : Hold (fun u' => (Tup (r) (TC r sha (ea.map fun x => canR (qOf x ^ n.toNat)))) u' (vs 2)) u := hV2 rfl
          obtain ⟨A2_2, n2_2, c2_2, B2_2, m2_2, k2_2, eV2, -⟩ := HV2.now
          rw [eV2] at HV2
          have eV3 : vs 3 = .tuple #[.agg #[.slice A2_2 n2_2 c2_2, .slice B2_2 m2_2 k2_2], .int .i64 r] := (show vs 3 = vs 2 from hV3 rfl).trans eV2
          exact stepAt.pure (v := .agg #[.slice A2_2 n2_2 c2_2, .slice B2_2 m2_2 k2_2]) rfl rfl (by simp only [eV3]; go_simp) ⟨_, _, eV3, rfl⟩
        · rintro vs u ⟨hV0, hV1, hV2, hV3, hV4, hV6, hV5, -⟩ G
          exact stepAt.value (v := .pointer (some ⟨u.heap.size, 0, none⟩)) (u := u.alloc (.cells #[.slice none 0 0, .slice none 0 0] 26)) rfl rfl (by go_simp) ((Fr.refl _ _).alloc _) ⟨_, rfl, G.size, Box2.new _ _ _ _⟩
      case looses13 =>
        refine ⟨?_, trivial⟩
        · rintro vs u ⟨hV0, hV1, hV2, hV3, hV4, hV6, hV5, -⟩ G
          have HV2 : Hold (fun u' => (Tup (r) (TC r sha (ea.map fun x => canR (qOf x ^ n.toNat)))) u' (vs 2)) u := hV2 rfl
          obtain ⟨A2_2, n2_2, c2_2, B2_2, m2_2, k2_2, eV2, -⟩ := HV2.now
          rw [eV2] at HV2
          have eV3 : vs 3 = .tuple #[.agg #[.slice A2_2 n2_2 c2_2, .slice B2_2 m2_2 k2_2], .int .i64 r] := (show vs 3 = vs 2 from hV3 rfl).trans eV2
          exact pureAt.of (v := .int .i64 r) rfl rfl (fun _ => by simp only [eV3]; go_simp) ⟨_, _, eV3, rfl⟩
      rintro vs u ⟨hV0, hV1, hV2, hV3, hV4, hV6, hV5, -⟩ G
      have eV0 : vs 0 = .agg #[.slice A sha.length c, .slice A' ea.length c'] := hV0
      have eV1 : vs 1 = .int .i64 n := hV1
      replace hV2 : Hold (fun u' => (Tup (r) (TC r sha (ea.map fun x => canR (qOf x ^ n.toNat)))) u' (vs 2)) u := hV2
      obtain ⟨A2_2, n2_2, c2_2, B2_2, m2_2, k2_2, eV2, -⟩ := hV2.now
      rw [eV2] at hV2
      have eV3 : vs 3 = _ := (show vs 3 = vs 2 from hV3).trans eV2
      obtain ⟨x4, z4, a4, eV4⟩ := hV4
      have a4 := eV3.symm.trans a4
      cases a4
      replace eV4 : vs 4 = _ := eV4
      obtain ⟨b2_6, eV6, l2_6, y2_6⟩ := hV6
      replace eV6 : vs 6 = _ := eV6
      obtain ⟨x5, z5, a5, eV5⟩ := hV5
      have a5 := eV3.symm.trans a5
      cases a5
      replace eV5 : vs 5 = _ := eV5
      simp only [eV0, eV1, eV2, eV3, eV4, eV6, eV5]
      clear eV0 eV1 eV2 eV3 eV4 eV6 eV5 hV0 hV1 hV3
      have g0 := y2_6.free 0
      have g1 := y2_6.free 1
      have g2 := y2_6.c0
      have g3 := y2_6.c1
      refine wpTill.next 7 rfl (by kernel_rfl) (by rfl) (fun K hK => ?_)
      go_simp
      refine hK _ _ (no_wait (by kernel_rfl)) ?_
      clear hK K
      refine wpTill.next 8 rfl (by kernel_rfl) (by rfl) (fun K hK => ?_)
      go_simp
      refine hK _ _ (no_wait (by kernel_rfl)) ?_
      clear hK K
      refine wpTill.done (by kernel_rfl) ?_
      have F9 := fr_put2 u b2_6 (.slice A2_2 n2_2 c2_2) (.slice B2_2 m2_2 k2_2)
      have G9 := G.comp F9 (R := fun k => k < U1.heap.size) fun k _ hk => ⟨hk, by omega⟩
      have z2 := y2_6.set2 (.slice A2_2 n2_2 c2_2) (.slice B2_2 m2_2 k2_2)
      have T2 := (hV2.now.out.fill (.slice A2_2 n2_2 c2_2) (.slice B2_2 m2_2 k2_2) y2_6).hold
      replace xa := xa.keep G9
      replace HA := HA.keep G9
      replace F := fr_then F G9
      generalize (u.setCell ⟨b2_6, 0, none⟩ (.slice A2_2 n2_2 c2_2)).setCell ⟨b2_6, 1, none⟩ (.slice B2_2 m2_2 k2_2) = U2 at z2 T2 xa HA F ⊢
      clear g0 g1 g2 g3 F9 G9 G y2_6 l2_6 hV2
      repeat' ((fail_if_success (with_reducible refine wpTill.row (fun _ => True) 0 ?_ ?_)); go_step)
      refine wpTill.row (fun _ => True) 2 (by kernel_rfl) ?_
      change wpTill _ _ _ _ _ _ 3 _ _ _
      refine wpTill.free (jj := 2) (m := 1) [(0, Fact.eq (.agg #[.slice A sha.length c, .slice A' ea.length c'])),
      (1, Fact.eq (.int .i64 r))] [] [0, 1, 3] [] ?_ (by kernel_rfl) (by kernel_rfl) (by kernel_rfl) [(0, some 31), (1, some 32)] (by kernel_rfl) ?hA14 ?hQ14 (fun _ _ => trivial) (by kernel_rfl) ?steps14 ?looses14 ?cont14
      case hQ14 => exact fun _ _ _ _ _ h => h
      case hA14 =>
        intro vs
        simp only [fillD, List.foldl_cons, List.foldl_nil, Act.put, List.setIfInBounds_toArray, List.set_cons_zero, List.set_cons_succ]
        exact rfl
      case steps14 =>
        refine ⟨?_, ?_, trivial⟩
        · rintro vs u ⟨hV0, hV1, -⟩ G
          have o0 := (xa.keep G).c0
          have o1 := (xa.keep G).c1
          exact stepAt.pure (v := .agg #[.slice A sha.length c, .slice A' ea.length c']) rfl rfl (by go_simp) rfl
        · rintro vs u ⟨hV0, hV1, -⟩ G
          refine stepAt.call (f := 12) (args := #[vs 0]) rfl rfl (by go_simp) ?_
          have eV0 : vs 0 = .agg #[.slice A sha.length c, .slice A' ea.length c'] := hV0 rfl
          rw [eV0]
          exact (may_u (HA.at G) FA HR).mono fun _ _ ⟨v, h1, h2, h3⟩ => ⟨v, h1, h2, h3.now⟩
      case looses14 =>
        exact trivial
      rintro vs U3 ⟨hV0, hV1, -⟩ G
      have eV0 : vs 0 = .agg #[.slice A sha.length c, .slice A' ea.length c'] := hV0
      have eV1 : vs 1 = .int .i64 r := hV1
      simp only [eV0, eV1]
      clear eV0 eV1 hV0 hV1
      refine wpTill.next 2 rfl (by kernel_rfl) (by rfl) (fun K hK => ?_)
      go_simp
      refine hK _ _ (no_wait (by kernel_rfl)) ?_
      clear hK K
      refine wpTill.done (by kernel_rfl) ?_
      replace xa := xa.keep G
      replace z2 := z2.keep G
      replace HA := HA.keep G
      replace T2 := T2.keep G
      replace F := fr_then F G
      clear G
      repeat' ((fail_if_success (with_reducible refine wpTill.row (fun _ => True) 0 ?_ ?_)); go_step)
      refine wpTill.row (fun _ => True) 1 (by kernel_rfl) ?_
      change wpTill _ _ _ _ _ _ 2 _ _ _
      refine wpTill.free (jj := 1) (m := 0) [(0, Fact.eq (.int .i64 r)),
      (1, Fact.eq (.bool true))] [] [0, 1] [] ?_ (by kernel_rfl) (by kernel_rfl) (by kernel_rfl) [(0, some 33), (1, some 34)] (by kernel_rfl) ?hA15 ?hQ15 (fun _ _ => trivial) (by kernel_rfl) ?steps15 ?looses15 ?cont15
      case hQ15 => exact fun _ _ _ _ _ h => h
      case hA15 =>
        intro vs
        simp only [fillD, List.foldl_cons, List.foldl_nil, Act.put, List.setIfInBounds_toArray, List.set_cons_zero, List.set_cons_succ]
        exact rfl
      case steps15 =>
        refine ⟨?_, ?_, trivial⟩
        · rintro vs u ⟨hV0, hV1, -⟩ G
          exact stepAt.pure (v := .int .i64 r) rfl rfl (by go_simp) rfl
        · rintro vs u ⟨hV0, hV1, -⟩ G
          have eV0 : vs 0 = .int .i64 r := hV0 rfl
          exact stepAt.pure (v := .bool true) rfl rfl (by simp only [eV0]; go_simp <;> omega) rfl
      case looses15 =>
        exact trivial
      rintro vs U4 ⟨hV0, hV1, -⟩ G
      have eV0 : vs 0 = .int .i64 r := hV0
      have eV1 : vs 1 = .bool true := hV1
      simp only [eV0, eV1]
      clear eV0 eV1 hV0 hV1
      refine wpTill.done (by kernel_rfl) ?_
      replace xa := xa.keep G
      replace z2 := z2.keep G
      replace HA := HA.keep G
      replace T2 := T2.keep G
      replace F := fr_then F G
      clear G
      repeat' ((fail_if_success (with_reducible refine wpTill.row (fun _ => True) 0 ?_ ?_)); go_step)
      refine wpTill.row (fun _ => True) 8 (by kernel_rfl) ?_
      change wpTill _ _ _ _ _ _ 9 _ _ _
      refine wpTill.free (jj := 8) (m := 1) [(0, Fact.eq (.agg #[.slice A2_2 n2_2 c2_2, .slice B2_2 m2_2 k2_2])),
      (1, Fact.eq (.int .i64 r)),
      (2, Fact.eq (.agg #[.slice none 0 0, .slice none 0 0])),
      (3, Fact.eq (.int .i64 r)),
      (4, Fact.eq (.bool true)),
      (5, Fact.eq (.bool true)),
      (6, Fact.eq (.bool true)),
      (7, Fact.eq (.bool true))] [] [0, 0, 0, 0, 15, 31, 63, 127, 255] [] ?_ (by kernel_rfl) (by kernel_rfl) (by kernel_rfl) [(0, some 35), (1, some 36), (2, some 37), (3, some 38), (4, some 39), (5, some 40), (6, some 41), (7, some 42)] (by kernel_rfl) ?hA16 ?hQ16 (fun _ _ => trivial) (by kernel_rfl) ?steps16 ?looses16 ?cont16
      case hQ16 => exact fun _ _ _ _ _ h => h
      case hA16 =>
        intro vs
        simp only [fillD, List.foldl_cons, List.foldl_nil, Act.put, List.setIfInBounds_toArray, List.set_cons_zero, List.set_cons_succ]
        exact rfl
      case steps16 =>
        refine ⟨?_, ?_, ?_, ?_, ?_, ?_, ?_, ?_, trivial⟩
        · rintro vs u ⟨hV0, hV1, hV2, hV3, hV4, hV5, hV6, hV7, -⟩ G
          have o0 := (z2.keep G).c0
          have o1 := (z2.keep G).c1
          exact stepAt.pure (v := .agg #[.slice A2_2 n2_2 c2_2, .slice B2_2 m2_2 k2_2]) rfl rfl (by go_simp) rfl
        · rintro vs u ⟨hV0, hV1, hV2, hV3, hV4, hV5, hV6, hV7, -⟩ G
          exact stepAt.pure (v := .int .i64 r) rfl rfl (by go_simp) rfl
        · rintro vs u ⟨hV0, hV1, hV2, hV3, hV4, hV5, hV6, hV7, -⟩ G
          exact stepAt.pure (v := .agg #[.slice none 0 0, .slice none 0 0]) rfl rfl (by go_simp) rfl
        · rintro vs u ⟨hV0, hV1, hV2, hV3, hV4, hV5, hV6, hV7, -⟩ G
          exact stepAt.pure (v := .int .i64 r) rfl rfl (by go_simp) rfl
        · rintro vs u ⟨hV0, hV1, hV2, hV3, hV4, hV5, hV6, hV7, -⟩ G
          refine stepAt.call (f := 17) (args := #[vs 0, vs 1, vs 2, vs 3]) rfl rfl (by go_simp) ?_
          have eV0 : vs 0 = .agg #[.slice A2_2 n2_2 c2_2, .slice B2_2 m2_2 k2_2] := hV0 rfl
          have eV1 : vs 1 = .int .i64 r := hV1 rfl
          have eV2 : vs 2 = .agg #[.slice none 0 0, .slice none 0 0] := hV2 rfl
          have eV3 : vs 3 = .int .i64 r := hV3 rfl
          rw [eV0, eV1, eV2, eV3]
          exact (told_u (shb := sha) (qb := []) (K := 0) (T2.at G) (fun h => absurd h h0) ⟨⟨_, _, _, rfl⟩, ⟨_, _, _, rfl⟩⟩ (Lib.hid fun h => absurd h h0) (by decide)).mono fun _ _ ⟨v, h1, h2, h3⟩ => ⟨v, h1, h2, h3.now⟩
        · rintro vs u ⟨hV0, hV1, hV2, hV3, hV4, hV5, hV6, hV7, -⟩ G
          have eV4 : vs 4 = .bool true := hV4 rfl
          exact stepAt.pure (v := .bool true) rfl rfl (by simp only [eV4]; go_simp) rfl
        · rintro vs u ⟨hV0, hV1, hV2, hV3, hV4, hV5, hV6, hV7, -⟩ G
          refine stepAt.call (f := 15) (args := #[]) rfl (wanted_by (g := 5) (b := true) (t := 40) rfl (by kernel_rfl) (congrArg some (show vs 5 = _ from hV5 rfl))) (by go_simp) ?_
          exact (known_u u).mono fun _ _ ⟨v, h1, h2, h3⟩ => ⟨v, h1, h2, h3.now⟩
        · rintro vs u ⟨hV0, hV1, hV2, hV3, hV4, hV5, hV6, hV7, -⟩ G
          have eV5 : vs 5 = .bool true := hV5 rfl
          have eV6 : vs 6 = .bool true := hV6 rfl
          exact stepAt.pure (v := .bool true) rfl rfl (by simp only [eV5, eV6]; go_simp) rfl
      case looses16 =>
        exact trivial
      rintro vs U5 ⟨hV0, hV1, hV2, hV3, hV4, hV5, hV6, hV7, -⟩ G
      have eV0 : vs 0 = .agg #[.slice A2_2 n2_2 c2_2, .slice B2_2 m2_2 k2_2] := hV0
      have eV1 : vs 1 = .int .i64 r := hV1
      have eV2 : vs 2 = .agg #[.slice none 0 0, .slice none 0 0] := hV2
      have eV3 : vs 3 = .int .i64 r := hV3
      have eV4 : vs 4 = .bool true := hV4
      have eV5 : vs 5 = .bool true := hV5
      have eV6 : vs 6 = .bool true := hV6
      have eV7 : vs 7 = .bool true := hV7
      simp only [eV0, eV1, eV2, eV3, eV4, eV5, eV6, eV7]
      clear eV0 eV1 eV2 eV3 eV4 eV5 eV6 eV7 hV0 hV1 hV2 hV3 hV4 hV5 hV6 hV7
      refine wpTill.next 8 rfl (by kernel_rfl) (by rfl) (fun K hK => ?_)
      go_simp
      refine hK _ _ (no_wait (by kernel_rfl)) ?_
      clear hK K
      refine wpTill.done (by kernel_rfl) ?_
      replace xa := xa.keep G
      replace z2 := z2.keep G
      replace HA := HA.keep G
      replace T2 := T2.keep G
      replace F := fr_then F G
      clear G
      repeat' ((fail_if_success (with_reducible refine wpTill.row (fun _ => True) 0 ?_ ?_)); go_step)
      go_ret
      exact ⟨rfl, F⟩
end Go.Proofs.YtlknmoegngjpcaaGreat

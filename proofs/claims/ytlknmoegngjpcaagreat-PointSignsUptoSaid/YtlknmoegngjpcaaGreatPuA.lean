import Derived.Test.YtlknmoegngjpcaaGreatPtZ
set_option linter.unusedSimpArgs false
set_option linter.unusedVariables false

/- PointSigns: printed by gen_pta.py. -/
namespace Go.Proofs.YtlknmoegngjpcaaGreat
open Go.RowKit

set_option maxRecDepth 20000 in
set_option maxHeartbeats 32000000 in
theorem psigns_walk {S : Nat → Prop} {sha : List Int} {ea : List RatL} (w : World) (vx : Value) (L : Nat) (hx : TL S w vx sha ea L) (hL : L ≤ 1048576) :
    Calls Tryz.prog 4 #[vx] w fun e w' => e = .returned (.bool true) ∧ Fr (fun k => k < w.heap.size) w w' := by
  have FA := Lib.hid (hx.fit hL)
  have FQA := Lib.hid (FA.out.fq)
  obtain ⟨va, ve, rfl, ha, he⟩ := hx.ex
  obtain ⟨A, c, rfl, _, _, _⟩ := ha.slice
  obtain ⟨A', c', rfl, _, _, _⟩ := he.slice
  have HA := TV.hold ⟨ha.any, he.any⟩
  clear hx ha he
  have F := (Fr.refl (fun k => k < w.heap.size) w).alloc (.cells #[.slice A sha.length c, .slice A' ea.length c'] 26)
  have xa := Box2.new w 26 (.slice A sha.length c) (.slice A' ea.length c')
  replace HA := HA.keep (F.mono fun k h _ => h)
  obtain ⟨b1, hb1⟩ : ∃ b, fewB ea = b := ⟨_, rfl⟩
  obtain ⟨r, hr⟩ : ∃ r, mayT sha ea = r := ⟨_, rfl⟩
  have HB1 := Lib.hid hb1
  have HR := Lib.hid hr
  have HS0 := Lib.hid (show r = 0 → sha = sha ∧ (ea.map fun x => canR (-(qOf x))) = ((ea.map qOf).map (fun q => -q)).map canR from fun _ => ⟨rfl, by rw [List.map_map, List.map_map]; rfl⟩)
  have HS1 := Lib.hid (show r = 0 → sha = sha ∧ (ea.map fun x => canR (if (qOf x).num.sign < 0 then 0 else qOf x)) = ((ea.map qOf).map (fun q => (if q.num.sign < 0 then 0 else q : Rat))).map canR from fun _ => ⟨rfl, by rw [List.map_map, List.map_map]; rfl⟩)
  have HS2 := Lib.hid (show r = 0 → sha = sha ∧ (ea.map fun x => canR ((max (qOf x).num.sign 0 : Int) : Rat)) = ((ea.map qOf).map (fun q => (((max q.num.sign 0 : Int) : Rat) : Rat))).map canR from fun _ => ⟨rfl, by rw [List.map_map, List.map_map]; rfl⟩)
  clear hb1 hr
  go_enter Tryz.func4, Tryz.ntmps4
  repeat' ((fail_if_success (with_reducible refine wpTill.row (fun _ => True) 0 ?_ ?_)); go_step)
  apply wp_region_lit
  repeat' ((fail_if_success (with_reducible refine wpTill.row (fun _ => True) 0 ?_ ?_)); go_step)
  generalize w.alloc (.cells #[.slice A sha.length c, .slice A' ea.length c'] 26) = W0 at F xa HA  ⊢
  cases b1
  · refine wpTill.row (fun _ => True) 2 (by kernel_rfl) ?_
    change wpTill _ _ _ _ _ _ 3 _ _ _
    refine wpTill.free (jj := 2) (m := 0) [(0, Fact.eq (.agg #[.slice A sha.length c, .slice A' ea.length c'])),
      (1, Fact.eq (.bool false)),
      (2, Fact.eq (.bool true))] [] [0, 1, 3] [] ?_ (by kernel_rfl) (by kernel_rfl) (by kernel_rfl) [(0, some 11), (1, some 12), (2, some 13)] (by kernel_rfl) ?hA1 ?hQ1 (fun _ _ => trivial) (by kernel_rfl) ?steps1 ?looses1 ?cont1
    case hQ1 => exact fun _ _ _ _ _ h => h
    case hA1 =>
      intro vs
      simp only [fillD, List.foldl_cons, List.foldl_nil, Act.put, List.setIfInBounds_toArray, List.set_cons_zero, List.set_cons_succ]
      exact rfl
    case steps1 =>
      refine ⟨?_, ?_, ?_, trivial⟩
      · rintro vs u ⟨hV0, hV1, hV2, -⟩ G
        have o0 := (xa.keep G).c0
        have o1 := (xa.keep G).c1
        exact stepAt.pure (v := .agg #[.slice A sha.length c, .slice A' ea.length c']) rfl rfl (by go_simp) rfl
      · rintro vs u ⟨hV0, hV1, hV2, -⟩ G
        refine stepAt.call (f := 11) (args := #[vs 0]) rfl rfl (by go_simp) ?_
        have eV0 : vs 0 = .agg #[.slice A sha.length c, .slice A' ea.length c'] := hV0 rfl
        rw [eV0]
        exact (few_u (HA.at G) HB1).mono fun _ _ ⟨v, h1, h2, h3⟩ => ⟨v, h1, h2, h3.now⟩
      · rintro vs u ⟨hV0, hV1, hV2, -⟩ G
        have eV1 : vs 1 = .bool false := hV1 rfl
        exact stepAt.pure (v := .bool true) rfl rfl (by simp only [eV1]; go_simp) rfl
    case looses1 =>
      exact trivial
    rintro vs U1 ⟨hV0, hV1, hV2, -⟩ G
    have eV0 : vs 0 = .agg #[.slice A sha.length c, .slice A' ea.length c'] := hV0
    have eV1 : vs 1 = .bool false := hV1
    have eV2 : vs 2 = .bool true := hV2
    simp only [eV0, eV1, eV2]
    clear eV0 eV1 eV2 hV0 hV1 hV2
    refine wpTill.done (by kernel_rfl) ?_
    replace xa := xa.keep G
    replace HA := HA.keep G
    replace F := fr_then F G
    clear G
    repeat' ((fail_if_success (with_reducible refine wpTill.row (fun _ => True) 0 ?_ ?_)); go_step)
    refine wpTill.row (fun _ => True) 1 (by kernel_rfl) ?_
    change wpTill _ _ _ _ _ _ 2 _ _ _
    refine wpTill.free (jj := 1) (m := 1) [(0, Fact.eq (.bool true))] [] [0, 1] [] ?_ (by kernel_rfl) (by kernel_rfl) (by kernel_rfl) [(0, some 14)] (by kernel_rfl) ?hA2 ?hQ2 (fun _ _ => trivial) (by kernel_rfl) ?steps2 ?looses2 ?cont2
    case hQ2 => exact fun _ _ _ _ _ h => h
    case hA2 =>
      intro vs
      simp only [fillD, List.foldl_cons, List.foldl_nil, Act.put, List.setIfInBounds_toArray, List.set_cons_zero, List.set_cons_succ]
      exact rfl
    case steps2 =>
      refine ⟨?_, trivial⟩
      · rintro vs u ⟨hV0, -⟩ G
        refine stepAt.call (f := 15) (args := #[]) rfl rfl (by go_simp) ?_
        exact (known_u u).mono fun _ _ ⟨v, h1, h2, h3⟩ => ⟨v, h1, h2, h3.now⟩
    case looses2 =>
      exact trivial
    rintro vs U2 ⟨hV0, -⟩ G
    have eV0 : vs 0 = .bool true := hV0
    simp only [eV0]
    clear eV0 hV0
    refine wpTill.next 1 rfl (by kernel_rfl) (by rfl) (fun K hK => ?_)
    go_simp
    refine hK _ _ (no_wait (by kernel_rfl)) ?_
    clear hK K
    refine wpTill.done (by kernel_rfl) ?_
    replace xa := xa.keep G
    replace HA := HA.keep G
    replace F := fr_then F G
    clear G
    repeat' ((fail_if_success (with_reducible refine wpTill.row (fun _ => True) 0 ?_ ?_)); go_step)
    go_ret
    exact ⟨rfl, F⟩
  · refine wpTill.row (fun _ => True) 2 (by kernel_rfl) ?_
    change wpTill _ _ _ _ _ _ 3 _ _ _
    refine wpTill.free (jj := 2) (m := 0) [(0, Fact.eq (.agg #[.slice A sha.length c, .slice A' ea.length c'])),
      (1, Fact.eq (.bool true)),
      (2, Fact.eq (.bool false))] [] [0, 1, 3] [] ?_ (by kernel_rfl) (by kernel_rfl) (by kernel_rfl) [(0, some 11), (1, some 12), (2, some 13)] (by kernel_rfl) ?hA3 ?hQ3 (fun _ _ => trivial) (by kernel_rfl) ?steps3 ?looses3 ?cont3
    case hQ3 => exact fun _ _ _ _ _ h => h
    case hA3 =>
      intro vs
      simp only [fillD, List.foldl_cons, List.foldl_nil, Act.put, List.setIfInBounds_toArray, List.set_cons_zero, List.set_cons_succ]
      exact rfl
    case steps3 =>
      refine ⟨?_, ?_, ?_, trivial⟩
      · rintro vs u ⟨hV0, hV1, hV2, -⟩ G
        have o0 := (xa.keep G).c0
        have o1 := (xa.keep G).c1
        exact stepAt.pure (v := .agg #[.slice A sha.length c, .slice A' ea.length c']) rfl rfl (by go_simp) rfl
      · rintro vs u ⟨hV0, hV1, hV2, -⟩ G
        refine stepAt.call (f := 11) (args := #[vs 0]) rfl rfl (by go_simp) ?_
        have eV0 : vs 0 = .agg #[.slice A sha.length c, .slice A' ea.length c'] := hV0 rfl
        rw [eV0]
        exact (few_u (HA.at G) HB1).mono fun _ _ ⟨v, h1, h2, h3⟩ => ⟨v, h1, h2, h3.now⟩
      · rintro vs u ⟨hV0, hV1, hV2, -⟩ G
        have eV1 : vs 1 = .bool true := hV1 rfl
        exact stepAt.pure (v := .bool false) rfl rfl (by simp only [eV1]; go_simp) rfl
    case looses3 =>
      exact trivial
    rintro vs U1 ⟨hV0, hV1, hV2, -⟩ G
    have eV0 : vs 0 = .agg #[.slice A sha.length c, .slice A' ea.length c'] := hV0
    have eV1 : vs 1 = .bool true := hV1
    have eV2 : vs 2 = .bool false := hV2
    simp only [eV0, eV1, eV2]
    clear eV0 eV1 eV2 hV0 hV1 hV2
    refine wpTill.done (by kernel_rfl) ?_
    replace xa := xa.keep G
    replace HA := HA.keep G
    replace F := fr_then F G
    clear G
    repeat' ((fail_if_success (with_reducible refine wpTill.row (fun _ => True) 0 ?_ ?_)); go_step)
    refine wpTill.row (fun _ => True) 6 (by kernel_rfl) ?_
    change wpTill _ _ _ _ _ _ 8 _ _ _
    refine wpTill.free (jj := 6) (m := 2) [(0, Fact.eq (.agg #[.slice A sha.length c, .slice A' ea.length c'])),
      (1, Fact.held (Tup (r) (TC r sha (ea.map fun x => canR (-(qOf x)))))),
      (2, Fact.same 1),
      (3, Fact.fst 2),
      (5, Fact.mem (New2 U1.heap.size 26 (.slice none 0 0) (.slice none 0 0)) New2.keep)] [(4, Fact.snd 2)] [0, 1, 3, 7, 7, 0, 47, 127] [] ?_ (by kernel_rfl) (by kernel_rfl) (by kernel_rfl) [(0, some 16), (1, some 17), (2, some 15), (3, some 18), (5, some 3), (4, some 19)] (by kernel_rfl) ?hA4 ?hQ4 (fun _ _ => trivial) (by kernel_rfl) ?steps4 ?looses4 ?cont4
    case hQ4 => exact fun _ _ _ _ _ h => h
    case hA4 =>
      intro vs
      simp only [fillD, List.foldl_cons, List.foldl_nil, Act.put, List.setIfInBounds_toArray, List.set_cons_zero, List.set_cons_succ]
      exact rfl
    case steps4 =>
      refine ⟨?_, ?_, ?_, ?_, ?_, trivial⟩
      · rintro vs u ⟨hV0, hV1, hV2, hV3, hV5, hV4, -⟩ G
        have o0 := (xa.keep G).c0
        have o1 := (xa.keep G).c1
        exact stepAt.pure (v := .agg #[.slice A sha.length c, .slice A' ea.length c']) rfl rfl (by go_simp) rfl
      · rintro vs u ⟨hV0, hV1, hV2, hV3, hV5, hV4, -⟩ G
        refine stepAt.call (f := 19) (args := #[vs 0]) rfl rfl (by go_simp) ?_
        have eV0 : vs 0 = .agg #[.slice A sha.length c, .slice A' ea.length c'] := hV0 rfl
        rw [eV0]
        exact neg_u (HA.at G) FA HR
      · rintro vs u ⟨hV0, hV1, hV2, hV3, hV5, hV4, -⟩ G
        exact stepAt.pure (v := vs 1) rfl rfl (by go_simp) rfl
      · rintro vs u ⟨hV0, hV1, hV2, hV3, hV5, hV4, -⟩ G
        have HV1 : Hold (fun u' => (Tup (r) (TC r sha (ea.map fun x => canR (-(qOf x))))) u' (vs 1)) u := hV1 rfl
        obtain ⟨A2_1, n2_1, c2_1, B2_1, m2_1, k2_1, eV1, -⟩ := HV1.now
        rw [eV1] at HV1
        have eV2 : vs 2 = .tuple #[.agg #[.slice A2_1 n2_1 c2_1, .slice B2_1 m2_1 k2_1], .int .i64 r] := (show vs 2 = vs 1 from hV2 rfl).trans eV1
        exact stepAt.pure (v := .agg #[.slice A2_1 n2_1 c2_1, .slice B2_1 m2_1 k2_1]) rfl rfl (by simp only [eV2]; go_simp) ⟨_, _, eV2, rfl⟩
      · rintro vs u ⟨hV0, hV1, hV2, hV3, hV5, hV4, -⟩ G
        exact stepAt.value (v := .pointer (some ⟨u.heap.size, 0, none⟩)) (u := u.alloc (.cells #[.slice none 0 0, .slice none 0 0] 26)) rfl rfl (by go_simp) ((Fr.refl _ _).alloc _) ⟨_, rfl, G.size, Box2.new _ _ _ _⟩
    case looses4 =>
      refine ⟨?_, trivial⟩
      · rintro vs u ⟨hV0, hV1, hV2, hV3, hV5, hV4, -⟩ G
        have HV1 : Hold (fun u' => (Tup (r) (TC r sha (ea.map fun x => canR (-(qOf x))))) u' (vs 1)) u := hV1 rfl
        obtain ⟨A2_1, n2_1, c2_1, B2_1, m2_1, k2_1, eV1, -⟩ := HV1.now
        rw [eV1] at HV1
        have eV2 : vs 2 = .tuple #[.agg #[.slice A2_1 n2_1 c2_1, .slice B2_1 m2_1 k2_1], .int .i64 r] := (show vs 2 = vs 1 from hV2 rfl).trans eV1
        exact pureAt.of (v := .int .i64 r) rfl rfl (fun _ => by simp only [eV2]; go_simp) ⟨_, _, eV2, rfl⟩
    rintro vs u ⟨hV0, hV1, hV2, hV3, hV5, hV4, -⟩ G
    have eV0 : vs 0 = .agg #[.slice A sha.length c, .slice A' ea.length c'] := hV0
    replace hV1 : Hold (fun u' => (Tup (r) (TC r sha (ea.map fun x => canR (-(qOf x))))) u' (vs 1)) u := hV1
    obtain ⟨A2_1, n2_1, c2_1, B2_1, m2_1, k2_1, eV1, -⟩ := hV1.now
    rw [eV1] at hV1
    have eV2 : vs 2 = _ := (show vs 2 = vs 1 from hV2).trans eV1
    obtain ⟨x3, z3, a3, eV3⟩ := hV3
    have a3 := eV2.symm.trans a3
    cases a3
    replace eV3 : vs 3 = _ := eV3
    obtain ⟨b2_5, eV5, l2_5, y2_5⟩ := hV5
    replace eV5 : vs 5 = _ := eV5
    obtain ⟨x4, z4, a4, eV4⟩ := hV4
    have a4 := eV2.symm.trans a4
    cases a4
    replace eV4 : vs 4 = _ := eV4
    simp only [eV0, eV1, eV2, eV3, eV5, eV4]
    clear eV0 eV1 eV2 eV3 eV5 eV4 hV0 hV2
    have g0 := y2_5.free 0
    have g1 := y2_5.free 1
    have g2 := y2_5.c0
    have g3 := y2_5.c1
    refine wpTill.next 6 rfl (by kernel_rfl) (by rfl) (fun K hK => ?_)
    go_simp
    refine hK _ _ (no_wait (by kernel_rfl)) ?_
    clear hK K
    refine wpTill.next 7 rfl (by kernel_rfl) (by rfl) (fun K hK => ?_)
    go_simp
    refine hK _ _ (no_wait (by kernel_rfl)) ?_
    clear hK K
    refine wpTill.done (by kernel_rfl) ?_
    have F9 := fr_put2 u b2_5 (.slice A2_1 n2_1 c2_1) (.slice B2_1 m2_1 k2_1)
    have G9 := G.comp F9 (R := fun k => k < U1.heap.size) fun k _ hk => ⟨hk, by omega⟩
    have z2 := y2_5.set2 (.slice A2_1 n2_1 c2_1) (.slice B2_1 m2_1 k2_1)
    have T2 := (hV1.now.out.fill (.slice A2_1 n2_1 c2_1) (.slice B2_1 m2_1 k2_1) y2_5).hold
    replace xa := xa.keep G9
    replace HA := HA.keep G9
    replace F := fr_then F G9
    generalize (u.setCell ⟨b2_5, 0, none⟩ (.slice A2_1 n2_1 c2_1)).setCell ⟨b2_5, 1, none⟩ (.slice B2_1 m2_1 k2_1) = U2 at z2 T2 xa HA F ⊢
    clear g0 g1 g2 g3 F9 G9 G y2_5 l2_5 hV1
    repeat' ((fail_if_success (with_reducible refine wpTill.row (fun _ => True) 0 ?_ ?_)); go_step)
    refine wpTill.row (fun _ => True) 6 (by kernel_rfl) ?_
    change wpTill _ _ _ _ _ _ 8 _ _ _
    refine wpTill.free (jj := 6) (m := 2) [(0, Fact.eq (.agg #[.slice A sha.length c, .slice A' ea.length c'])),
      (1, Fact.held (Tup (r) (TC r sha (ea.map fun x => canR (if (qOf x).num.sign < 0 then 0 else qOf x))))),
      (2, Fact.same 1),
      (3, Fact.fst 2),
      (5, Fact.mem (New2 U2.heap.size 26 (.slice none 0 0) (.slice none 0 0)) New2.keep)] [(4, Fact.snd 2)] [0, 1, 3, 7, 7, 0, 47, 127] [] ?_ (by kernel_rfl) (by kernel_rfl) (by kernel_rfl) [(0, some 21), (1, some 22), (2, some 20), (3, some 23), (5, some 5), (4, some 24)] (by kernel_rfl) ?hA5 ?hQ5 (fun _ _ => trivial) (by kernel_rfl) ?steps5 ?looses5 ?cont5
    case hQ5 => exact fun _ _ _ _ _ h => h
    case hA5 =>
      intro vs
      simp only [fillD, List.foldl_cons, List.foldl_nil, Act.put, List.setIfInBounds_toArray, List.set_cons_zero, List.set_cons_succ]
      exact rfl
    case steps5 =>
      refine ⟨?_, ?_, ?_, ?_, ?_, trivial⟩
      · rintro vs u ⟨hV0, hV1, hV2, hV3, hV5, hV4, -⟩ G
        have o0 := (xa.keep G).c0
        have o1 := (xa.keep G).c1
        exact stepAt.pure (v := .agg #[.slice A sha.length c, .slice A' ea.length c']) rfl rfl (by go_simp) rfl
      · rintro vs u ⟨hV0, hV1, hV2, hV3, hV5, hV4, -⟩ G
        refine stepAt.call (f := 20) (args := #[vs 0]) rfl rfl (by go_simp) ?_
        have eV0 : vs 0 = .agg #[.slice A sha.length c, .slice A' ea.length c'] := hV0 rfl
        rw [eV0]
        exact relu_u (HA.at G) FA HR
      · rintro vs u ⟨hV0, hV1, hV2, hV3, hV5, hV4, -⟩ G
        exact stepAt.pure (v := vs 1) rfl rfl (by go_simp) rfl
      · rintro vs u ⟨hV0, hV1, hV2, hV3, hV5, hV4, -⟩ G
        have HV1 : Hold (fun u' => (Tup (r) (TC r sha (ea.map fun x => canR (if (qOf x).num.sign < 0 then 0 else qOf x)))) u' (vs 1)) u := hV1 rfl
        obtain ⟨A3_1, n3_1, c3_1, B3_1, m3_1, k3_1, eV1, -⟩ := HV1.now
        rw [eV1] at HV1
        have eV2 : vs 2 = .tuple #[.agg #[.slice A3_1 n3_1 c3_1, .slice B3_1 m3_1 k3_1], .int .i64 r] := (show vs 2 = vs 1 from hV2 rfl).trans eV1
        exact stepAt.pure (v := .agg #[.slice A3_1 n3_1 c3_1, .slice B3_1 m3_1 k3_1]) rfl rfl (by simp only [eV2]; go_simp) ⟨_, _, eV2, rfl⟩
      · rintro vs u ⟨hV0, hV1, hV2, hV3, hV5, hV4, -⟩ G
        exact stepAt.value (v := .pointer (some ⟨u.heap.size, 0, none⟩)) (u := u.alloc (.cells #[.slice none 0 0, .slice none 0 0] 26)) rfl rfl (by go_simp) ((Fr.refl _ _).alloc _) ⟨_, rfl, G.size, Box2.new _ _ _ _⟩
    case looses5 =>
      refine ⟨?_, trivial⟩
      · rintro vs u ⟨hV0, hV1, hV2, hV3, hV5, hV4, -⟩ G
        have HV1 : Hold (fun u' => (Tup (r) (TC r sha (ea.map fun x => canR (if (qOf x).num.sign < 0 then 0 else qOf x)))) u' (vs 1)) u := hV1 rfl
        obtain ⟨A3_1, n3_1, c3_1, B3_1, m3_1, k3_1, eV1, -⟩ := HV1.now
        rw [eV1] at HV1
        have eV2 : vs 2 = .tuple #[.agg #[.slice A3_1 n3_1 c3_1, .slice B3_1 m3_1 k3_1], .int .i64 r] := (show vs 2 = vs 1 from hV2 rfl).trans eV1
        exact pureAt.of (v := .int .i64 r) rfl rfl (fun _ => by simp only [eV2]; go_simp) ⟨_, _, eV2, rfl⟩
    rintro vs u ⟨hV0, hV1, hV2, hV3, hV5, hV4, -⟩ G
    have eV0 : vs 0 = .agg #[.slice A sha.length c, .slice A' ea.length c'] := hV0
    replace hV1 : Hold (fun u' => (Tup (r) (TC r sha (ea.map fun x => canR (if (qOf x).num.sign < 0 then 0 else qOf x)))) u' (vs 1)) u := hV1
    obtain ⟨A3_1, n3_1, c3_1, B3_1, m3_1, k3_1, eV1, -⟩ := hV1.now
    rw [eV1] at hV1
    have eV2 : vs 2 = _ := (show vs 2 = vs 1 from hV2).trans eV1
    obtain ⟨x3, z3, a3, eV3⟩ := hV3
    have a3 := eV2.symm.trans a3
    cases a3
    replace eV3 : vs 3 = _ := eV3
    obtain ⟨b3_5, eV5, l3_5, y3_5⟩ := hV5
    replace eV5 : vs 5 = _ := eV5
    obtain ⟨x4, z4, a4, eV4⟩ := hV4
    have a4 := eV2.symm.trans a4
    cases a4
    replace eV4 : vs 4 = _ := eV4
    simp only [eV0, eV1, eV2, eV3, eV5, eV4]
    clear eV0 eV1 eV2 eV3 eV5 eV4 hV0 hV2
    have g0 := y3_5.free 0
    have g1 := y3_5.free 1
    have g2 := y3_5.c0
    have g3 := y3_5.c1
    refine wpTill.next 6 rfl (by kernel_rfl) (by rfl) (fun K hK => ?_)
    go_simp
    refine hK _ _ (no_wait (by kernel_rfl)) ?_
    clear hK K
    refine wpTill.next 7 rfl (by kernel_rfl) (by rfl) (fun K hK => ?_)
    go_simp
    refine hK _ _ (no_wait (by kernel_rfl)) ?_
    clear hK K
    refine wpTill.done (by kernel_rfl) ?_
    have F9 := fr_put2 u b3_5 (.slice A3_1 n3_1 c3_1) (.slice B3_1 m3_1 k3_1)
    have G9 := G.comp F9 (R := fun k => k < U2.heap.size) fun k _ hk => ⟨hk, by omega⟩
    have z3 := y3_5.set2 (.slice A3_1 n3_1 c3_1) (.slice B3_1 m3_1 k3_1)
    have T3 := (hV1.now.out.fill (.slice A3_1 n3_1 c3_1) (.slice B3_1 m3_1 k3_1) y3_5).hold
    replace xa := xa.keep G9
    replace z2 := z2.keep G9
    replace HA := HA.keep G9
    replace T2 := T2.keep G9
    replace F := fr_then F G9
    generalize (u.setCell ⟨b3_5, 0, none⟩ (.slice A3_1 n3_1 c3_1)).setCell ⟨b3_5, 1, none⟩ (.slice B3_1 m3_1 k3_1) = U3 at z3 T3 xa z2 HA T2 F ⊢
    clear g0 g1 g2 g3 F9 G9 G y3_5 l3_5 hV1
    repeat' ((fail_if_success (with_reducible refine wpTill.row (fun _ => True) 0 ?_ ?_)); go_step)
    refine wpTill.row (fun _ => True) 6 (by kernel_rfl) ?_
    change wpTill _ _ _ _ _ _ 8 _ _ _
    refine wpTill.free (jj := 6) (m := 2) [(0, Fact.eq (.agg #[.slice A sha.length c, .slice A' ea.length c'])),
      (1, Fact.held (Tup (r) (TC r sha (ea.map fun x => canR ((max (qOf x).num.sign 0 : Int) : Rat))))),
      (2, Fact.same 1),
      (3, Fact.fst 2),
      (5, Fact.mem (New2 U3.heap.size 26 (.slice none 0 0) (.slice none 0 0)) New2.keep)] [(4, Fact.snd 2)] [0, 1, 3, 7, 7, 0, 47, 127] [] ?_ (by kernel_rfl) (by kernel_rfl) (by kernel_rfl) [(0, some 26), (1, some 27), (2, some 25), (3, some 28), (5, some 7), (4, some 29)] (by kernel_rfl) ?hA6 ?hQ6 (fun _ _ => trivial) (by kernel_rfl) ?steps6 ?looses6 ?cont6
    case hQ6 => exact fun _ _ _ _ _ h => h
    case hA6 =>
      intro vs
      simp only [fillD, List.foldl_cons, List.foldl_nil, Act.put, List.setIfInBounds_toArray, List.set_cons_zero, List.set_cons_succ]
      exact rfl
    case steps6 =>
      refine ⟨?_, ?_, ?_, ?_, ?_, trivial⟩
      · rintro vs u ⟨hV0, hV1, hV2, hV3, hV5, hV4, -⟩ G
        have o0 := (xa.keep G).c0
        have o1 := (xa.keep G).c1
        exact stepAt.pure (v := .agg #[.slice A sha.length c, .slice A' ea.length c']) rfl rfl (by go_simp) rfl
      · rintro vs u ⟨hV0, hV1, hV2, hV3, hV5, hV4, -⟩ G
        refine stepAt.call (f := 21) (args := #[vs 0]) rfl rfl (by go_simp) ?_
        have eV0 : vs 0 = .agg #[.slice A sha.length c, .slice A' ea.length c'] := hV0 rfl
        rw [eV0]
        exact step_u (HA.at G) FA HR
      · rintro vs u ⟨hV0, hV1, hV2, hV3, hV5, hV4, -⟩ G
        exact stepAt.pure (v := vs 1) rfl rfl (by go_simp) rfl
      · rintro vs u ⟨hV0, hV1, hV2, hV3, hV5, hV4, -⟩ G
        have HV1 : Hold (fun u' => (Tup (r) (TC r sha (ea.map fun x => canR ((max (qOf x).num.sign 0 : Int) : Rat)))) u' (vs 1)) u := hV1 rfl
        obtain ⟨A4_1, n4_1, c4_1, B4_1, m4_1, k4_1, eV1, -⟩ := HV1.now
        rw [eV1] at HV1
        have eV2 : vs 2 = .tuple #[.agg #[.slice A4_1 n4_1 c4_1, .slice B4_1 m4_1 k4_1], .int .i64 r] := (show vs 2 = vs 1 from hV2 rfl).trans eV1
        exact stepAt.pure (v := .agg #[.slice A4_1 n4_1 c4_1, .slice B4_1 m4_1 k4_1]) rfl rfl (by simp only [eV2]; go_simp) ⟨_, _, eV2, rfl⟩
      · rintro vs u ⟨hV0, hV1, hV2, hV3, hV5, hV4, -⟩ G
        exact stepAt.value (v := .pointer (some ⟨u.heap.size, 0, none⟩)) (u := u.alloc (.cells #[.slice none 0 0, .slice none 0 0] 26)) rfl rfl (by go_simp) ((Fr.refl _ _).alloc _) ⟨_, rfl, G.size, Box2.new _ _ _ _⟩
    case looses6 =>
      refine ⟨?_, trivial⟩
      · rintro vs u ⟨hV0, hV1, hV2, hV3, hV5, hV4, -⟩ G
        have HV1 : Hold (fun u' => (Tup (r) (TC r sha (ea.map fun x => canR ((max (qOf x).num.sign 0 : Int) : Rat)))) u' (vs 1)) u := hV1 rfl
        obtain ⟨A4_1, n4_1, c4_1, B4_1, m4_1, k4_1, eV1, -⟩ := HV1.now
        rw [eV1] at HV1
        have eV2 : vs 2 = .tuple #[.agg #[.slice A4_1 n4_1 c4_1, .slice B4_1 m4_1 k4_1], .int .i64 r] := (show vs 2 = vs 1 from hV2 rfl).trans eV1
        exact pureAt.of (v := .int .i64 r) rfl rfl (fun _ => by simp only [eV2]; go_simp) ⟨_, _, eV2, rfl⟩
    rintro vs u ⟨hV0, hV1, hV2, hV3, hV5, hV4, -⟩ G
    have eV0 : vs 0 = .agg #[.slice A sha.length c, .slice A' ea.length c'] := hV0
    replace hV1 : Hold (fun u' => (Tup (r) (TC r sha (ea.map fun x => canR ((max (qOf x).num.sign 0 : Int) : Rat)))) u' (vs 1)) u := hV1
    obtain ⟨A4_1, n4_1, c4_1, B4_1, m4_1, k4_1, eV1, -⟩ := hV1.now
    rw [eV1] at hV1
    have eV2 : vs 2 = _ := (show vs 2 = vs 1 from hV2).trans eV1
    obtain ⟨x3, z3, a3, eV3⟩ := hV3
    have a3 := eV2.symm.trans a3
    cases a3
    replace eV3 : vs 3 = _ := eV3
    obtain ⟨b4_5, eV5, l4_5, y4_5⟩ := hV5
    replace eV5 : vs 5 = _ := eV5
    obtain ⟨x4, z4, a4, eV4⟩ := hV4
    have a4 := eV2.symm.trans a4
    cases a4
    replace eV4 : vs 4 = _ := eV4
    simp only [eV0, eV1, eV2, eV3, eV5, eV4]
    clear eV0 eV1 eV2 eV3 eV5 eV4 hV0 hV2
    have g0 := y4_5.free 0
    have g1 := y4_5.free 1
    have g2 := y4_5.c0
    have g3 := y4_5.c1
    refine wpTill.next 6 rfl (by kernel_rfl) (by rfl) (fun K hK => ?_)
    go_simp
    refine hK _ _ (no_wait (by kernel_rfl)) ?_
    clear hK K
    refine wpTill.next 7 rfl (by kernel_rfl) (by rfl) (fun K hK => ?_)
    go_simp
    refine hK _ _ (no_wait (by kernel_rfl)) ?_
    clear hK K
    refine wpTill.done (by kernel_rfl) ?_
    have F9 := fr_put2 u b4_5 (.slice A4_1 n4_1 c4_1) (.slice B4_1 m4_1 k4_1)
    have G9 := G.comp F9 (R := fun k => k < U3.heap.size) fun k _ hk => ⟨hk, by omega⟩
    have z4 := y4_5.set2 (.slice A4_1 n4_1 c4_1) (.slice B4_1 m4_1 k4_1)
    have T4 := (hV1.now.out.fill (.slice A4_1 n4_1 c4_1) (.slice B4_1 m4_1 k4_1) y4_5).hold
    replace xa := xa.keep G9
    replace z2 := z2.keep G9
    replace z3 := z3.keep G9
    replace HA := HA.keep G9
    replace T2 := T2.keep G9
    replace T3 := T3.keep G9
    replace F := fr_then F G9
    generalize (u.setCell ⟨b4_5, 0, none⟩ (.slice A4_1 n4_1 c4_1)).setCell ⟨b4_5, 1, none⟩ (.slice B4_1 m4_1 k4_1) = U4 at z4 T4 xa z2 z3 HA T2 T3 F ⊢
    clear g0 g1 g2 g3 F9 G9 G y4_5 l4_5 hV1
    repeat' ((fail_if_success (with_reducible refine wpTill.row (fun _ => True) 0 ?_ ?_)); go_step)
    refine wpTill.row (fun _ => True) 2 (by kernel_rfl) ?_
    change wpTill _ _ _ _ _ _ 3 _ _ _
    refine wpTill.free (jj := 2) (m := 1) [(0, Fact.eq (.agg #[.slice A sha.length c, .slice A' ea.length c'])),
      (1, Fact.eq (.int .i64 r))] [] [0, 1, 3] [] ?_ (by kernel_rfl) (by kernel_rfl) (by kernel_rfl) [(0, some 30), (1, some 31)] (by kernel_rfl) ?hA7 ?hQ7 (fun _ _ => trivial) (by kernel_rfl) ?steps7 ?looses7 ?cont7
    case hQ7 => exact fun _ _ _ _ _ h => h
    case hA7 =>
      intro vs
      simp only [fillD, List.foldl_cons, List.foldl_nil, Act.put, List.setIfInBounds_toArray, List.set_cons_zero, List.set_cons_succ]
      exact rfl
    case steps7 =>
      refine ⟨?_, ?_, trivial⟩
      · rintro vs u ⟨hV0, hV1, -⟩ G
        have o0 := (xa.keep G).c0
        have o1 := (xa.keep G).c1
        exact stepAt.pure (v := .agg #[.slice A sha.length c, .slice A' ea.length c']) rfl rfl (by go_simp) rfl
      · rintro vs u ⟨hV0, hV1, -⟩ G
        refine stepAt.call (f := 12) (args := #[vs 0]) rfl rfl (by go_simp) ?_
        have eV0 : vs 0 = .agg #[.slice A sha.length c, .slice A' ea.length c'] := hV0 rfl
        rw [eV0]
        exact (may_u (HA.at G) FA HR).mono fun _ _ ⟨v, h1, h2, h3⟩ => ⟨v, h1, h2, h3.now⟩
    case looses7 =>
      exact trivial
    rintro vs U5 ⟨hV0, hV1, -⟩ G
    have eV0 : vs 0 = .agg #[.slice A sha.length c, .slice A' ea.length c'] := hV0
    have eV1 : vs 1 = .int .i64 r := hV1
    simp only [eV0, eV1]
    clear eV0 eV1 hV0 hV1
    refine wpTill.next 2 rfl (by kernel_rfl) (by rfl) (fun K hK => ?_)
    go_simp
    refine hK _ _ (no_wait (by kernel_rfl)) ?_
    clear hK K
    refine wpTill.done (by kernel_rfl) ?_
    replace xa := xa.keep G
    replace z2 := z2.keep G
    replace z3 := z3.keep G
    replace z4 := z4.keep G
    replace HA := HA.keep G
    replace T2 := T2.keep G
    replace T3 := T3.keep G
    replace T4 := T4.keep G
    replace F := fr_then F G
    clear G
    repeat' ((fail_if_success (with_reducible refine wpTill.row (fun _ => True) 0 ?_ ?_)); go_step)
    refine wpTill.row (fun _ => True) 3 (by kernel_rfl) ?_
    change wpTill _ _ _ _ _ _ 4 _ _ _
    refine wpTill.free (jj := 3) (m := 1) [(0, Fact.eq (.agg #[.slice A sha.length c, .slice A' ea.length c'])),
      (1, Fact.held (Agg (QV sha (ea.map qOf) (3 * (L + 2))))),
      (2, Fact.mem (New2 U5.heap.size 32 (.slice none 0 0) (.slice none 0 0)) New2.keep)] [] [0, 1, 0, 7] [] ?_ (by kernel_rfl) (by kernel_rfl) (by kernel_rfl) [(0, some 32), (1, some 33), (2, some 10)] (by kernel_rfl) ?hA8 ?hQ8 (fun _ _ => trivial) (by kernel_rfl) ?steps8 ?looses8 ?cont8
    case hQ8 => exact fun _ _ _ _ _ h => h
    case hA8 =>
      intro vs
      simp only [fillD, List.foldl_cons, List.foldl_nil, Act.put, List.setIfInBounds_toArray, List.set_cons_zero, List.set_cons_succ]
      exact rfl
    case steps8 =>
      refine ⟨?_, ?_, ?_, trivial⟩
      · rintro vs u ⟨hV0, hV1, hV2, -⟩ G
        have o0 := (xa.keep G).c0
        have o1 := (xa.keep G).c1
        exact stepAt.pure (v := .agg #[.slice A sha.length c, .slice A' ea.length c']) rfl rfl (by go_simp) rfl
      · rintro vs u ⟨hV0, hV1, hV2, -⟩ G
        refine stepAt.call (f := 14) (args := #[vs 0]) rfl rfl (by go_simp) ?_
        have eV0 : vs 0 = .agg #[.slice A sha.length c, .slice A' ea.length c'] := hV0 rfl
        rw [eV0]
        exact of_u (HA.at G) FA
      · rintro vs u ⟨hV0, hV1, hV2, -⟩ G
        exact stepAt.value (v := .pointer (some ⟨u.heap.size, 0, none⟩)) (u := u.alloc (.cells #[.slice none 0 0, .slice none 0 0] 32)) rfl rfl (by go_simp) ((Fr.refl _ _).alloc _) ⟨_, rfl, G.size, Box2.new _ _ _ _⟩
    case looses8 =>
      exact trivial
    rintro vs u ⟨hV0, hV1, hV2, -⟩ G
    have eV0 : vs 0 = .agg #[.slice A sha.length c, .slice A' ea.length c'] := hV0
    replace hV1 : Hold (fun u' => (Agg (QV sha (ea.map qOf) (3 * (L + 2)))) u' (vs 1)) u := hV1
    obtain ⟨A6_1, n6_1, c6_1, B6_1, m6_1, k6_1, eV1, -⟩ := hV1.now
    rw [eV1] at hV1
    obtain ⟨b6_2, eV2, l6_2, y6_2⟩ := hV2
    replace eV2 : vs 2 = _ := eV2
    simp only [eV0, eV1, eV2]
    clear eV0 eV1 eV2 hV0
    have g0 := y6_2.free 0
    have g1 := y6_2.free 1
    have g2 := y6_2.c0
    have g3 := y6_2.c1
    refine wpTill.next 3 rfl (by kernel_rfl) (by rfl) (fun K hK => ?_)
    go_simp
    refine hK _ _ (no_wait (by kernel_rfl)) ?_
    clear hK K
    refine wpTill.done (by kernel_rfl) ?_
    have F9 := fr_put2 u b6_2 (.slice A6_1 n6_1 c6_1) (.slice B6_1 m6_1 k6_1)
    have G9 := G.comp F9 (R := fun k => k < U5.heap.size) fun k _ hk => ⟨hk, by omega⟩
    have z6 := y6_2.set2 (.slice A6_1 n6_1 c6_1) (.slice B6_1 m6_1 k6_1)
    have T6 := (hV1.now.out.fill (.slice A6_1 n6_1 c6_1) (.slice B6_1 m6_1 k6_1) y6_2).hold
    replace xa := xa.keep G9
    replace z2 := z2.keep G9
    replace z3 := z3.keep G9
    replace z4 := z4.keep G9
    replace HA := HA.keep G9
    replace T2 := T2.keep G9
    replace T3 := T3.keep G9
    replace T4 := T4.keep G9
    replace F := fr_then F G9
    generalize (u.setCell ⟨b6_2, 0, none⟩ (.slice A6_1 n6_1 c6_1)).setCell ⟨b6_2, 1, none⟩ (.slice B6_1 m6_1 k6_1) = U6 at z6 T6 xa z2 z3 z4 HA T2 T3 T4 F ⊢
    clear g0 g1 g2 g3 F9 G9 G y6_2 l6_2 hV1
    repeat' ((fail_if_success (with_reducible refine wpTill.row (fun _ => True) 0 ?_ ?_)); go_step)
    have DR := fun R => (Fr.refl R U6).drew
    replace xa := xa.keep (DR _)
    replace z2 := z2.keep (DR _)
    replace z3 := z3.keep (DR _)
    replace z4 := z4.keep (DR _)
    replace z6 := z6.keep (DR _)
    replace HA := HA.keep (DR _)
    replace T2 := T2.keep (DR _)
    replace T3 := T3.keep (DR _)
    replace T4 := T4.keep (DR _)
    replace T6 := T6.keep (DR _)
    replace F := F.drew
    clear DR
    refine wpTill.begin (fun _ => True) 25 (by kernel_rfl) ?_
    change wpTill _ _ _ _ _ _ 26 _ _ _
    refine wpTill.free (jj := 25) (m := 1) [(0, Fact.eq (.agg #[.slice A2_1 n2_1 c2_1, .slice B2_1 m2_1 k2_1])),
      (1, Fact.eq (.int .i64 r)),
      (2, Fact.eq (.agg #[.slice A6_1 n6_1 c6_1, .slice B6_1 m6_1 k6_1])),
      (3, Fact.held (Agg (QV sha ((ea.map qOf).map (fun q => -q)) (3 * (L + 2))))),
      (4, Fact.eq (.int .i64 r)),
      (5, Fact.eq (.bool true)),
      (6, Fact.eq (.bool true)),
      (7, Fact.eq (.agg #[.slice A3_1 n3_1 c3_1, .slice B3_1 m3_1 k3_1])),
      (8, Fact.eq (.int .i64 r)),
      (9, Fact.eq (.agg #[.slice A6_1 n6_1 c6_1, .slice B6_1 m6_1 k6_1])),
      (10, Fact.held (Agg (QV sha ((ea.map qOf).map (fun q => (if q.num.sign < 0 then 0 else q : Rat))) (3 * (L + 2))))),
      (11, Fact.eq (.int .i64 r)),
      (12, Fact.eq (.bool true)),
      (13, Fact.eq (.bool true)),
      (14, Fact.eq (.bool true)),
      (15, Fact.eq (.agg #[.slice A4_1 n4_1 c4_1, .slice B4_1 m4_1 k4_1])),
      (16, Fact.eq (.int .i64 r)),
      (17, Fact.eq (.agg #[.slice A6_1 n6_1 c6_1, .slice B6_1 m6_1 k6_1])),
      (18, Fact.held (Agg (QV sha ((ea.map qOf).map (fun q => (((max q.num.sign 0 : Int) : Rat) : Rat))) (3 * (L + 2))))),
      (19, Fact.eq (.int .i64 r)),
      (20, Fact.eq (.bool true)),
      (21, Fact.eq (.bool true)),
      (22, Fact.eq (.bool true)),
      (23, Fact.eq (.bool true)),
      (24, Fact.eq (.bool true))] [] [0, 0, 0, 4, 0, 31, 63, 127, 127, 127, 639, 127, 4095, 8191, 16383, 32767, 32767, 32767, 163839, 32767, 1048575, 2097151, 4194303, 8388607, 16777215, 33554431] [] ?_ (by kernel_rfl) (by kernel_rfl) (by kernel_rfl) [(0, some 34), (1, some 35), (2, some 36), (3, some 37), (4, some 38), (5, some 39), (6, some 40), (7, some 41), (8, some 42), (9, some 43), (10, some 44), (11, some 45), (12, some 46), (13, some 47), (14, some 48), (15, some 49), (16, some 50), (17, some 51), (18, some 52), (19, some 53), (20, some 54), (21, some 55), (22, some 56), (23, some 57), (24, some 58)] (by kernel_rfl) ?hA9 ?hQ9 (fun _ _ => trivial) (by kernel_rfl) ?steps9 ?looses9 ?cont9
    case hQ9 => exact fun _ _ _ _ _ h => h
    case hA9 =>
      intro vs
      simp only [fillD, List.foldl_cons, List.foldl_nil, Act.put, List.setIfInBounds_toArray, List.set_cons_zero, List.set_cons_succ]
      exact rfl
    case steps9 =>
      refine ⟨?_, ?_, ?_, ?_, ?_, ?_, ?_, ?_, ?_, ?_, ?_, ?_, ?_, ?_, ?_, ?_, ?_, ?_, ?_, ?_, ?_, ?_, ?_, ?_, ?_, trivial⟩
      · rintro vs u ⟨hV0, hV1, hV2, hV3, hV4, hV5, hV6, hV7, hV8, hV9, hV10, hV11, hV12, hV13, hV14, hV15, hV16, hV17, hV18, hV19, hV20, hV21, hV22, hV23, hV24, -⟩ G
        have o0 := (z2.keep G).c0
        have o1 := (z2.keep G).c1
        exact stepAt.pure (v := .agg #[.slice A2_1 n2_1 c2_1, .slice B2_1 m2_1 k2_1]) rfl rfl (by go_simp) rfl
      · rintro vs u ⟨hV0, hV1, hV2, hV3, hV4, hV5, hV6, hV7, hV8, hV9, hV10, hV11, hV12, hV13, hV14, hV15, hV16, hV17, hV18, hV19, hV20, hV21, hV22, hV23, hV24, -⟩ G
        exact stepAt.pure (v := .int .i64 r) rfl rfl (by go_simp) rfl
      · rintro vs u ⟨hV0, hV1, hV2, hV3, hV4, hV5, hV6, hV7, hV8, hV9, hV10, hV11, hV12, hV13, hV14, hV15, hV16, hV17, hV18, hV19, hV20, hV21, hV22, hV23, hV24, -⟩ G
        have o0 := (z6.keep G).c0
        have o1 := (z6.keep G).c1
        exact stepAt.pure (v := .agg #[.slice A6_1 n6_1 c6_1, .slice B6_1 m6_1 k6_1]) rfl rfl (by go_simp) rfl
      · rintro vs u ⟨hV0, hV1, hV2, hV3, hV4, hV5, hV6, hV7, hV8, hV9, hV10, hV11, hV12, hV13, hV14, hV15, hV16, hV17, hV18, hV19, hV20, hV21, hV22, hV23, hV24, -⟩ G
        refine stepAt.call (f := 22) (args := #[vs 2]) rfl rfl (by go_simp) ?_
        have eV2 : vs 2 = .agg #[.slice A6_1 n6_1 c6_1, .slice B6_1 m6_1 k6_1] := hV2 rfl
        rw [eV2]
        exact rneg_u (T6.at G) FQA
      · rintro vs u ⟨hV0, hV1, hV2, hV3, hV4, hV5, hV6, hV7, hV8, hV9, hV10, hV11, hV12, hV13, hV14, hV15, hV16, hV17, hV18, hV19, hV20, hV21, hV22, hV23, hV24, -⟩ G
        exact stepAt.pure (v := .int .i64 r) rfl rfl (by go_simp) rfl
      · rintro vs u ⟨hV0, hV1, hV2, hV3, hV4, hV5, hV6, hV7, hV8, hV9, hV10, hV11, hV12, hV13, hV14, hV15, hV16, hV17, hV18, hV19, hV20, hV21, hV22, hV23, hV24, -⟩ G
        refine stepAt.call (f := 17) (args := #[vs 0, vs 1, vs 3, vs 4]) rfl rfl (by go_simp) ?_
        have eV0 : vs 0 = .agg #[.slice A2_1 n2_1 c2_1, .slice B2_1 m2_1 k2_1] := hV0 rfl
        have eV1 : vs 1 = .int .i64 r := hV1 rfl
        have HV3 : Hold (fun u' => (Agg (QV sha ((ea.map qOf).map (fun q => -q)) (3 * (L + 2)))) u' (vs 3)) u := hV3 rfl
        obtain ⟨A7_3, n7_3, c7_3, B7_3, m7_3, k7_3, eV3, -⟩ := HV3.now
        rw [eV3] at HV3
        have eV4 : vs 4 = .int .i64 r := hV4 rfl
        rw [eV0, eV1, eV3, eV4]
        exact (told_u (T2.at G) (HV3.now.out).qc ⟨⟨_, _, _, rfl⟩, ⟨_, _, _, rfl⟩⟩ HS0 (by omega)).mono fun _ _ ⟨v, h1, h2, h3⟩ => ⟨v, h1, h2, h3.now⟩
      · rintro vs u ⟨hV0, hV1, hV2, hV3, hV4, hV5, hV6, hV7, hV8, hV9, hV10, hV11, hV12, hV13, hV14, hV15, hV16, hV17, hV18, hV19, hV20, hV21, hV22, hV23, hV24, -⟩ G
        have eV5 : vs 5 = .bool true := hV5 rfl
        exact stepAt.pure (v := .bool true) rfl rfl (by simp only [eV5]; go_simp) rfl
      · rintro vs u ⟨hV0, hV1, hV2, hV3, hV4, hV5, hV6, hV7, hV8, hV9, hV10, hV11, hV12, hV13, hV14, hV15, hV16, hV17, hV18, hV19, hV20, hV21, hV22, hV23, hV24, -⟩ G
        have o0 := (z3.keep G).c0
        have o1 := (z3.keep G).c1
        exact stepAt.pure (v := .agg #[.slice A3_1 n3_1 c3_1, .slice B3_1 m3_1 k3_1]) rfl (wanted_by (g := 6) (b := true) (t := 40) rfl (by kernel_rfl) (congrArg some (show vs 6 = _ from hV6 rfl))) (by go_simp) rfl
      · rintro vs u ⟨hV0, hV1, hV2, hV3, hV4, hV5, hV6, hV7, hV8, hV9, hV10, hV11, hV12, hV13, hV14, hV15, hV16, hV17, hV18, hV19, hV20, hV21, hV22, hV23, hV24, -⟩ G
        exact stepAt.pure (v := .int .i64 r) rfl (wanted_by (g := 6) (b := true) (t := 40) rfl (by kernel_rfl) (congrArg some (show vs 6 = _ from hV6 rfl))) (by go_simp) rfl
      · rintro vs u ⟨hV0, hV1, hV2, hV3, hV4, hV5, hV6, hV7, hV8, hV9, hV10, hV11, hV12, hV13, hV14, hV15, hV16, hV17, hV18, hV19, hV20, hV21, hV22, hV23, hV24, -⟩ G
        have o0 := (z6.keep G).c0
        have o1 := (z6.keep G).c1
        exact stepAt.pure (v := .agg #[.slice A6_1 n6_1 c6_1, .slice B6_1 m6_1 k6_1]) rfl (wanted_by (g := 6) (b := true) (t := 40) rfl (by kernel_rfl) (congrArg some (show vs 6 = _ from hV6 rfl))) (by go_simp) rfl
      · rintro vs u ⟨hV0, hV1, hV2, hV3, hV4, hV5, hV6, hV7, hV8, hV9, hV10, hV11, hV12, hV13, hV14, hV15, hV16, hV17, hV18, hV19, hV20, hV21, hV22, hV23, hV24, -⟩ G
        refine stepAt.call (f := 23) (args := #[vs 9]) rfl (wanted_by (g := 6) (b := true) (t := 40) rfl (by kernel_rfl) (congrArg some (show vs 6 = _ from hV6 rfl))) (by go_simp) ?_
        have eV9 : vs 9 = .agg #[.slice A6_1 n6_1 c6_1, .slice B6_1 m6_1 k6_1] := hV9 rfl
        rw [eV9]
        exact rrelu_u (T6.at G) FQA
      · rintro vs u ⟨hV0, hV1, hV2, hV3, hV4, hV5, hV6, hV7, hV8, hV9, hV10, hV11, hV12, hV13, hV14, hV15, hV16, hV17, hV18, hV19, hV20, hV21, hV22, hV23, hV24, -⟩ G
        exact stepAt.pure (v := .int .i64 r) rfl (wanted_by (g := 6) (b := true) (t := 40) rfl (by kernel_rfl) (congrArg some (show vs 6 = _ from hV6 rfl))) (by go_simp) rfl
      · rintro vs u ⟨hV0, hV1, hV2, hV3, hV4, hV5, hV6, hV7, hV8, hV9, hV10, hV11, hV12, hV13, hV14, hV15, hV16, hV17, hV18, hV19, hV20, hV21, hV22, hV23, hV24, -⟩ G
        refine stepAt.call (f := 17) (args := #[vs 7, vs 8, vs 10, vs 11]) rfl (wanted_by (g := 6) (b := true) (t := 40) rfl (by kernel_rfl) (congrArg some (show vs 6 = _ from hV6 rfl))) (by go_simp) ?_
        have eV7 : vs 7 = .agg #[.slice A3_1 n3_1 c3_1, .slice B3_1 m3_1 k3_1] := hV7 rfl
        have eV8 : vs 8 = .int .i64 r := hV8 rfl
        have HV10 : Hold (fun u' => (Agg (QV sha ((ea.map qOf).map (fun q => (if q.num.sign < 0 then 0 else q : Rat))) (3 * (L + 2)))) u' (vs 10)) u := hV10 rfl
        obtain ⟨A7_10, n7_10, c7_10, B7_10, m7_10, k7_10, eV10, -⟩ := HV10.now
        rw [eV10] at HV10
        have eV11 : vs 11 = .int .i64 r := hV11 rfl
        rw [eV7, eV8, eV10, eV11]
        exact (told_u (T3.at G) (HV10.now.out).qc ⟨⟨_, _, _, rfl⟩, ⟨_, _, _, rfl⟩⟩ HS1 (by omega)).mono fun _ _ ⟨v, h1, h2, h3⟩ => ⟨v, h1, h2, h3.now⟩
      · rintro vs u ⟨hV0, hV1, hV2, hV3, hV4, hV5, hV6, hV7, hV8, hV9, hV10, hV11, hV12, hV13, hV14, hV15, hV16, hV17, hV18, hV19, hV20, hV21, hV22, hV23, hV24, -⟩ G
        have eV6 : vs 6 = .bool true := hV6 rfl
        have eV12 : vs 12 = .bool true := hV12 rfl
        exact stepAt.pure (v := .bool true) rfl rfl (by simp only [eV6, eV12]; go_simp) rfl
      · rintro vs u ⟨hV0, hV1, hV2, hV3, hV4, hV5, hV6, hV7, hV8, hV9, hV10, hV11, hV12, hV13, hV14, hV15, hV16, hV17, hV18, hV19, hV20, hV21, hV22, hV23, hV24, -⟩ G
        have eV13 : vs 13 = .bool true := hV13 rfl
        exact stepAt.pure (v := .bool true) rfl rfl (by simp only [eV13]; go_simp) rfl
      · rintro vs u ⟨hV0, hV1, hV2, hV3, hV4, hV5, hV6, hV7, hV8, hV9, hV10, hV11, hV12, hV13, hV14, hV15, hV16, hV17, hV18, hV19, hV20, hV21, hV22, hV23, hV24, -⟩ G
        have o0 := (z4.keep G).c0
        have o1 := (z4.keep G).c1
        exact stepAt.pure (v := .agg #[.slice A4_1 n4_1 c4_1, .slice B4_1 m4_1 k4_1]) rfl (wanted_by (g := 14) (b := true) (t := 48) rfl (by kernel_rfl) (congrArg some (show vs 14 = _ from hV14 rfl))) (by go_simp) rfl
      · rintro vs u ⟨hV0, hV1, hV2, hV3, hV4, hV5, hV6, hV7, hV8, hV9, hV10, hV11, hV12, hV13, hV14, hV15, hV16, hV17, hV18, hV19, hV20, hV21, hV22, hV23, hV24, -⟩ G
        exact stepAt.pure (v := .int .i64 r) rfl (wanted_by (g := 14) (b := true) (t := 48) rfl (by kernel_rfl) (congrArg some (show vs 14 = _ from hV14 rfl))) (by go_simp) rfl
      · rintro vs u ⟨hV0, hV1, hV2, hV3, hV4, hV5, hV6, hV7, hV8, hV9, hV10, hV11, hV12, hV13, hV14, hV15, hV16, hV17, hV18, hV19, hV20, hV21, hV22, hV23, hV24, -⟩ G
        have o0 := (z6.keep G).c0
        have o1 := (z6.keep G).c1
        exact stepAt.pure (v := .agg #[.slice A6_1 n6_1 c6_1, .slice B6_1 m6_1 k6_1]) rfl (wanted_by (g := 14) (b := true) (t := 48) rfl (by kernel_rfl) (congrArg some (show vs 14 = _ from hV14 rfl))) (by go_simp) rfl
      · rintro vs u ⟨hV0, hV1, hV2, hV3, hV4, hV5, hV6, hV7, hV8, hV9, hV10, hV11, hV12, hV13, hV14, hV15, hV16, hV17, hV18, hV19, hV20, hV21, hV22, hV23, hV24, -⟩ G
        refine stepAt.call (f := 24) (args := #[vs 17]) rfl (wanted_by (g := 14) (b := true) (t := 48) rfl (by kernel_rfl) (congrArg some (show vs 14 = _ from hV14 rfl))) (by go_simp) ?_
        have eV17 : vs 17 = .agg #[.slice A6_1 n6_1 c6_1, .slice B6_1 m6_1 k6_1] := hV17 rfl
        rw [eV17]
        exact rstep_u (T6.at G) FQA
      · rintro vs u ⟨hV0, hV1, hV2, hV3, hV4, hV5, hV6, hV7, hV8, hV9, hV10, hV11, hV12, hV13, hV14, hV15, hV16, hV17, hV18, hV19, hV20, hV21, hV22, hV23, hV24, -⟩ G
        exact stepAt.pure (v := .int .i64 r) rfl (wanted_by (g := 14) (b := true) (t := 48) rfl (by kernel_rfl) (congrArg some (show vs 14 = _ from hV14 rfl))) (by go_simp) rfl
      · rintro vs u ⟨hV0, hV1, hV2, hV3, hV4, hV5, hV6, hV7, hV8, hV9, hV10, hV11, hV12, hV13, hV14, hV15, hV16, hV17, hV18, hV19, hV20, hV21, hV22, hV23, hV24, -⟩ G
        refine stepAt.call (f := 17) (args := #[vs 15, vs 16, vs 18, vs 19]) rfl (wanted_by (g := 14) (b := true) (t := 48) rfl (by kernel_rfl) (congrArg some (show vs 14 = _ from hV14 rfl))) (by go_simp) ?_
        have eV15 : vs 15 = .agg #[.slice A4_1 n4_1 c4_1, .slice B4_1 m4_1 k4_1] := hV15 rfl
        have eV16 : vs 16 = .int .i64 r := hV16 rfl
        have HV18 : Hold (fun u' => (Agg (QV sha ((ea.map qOf).map (fun q => (((max q.num.sign 0 : Int) : Rat) : Rat))) (3 * (L + 2)))) u' (vs 18)) u := hV18 rfl
        obtain ⟨A7_18, n7_18, c7_18, B7_18, m7_18, k7_18, eV18, -⟩ := HV18.now
        rw [eV18] at HV18
        have eV19 : vs 19 = .int .i64 r := hV19 rfl
        rw [eV15, eV16, eV18, eV19]
        exact (told_u (T4.at G) (HV18.now.out).qc ⟨⟨_, _, _, rfl⟩, ⟨_, _, _, rfl⟩⟩ HS2 (by omega)).mono fun _ _ ⟨v, h1, h2, h3⟩ => ⟨v, h1, h2, h3.now⟩
      · rintro vs u ⟨hV0, hV1, hV2, hV3, hV4, hV5, hV6, hV7, hV8, hV9, hV10, hV11, hV12, hV13, hV14, hV15, hV16, hV17, hV18, hV19, hV20, hV21, hV22, hV23, hV24, -⟩ G
        have eV14 : vs 14 = .bool true := hV14 rfl
        have eV20 : vs 20 = .bool true := hV20 rfl
        exact stepAt.pure (v := .bool true) rfl rfl (by simp only [eV14, eV20]; go_simp) rfl
      · rintro vs u ⟨hV0, hV1, hV2, hV3, hV4, hV5, hV6, hV7, hV8, hV9, hV10, hV11, hV12, hV13, hV14, hV15, hV16, hV17, hV18, hV19, hV20, hV21, hV22, hV23, hV24, -⟩ G
        have eV21 : vs 21 = .bool true := hV21 rfl
        exact stepAt.pure (v := .bool true) rfl rfl (by simp only [eV21]; go_simp) rfl
      · rintro vs u ⟨hV0, hV1, hV2, hV3, hV4, hV5, hV6, hV7, hV8, hV9, hV10, hV11, hV12, hV13, hV14, hV15, hV16, hV17, hV18, hV19, hV20, hV21, hV22, hV23, hV24, -⟩ G
        refine stepAt.call (f := 15) (args := #[]) rfl (wanted_by (g := 22) (b := true) (t := 56) rfl (by kernel_rfl) (congrArg some (show vs 22 = _ from hV22 rfl))) (by go_simp) ?_
        exact (known_u u).mono fun _ _ ⟨v, h1, h2, h3⟩ => ⟨v, h1, h2, h3.now⟩
      · rintro vs u ⟨hV0, hV1, hV2, hV3, hV4, hV5, hV6, hV7, hV8, hV9, hV10, hV11, hV12, hV13, hV14, hV15, hV16, hV17, hV18, hV19, hV20, hV21, hV22, hV23, hV24, -⟩ G
        have eV22 : vs 22 = .bool true := hV22 rfl
        have eV23 : vs 23 = .bool true := hV23 rfl
        exact stepAt.pure (v := .bool true) rfl rfl (by simp only [eV22, eV23]; go_simp) rfl
    case looses9 =>
      exact trivial
    rintro vs U7 ⟨hV0, hV1, hV2, hV3, hV4, hV5, hV6, hV7, hV8, hV9, hV10, hV11, hV12, hV13, hV14, hV15, hV16, hV17, hV18, hV19, hV20, hV21, hV22, hV23, hV24, -⟩ G
    have eV0 : vs 0 = .agg #[.slice A2_1 n2_1 c2_1, .slice B2_1 m2_1 k2_1] := hV0
    have eV1 : vs 1 = .int .i64 r := hV1
    have eV2 : vs 2 = .agg #[.slice A6_1 n6_1 c6_1, .slice B6_1 m6_1 k6_1] := hV2
    replace hV3 : Hold (fun u' => (Agg (QV sha ((ea.map qOf).map (fun q => -q)) (3 * (L + 2)))) u' (vs 3)) U7 := hV3
    obtain ⟨A7_3, n7_3, c7_3, B7_3, m7_3, k7_3, eV3, -⟩ := hV3.now
    rw [eV3] at hV3
    have eV4 : vs 4 = .int .i64 r := hV4
    have eV5 : vs 5 = .bool true := hV5
    have eV6 : vs 6 = .bool true := hV6
    have eV7 : vs 7 = .agg #[.slice A3_1 n3_1 c3_1, .slice B3_1 m3_1 k3_1] := hV7
    have eV8 : vs 8 = .int .i64 r := hV8
    have eV9 : vs 9 = .agg #[.slice A6_1 n6_1 c6_1, .slice B6_1 m6_1 k6_1] := hV9
    replace hV10 : Hold (fun u' => (Agg (QV sha ((ea.map qOf).map (fun q => (if q.num.sign < 0 then 0 else q : Rat))) (3 * (L + 2)))) u' (vs 10)) U7 := hV10
    obtain ⟨A7_10, n7_10, c7_10, B7_10, m7_10, k7_10, eV10, -⟩ := hV10.now
    rw [eV10] at hV10
    have eV11 : vs 11 = .int .i64 r := hV11
    have eV12 : vs 12 = .bool true := hV12
    have eV13 : vs 13 = .bool true := hV13
    have eV14 : vs 14 = .bool true := hV14
    have eV15 : vs 15 = .agg #[.slice A4_1 n4_1 c4_1, .slice B4_1 m4_1 k4_1] := hV15
    have eV16 : vs 16 = .int .i64 r := hV16
    have eV17 : vs 17 = .agg #[.slice A6_1 n6_1 c6_1, .slice B6_1 m6_1 k6_1] := hV17
    replace hV18 : Hold (fun u' => (Agg (QV sha ((ea.map qOf).map (fun q => (((max q.num.sign 0 : Int) : Rat) : Rat))) (3 * (L + 2)))) u' (vs 18)) U7 := hV18
    obtain ⟨A7_18, n7_18, c7_18, B7_18, m7_18, k7_18, eV18, -⟩ := hV18.now
    rw [eV18] at hV18
    have eV19 : vs 19 = .int .i64 r := hV19
    have eV20 : vs 20 = .bool true := hV20
    have eV21 : vs 21 = .bool true := hV21
    have eV22 : vs 22 = .bool true := hV22
    have eV23 : vs 23 = .bool true := hV23
    have eV24 : vs 24 = .bool true := hV24
    simp only [eV0, eV1, eV2, eV3, eV4, eV5, eV6, eV7, eV8, eV9, eV10, eV11, eV12, eV13, eV14, eV15, eV16, eV17, eV18, eV19, eV20, eV21, eV22, eV23, eV24]
    clear eV0 eV1 eV2 eV3 eV4 eV5 eV6 eV7 eV8 eV9 eV10 eV11 eV12 eV13 eV14 eV15 eV16 eV17 eV18 eV19 eV20 eV21 eV22 eV23 eV24 hV0 hV1 hV2 hV4 hV5 hV6 hV7 hV8 hV9 hV11 hV12 hV13 hV14 hV15 hV16 hV17 hV19 hV20 hV21 hV22 hV23 hV24
    refine wpTill.next 25 rfl (by kernel_rfl) (by rfl) (fun K hK => ?_)
    go_simp
    refine hK _ _ (no_wait (by kernel_rfl)) ?_
    clear hK K
    refine wpTill.done (by kernel_rfl) ?_
    replace xa := xa.keep G
    replace z2 := z2.keep G
    replace z3 := z3.keep G
    replace z4 := z4.keep G
    replace z6 := z6.keep G
    replace HA := HA.keep G
    replace T2 := T2.keep G
    replace T3 := T3.keep G
    replace T4 := T4.keep G
    replace T6 := T6.keep G
    replace F := fr_then F G
    clear G
    repeat' ((fail_if_success (with_reducible refine wpTill.row (fun _ => True) 0 ?_ ?_)); go_step)
    go_ret
    exact ⟨rfl, F⟩
end Go.Proofs.YtlknmoegngjpcaaGreat

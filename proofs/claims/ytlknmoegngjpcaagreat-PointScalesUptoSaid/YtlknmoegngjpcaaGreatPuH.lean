import Derived.Test.YtlknmoegngjpcaaGreatPtZ
set_option linter.unusedSimpArgs false
set_option linter.unusedVariables false

/- PointScales: printed by gen_pta.py. -/
namespace Go.Proofs.YtlknmoegngjpcaaGreat
open Go.RowKit

set_option maxRecDepth 20000 in
set_option maxHeartbeats 32000000 in
theorem pscales_walk {S : Nat → Prop} {sha : List Int} {ea : List RatL} {sx : Bool} {xs ys : List Nat} (w : World) (vx vy : Value) (L : Nat) (hx : TL S w vx sha ea L) (hy : RL S w vy sx xs ys L) (hL : L ≤ 1048576) :
    Calls Tryz.prog 7 #[vx, vy] w fun e w' => e = .returned (.bool true) ∧ Fr (fun k => k < w.heap.size) w w' := by
  have FA := Lib.hid (hx.fit hL)
  have FQA := Lib.hid (FA.out.fq)
  obtain ⟨va, ve, rfl, ha, he⟩ := hx.ex
  obtain ⟨A, c, rfl, _, _, _⟩ := ha.slice
  obtain ⟨A', c', rfl, _, _, _⟩ := he.slice
  have HA := TV.hold ⟨ha.any, he.any⟩
  obtain ⟨P, n1, c1, Q, n2, c2, rfl, hkx, hky, lkx, lky⟩ := hy.open
  have HY := Lib.hid (show (sx, xs, ys).2.1.length ≤ L + 2 ∧ (sx, xs, ys).2.2.length ≤ L + 2 from ⟨by show xs.length ≤ _; omega, by show ys.length ≤ _; omega⟩)
  obtain ⟨P, y1, e1, _, _, _⟩ := hkx.slice
  obtain ⟨Q, y2, e2, _, _, _⟩ := hky.slice
  cases e1
  cases e2
  have HB := LV.hold (x := (sx, xs, ys)) ⟨hkx.any, hky.any⟩
  clear hy
  clear hx ha he
  have F := ((Fr.refl (fun k => k < w.heap.size) w).alloc (.cells #[.slice A sha.length c, .slice A' ea.length c'] 26)).alloc (.cells #[.bool sx, .slice P xs.length c1, .slice Q ys.length c2] 51)
  have xa := (Box2.new w 26 (.slice A sha.length c) (.slice A' ea.length c')).alloc (.cells #[.bool sx, .slice P xs.length c1, .slice Q ys.length c2] 51)
  have xb := Box3.new (w.alloc (.cells #[.slice A sha.length c, .slice A' ea.length c'] 26)) 51 (.bool sx) (.slice P xs.length c1) (.slice Q ys.length c2)
  simp only [World.size_alloc] at xb
  replace HA := HA.keep (F.mono fun k h _ => h)
  obtain ⟨b1, hb1⟩ : ∃ b, fewB ea = b := ⟨_, rfl⟩
  obtain ⟨r, hr⟩ : ∃ r, mayT sha ea = r := ⟨_, rfl⟩
  have HB1 := Lib.hid hb1
  have HR := Lib.hid hr
  replace HB := HB.keep (F.mono fun k h _ => h)
  have HS := Lib.hid (show r = 0 → sha = sha ∧ (ea.map fun x => canR (qOf x * qOf (sx, xs, ys))) = ((ea.map qOf).map (fun q => q * qOf (sx, xs, ys))).map canR from fun _ => ⟨rfl, by rw [List.map_map, List.map_map]; rfl⟩)
  clear hb1 hr
  go_enter Tryz.func7, Tryz.ntmps7
  repeat' ((fail_if_success (with_reducible refine wpTill.row (fun _ => True) 0 ?_ ?_)); go_step)
  apply wp_region_lit
  repeat' ((fail_if_success (with_reducible refine wpTill.row (fun _ => True) 0 ?_ ?_)); go_step)
  generalize (w.alloc (.cells #[.slice A sha.length c, .slice A' ea.length c'] 26)).alloc (.cells #[.bool sx, .slice P xs.length c1, .slice Q ys.length c2] 51) = W0 at F xa HA xb HB ⊢
  cases b1
  · refine wpTill.row (fun _ => True) 14 (by kernel_rfl) ?_
    change wpTill _ _ _ _ _ _ 15 _ _ _
    refine wpTill.free (jj := 14) (m := 0) [(0, Fact.eq (.agg #[.slice A sha.length c, .slice A' ea.length c'])),
      (1, Fact.eq (.bool false)),
      (2, Fact.eq (.bool true)),
      (3, Fact.eq (.bool true)),
      (4, Fact.eq undef),
      (5, Fact.eq undef),
      (6, Fact.eq undef),
      (7, Fact.eq undef),
      (8, Fact.eq (.bool true)),
      (9, Fact.eq (.bool true)),
      (10, Fact.eq undef),
      (11, Fact.eq undef),
      (12, Fact.eq undef),
      (13, Fact.eq undef),
      (14, Fact.eq (.bool true))] [] [0, 1, 3, 7, 15, 31, 63, 127, 255, 511, 1023, 2047, 4095, 8191, 16383] [] ?_ (by kernel_rfl) (by kernel_rfl) (by kernel_rfl) [(0, some 7), (1, some 8), (2, some 9), (3, some 10), (4, some 11), (5, some 12), (6, some 13), (7, some 14), (8, some 15), (9, some 16), (10, some 17), (11, some 18), (12, some 19), (13, some 20), (14, some 21)] (by kernel_rfl) ?hA25 ?hQ25 (fun _ _ => trivial) (by kernel_rfl) ?steps25 ?looses25 ?cont25
    case hQ25 => exact fun _ _ _ _ _ h => h
    case hA25 =>
      intro vs
      simp only [fillD, List.foldl_cons, List.foldl_nil, Act.put, List.setIfInBounds_toArray, List.set_cons_zero, List.set_cons_succ]
      exact rfl
    case steps25 =>
      refine ⟨?_, ?_, ?_, ?_, ?_, ?_, ?_, ?_, ?_, ?_, ?_, ?_, ?_, ?_, ?_, trivial⟩
      · rintro vs u ⟨hV0, hV1, hV2, hV3, hV4, hV5, hV6, hV7, hV8, hV9, hV10, hV11, hV12, hV13, hV14, -⟩ G
        have o0 := (xa.keep G).c0
        have o1 := (xa.keep G).c1
        exact stepAt.pure (v := .agg #[.slice A sha.length c, .slice A' ea.length c']) rfl rfl (by go_simp) rfl
      · rintro vs u ⟨hV0, hV1, hV2, hV3, hV4, hV5, hV6, hV7, hV8, hV9, hV10, hV11, hV12, hV13, hV14, -⟩ G
        refine stepAt.call (f := 11) (args := #[vs 0]) rfl rfl (by go_simp) ?_
        have eV0 : vs 0 = .agg #[.slice A sha.length c, .slice A' ea.length c'] := hV0 rfl
        rw [eV0]
        exact (few_u (HA.at G) HB1).mono fun _ _ ⟨v, h1, h2, h3⟩ => ⟨v, h1, h2, h3.now⟩
      · rintro vs u ⟨hV0, hV1, hV2, hV3, hV4, hV5, hV6, hV7, hV8, hV9, hV10, hV11, hV12, hV13, hV14, -⟩ G
        have eV1 : vs 1 = .bool false := hV1 rfl
        exact stepAt.pure (v := .bool true) rfl rfl (by simp only [eV1]; go_simp) rfl
      · rintro vs u ⟨hV0, hV1, hV2, hV3, hV4, hV5, hV6, hV7, hV8, hV9, hV10, hV11, hV12, hV13, hV14, -⟩ G
        have eV2 : vs 2 = .bool true := hV2 rfl
        exact stepAt.pure (v := .bool true) rfl rfl (by simp only [eV2]; go_simp) rfl
      · rintro vs u ⟨hV0, hV1, hV2, hV3, hV4, hV5, hV6, hV7, hV8, hV9, hV10, hV11, hV12, hV13, hV14, -⟩ G
        exact stepAt.unwanted rfl (wanted_not (g := 3) (b := false) (t := 10) rfl (by kernel_rfl) (congrArg some (show vs 3 = _ from hV3 rfl))) rfl
      · rintro vs u ⟨hV0, hV1, hV2, hV3, hV4, hV5, hV6, hV7, hV8, hV9, hV10, hV11, hV12, hV13, hV14, -⟩ G
        exact stepAt.unwanted rfl (wanted_not (g := 3) (b := false) (t := 10) rfl (by kernel_rfl) (congrArg some (show vs 3 = _ from hV3 rfl))) rfl
      · rintro vs u ⟨hV0, hV1, hV2, hV3, hV4, hV5, hV6, hV7, hV8, hV9, hV10, hV11, hV12, hV13, hV14, -⟩ G
        exact stepAt.unwanted rfl (wanted_not (g := 3) (b := false) (t := 10) rfl (by kernel_rfl) (congrArg some (show vs 3 = _ from hV3 rfl))) rfl
      · rintro vs u ⟨hV0, hV1, hV2, hV3, hV4, hV5, hV6, hV7, hV8, hV9, hV10, hV11, hV12, hV13, hV14, -⟩ G
        exact stepAt.unwanted rfl (wanted_not (g := 3) (b := false) (t := 10) rfl (by kernel_rfl) (congrArg some (show vs 3 = _ from hV3 rfl))) rfl
      · rintro vs u ⟨hV0, hV1, hV2, hV3, hV4, hV5, hV6, hV7, hV8, hV9, hV10, hV11, hV12, hV13, hV14, -⟩ G
        have eV3 : vs 3 = .bool true := hV3 rfl
        have eV7 : vs 7 = undef := hV7 rfl
        exact stepAt.pure (v := .bool true) rfl rfl (by simp only [eV3, eV7]; go_simp) rfl
      · rintro vs u ⟨hV0, hV1, hV2, hV3, hV4, hV5, hV6, hV7, hV8, hV9, hV10, hV11, hV12, hV13, hV14, -⟩ G
        have eV8 : vs 8 = .bool true := hV8 rfl
        exact stepAt.pure (v := .bool true) rfl rfl (by simp only [eV8]; go_simp) rfl
      · rintro vs u ⟨hV0, hV1, hV2, hV3, hV4, hV5, hV6, hV7, hV8, hV9, hV10, hV11, hV12, hV13, hV14, -⟩ G
        exact stepAt.unwanted rfl (wanted_not (g := 9) (b := false) (t := 16) rfl (by kernel_rfl) (congrArg some (show vs 9 = _ from hV9 rfl))) rfl
      · rintro vs u ⟨hV0, hV1, hV2, hV3, hV4, hV5, hV6, hV7, hV8, hV9, hV10, hV11, hV12, hV13, hV14, -⟩ G
        exact stepAt.unwanted rfl (wanted_not (g := 9) (b := false) (t := 16) rfl (by kernel_rfl) (congrArg some (show vs 9 = _ from hV9 rfl))) rfl
      · rintro vs u ⟨hV0, hV1, hV2, hV3, hV4, hV5, hV6, hV7, hV8, hV9, hV10, hV11, hV12, hV13, hV14, -⟩ G
        exact stepAt.unwanted rfl (wanted_not (g := 9) (b := false) (t := 16) rfl (by kernel_rfl) (congrArg some (show vs 9 = _ from hV9 rfl))) rfl
      · rintro vs u ⟨hV0, hV1, hV2, hV3, hV4, hV5, hV6, hV7, hV8, hV9, hV10, hV11, hV12, hV13, hV14, -⟩ G
        exact stepAt.unwanted rfl (wanted_not (g := 9) (b := false) (t := 16) rfl (by kernel_rfl) (congrArg some (show vs 9 = _ from hV9 rfl))) rfl
      · rintro vs u ⟨hV0, hV1, hV2, hV3, hV4, hV5, hV6, hV7, hV8, hV9, hV10, hV11, hV12, hV13, hV14, -⟩ G
        have eV9 : vs 9 = .bool true := hV9 rfl
        have eV13 : vs 13 = undef := hV13 rfl
        exact stepAt.pure (v := .bool true) rfl rfl (by simp only [eV9, eV13]; go_simp) rfl
    case looses25 =>
      exact trivial
    rintro vs U1 ⟨hV0, hV1, hV2, hV3, hV4, hV5, hV6, hV7, hV8, hV9, hV10, hV11, hV12, hV13, hV14, -⟩ G
    have eV0 : vs 0 = .agg #[.slice A sha.length c, .slice A' ea.length c'] := hV0
    have eV1 : vs 1 = .bool false := hV1
    have eV2 : vs 2 = .bool true := hV2
    have eV3 : vs 3 = .bool true := hV3
    have eV4 : vs 4 = undef := hV4
    have eV5 : vs 5 = undef := hV5
    have eV6 : vs 6 = undef := hV6
    have eV7 : vs 7 = undef := hV7
    have eV8 : vs 8 = .bool true := hV8
    have eV9 : vs 9 = .bool true := hV9
    have eV10 : vs 10 = undef := hV10
    have eV11 : vs 11 = undef := hV11
    have eV12 : vs 12 = undef := hV12
    have eV13 : vs 13 = undef := hV13
    have eV14 : vs 14 = .bool true := hV14
    simp only [eV0, eV1, eV2, eV3, eV4, eV5, eV6, eV7, eV8, eV9, eV10, eV11, eV12, eV13, eV14]
    clear eV0 eV1 eV2 eV3 eV4 eV5 eV6 eV7 eV8 eV9 eV10 eV11 eV12 eV13 eV14 hV0 hV1 hV2 hV3 hV4 hV5 hV6 hV7 hV8 hV9 hV10 hV11 hV12 hV13 hV14
    refine wpTill.done (by kernel_rfl) ?_
    replace xa := xa.keep G
    replace xb := xb.keep G
    replace HA := HA.keep G
    replace HB := HB.keep G
    replace F := fr_then F G
    clear G
    repeat' ((fail_if_success (with_reducible refine wpTill.row (fun _ => True) 0 ?_ ?_)); go_step)
    refine wpTill.row (fun _ => True) 1 (by kernel_rfl) ?_
    change wpTill _ _ _ _ _ _ 2 _ _ _
    refine wpTill.free (jj := 1) (m := 1) [(0, Fact.eq (.bool true))] [] [0, 1] [] ?_ (by kernel_rfl) (by kernel_rfl) (by kernel_rfl) [(0, some 22)] (by kernel_rfl) ?hA26 ?hQ26 (fun _ _ => trivial) (by kernel_rfl) ?steps26 ?looses26 ?cont26
    case hQ26 => exact fun _ _ _ _ _ h => h
    case hA26 =>
      intro vs
      simp only [fillD, List.foldl_cons, List.foldl_nil, Act.put, List.setIfInBounds_toArray, List.set_cons_zero, List.set_cons_succ]
      exact rfl
    case steps26 =>
      refine ⟨?_, trivial⟩
      · rintro vs u ⟨hV0, -⟩ G
        refine stepAt.call (f := 15) (args := #[]) rfl rfl (by go_simp) ?_
        exact (known_u u).mono fun _ _ ⟨v, h1, h2, h3⟩ => ⟨v, h1, h2, h3.now⟩
    case looses26 =>
      exact trivial
    rintro vs U2 ⟨hV0, -⟩ G
    have eV0 : vs 0 = .bool true := hV0
    simp only [eV0]
    clear eV0 hV0
    refine wpTill.next 1 rfl (by kernel_rfl) (by rfl) (fun K hK => ?_)
    go_simp
    refine hK _ _ (no_wait (by kernel_rfl)) ?_
    clear hK K
    refine wpTill.done (by kernel_rfl) ?_
    replace xa := xa.keep G
    replace xb := xb.keep G
    replace HA := HA.keep G
    replace HB := HB.keep G
    replace F := fr_then F G
    clear G
    repeat' ((fail_if_success (with_reducible refine wpTill.row (fun _ => True) 0 ?_ ?_)); go_step)
    go_ret
    exact ⟨rfl, F⟩
  · by_cases h6 : 6 < xs.length
    · refine wpTill.row (fun _ => True) 14 (by kernel_rfl) ?_
      change wpTill _ _ _ _ _ _ 15 _ _ _
      refine wpTill.free (jj := 14) (m := 0) [(0, Fact.eq (.agg #[.slice A sha.length c, .slice A' ea.length c'])),
      (1, Fact.eq (.bool true)),
      (2, Fact.eq (.bool false)),
      (3, Fact.eq (.bool false)),
      (4, Fact.eq (.pointer (some ⟨w.heap.size + 1, 1, none⟩))),
      (5, Fact.eq (.slice P xs.length c1)),
      (6, Fact.eq (.int .i64 xs.length)),
      (7, Fact.eq (.bool true)),
      (8, Fact.eq (.bool true)),
      (9, Fact.eq (.bool true)),
      (10, Fact.eq undef),
      (11, Fact.eq undef),
      (12, Fact.eq undef),
      (13, Fact.eq undef),
      (14, Fact.eq (.bool true))] [] [0, 1, 3, 7, 15, 31, 63, 127, 255, 511, 1023, 2047, 4095, 8191, 16383] [] ?_ (by kernel_rfl) (by kernel_rfl) (by kernel_rfl) [(0, some 7), (1, some 8), (2, some 9), (3, some 10), (4, some 11), (5, some 12), (6, some 13), (7, some 14), (8, some 15), (9, some 16), (10, some 17), (11, some 18), (12, some 19), (13, some 20), (14, some 21)] (by kernel_rfl) ?hA27 ?hQ27 (fun _ _ => trivial) (by kernel_rfl) ?steps27 ?looses27 ?cont27
      case hQ27 => exact fun _ _ _ _ _ h => h
      case hA27 =>
        intro vs
        simp only [fillD, List.foldl_cons, List.foldl_nil, Act.put, List.setIfInBounds_toArray, List.set_cons_zero, List.set_cons_succ]
        exact rfl
      case steps27 =>
        refine ⟨?_, ?_, ?_, ?_, ?_, ?_, ?_, ?_, ?_, ?_, ?_, ?_, ?_, ?_, ?_, trivial⟩
        · rintro vs u ⟨hV0, hV1, hV2, hV3, hV4, hV5, hV6, hV7, hV8, hV9, hV10, hV11, hV12, hV13, hV14, -⟩ G
          have o0 := (xa.keep G).c0
          have o1 := (xa.keep G).c1
          exact stepAt.pure (v := .agg #[.slice A sha.length c, .slice A' ea.length c']) rfl rfl (by go_simp) rfl
        · rintro vs u ⟨hV0, hV1, hV2, hV3, hV4, hV5, hV6, hV7, hV8, hV9, hV10, hV11, hV12, hV13, hV14, -⟩ G
          refine stepAt.call (f := 11) (args := #[vs 0]) rfl rfl (by go_simp) ?_
          have eV0 : vs 0 = .agg #[.slice A sha.length c, .slice A' ea.length c'] := hV0 rfl
          rw [eV0]
          exact (few_u (HA.at G) HB1).mono fun _ _ ⟨v, h1, h2, h3⟩ => ⟨v, h1, h2, h3.now⟩
        · rintro vs u ⟨hV0, hV1, hV2, hV3, hV4, hV5, hV6, hV7, hV8, hV9, hV10, hV11, hV12, hV13, hV14, -⟩ G
          have eV1 : vs 1 = .bool true := hV1 rfl
          exact stepAt.pure (v := .bool false) rfl rfl (by simp only [eV1]; go_simp) rfl
        · rintro vs u ⟨hV0, hV1, hV2, hV3, hV4, hV5, hV6, hV7, hV8, hV9, hV10, hV11, hV12, hV13, hV14, -⟩ G
          have eV2 : vs 2 = .bool false := hV2 rfl
          exact stepAt.pure (v := .bool false) rfl rfl (by simp only [eV2]; go_simp) rfl
        · rintro vs u ⟨hV0, hV1, hV2, hV3, hV4, hV5, hV6, hV7, hV8, hV9, hV10, hV11, hV12, hV13, hV14, -⟩ G
          exact stepAt.pure (v := .pointer (some ⟨w.heap.size + 1, 1, none⟩)) rfl (wanted_by (g := 3) (b := false) (t := 10) rfl (by kernel_rfl) (congrArg some (show vs 3 = _ from hV3 rfl))) (by go_simp) rfl
        · rintro vs u ⟨hV0, hV1, hV2, hV3, hV4, hV5, hV6, hV7, hV8, hV9, hV10, hV11, hV12, hV13, hV14, -⟩ G
          have o0 := (xb.keep G).c1
          have eV4 : vs 4 = .pointer (some ⟨w.heap.size + 1, 1, none⟩) := hV4 rfl
          exact stepAt.pure (v := .slice P xs.length c1) rfl (wanted_by (g := 3) (b := false) (t := 10) rfl (by kernel_rfl) (congrArg some (show vs 3 = _ from hV3 rfl))) (by simp only [eV4]; go_simp) rfl
        · rintro vs u ⟨hV0, hV1, hV2, hV3, hV4, hV5, hV6, hV7, hV8, hV9, hV10, hV11, hV12, hV13, hV14, -⟩ G
          have eV5 : vs 5 = .slice P xs.length c1 := hV5 rfl
          exact stepAt.pure (v := .int .i64 xs.length) rfl (wanted_by (g := 3) (b := false) (t := 10) rfl (by kernel_rfl) (congrArg some (show vs 3 = _ from hV3 rfl))) (by simp only [eV5]; go_simp) rfl
        · rintro vs u ⟨hV0, hV1, hV2, hV3, hV4, hV5, hV6, hV7, hV8, hV9, hV10, hV11, hV12, hV13, hV14, -⟩ G
          have eV6 : vs 6 = .int .i64 xs.length := hV6 rfl
          exact stepAt.pure (v := .bool true) rfl (wanted_by (g := 3) (b := false) (t := 10) rfl (by kernel_rfl) (congrArg some (show vs 3 = _ from hV3 rfl))) (by simp only [eV6]; go_simp <;> omega) rfl
        · rintro vs u ⟨hV0, hV1, hV2, hV3, hV4, hV5, hV6, hV7, hV8, hV9, hV10, hV11, hV12, hV13, hV14, -⟩ G
          have eV3 : vs 3 = .bool false := hV3 rfl
          have eV7 : vs 7 = .bool true := hV7 rfl
          exact stepAt.pure (v := .bool true) rfl rfl (by simp only [eV3, eV7]; go_simp) rfl
        · rintro vs u ⟨hV0, hV1, hV2, hV3, hV4, hV5, hV6, hV7, hV8, hV9, hV10, hV11, hV12, hV13, hV14, -⟩ G
          have eV8 : vs 8 = .bool true := hV8 rfl
          exact stepAt.pure (v := .bool true) rfl rfl (by simp only [eV8]; go_simp) rfl
        · rintro vs u ⟨hV0, hV1, hV2, hV3, hV4, hV5, hV6, hV7, hV8, hV9, hV10, hV11, hV12, hV13, hV14, -⟩ G
          exact stepAt.unwanted rfl (wanted_not (g := 9) (b := false) (t := 16) rfl (by kernel_rfl) (congrArg some (show vs 9 = _ from hV9 rfl))) rfl
        · rintro vs u ⟨hV0, hV1, hV2, hV3, hV4, hV5, hV6, hV7, hV8, hV9, hV10, hV11, hV12, hV13, hV14, -⟩ G
          exact stepAt.unwanted rfl (wanted_not (g := 9) (b := false) (t := 16) rfl (by kernel_rfl) (congrArg some (show vs 9 = _ from hV9 rfl))) rfl
        · rintro vs u ⟨hV0, hV1, hV2, hV3, hV4, hV5, hV6, hV7, hV8, hV9, hV10, hV11, hV12, hV13, hV14, -⟩ G
          exact stepAt.unwanted rfl (wanted_not (g := 9) (b := false) (t := 16) rfl (by kernel_rfl) (congrArg some (show vs 9 = _ from hV9 rfl))) rfl
        · rintro vs u ⟨hV0, hV1, hV2, hV3, hV4, hV5, hV6, hV7, hV8, hV9, hV10, hV11, hV12, hV13, hV14, -⟩ G
          exact stepAt.unwanted rfl (wanted_not (g := 9) (b := false) (t := 16) rfl (by kernel_rfl) (congrArg some (show vs 9 = _ from hV9 rfl))) rfl
        · rintro vs u ⟨hV0, hV1, hV2, hV3, hV4, hV5, hV6, hV7, hV8, hV9, hV10, hV11, hV12, hV13, hV14, -⟩ G
          have eV9 : vs 9 = .bool true := hV9 rfl
          have eV13 : vs 13 = undef := hV13 rfl
          exact stepAt.pure (v := .bool true) rfl rfl (by simp only [eV9, eV13]; go_simp) rfl
      case looses27 =>
        exact trivial
      rintro vs U1 ⟨hV0, hV1, hV2, hV3, hV4, hV5, hV6, hV7, hV8, hV9, hV10, hV11, hV12, hV13, hV14, -⟩ G
      have eV0 : vs 0 = .agg #[.slice A sha.length c, .slice A' ea.length c'] := hV0
      have eV1 : vs 1 = .bool true := hV1
      have eV2 : vs 2 = .bool false := hV2
      have eV3 : vs 3 = .bool false := hV3
      have eV4 : vs 4 = .pointer (some ⟨w.heap.size + 1, 1, none⟩) := hV4
      have eV5 : vs 5 = .slice P xs.length c1 := hV5
      have eV6 : vs 6 = .int .i64 xs.length := hV6
      have eV7 : vs 7 = .bool true := hV7
      have eV8 : vs 8 = .bool true := hV8
      have eV9 : vs 9 = .bool true := hV9
      have eV10 : vs 10 = undef := hV10
      have eV11 : vs 11 = undef := hV11
      have eV12 : vs 12 = undef := hV12
      have eV13 : vs 13 = undef := hV13
      have eV14 : vs 14 = .bool true := hV14
      simp only [eV0, eV1, eV2, eV3, eV4, eV5, eV6, eV7, eV8, eV9, eV10, eV11, eV12, eV13, eV14]
      clear eV0 eV1 eV2 eV3 eV4 eV5 eV6 eV7 eV8 eV9 eV10 eV11 eV12 eV13 eV14 hV0 hV1 hV2 hV3 hV4 hV5 hV6 hV7 hV8 hV9 hV10 hV11 hV12 hV13 hV14
      refine wpTill.done (by kernel_rfl) ?_
      replace xa := xa.keep G
      replace xb := xb.keep G
      replace HA := HA.keep G
      replace HB := HB.keep G
      replace F := fr_then F G
      clear G
      repeat' ((fail_if_success (with_reducible refine wpTill.row (fun _ => True) 0 ?_ ?_)); go_step)
      refine wpTill.row (fun _ => True) 1 (by kernel_rfl) ?_
      change wpTill _ _ _ _ _ _ 2 _ _ _
      refine wpTill.free (jj := 1) (m := 1) [(0, Fact.eq (.bool true))] [] [0, 1] [] ?_ (by kernel_rfl) (by kernel_rfl) (by kernel_rfl) [(0, some 22)] (by kernel_rfl) ?hA28 ?hQ28 (fun _ _ => trivial) (by kernel_rfl) ?steps28 ?looses28 ?cont28
      case hQ28 => exact fun _ _ _ _ _ h => h
      case hA28 =>
        intro vs
        simp only [fillD, List.foldl_cons, List.foldl_nil, Act.put, List.setIfInBounds_toArray, List.set_cons_zero, List.set_cons_succ]
        exact rfl
      case steps28 =>
        refine ⟨?_, trivial⟩
        · rintro vs u ⟨hV0, -⟩ G
          refine stepAt.call (f := 15) (args := #[]) rfl rfl (by go_simp) ?_
          exact (known_u u).mono fun _ _ ⟨v, h1, h2, h3⟩ => ⟨v, h1, h2, h3.now⟩
      case looses28 =>
        exact trivial
      rintro vs U2 ⟨hV0, -⟩ G
      have eV0 : vs 0 = .bool true := hV0
      simp only [eV0]
      clear eV0 hV0
      refine wpTill.next 1 rfl (by kernel_rfl) (by rfl) (fun K hK => ?_)
      go_simp
      refine hK _ _ (no_wait (by kernel_rfl)) ?_
      clear hK K
      refine wpTill.done (by kernel_rfl) ?_
      replace xa := xa.keep G
      replace xb := xb.keep G
      replace HA := HA.keep G
      replace HB := HB.keep G
      replace F := fr_then F G
      clear G
      repeat' ((fail_if_success (with_reducible refine wpTill.row (fun _ => True) 0 ?_ ?_)); go_step)
      go_ret
      exact ⟨rfl, F⟩
    · by_cases h7 : 6 < ys.length
      · refine wpTill.row (fun _ => True) 14 (by kernel_rfl) ?_
        change wpTill _ _ _ _ _ _ 15 _ _ _
        refine wpTill.free (jj := 14) (m := 0) [(0, Fact.eq (.agg #[.slice A sha.length c, .slice A' ea.length c'])),
      (1, Fact.eq (.bool true)),
      (2, Fact.eq (.bool false)),
      (3, Fact.eq (.bool false)),
      (4, Fact.eq (.pointer (some ⟨w.heap.size + 1, 1, none⟩))),
      (5, Fact.eq (.slice P xs.length c1)),
      (6, Fact.eq (.int .i64 xs.length)),
      (7, Fact.eq (.bool false)),
      (8, Fact.eq (.bool false)),
      (9, Fact.eq (.bool false)),
      (10, Fact.eq (.pointer (some ⟨w.heap.size + 1, 2, none⟩))),
      (11, Fact.eq (.slice Q ys.length c2)),
      (12, Fact.eq (.int .i64 ys.length)),
      (13, Fact.eq (.bool true)),
      (14, Fact.eq (.bool true))] [] [0, 1, 3, 7, 15, 31, 63, 127, 255, 511, 1023, 2047, 4095, 8191, 16383] [] ?_ (by kernel_rfl) (by kernel_rfl) (by kernel_rfl) [(0, some 7), (1, some 8), (2, some 9), (3, some 10), (4, some 11), (5, some 12), (6, some 13), (7, some 14), (8, some 15), (9, some 16), (10, some 17), (11, some 18), (12, some 19), (13, some 20), (14, some 21)] (by kernel_rfl) ?hA29 ?hQ29 (fun _ _ => trivial) (by kernel_rfl) ?steps29 ?looses29 ?cont29
        case hQ29 => exact fun _ _ _ _ _ h => h
        case hA29 =>
          intro vs
          simp only [fillD, List.foldl_cons, List.foldl_nil, Act.put, List.setIfInBounds_toArray, List.set_cons_zero, List.set_cons_succ]
          exact rfl
        case steps29 =>
          refine ⟨?_, ?_, ?_, ?_, ?_, ?_, ?_, ?_, ?_, ?_, ?_, ?_, ?_, ?_, ?_, trivial⟩
          · rintro vs u ⟨hV0, hV1, hV2, hV3, hV4, hV5, hV6, hV7, hV8, hV9, hV10, hV11, hV12, hV13, hV14, -⟩ G
            have o0 := (xa.keep G).c0
            have o1 := (xa.keep G).c1
            exact stepAt.pure (v := .agg #[.slice A sha.length c, .slice A' ea.length c']) rfl rfl (by go_simp) rfl
          · rintro vs u ⟨hV0, hV1, hV2, hV3, hV4, hV5, hV6, hV7, hV8, hV9, hV10, hV11, hV12, hV13, hV14, -⟩ G
            refine stepAt.call (f := 11) (args := #[vs 0]) rfl rfl (by go_simp) ?_
            have eV0 : vs 0 = .agg #[.slice A sha.length c, .slice A' ea.length c'] := hV0 rfl
            rw [eV0]
            exact (few_u (HA.at G) HB1).mono fun _ _ ⟨v, h1, h2, h3⟩ => ⟨v, h1, h2, h3.now⟩
          · rintro vs u ⟨hV0, hV1, hV2, hV3, hV4, hV5, hV6, hV7, hV8, hV9, hV10, hV11, hV12, hV13, hV14, -⟩ G
            have eV1 : vs 1 = .bool true := hV1 rfl
            exact stepAt.pure (v := .bool false) rfl rfl (by simp only [eV1]; go_simp) rfl
          · rintro vs u ⟨hV0, hV1, hV2, hV3, hV4, hV5, hV6, hV7, hV8, hV9, hV10, hV11, hV12, hV13, hV14, -⟩ G
            have eV2 : vs 2 = .bool false := hV2 rfl
            exact stepAt.pure (v := .bool false) rfl rfl (by simp only [eV2]; go_simp) rfl
          · rintro vs u ⟨hV0, hV1, hV2, hV3, hV4, hV5, hV6, hV7, hV8, hV9, hV10, hV11, hV12, hV13, hV14, -⟩ G
            exact stepAt.pure (v := .pointer (some ⟨w.heap.size + 1, 1, none⟩)) rfl (wanted_by (g := 3) (b := false) (t := 10) rfl (by kernel_rfl) (congrArg some (show vs 3 = _ from hV3 rfl))) (by go_simp) rfl
          · rintro vs u ⟨hV0, hV1, hV2, hV3, hV4, hV5, hV6, hV7, hV8, hV9, hV10, hV11, hV12, hV13, hV14, -⟩ G
            have o0 := (xb.keep G).c1
            have eV4 : vs 4 = .pointer (some ⟨w.heap.size + 1, 1, none⟩) := hV4 rfl
            exact stepAt.pure (v := .slice P xs.length c1) rfl (wanted_by (g := 3) (b := false) (t := 10) rfl (by kernel_rfl) (congrArg some (show vs 3 = _ from hV3 rfl))) (by simp only [eV4]; go_simp) rfl
          · rintro vs u ⟨hV0, hV1, hV2, hV3, hV4, hV5, hV6, hV7, hV8, hV9, hV10, hV11, hV12, hV13, hV14, -⟩ G
            have eV5 : vs 5 = .slice P xs.length c1 := hV5 rfl
            exact stepAt.pure (v := .int .i64 xs.length) rfl (wanted_by (g := 3) (b := false) (t := 10) rfl (by kernel_rfl) (congrArg some (show vs 3 = _ from hV3 rfl))) (by simp only [eV5]; go_simp) rfl
          · rintro vs u ⟨hV0, hV1, hV2, hV3, hV4, hV5, hV6, hV7, hV8, hV9, hV10, hV11, hV12, hV13, hV14, -⟩ G
            have eV6 : vs 6 = .int .i64 xs.length := hV6 rfl
            exact stepAt.pure (v := .bool false) rfl (wanted_by (g := 3) (b := false) (t := 10) rfl (by kernel_rfl) (congrArg some (show vs 3 = _ from hV3 rfl))) (by simp only [eV6]; go_simp <;> omega) rfl
          · rintro vs u ⟨hV0, hV1, hV2, hV3, hV4, hV5, hV6, hV7, hV8, hV9, hV10, hV11, hV12, hV13, hV14, -⟩ G
            have eV3 : vs 3 = .bool false := hV3 rfl
            have eV7 : vs 7 = .bool false := hV7 rfl
            exact stepAt.pure (v := .bool false) rfl rfl (by simp only [eV3, eV7]; go_simp) rfl
          · rintro vs u ⟨hV0, hV1, hV2, hV3, hV4, hV5, hV6, hV7, hV8, hV9, hV10, hV11, hV12, hV13, hV14, -⟩ G
            have eV8 : vs 8 = .bool false := hV8 rfl
            exact stepAt.pure (v := .bool false) rfl rfl (by simp only [eV8]; go_simp) rfl
          · rintro vs u ⟨hV0, hV1, hV2, hV3, hV4, hV5, hV6, hV7, hV8, hV9, hV10, hV11, hV12, hV13, hV14, -⟩ G
            exact stepAt.pure (v := .pointer (some ⟨w.heap.size + 1, 2, none⟩)) rfl (wanted_by (g := 9) (b := false) (t := 16) rfl (by kernel_rfl) (congrArg some (show vs 9 = _ from hV9 rfl))) (by go_simp) rfl
          · rintro vs u ⟨hV0, hV1, hV2, hV3, hV4, hV5, hV6, hV7, hV8, hV9, hV10, hV11, hV12, hV13, hV14, -⟩ G
            have o0 := (xb.keep G).c2
            have eV10 : vs 10 = .pointer (some ⟨w.heap.size + 1, 2, none⟩) := hV10 rfl
            exact stepAt.pure (v := .slice Q ys.length c2) rfl (wanted_by (g := 9) (b := false) (t := 16) rfl (by kernel_rfl) (congrArg some (show vs 9 = _ from hV9 rfl))) (by simp only [eV10]; go_simp) rfl
          · rintro vs u ⟨hV0, hV1, hV2, hV3, hV4, hV5, hV6, hV7, hV8, hV9, hV10, hV11, hV12, hV13, hV14, -⟩ G
            have eV11 : vs 11 = .slice Q ys.length c2 := hV11 rfl
            exact stepAt.pure (v := .int .i64 ys.length) rfl (wanted_by (g := 9) (b := false) (t := 16) rfl (by kernel_rfl) (congrArg some (show vs 9 = _ from hV9 rfl))) (by simp only [eV11]; go_simp) rfl
          · rintro vs u ⟨hV0, hV1, hV2, hV3, hV4, hV5, hV6, hV7, hV8, hV9, hV10, hV11, hV12, hV13, hV14, -⟩ G
            have eV12 : vs 12 = .int .i64 ys.length := hV12 rfl
            exact stepAt.pure (v := .bool true) rfl (wanted_by (g := 9) (b := false) (t := 16) rfl (by kernel_rfl) (congrArg some (show vs 9 = _ from hV9 rfl))) (by simp only [eV12]; go_simp <;> omega) rfl
          · rintro vs u ⟨hV0, hV1, hV2, hV3, hV4, hV5, hV6, hV7, hV8, hV9, hV10, hV11, hV12, hV13, hV14, -⟩ G
            have eV9 : vs 9 = .bool false := hV9 rfl
            have eV13 : vs 13 = .bool true := hV13 rfl
            exact stepAt.pure (v := .bool true) rfl rfl (by simp only [eV9, eV13]; go_simp) rfl
        case looses29 =>
          exact trivial
        rintro vs U1 ⟨hV0, hV1, hV2, hV3, hV4, hV5, hV6, hV7, hV8, hV9, hV10, hV11, hV12, hV13, hV14, -⟩ G
        have eV0 : vs 0 = .agg #[.slice A sha.length c, .slice A' ea.length c'] := hV0
        have eV1 : vs 1 = .bool true := hV1
        have eV2 : vs 2 = .bool false := hV2
        have eV3 : vs 3 = .bool false := hV3
        have eV4 : vs 4 = .pointer (some ⟨w.heap.size + 1, 1, none⟩) := hV4
        have eV5 : vs 5 = .slice P xs.length c1 := hV5
        have eV6 : vs 6 = .int .i64 xs.length := hV6
        have eV7 : vs 7 = .bool false := hV7
        have eV8 : vs 8 = .bool false := hV8
        have eV9 : vs 9 = .bool false := hV9
        have eV10 : vs 10 = .pointer (some ⟨w.heap.size + 1, 2, none⟩) := hV10
        have eV11 : vs 11 = .slice Q ys.length c2 := hV11
        have eV12 : vs 12 = .int .i64 ys.length := hV12
        have eV13 : vs 13 = .bool true := hV13
        have eV14 : vs 14 = .bool true := hV14
        simp only [eV0, eV1, eV2, eV3, eV4, eV5, eV6, eV7, eV8, eV9, eV10, eV11, eV12, eV13, eV14]
        clear eV0 eV1 eV2 eV3 eV4 eV5 eV6 eV7 eV8 eV9 eV10 eV11 eV12 eV13 eV14 hV0 hV1 hV2 hV3 hV4 hV5 hV6 hV7 hV8 hV9 hV10 hV11 hV12 hV13 hV14
        refine wpTill.done (by kernel_rfl) ?_
        replace xa := xa.keep G
        replace xb := xb.keep G
        replace HA := HA.keep G
        replace HB := HB.keep G
        replace F := fr_then F G
        clear G
        repeat' ((fail_if_success (with_reducible refine wpTill.row (fun _ => True) 0 ?_ ?_)); go_step)
        refine wpTill.row (fun _ => True) 1 (by kernel_rfl) ?_
        change wpTill _ _ _ _ _ _ 2 _ _ _
        refine wpTill.free (jj := 1) (m := 1) [(0, Fact.eq (.bool true))] [] [0, 1] [] ?_ (by kernel_rfl) (by kernel_rfl) (by kernel_rfl) [(0, some 22)] (by kernel_rfl) ?hA30 ?hQ30 (fun _ _ => trivial) (by kernel_rfl) ?steps30 ?looses30 ?cont30
        case hQ30 => exact fun _ _ _ _ _ h => h
        case hA30 =>
          intro vs
          simp only [fillD, List.foldl_cons, List.foldl_nil, Act.put, List.setIfInBounds_toArray, List.set_cons_zero, List.set_cons_succ]
          exact rfl
        case steps30 =>
          refine ⟨?_, trivial⟩
          · rintro vs u ⟨hV0, -⟩ G
            refine stepAt.call (f := 15) (args := #[]) rfl rfl (by go_simp) ?_
            exact (known_u u).mono fun _ _ ⟨v, h1, h2, h3⟩ => ⟨v, h1, h2, h3.now⟩
        case looses30 =>
          exact trivial
        rintro vs U2 ⟨hV0, -⟩ G
        have eV0 : vs 0 = .bool true := hV0
        simp only [eV0]
        clear eV0 hV0
        refine wpTill.next 1 rfl (by kernel_rfl) (by rfl) (fun K hK => ?_)
        go_simp
        refine hK _ _ (no_wait (by kernel_rfl)) ?_
        clear hK K
        refine wpTill.done (by kernel_rfl) ?_
        replace xa := xa.keep G
        replace xb := xb.keep G
        replace HA := HA.keep G
        replace HB := HB.keep G
        replace F := fr_then F G
        clear G
        repeat' ((fail_if_success (with_reducible refine wpTill.row (fun _ => True) 0 ?_ ?_)); go_step)
        go_ret
        exact ⟨rfl, F⟩
      · refine wpTill.row (fun _ => True) 14 (by kernel_rfl) ?_
        change wpTill _ _ _ _ _ _ 15 _ _ _
        refine wpTill.free (jj := 14) (m := 0) [(0, Fact.eq (.agg #[.slice A sha.length c, .slice A' ea.length c'])),
      (1, Fact.eq (.bool true)),
      (2, Fact.eq (.bool false)),
      (3, Fact.eq (.bool false)),
      (4, Fact.eq (.pointer (some ⟨w.heap.size + 1, 1, none⟩))),
      (5, Fact.eq (.slice P xs.length c1)),
      (6, Fact.eq (.int .i64 xs.length)),
      (7, Fact.eq (.bool false)),
      (8, Fact.eq (.bool false)),
      (9, Fact.eq (.bool false)),
      (10, Fact.eq (.pointer (some ⟨w.heap.size + 1, 2, none⟩))),
      (11, Fact.eq (.slice Q ys.length c2)),
      (12, Fact.eq (.int .i64 ys.length)),
      (13, Fact.eq (.bool false)),
      (14, Fact.eq (.bool false))] [] [0, 1, 3, 7, 15, 31, 63, 127, 255, 511, 1023, 2047, 4095, 8191, 16383] [] ?_ (by kernel_rfl) (by kernel_rfl) (by kernel_rfl) [(0, some 7), (1, some 8), (2, some 9), (3, some 10), (4, some 11), (5, some 12), (6, some 13), (7, some 14), (8, some 15), (9, some 16), (10, some 17), (11, some 18), (12, some 19), (13, some 20), (14, some 21)] (by kernel_rfl) ?hA31 ?hQ31 (fun _ _ => trivial) (by kernel_rfl) ?steps31 ?looses31 ?cont31
        case hQ31 => exact fun _ _ _ _ _ h => h
        case hA31 =>
          intro vs
          simp only [fillD, List.foldl_cons, List.foldl_nil, Act.put, List.setIfInBounds_toArray, List.set_cons_zero, List.set_cons_succ]
          exact rfl
        case steps31 =>
          refine ⟨?_, ?_, ?_, ?_, ?_, ?_, ?_, ?_, ?_, ?_, ?_, ?_, ?_, ?_, ?_, trivial⟩
          · rintro vs u ⟨hV0, hV1, hV2, hV3, hV4, hV5, hV6, hV7, hV8, hV9, hV10, hV11, hV12, hV13, hV14, -⟩ G
            have o0 := (xa.keep G).c0
            have o1 := (xa.keep G).c1
            exact stepAt.pure (v := .agg #[.slice A sha.length c, .slice A' ea.length c']) rfl rfl (by go_simp) rfl
          · rintro vs u ⟨hV0, hV1, hV2, hV3, hV4, hV5, hV6, hV7, hV8, hV9, hV10, hV11, hV12, hV13, hV14, -⟩ G
            refine stepAt.call (f := 11) (args := #[vs 0]) rfl rfl (by go_simp) ?_
            have eV0 : vs 0 = .agg #[.slice A sha.length c, .slice A' ea.length c'] := hV0 rfl
            rw [eV0]
            exact (few_u (HA.at G) HB1).mono fun _ _ ⟨v, h1, h2, h3⟩ => ⟨v, h1, h2, h3.now⟩
          · rintro vs u ⟨hV0, hV1, hV2, hV3, hV4, hV5, hV6, hV7, hV8, hV9, hV10, hV11, hV12, hV13, hV14, -⟩ G
            have eV1 : vs 1 = .bool true := hV1 rfl
            exact stepAt.pure (v := .bool false) rfl rfl (by simp only [eV1]; go_simp) rfl
          · rintro vs u ⟨hV0, hV1, hV2, hV3, hV4, hV5, hV6, hV7, hV8, hV9, hV10, hV11, hV12, hV13, hV14, -⟩ G
            have eV2 : vs 2 = .bool false := hV2 rfl
            exact stepAt.pure (v := .bool false) rfl rfl (by simp only [eV2]; go_simp) rfl
          · rintro vs u ⟨hV0, hV1, hV2, hV3, hV4, hV5, hV6, hV7, hV8, hV9, hV10, hV11, hV12, hV13, hV14, -⟩ G
            exact stepAt.pure (v := .pointer (some ⟨w.heap.size + 1, 1, none⟩)) rfl (wanted_by (g := 3) (b := false) (t := 10) rfl (by kernel_rfl) (congrArg some (show vs 3 = _ from hV3 rfl))) (by go_simp) rfl
          · rintro vs u ⟨hV0, hV1, hV2, hV3, hV4, hV5, hV6, hV7, hV8, hV9, hV10, hV11, hV12, hV13, hV14, -⟩ G
            have o0 := (xb.keep G).c1
            have eV4 : vs 4 = .pointer (some ⟨w.heap.size + 1, 1, none⟩) := hV4 rfl
            exact stepAt.pure (v := .slice P xs.length c1) rfl (wanted_by (g := 3) (b := false) (t := 10) rfl (by kernel_rfl) (congrArg some (show vs 3 = _ from hV3 rfl))) (by simp only [eV4]; go_simp) rfl
          · rintro vs u ⟨hV0, hV1, hV2, hV3, hV4, hV5, hV6, hV7, hV8, hV9, hV10, hV11, hV12, hV13, hV14, -⟩ G
            have eV5 : vs 5 = .slice P xs.length c1 := hV5 rfl
            exact stepAt.pure (v := .int .i64 xs.length) rfl (wanted_by (g := 3) (b := false) (t := 10) rfl (by kernel_rfl) (congrArg some (show vs 3 = _ from hV3 rfl))) (by simp only [eV5]; go_simp) rfl
          · rintro vs u ⟨hV0, hV1, hV2, hV3, hV4, hV5, hV6, hV7, hV8, hV9, hV10, hV11, hV12, hV13, hV14, -⟩ G
            have eV6 : vs 6 = .int .i64 xs.length := hV6 rfl
            exact stepAt.pure (v := .bool false) rfl (wanted_by (g := 3) (b := false) (t := 10) rfl (by kernel_rfl) (congrArg some (show vs 3 = _ from hV3 rfl))) (by simp only [eV6]; go_simp <;> omega) rfl
          · rintro vs u ⟨hV0, hV1, hV2, hV3, hV4, hV5, hV6, hV7, hV8, hV9, hV10, hV11, hV12, hV13, hV14, -⟩ G
            have eV3 : vs 3 = .bool false := hV3 rfl
            have eV7 : vs 7 = .bool false := hV7 rfl
            exact stepAt.pure (v := .bool false) rfl rfl (by simp only [eV3, eV7]; go_simp) rfl
          · rintro vs u ⟨hV0, hV1, hV2, hV3, hV4, hV5, hV6, hV7, hV8, hV9, hV10, hV11, hV12, hV13, hV14, -⟩ G
            have eV8 : vs 8 = .bool false := hV8 rfl
            exact stepAt.pure (v := .bool false) rfl rfl (by simp only [eV8]; go_simp) rfl
          · rintro vs u ⟨hV0, hV1, hV2, hV3, hV4, hV5, hV6, hV7, hV8, hV9, hV10, hV11, hV12, hV13, hV14, -⟩ G
            exact stepAt.pure (v := .pointer (some ⟨w.heap.size + 1, 2, none⟩)) rfl (wanted_by (g := 9) (b := false) (t := 16) rfl (by kernel_rfl) (congrArg some (show vs 9 = _ from hV9 rfl))) (by go_simp) rfl
          · rintro vs u ⟨hV0, hV1, hV2, hV3, hV4, hV5, hV6, hV7, hV8, hV9, hV10, hV11, hV12, hV13, hV14, -⟩ G
            have o0 := (xb.keep G).c2
            have eV10 : vs 10 = .pointer (some ⟨w.heap.size + 1, 2, none⟩) := hV10 rfl
            exact stepAt.pure (v := .slice Q ys.length c2) rfl (wanted_by (g := 9) (b := false) (t := 16) rfl (by kernel_rfl) (congrArg some (show vs 9 = _ from hV9 rfl))) (by simp only [eV10]; go_simp) rfl
          · rintro vs u ⟨hV0, hV1, hV2, hV3, hV4, hV5, hV6, hV7, hV8, hV9, hV10, hV11, hV12, hV13, hV14, -⟩ G
            have eV11 : vs 11 = .slice Q ys.length c2 := hV11 rfl
            exact stepAt.pure (v := .int .i64 ys.length) rfl (wanted_by (g := 9) (b := false) (t := 16) rfl (by kernel_rfl) (congrArg some (show vs 9 = _ from hV9 rfl))) (by simp only [eV11]; go_simp) rfl
          · rintro vs u ⟨hV0, hV1, hV2, hV3, hV4, hV5, hV6, hV7, hV8, hV9, hV10, hV11, hV12, hV13, hV14, -⟩ G
            have eV12 : vs 12 = .int .i64 ys.length := hV12 rfl
            exact stepAt.pure (v := .bool false) rfl (wanted_by (g := 9) (b := false) (t := 16) rfl (by kernel_rfl) (congrArg some (show vs 9 = _ from hV9 rfl))) (by simp only [eV12]; go_simp <;> omega) rfl
          · rintro vs u ⟨hV0, hV1, hV2, hV3, hV4, hV5, hV6, hV7, hV8, hV9, hV10, hV11, hV12, hV13, hV14, -⟩ G
            have eV9 : vs 9 = .bool false := hV9 rfl
            have eV13 : vs 13 = .bool false := hV13 rfl
            exact stepAt.pure (v := .bool false) rfl rfl (by simp only [eV9, eV13]; go_simp) rfl
        case looses31 =>
          exact trivial
        rintro vs U1 ⟨hV0, hV1, hV2, hV3, hV4, hV5, hV6, hV7, hV8, hV9, hV10, hV11, hV12, hV13, hV14, -⟩ G
        have eV0 : vs 0 = .agg #[.slice A sha.length c, .slice A' ea.length c'] := hV0
        have eV1 : vs 1 = .bool true := hV1
        have eV2 : vs 2 = .bool false := hV2
        have eV3 : vs 3 = .bool false := hV3
        have eV4 : vs 4 = .pointer (some ⟨w.heap.size + 1, 1, none⟩) := hV4
        have eV5 : vs 5 = .slice P xs.length c1 := hV5
        have eV6 : vs 6 = .int .i64 xs.length := hV6
        have eV7 : vs 7 = .bool false := hV7
        have eV8 : vs 8 = .bool false := hV8
        have eV9 : vs 9 = .bool false := hV9
        have eV10 : vs 10 = .pointer (some ⟨w.heap.size + 1, 2, none⟩) := hV10
        have eV11 : vs 11 = .slice Q ys.length c2 := hV11
        have eV12 : vs 12 = .int .i64 ys.length := hV12
        have eV13 : vs 13 = .bool false := hV13
        have eV14 : vs 14 = .bool false := hV14
        simp only [eV0, eV1, eV2, eV3, eV4, eV5, eV6, eV7, eV8, eV9, eV10, eV11, eV12, eV13, eV14]
        clear eV0 eV1 eV2 eV3 eV4 eV5 eV6 eV7 eV8 eV9 eV10 eV11 eV12 eV13 eV14 hV0 hV1 hV2 hV3 hV4 hV5 hV6 hV7 hV8 hV9 hV10 hV11 hV12 hV13 hV14
        refine wpTill.done (by kernel_rfl) ?_
        replace xa := xa.keep G
        replace xb := xb.keep G
        replace HA := HA.keep G
        replace HB := HB.keep G
        replace F := fr_then F G
        clear G
        repeat' ((fail_if_success (with_reducible refine wpTill.row (fun _ => True) 0 ?_ ?_)); go_step)
        refine wpTill.row (fun _ => True) 7 (by kernel_rfl) ?_
        change wpTill _ _ _ _ _ _ 9 _ _ _
        refine wpTill.free (jj := 7) (m := 2) [(0, Fact.eq (.agg #[.slice A sha.length c, .slice A' ea.length c'])),
      (1, Fact.eq (.agg #[.bool sx, .slice P xs.length c1, .slice Q ys.length c2])),
      (2, Fact.held (Tup (r) (TC r sha (ea.map fun x => canR (qOf x * qOf (sx, xs, ys)))))),
      (3, Fact.same 2),
      (4, Fact.fst 3),
      (6, Fact.mem (New2 U1.heap.size 26 (.slice none 0 0) (.slice none 0 0)) New2.keep)] [(5, Fact.snd 3)] [0, 0, 3, 7, 15, 15, 0, 95, 255] [] ?_ (by kernel_rfl) (by kernel_rfl) (by kernel_rfl) [(0, some 24), (1, some 25), (2, some 26), (3, some 23), (4, some 27), (6, some 5), (5, some 28)] (by kernel_rfl) ?hA32 ?hQ32 (fun _ _ => trivial) (by kernel_rfl) ?steps32 ?looses32 ?cont32
        case hQ32 => exact fun _ _ _ _ _ h => h
        case hA32 =>
          intro vs
          simp only [fillD, List.foldl_cons, List.foldl_nil, Act.put, List.setIfInBounds_toArray, List.set_cons_zero, List.set_cons_succ]
          exact rfl
        case steps32 =>
          refine ⟨?_, ?_, ?_, ?_, ?_, ?_, trivial⟩
          · rintro vs u ⟨hV0, hV1, hV2, hV3, hV4, hV6, hV5, -⟩ G
            have o0 := (xa.keep G).c0
            have o1 := (xa.keep G).c1
            exact stepAt.pure (v := .agg #[.slice A sha.length c, .slice A' ea.length c']) rfl rfl (by go_simp) rfl
          · rintro vs u ⟨hV0, hV1, hV2, hV3, hV4, hV6, hV5, -⟩ G
            have o0 := (xb.keep G).c0
            have o1 := (xb.keep G).c1
            have o2 := (xb.keep G).c2
            exact stepAt.pure (v := .agg #[.bool sx, .slice P xs.length c1, .slice Q ys.length c2]) rfl rfl (by go_simp) rfl
          · rintro vs u ⟨hV0, hV1, hV2, hV3, hV4, hV6, hV5, -⟩ G
            refine stepAt.call (f := 34) (args := #[vs 0, vs 1]) rfl rfl (by go_simp) ?_
            have eV0 : vs 0 = .agg #[.slice A sha.length c, .slice A' ea.length c'] := hV0 rfl
            have eV1 : vs 1 = .agg #[.bool sx, .slice P xs.length c1, .slice Q ys.length c2] := hV1 rfl
            rw [eV0, eV1]
            exact scale_u (y := (sx, xs, ys)) (HA.at G) FA HR (HB.at G).1 (HB.at G).2 HY
          · rintro vs u ⟨hV0, hV1, hV2, hV3, hV4, hV6, hV5, -⟩ G
            exact stepAt.pure (v := vs 2) rfl rfl (by go_simp) rfl
          · rintro vs u ⟨hV0, hV1, hV2, hV3, hV4, hV6, hV5, -⟩ G
            have HV2 : Hold (fun u' => (Tup (r) (TC r sha (ea.map fun x => canR (qOf x * qOf (sx, xs, ys))))) u' (vs 2)) u := hV2 rfl
            obtain ⟨A2_2, n2_2, c2_2, B2_2, m2_2, k2_2, eV2, -⟩ := HV2.now
            rw [eV2] at HV2
            have eV3 : vs 3 = .tuple #[.agg #[.slice A2_2 n2_2 c2_2, .slice B2_2 m2_2 k2_2], .int .i64 r] := (show vs 3 = vs 2 from hV3 rfl).trans eV2
            exact stepAt.pure (v := .agg #[.slice A2_2 n2_2 c2_2, .slice B2_2 m2_2 k2_2]) rfl rfl (by simp only [eV3]; go_simp) ⟨_, _, eV3, rfl⟩
          · rintro vs u ⟨hV0, hV1, hV2, hV3, hV4, hV6, hV5, -⟩ G
            exact stepAt.value (v := .pointer (some ⟨u.heap.size, 0, none⟩)) (u := u.alloc (.cells #[.slice none 0 0, .slice none 0 0] 26)) rfl rfl (by go_simp) ((Fr.refl _ _).alloc _) ⟨_, rfl, G.size, Box2.new _ _ _ _⟩
        case looses32 =>
          refine ⟨?_, trivial⟩
          · rintro vs u ⟨hV0, hV1, hV2, hV3, hV4, hV6, hV5, -⟩ G
            have HV2 : Hold (fun u' => (Tup (r) (TC r sha (ea.map fun x => canR (qOf x * qOf (sx, xs, ys))))) u' (vs 2)) u := hV2 rfl
            obtain ⟨A2_2, n2_2, c2_2, B2_2, m2_2, k2_2, eV2, -⟩ := HV2.now
            rw [eV2] at HV2
            have eV3 : vs 3 = .tuple #[.agg #[.slice A2_2 n2_2 c2_2, .slice B2_2 m2_2 k2_2], .int .i64 r] := (show vs 3 = vs 2 from hV3 rfl).trans eV2
            exact pureAt.of (v := .int .i64 r) rfl rfl (fun _ => by simp only [eV3]; go_simp) ⟨_, _, eV3, rfl⟩
        rintro vs u ⟨hV0, hV1, hV2, hV3, hV4, hV6, hV5, -⟩ G
        have eV0 : vs 0 = .agg #[.slice A sha.length c, .slice A' ea.length c'] := hV0
        have eV1 : vs 1 = .agg #[.bool sx, .slice P xs.length c1, .slice Q ys.length c2] := hV1
        replace hV2 : Hold (fun u' => (Tup (r) (TC r sha (ea.map fun x => canR (qOf x * qOf (sx, xs, ys))))) u' (vs 2)) u := hV2
        obtain ⟨A2_2, n2_2, c2_2, B2_2, m2_2, k2_2, eV2, -⟩ := hV2.now
        rw [eV2] at hV2
        have eV3 : vs 3 = _ := (show vs 3 = vs 2 from hV3).trans eV2
        obtain ⟨x4, z4, a4, eV4⟩ := hV4
        have a4 := eV3.symm.trans a4
        cases a4
        replace eV4 : vs 4 = _ := eV4
        obtain ⟨b2_6, eV6, l2_6, y2_6⟩ := hV6
        replace eV6 : vs 6 = _ := eV6
        obtain ⟨x5, z5, a5, eV5⟩ := hV5
        have a5 := eV3.symm.trans a5
        cases a5
        replace eV5 : vs 5 = _ := eV5
        simp only [eV0, eV1, eV2, eV3, eV4, eV6, eV5]
        clear eV0 eV1 eV2 eV3 eV4 eV6 eV5 hV0 hV1 hV3
        have g0 := y2_6.free 0
        have g1 := y2_6.free 1
        have g2 := y2_6.c0
        have g3 := y2_6.c1
        refine wpTill.next 7 rfl (by kernel_rfl) (by rfl) (fun K hK => ?_)
        go_simp
        refine hK _ _ (no_wait (by kernel_rfl)) ?_
        clear hK K
        refine wpTill.next 8 rfl (by kernel_rfl) (by rfl) (fun K hK => ?_)
        go_simp
        refine hK _ _ (no_wait (by kernel_rfl)) ?_
        clear hK K
        refine wpTill.done (by kernel_rfl) ?_
        have F9 := fr_put2 u b2_6 (.slice A2_2 n2_2 c2_2) (.slice B2_2 m2_2 k2_2)
        have G9 := G.comp F9 (R := fun k => k < U1.heap.size) fun k _ hk => ⟨hk, by omega⟩
        have z2 := y2_6.set2 (.slice A2_2 n2_2 c2_2) (.slice B2_2 m2_2 k2_2)
        have T2 := (hV2.now.out.fill (.slice A2_2 n2_2 c2_2) (.slice B2_2 m2_2 k2_2) y2_6).hold
        replace xa := xa.keep G9
        replace xb := xb.keep G9
        replace HA := HA.keep G9
        replace HB := HB.keep G9
        replace F := fr_then F G9
        generalize (u.setCell ⟨b2_6, 0, none⟩ (.slice A2_2 n2_2 c2_2)).setCell ⟨b2_6, 1, none⟩ (.slice B2_2 m2_2 k2_2) = U2 at z2 T2 xa xb HA HB F ⊢
        clear g0 g1 g2 g3 F9 G9 G y2_6 l2_6 hV2
        repeat' ((fail_if_success (with_reducible refine wpTill.row (fun _ => True) 0 ?_ ?_)); go_step)
        have DR := fun R => (Fr.refl R U2).drew
        replace xa := xa.keep (DR _)
        replace xb := xb.keep (DR _)
        replace z2 := z2.keep (DR _)
        replace HA := HA.keep (DR _)
        replace HB := HB.keep (DR _)
        replace T2 := T2.keep (DR _)
        replace F := F.drew
        clear DR
        refine wpTill.begin (fun _ => True) 13 (by kernel_rfl) ?_
        change wpTill _ _ _ _ _ _ 14 _ _ _
        refine wpTill.free (jj := 13) (m := 1) [(0, Fact.eq (.agg #[.slice A2_2 n2_2 c2_2, .slice B2_2 m2_2 k2_2])),
      (1, Fact.eq (.int .i64 r)),
      (2, Fact.eq (.agg #[.slice A sha.length c, .slice A' ea.length c'])),
      (3, Fact.held (Agg (QV sha (ea.map qOf) (3 * (L + 2))))),
      (4, Fact.eq (.agg #[.bool sx, .slice P xs.length c1, .slice Q ys.length c2])),
      (5, Fact.held (RQ (qOf (sx, xs, ys)) (3 * (L + 2)))),
      (6, Fact.held (Agg (QV sha ((ea.map qOf).map (fun q => q * qOf (sx, xs, ys))) (2 * (3 * (L + 2)))))),
      (7, Fact.eq (.agg #[.slice A sha.length c, .slice A' ea.length c'])),
      (8, Fact.eq (.int .i64 r)),
      (9, Fact.eq (.bool true)),
      (10, Fact.eq (.bool true)),
      (11, Fact.eq (.bool true)),
      (12, Fact.eq (.bool true))] [] [0, 0, 0, 4, 0, 28, 60, 0, 252, 511, 1023, 2047, 4095, 8191] [] ?_ (by kernel_rfl) (by kernel_rfl) (by kernel_rfl) [(0, some 29), (1, some 30), (2, some 31), (3, some 32), (4, some 33), (5, some 34), (6, some 35), (7, some 36), (8, some 37), (9, some 38), (10, some 39), (11, some 40), (12, some 41)] (by kernel_rfl) ?hA33 ?hQ33 (fun _ _ => trivial) (by kernel_rfl) ?steps33 ?looses33 ?cont33
        case hQ33 => exact fun _ _ _ _ _ h => h
        case hA33 =>
          intro vs
          simp only [fillD, List.foldl_cons, List.foldl_nil, Act.put, List.setIfInBounds_toArray, List.set_cons_zero, List.set_cons_succ]
          exact rfl
        case steps33 =>
          refine ⟨?_, ?_, ?_, ?_, ?_, ?_, ?_, ?_, ?_, ?_, ?_, ?_, ?_, trivial⟩
          · rintro vs u ⟨hV0, hV1, hV2, hV3, hV4, hV5, hV6, hV7, hV8, hV9, hV10, hV11, hV12, -⟩ G
            have o0 := (z2.keep G).c0
            have o1 := (z2.keep G).c1
            exact stepAt.pure (v := .agg #[.slice A2_2 n2_2 c2_2, .slice B2_2 m2_2 k2_2]) rfl rfl (by go_simp) rfl
          · rintro vs u ⟨hV0, hV1, hV2, hV3, hV4, hV5, hV6, hV7, hV8, hV9, hV10, hV11, hV12, -⟩ G
            exact stepAt.pure (v := .int .i64 r) rfl rfl (by go_simp) rfl
          · rintro vs u ⟨hV0, hV1, hV2, hV3, hV4, hV5, hV6, hV7, hV8, hV9, hV10, hV11, hV12, -⟩ G
            have o0 := (xa.keep G).c0
            have o1 := (xa.keep G).c1
            exact stepAt.pure (v := .agg #[.slice A sha.length c, .slice A' ea.length c']) rfl rfl (by go_simp) rfl
          · rintro vs u ⟨hV0, hV1, hV2, hV3, hV4, hV5, hV6, hV7, hV8, hV9, hV10, hV11, hV12, -⟩ G
            refine stepAt.call (f := 14) (args := #[vs 2]) rfl rfl (by go_simp) ?_
            have eV2 : vs 2 = .agg #[.slice A sha.length c, .slice A' ea.length c'] := hV2 rfl
            rw [eV2]
            exact of_u (HA.at G) FA
          · rintro vs u ⟨hV0, hV1, hV2, hV3, hV4, hV5, hV6, hV7, hV8, hV9, hV10, hV11, hV12, -⟩ G
            have o0 := (xb.keep G).c0
            have o1 := (xb.keep G).c1
            have o2 := (xb.keep G).c2
            exact stepAt.pure (v := .agg #[.bool sx, .slice P xs.length c1, .slice Q ys.length c2]) rfl rfl (by go_simp) rfl
          · rintro vs u ⟨hV0, hV1, hV2, hV3, hV4, hV5, hV6, hV7, hV8, hV9, hV10, hV11, hV12, -⟩ G
            refine stepAt.call (f := 36) (args := #[vs 4]) rfl rfl (by go_simp) ?_
            have eV4 : vs 4 = .agg #[.bool sx, .slice P xs.length c1, .slice Q ys.length c2] := hV4 rfl
            rw [eV4]
            exact rof_u (x := (sx, xs, ys)) (HB.at G) HY (by omega) (by omega)
          · rintro vs u ⟨hV0, hV1, hV2, hV3, hV4, hV5, hV6, hV7, hV8, hV9, hV10, hV11, hV12, -⟩ G
            refine stepAt.call (f := 35) (args := #[vs 3, vs 5]) rfl rfl (by go_simp) ?_
            have HV3 : Hold (fun u' => (Agg (QV sha (ea.map qOf) (3 * (L + 2)))) u' (vs 3)) u := hV3 rfl
            obtain ⟨A3_3, n3_3, c3_3, B3_3, m3_3, k3_3, eV3, -⟩ := HV3.now
            rw [eV3] at HV3
            have HV5 : Hold (fun u' => (RQ (qOf (sx, xs, ys)) (3 * (L + 2))) u' (vs 5)) u := hV5 rfl
            obtain ⟨A3_5, n3_5, c3_5, B3_5, m3_5, k3_5, eV5, -⟩ := HV5.now
            rw [eV5] at HV5
            rw [eV3, eV5]
            exact rscale_u HV3.now.out FQA HV5.now.out
          · rintro vs u ⟨hV0, hV1, hV2, hV3, hV4, hV5, hV6, hV7, hV8, hV9, hV10, hV11, hV12, -⟩ G
            have o0 := (xa.keep G).c0
            have o1 := (xa.keep G).c1
            exact stepAt.pure (v := .agg #[.slice A sha.length c, .slice A' ea.length c']) rfl rfl (by go_simp) rfl
          · rintro vs u ⟨hV0, hV1, hV2, hV3, hV4, hV5, hV6, hV7, hV8, hV9, hV10, hV11, hV12, -⟩ G
            refine stepAt.call (f := 12) (args := #[vs 7]) rfl rfl (by go_simp) ?_
            have eV7 : vs 7 = .agg #[.slice A sha.length c, .slice A' ea.length c'] := hV7 rfl
            rw [eV7]
            exact (may_u (HA.at G) FA HR).mono fun _ _ ⟨v, h1, h2, h3⟩ => ⟨v, h1, h2, h3.now⟩
          · rintro vs u ⟨hV0, hV1, hV2, hV3, hV4, hV5, hV6, hV7, hV8, hV9, hV10, hV11, hV12, -⟩ G
            refine stepAt.call (f := 17) (args := #[vs 0, vs 1, vs 6, vs 8]) rfl rfl (by go_simp) ?_
            have eV0 : vs 0 = .agg #[.slice A2_2 n2_2 c2_2, .slice B2_2 m2_2 k2_2] := hV0 rfl
            have eV1 : vs 1 = .int .i64 r := hV1 rfl
            have HV6 : Hold (fun u' => (Agg (QV sha ((ea.map qOf).map (fun q => q * qOf (sx, xs, ys))) (2 * (3 * (L + 2))))) u' (vs 6)) u := hV6 rfl
            obtain ⟨A3_6, n3_6, c3_6, B3_6, m3_6, k3_6, eV6, -⟩ := HV6.now
            rw [eV6] at HV6
            have eV8 : vs 8 = .int .i64 r := hV8 rfl
            rw [eV0, eV1, eV6, eV8]
            exact (told_u (T2.at G) (HV6.now.out).qc ⟨⟨_, _, _, rfl⟩, ⟨_, _, _, rfl⟩⟩ HS (by omega)).mono fun _ _ ⟨v, h1, h2, h3⟩ => ⟨v, h1, h2, h3.now⟩
          · rintro vs u ⟨hV0, hV1, hV2, hV3, hV4, hV5, hV6, hV7, hV8, hV9, hV10, hV11, hV12, -⟩ G
            have eV9 : vs 9 = .bool true := hV9 rfl
            exact stepAt.pure (v := .bool true) rfl rfl (by simp only [eV9]; go_simp) rfl
          · rintro vs u ⟨hV0, hV1, hV2, hV3, hV4, hV5, hV6, hV7, hV8, hV9, hV10, hV11, hV12, -⟩ G
            refine stepAt.call (f := 15) (args := #[]) rfl (wanted_by (g := 10) (b := true) (t := 39) rfl (by kernel_rfl) (congrArg some (show vs 10 = _ from hV10 rfl))) (by go_simp) ?_
            exact (known_u u).mono fun _ _ ⟨v, h1, h2, h3⟩ => ⟨v, h1, h2, h3.now⟩
          · rintro vs u ⟨hV0, hV1, hV2, hV3, hV4, hV5, hV6, hV7, hV8, hV9, hV10, hV11, hV12, -⟩ G
            have eV10 : vs 10 = .bool true := hV10 rfl
            have eV11 : vs 11 = .bool true := hV11 rfl
            exact stepAt.pure (v := .bool true) rfl rfl (by simp only [eV10, eV11]; go_simp) rfl
        case looses33 =>
          exact trivial
        rintro vs U3 ⟨hV0, hV1, hV2, hV3, hV4, hV5, hV6, hV7, hV8, hV9, hV10, hV11, hV12, -⟩ G
        have eV0 : vs 0 = .agg #[.slice A2_2 n2_2 c2_2, .slice B2_2 m2_2 k2_2] := hV0
        have eV1 : vs 1 = .int .i64 r := hV1
        have eV2 : vs 2 = .agg #[.slice A sha.length c, .slice A' ea.length c'] := hV2
        replace hV3 : Hold (fun u' => (Agg (QV sha (ea.map qOf) (3 * (L + 2)))) u' (vs 3)) U3 := hV3
        obtain ⟨A3_3, n3_3, c3_3, B3_3, m3_3, k3_3, eV3, -⟩ := hV3.now
        rw [eV3] at hV3
        have eV4 : vs 4 = .agg #[.bool sx, .slice P xs.length c1, .slice Q ys.length c2] := hV4
        replace hV5 : Hold (fun u' => (RQ (qOf (sx, xs, ys)) (3 * (L + 2))) u' (vs 5)) U3 := hV5
        obtain ⟨A3_5, n3_5, c3_5, B3_5, m3_5, k3_5, eV5, -⟩ := hV5.now
        rw [eV5] at hV5
        replace hV6 : Hold (fun u' => (Agg (QV sha ((ea.map qOf).map (fun q => q * qOf (sx, xs, ys))) (2 * (3 * (L + 2))))) u' (vs 6)) U3 := hV6
        obtain ⟨A3_6, n3_6, c3_6, B3_6, m3_6, k3_6, eV6, -⟩ := hV6.now
        rw [eV6] at hV6
        have eV7 : vs 7 = .agg #[.slice A sha.length c, .slice A' ea.length c'] := hV7
        have eV8 : vs 8 = .int .i64 r := hV8
        have eV9 : vs 9 = .bool true := hV9
        have eV10 : vs 10 = .bool true := hV10
        have eV11 : vs 11 = .bool true := hV11
        have eV12 : vs 12 = .bool true := hV12
        simp only [eV0, eV1, eV2, eV3, eV4, eV5, eV6, eV7, eV8, eV9, eV10, eV11, eV12]
        clear eV0 eV1 eV2 eV3 eV4 eV5 eV6 eV7 eV8 eV9 eV10 eV11 eV12 hV0 hV1 hV2 hV4 hV7 hV8 hV9 hV10 hV11 hV12
        refine wpTill.next 13 rfl (by kernel_rfl) (by rfl) (fun K hK => ?_)
        go_simp
        refine hK _ _ (no_wait (by kernel_rfl)) ?_
        clear hK K
        refine wpTill.done (by kernel_rfl) ?_
        replace xa := xa.keep G
        replace xb := xb.keep G
        replace z2 := z2.keep G
        replace HA := HA.keep G
        replace HB := HB.keep G
        replace T2 := T2.keep G
        replace F := fr_then F G
        clear G
        repeat' ((fail_if_success (with_reducible refine wpTill.row (fun _ => True) 0 ?_ ?_)); go_step)
        go_ret
        exact ⟨rfl, F⟩
end Go.Proofs.YtlknmoegngjpcaaGreat

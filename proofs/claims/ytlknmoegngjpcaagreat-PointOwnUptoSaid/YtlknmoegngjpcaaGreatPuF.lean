import Derived.Test.YtlknmoegngjpcaaGreatPuE
import Derived.Test.YtlknmoegngjpcaaGreatLinB
set_option linter.unusedSimpArgs false
set_option linter.unusedVariables false

/- fluxionref07.Same of a tensor and its copy; PointOwn: printed by gen_puf.py. -/
namespace Go.Proofs.YtlknmoegngjpcaaGreat
open Go.RowKit

set_option maxRecDepth 20000 in
set_option maxHeartbeats 8000000 in
theorem t7same_u {w : World} {sh : List Int} {ea : List RatL} {a b c d : Value} {L : Nat} (h : TV sh ea w a b) (g : TV sh ea w c d) (f : Hid (Fit sh ea L)) :
    Calls Tryz.prog 38 #[.agg #[a, b], .agg #[c, d]] w (Ret w fun _ v => v = .bool true) := by
  refine Calls.mono (show Calls Tryz.prog 38 #[.agg #[a, b], .agg #[c, d]] w (fun e w' => e = .returned (.bool true) ∧ Fr (fun k => k < w.heap.size) w w') from ?_) fun _ _ h => Ret.eq h.1 h.2
  obtain ⟨A, c1, rfl, _, _, _⟩ := h.1.slice
  obtain ⟨A', c', rfl, _, _, hle⟩ := h.2.slice
  obtain ⟨B, d1, rfl, _, _, _⟩ := g.1.slice
  obtain ⟨B', d', rfl, _, _, _⟩ := g.2.slice
  have F := ((Fr.refl (fun k => k < w.heap.size) w).alloc (.cells #[.slice A sh.length c1, .slice A' ea.length c'] 26)).alloc (.cells #[.slice B sh.length d1, .slice B' ea.length d'] 26)
  have x0 := (Box2.new w 26 (.slice A sh.length c1) (.slice A' ea.length c')).alloc (.cells #[.slice B sh.length d1, .slice B' ea.length d'] 26)
  have x1 := Box2.new (w.alloc (.cells #[.slice A sh.length c1, .slice A' ea.length c'] 26)) 26 (.slice B sh.length d1) (.slice B' ea.length d')
  simp only [World.size_alloc] at x1
  have HA := Lib.hid (h.2.low Rm_pos)
  have HB := Lib.hid (g.2.low Rm_pos)
  have PP := Lib.hid (sameshape_y _ (.slice A sh.length c1) (.slice B sh.length d1) sh ((h.1.low Im_pos).fr F) ((g.1.low Im_pos).fr F))
  have hL1 := f.out.one
  have hL2 : L ≤ 104857600 := by have := f.out.top; omega
  clear h g
  have a0 := x0.c0
  have a1 := x0.c1
  have e0 := x1.c0
  have e1 := x1.c1
  go_enter Tryz.func38, Tryz.ntmps38
  go_wp2_with fail
  with_reducible refine PP.out.mono ?_
  rintro e W1 ⟨rfl, hf⟩
  replace x0 := x0.fr hf trivial
  replace x1 := x1.fr hf trivial
  replace F := F.comp hf (R := fun k => k < w.heap.size) fun k _ hk => ⟨hk, trivial⟩
  clear hf PP a0 a1 e0 e1
  have a1 := x0.c1
  have e1 := x1.c1
  go_wp2_with fail
  clear a1 e1
  go_loopw [5] (fun k W => ∃ (j : Nat), k = .int .i64 j ∧ j ≤ ea.length ∧ Box2 W w.heap.size 26 (.slice A sh.length c1) (.slice A' ea.length c') ∧ Box2 W (w.heap.size + 1) 26 (.slice B sh.length d1) (.slice B' ea.length d') ∧ Fr (fun k => k < w.heap.size) w W) (fun k _ => ea.length - (intOf k).toNat)
  case atStart => exact ⟨0, rfl, by omega, x0, x1, F⟩
  case round =>
    clear x0 x1 F
    obtain ⟨j, rfl, hj, x0, x1, F⟩ := hrel
    have a1 := x0.c1
    by_cases hlt : j < ea.length
    · have DW := fun R => (Fr.refl R wr).drew
      have y0 := x0.keep (DW _)
      have y1 := x1.keep (DW _)
      replace F := F.drew
      obtain ⟨ad, P, n, d2, Q, m, o, rfl, hS, g0, g1, g2, r1, r2⟩ := Rm_get (HA.out.fr F) hlt
      obtain ⟨ae, P9, n9, d9, Q9, m9, o9, rfl, hS9, k0, k1, k2, r3, r4⟩ := Rm_get (HB.out.fr F) hlt
      have lx := f.out.lx _ (List.getElem_mem hlt)
      generalize ea[j] = x at g0 k0 r1 r2 r3 r4 lx
      have H1 := Lib.hid (ri_x r1 r2 lx)
      have H2 := Lib.hid (ri_x r3 r4 lx)
      have KS : ∀ u, Fr (fun k => k < wr.drew.heap.size) wr.drew u → (u.cell? (ad.add (j * 3)) = some (.bool x.1) ∧ u.cell? ⟨(ad.add (j * 3)).block, (ad.add (j * 3)).off + 1, none⟩ = some (.slice P n d2) ∧ u.cell? ⟨(ad.add (j * 3)).block, (ad.add (j * 3)).off + 2, none⟩ = some (.slice Q m o)) ∧ (u.cell? (ae.add (j * 3)) = some (.bool x.1) ∧ u.cell? ⟨(ae.add (j * 3)).block, (ae.add (j * 3)).off + 1, none⟩ = some (.slice P9 n9 d9) ∧ u.cell? ⟨(ae.add (j * 3)).block, (ae.add (j * 3)).off + 2, none⟩ = some (.slice Q9 m9 o9)) := fun u hu =>
        ⟨⟨hu.cell g0 (World.block_lt_of_cell? _ _ g0), hu.cell g1 (World.block_lt_of_cell? _ _ g1), hu.cell g2 (World.block_lt_of_cell? _ _ g2)⟩, hu.cell k0 (World.block_lt_of_cell? _ _ k0), hu.cell k1 (World.block_lt_of_cell? _ _ k1), hu.cell k2 (World.block_lt_of_cell? _ _ k2)⟩
      clear DW x0 x1 g0 g1 g2 k0 k1 k2 r1 r2 r3 r4 lx
      go_wp2_with fail
      refine wpTill.begin (fun _ => True) 11 (by kernel_rfl) ?_
      change wpTill _ _ _ _ _ _ 12 _ _ _
      refine wpTill.free (jj := 11) (m := 0) [(0, Fact.eq (.pointer (some ⟨w.heap.size, 1, none⟩))),
      (1, Fact.eq (.slice (some ad) ea.length c')),
      (2, Fact.eq (.int .i64 j)),
      (3, Fact.eq (.pointer (some (ad.add (j * 3))))),
      (4, Fact.eq (.agg #[.bool x.1, .slice P n d2, .slice Q m o])),
      (5, Fact.eq (.pointer (some ⟨w.heap.size + 1, 1, none⟩))),
      (6, Fact.eq (.slice (some ae) ea.length d')),
      (7, Fact.eq (.int .i64 j)),
      (8, Fact.eq (.pointer (some (ae.add (j * 3))))),
      (9, Fact.eq (.agg #[.bool x.1, .slice P9 n9 d9, .slice Q9 m9 o9])),
      (10, Fact.eq (.bool true)),
      (11, Fact.eq (.bool false))] [] [0, 1, 0, 7, 15, 0, 32, 0, 224, 480, 1023, 2047] [] ?_ (by kernel_rfl) (by kernel_rfl) (by kernel_rfl) [(0, some 28), (1, some 29), (2, some 30), (3, some 31), (4, some 32), (5, some 33), (6, some 34), (7, some 35), (8, some 36), (9, some 37), (10, some 38), (11, some 39)] (by kernel_rfl) ?hA ?hQ (fun _ _ => trivial) (by kernel_rfl) ?steps ?looses ?cont
      case hQ => exact fun _ _ _ _ _ h => h
      case hA =>
        intro vs
        simp only [fillD, List.foldl_cons, List.foldl_nil, Act.put, List.setIfInBounds_toArray, List.set_cons_zero, List.set_cons_succ]
        exact rfl
      case steps =>
        refine ⟨?_, ?_, ?_, ?_, ?_, ?_, ?_, ?_, ?_, ?_, ?_, ?_, trivial⟩
        · rintro vs u ⟨hV0, hV1, hV2, hV3, hV4, hV5, hV6, hV7, hV8, hV9, hV10, hV11, -⟩ G
          exact stepAt.pure (v := .pointer (some ⟨w.heap.size, 1, none⟩)) rfl rfl (by go_simp) rfl
        · rintro vs u ⟨hV0, hV1, hV2, hV3, hV4, hV5, hV6, hV7, hV8, hV9, hV10, hV11, -⟩ G
          have o0 := (y0.keep G).c1
          have eV0 : vs 0 = .pointer (some ⟨w.heap.size, 1, none⟩) := hV0 rfl
          exact stepAt.pure (v := .slice (some ad) ea.length c') rfl rfl (by simp only [eV0]; go_simp) rfl
        · rintro vs u ⟨hV0, hV1, hV2, hV3, hV4, hV5, hV6, hV7, hV8, hV9, hV10, hV11, -⟩ G
          exact stepAt.pure (v := .int .i64 j) rfl rfl (by go_simp) rfl
        · rintro vs u ⟨hV0, hV1, hV2, hV3, hV4, hV5, hV6, hV7, hV8, hV9, hV10, hV11, -⟩ G
          have eV1 : vs 1 = .slice (some ad) ea.length c' := hV1 rfl
          have eV2 : vs 2 = .int .i64 j := hV2 rfl
          exact stepAt.pure (v := .pointer (some (ad.add (j * 3)))) rfl rfl (by simp only [eV1, eV2]; go_simp) rfl
        · rintro vs u ⟨hV0, hV1, hV2, hV3, hV4, hV5, hV6, hV7, hV8, hV9, hV10, hV11, -⟩ G
          obtain ⟨⟨o0, o1, o2⟩, -⟩ := KS u G
          have eV3 : vs 3 = .pointer (some (ad.add (j * 3))) := hV3 rfl
          exact stepAt.pure (v := .agg #[.bool x.1, .slice P n d2, .slice Q m o]) rfl rfl (by simp only [eV3]; go_simp) rfl
        · rintro vs u ⟨hV0, hV1, hV2, hV3, hV4, hV5, hV6, hV7, hV8, hV9, hV10, hV11, -⟩ G
          exact stepAt.pure (v := .pointer (some ⟨w.heap.size + 1, 1, none⟩)) rfl rfl (by go_simp) rfl
        · rintro vs u ⟨hV0, hV1, hV2, hV3, hV4, hV5, hV6, hV7, hV8, hV9, hV10, hV11, -⟩ G
          have o0 := (y1.keep G).c1
          have eV5 : vs 5 = .pointer (some ⟨w.heap.size + 1, 1, none⟩) := hV5 rfl
          exact stepAt.pure (v := .slice (some ae) ea.length d') rfl rfl (by simp only [eV5]; go_simp) rfl
        · rintro vs u ⟨hV0, hV1, hV2, hV3, hV4, hV5, hV6, hV7, hV8, hV9, hV10, hV11, -⟩ G
          exact stepAt.pure (v := .int .i64 j) rfl rfl (by go_simp) rfl
        · rintro vs u ⟨hV0, hV1, hV2, hV3, hV4, hV5, hV6, hV7, hV8, hV9, hV10, hV11, -⟩ G
          have eV6 : vs 6 = .slice (some ae) ea.length d' := hV6 rfl
          have eV7 : vs 7 = .int .i64 j := hV7 rfl
          exact stepAt.pure (v := .pointer (some (ae.add (j * 3)))) rfl rfl (by simp only [eV6, eV7]; go_simp) rfl
        · rintro vs u ⟨hV0, hV1, hV2, hV3, hV4, hV5, hV6, hV7, hV8, hV9, hV10, hV11, -⟩ G
          obtain ⟨-, o0, o1, o2⟩ := KS u G
          have eV8 : vs 8 = .pointer (some (ae.add (j * 3))) := hV8 rfl
          exact stepAt.pure (v := .agg #[.bool x.1, .slice P9 n9 d9, .slice Q9 m9 o9]) rfl rfl (by simp only [eV8]; go_simp) rfl
        · rintro vs u ⟨hV0, hV1, hV2, hV3, hV4, hV5, hV6, hV7, hV8, hV9, hV10, hV11, -⟩ G
          refine stepAt.call (f := 78) (args := #[vs 4, vs 9]) rfl rfl (by go_simp) ?_
          have eV4 : vs 4 = .agg #[.bool x.1, .slice P n d2, .slice Q m o] := hV4 rfl
          have eV9 : vs 9 = .agg #[.bool x.1, .slice P9 n9 d9, .slice Q9 m9 o9] := hV9 rfl
          rw [eV4, eV9]
          with_reducible refine (rsame_t u x.1 x.1 (.slice P n d2) (.slice Q m o) (.slice P9 n9 d9) (.slice Q9 m9 o9) (qOf x) _ _ _ _ L (Lib.hid (H1.out.keep G)) (Lib.hid (H2.out.keep G)) hL1 hL2).mono ?_
          rintro e u' ⟨rfl, hf⟩
          exact ⟨_, rfl, hf, rfl⟩
        · rintro vs u ⟨hV0, hV1, hV2, hV3, hV4, hV5, hV6, hV7, hV8, hV9, hV10, hV11, -⟩ G
          have eV10 : vs 10 = .bool true := hV10 rfl
          exact stepAt.pure (v := .bool false) rfl rfl (by simp only [eV10]; go_simp) rfl
      case looses =>
        exact trivial
      case cont =>
        rintro vs u ⟨hV0, hV1, hV2, hV3, hV4, hV5, hV6, hV7, hV8, hV9, hV10, hV11, -⟩ G
        have eV0 : vs 0 = .pointer (some ⟨w.heap.size, 1, none⟩) := hV0
        have eV1 : vs 1 = .slice (some ad) ea.length c' := hV1
        have eV2 : vs 2 = .int .i64 j := hV2
        have eV3 : vs 3 = .pointer (some (ad.add (j * 3))) := hV3
        have eV4 : vs 4 = .agg #[.bool x.1, .slice P n d2, .slice Q m o] := hV4
        have eV5 : vs 5 = .pointer (some ⟨w.heap.size + 1, 1, none⟩) := hV5
        have eV6 : vs 6 = .slice (some ae) ea.length d' := hV6
        have eV7 : vs 7 = .int .i64 j := hV7
        have eV8 : vs 8 = .pointer (some (ae.add (j * 3))) := hV8
        have eV9 : vs 9 = .agg #[.bool x.1, .slice P9 n9 d9, .slice Q9 m9 o9] := hV9
        have eV10 : vs 10 = .bool true := hV10
        have eV11 : vs 11 = .bool false := hV11
        simp only [eV0, eV1, eV2, eV3, eV4, eV5, eV6, eV7, eV8, eV9, eV10, eV11]
        clear eV0 eV1 eV2 eV3 eV4 eV5 eV6 eV7 eV8 eV9 eV10 eV11 hV0 hV1 hV2 hV3 hV4 hV5 hV6 hV7 hV8 hV9 hV10 hV11
        refine wpTill.done (by kernel_rfl) ?_
        replace x0 := y0.keep G
        replace x1 := y1.keep G
        replace F := fr_then F G
        clear KS y0 y1 G H1 H2
        go_wp2_with fail
        go_roundw
        case rel => exact ⟨j + 1, by go_num, by omega, x0, x1, F⟩
        case measure => first | (simp [intOf]; done) | (simp [intOf]; omega)
    · obtain rfl : j = ea.length := by omega
      go_wp2_with fail
      go_ret
      exact ⟨rfl, F⟩

set_option maxRecDepth 20000 in
set_option maxHeartbeats 32000000 in
theorem pown_walk {S : Nat → Prop} {sha : List Int} {ea : List RatL} (w : World) (vx : Value) (L : Nat) (hx : TL S w vx sha ea L) (hL : L ≤ 1048576) :
    Calls Tryz.prog 8 #[vx] w fun e w' => e = .returned (.bool true) ∧ Fr (fun k => k < w.heap.size) w w' := by
  have FA := Lib.hid (hx.fit hL)
  have FQA := Lib.hid (FA.out.fq)
  obtain ⟨va, ve, rfl, ha, he⟩ := hx.ex
  obtain ⟨A, c, rfl, _, _, _⟩ := ha.slice
  obtain ⟨A', c', rfl, _, _, _⟩ := he.slice
  have HA := TV.hold ⟨ha.any, he.any⟩
  clear hx ha he
  have F := (Fr.refl (fun k => k < w.heap.size) w).alloc (.cells #[.slice A sha.length c, .slice A' ea.length c'] 26)
  have xa := Box2.new w 26 (.slice A sha.length c) (.slice A' ea.length c')
  replace HA := HA.keep (F.mono fun k h _ => h)
  obtain ⟨b1, hb1⟩ : ∃ b, fewB ea = b := ⟨_, rfl⟩
  obtain ⟨r, hr⟩ : ∃ r, mayT sha ea = r := ⟨_, rfl⟩
  have HB1 := Lib.hid hb1
  have HR := Lib.hid hr
  have HP := Lib.hid (show powE sha ea 1 = r from by
    unfold powE
    rw [hr]
    by_cases h : r = 0
    · rw [h]; decide
    · exact if_pos h)
  clear hb1 hr
  go_enter Tryz.func8, Tryz.ntmps8
  repeat' ((fail_if_success (with_reducible refine wpTill.row (fun _ => True) 0 ?_ ?_)); go_step)
  apply wp_region_lit
  repeat' ((fail_if_success (with_reducible refine wpTill.row (fun _ => True) 0 ?_ ?_)); go_step)
  generalize w.alloc (.cells #[.slice A sha.length c, .slice A' ea.length c'] 26) = W0 at F xa HA  ⊢
  cases b1
  · refine wpTill.row (fun _ => True) 2 (by kernel_rfl) ?_
    change wpTill _ _ _ _ _ _ 3 _ _ _
    refine wpTill.free (jj := 2) (m := 0) [(0, Fact.eq (.agg #[.slice A sha.length c, .slice A' ea.length c'])),
      (1, Fact.eq (.bool false)),
      (2, Fact.eq (.bool true))] [] [0, 1, 3] [] ?_ (by kernel_rfl) (by kernel_rfl) (by kernel_rfl) [(0, some 17), (1, some 18), (2, some 19)] (by kernel_rfl) ?hA34 ?hQ34 (fun _ _ => trivial) (by kernel_rfl) ?steps34 ?looses34 ?cont34
    case hQ34 => exact fun _ _ _ _ _ h => h
    case hA34 =>
      intro vs
      simp only [fillD, List.foldl_cons, List.foldl_nil, Act.put, List.setIfInBounds_toArray, List.set_cons_zero, List.set_cons_succ]
      exact rfl
    case steps34 =>
      refine ⟨?_, ?_, ?_, trivial⟩
      · rintro vs u ⟨hV0, hV1, hV2, -⟩ G
        have o0 := (xa.keep G).c0
        have o1 := (xa.keep G).c1
        exact stepAt.pure (v := .agg #[.slice A sha.length c, .slice A' ea.length c']) rfl rfl (by go_simp) rfl
      · rintro vs u ⟨hV0, hV1, hV2, -⟩ G
        refine stepAt.call (f := 11) (args := #[vs 0]) rfl rfl (by go_simp) ?_
        have eV0 : vs 0 = .agg #[.slice A sha.length c, .slice A' ea.length c'] := hV0 rfl
        rw [eV0]
        exact (few_u (HA.at G) HB1).mono fun _ _ ⟨v, h1, h2, h3⟩ => ⟨v, h1, h2, h3.now⟩
      · rintro vs u ⟨hV0, hV1, hV2, -⟩ G
        have eV1 : vs 1 = .bool false := hV1 rfl
        exact stepAt.pure (v := .bool true) rfl rfl (by simp only [eV1]; go_simp) rfl
    case looses34 =>
      exact trivial
    rintro vs U1 ⟨hV0, hV1, hV2, -⟩ G
    have eV0 : vs 0 = .agg #[.slice A sha.length c, .slice A' ea.length c'] := hV0
    have eV1 : vs 1 = .bool false := hV1
    have eV2 : vs 2 = .bool true := hV2
    simp only [eV0, eV1, eV2]
    clear eV0 eV1 eV2 hV0 hV1 hV2
    refine wpTill.done (by kernel_rfl) ?_
    replace xa := xa.keep G
    replace HA := HA.keep G
    replace F := fr_then F G
    clear G
    repeat' ((fail_if_success (with_reducible refine wpTill.row (fun _ => True) 0 ?_ ?_)); go_step)
    refine wpTill.row (fun _ => True) 1 (by kernel_rfl) ?_
    change wpTill _ _ _ _ _ _ 2 _ _ _
    refine wpTill.free (jj := 1) (m := 1) [(0, Fact.eq (.bool true))] [] [0, 1] [] ?_ (by kernel_rfl) (by kernel_rfl) (by kernel_rfl) [(0, some 20)] (by kernel_rfl) ?hA35 ?hQ35 (fun _ _ => trivial) (by kernel_rfl) ?steps35 ?looses35 ?cont35
    case hQ35 => exact fun _ _ _ _ _ h => h
    case hA35 =>
      intro vs
      simp only [fillD, List.foldl_cons, List.foldl_nil, Act.put, List.setIfInBounds_toArray, List.set_cons_zero, List.set_cons_succ]
      exact rfl
    case steps35 =>
      refine ⟨?_, trivial⟩
      · rintro vs u ⟨hV0, -⟩ G
        refine stepAt.call (f := 15) (args := #[]) rfl rfl (by go_simp) ?_
        exact (known_u u).mono fun _ _ ⟨v, h1, h2, h3⟩ => ⟨v, h1, h2, h3.now⟩
    case looses35 =>
      exact trivial
    rintro vs U2 ⟨hV0, -⟩ G
    have eV0 : vs 0 = .bool true := hV0
    simp only [eV0]
    clear eV0 hV0
    refine wpTill.next 1 rfl (by kernel_rfl) (by rfl) (fun K hK => ?_)
    go_simp
    refine hK _ _ (no_wait (by kernel_rfl)) ?_
    clear hK K
    refine wpTill.done (by kernel_rfl) ?_
    replace xa := xa.keep G
    replace HA := HA.keep G
    replace F := fr_then F G
    clear G
    repeat' ((fail_if_success (with_reducible refine wpTill.row (fun _ => True) 0 ?_ ?_)); go_step)
    go_ret
    exact ⟨rfl, F⟩
  · refine wpTill.row (fun _ => True) 2 (by kernel_rfl) ?_
    change wpTill _ _ _ _ _ _ 3 _ _ _
    refine wpTill.free (jj := 2) (m := 0) [(0, Fact.eq (.agg #[.slice A sha.length c, .slice A' ea.length c'])),
      (1, Fact.eq (.bool true)),
      (2, Fact.eq (.bool false))] [] [0, 1, 3] [] ?_ (by kernel_rfl) (by kernel_rfl) (by kernel_rfl) [(0, some 17), (1, some 18), (2, some 19)] (by kernel_rfl) ?hA36 ?hQ36 (fun _ _ => trivial) (by kernel_rfl) ?steps36 ?looses36 ?cont36
    case hQ36 => exact fun _ _ _ _ _ h => h
    case hA36 =>
      intro vs
      simp only [fillD, List.foldl_cons, List.foldl_nil, Act.put, List.setIfInBounds_toArray, List.set_cons_zero, List.set_cons_succ]
      exact rfl
    case steps36 =>
      refine ⟨?_, ?_, ?_, trivial⟩
      · rintro vs u ⟨hV0, hV1, hV2, -⟩ G
        have o0 := (xa.keep G).c0
        have o1 := (xa.keep G).c1
        exact stepAt.pure (v := .agg #[.slice A sha.length c, .slice A' ea.length c']) rfl rfl (by go_simp) rfl
      · rintro vs u ⟨hV0, hV1, hV2, -⟩ G
        refine stepAt.call (f := 11) (args := #[vs 0]) rfl rfl (by go_simp) ?_
        have eV0 : vs 0 = .agg #[.slice A sha.length c, .slice A' ea.length c'] := hV0 rfl
        rw [eV0]
        exact (few_u (HA.at G) HB1).mono fun _ _ ⟨v, h1, h2, h3⟩ => ⟨v, h1, h2, h3.now⟩
      · rintro vs u ⟨hV0, hV1, hV2, -⟩ G
        have eV1 : vs 1 = .bool true := hV1 rfl
        exact stepAt.pure (v := .bool false) rfl rfl (by simp only [eV1]; go_simp) rfl
    case looses36 =>
      exact trivial
    rintro vs U1 ⟨hV0, hV1, hV2, -⟩ G
    have eV0 : vs 0 = .agg #[.slice A sha.length c, .slice A' ea.length c'] := hV0
    have eV1 : vs 1 = .bool true := hV1
    have eV2 : vs 2 = .bool false := hV2
    simp only [eV0, eV1, eV2]
    clear eV0 eV1 eV2 hV0 hV1 hV2
    refine wpTill.done (by kernel_rfl) ?_
    replace xa := xa.keep G
    replace HA := HA.keep G
    replace F := fr_then F G
    clear G
    repeat' ((fail_if_success (with_reducible refine wpTill.row (fun _ => True) 0 ?_ ?_)); go_step)
    refine wpTill.row (fun _ => True) 3 (by kernel_rfl) ?_
    change wpTill _ _ _ _ _ _ 4 _ _ _
    refine wpTill.free (jj := 3) (m := 1) [(0, Fact.eq (.agg #[.slice A sha.length c, .slice A' ea.length c'])),
      (1, Fact.held (Agg (TV sha ea))),
      (2, Fact.mem (New2 U1.heap.size 26 (.slice none 0 0) (.slice none 0 0)) New2.keep)] [] [0, 1, 0, 7] [] ?_ (by kernel_rfl) (by kernel_rfl) (by kernel_rfl) [(0, some 21), (1, some 22), (2, some 3)] (by kernel_rfl) ?hA37 ?hQ37 (fun _ _ => trivial) (by kernel_rfl) ?steps37 ?looses37 ?cont37
    case hQ37 => exact fun _ _ _ _ _ h => h
    case hA37 =>
      intro vs
      simp only [fillD, List.foldl_cons, List.foldl_nil, Act.put, List.setIfInBounds_toArray, List.set_cons_zero, List.set_cons_succ]
      exact rfl
    case steps37 =>
      refine ⟨?_, ?_, ?_, trivial⟩
      · rintro vs u ⟨hV0, hV1, hV2, -⟩ G
        have o0 := (xa.keep G).c0
        have o1 := (xa.keep G).c1
        exact stepAt.pure (v := .agg #[.slice A sha.length c, .slice A' ea.length c']) rfl rfl (by go_simp) rfl
      · rintro vs u ⟨hV0, hV1, hV2, -⟩ G
        refine stepAt.call (f := 37) (args := #[vs 0]) rfl rfl (by go_simp) ?_
        have eV0 : vs 0 = .agg #[.slice A sha.length c, .slice A' ea.length c'] := hV0 rfl
        rw [eV0]
        exact own_u (HA.at G) FA
      · rintro vs u ⟨hV0, hV1, hV2, -⟩ G
        exact stepAt.value (v := .pointer (some ⟨u.heap.size, 0, none⟩)) (u := u.alloc (.cells #[.slice none 0 0, .slice none 0 0] 26)) rfl rfl (by go_simp) ((Fr.refl _ _).alloc _) ⟨_, rfl, G.size, Box2.new _ _ _ _⟩
    case looses37 =>
      exact trivial
    rintro vs u ⟨hV0, hV1, hV2, -⟩ G
    have eV0 : vs 0 = .agg #[.slice A sha.length c, .slice A' ea.length c'] := hV0
    replace hV1 : Hold (fun u' => (Agg (TV sha ea)) u' (vs 1)) u := hV1
    obtain ⟨A2_1, n2_1, c2_1, B2_1, m2_1, k2_1, eV1, -⟩ := hV1.now
    rw [eV1] at hV1
    obtain ⟨b2_2, eV2, l2_2, y2_2⟩ := hV2
    replace eV2 : vs 2 = _ := eV2
    simp only [eV0, eV1, eV2]
    clear eV0 eV1 eV2 hV0
    have g0 := y2_2.free 0
    have g1 := y2_2.free 1
    have g2 := y2_2.c0
    have g3 := y2_2.c1
    refine wpTill.next 3 rfl (by kernel_rfl) (by rfl) (fun K hK => ?_)
    go_simp
    refine hK _ _ (no_wait (by kernel_rfl)) ?_
    clear hK K
    refine wpTill.done (by kernel_rfl) ?_
    have F9 := fr_put2 u b2_2 (.slice A2_1 n2_1 c2_1) (.slice B2_1 m2_1 k2_1)
    have G9 := G.comp F9 (R := fun k => k < U1.heap.size) fun k _ hk => ⟨hk, by omega⟩
    have z2 := y2_2.set2 (.slice A2_1 n2_1 c2_1) (.slice B2_1 m2_1 k2_1)
    have T2 := (hV1.now.out.fill (.slice A2_1 n2_1 c2_1) (.slice B2_1 m2_1 k2_1) y2_2).hold
    replace xa := xa.keep G9
    replace HA := HA.keep G9
    replace F := fr_then F G9
    generalize (u.setCell ⟨b2_2, 0, none⟩ (.slice A2_1 n2_1 c2_1)).setCell ⟨b2_2, 1, none⟩ (.slice B2_1 m2_1 k2_1) = U2 at z2 T2 xa HA F ⊢
    clear g0 g1 g2 g3 F9 G9 G y2_2 l2_2 hV1
    repeat' ((fail_if_success (with_reducible refine wpTill.row (fun _ => True) 0 ?_ ?_)); go_step)
    apply wp_region_lit
    repeat' ((fail_if_success (with_reducible refine wpTill.row (fun _ => True) 0 ?_ ?_)); go_step)
    have al := fun R => (((Fr.refl R U2).alloc (.cells #[.int .u32 1] 60)).alloc (.cells #[.int .u32 1] 60)).alloc (.cells #[.bool false, .slice (some ⟨U2.heap.size, 0, none⟩) 1 1, .slice (some ⟨U2.heap.size + 1, 0, none⟩) 1 1] 51)
    have q1 := Own.one (K := Lm) (e := 60) (S := fun _ => True) (x := 1) (cs := [.int .u32 1]) U2 trivial rfl (fun _ _ => ⟨rfl, by decide⟩)
    have q2 := Own.one (K := Lm) (e := 60) (S := fun _ => True) (x := 1) (cs := [.int .u32 1]) (U2.alloc (.cells #[.int .u32 1] 60)) trivial rfl (fun _ _ => ⟨rfl, by decide⟩)
    have HB := LV.hold (x := (false, [1], [1])) ⟨q1.sl.keep' Lm_pos (((Fr.refl _ _).alloc (.cells #[.int .u32 1] 60)).alloc (.cells #[.bool false, .slice (some ⟨U2.heap.size, 0, none⟩) 1 1, .slice (some ⟨U2.heap.size + 1, 0, none⟩) 1 1] 51)), q2.sl.keep' Lm_pos ((Fr.refl _ _).alloc (.cells #[.bool false, .slice (some ⟨U2.heap.size, 0, none⟩) 1 1, .slice (some ⟨U2.heap.size + 1, 0, none⟩) 1 1] 51))⟩
    have xb := Box3.new ((U2.alloc (.cells #[.int .u32 1] 60)).alloc (.cells #[.int .u32 1] 60)) 51 (.bool false) (.slice (some ⟨U2.heap.size, 0, none⟩) 1 1) (.slice (some ⟨U2.heap.size + 1, 0, none⟩) 1 1)
    simp only [World.size_alloc] at xb HB
    replace xa := xa.keep (al _)
    replace z2 := z2.keep (al _)
    replace HA := HA.keep (al _)
    replace T2 := T2.keep (al _)
    replace F := fr_then F (al _)
    clear al q1 q2
    generalize ((U2.alloc (.cells #[.int .u32 1] 60)).alloc (.cells #[.int .u32 1] 60)).alloc (.cells #[.bool false, .slice (some ⟨U2.heap.size, 0, none⟩) 1 1, .slice (some ⟨U2.heap.size + 1, 0, none⟩) 1 1] 51) = W4 at xb HB xa z2 HA T2 F ⊢
    have LA := Lib.hid (show Sl Im (fun k => k < W4.heap.size) W4 (.slice A sha.length c) sha ∧ Sl Rm (fun k => k < W4.heap.size) W4 (.slice A' ea.length c') ea from ⟨HA.now.1.low Im_pos, HA.now.2.low Rm_pos⟩)
    have LO := Lib.hid (show Sl Im (fun k => k < W4.heap.size) W4 (.slice A2_1 n2_1 c2_1) sha ∧ Sl Rm (fun k => k < W4.heap.size) W4 (.slice B2_1 m2_1 k2_1) ea from ⟨T2.now.1.low Im_pos, T2.now.2.low Rm_pos⟩)
    have HYL := Lib.hid (show ((false, [1], [1]) : RatL).2.1.length ≤ L + 2 ∧ ((false, [1], [1]) : RatL).2.2.length ≤ L + 2 from ⟨by show 1 ≤ _; omega, by show 1 ≤ _; omega⟩)
    have FW := F
    replace F := Fr.refl (fun k => k < W4.heap.size) W4
    have HN0 : Hold (fun u => W4.heap.size ≤ u.heap.size) W4 := fun u hu => hu.size
    have l4a := xa.lt
    have l4b := z2.lt
    refine wpTill.row (fun _ => True) 6 (by kernel_rfl) ?_
    change wpTill _ _ _ _ _ _ 8 _ _ _
    refine wpTill.free (jj := 6) (m := 2) [(0, Fact.eq (.agg #[.slice A2_1 n2_1 c2_1, .slice B2_1 m2_1 k2_1])),
      (1, Fact.held (Tup (r) (OT W4.heap.size (if r = 0 then sha else []) (if r = 0 then ea.map fun x => canR (if (qOf x).num.sign < 0 then 0 else qOf x) else [])))),
      (2, Fact.same 1),
      (3, Fact.fst 2),
      (5, Fact.mem (New2 W4.heap.size 26 (.slice none 0 0) (.slice none 0 0)) New2.keep)] [(4, Fact.snd 2)] [0, 1, 3, 7, 7, 0, 47, 127] [] ?_ (by kernel_rfl) (by kernel_rfl) (by kernel_rfl) [(0, some 27), (1, some 28), (2, some 26), (3, some 29), (5, some 5), (4, some 30)] (by kernel_rfl) ?hA38 ?hQ38 (fun _ _ => trivial) (by kernel_rfl) ?steps38 ?looses38 ?cont38
    case hQ38 => exact fun _ _ _ _ _ h => h
    case hA38 =>
      intro vs
      simp only [fillD, List.foldl_cons, List.foldl_nil, Act.put, List.setIfInBounds_toArray, List.set_cons_zero, List.set_cons_succ]
      exact rfl
    case steps38 =>
      refine ⟨?_, ?_, ?_, ?_, ?_, trivial⟩
      · rintro vs u ⟨hV0, hV1, hV2, hV3, hV5, hV4, -⟩ G
        have o0 := (z2.keep G).c0
        have o1 := (z2.keep G).c1
        exact stepAt.pure (v := .agg #[.slice A2_1 n2_1 c2_1, .slice B2_1 m2_1 k2_1]) rfl rfl (by go_simp) rfl
      · rintro vs u ⟨hV0, hV1, hV2, hV3, hV5, hV4, -⟩ G
        refine stepAt.call (f := 20) (args := #[vs 0]) rfl rfl (by go_simp) ?_
        have eV0 : vs 0 = .agg #[.slice A2_1 n2_1 c2_1, .slice B2_1 m2_1 k2_1] := hV0 rfl
        rw [eV0]
        exact relu_o (HN0.at G) (T2.at G) FA HR
      · rintro vs u ⟨hV0, hV1, hV2, hV3, hV5, hV4, -⟩ G
        exact stepAt.pure (v := vs 1) rfl rfl (by go_simp) rfl
      · rintro vs u ⟨hV0, hV1, hV2, hV3, hV5, hV4, -⟩ G
        have HV1 : Hold (fun u' => (Tup (r) (OT W4.heap.size (if r = 0 then sha else []) (if r = 0 then ea.map fun x => canR (if (qOf x).num.sign < 0 then 0 else qOf x) else []))) u' (vs 1)) u := hV1 rfl
        obtain ⟨A3_1, n3_1, c3_1, B3_1, m3_1, k3_1, eV1, -⟩ := HV1.now
        rw [eV1] at HV1
        have eV2 : vs 2 = .tuple #[.agg #[.slice A3_1 n3_1 c3_1, .slice B3_1 m3_1 k3_1], .int .i64 r] := (show vs 2 = vs 1 from hV2 rfl).trans eV1
        exact stepAt.pure (v := .agg #[.slice A3_1 n3_1 c3_1, .slice B3_1 m3_1 k3_1]) rfl rfl (by simp only [eV2]; go_simp) ⟨_, _, eV2, rfl⟩
      · rintro vs u ⟨hV0, hV1, hV2, hV3, hV5, hV4, -⟩ G
        exact stepAt.value (v := .pointer (some ⟨u.heap.size, 0, none⟩)) (u := u.alloc (.cells #[.slice none 0 0, .slice none 0 0] 26)) rfl rfl (by go_simp) ((Fr.refl _ _).alloc _) ⟨_, rfl, G.size, Box2.new _ _ _ _⟩
    case looses38 =>
      refine ⟨?_, trivial⟩
      · rintro vs u ⟨hV0, hV1, hV2, hV3, hV5, hV4, -⟩ G
        have HV1 : Hold (fun u' => (Tup (r) (OT W4.heap.size (if r = 0 then sha else []) (if r = 0 then ea.map fun x => canR (if (qOf x).num.sign < 0 then 0 else qOf x) else []))) u' (vs 1)) u := hV1 rfl
        obtain ⟨A3_1, n3_1, c3_1, B3_1, m3_1, k3_1, eV1, -⟩ := HV1.now
        rw [eV1] at HV1
        have eV2 : vs 2 = .tuple #[.agg #[.slice A3_1 n3_1 c3_1, .slice B3_1 m3_1 k3_1], .int .i64 r] := (show vs 2 = vs 1 from hV2 rfl).trans eV1
        exact pureAt.of (v := .int .i64 r) rfl rfl (fun _ => by simp only [eV2]; go_simp) ⟨_, _, eV2, rfl⟩
    rintro vs u ⟨hV0, hV1, hV2, hV3, hV5, hV4, -⟩ G
    have eV0 : vs 0 = .agg #[.slice A2_1 n2_1 c2_1, .slice B2_1 m2_1 k2_1] := hV0
    replace hV1 : Hold (fun u' => (Tup (r) (OT W4.heap.size (if r = 0 then sha else []) (if r = 0 then ea.map fun x => canR (if (qOf x).num.sign < 0 then 0 else qOf x) else []))) u' (vs 1)) u := hV1
    obtain ⟨A3_1, n3_1, c3_1, B3_1, m3_1, k3_1, eV1, -⟩ := hV1.now
    rw [eV1] at hV1
    have eV2 : vs 2 = _ := (show vs 2 = vs 1 from hV2).trans eV1
    obtain ⟨x3, z3, a3, eV3⟩ := hV3
    have a3 := eV2.symm.trans a3
    cases a3
    replace eV3 : vs 3 = _ := eV3
    obtain ⟨b3_5, eV5, l3_5, y3_5⟩ := hV5
    replace eV5 : vs 5 = _ := eV5
    obtain ⟨x4, z4, a4, eV4⟩ := hV4
    have a4 := eV2.symm.trans a4
    cases a4
    replace eV4 : vs 4 = _ := eV4
    simp only [eV0, eV1, eV2, eV3, eV5, eV4]
    clear eV0 eV1 eV2 eV3 eV5 eV4 hV0 hV2
    have g0 := y3_5.free 0
    have g1 := y3_5.free 1
    have g2 := y3_5.c0
    have g3 := y3_5.c1
    refine wpTill.next 6 rfl (by kernel_rfl) (by rfl) (fun K hK => ?_)
    go_simp
    refine hK _ _ (no_wait (by kernel_rfl)) ?_
    clear hK K
    refine wpTill.next 7 rfl (by kernel_rfl) (by rfl) (fun K hK => ?_)
    go_simp
    refine hK _ _ (no_wait (by kernel_rfl)) ?_
    clear hK K
    refine wpTill.done (by kernel_rfl) ?_
    have F9 := fr_put2 u b3_5 (.slice A3_1 n3_1 c3_1) (.slice B3_1 m3_1 k3_1)
    have G9 := G.comp F9 (R := fun k => k < W4.heap.size) fun k _ hk => ⟨hk, by omega⟩
    have z3 := y3_5.set2 (.slice A3_1 n3_1 c3_1) (.slice B3_1 m3_1 k3_1)
    have T3 := (hV1.now.out.fill (.slice A3_1 n3_1 c3_1) (.slice B3_1 m3_1 k3_1) y3_5).hold
    replace xa := xa.keep G9
    replace z2 := z2.keep G9
    replace xb := xb.keep G9
    replace HA := HA.keep G9
    replace T2 := T2.keep G9
    replace HB := HB.keep G9
    replace HN0 := HN0.keep G9
    replace F := fr_then F G9
    generalize (u.setCell ⟨b3_5, 0, none⟩ (.slice A3_1 n3_1 c3_1)).setCell ⟨b3_5, 1, none⟩ (.slice B3_1 m3_1 k3_1) = U3 at z3 T3 xa z2 xb HA T2 HB HN0 F ⊢
    clear g0 g1 g2 g3 F9 G9 G y3_5 l3_5 hV1
    repeat' ((fail_if_success (with_reducible refine wpTill.row (fun _ => True) 0 ?_ ?_)); go_step)
    refine wpTill.row (fun _ => True) 7 (by kernel_rfl) ?_
    change wpTill _ _ _ _ _ _ 9 _ _ _
    refine wpTill.free (jj := 7) (m := 2) [(0, Fact.eq (.agg #[.slice A2_1 n2_1 c2_1, .slice B2_1 m2_1 k2_1])),
      (1, Fact.eq (.agg #[.bool false, .slice (some ⟨U2.heap.size, 0, none⟩) 1 1, .slice (some ⟨U2.heap.size + 1, 0, none⟩) 1 1])),
      (2, Fact.held (Tup (r) (OT W4.heap.size (if r = 0 then sha else []) (if r = 0 then ea.map fun x => canR (qOf x * qOf (false, [1], [1])) else [])))),
      (3, Fact.same 2),
      (4, Fact.fst 3),
      (6, Fact.mem (New2 U3.heap.size 26 (.slice none 0 0) (.slice none 0 0)) New2.keep)] [(5, Fact.snd 3)] [0, 0, 3, 7, 15, 15, 0, 95, 255] [] ?_ (by kernel_rfl) (by kernel_rfl) (by kernel_rfl) [(0, some 32), (1, some 33), (2, some 34), (3, some 31), (4, some 35), (6, some 7), (5, some 36)] (by kernel_rfl) ?hA39 ?hQ39 (fun _ _ => trivial) (by kernel_rfl) ?steps39 ?looses39 ?cont39
    case hQ39 => exact fun _ _ _ _ _ h => h
    case hA39 =>
      intro vs
      simp only [fillD, List.foldl_cons, List.foldl_nil, Act.put, List.setIfInBounds_toArray, List.set_cons_zero, List.set_cons_succ]
      exact rfl
    case steps39 =>
      refine ⟨?_, ?_, ?_, ?_, ?_, ?_, trivial⟩
      · rintro vs u ⟨hV0, hV1, hV2, hV3, hV4, hV6, hV5, -⟩ G
        have o0 := (z2.keep G).c0
        have o1 := (z2.keep G).c1
        exact stepAt.pure (v := .agg #[.slice A2_1 n2_1 c2_1, .slice B2_1 m2_1 k2_1]) rfl rfl (by go_simp) rfl
      · rintro vs u ⟨hV0, hV1, hV2, hV3, hV4, hV6, hV5, -⟩ G
        have o0 := (xb.keep G).c0
        have o1 := (xb.keep G).c1
        have o2 := (xb.keep G).c2
        exact stepAt.pure (v := .agg #[.bool false, .slice (some ⟨U2.heap.size, 0, none⟩) 1 1, .slice (some ⟨U2.heap.size + 1, 0, none⟩) 1 1]) rfl rfl (by go_simp) rfl
      · rintro vs u ⟨hV0, hV1, hV2, hV3, hV4, hV6, hV5, -⟩ G
        refine stepAt.call (f := 34) (args := #[vs 0, vs 1]) rfl rfl (by go_simp) ?_
        have eV0 : vs 0 = .agg #[.slice A2_1 n2_1 c2_1, .slice B2_1 m2_1 k2_1] := hV0 rfl
        have eV1 : vs 1 = .agg #[.bool false, .slice (some ⟨U2.heap.size, 0, none⟩) 1 1, .slice (some ⟨U2.heap.size + 1, 0, none⟩) 1 1] := hV1 rfl
        rw [eV0, eV1]
        exact scale_o (y := (false, [1], [1])) (HN0.at G) (T2.at G) FA HR (HB.at G).1 (HB.at G).2 HYL
      · rintro vs u ⟨hV0, hV1, hV2, hV3, hV4, hV6, hV5, -⟩ G
        exact stepAt.pure (v := vs 2) rfl rfl (by go_simp) rfl
      · rintro vs u ⟨hV0, hV1, hV2, hV3, hV4, hV6, hV5, -⟩ G
        have HV2 : Hold (fun u' => (Tup (r) (OT W4.heap.size (if r = 0 then sha else []) (if r = 0 then ea.map fun x => canR (qOf x * qOf (false, [1], [1])) else []))) u' (vs 2)) u := hV2 rfl
        obtain ⟨A4_2, n4_2, c4_2, B4_2, m4_2, k4_2, eV2, -⟩ := HV2.now
        rw [eV2] at HV2
        have eV3 : vs 3 = .tuple #[.agg #[.slice A4_2 n4_2 c4_2, .slice B4_2 m4_2 k4_2], .int .i64 r] := (show vs 3 = vs 2 from hV3 rfl).trans eV2
        exact stepAt.pure (v := .agg #[.slice A4_2 n4_2 c4_2, .slice B4_2 m4_2 k4_2]) rfl rfl (by simp only [eV3]; go_simp) ⟨_, _, eV3, rfl⟩
      · rintro vs u ⟨hV0, hV1, hV2, hV3, hV4, hV6, hV5, -⟩ G
        exact stepAt.value (v := .pointer (some ⟨u.heap.size, 0, none⟩)) (u := u.alloc (.cells #[.slice none 0 0, .slice none 0 0] 26)) rfl rfl (by go_simp) ((Fr.refl _ _).alloc _) ⟨_, rfl, G.size, Box2.new _ _ _ _⟩
    case looses39 =>
      refine ⟨?_, trivial⟩
      · rintro vs u ⟨hV0, hV1, hV2, hV3, hV4, hV6, hV5, -⟩ G
        have HV2 : Hold (fun u' => (Tup (r) (OT W4.heap.size (if r = 0 then sha else []) (if r = 0 then ea.map fun x => canR (qOf x * qOf (false, [1], [1])) else []))) u' (vs 2)) u := hV2 rfl
        obtain ⟨A4_2, n4_2, c4_2, B4_2, m4_2, k4_2, eV2, -⟩ := HV2.now
        rw [eV2] at HV2
        have eV3 : vs 3 = .tuple #[.agg #[.slice A4_2 n4_2 c4_2, .slice B4_2 m4_2 k4_2], .int .i64 r] := (show vs 3 = vs 2 from hV3 rfl).trans eV2
        exact pureAt.of (v := .int .i64 r) rfl rfl (fun _ => by simp only [eV3]; go_simp) ⟨_, _, eV3, rfl⟩
    rintro vs u ⟨hV0, hV1, hV2, hV3, hV4, hV6, hV5, -⟩ G
    have eV0 : vs 0 = .agg #[.slice A2_1 n2_1 c2_1, .slice B2_1 m2_1 k2_1] := hV0
    have eV1 : vs 1 = .agg #[.bool false, .slice (some ⟨U2.heap.size, 0, none⟩) 1 1, .slice (some ⟨U2.heap.size + 1, 0, none⟩) 1 1] := hV1
    replace hV2 : Hold (fun u' => (Tup (r) (OT W4.heap.size (if r = 0 then sha else []) (if r = 0 then ea.map fun x => canR (qOf x * qOf (false, [1], [1])) else []))) u' (vs 2)) u := hV2
    obtain ⟨A4_2, n4_2, c4_2, B4_2, m4_2, k4_2, eV2, -⟩ := hV2.now
    rw [eV2] at hV2
    have eV3 : vs 3 = _ := (show vs 3 = vs 2 from hV3).trans eV2
    obtain ⟨x4, z4, a4, eV4⟩ := hV4
    have a4 := eV3.symm.trans a4
    cases a4
    replace eV4 : vs 4 = _ := eV4
    obtain ⟨b4_6, eV6, l4_6, y4_6⟩ := hV6
    replace eV6 : vs 6 = _ := eV6
    obtain ⟨x5, z5, a5, eV5⟩ := hV5
    have a5 := eV3.symm.trans a5
    cases a5
    replace eV5 : vs 5 = _ := eV5
    simp only [eV0, eV1, eV2, eV3, eV4, eV6, eV5]
    clear eV0 eV1 eV2 eV3 eV4 eV6 eV5 hV0 hV1 hV3
    have g0 := y4_6.free 0
    have g1 := y4_6.free 1
    have g2 := y4_6.c0
    have g3 := y4_6.c1
    refine wpTill.next 7 rfl (by kernel_rfl) (by rfl) (fun K hK => ?_)
    go_simp
    refine hK _ _ (no_wait (by kernel_rfl)) ?_
    clear hK K
    refine wpTill.next 8 rfl (by kernel_rfl) (by rfl) (fun K hK => ?_)
    go_simp
    refine hK _ _ (no_wait (by kernel_rfl)) ?_
    clear hK K
    refine wpTill.done (by kernel_rfl) ?_
    have F9 := fr_put2 u b4_6 (.slice A4_2 n4_2 c4_2) (.slice B4_2 m4_2 k4_2)
    have G9 := G.comp F9 (R := fun k => k < U3.heap.size) fun k _ hk => ⟨hk, by omega⟩
    have z4 := y4_6.set2 (.slice A4_2 n4_2 c4_2) (.slice B4_2 m4_2 k4_2)
    have T4 := (hV2.now.out.fill (.slice A4_2 n4_2 c4_2) (.slice B4_2 m4_2 k4_2) y4_6).hold
    replace xa := xa.keep G9
    replace z2 := z2.keep G9
    replace xb := xb.keep G9
    replace z3 := z3.keep G9
    replace HA := HA.keep G9
    replace T2 := T2.keep G9
    replace HB := HB.keep G9
    replace T3 := T3.keep G9
    replace HN0 := HN0.keep G9
    replace F := fr_then F G9
    generalize (u.setCell ⟨b4_6, 0, none⟩ (.slice A4_2 n4_2 c4_2)).setCell ⟨b4_6, 1, none⟩ (.slice B4_2 m4_2 k4_2) = U4 at z4 T4 xa z2 xb z3 HA T2 HB T3 HN0 F ⊢
    clear g0 g1 g2 g3 F9 G9 G y4_6 l4_6 hV2
    repeat' ((fail_if_success (with_reducible refine wpTill.row (fun _ => True) 0 ?_ ?_)); go_step)
    refine wpTill.row (fun _ => True) 6 (by kernel_rfl) ?_
    change wpTill _ _ _ _ _ _ 8 _ _ _
    refine wpTill.free (jj := 6) (m := 2) [(0, Fact.eq (.agg #[.slice A2_1 n2_1 c2_1, .slice B2_1 m2_1 k2_1])),
      (1, Fact.held (Tup (r) (OT W4.heap.size (if r = 0 then sha else []) (if r = 0 then ea.map fun x => canR (qOf x ^ (1 : Int).toNat) else [])))),
      (2, Fact.same 1),
      (3, Fact.fst 2),
      (5, Fact.mem (New2 U4.heap.size 26 (.slice none 0 0) (.slice none 0 0)) New2.keep)] [(4, Fact.snd 2)] [0, 1, 3, 7, 7, 0, 47, 127] [] ?_ (by kernel_rfl) (by kernel_rfl) (by kernel_rfl) [(0, some 38), (1, some 39), (2, some 37), (3, some 40), (5, some 9), (4, some 41)] (by kernel_rfl) ?hA40 ?hQ40 (fun _ _ => trivial) (by kernel_rfl) ?steps40 ?looses40 ?cont40
    case hQ40 => exact fun _ _ _ _ _ h => h
    case hA40 =>
      intro vs
      simp only [fillD, List.foldl_cons, List.foldl_nil, Act.put, List.setIfInBounds_toArray, List.set_cons_zero, List.set_cons_succ]
      exact rfl
    case steps40 =>
      refine ⟨?_, ?_, ?_, ?_, ?_, trivial⟩
      · rintro vs u ⟨hV0, hV1, hV2, hV3, hV5, hV4, -⟩ G
        have o0 := (z2.keep G).c0
        have o1 := (z2.keep G).c1
        exact stepAt.pure (v := .agg #[.slice A2_1 n2_1 c2_1, .slice B2_1 m2_1 k2_1]) rfl rfl (by go_simp) rfl
      · rintro vs u ⟨hV0, hV1, hV2, hV3, hV5, hV4, -⟩ G
        refine stepAt.call (f := 16) (args := #[vs 0, .int .i64 1]) rfl rfl (by go_simp) ?_
        have eV0 : vs 0 = .agg #[.slice A2_1 n2_1 c2_1, .slice B2_1 m2_1 k2_1] := hV0 rfl
        rw [eV0]
        exact pow_o (n := 1) (HN0.at G) (T2.at G) FA HP (Lib.hid (by decide))
      · rintro vs u ⟨hV0, hV1, hV2, hV3, hV5, hV4, -⟩ G
        exact stepAt.pure (v := vs 1) rfl rfl (by go_simp) rfl
      · rintro vs u ⟨hV0, hV1, hV2, hV3, hV5, hV4, -⟩ G
        have HV1 : Hold (fun u' => (Tup (r) (OT W4.heap.size (if r = 0 then sha else []) (if r = 0 then ea.map fun x => canR (qOf x ^ (1 : Int).toNat) else []))) u' (vs 1)) u := hV1 rfl
        obtain ⟨A5_1, n5_1, c5_1, B5_1, m5_1, k5_1, eV1, -⟩ := HV1.now
        rw [eV1] at HV1
        have eV2 : vs 2 = .tuple #[.agg #[.slice A5_1 n5_1 c5_1, .slice B5_1 m5_1 k5_1], .int .i64 r] := (show vs 2 = vs 1 from hV2 rfl).trans eV1
        exact stepAt.pure (v := .agg #[.slice A5_1 n5_1 c5_1, .slice B5_1 m5_1 k5_1]) rfl rfl (by simp only [eV2]; go_simp) ⟨_, _, eV2, rfl⟩
      · rintro vs u ⟨hV0, hV1, hV2, hV3, hV5, hV4, -⟩ G
        exact stepAt.value (v := .pointer (some ⟨u.heap.size, 0, none⟩)) (u := u.alloc (.cells #[.slice none 0 0, .slice none 0 0] 26)) rfl rfl (by go_simp) ((Fr.refl _ _).alloc _) ⟨_, rfl, G.size, Box2.new _ _ _ _⟩
    case looses40 =>
      refine ⟨?_, trivial⟩
      · rintro vs u ⟨hV0, hV1, hV2, hV3, hV5, hV4, -⟩ G
        have HV1 : Hold (fun u' => (Tup (r) (OT W4.heap.size (if r = 0 then sha else []) (if r = 0 then ea.map fun x => canR (qOf x ^ (1 : Int).toNat) else []))) u' (vs 1)) u := hV1 rfl
        obtain ⟨A5_1, n5_1, c5_1, B5_1, m5_1, k5_1, eV1, -⟩ := HV1.now
        rw [eV1] at HV1
        have eV2 : vs 2 = .tuple #[.agg #[.slice A5_1 n5_1 c5_1, .slice B5_1 m5_1 k5_1], .int .i64 r] := (show vs 2 = vs 1 from hV2 rfl).trans eV1
        exact pureAt.of (v := .int .i64 r) rfl rfl (fun _ => by simp only [eV2]; go_simp) ⟨_, _, eV2, rfl⟩
    rintro vs u ⟨hV0, hV1, hV2, hV3, hV5, hV4, -⟩ G
    have eV0 : vs 0 = .agg #[.slice A2_1 n2_1 c2_1, .slice B2_1 m2_1 k2_1] := hV0
    replace hV1 : Hold (fun u' => (Tup (r) (OT W4.heap.size (if r = 0 then sha else []) (if r = 0 then ea.map fun x => canR (qOf x ^ (1 : Int).toNat) else []))) u' (vs 1)) u := hV1
    obtain ⟨A5_1, n5_1, c5_1, B5_1, m5_1, k5_1, eV1, -⟩ := hV1.now
    rw [eV1] at hV1
    have eV2 : vs 2 = _ := (show vs 2 = vs 1 from hV2).trans eV1
    obtain ⟨x3, z3, a3, eV3⟩ := hV3
    have a3 := eV2.symm.trans a3
    cases a3
    replace eV3 : vs 3 = _ := eV3
    obtain ⟨b5_5, eV5, l5_5, y5_5⟩ := hV5
    replace eV5 : vs 5 = _ := eV5
    obtain ⟨x4, z4, a4, eV4⟩ := hV4
    have a4 := eV2.symm.trans a4
    cases a4
    replace eV4 : vs 4 = _ := eV4
    simp only [eV0, eV1, eV2, eV3, eV5, eV4]
    clear eV0 eV1 eV2 eV3 eV5 eV4 hV0 hV2
    have g0 := y5_5.free 0
    have g1 := y5_5.free 1
    have g2 := y5_5.c0
    have g3 := y5_5.c1
    refine wpTill.next 6 rfl (by kernel_rfl) (by rfl) (fun K hK => ?_)
    go_simp
    refine hK _ _ (no_wait (by kernel_rfl)) ?_
    clear hK K
    refine wpTill.next 7 rfl (by kernel_rfl) (by rfl) (fun K hK => ?_)
    go_simp
    refine hK _ _ (no_wait (by kernel_rfl)) ?_
    clear hK K
    refine wpTill.done (by kernel_rfl) ?_
    have F9 := fr_put2 u b5_5 (.slice A5_1 n5_1 c5_1) (.slice B5_1 m5_1 k5_1)
    have G9 := G.comp F9 (R := fun k => k < U4.heap.size) fun k _ hk => ⟨hk, by omega⟩
    have z5 := y5_5.set2 (.slice A5_1 n5_1 c5_1) (.slice B5_1 m5_1 k5_1)
    have T5 := (hV1.now.out.fill (.slice A5_1 n5_1 c5_1) (.slice B5_1 m5_1 k5_1) y5_5).hold
    replace xa := xa.keep G9
    replace z2 := z2.keep G9
    replace xb := xb.keep G9
    replace z3 := z3.keep G9
    replace z4 := z4.keep G9
    replace HA := HA.keep G9
    replace T2 := T2.keep G9
    replace HB := HB.keep G9
    replace T3 := T3.keep G9
    replace T4 := T4.keep G9
    replace HN0 := HN0.keep G9
    replace F := fr_then F G9
    generalize (u.setCell ⟨b5_5, 0, none⟩ (.slice A5_1 n5_1 c5_1)).setCell ⟨b5_5, 1, none⟩ (.slice B5_1 m5_1 k5_1) = U5 at z5 T5 xa z2 xb z3 z4 HA T2 HB T3 T4 HN0 F ⊢
    clear g0 g1 g2 g3 F9 G9 G y5_5 l5_5 hV1
    repeat' ((fail_if_success (with_reducible refine wpTill.row (fun _ => True) 0 ?_ ?_)); go_step)
    have o00 := z3.c0
    have o01 := z3.c1
    have o10 := z4.c0
    have o11 := z4.c1
    have o20 := z5.c0
    have o21 := z5.c1
    apply wp_region_lit
    repeat' ((fail_if_success (with_reducible refine wpTill.row (fun _ => True) 0 ?_ ?_)); go_step)
    clear o00 o01 o10 o11 o20 o21
    have al := fun R => (Fr.refl R U5).alloc (.cells #[.slice A3_1 n3_1 c3_1, .slice B3_1 m3_1 k3_1, .slice A4_2 n4_2 c4_2, .slice B4_2 m4_2 k4_2, .slice A5_1 n5_1 c5_1, .slice B5_1 m5_1 k5_1] 26)
    have hb6 : (U5.alloc (.cells #[.slice A3_1 n3_1 c3_1, .slice B3_1 m3_1 k3_1, .slice A4_2 n4_2 c4_2, .slice B4_2 m4_2 k4_2, .slice A5_1 n5_1 c5_1, .slice B5_1 m5_1 k5_1] 26)).heap[U5.heap.size]? = some (.cells #[.slice A3_1 n3_1 c3_1, .slice B3_1 m3_1 k3_1, .slice A4_2 n4_2 c4_2, .slice B4_2 m4_2 k4_2, .slice A5_1 n5_1 c5_1, .slice B5_1 m5_1 k5_1] 26 (0, 0)) := heap_alloc_new U5 _
    have H6 := Lib.hid (show ∀ j, j < 3 → TenW (fun k => W4.heap.size ≤ k) (U5.alloc (.cells #[.slice A3_1 n3_1 c3_1, .slice B3_1 m3_1 k3_1, .slice A4_2 n4_2 c4_2, .slice B4_2 m4_2 k4_2, .slice A5_1 n5_1 c5_1, .slice B5_1 m5_1 k5_1] 26)) U5.heap.size (j * 2) from fun j hj => by
      rcases (show j = 0 ∨ j = 1 ∨ j = 2 by omega) with rfl | rfl | rfl
      · exact (T3.at (al _)).ten ((cell_of_row _ _ 0 _ _ _ hb6).trans rfl) ((cell_of_row _ _ 1 _ _ _ hb6).trans rfl)
      · exact (T4.at (al _)).ten ((cell_of_row _ _ 2 _ _ _ hb6).trans rfl) ((cell_of_row _ _ 3 _ _ _ hb6).trans rfl)
      · exact (T5.at (al _)).ten ((cell_of_row _ _ 4 _ _ _ hb6).trans rfl) ((cell_of_row _ _ 5 _ _ _ hb6).trans rfl))
    replace xa := xa.keep (al _)
    replace z2 := z2.keep (al _)
    replace F := fr_then F (al _)
    clear al hb6 HA T2 xb HB z3 z4 z5 T3 T4 T5 HN0 HYL
    generalize U5.alloc (.cells #[.slice A3_1 n3_1 c3_1, .slice B3_1 m3_1 k3_1, .slice A4_2 n4_2 c4_2, .slice B4_2 m4_2 k4_2, .slice A5_1 n5_1 c5_1, .slice B5_1 m5_1 k5_1] 26) = V at H6 xa z2 F ⊢
    generalize U5.heap.size = g at H6 ⊢
    have HM := Lib.hid (MildB.refl (fun k => W4.heap.size ≤ k) V)
    go_wp2_with fail
    go_loopw [12] (fun k W => ∃ (i : Nat), k = .int .i64 i ∧ i ≤ 3 ∧ Hid (MildB (fun k => W4.heap.size ≤ k) V W)) (fun k _ => 3 - (intOf k).toNat)
    case atStart => exact ⟨0, rfl, by omega, HM⟩
    case round =>
      clear HM
      obtain ⟨i, rfl, hi, HM⟩ := hrel
      by_cases hlt : i < 3
      · obtain ⟨A7, n7, c7, B7, m7, d7, g0, g1, hN, hQ⟩ := H6.out i hlt
        have h7 := hN.1
        have h8 := hQ.1
        have HN := Lib.hid hN
        have HQ := Lib.hid hQ
        clear hN hQ
        go_wp2_with fail
        simp only [show decide ((i : Int) < 3) = true from decide_eq_true (by omega)]
        go_loopw [13] (fun k W => ∃ (j : Nat), k = .int .i64 j ∧ j ≤ n7 ∧ Hid (MildB (fun k => W4.heap.size ≤ k) V W)) (fun k _ => n7 - (intOf k).toNat)
        case atStart => exact ⟨0, rfl, by omega, HM⟩
        case round =>
          clear HM
          obtain ⟨j, rfl, hj, HM⟩ := hrel
          have k0 := HM.out.slice g0
          by_cases hlj : j < n7
          · obtain ⟨ad, rfl, hS, hd⟩ := (HN.out.mildb HM.out).2 (by omega)
            obtain ⟨z, hz1, hfz⟩ := hd j hlj
            have HM' := Lib.hid (HM.out.trans (MildB.set (S := (fun k => W4.heap.size ≤ k)) 7 hz1 (by rw [addr_block]; exact hS)))
            clear hd
            go_wp2_with fail
            go_roundw
            case rel => exact ⟨j + 1, by go_num, by omega, HM'⟩
            case measure => first | (simp [intOf]; done) | (simp [intOf]; omega)
          · obtain rfl : j = n7 := by omega
            go_wp2_with fail
            go_loopw [14] (fun k W => ∃ (j : Nat), k = .int .i64 j ∧ j ≤ m7 ∧ Hid (MildB (fun k => W4.heap.size ≤ k) V W)) (fun k _ => m7 - (intOf k).toNat)
            case atStart => exact ⟨0, rfl, by omega, HM⟩
            case round =>
              clear HM k0
              obtain ⟨l, rfl, hl, HM⟩ := hrel
              have k1 := HM.out.slice g1
              by_cases hll : l < m7
              · obtain ⟨g', rfl, hd⟩ := (HQ.out.mild HM.out).2 (by omega)
                obtain ⟨s, A9, n9, c9, B9, m9, d9, hS, hfz, r0, r1, r2, q1, q2⟩ := hd l hll
                have h9 := q1.1
                have h10 := q2.1
                have MD : MildB (fun k => W4.heap.size ≤ k) wr wr.drew := (MildB.refl (fun k => W4.heap.size ≤ k) wr).drew
                have KS : ∀ u, Fr (fun k => k < wr.drew.heap.size) wr.drew u → u.cell? ⟨g, i * 2 + 1, none⟩ = some (.slice (some ⟨g', 0, none⟩) m7 d7) ∧ u.cell? ⟨g', l * 3, none⟩ = some (.bool s) ∧ u.frozen? ⟨g', l * 3, none⟩ = false ∧ MildB (fun k => W4.heap.size ≤ k) wr u := fun u hu =>
                  have m := MD.trans (MildB.of_fr hu)
                  ⟨m.slice k1, hu.cell r0 (World.block_lt_of_cell? _ _ r0), m.free _ _ r0 hfz, m⟩
                have HX := Lib.hid (show NumS .u32 (fun k => W4.heap.size ≤ k) wr A9 n9 ∧ NumS .u32 (fun k => W4.heap.size ≤ k) wr B9 m9 from ⟨q1, q2⟩)
                clear hd MD q1 q2 hfz
                go_wp2_with fail
                clear k1
                refine wpTill.begin (fun _ => True) 16 (by kernel_rfl) ?_
                change wpTill _ _ _ _ _ _ 19 _ _ _
                refine wpTill.free (jj := 16) (m := 3) [(0, Fact.eq (.slice (some ⟨g, 0, none⟩) 3 3)),
          (1, Fact.eq (.int .i64 i)),
          (2, Fact.eq (.pointer (some ⟨g, i * 2, none⟩))),
          (3, Fact.eq (.pointer (some ⟨g, i * 2 + 1, none⟩))),
          (4, Fact.eq (.slice (some ⟨g', 0, none⟩) m7 d7)),
          (5, Fact.eq (.int .i64 l)),
          (6, Fact.eq (.slice (some ⟨g, 0, none⟩) 3 3)),
          (7, Fact.eq (.int .i64 i)),
          (8, Fact.eq (.pointer (some ⟨g, i * 2, none⟩))),
          (9, Fact.eq (.pointer (some ⟨g, i * 2 + 1, none⟩))),
          (10, Fact.eq (.slice (some ⟨g', 0, none⟩) m7 d7)),
          (11, Fact.eq (.int .i64 l)),
          (12, Fact.eq (.pointer (some ⟨g', l * 3, none⟩))),
          (13, Fact.eq (.pointer (some ⟨g', l * 3, none⟩))),
          (14, Fact.eq (.bool s)),
          (15, Fact.eq (.bool (!s)))] [] [0, 0, 3, 7, 15, 0, 0, 0, 192, 448, 960, 0, 4032, 8128, 16320, 32704, 65535, 131071, 262143] [] ?_ (by kernel_rfl) (by kernel_rfl) (by kernel_rfl) [(0, some 79), (1, some 80), (2, some 81), (3, some 82), (4, some 83), (5, some 84), (6, some 85), (7, some 86), (8, some 87), (9, some 88), (10, some 89), (11, some 90), (12, some 91), (13, some 92), (14, some 93), (15, some 94)] (by kernel_rfl) ?hA ?hQ (fun _ _ => trivial) (by kernel_rfl) ?steps ?looses ?cont
                case hQ => exact fun _ _ _ _ _ h => h
                case hA =>
                  intro vs
                  simp only [fillD, List.foldl_cons, List.foldl_nil, Act.put, List.setIfInBounds_toArray, List.set_cons_zero, List.set_cons_succ]
                  exact rfl
                case steps =>
                  refine ⟨?_, ?_, ?_, ?_, ?_, ?_, ?_, ?_, ?_, ?_, ?_, ?_, ?_, ?_, ?_, ?_, trivial⟩
                  · rintro vs u ⟨hV0, hV1, hV2, hV3, hV4, hV5, hV6, hV7, hV8, hV9, hV10, hV11, hV12, hV13, hV14, hV15, -⟩ G
                    exact stepAt.pure (v := .slice (some ⟨g, 0, none⟩) 3 3) rfl rfl (by go_simp) rfl
                  · rintro vs u ⟨hV0, hV1, hV2, hV3, hV4, hV5, hV6, hV7, hV8, hV9, hV10, hV11, hV12, hV13, hV14, hV15, -⟩ G
                    exact stepAt.pure (v := .int .i64 i) rfl rfl (by go_simp) rfl
                  · rintro vs u ⟨hV0, hV1, hV2, hV3, hV4, hV5, hV6, hV7, hV8, hV9, hV10, hV11, hV12, hV13, hV14, hV15, -⟩ G
                    have eV0 : vs 0 = .slice (some ⟨g, 0, none⟩) 3 3 := hV0 rfl
                    have eV1 : vs 1 = .int .i64 i := hV1 rfl
                    exact stepAt.pure (v := .pointer (some ⟨g, i * 2, none⟩)) rfl rfl (by simp only [eV0, eV1]; go_simp) rfl
                  · rintro vs u ⟨hV0, hV1, hV2, hV3, hV4, hV5, hV6, hV7, hV8, hV9, hV10, hV11, hV12, hV13, hV14, hV15, -⟩ G
                    have eV2 : vs 2 = .pointer (some ⟨g, i * 2, none⟩) := hV2 rfl
                    exact stepAt.pure (v := .pointer (some ⟨g, i * 2 + 1, none⟩)) rfl rfl (by simp only [eV2]; go_simp) rfl
                  · rintro vs u ⟨hV0, hV1, hV2, hV3, hV4, hV5, hV6, hV7, hV8, hV9, hV10, hV11, hV12, hV13, hV14, hV15, -⟩ G
                    have o0 := (KS u G).1
                    have eV3 : vs 3 = .pointer (some ⟨g, i * 2 + 1, none⟩) := hV3 rfl
                    exact stepAt.pure (v := .slice (some ⟨g', 0, none⟩) m7 d7) rfl rfl (by simp only [eV3]; go_simp) rfl
                  · rintro vs u ⟨hV0, hV1, hV2, hV3, hV4, hV5, hV6, hV7, hV8, hV9, hV10, hV11, hV12, hV13, hV14, hV15, -⟩ G
                    exact stepAt.pure (v := .int .i64 l) rfl rfl (by go_simp) rfl
                  · rintro vs u ⟨hV0, hV1, hV2, hV3, hV4, hV5, hV6, hV7, hV8, hV9, hV10, hV11, hV12, hV13, hV14, hV15, -⟩ G
                    exact stepAt.pure (v := .slice (some ⟨g, 0, none⟩) 3 3) rfl rfl (by go_simp) rfl
                  · rintro vs u ⟨hV0, hV1, hV2, hV3, hV4, hV5, hV6, hV7, hV8, hV9, hV10, hV11, hV12, hV13, hV14, hV15, -⟩ G
                    exact stepAt.pure (v := .int .i64 i) rfl rfl (by go_simp) rfl
                  · rintro vs u ⟨hV0, hV1, hV2, hV3, hV4, hV5, hV6, hV7, hV8, hV9, hV10, hV11, hV12, hV13, hV14, hV15, -⟩ G
                    have eV6 : vs 6 = .slice (some ⟨g, 0, none⟩) 3 3 := hV6 rfl
                    have eV7 : vs 7 = .int .i64 i := hV7 rfl
                    exact stepAt.pure (v := .pointer (some ⟨g, i * 2, none⟩)) rfl rfl (by simp only [eV6, eV7]; go_simp) rfl
                  · rintro vs u ⟨hV0, hV1, hV2, hV3, hV4, hV5, hV6, hV7, hV8, hV9, hV10, hV11, hV12, hV13, hV14, hV15, -⟩ G
                    have eV8 : vs 8 = .pointer (some ⟨g, i * 2, none⟩) := hV8 rfl
                    exact stepAt.pure (v := .pointer (some ⟨g, i * 2 + 1, none⟩)) rfl rfl (by simp only [eV8]; go_simp) rfl
                  · rintro vs u ⟨hV0, hV1, hV2, hV3, hV4, hV5, hV6, hV7, hV8, hV9, hV10, hV11, hV12, hV13, hV14, hV15, -⟩ G
                    have o0 := (KS u G).1
                    have eV9 : vs 9 = .pointer (some ⟨g, i * 2 + 1, none⟩) := hV9 rfl
                    exact stepAt.pure (v := .slice (some ⟨g', 0, none⟩) m7 d7) rfl rfl (by simp only [eV9]; go_simp) rfl
                  · rintro vs u ⟨hV0, hV1, hV2, hV3, hV4, hV5, hV6, hV7, hV8, hV9, hV10, hV11, hV12, hV13, hV14, hV15, -⟩ G
                    exact stepAt.pure (v := .int .i64 l) rfl rfl (by go_simp) rfl
                  · rintro vs u ⟨hV0, hV1, hV2, hV3, hV4, hV5, hV6, hV7, hV8, hV9, hV10, hV11, hV12, hV13, hV14, hV15, -⟩ G
                    have eV10 : vs 10 = .slice (some ⟨g', 0, none⟩) m7 d7 := hV10 rfl
                    have eV11 : vs 11 = .int .i64 l := hV11 rfl
                    exact stepAt.pure (v := .pointer (some ⟨g', l * 3, none⟩)) rfl rfl (by simp only [eV10, eV11]; go_simp) rfl
                  · rintro vs u ⟨hV0, hV1, hV2, hV3, hV4, hV5, hV6, hV7, hV8, hV9, hV10, hV11, hV12, hV13, hV14, hV15, -⟩ G
                    have eV12 : vs 12 = .pointer (some ⟨g', l * 3, none⟩) := hV12 rfl
                    exact stepAt.pure (v := .pointer (some ⟨g', l * 3, none⟩)) rfl rfl (by simp only [eV12]; go_simp) rfl
                  · rintro vs u ⟨hV0, hV1, hV2, hV3, hV4, hV5, hV6, hV7, hV8, hV9, hV10, hV11, hV12, hV13, hV14, hV15, -⟩ G
                    have o0 := (KS u G).2.1
                    have eV13 : vs 13 = .pointer (some ⟨g', l * 3, none⟩) := hV13 rfl
                    exact stepAt.pure (v := .bool s) rfl rfl (by simp only [eV13]; go_simp) rfl
                  · rintro vs u ⟨hV0, hV1, hV2, hV3, hV4, hV5, hV6, hV7, hV8, hV9, hV10, hV11, hV12, hV13, hV14, hV15, -⟩ G
                    have eV14 : vs 14 = .bool s := hV14 rfl
                    exact stepAt.pure (v := .bool (!s)) rfl rfl (by simp only [eV14]; go_simp) rfl
                case looses =>
                  exact trivial
                case cont =>
                  rintro vs u ⟨hV0, hV1, hV2, hV3, hV4, hV5, hV6, hV7, hV8, hV9, hV10, hV11, hV12, hV13, hV14, hV15, -⟩ G
                  have eV0 : vs 0 = .slice (some ⟨g, 0, none⟩) 3 3 := hV0
                  have eV1 : vs 1 = .int .i64 i := hV1
                  have eV2 : vs 2 = .pointer (some ⟨g, i * 2, none⟩) := hV2
                  have eV3 : vs 3 = .pointer (some ⟨g, i * 2 + 1, none⟩) := hV3
                  have eV4 : vs 4 = .slice (some ⟨g', 0, none⟩) m7 d7 := hV4
                  have eV5 : vs 5 = .int .i64 l := hV5
                  have eV6 : vs 6 = .slice (some ⟨g, 0, none⟩) 3 3 := hV6
                  have eV7 : vs 7 = .int .i64 i := hV7
                  have eV8 : vs 8 = .pointer (some ⟨g, i * 2, none⟩) := hV8
                  have eV9 : vs 9 = .pointer (some ⟨g, i * 2 + 1, none⟩) := hV9
                  have eV10 : vs 10 = .slice (some ⟨g', 0, none⟩) m7 d7 := hV10
                  have eV11 : vs 11 = .int .i64 l := hV11
                  have eV12 : vs 12 = .pointer (some ⟨g', l * 3, none⟩) := hV12
                  have eV13 : vs 13 = .pointer (some ⟨g', l * 3, none⟩) := hV13
                  have eV14 : vs 14 = .bool s := hV14
                  have eV15 : vs 15 = .bool (!s) := hV15
                  simp only [eV0, eV1, eV2, eV3, eV4, eV5, eV6, eV7, eV8, eV9, eV10, eV11, eV12, eV13, eV14, eV15]
                  clear eV0 eV1 eV2 eV3 eV4 eV5 eV6 eV7 eV8 eV9 eV10 eV11 eV12 eV13 eV14 eV15 hV0 hV1 hV2 hV3 hV4 hV5 hV6 hV7 hV8 hV9 hV10 hV11 hV12 hV13 hV14 hV15
                  obtain ⟨o0, o1, o2, M1⟩ := KS u G
                  refine wpTill.next 16 rfl (by kernel_rfl) (by rfl) (fun K hK => ?_)
                  go_simp
                  refine hK _ _ (no_wait (by kernel_rfl)) ?_
                  clear hK K
                  refine wpTill.next 17 rfl (by kernel_rfl) (by rfl) (fun K hK => ?_)
                  go_simp
                  refine hK _ _ (no_wait (by kernel_rfl)) ?_
                  clear hK K
                  refine wpTill.next 18 rfl (by kernel_rfl) (by rfl) (fun K hK => ?_)
                  go_simp
                  refine hK _ _ (no_wait (by kernel_rfl)) ?_
                  clear hK K
                  refine wpTill.done (by kernel_rfl) ?_
                  have M2 := M1.trans (MildB.setB (S := (fun k => W4.heap.size ≤ k)) (!s) o1 hS)
                  generalize u.setCell ⟨g', l * 3, none⟩ (.bool (!s)) = U9 at M2 ⊢
                  have k1 := (HM.out.trans M2).slice g1
                  have t1 := M2.slice r1
                  have t2 := M2.slice r2
                  have X1 := Lib.hid (HX.out.1.mildb M2)
                  have X2 := Lib.hid (HX.out.2.mildb M2)
                  have HM9 := Lib.hid (HM.out.trans M2)
                  have HU := Lib.hid (MildB.refl (fun k => W4.heap.size ≤ k) U9)
                  clear KS M1 M2 o0 o1 o2 r0 r1 r2 HX G HM
                  go_wp2_with fail
                  go_loopw [15] (fun k W => ∃ (j : Nat), k = .int .i64 j ∧ j ≤ n9 ∧ Hid (MildB (fun k => W4.heap.size ≤ k) U9 W)) (fun k _ => n9 - (intOf k).toNat)
                  case atStart => exact ⟨0, rfl, by omega, HU⟩
                  case round =>
                    clear HU
                    obtain ⟨j, rfl, hj, HU⟩ := hrel
                    have y0 := HU.out.slice k1
                    have y1 := HU.out.slice t1
                    by_cases hlj : j < n9
                    · obtain ⟨ad, rfl, hS2, hd⟩ := (X1.out.mildb HU.out).2 (by omega)
                      obtain ⟨z, hz1, hfz⟩ := hd j hlj
                      have HM' := Lib.hid (HU.out.trans (MildB.set (S := (fun k => W4.heap.size ≤ k)) 9 hz1 (by rw [addr_block]; exact hS2)))
                      clear hd
                      go_wp2_with fail
                      go_roundw
                      case rel => exact ⟨j + 1, by go_num, by omega, HM'⟩
                      case measure => first | (simp [intOf]; done) | (simp [intOf]; omega)
                    · obtain rfl : j = n9 := by omega
                      go_wp2_with fail
                      go_loopw [16] (fun k W => ∃ (j : Nat), k = .int .i64 j ∧ j ≤ m9 ∧ Hid (MildB (fun k => W4.heap.size ≤ k) U9 W)) (fun k _ => m9 - (intOf k).toNat)
                      case atStart => exact ⟨0, rfl, by omega, HU⟩
                      case round =>
                        clear HU y0 y1
                        obtain ⟨p, rfl, hp, HU⟩ := hrel
                        have y0 := HU.out.slice k1
                        have y1 := HU.out.slice t2
                        by_cases hlp : p < m9
                        · obtain ⟨ad, rfl, hS2, hd⟩ := (X2.out.mildb HU.out).2 (by omega)
                          obtain ⟨z, hz1, hfz⟩ := hd p hlp
                          have HM' := Lib.hid (HU.out.trans (MildB.set (S := (fun k => W4.heap.size ≤ k)) 8 hz1 (by rw [addr_block]; exact hS2)))
                          clear hd
                          go_wp2_with fail
                          go_roundw
                          case rel => exact ⟨p + 1, by go_num, by omega, HM'⟩
                          case measure => first | (simp [intOf]; done) | (simp [intOf]; omega)
                        · have HM2 := Lib.hid (HM9.out.trans HU.out)
                          go_wp2_with fail
                          go_roundw
                          case rel => exact ⟨l + 1, by go_num, by omega, HM2⟩
                          case measure => first | (simp [intOf]; done) | (simp [intOf]; omega)
              · go_wp2_with fail
                go_roundw
                case rel => exact ⟨i + 1, by go_num, by omega, HM⟩
                case measure => first | (simp [intOf]; done) | (simp [intOf]; omega)
      · obtain rfl : i = 3 := by omega
        have G3 : Fr (fun k => k < W4.heap.size) W4 wr := F.comp HM.out.fr (fun k hk hk' => ⟨hk', by show ¬ W4.heap.size ≤ k; omega⟩)
        replace xa := xa.fr HM.out.fr (by omega)
        replace z2 := z2.fr HM.out.fr (by omega)
        have HA := TV.hold (show TV sha ea wr (.slice A sha.length c) (.slice A' ea.length c') from ⟨(LA.out.1.fr G3).any, (LA.out.2.fr G3).any⟩)
        have T2 := TV.hold (show TV sha ea wr (.slice A2_1 n2_1 c2_1) (.slice B2_1 m2_1 k2_1) from ⟨(LO.out.1.fr G3).any, (LO.out.2.fr G3).any⟩)
        have F := fr_then FW G3
        clear HM H6 LA LO FW G3
        go_wp2_with fail
        have DR := fun R => (Fr.refl R wr).drew
        replace xa := xa.keep (DR _)
        replace z2 := z2.keep (DR _)
        replace HA := HA.keep (DR _)
        replace T2 := T2.keep (DR _)
        replace F := F.drew
        clear DR
        refine wpTill.begin (fun _ => True) 13 (by kernel_rfl) ?_
        change wpTill _ _ _ _ _ _ 14 _ _ _
        refine wpTill.free (jj := 13) (m := 1) [(0, Fact.eq (.agg #[.slice A2_1 n2_1 c2_1, .slice B2_1 m2_1 k2_1])),
      (1, Fact.eq (.int .i64 r)),
      (2, Fact.eq (.agg #[.slice A sha.length c, .slice A' ea.length c'])),
      (3, Fact.eq (.int .i64 r)),
      (4, Fact.eq (.bool true)),
      (5, Fact.eq (.bool true)),
      (6, Fact.eq (.agg #[.slice A2_1 n2_1 c2_1, .slice B2_1 m2_1 k2_1])),
      (7, Fact.eq (.agg #[.slice A sha.length c, .slice A' ea.length c'])),
      (8, Fact.eq (.bool true)),
      (9, Fact.eq (.bool true)),
      (10, Fact.eq (.bool true)),
      (11, Fact.eq (.bool true)),
      (12, Fact.eq (.bool true))] [] [0, 1, 0, 7, 15, 31, 63, 63, 255, 511, 1023, 2047, 4095, 8191] [] ?_ (by kernel_rfl) (by kernel_rfl) (by kernel_rfl) [(0, some 147), (1, some 148), (2, some 149), (3, some 150), (4, some 151), (5, some 152), (6, some 153), (7, some 154), (8, some 155), (9, some 156), (10, some 157), (11, some 158), (12, some 159)] (by kernel_rfl) ?hA41 ?hQ41 (fun _ _ => trivial) (by kernel_rfl) ?steps41 ?looses41 ?cont41
        case hQ41 => exact fun _ _ _ _ _ h => h
        case hA41 =>
          intro vs
          simp only [fillD, List.foldl_cons, List.foldl_nil, Act.put, List.setIfInBounds_toArray, List.set_cons_zero, List.set_cons_succ]
          exact rfl
        case steps41 =>
          refine ⟨?_, ?_, ?_, ?_, ?_, ?_, ?_, ?_, ?_, ?_, ?_, ?_, ?_, trivial⟩
          · rintro vs u ⟨hV0, hV1, hV2, hV3, hV4, hV5, hV6, hV7, hV8, hV9, hV10, hV11, hV12, -⟩ G
            have o0 := (z2.keep G).c0
            have o1 := (z2.keep G).c1
            exact stepAt.pure (v := .agg #[.slice A2_1 n2_1 c2_1, .slice B2_1 m2_1 k2_1]) rfl rfl (by go_simp) rfl
          · rintro vs u ⟨hV0, hV1, hV2, hV3, hV4, hV5, hV6, hV7, hV8, hV9, hV10, hV11, hV12, -⟩ G
            refine stepAt.call (f := 12) (args := #[vs 0]) rfl rfl (by go_simp) ?_
            have eV0 : vs 0 = .agg #[.slice A2_1 n2_1 c2_1, .slice B2_1 m2_1 k2_1] := hV0 rfl
            rw [eV0]
            exact (may_u (T2.at G) FA HR).mono fun _ _ ⟨v, h1, h2, h3⟩ => ⟨v, h1, h2, h3.now⟩
          · rintro vs u ⟨hV0, hV1, hV2, hV3, hV4, hV5, hV6, hV7, hV8, hV9, hV10, hV11, hV12, -⟩ G
            have o0 := (xa.keep G).c0
            have o1 := (xa.keep G).c1
            exact stepAt.pure (v := .agg #[.slice A sha.length c, .slice A' ea.length c']) rfl rfl (by go_simp) rfl
          · rintro vs u ⟨hV0, hV1, hV2, hV3, hV4, hV5, hV6, hV7, hV8, hV9, hV10, hV11, hV12, -⟩ G
            refine stepAt.call (f := 12) (args := #[vs 2]) rfl rfl (by go_simp) ?_
            have eV2 : vs 2 = .agg #[.slice A sha.length c, .slice A' ea.length c'] := hV2 rfl
            rw [eV2]
            exact (may_u (HA.at G) FA HR).mono fun _ _ ⟨v, h1, h2, h3⟩ => ⟨v, h1, h2, h3.now⟩
          · rintro vs u ⟨hV0, hV1, hV2, hV3, hV4, hV5, hV6, hV7, hV8, hV9, hV10, hV11, hV12, -⟩ G
            have eV1 : vs 1 = .int .i64 r := hV1 rfl
            have eV3 : vs 3 = .int .i64 r := hV3 rfl
            exact stepAt.pure (v := .bool true) rfl rfl (by simp only [eV1, eV3]; go_simp <;> omega) rfl
          · rintro vs u ⟨hV0, hV1, hV2, hV3, hV4, hV5, hV6, hV7, hV8, hV9, hV10, hV11, hV12, -⟩ G
            have eV4 : vs 4 = .bool true := hV4 rfl
            exact stepAt.pure (v := .bool true) rfl rfl (by simp only [eV4]; go_simp) rfl
          · rintro vs u ⟨hV0, hV1, hV2, hV3, hV4, hV5, hV6, hV7, hV8, hV9, hV10, hV11, hV12, -⟩ G
            have o0 := (z2.keep G).c0
            have o1 := (z2.keep G).c1
            exact stepAt.pure (v := .agg #[.slice A2_1 n2_1 c2_1, .slice B2_1 m2_1 k2_1]) rfl (wanted_by (g := 5) (b := true) (t := 152) rfl (by kernel_rfl) (congrArg some (show vs 5 = _ from hV5 rfl))) (by go_simp) rfl
          · rintro vs u ⟨hV0, hV1, hV2, hV3, hV4, hV5, hV6, hV7, hV8, hV9, hV10, hV11, hV12, -⟩ G
            have o0 := (xa.keep G).c0
            have o1 := (xa.keep G).c1
            exact stepAt.pure (v := .agg #[.slice A sha.length c, .slice A' ea.length c']) rfl (wanted_by (g := 5) (b := true) (t := 152) rfl (by kernel_rfl) (congrArg some (show vs 5 = _ from hV5 rfl))) (by go_simp) rfl
          · rintro vs u ⟨hV0, hV1, hV2, hV3, hV4, hV5, hV6, hV7, hV8, hV9, hV10, hV11, hV12, -⟩ G
            refine stepAt.call (f := 38) (args := #[vs 6, vs 7]) rfl (wanted_by (g := 5) (b := true) (t := 152) rfl (by kernel_rfl) (congrArg some (show vs 5 = _ from hV5 rfl))) (by go_simp) ?_
            have eV6 : vs 6 = .agg #[.slice A2_1 n2_1 c2_1, .slice B2_1 m2_1 k2_1] := hV6 rfl
            have eV7 : vs 7 = .agg #[.slice A sha.length c, .slice A' ea.length c'] := hV7 rfl
            rw [eV6, eV7]
            exact (t7same_u (T2.at G) (HA.at G) FA).mono fun _ _ ⟨v, h1, h2, h3⟩ => ⟨v, h1, h2, h3.now⟩
          · rintro vs u ⟨hV0, hV1, hV2, hV3, hV4, hV5, hV6, hV7, hV8, hV9, hV10, hV11, hV12, -⟩ G
            have eV5 : vs 5 = .bool true := hV5 rfl
            have eV8 : vs 8 = .bool true := hV8 rfl
            exact stepAt.pure (v := .bool true) rfl rfl (by simp only [eV5, eV8]; go_simp) rfl
          · rintro vs u ⟨hV0, hV1, hV2, hV3, hV4, hV5, hV6, hV7, hV8, hV9, hV10, hV11, hV12, -⟩ G
            have eV9 : vs 9 = .bool true := hV9 rfl
            exact stepAt.pure (v := .bool true) rfl rfl (by simp only [eV9]; go_simp) rfl
          · rintro vs u ⟨hV0, hV1, hV2, hV3, hV4, hV5, hV6, hV7, hV8, hV9, hV10, hV11, hV12, -⟩ G
            refine stepAt.call (f := 15) (args := #[]) rfl (wanted_by (g := 10) (b := true) (t := 157) rfl (by kernel_rfl) (congrArg some (show vs 10 = _ from hV10 rfl))) (by go_simp) ?_
            exact (known_u u).mono fun _ _ ⟨v, h1, h2, h3⟩ => ⟨v, h1, h2, h3.now⟩
          · rintro vs u ⟨hV0, hV1, hV2, hV3, hV4, hV5, hV6, hV7, hV8, hV9, hV10, hV11, hV12, -⟩ G
            have eV10 : vs 10 = .bool true := hV10 rfl
            have eV11 : vs 11 = .bool true := hV11 rfl
            exact stepAt.pure (v := .bool true) rfl rfl (by simp only [eV10, eV11]; go_simp) rfl
        case looses41 =>
          exact trivial
        rintro vs U6 ⟨hV0, hV1, hV2, hV3, hV4, hV5, hV6, hV7, hV8, hV9, hV10, hV11, hV12, -⟩ G
        have eV0 : vs 0 = .agg #[.slice A2_1 n2_1 c2_1, .slice B2_1 m2_1 k2_1] := hV0
        have eV1 : vs 1 = .int .i64 r := hV1
        have eV2 : vs 2 = .agg #[.slice A sha.length c, .slice A' ea.length c'] := hV2
        have eV3 : vs 3 = .int .i64 r := hV3
        have eV4 : vs 4 = .bool true := hV4
        have eV5 : vs 5 = .bool true := hV5
        have eV6 : vs 6 = .agg #[.slice A2_1 n2_1 c2_1, .slice B2_1 m2_1 k2_1] := hV6
        have eV7 : vs 7 = .agg #[.slice A sha.length c, .slice A' ea.length c'] := hV7
        have eV8 : vs 8 = .bool true := hV8
        have eV9 : vs 9 = .bool true := hV9
        have eV10 : vs 10 = .bool true := hV10
        have eV11 : vs 11 = .bool true := hV11
        have eV12 : vs 12 = .bool true := hV12
        simp only [eV0, eV1, eV2, eV3, eV4, eV5, eV6, eV7, eV8, eV9, eV10, eV11, eV12]
        clear eV0 eV1 eV2 eV3 eV4 eV5 eV6 eV7 eV8 eV9 eV10 eV11 eV12 hV0 hV1 hV2 hV3 hV4 hV5 hV6 hV7 hV8 hV9 hV10 hV11 hV12
        refine wpTill.next 13 rfl (by kernel_rfl) (by rfl) (fun K hK => ?_)
        go_simp
        refine hK _ _ (no_wait (by kernel_rfl)) ?_
        clear hK K
        refine wpTill.done (by kernel_rfl) ?_
        replace xa := xa.keep G
        replace z2 := z2.keep G
        replace HA := HA.keep G
        replace T2 := T2.keep G
        replace F := fr_then F G
        clear G
        repeat' ((fail_if_success (with_reducible refine wpTill.row (fun _ => True) 0 ?_ ?_)); go_step)
        go_ret
        exact ⟨rfl, F⟩
end Go.Proofs.YtlknmoegngjpcaaGreat

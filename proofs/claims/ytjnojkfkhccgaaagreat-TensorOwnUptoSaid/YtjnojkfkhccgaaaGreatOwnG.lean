import Derived.Test.YtjnojkfkhccgaaaGreatOwnS
import Derived.Test.YtjnojkfkhccgaaaGreatAt

/- TensorOwn. -/
namespace Go.Proofs.YtjnojkfkhccgaaaGreat
open Go.RowKit

/-- A tensor of the call's own, as an answer. -/
def TenZ (n : Nat) (sh : List Int) (es : List RatL) (u : World) (v : Value) : Prop := ∃ A i j B k l, v = .agg #[.slice A i j, .slice B k l] ∧ Own Im 3 (fun k => n ≤ k) u (.slice A i j) sh ∧ Own RZ 43 (fun k => n ≤ k) u (.slice B k l) es
theorem TenZ.keep {n : Nat} {sh : List Int} {es : List RatL} {v : Value} {u u' : World} (hf : Fr (fun k => k < u.heap.size) u u') (h : TenZ n sh es u v) : TenZ n sh es u' v := by
  obtain ⟨A, i, j, B, k, l, e, h1, h2⟩ := h
  exact ⟨A, i, j, B, k, l, e, h1.keep' hf, h2.keep' hf⟩
def ListZ (n : Nat) (xs : List (List Int × List RatL)) (u : World) (v : Value) : Prop := ∃ A i j, v = .slice A i j ∧ Own KT 26 (fun k => n ≤ k) u (.slice A i j) xs
theorem ListZ.keep {n : Nat} {xs : List (List Int × List RatL)} {v : Value} {u u' : World} (hf : Fr (fun k => k < u.heap.size) u u') (h : ListZ n xs u v) : ListZ n xs u' v := by
  obtain ⟨A, i, j, e, h1⟩ := h
  exact ⟨A, i, j, e, h1.keep' hf⟩

set_option maxRecDepth 20000 in
set_option maxHeartbeats 32000000 in
theorem tensown_walk {S : Nat → Prop} {sh : List Int} {es : List RatL} (w : World) (v : Value) (L : Nat) (h : TL S w v sh es L) (hL : L ≤ 1048576) :
    Calls Tryz.prog 7 #[v] w fun e w' => e = .returned (.bool true) ∧ Fr (fun k => k < w.heap.size) w w' := by
  obtain ⟨vs, ve, rfl, hs, he⟩ := h.ex
  have ls := h.ls
  have le := h.le
  have HLA := Lib.hid (show ∀ x ∈ es, x.2.1.length ≤ L + 1 ∧ x.2.2.length ≤ L + 1 from fun x hx => by have := h.lx x hx; omega)
  have HLA2 := Lib.hid (show ∀ x ∈ es, x.2.1.length ≤ 1099511627000 ∧ x.2.2.length ≤ 1099511627000 from fun x hx => by have := h.lx x hx; omega)
  have hl1 : 1 ≤ L + 1 := by omega
  have hl2 : L + 1 ≤ 104857600 := by omega
  obtain ⟨A, c, rfl, _, _, _⟩ := hs.slice
  obtain ⟨A', c', rfl, _, _, hle⟩ := he.slice
  obtain ⟨r, hr⟩ : ∃ r, mayT sh es = r := ⟨_, rfl⟩
  have HR := Lib.hid hr
  have HS := Lib.hid (hs.low Im_pos)
  have HE := Lib.hid (he.low Rm_pos)
  clear h hs he hr
  have F := (Fr.refl (fun k => k < w.heap.size) w).alloc (.cells #[.slice A sh.length c, .slice A' es.length c'] 26)
  have x0 := Box2.new w 26 (.slice A sh.length c) (.slice A' es.length c')
  have a0 := x0.c0
  have a1 := x0.c1
  go_enter Tryz.func7, Tryz.ntmps7
  go_wp2_with fail
  with_reducible refine (rmay_h _ (.slice A sh.length c) (.slice A' es.length c') sh es (L + 1) r HR (HS.out.fr F) (HE.out.fr F) HLA.out hl1 hl2).mono ?_
  rintro e W1 ⟨rfl, hf⟩
  replace x0 := x0.keep hf
  replace F := fr_then F hf
  clear hf a0 a1
  by_cases h0 : r = 0
  case neg =>
    have hb0 : (r == 0) = false := beq_eq_false_iff_ne.2 h0
    go_wp2_with fail
    with_reducible refine (tknown _).mono ?_
    rintro e V ⟨rfl, hf⟩
    go_wp2_with fail
    go_ret
    exact ⟨rfl, fr_then F hf⟩
  subst h0
  have a0 := x0.c0
  have a1 := x0.c1
  go_wp2_with fail
  with_reducible refine (town_t _ (.slice A sh.length c) (.slice A' es.length c') sh es (HS.out.fr F) (HE.out.fr F) (by omega) (by omega) HLA2.out).mono ?_
  rintro e w2 ⟨v1, v2, rfl, o1, o2, hf⟩
  obtain ⟨B1, j1, rfl, _, _, _⟩ := o1.slice
  obtain ⟨B2, j2, rfl, _, _, _⟩ := o2.slice
  have al := fun R => (Fr.refl R w2).alloc (.cells #[.slice B1 sh.length j1, .slice B2 es.length j2] 26)
  have x3 := Box2.new w2 26 (.slice B1 sh.length j1) (.slice B2 es.length j2)
  replace x0 := (x0.keep hf).keep (al _)
  replace F := fr_then (fr_then F hf) (al _)
  have H1 := Lib.hid ((o1.sl.keep' Im_pos (al _)).low Im_pos)
  have H2 := Lib.hid ((o2.sl.keep' Rm_pos (al _)).low Rm_pos)
  clear hf al o1 o2 a0 a1
  have a0 := x3.c0
  have a1 := x3.c1
  go_wp2_with fail
  generalize w2.alloc (.cells #[.slice B1 sh.length j1, .slice B2 es.length j2] 26) = U at x0 x3 F H1 H2 a0 a1 ⊢
  have lt0 := x0.lt
  have lt3 := x3.lt
  have hft := fitsT_0 (mayT_ok HR.out).1 (mayT_ok HR.out).2.1
  have HP := Lib.hid (makeZ_t U (.slice B1 sh.length j1) (.slice B2 es.length j2) sh es (L + 1) H1.out H2.out HLA.out hl1 hl2 (by omega) (by omega))
  rw [hft] at HP
  clear hft
  with_reducible refine HP.out.mono ?_
  rintro e w3 ⟨v1, v2, rfl, -, hy, hf⟩
  obtain ⟨o3, o4⟩ := hy rfl
  obtain ⟨B3, i3, j3, rfl⟩ := o3.form
  obtain ⟨B4, i4, j4, rfl⟩ := o4.form
  have al := fun R => (Fr.refl R w3).alloc (.cells #[.slice B3 i3 j3, .slice B4 i4 j4] 26)
  have x4 := Box2.new w3 26 (.slice B3 i3 j3) (.slice B4 i4 j4)
  have G := fr_then hf (al _)
  replace o3 := o3.keep' (al _)
  replace o4 := o4.keep' (al _)
  have ls3 := hf.size
  clear HP hy hf al a0 a1
  go_wp2_with fail
  have DR := fun R => (Fr.refl R (w3.alloc (.cells #[.slice B3 i3 j3, .slice B4 i4 j4] 26))).drew
  have y3 := (x3.keep G).keep (DR _)
  replace x4 := x4.keep (DR _)
  replace o3 := Lib.hid (o3.keep' (DR _))
  replace o4 := Lib.hid (o4.keep' (DR _))
  replace G := G.drew
  clear DR
  generalize hV : w3.alloc (.cells #[.slice B3 i3 j3, .slice B4 i4 j4] 26) = V at y3 x4 o3 o4 G ⊢
  have lsV : w3.heap.size < V.heap.size := by rw [← hV]; simp
  clear hV
  have KS : ∀ u, Fr (fun k => k < V.drew.heap.size) V.drew u → u.cell? ⟨w2.heap.size, 0, none⟩ = some (.slice B1 sh.length j1) ∧ u.cell? ⟨w2.heap.size, 1, none⟩ = some (.slice B2 es.length j2) ∧ u.cell? ⟨w3.heap.size, 0, none⟩ = some (.slice B3 i3 j3) ∧ u.cell? ⟨w3.heap.size, 1, none⟩ = some (.slice B4 i4 j4) := fun u h => ⟨(y3.keep h).c0, (y3.keep h).c1, (x4.keep h).c0, (x4.keep h).c1⟩
  refine wpTill.begin (fun u => u.cell? ⟨w2.heap.size, 0, none⟩ = some (.slice B1 sh.length j1) ∧ u.cell? ⟨w2.heap.size, 1, none⟩ = some (.slice B2 es.length j2) ∧ u.cell? ⟨w3.heap.size, 0, none⟩ = some (.slice B3 i3 j3) ∧ u.cell? ⟨w3.heap.size, 1, none⟩ = some (.slice B4 i4 j4)) 4 (by kernel_rfl) ?_
  change wpTill _ _ _ _ _ _ 5 _ _ _
  refine wpTill.free (jj := 4) (m := 0) [(0, Fact.eq (.agg #[.slice B1 sh.length j1, .slice B2 es.length j2])),
      (1, Fact.mem (TenZ U.heap.size sh es) TenZ.keep),
      (2, Fact.eq (.agg #[.slice B3 i3 j3, .slice B4 i4 j4])),
      (3, Fact.mem (ListZ U.heap.size [(sh, es), (sh, es.map normR)]) ListZ.keep),
      (4, Fact.same 3)] [] [0, 1, 0, 7, 15] [] ?_ (by kernel_rfl) (by kernel_rfl) (by kernel_rfl) [(0, some 27), (1, some 28), (2, some 29), (3, some 30), (4, some 6)] (by kernel_rfl) ?hA ?hQ KS (by kernel_rfl) ?steps ?looses ?cont
  case hQ => exact fun _ _ _ _ _ h => h
  case hA =>
    intro vs
    simp only [fillD, List.foldl_cons, List.foldl_nil, Act.put, List.setIfInBounds_toArray, List.set_cons_zero, List.set_cons_succ]
    exact rfl
  case steps =>
    refine ⟨?_, ?_, ?_, ?_, ?_, trivial⟩
    · rintro vs u ⟨h0, h1, h2, h3, h4, -⟩ GG
      obtain ⟨o0', o1', o2', o3'⟩ := KS u GG
      exact stepAt.pure (v := .agg #[.slice B1 sh.length j1, .slice B2 es.length j2]) rfl rfl (by go_simp) rfl
    · rintro vs u ⟨h0, h1, h2, h3, h4, -⟩ GG
      refine stepAt.call (f := 28) (args := #[vs 0]) rfl rfl (by go_simp) ?_
      rw [show vs 0 = .agg #[.slice B1 sh.length j1, .slice B2 es.length j2] from h0 rfl]
      refine (tcopyZ_t u (.slice B1 sh.length j1) (.slice B2 es.length j2) sh es (H1.out.fr (fr_then G GG)) (H2.out.fr (fr_then G GG)) (by omega) (by omega) HLA2.out).mono ?_
      rintro e u' ⟨v1, v2, rfl, q1, q2, hf⟩
      obtain ⟨_, _, _, rfl⟩ := q1.form
      obtain ⟨_, _, _, rfl⟩ := q2.form
      have sz := (fr_then G GG).size
      exact ⟨_, rfl, hf, _, _, _, _, _, _, rfl, q1.mono fun k hk => by omega, q2.mono fun k hk => by omega⟩
    · rintro vs u ⟨h0, h1, h2, h3, h4, -⟩ GG
      obtain ⟨o0', o1', o2', o3'⟩ := KS u GG
      exact stepAt.pure (v := .agg #[.slice B3 i3 j3, .slice B4 i4 j4]) rfl rfl (by go_simp) rfl
    · rintro vs u ⟨h0, h1, h2, h3, h4, -⟩ GG
      obtain ⟨P1, y1, y2, Q1, z1, z2, e1, q1, q2⟩ := h1 rfl
      replace e1 : vs 1 = _ := e1
      have e2 : vs 2 = .agg #[.slice B3 i3 j3, .slice B4 i4 j4] := h2 rfl
      have sz := (fr_then G GG).size
      exact stepAt.value (v := .slice (some ⟨u.heap.size, 0, none⟩) 2 2) (u := u.alloc (.cells #[.slice P1 y1 y2, .slice Q1 z1 z2, .slice B3 i3 j3, .slice B4 i4 j4] 26)) rfl rfl (by simp only [e1, e2]; go_simp) ((Fr.refl _ _).alloc _)
        ⟨_, _, _, rfl, Own.pair (K := KT) (cs := [.slice P1 y1 y2, .slice Q1 z1 z2]) (ds := [.slice B3 i3 j3, .slice B4 i4 j4]) u (by omega) ⟨_, _, rfl, q1.bd, q2.bd⟩ ⟨_, _, rfl, (o3.out.keep' GG).bd, (o4.out.keep' GG).bd⟩⟩
    · rintro vs u ⟨h0, h1, h2, h3, h4, -⟩ GG
      exact stepAt.pure (v := vs 3) rfl rfl (by go_simp) rfl
  case looses =>
    exact trivial
  case cont =>
    rintro vs u ⟨h0, h1, h2, h3, h4, -⟩ GG
    obtain ⟨A6, n6, c6, e3, o6⟩ := h3
    have e4 : vs 4 = .slice A6 n6 c6 := (show vs 4 = vs 3 from h4).trans e3
    simp only [e4]
    clear h0 h1 h2 h4 e3 e4 KS o3 o4
    refine wpTill.done (by kernel_rfl) ?_
    replace x0 := x0.keep (fr_then G GG)
    replace x3 := x3.keep (fr_then G GG)
    have G2 := fr_then G GG
    clear G GG x4 y3
    have a0 := x3.c0
    have a1 := x3.c1
    by_cases hz : sh.length = 0
    case' pos =>
      have hzb : ((sh.length : Int) == 0) = true := by rw [hz]; rfl
      have hone : es.length = 1 := by
        have := (mayT_ok HR.out).2.1
        rw [List.eq_nil_of_length_eq_zero hz] at this
        have h1 : cntS [] = 1 := by decide
        omega
      obtain ⟨ad, P, n, d, Q, m, o, rfl, hS, g0, g1, g2, r1, r2⟩ := Rm_get (H2.out.fr G2) (i := 0) (by omega)
      have hly := HLA.out es[0] (List.getElem_mem _)
      generalize es[0] = y at g0 r1 r2 hly
      obtain ⟨sy, ya, yb⟩ := y
      dsimp only at g0 r1 r2 hly
      rw [Nat.zero_mul, addr_zero] at g0 g1 g2
      have HY1 := Lib.hid r1
      have HY2 := Lib.hid r2
      have HYL := Lib.hid hly
      clear r1 r2 hly hS
      go_wp2_with fail
      with_reducible refine (scalarZ_t _ (.slice P n d) (.slice Q m o) (sy, ya, yb) (L + 1) HY1.out HY2.out HYL.out hl1 hl2).mono ?_
      rintro e u1 ⟨v1, v2, rfl, q1, q2, hf⟩
      obtain ⟨P1, y1, y2, rfl⟩ := q1.form
      obtain ⟨Q1, z1, z2, rfl⟩ := q2.form
      have sz := G2.size
      have sz1 := hf.size
      have lt6 := o6.lt
      replace o6 := o6.keep' hf
      replace x0 := x0.keep hf
      replace x3 := x3.keep hf
      have in6 := o6.in_
      replace G2 := fr_then G2 hf
      clear hf g0 g1 g2 HY1 HY2 HYL a0 a1
      go_wp2_with (at_builtin; refine wpList_push1 (v := .slice A6 n6 c6) (y := ([], [normR (sy, ya, yb)])) (T := fun k => u.heap.size ≤ k) (cs := [.slice P1 y1 y2, .slice Q1 z1 z2]) ktT rfl rfl rfl rfl o6 ⟨_, _, rfl, q1, q2⟩ (fun k hk _ => ⟨by omega, fun e => by have := lt6 k e.symm; omega⟩) (fun k hk => by omega) (by simp) (by simp) ?_; intro v6 u ho hfr hat; obtain ⟨A6, n6, c6, rfl⟩ := ho.form)
      replace x0 := x0.fr hfr (fun e => by have := in6 _ e.symm; omega)
      replace x3 := x3.fr hfr (fun e => by have := in6 _ e.symm; omega)
      replace G2 := G2.comp hfr (R := fun k => k < U.heap.size) fun k _ hk => ⟨hk, fun e => by have := in6 _ e.symm; omega⟩
      replace o6 := ho
      clear ho hfr hat q1 q2 lt6 in6 sz sz1 hz hzb hone
      generalize some ad = B2 at x3 H2
    case' neg =>
      have hzb : ((sh.length : Int) == 0) = false := by rw [beq_eq_false_iff_ne]; omega
      go_wp2_with fail
      clear a0 a1 hz hzb
    all_goals
      have H6 := Lib.hid (TenP.of o6).2
      have h6m := (TenP.of o6).1
      have HM := Lib.hid (Mild.refl (fun k => U.heap.size ≤ k) u)
      clear o6
      go_loopw [7] (fun k W => ∃ (i : Nat), k = .int .i64 i ∧ i ≤ n6 ∧ Hid (Mild (fun k => U.heap.size ≤ k) u W)) (fun k _ => n6 - (intOf k).toNat)
      case atStart => exact ⟨0, rfl, by omega, HM⟩
      case round =>
        clear HM
        obtain ⟨i, rfl, hi, HM⟩ := hrel
        by_cases hlt : i < n6
        · obtain ⟨g, rfl, hc⟩ := H6.out (by omega)
          obtain ⟨A7, n7, c7, B7, m7, d7, g0, g1, hN, hQ⟩ := hc i hlt
          have h7 := hN.1
          have h8 := hQ.1
          have HN := Lib.hid hN
          have HQ := Lib.hid hQ
          clear hc hN hQ
          go_wp2_with fail
          go_loopw [8] (fun k W => ∃ (j : Nat), k = .int .i64 j ∧ j ≤ n7 ∧ Hid (Mild (fun k => U.heap.size ≤ k) u W)) (fun k _ => n7 - (intOf k).toNat)
          case atStart => exact ⟨0, rfl, by omega, HM⟩
          case round =>
            clear HM
            obtain ⟨j, rfl, hj, HM⟩ := hrel
            have k0 := HM.out.same g0 (by simp)
            by_cases hlj : j < n7
            · obtain ⟨ad, rfl, hS, hd⟩ := (HN.out.mild HM.out).2 (by omega)
              obtain ⟨z, hz1, hfz⟩ := hd j hlj
              have HM' := Lib.hid (HM.out.trans (Mild.set (S := fun k => U.heap.size ≤ k) 0 hz1 (by rw [addr_block]; exact hS)))
              clear hd
              go_wp2_with fail
              go_roundw
              case rel => exact ⟨j + 1, by go_num, by omega, HM'⟩
              case measure => first | (simp [intOf]; done) | (simp [intOf]; omega)
            · obtain rfl : j = n7 := by omega
              go_wp2_with fail
              go_loopw [9] (fun k W => ∃ (j : Nat), k = .int .i64 j ∧ j ≤ m7 ∧ Hid (Mild (fun k => U.heap.size ≤ k) u W)) (fun k _ => m7 - (intOf k).toNat)
              case atStart => exact ⟨0, rfl, by omega, HM⟩
              case round =>
                clear HM k0
                obtain ⟨l, rfl, hl, HM⟩ := hrel
                have k1 := HM.out.same g1 (by simp)
                by_cases hll : l < m7
                · obtain ⟨g', rfl, hd⟩ := (HQ.out.mild HM.out).2 (by omega)
                  have HR2 := Lib.hid (hd l hll)
                  clear hd
                  go_wp2_with fail
                  with_reducible refine (spoil_t (S := fun k => U.heap.size ≤ k) _ g' (l * 3) HR2.out).mono ?_
                  rintro e ux ⟨rfl, hm⟩
                  have HM' := Lib.hid (HM.out.trans hm)
                  clear hm HM HR2 k1
                  go_wp2_with fail
                  go_roundw
                  case rel => exact ⟨l + 1, by go_num, by omega, HM'⟩
                  case measure => first | (simp [intOf]; done) | (simp [intOf]; omega)
                · go_wp2_with fail
                  go_roundw
                  case rel => exact ⟨i + 1, by go_num, by omega, HM⟩
                  case measure => first | (simp [intOf]; done) | (simp [intOf]; omega)
        · obtain rfl : i = n6 := by omega
          have G3 : Fr (fun k => k < U.heap.size) U wr := G2.comp HM.out.fr (fun k hk hk' => ⟨hk', by show ¬ U.heap.size ≤ k; omega⟩)
          have y0 := x0.fr HM.out.fr (by omega)
          have y3 := x3.fr HM.out.fr (by omega)
          clear HM H6 x0 x3 G2
          have al := fun R => (Fr.refl R wr).alloc (.cells (((List.replicate sh.length (0 : Int)).map fun x => Value.int .i64 x).toArray) 3)
          have oi := Own.ints (e := 3) (S := fun _ => True) wr (List.replicate sh.length 0) _ rfl (by intro x hx; rw [List.eq_of_mem_replicate hx]; omega) (by rw [List.length_replicate]; omega) trivial
          have HI := Lib.hid oi.sl
          rw [List.length_replicate] at HI
          have z0 := y0.keep (al _)
          have z3 := y3.keep (al _)
          have G4 := fr_then G3 (al _)
          have a0 := y0.c0
          have a1 := y0.c1
          have b0 := z3.c0
          have b1 := z3.c1
          have hmk := make_ints sh.length (by omega) wr
          have hat : atE sh es (List.replicate sh.length 0) = 0 := (atE_off HR.out).trans (off_noughts (mayT_ok HR.out).1)
          have HP := Lib.hid (at_t _ (.slice B1 sh.length j1) (.slice B2 es.length j2) (.slice (some ⟨wr.heap.size, 0, none⟩) sh.length sh.length) sh (List.replicate sh.length 0) es (L + 1) (H1.out.fr G4) (H2.out.fr G4) HI.out HLA.out hl1 hl2)
          rw [hat] at HP
          clear hat oi y0 y3 G3 al
          generalize wr.alloc (.cells (((List.replicate sh.length (0 : Int)).map fun x => Value.int .i64 x).toArray) 3) = V2 at hmk HI z0 z3 G4 b0 b1 HP
          go_wp2_with fail
          with_reducible refine HP.out.mono ?_
          rintro e w7 ⟨s7, v1, v2, rfl, -, hy, hf⟩
          obtain ⟨-, hrv⟩ := hy rfl
          obtain ⟨⟨P7, i7, j7, rfl⟩, ⟨Q7, k7, l7, rfl⟩⟩ := hrv.form
          have al := fun R => (Fr.refl R w7).alloc (.cells #[.bool s7, .slice P7 i7 j7, .slice Q7 k7 l7] 43)
          have x11 := Box3.new w7 43 (.bool s7) (.slice P7 i7 j7) (.slice Q7 k7 l7)
          have sz := G4.size
          have sz7 := hf.size
          have HRP := Lib.hid (show RatP (fun k => U.heap.size ≤ k) _ w7.heap.size 0 from ⟨s7, P7, i7, j7, Q7, k7, l7, x11.c0, x11.c1, x11.c2, NumS.of_lm ((fz_fr hrv.num.own.sl_fz (al _)).mono fun k hk => ⟨Nat.le_trans sz hk.1, hk.2⟩), NumS.of_lm ((fz_fr hrv.den.own.sl_fz (al _)).mono fun k hk => ⟨Nat.le_trans sz hk.1, hk.2⟩)⟩)
          replace z0 := (z0.keep hf).keep (al _)
          replace z3 := (z3.keep hf).keep (al _)
          replace G4 := fr_then (fr_then G4 hf) (al _)
          clear hy hrv hf al HP HI hmk a0 a1 b0 b1 x11
          go_wp2_with fail
          with_reducible refine (spoil_t (S := fun k => U.heap.size ≤ k) _ w7.heap.size 0 HRP.out).mono ?_
          rintro e w8 ⟨rfl, hm⟩
          have G5 : Fr (fun k => k < U.heap.size) U w8 := G4.comp hm.fr (fun k hk hk' => ⟨hk', by show ¬ U.heap.size ≤ k; omega⟩)
          replace z0 := z0.fr hm.fr (by omega)
          replace z3 := z3.fr hm.fr (by omega)
          have a0 := z0.c0
          have a1 := z0.c1
          have b0 := z3.c0
          have b1 := z3.c1
          clear hm HRP G4
          go_wp2_with fail
          with_reducible refine (sameraw_y _ (.slice B1 sh.length j1) (.slice B2 es.length j2) (.slice A sh.length c) (.slice A' es.length c') sh es (H1.out.fr G5) (H2.out.fr G5) (HS.out.fr (fr_then F G5)) (HE.out.fr (fr_then F G5))).mono ?_
          rintro e w9 ⟨rfl, hf1⟩
          go_wp2_with fail
          with_reducible refine (tknown _).mono ?_
          rintro e wz ⟨rfl, hf2⟩
          go_wp2_with fail
          go_ret
          exact ⟨rfl, fr_then (fr_then (fr_then F G5) hf1) hf2⟩
end Go.Proofs.YtjnojkfkhccgaaaGreat

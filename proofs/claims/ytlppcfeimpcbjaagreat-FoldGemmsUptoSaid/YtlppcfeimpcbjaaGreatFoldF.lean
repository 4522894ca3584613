
/- Texts merged: FoX, FoM, FoN. -/
import Derived.Test.YtlppcfeimpcbjaaGreatFoldE
set_option linter.unusedSimpArgs false
set_option linter.unusedVariables false

/- What a function of the document's over tensors answers; when it has a product of matrices. -/
namespace Go.Proofs.YtlppcfeimpcbjaaGreat
open Go.RowKit Go.Shelf

/-- What a function of the document's over tensors answers, in memory of its own. -/
def RefO (w : World) (sh : List Int) (qs : List Rat) (K : Nat) (r : Int) (e : Ending) (w' : World) : Prop := ∃ A i j B k l, e = .returned (.tuple #[.agg #[.slice A i j, .slice B k l], .int .i64 r]) ∧
  (r = 0 → Own Im 3 (fun k => w.heap.size ≤ k) w' (.slice A i j) sh ∧ Own (Rk K) 58 (fun k => w.heap.size ≤ k) w' (.slice B k l) qs) ∧ Fr (fun k => k < w.heap.size) w w'
theorem RefO.ret {w u : World} {sh : List Int} {qs : List Rat} {K : Nat} {r : Int} {e : Ending} (h : RefO w sh qs K r e u) : Ret w (Tup r (QC r sh qs K)) e u := by
  obtain ⟨A, i, j, B, k, l, rfl, h2, hf⟩ := h
  exact RefE.ret ⟨A, i, j, B, k, l, rfl, fun h0 => ⟨(h2 h0).1.sl.any, (h2 h0).2.sl.any⟩, hf⟩
/-- Why the document has no product of matrices that may be. -/
def rmE (sha shb : List Int) : Int := if sha.length = 2 ∧ shb.length = 2 ∧ sha.getD 1 0 = shb.getD 0 0 then (if 1024 < sha.getD 0 0 * shb.getD 1 0 then 14 else 0) else 13
theorem rmE_13 {sha shb : List Int} (h : ¬ (sha.length = 2 ∧ shb.length = 2 ∧ sha.getD 1 0 = shb.getD 0 0)) : rmE sha shb = 13 := if_neg h
theorem mm_rm {sha shb : List Int} {ea eb : List RatL} (h1 : mayT sha ea = 0) (h2 : mayT shb eb = 0) : mmE sha ea shb eb = rmE sha shb := by
  by_cases h : sha.length = 2 ∧ shb.length = 2 ∧ sha.getD 1 0 = shb.getD 0 0
  · rw [mmE_s h1 h2 h, rmE, if_pos h]
    obtain ⟨a, b, rfl, ha, _, _, _, _⟩ := two_dims h1 h.1
    obtain ⟨b', c, rfl, _, hc, _, _, _⟩ := two_dims h2 h.2.1
    show mayS [(a : Int), (c : Int)] = if (1024 : Int) < (a : Int) * (c : Int) then 14 else 0
    have hd : ∀ d ∈ [(a : Int), (c : Int)], 1 ≤ d := by
      intro d hd
      rcases List.mem_cons.1 hd with rfl | hd
      · omega
      · rw [List.mem_singleton] at hd; omega
    have hp : pr [(a : Int), (c : Int)] = (a : Int) * (c : Int) := by simp [pr]
    by_cases hn : 1024 < pr [(a : Int), (c : Int)]
    · rw [mayS_n (by simp) hd hn, if_pos (by rwa [hp] at hn)]
    · rw [mayS_0 (by simp) hd hn, if_neg (by rwa [hp] at hn)]
  · rw [mmE_13 h1 h2 h, rmE_13 h]
end Go.Proofs.YtlppcfeimpcbjaaGreat


/- law10's known: printed by gen_fom.py. -/
namespace Go.Proofs.YtlppcfeimpcbjaaGreat
open Go.RowKit

theorem of10_u {w : World} {sh ls : List Int} {v v2 : Value} (h : IntG sh w v) (g : IntG ls w v2) (hl : ls.length ≤ 1099511627000) : Calls Tryz.prog 39 #[v, v2] w (Ret w (Agg (QV sh (ls.map fun (z : Int) => (z : Rat)) 6))) := by
  obtain ⟨A, n, c, rfl, h⟩ := h
  obtain ⟨B, m, d, rfl, g⟩ := g
  refine (of10_t w (.slice A n c) (.slice B m d) sh ls h g hl).mono ?_
  rintro e u ⟨A1, i1, j1, B1, k1, l1, rfl, h1, h2, hf⟩
  exact ⟨_, rfl, hf, fun u' hu' => ⟨_, _, _, _, _, _, rfl, h1.keep' Im_pos hu', h2.keep' (Rk_pos 6) hu'⟩⟩
theorem of10_n {w : World} {ls : List Int} {v2 : Value} (g : IntG ls w v2) (hl : ls.length ≤ 1099511627000) : Calls Tryz.prog 39 #[.slice none 0 0, v2] w (Ret w (Agg (QV [] (ls.map fun (z : Int) => (z : Rat)) 6))) :=
  of10_u ⟨none, 0, 0, rfl, (Sl.nil Im (fun _ => True) w)⟩ g hl
theorem is10_u {w : World} {sh : List Int} {es : List RatL} {qs : List Rat} {K : Nat} {a b c d : Value} (h : TC 0 sh es w a b) (g : QV sh qs K w c d) (he : Hid (es = qs.map canR)) (hK : K ≤ 1099511620) : Calls Tryz.prog 40 #[.agg #[a, b], .int .i64 0, .agg #[c, d]] w (Ret w fun _ v => v = .bool true) :=
  (lis10_t w c d a b sh qs K K g.1 g.2 h.tv.1 (by rw [← he.out]; exact h.tv.2) (Rk_len g.2) hK).mono fun _ _ h => Ret.eq h.1 h.2
theorem sum_g {w : World} {sha sh' axes : List Int} {ea : List RatL} {qs : List Rat} {a b v : Value} {L K : Nat} {r : Int} (h : TV sha ea w a b) (g : IntG axes w v) (f : Hid (Fit sha ea L)) (hr : Hid (sumE sha ea axes = r)) (hd : Hid (dropI axes 0 sha = sh')) (hq : Hid (sumL (plc sha axes) (ea.map qOf) (pr sh').toNat ea.length = qs)) (hK : Hid (ea.length * (L + 1) + 1 ≤ K ∧ L ≤ K ∧ K ≤ 104857600)) :
    Calls Tryz.prog 13 #[.agg #[a, b], v] w (Ret w (Tup r (TC r sh' (qs.map canR)))) := by
  obtain ⟨A, n, c, rfl, g⟩ := g
  exact sum_u h g f hr hd hq hK
theorem mean_g {w : World} {sha sh' axes : List Int} {ea : List RatL} {qs : List Rat} {a b v : Value} {L K : Nat} {r : Int} (h : TV sha ea w a b) (g : IntG axes w v) (f : Hid (Fit sha ea L)) (hr : Hid (sumE sha ea axes = r)) (hd : Hid (dropI axes 0 sha = sh')) (hq : Hid ((sumL (plc sha axes) (ea.map qOf) (pr sh').toNat ea.length).map (fun q => q * fr ((pr sh').toNat : Int) (ea.length : Int)) = qs)) (hn : ea.length ≤ 1048576) (hK : Hid (ea.length * (L + 1) + 1 ≤ K ∧ L ≤ K ∧ 2 ≤ L ∧ K ≤ 104857600)) :
    Calls Tryz.prog 14 #[.agg #[a, b], v] w (Ret w (Tup r (TC r sh' (qs.map canR)))) := by
  obtain ⟨A, n, c, rfl, g⟩ := g
  exact mean_u h g f hr hd hq hn hK

def ko (l : List Int) : List Rat := l.map fun (z : Int) => (z : Rat)
theorem ko_fit (sh : List Int) (l : List Int) (hs : sh.length ≤ 4) (hl : l.length ≤ 100) (h : ∀ z ∈ l, z.natAbs < LB) : Fit sh ((ko l).map canR) 2 :=
  ⟨by omega, by rw [List.length_map, ko, List.length_map]; omega, fun x hx => by
    obtain ⟨q, hq, rfl⟩ := List.mem_map.1 hx
    obtain ⟨z, hz, rfl⟩ := List.mem_map.1 hq
    exact kq_small (by simpa using h z hz) (by simp [LB]), by decide, by decide, fun x hx => by obtain ⟨q, hq, rfl⟩ := List.mem_map.1 hx; exact ⟨dg_lt LB2 _, dg_lt LB2 _⟩⟩
def ko6 : List RatL := (ko [1, 2, 3, 4, 5, 6]).map canR
def ko3 : List RatL := (ko [1, 0, 2]).map canR
theorem ko6_fit : Fit [2, 3] ko6 2 := ko_fit _ _ (by decide) (by decide) (by decide)
theorem ko3_fit : Fit [3, 1] ko3 2 := ko_fit _ _ (by decide) (by decide) (by decide)
theorem ko_may {sh l : List Int} (h : fitsT sh l.length = 0) : mayT sh ((ko l).map canR) = 0 := mayT_0 (by rw [List.length_map, ko, List.length_map]; exact h) fun x hx => by
  obtain ⟨q, _, rfl⟩ := List.mem_map.1 hx
  exact like_can _
theorem ko6_may : mayT [2, 3] ko6 = 0 := ko_may (by decide)
theorem ko3_may : mayT [3, 1] ko3 = 0 := ko_may (by decide)
theorem ko6_sum (axes : List Int) (h : axE axes 2 = 0) : sumE [2, 3] ko6 axes = 0 := (if_neg (by rw [ko6_may]; simp)).trans h
theorem ko6_q : ko6.map qOf = [1, 2, 3, 4, 5, 6] := by unfold ko6; rw [k_q]; decide +kernel
theorem ko6_len : ko6.length = 6 := rfl
theorem ko3_q : ko3.map qOf = [1, 0, 2] := by unfold ko3; rw [k_q]; decide +kernel
theorem ko_s0 : sumL (plc [2, 3] [0]) (ko6.map qOf) (pr [3]).toNat ko6.length = ko [5, 7, 9] := by rw [ko6_q, ko6_len]; decide +kernel
theorem ko_s1 : sumL (plc [2, 3] [1]) (ko6.map qOf) (pr [2]).toNat ko6.length = ko [6, 15] := by rw [ko6_q, ko6_len]; decide +kernel
theorem ko_s2 : sumL (plc [2, 3] [0, 1]) (ko6.map qOf) (pr []).toNat ko6.length = ko [21] := by rw [ko6_q, ko6_len]; decide +kernel
theorem ko_m1 : (sumL (plc [2, 3] [1]) (ko6.map qOf) (pr [2]).toNat ko6.length).map (fun q => q * fr ((pr [2]).toNat : Int) (ko6.length : Int)) = ko [2, 5] := by rw [ko6_q, ko6_len]; decide +kernel
theorem ko_mmE : mmE [2, 3] ko6 [3, 1] ko3 = 0 := (mm_rm ko6_may ko3_may).trans (by decide)
theorem ko_mm : mmL (ko6.map qOf) (ko3.map qOf) (([2, 3] : List Int).getD 0 0).toNat (([2, 3] : List Int).getD 1 0).toNat (([3, 1] : List Int).getD 1 0).toNat = ko [7, 16] := by rw [ko6_q, ko3_q]; decide +kernel
theorem ko_fitq (sh l : List Int) (hs : sh.length ≤ 4) (hl : l.length ≤ 100) : FitQ sh (ko l) 6 := ⟨by omega, by rw [ko, List.length_map]; omega, by decide, by decide⟩

set_option maxRecDepth 20000 in
set_option maxHeartbeats 32000000 in
theorem known10_u (w : World) : Calls Tryz.prog 12 #[] w (Ret w fun _ v => v = .bool true) := by
  refine Calls.mono (show Calls Tryz.prog 12 #[] w (fun e w' => e = .returned (.bool true) ∧ Fr (fun k => k < w.heap.size) w w') from ?_) fun _ _ h => Ret.eq h.1 h.2
  go_enter Tryz.func12, Tryz.ntmps12
  go_wp2_with fail
  have F0 := ((Fr.refl (fun k => k < w.heap.size) w).alloc (.cells #[.int .i64 2, .int .i64 3] 3)).alloc (.cells #[.int .i64 1, .int .i64 2, .int .i64 3, .int .i64 4, .int .i64 5, .int .i64 6] 3)
  have i1 := ((ints_hold w 3 [2, 3] _ rfl (by decide) (by decide)).keep ((Fr.refl _ _).alloc (.cells #[.int .i64 1, .int .i64 2, .int .i64 3, .int .i64 4, .int .i64 5, .int .i64 6] 3))).now
  have i2 := (ints_hold (w.alloc (.cells #[.int .i64 2, .int .i64 3] 3)) 3 [1, 2, 3, 4, 5, 6] _ rfl (by decide) (by decide)).now
  rw [World.size_alloc] at i2
  have p : Calls Tryz.prog 39 #[.slice (some ⟨w.heap.size, 0, none⟩) 2 2, .slice (some ⟨w.heap.size + 1, 0, none⟩) 6 6] ((w.alloc (.cells #[.int .i64 2, .int .i64 3] 3)).alloc (.cells #[.int .i64 1, .int .i64 2, .int .i64 3, .int .i64 4, .int .i64 5, .int .i64 6] 3)) (Ret ((w.alloc (.cells #[.int .i64 2, .int .i64 3] 3)).alloc (.cells #[.int .i64 1, .int .i64 2, .int .i64 3, .int .i64 4, .int .i64 5, .int .i64 6] 3)) (Agg (QV [2, 3] (ko [1, 2, 3, 4, 5, 6]) 6))) := of10_u i1 i2 (by decide)
  with_reducible refine Calls.mono p ?_
  rintro e w1 ⟨v, rfl, hf, H⟩
  obtain ⟨A1, n1, c1, B1, m1, k1, rfl, -⟩ := H.now
  go_wp2_with fail
  with_reducible refine (back_u H.now.out (ko_fitq [2, 3] [1, 2, 3, 4, 5, 6] (by decide) (by decide))).mono ?_
  rintro e w2 ⟨v, rfl, hf2, H2⟩
  obtain ⟨A2, n2, c2, B2, m2, k2, rfl, -⟩ := H2.now
  have F := fr_then (fr_then F0 hf) hf2
  have HX : Hold (fun u => TV [2, 3] ko6 u (.slice A2 n2 c2) (.slice B2 m2 k2)) w2 := H2.mono fun _ h => h.out
  clear p H H2 hf hf2 F0 i1 i2
  dsimp only
  repeat' ((fail_if_success (with_reducible refine wpTill.row (fun _ => True) 0 ?_ ?_)); go_step)
  replace F := F.alloc (.cells #[.slice A2 n2 c2, .slice B2 m2 k2] 26)
  have al := fun R => (Fr.refl R w2).alloc (.cells #[.slice A2 n2 c2, .slice B2 m2 k2] 26)
  replace HX := HX.keep (al _)
  have xa := Box2.new w2 26 (.slice A2 n2 c2) (.slice B2 m2 k2)
  clear al
  generalize w2.alloc (.cells #[.slice A2 n2 c2, .slice B2 m2 k2] 26) = W0 at F HX xa ⊢
  refine wpTill.row (fun _ => True) 7 (by kernel_rfl) ?_
  change wpTill _ _ _ _ _ _ 9 _ _ _
  refine wpTill.free (jj := 7) (m := 2) [(0, Fact.eq (.agg #[.slice A2 n2 c2, .slice B2 m2 k2])),
      (1, Fact.held (IntG [0])),
      (2, Fact.held (Tup (0) (TC 0 [3] ((ko [5, 7, 9]).map canR)))),
      (3, Fact.same 2),
      (4, Fact.fst 3),
      (6, Fact.mem (New2 W0.heap.size 26 (.slice none 0 0) (.slice none 0 0)) New2.keep)] [(5, Fact.snd 3)] [0, 0, 3, 7, 15, 15, 0, 95, 255] [] ?_ (by kernel_rfl) (by kernel_rfl) (by kernel_rfl) [(0, some 17), (1, some 18), (2, some 19), (3, some 16), (4, some 20), (6, some 2), (5, some 21)] (by kernel_rfl) ?hA1 ?hQ1 (fun _ _ => trivial) (by kernel_rfl) ?steps1 ?looses1 ?cont1
  case hQ1 => exact fun _ _ _ _ _ h => h
  case hA1 =>
    intro vs
    simp only [fillD, List.foldl_cons, List.foldl_nil, Act.put, List.setIfInBounds_toArray, List.set_cons_zero, List.set_cons_succ]
    exact rfl
  case steps1 =>
    refine ⟨?_, ?_, ?_, ?_, ?_, ?_, trivial⟩
    · rintro vs u ⟨hV0, hV1, hV2, hV3, hV4, hV6, hV5, -⟩ G
      have o0 := (xa.keep G).c0
      have o1 := (xa.keep G).c1
      exact stepAt.pure (v := .agg #[.slice A2 n2 c2, .slice B2 m2 k2]) rfl rfl (by go_simp) rfl
    · rintro vs u ⟨hV0, hV1, hV2, hV3, hV4, hV6, hV5, -⟩ G
      exact stepAt.value (v := .slice (some ⟨u.heap.size, 0, none⟩) 1 1) (u := u.alloc (.cells #[.int .i64 0] 3)) rfl rfl (by go_simp) ((Fr.refl _ _).alloc _) (ints_hold u 3 [0] _ rfl (by decide) (by decide))
    · rintro vs u ⟨hV0, hV1, hV2, hV3, hV4, hV6, hV5, -⟩ G
      refine stepAt.call (f := 13) (args := #[vs 0, vs 1]) rfl rfl (by go_simp) ?_
      have eV0 : vs 0 = .agg #[.slice A2 n2 c2, .slice B2 m2 k2] := hV0 rfl
      have HV1 : Hold (fun u' => (IntG [0]) u' (vs 1)) u := hV1 rfl
      obtain ⟨A1_1, n1_1, c1_1, eV1, -⟩ := HV1.now
      rw [eV1] at HV1
      rw [eV0, eV1]
      exact sum_g (K := 40) (HX.at G) HV1.now (Lib.hid ko6_fit) (Lib.hid (ko6_sum _ (by decide))) (Lib.hid rfl) (Lib.hid ko_s0) (Lib.hid (by decide : 6 * (2 + 1) + 1 ≤ 40 ∧ 2 ≤ 40 ∧ 40 ≤ 104857600))
    · rintro vs u ⟨hV0, hV1, hV2, hV3, hV4, hV6, hV5, -⟩ G
      exact stepAt.pure (v := vs 2) rfl rfl (by go_simp) rfl
    · rintro vs u ⟨hV0, hV1, hV2, hV3, hV4, hV6, hV5, -⟩ G
      have HV2 : Hold (fun u' => (Tup (0) (TC 0 [3] ((ko [5, 7, 9]).map canR))) u' (vs 2)) u := hV2 rfl
      obtain ⟨A1_2, n1_2, c1_2, B1_2, m1_2, k1_2, eV2, -⟩ := HV2.now
      rw [eV2] at HV2
      have eV3 : vs 3 = .tuple #[.agg #[.slice A1_2 n1_2 c1_2, .slice B1_2 m1_2 k1_2], .int .i64 0] := (show vs 3 = vs 2 from hV3 rfl).trans eV2
      exact stepAt.pure (v := .agg #[.slice A1_2 n1_2 c1_2, .slice B1_2 m1_2 k1_2]) rfl rfl (by simp only [eV3]; go_simp) ⟨_, _, eV3, rfl⟩
    · rintro vs u ⟨hV0, hV1, hV2, hV3, hV4, hV6, hV5, -⟩ G
      exact stepAt.value (v := .pointer (some ⟨u.heap.size, 0, none⟩)) (u := u.alloc (.cells #[.slice none 0 0, .slice none 0 0] 26)) rfl rfl (by go_simp) ((Fr.refl _ _).alloc _) ⟨_, rfl, G.size, Box2.new _ _ _ _⟩
  case looses1 =>
    refine ⟨?_, trivial⟩
    · rintro vs u ⟨hV0, hV1, hV2, hV3, hV4, hV6, hV5, -⟩ G
      have HV2 : Hold (fun u' => (Tup (0) (TC 0 [3] ((ko [5, 7, 9]).map canR))) u' (vs 2)) u := hV2 rfl
      obtain ⟨A1_2, n1_2, c1_2, B1_2, m1_2, k1_2, eV2, -⟩ := HV2.now
      rw [eV2] at HV2
      have eV3 : vs 3 = .tuple #[.agg #[.slice A1_2 n1_2 c1_2, .slice B1_2 m1_2 k1_2], .int .i64 0] := (show vs 3 = vs 2 from hV3 rfl).trans eV2
      exact pureAt.of (v := .int .i64 0) rfl rfl (fun _ => by simp only [eV3]; go_simp) ⟨_, _, eV3, rfl⟩
  rintro vs u ⟨hV0, hV1, hV2, hV3, hV4, hV6, hV5, -⟩ G
  have eV0 : vs 0 = .agg #[.slice A2 n2 c2, .slice B2 m2 k2] := hV0
  replace hV1 : Hold (fun u' => (IntG [0]) u' (vs 1)) u := hV1
  obtain ⟨A1_1, n1_1, c1_1, eV1, -⟩ := hV1.now
  rw [eV1] at hV1
  replace hV2 : Hold (fun u' => (Tup (0) (TC 0 [3] ((ko [5, 7, 9]).map canR))) u' (vs 2)) u := hV2
  obtain ⟨A1_2, n1_2, c1_2, B1_2, m1_2, k1_2, eV2, -⟩ := hV2.now
  rw [eV2] at hV2
  have eV3 : vs 3 = _ := (show vs 3 = vs 2 from hV3).trans eV2
  obtain ⟨x4, z4, a4, eV4⟩ := hV4
  have a4 := eV3.symm.trans a4
  cases a4
  replace eV4 : vs 4 = _ := eV4
  obtain ⟨b1_6, eV6, l1_6, y1_6⟩ := hV6
  replace eV6 : vs 6 = _ := eV6
  obtain ⟨x5, z5, a5, eV5⟩ := hV5
  have a5 := eV3.symm.trans a5
  cases a5
  replace eV5 : vs 5 = _ := eV5
  simp only [eV0, eV1, eV2, eV3, eV4, eV6, eV5]
  clear eV0 eV1 eV2 eV3 eV4 eV6 eV5 hV0 hV3
  have g0 := y1_6.free 0
  have g1 := y1_6.free 1
  have g2 := y1_6.c0
  have g3 := y1_6.c1
  refine wpTill.next 7 rfl (by kernel_rfl) (by rfl) (fun K hK => ?_)
  go_simp
  refine hK _ _ (no_wait (by kernel_rfl)) ?_
  clear hK K
  refine wpTill.next 8 rfl (by kernel_rfl) (by rfl) (fun K hK => ?_)
  go_simp
  refine hK _ _ (no_wait (by kernel_rfl)) ?_
  clear hK K
  refine wpTill.done (by kernel_rfl) ?_
  have F9 := fr_put2 u b1_6 (.slice A1_2 n1_2 c1_2) (.slice B1_2 m1_2 k1_2)
  have G9 := G.comp F9 (R := fun k => k < W0.heap.size) fun k _ hk => ⟨hk, by omega⟩
  have z1 := y1_6.set2 (.slice A1_2 n1_2 c1_2) (.slice B1_2 m1_2 k1_2)
  have T1 := (hV2.now.out.fill (.slice A1_2 n1_2 c1_2) (.slice B1_2 m1_2 k1_2) y1_6).hold
  replace xa := xa.keep G9
  replace HX := HX.keep G9
  replace F := fr_then F G9
  generalize (u.setCell ⟨b1_6, 0, none⟩ (.slice A1_2 n1_2 c1_2)).setCell ⟨b1_6, 1, none⟩ (.slice B1_2 m1_2 k1_2) = U1 at z1 T1 xa HX F ⊢
  clear g0 g1 g2 g3 F9 G9 G y1_6 l1_6 hV2
  repeat' ((fail_if_success (with_reducible refine wpTill.row (fun _ => True) 0 ?_ ?_)); go_step)
  refine wpTill.row (fun _ => True) 7 (by kernel_rfl) ?_
  change wpTill _ _ _ _ _ _ 9 _ _ _
  refine wpTill.free (jj := 7) (m := 2) [(0, Fact.eq (.agg #[.slice A2 n2 c2, .slice B2 m2 k2])),
      (1, Fact.held (IntG [1])),
      (2, Fact.held (Tup (0) (TC 0 [2] ((ko [6, 15]).map canR)))),
      (3, Fact.same 2),
      (4, Fact.fst 3),
      (6, Fact.mem (New2 U1.heap.size 26 (.slice none 0 0) (.slice none 0 0)) New2.keep)] [(5, Fact.snd 3)] [0, 0, 3, 7, 15, 15, 0, 95, 255] [] ?_ (by kernel_rfl) (by kernel_rfl) (by kernel_rfl) [(0, some 23), (1, some 24), (2, some 25), (3, some 22), (4, some 26), (6, some 4), (5, some 27)] (by kernel_rfl) ?hA2 ?hQ2 (fun _ _ => trivial) (by kernel_rfl) ?steps2 ?looses2 ?cont2
  case hQ2 => exact fun _ _ _ _ _ h => h
  case hA2 =>
    intro vs
    simp only [fillD, List.foldl_cons, List.foldl_nil, Act.put, List.setIfInBounds_toArray, List.set_cons_zero, List.set_cons_succ]
    exact rfl
  case steps2 =>
    refine ⟨?_, ?_, ?_, ?_, ?_, ?_, trivial⟩
    · rintro vs u ⟨hV0, hV1, hV2, hV3, hV4, hV6, hV5, -⟩ G
      have o0 := (xa.keep G).c0
      have o1 := (xa.keep G).c1
      exact stepAt.pure (v := .agg #[.slice A2 n2 c2, .slice B2 m2 k2]) rfl rfl (by go_simp) rfl
    · rintro vs u ⟨hV0, hV1, hV2, hV3, hV4, hV6, hV5, -⟩ G
      exact stepAt.value (v := .slice (some ⟨u.heap.size, 0, none⟩) 1 1) (u := u.alloc (.cells #[.int .i64 1] 3)) rfl rfl (by go_simp) ((Fr.refl _ _).alloc _) (ints_hold u 3 [1] _ rfl (by decide) (by decide))
    · rintro vs u ⟨hV0, hV1, hV2, hV3, hV4, hV6, hV5, -⟩ G
      refine stepAt.call (f := 13) (args := #[vs 0, vs 1]) rfl rfl (by go_simp) ?_
      have eV0 : vs 0 = .agg #[.slice A2 n2 c2, .slice B2 m2 k2] := hV0 rfl
      have HV1 : Hold (fun u' => (IntG [1]) u' (vs 1)) u := hV1 rfl
      obtain ⟨A2_1, n2_1, c2_1, eV1, -⟩ := HV1.now
      rw [eV1] at HV1
      rw [eV0, eV1]
      exact sum_g (K := 40) (HX.at G) HV1.now (Lib.hid ko6_fit) (Lib.hid (ko6_sum _ (by decide))) (Lib.hid rfl) (Lib.hid ko_s1) (Lib.hid (by decide : 6 * (2 + 1) + 1 ≤ 40 ∧ 2 ≤ 40 ∧ 40 ≤ 104857600))
    · rintro vs u ⟨hV0, hV1, hV2, hV3, hV4, hV6, hV5, -⟩ G
      exact stepAt.pure (v := vs 2) rfl rfl (by go_simp) rfl
    · rintro vs u ⟨hV0, hV1, hV2, hV3, hV4, hV6, hV5, -⟩ G
      have HV2 : Hold (fun u' => (Tup (0) (TC 0 [2] ((ko [6, 15]).map canR))) u' (vs 2)) u := hV2 rfl
      obtain ⟨A2_2, n2_2, c2_2, B2_2, m2_2, k2_2, eV2, -⟩ := HV2.now
      rw [eV2] at HV2
      have eV3 : vs 3 = .tuple #[.agg #[.slice A2_2 n2_2 c2_2, .slice B2_2 m2_2 k2_2], .int .i64 0] := (show vs 3 = vs 2 from hV3 rfl).trans eV2
      exact stepAt.pure (v := .agg #[.slice A2_2 n2_2 c2_2, .slice B2_2 m2_2 k2_2]) rfl rfl (by simp only [eV3]; go_simp) ⟨_, _, eV3, rfl⟩
    · rintro vs u ⟨hV0, hV1, hV2, hV3, hV4, hV6, hV5, -⟩ G
      exact stepAt.value (v := .pointer (some ⟨u.heap.size, 0, none⟩)) (u := u.alloc (.cells #[.slice none 0 0, .slice none 0 0] 26)) rfl rfl (by go_simp) ((Fr.refl _ _).alloc _) ⟨_, rfl, G.size, Box2.new _ _ _ _⟩
  case looses2 =>
    refine ⟨?_, trivial⟩
    · rintro vs u ⟨hV0, hV1, hV2, hV3, hV4, hV6, hV5, -⟩ G
      have HV2 : Hold (fun u' => (Tup (0) (TC 0 [2] ((ko [6, 15]).map canR))) u' (vs 2)) u := hV2 rfl
      obtain ⟨A2_2, n2_2, c2_2, B2_2, m2_2, k2_2, eV2, -⟩ := HV2.now
      rw [eV2] at HV2
      have eV3 : vs 3 = .tuple #[.agg #[.slice A2_2 n2_2 c2_2, .slice B2_2 m2_2 k2_2], .int .i64 0] := (show vs 3 = vs 2 from hV3 rfl).trans eV2
      exact pureAt.of (v := .int .i64 0) rfl rfl (fun _ => by simp only [eV3]; go_simp) ⟨_, _, eV3, rfl⟩
  rintro vs u ⟨hV0, hV1, hV2, hV3, hV4, hV6, hV5, -⟩ G
  have eV0 : vs 0 = .agg #[.slice A2 n2 c2, .slice B2 m2 k2] := hV0
  replace hV1 : Hold (fun u' => (IntG [1]) u' (vs 1)) u := hV1
  obtain ⟨A2_1, n2_1, c2_1, eV1, -⟩ := hV1.now
  rw [eV1] at hV1
  replace hV2 : Hold (fun u' => (Tup (0) (TC 0 [2] ((ko [6, 15]).map canR))) u' (vs 2)) u := hV2
  obtain ⟨A2_2, n2_2, c2_2, B2_2, m2_2, k2_2, eV2, -⟩ := hV2.now
  rw [eV2] at hV2
  have eV3 : vs 3 = _ := (show vs 3 = vs 2 from hV3).trans eV2
  obtain ⟨x4, z4, a4, eV4⟩ := hV4
  have a4 := eV3.symm.trans a4
  cases a4
  replace eV4 : vs 4 = _ := eV4
  obtain ⟨b2_6, eV6, l2_6, y2_6⟩ := hV6
  replace eV6 : vs 6 = _ := eV6
  obtain ⟨x5, z5, a5, eV5⟩ := hV5
  have a5 := eV3.symm.trans a5
  cases a5
  replace eV5 : vs 5 = _ := eV5
  simp only [eV0, eV1, eV2, eV3, eV4, eV6, eV5]
  clear eV0 eV1 eV2 eV3 eV4 eV6 eV5 hV0 hV3
  have g0 := y2_6.free 0
  have g1 := y2_6.free 1
  have g2 := y2_6.c0
  have g3 := y2_6.c1
  refine wpTill.next 7 rfl (by kernel_rfl) (by rfl) (fun K hK => ?_)
  go_simp
  refine hK _ _ (no_wait (by kernel_rfl)) ?_
  clear hK K
  refine wpTill.next 8 rfl (by kernel_rfl) (by rfl) (fun K hK => ?_)
  go_simp
  refine hK _ _ (no_wait (by kernel_rfl)) ?_
  clear hK K
  refine wpTill.done (by kernel_rfl) ?_
  have F9 := fr_put2 u b2_6 (.slice A2_2 n2_2 c2_2) (.slice B2_2 m2_2 k2_2)
  have G9 := G.comp F9 (R := fun k => k < U1.heap.size) fun k _ hk => ⟨hk, by omega⟩
  have z2 := y2_6.set2 (.slice A2_2 n2_2 c2_2) (.slice B2_2 m2_2 k2_2)
  have T2 := (hV2.now.out.fill (.slice A2_2 n2_2 c2_2) (.slice B2_2 m2_2 k2_2) y2_6).hold
  replace xa := xa.keep G9
  replace z1 := z1.keep G9
  replace HX := HX.keep G9
  replace T1 := T1.keep G9
  replace F := fr_then F G9
  generalize (u.setCell ⟨b2_6, 0, none⟩ (.slice A2_2 n2_2 c2_2)).setCell ⟨b2_6, 1, none⟩ (.slice B2_2 m2_2 k2_2) = U2 at z2 T2 xa z1 HX T1 F ⊢
  clear g0 g1 g2 g3 F9 G9 G y2_6 l2_6 hV2
  repeat' ((fail_if_success (with_reducible refine wpTill.row (fun _ => True) 0 ?_ ?_)); go_step)
  refine wpTill.row (fun _ => True) 7 (by kernel_rfl) ?_
  change wpTill _ _ _ _ _ _ 9 _ _ _
  refine wpTill.free (jj := 7) (m := 2) [(0, Fact.eq (.agg #[.slice A2 n2 c2, .slice B2 m2 k2])),
      (1, Fact.held (IntG [0, 1])),
      (2, Fact.held (Tup (0) (TC 0 [] ((ko [21]).map canR)))),
      (3, Fact.same 2),
      (4, Fact.fst 3),
      (6, Fact.mem (New2 U2.heap.size 26 (.slice none 0 0) (.slice none 0 0)) New2.keep)] [(5, Fact.snd 3)] [0, 0, 3, 7, 15, 15, 0, 95, 255] [] ?_ (by kernel_rfl) (by kernel_rfl) (by kernel_rfl) [(0, some 29), (1, some 30), (2, some 31), (3, some 28), (4, some 32), (6, some 6), (5, some 33)] (by kernel_rfl) ?hA3 ?hQ3 (fun _ _ => trivial) (by kernel_rfl) ?steps3 ?looses3 ?cont3
  case hQ3 => exact fun _ _ _ _ _ h => h
  case hA3 =>
    intro vs
    simp only [fillD, List.foldl_cons, List.foldl_nil, Act.put, List.setIfInBounds_toArray, List.set_cons_zero, List.set_cons_succ]
    exact rfl
  case steps3 =>
    refine ⟨?_, ?_, ?_, ?_, ?_, ?_, trivial⟩
    · rintro vs u ⟨hV0, hV1, hV2, hV3, hV4, hV6, hV5, -⟩ G
      have o0 := (xa.keep G).c0
      have o1 := (xa.keep G).c1
      exact stepAt.pure (v := .agg #[.slice A2 n2 c2, .slice B2 m2 k2]) rfl rfl (by go_simp) rfl
    · rintro vs u ⟨hV0, hV1, hV2, hV3, hV4, hV6, hV5, -⟩ G
      exact stepAt.value (v := .slice (some ⟨u.heap.size, 0, none⟩) 2 2) (u := u.alloc (.cells #[.int .i64 0, .int .i64 1] 3)) rfl rfl (by go_simp) ((Fr.refl _ _).alloc _) (ints_hold u 3 [0, 1] _ rfl (by decide) (by decide))
    · rintro vs u ⟨hV0, hV1, hV2, hV3, hV4, hV6, hV5, -⟩ G
      refine stepAt.call (f := 13) (args := #[vs 0, vs 1]) rfl rfl (by go_simp) ?_
      have eV0 : vs 0 = .agg #[.slice A2 n2 c2, .slice B2 m2 k2] := hV0 rfl
      have HV1 : Hold (fun u' => (IntG [0, 1]) u' (vs 1)) u := hV1 rfl
      obtain ⟨A3_1, n3_1, c3_1, eV1, -⟩ := HV1.now
      rw [eV1] at HV1
      rw [eV0, eV1]
      exact sum_g (K := 40) (HX.at G) HV1.now (Lib.hid ko6_fit) (Lib.hid (ko6_sum _ (by decide))) (Lib.hid rfl) (Lib.hid ko_s2) (Lib.hid (by decide : 6 * (2 + 1) + 1 ≤ 40 ∧ 2 ≤ 40 ∧ 40 ≤ 104857600))
    · rintro vs u ⟨hV0, hV1, hV2, hV3, hV4, hV6, hV5, -⟩ G
      exact stepAt.pure (v := vs 2) rfl rfl (by go_simp) rfl
    · rintro vs u ⟨hV0, hV1, hV2, hV3, hV4, hV6, hV5, -⟩ G
      have HV2 : Hold (fun u' => (Tup (0) (TC 0 [] ((ko [21]).map canR))) u' (vs 2)) u := hV2 rfl
      obtain ⟨A3_2, n3_2, c3_2, B3_2, m3_2, k3_2, eV2, -⟩ := HV2.now
      rw [eV2] at HV2
      have eV3 : vs 3 = .tuple #[.agg #[.slice A3_2 n3_2 c3_2, .slice B3_2 m3_2 k3_2], .int .i64 0] := (show vs 3 = vs 2 from hV3 rfl).trans eV2
      exact stepAt.pure (v := .agg #[.slice A3_2 n3_2 c3_2, .slice B3_2 m3_2 k3_2]) rfl rfl (by simp only [eV3]; go_simp) ⟨_, _, eV3, rfl⟩
    · rintro vs u ⟨hV0, hV1, hV2, hV3, hV4, hV6, hV5, -⟩ G
      exact stepAt.value (v := .pointer (some ⟨u.heap.size, 0, none⟩)) (u := u.alloc (.cells #[.slice none 0 0, .slice none 0 0] 26)) rfl rfl (by go_simp) ((Fr.refl _ _).alloc _) ⟨_, rfl, G.size, Box2.new _ _ _ _⟩
  case looses3 =>
    refine ⟨?_, trivial⟩
    · rintro vs u ⟨hV0, hV1, hV2, hV3, hV4, hV6, hV5, -⟩ G
      have HV2 : Hold (fun u' => (Tup (0) (TC 0 [] ((ko [21]).map canR))) u' (vs 2)) u := hV2 rfl
      obtain ⟨A3_2, n3_2, c3_2, B3_2, m3_2, k3_2, eV2, -⟩ := HV2.now
      rw [eV2] at HV2
      have eV3 : vs 3 = .tuple #[.agg #[.slice A3_2 n3_2 c3_2, .slice B3_2 m3_2 k3_2], .int .i64 0] := (show vs 3 = vs 2 from hV3 rfl).trans eV2
      exact pureAt.of (v := .int .i64 0) rfl rfl (fun _ => by simp only [eV3]; go_simp) ⟨_, _, eV3, rfl⟩
  rintro vs u ⟨hV0, hV1, hV2, hV3, hV4, hV6, hV5, -⟩ G
  have eV0 : vs 0 = .agg #[.slice A2 n2 c2, .slice B2 m2 k2] := hV0
  replace hV1 : Hold (fun u' => (IntG [0, 1]) u' (vs 1)) u := hV1
  obtain ⟨A3_1, n3_1, c3_1, eV1, -⟩ := hV1.now
  rw [eV1] at hV1
  replace hV2 : Hold (fun u' => (Tup (0) (TC 0 [] ((ko [21]).map canR))) u' (vs 2)) u := hV2
  obtain ⟨A3_2, n3_2, c3_2, B3_2, m3_2, k3_2, eV2, -⟩ := hV2.now
  rw [eV2] at hV2
  have eV3 : vs 3 = _ := (show vs 3 = vs 2 from hV3).trans eV2
  obtain ⟨x4, z4, a4, eV4⟩ := hV4
  have a4 := eV3.symm.trans a4
  cases a4
  replace eV4 : vs 4 = _ := eV4
  obtain ⟨b3_6, eV6, l3_6, y3_6⟩ := hV6
  replace eV6 : vs 6 = _ := eV6
  obtain ⟨x5, z5, a5, eV5⟩ := hV5
  have a5 := eV3.symm.trans a5
  cases a5
  replace eV5 : vs 5 = _ := eV5
  simp only [eV0, eV1, eV2, eV3, eV4, eV6, eV5]
  clear eV0 eV1 eV2 eV3 eV4 eV6 eV5 hV0 hV3
  have g0 := y3_6.free 0
  have g1 := y3_6.free 1
  have g2 := y3_6.c0
  have g3 := y3_6.c1
  refine wpTill.next 7 rfl (by kernel_rfl) (by rfl) (fun K hK => ?_)
  go_simp
  refine hK _ _ (no_wait (by kernel_rfl)) ?_
  clear hK K
  refine wpTill.next 8 rfl (by kernel_rfl) (by rfl) (fun K hK => ?_)
  go_simp
  refine hK _ _ (no_wait (by kernel_rfl)) ?_
  clear hK K
  refine wpTill.done (by kernel_rfl) ?_
  have F9 := fr_put2 u b3_6 (.slice A3_2 n3_2 c3_2) (.slice B3_2 m3_2 k3_2)
  have G9 := G.comp F9 (R := fun k => k < U2.heap.size) fun k _ hk => ⟨hk, by omega⟩
  have z3 := y3_6.set2 (.slice A3_2 n3_2 c3_2) (.slice B3_2 m3_2 k3_2)
  have T3 := (hV2.now.out.fill (.slice A3_2 n3_2 c3_2) (.slice B3_2 m3_2 k3_2) y3_6).hold
  replace xa := xa.keep G9
  replace z1 := z1.keep G9
  replace z2 := z2.keep G9
  replace HX := HX.keep G9
  replace T1 := T1.keep G9
  replace T2 := T2.keep G9
  replace F := fr_then F G9
  generalize (u.setCell ⟨b3_6, 0, none⟩ (.slice A3_2 n3_2 c3_2)).setCell ⟨b3_6, 1, none⟩ (.slice B3_2 m3_2 k3_2) = U3 at z3 T3 xa z1 z2 HX T1 T2 F ⊢
  clear g0 g1 g2 g3 F9 G9 G y3_6 l3_6 hV2
  repeat' ((fail_if_success (with_reducible refine wpTill.row (fun _ => True) 0 ?_ ?_)); go_step)
  refine wpTill.row (fun _ => True) 7 (by kernel_rfl) ?_
  change wpTill _ _ _ _ _ _ 9 _ _ _
  refine wpTill.free (jj := 7) (m := 2) [(0, Fact.eq (.agg #[.slice A2 n2 c2, .slice B2 m2 k2])),
      (1, Fact.held (IntG [1])),
      (2, Fact.held (Tup (0) (TC 0 [2] ((ko [2, 5]).map canR)))),
      (3, Fact.same 2),
      (4, Fact.fst 3),
      (6, Fact.mem (New2 U3.heap.size 26 (.slice none 0 0) (.slice none 0 0)) New2.keep)] [(5, Fact.snd 3)] [0, 0, 3, 7, 15, 15, 0, 95, 255] [] ?_ (by kernel_rfl) (by kernel_rfl) (by kernel_rfl) [(0, some 35), (1, some 36), (2, some 37), (3, some 34), (4, some 38), (6, some 8), (5, some 39)] (by kernel_rfl) ?hA4 ?hQ4 (fun _ _ => trivial) (by kernel_rfl) ?steps4 ?looses4 ?cont4
  case hQ4 => exact fun _ _ _ _ _ h => h
  case hA4 =>
    intro vs
    simp only [fillD, List.foldl_cons, List.foldl_nil, Act.put, List.setIfInBounds_toArray, List.set_cons_zero, List.set_cons_succ]
    exact rfl
  case steps4 =>
    refine ⟨?_, ?_, ?_, ?_, ?_, ?_, trivial⟩
    · rintro vs u ⟨hV0, hV1, hV2, hV3, hV4, hV6, hV5, -⟩ G
      have o0 := (xa.keep G).c0
      have o1 := (xa.keep G).c1
      exact stepAt.pure (v := .agg #[.slice A2 n2 c2, .slice B2 m2 k2]) rfl rfl (by go_simp) rfl
    · rintro vs u ⟨hV0, hV1, hV2, hV3, hV4, hV6, hV5, -⟩ G
      exact stepAt.value (v := .slice (some ⟨u.heap.size, 0, none⟩) 1 1) (u := u.alloc (.cells #[.int .i64 1] 3)) rfl rfl (by go_simp) ((Fr.refl _ _).alloc _) (ints_hold u 3 [1] _ rfl (by decide) (by decide))
    · rintro vs u ⟨hV0, hV1, hV2, hV3, hV4, hV6, hV5, -⟩ G
      refine stepAt.call (f := 14) (args := #[vs 0, vs 1]) rfl rfl (by go_simp) ?_
      have eV0 : vs 0 = .agg #[.slice A2 n2 c2, .slice B2 m2 k2] := hV0 rfl
      have HV1 : Hold (fun u' => (IntG [1]) u' (vs 1)) u := hV1 rfl
      obtain ⟨A4_1, n4_1, c4_1, eV1, -⟩ := HV1.now
      rw [eV1] at HV1
      rw [eV0, eV1]
      exact mean_g (K := 40) (HX.at G) HV1.now (Lib.hid ko6_fit) (Lib.hid (ko6_sum _ (by decide))) (Lib.hid rfl) (Lib.hid ko_m1) (by decide) (Lib.hid (by decide))
    · rintro vs u ⟨hV0, hV1, hV2, hV3, hV4, hV6, hV5, -⟩ G
      exact stepAt.pure (v := vs 2) rfl rfl (by go_simp) rfl
    · rintro vs u ⟨hV0, hV1, hV2, hV3, hV4, hV6, hV5, -⟩ G
      have HV2 : Hold (fun u' => (Tup (0) (TC 0 [2] ((ko [2, 5]).map canR))) u' (vs 2)) u := hV2 rfl
      obtain ⟨A4_2, n4_2, c4_2, B4_2, m4_2, k4_2, eV2, -⟩ := HV2.now
      rw [eV2] at HV2
      have eV3 : vs 3 = .tuple #[.agg #[.slice A4_2 n4_2 c4_2, .slice B4_2 m4_2 k4_2], .int .i64 0] := (show vs 3 = vs 2 from hV3 rfl).trans eV2
      exact stepAt.pure (v := .agg #[.slice A4_2 n4_2 c4_2, .slice B4_2 m4_2 k4_2]) rfl rfl (by simp only [eV3]; go_simp) ⟨_, _, eV3, rfl⟩
    · rintro vs u ⟨hV0, hV1, hV2, hV3, hV4, hV6, hV5, -⟩ G
      exact stepAt.value (v := .pointer (some ⟨u.heap.size, 0, none⟩)) (u := u.alloc (.cells #[.slice none 0 0, .slice none 0 0] 26)) rfl rfl (by go_simp) ((Fr.refl _ _).alloc _) ⟨_, rfl, G.size, Box2.new _ _ _ _⟩
  case looses4 =>
    refine ⟨?_, trivial⟩
    · rintro vs u ⟨hV0, hV1, hV2, hV3, hV4, hV6, hV5, -⟩ G
      have HV2 : Hold (fun u' => (Tup (0) (TC 0 [2] ((ko [2, 5]).map canR))) u' (vs 2)) u := hV2 rfl
      obtain ⟨A4_2, n4_2, c4_2, B4_2, m4_2, k4_2, eV2, -⟩ := HV2.now
      rw [eV2] at HV2
      have eV3 : vs 3 = .tuple #[.agg #[.slice A4_2 n4_2 c4_2, .slice B4_2 m4_2 k4_2], .int .i64 0] := (show vs 3 = vs 2 from hV3 rfl).trans eV2
      exact pureAt.of (v := .int .i64 0) rfl rfl (fun _ => by simp only [eV3]; go_simp) ⟨_, _, eV3, rfl⟩
  rintro vs u ⟨hV0, hV1, hV2, hV3, hV4, hV6, hV5, -⟩ G
  have eV0 : vs 0 = .agg #[.slice A2 n2 c2, .slice B2 m2 k2] := hV0
  replace hV1 : Hold (fun u' => (IntG [1]) u' (vs 1)) u := hV1
  obtain ⟨A4_1, n4_1, c4_1, eV1, -⟩ := hV1.now
  rw [eV1] at hV1
  replace hV2 : Hold (fun u' => (Tup (0) (TC 0 [2] ((ko [2, 5]).map canR))) u' (vs 2)) u := hV2
  obtain ⟨A4_2, n4_2, c4_2, B4_2, m4_2, k4_2, eV2, -⟩ := hV2.now
  rw [eV2] at hV2
  have eV3 : vs 3 = _ := (show vs 3 = vs 2 from hV3).trans eV2
  obtain ⟨x4, z4, a4, eV4⟩ := hV4
  have a4 := eV3.symm.trans a4
  cases a4
  replace eV4 : vs 4 = _ := eV4
  obtain ⟨b4_6, eV6, l4_6, y4_6⟩ := hV6
  replace eV6 : vs 6 = _ := eV6
  obtain ⟨x5, z5, a5, eV5⟩ := hV5
  have a5 := eV3.symm.trans a5
  cases a5
  replace eV5 : vs 5 = _ := eV5
  simp only [eV0, eV1, eV2, eV3, eV4, eV6, eV5]
  clear eV0 eV1 eV2 eV3 eV4 eV6 eV5 hV0 hV3
  have g0 := y4_6.free 0
  have g1 := y4_6.free 1
  have g2 := y4_6.c0
  have g3 := y4_6.c1
  refine wpTill.next 7 rfl (by kernel_rfl) (by rfl) (fun K hK => ?_)
  go_simp
  refine hK _ _ (no_wait (by kernel_rfl)) ?_
  clear hK K
  refine wpTill.next 8 rfl (by kernel_rfl) (by rfl) (fun K hK => ?_)
  go_simp
  refine hK _ _ (no_wait (by kernel_rfl)) ?_
  clear hK K
  refine wpTill.done (by kernel_rfl) ?_
  have F9 := fr_put2 u b4_6 (.slice A4_2 n4_2 c4_2) (.slice B4_2 m4_2 k4_2)
  have G9 := G.comp F9 (R := fun k => k < U3.heap.size) fun k _ hk => ⟨hk, by omega⟩
  have z4 := y4_6.set2 (.slice A4_2 n4_2 c4_2) (.slice B4_2 m4_2 k4_2)
  have T4 := (hV2.now.out.fill (.slice A4_2 n4_2 c4_2) (.slice B4_2 m4_2 k4_2) y4_6).hold
  replace xa := xa.keep G9
  replace z1 := z1.keep G9
  replace z2 := z2.keep G9
  replace z3 := z3.keep G9
  replace HX := HX.keep G9
  replace T1 := T1.keep G9
  replace T2 := T2.keep G9
  replace T3 := T3.keep G9
  replace F := fr_then F G9
  generalize (u.setCell ⟨b4_6, 0, none⟩ (.slice A4_2 n4_2 c4_2)).setCell ⟨b4_6, 1, none⟩ (.slice B4_2 m4_2 k4_2) = U4 at z4 T4 xa z1 z2 z3 HX T1 T2 T3 F ⊢
  clear g0 g1 g2 g3 F9 G9 G y4_6 l4_6 hV2
  repeat' ((fail_if_success (with_reducible refine wpTill.row (fun _ => True) 0 ?_ ?_)); go_step)
  have DR := fun R => (Fr.refl R U4).drew
  replace xa := xa.keep (DR _)
  replace z1 := z1.keep (DR _)
  replace z2 := z2.keep (DR _)
  replace z3 := z3.keep (DR _)
  replace z4 := z4.keep (DR _)
  replace HX := HX.keep (DR _)
  replace T1 := T1.keep (DR _)
  replace T2 := T2.keep (DR _)
  replace T3 := T3.keep (DR _)
  replace T4 := T4.keep (DR _)
  replace F := F.drew
  clear DR
  refine wpTill.begin (fun _ => True) 10 (by kernel_rfl) ?_
  change wpTill _ _ _ _ _ _ 12 _ _ _
  refine wpTill.free (jj := 10) (m := 2) [(0, Fact.eq (.agg #[.slice A2 n2 c2, .slice B2 m2 k2])),
      (1, Fact.held (IntG [3, 1])),
      (2, Fact.held (IntG [1, 0, 2])),
      (3, Fact.held (Agg (QV [3, 1] (ko [1, 0, 2]) 6))),
      (4, Fact.held (Agg (TV [3, 1] ko3))),
      (5, Fact.held (Tup (0) (TC 0 [2, 1] ((ko [7, 16]).map canR)))),
      (6, Fact.same 5),
      (7, Fact.fst 6),
      (9, Fact.mem (New2 U4.drew.heap.size 26 (.slice none 0 0) (.slice none 0 0)) New2.keep)] [(8, Fact.snd 6)] [0, 0, 0, 6, 14, 31, 63, 127, 127, 0, 767, 2047] [] ?_ (by kernel_rfl) (by kernel_rfl) (by kernel_rfl) [(0, some 41), (1, some 42), (2, some 43), (3, some 44), (4, some 45), (5, some 46), (6, some 40), (7, some 47), (9, some 10), (8, some 48)] (by kernel_rfl) ?hA5 ?hQ5 (fun _ _ => trivial) (by kernel_rfl) ?steps5 ?looses5 ?cont5
  case hQ5 => exact fun _ _ _ _ _ h => h
  case hA5 =>
    intro vs
    simp only [fillD, List.foldl_cons, List.foldl_nil, Act.put, List.setIfInBounds_toArray, List.set_cons_zero, List.set_cons_succ]
    exact rfl
  case steps5 =>
    refine ⟨?_, ?_, ?_, ?_, ?_, ?_, ?_, ?_, ?_, trivial⟩
    · rintro vs u ⟨hV0, hV1, hV2, hV3, hV4, hV5, hV6, hV7, hV9, hV8, -⟩ G
      have o0 := (xa.keep G).c0
      have o1 := (xa.keep G).c1
      exact stepAt.pure (v := .agg #[.slice A2 n2 c2, .slice B2 m2 k2]) rfl rfl (by go_simp) rfl
    · rintro vs u ⟨hV0, hV1, hV2, hV3, hV4, hV5, hV6, hV7, hV9, hV8, -⟩ G
      exact stepAt.value (v := .slice (some ⟨u.heap.size, 0, none⟩) 2 2) (u := u.alloc (.cells #[.int .i64 3, .int .i64 1] 3)) rfl rfl (by go_simp) ((Fr.refl _ _).alloc _) (ints_hold u 3 [3, 1] _ rfl (by decide) (by decide))
    · rintro vs u ⟨hV0, hV1, hV2, hV3, hV4, hV5, hV6, hV7, hV9, hV8, -⟩ G
      exact stepAt.value (v := .slice (some ⟨u.heap.size, 0, none⟩) 3 3) (u := u.alloc (.cells #[.int .i64 1, .int .i64 0, .int .i64 2] 3)) rfl rfl (by go_simp) ((Fr.refl _ _).alloc _) (ints_hold u 3 [1, 0, 2] _ rfl (by decide) (by decide))
    · rintro vs u ⟨hV0, hV1, hV2, hV3, hV4, hV5, hV6, hV7, hV9, hV8, -⟩ G
      refine stepAt.call (f := 39) (args := #[vs 1, vs 2]) rfl rfl (by go_simp) ?_
      have HV1 : Hold (fun u' => (IntG [3, 1]) u' (vs 1)) u := hV1 rfl
      obtain ⟨A5_1, n5_1, c5_1, eV1, -⟩ := HV1.now
      rw [eV1] at HV1
      have HV2 : Hold (fun u' => (IntG [1, 0, 2]) u' (vs 2)) u := hV2 rfl
      obtain ⟨A5_2, n5_2, c5_2, eV2, -⟩ := HV2.now
      rw [eV2] at HV2
      rw [eV1, eV2]
      exact of10_u HV1.now HV2.now (by decide)
    · rintro vs u ⟨hV0, hV1, hV2, hV3, hV4, hV5, hV6, hV7, hV9, hV8, -⟩ G
      refine stepAt.call (f := 38) (args := #[vs 3]) rfl rfl (by go_simp) ?_
      have HV3 : Hold (fun u' => (Agg (QV [3, 1] (ko [1, 0, 2]) 6)) u' (vs 3)) u := hV3 rfl
      obtain ⟨A5_3, n5_3, c5_3, B5_3, m5_3, k5_3, eV3, -⟩ := HV3.now
      rw [eV3] at HV3
      rw [eV3]
      exact back_u HV3.now.out (ko_fitq [3, 1] [1, 0, 2] (by decide) (by decide))
    · rintro vs u ⟨hV0, hV1, hV2, hV3, hV4, hV5, hV6, hV7, hV9, hV8, -⟩ G
      refine stepAt.call (f := 20) (args := #[vs 0, vs 4]) rfl rfl (by go_simp) ?_
      have eV0 : vs 0 = .agg #[.slice A2 n2 c2, .slice B2 m2 k2] := hV0 rfl
      have HV4 : Hold (fun u' => (Agg (TV [3, 1] ko3)) u' (vs 4)) u := hV4 rfl
      obtain ⟨A5_4, n5_4, c5_4, B5_4, m5_4, k5_4, eV4, -⟩ := HV4.now
      rw [eV4] at HV4
      rw [eV0, eV4]
      exact mm_u (K := 40) (HX.at G) HV4.now.out (Lib.hid ko6_fit) (Lib.hid ko3_fit) (Lib.hid ko_mmE) (Lib.hid fun _ => rfl) (Lib.hid fun _ => ko_mm) (Lib.hid (by decide))
    · rintro vs u ⟨hV0, hV1, hV2, hV3, hV4, hV5, hV6, hV7, hV9, hV8, -⟩ G
      exact stepAt.pure (v := vs 5) rfl rfl (by go_simp) rfl
    · rintro vs u ⟨hV0, hV1, hV2, hV3, hV4, hV5, hV6, hV7, hV9, hV8, -⟩ G
      have HV5 : Hold (fun u' => (Tup (0) (TC 0 [2, 1] ((ko [7, 16]).map canR))) u' (vs 5)) u := hV5 rfl
      obtain ⟨A5_5, n5_5, c5_5, B5_5, m5_5, k5_5, eV5, -⟩ := HV5.now
      rw [eV5] at HV5
      have eV6 : vs 6 = .tuple #[.agg #[.slice A5_5 n5_5 c5_5, .slice B5_5 m5_5 k5_5], .int .i64 0] := (show vs 6 = vs 5 from hV6 rfl).trans eV5
      exact stepAt.pure (v := .agg #[.slice A5_5 n5_5 c5_5, .slice B5_5 m5_5 k5_5]) rfl rfl (by simp only [eV6]; go_simp) ⟨_, _, eV6, rfl⟩
    · rintro vs u ⟨hV0, hV1, hV2, hV3, hV4, hV5, hV6, hV7, hV9, hV8, -⟩ G
      exact stepAt.value (v := .pointer (some ⟨u.heap.size, 0, none⟩)) (u := u.alloc (.cells #[.slice none 0 0, .slice none 0 0] 26)) rfl rfl (by go_simp) ((Fr.refl _ _).alloc _) ⟨_, rfl, G.size, Box2.new _ _ _ _⟩
  case looses5 =>
    refine ⟨?_, trivial⟩
    · rintro vs u ⟨hV0, hV1, hV2, hV3, hV4, hV5, hV6, hV7, hV9, hV8, -⟩ G
      have HV5 : Hold (fun u' => (Tup (0) (TC 0 [2, 1] ((ko [7, 16]).map canR))) u' (vs 5)) u := hV5 rfl
      obtain ⟨A5_5, n5_5, c5_5, B5_5, m5_5, k5_5, eV5, -⟩ := HV5.now
      rw [eV5] at HV5
      have eV6 : vs 6 = .tuple #[.agg #[.slice A5_5 n5_5 c5_5, .slice B5_5 m5_5 k5_5], .int .i64 0] := (show vs 6 = vs 5 from hV6 rfl).trans eV5
      exact pureAt.of (v := .int .i64 0) rfl rfl (fun _ => by simp only [eV6]; go_simp) ⟨_, _, eV6, rfl⟩
  rintro vs u ⟨hV0, hV1, hV2, hV3, hV4, hV5, hV6, hV7, hV9, hV8, -⟩ G
  have eV0 : vs 0 = .agg #[.slice A2 n2 c2, .slice B2 m2 k2] := hV0
  replace hV1 : Hold (fun u' => (IntG [3, 1]) u' (vs 1)) u := hV1
  obtain ⟨A5_1, n5_1, c5_1, eV1, -⟩ := hV1.now
  rw [eV1] at hV1
  replace hV2 : Hold (fun u' => (IntG [1, 0, 2]) u' (vs 2)) u := hV2
  obtain ⟨A5_2, n5_2, c5_2, eV2, -⟩ := hV2.now
  rw [eV2] at hV2
  replace hV3 : Hold (fun u' => (Agg (QV [3, 1] (ko [1, 0, 2]) 6)) u' (vs 3)) u := hV3
  obtain ⟨A5_3, n5_3, c5_3, B5_3, m5_3, k5_3, eV3, -⟩ := hV3.now
  rw [eV3] at hV3
  replace hV4 : Hold (fun u' => (Agg (TV [3, 1] ko3)) u' (vs 4)) u := hV4
  obtain ⟨A5_4, n5_4, c5_4, B5_4, m5_4, k5_4, eV4, -⟩ := hV4.now
  rw [eV4] at hV4
  replace hV5 : Hold (fun u' => (Tup (0) (TC 0 [2, 1] ((ko [7, 16]).map canR))) u' (vs 5)) u := hV5
  obtain ⟨A5_5, n5_5, c5_5, B5_5, m5_5, k5_5, eV5, -⟩ := hV5.now
  rw [eV5] at hV5
  have eV6 : vs 6 = _ := (show vs 6 = vs 5 from hV6).trans eV5
  obtain ⟨x7, z7, a7, eV7⟩ := hV7
  have a7 := eV6.symm.trans a7
  cases a7
  replace eV7 : vs 7 = _ := eV7
  obtain ⟨b5_9, eV9, l5_9, y5_9⟩ := hV9
  replace eV9 : vs 9 = _ := eV9
  obtain ⟨x8, z8, a8, eV8⟩ := hV8
  have a8 := eV6.symm.trans a8
  cases a8
  replace eV8 : vs 8 = _ := eV8
  simp only [eV0, eV1, eV2, eV3, eV4, eV5, eV6, eV7, eV9, eV8]
  clear eV0 eV1 eV2 eV3 eV4 eV5 eV6 eV7 eV9 eV8 hV0 hV6
  have g0 := y5_9.free 0
  have g1 := y5_9.free 1
  have g2 := y5_9.c0
  have g3 := y5_9.c1
  refine wpTill.next 10 rfl (by kernel_rfl) (by rfl) (fun K hK => ?_)
  go_simp
  refine hK _ _ (no_wait (by kernel_rfl)) ?_
  clear hK K
  refine wpTill.next 11 rfl (by kernel_rfl) (by rfl) (fun K hK => ?_)
  go_simp
  refine hK _ _ (no_wait (by kernel_rfl)) ?_
  clear hK K
  refine wpTill.done (by kernel_rfl) ?_
  have F9 := fr_put2 u b5_9 (.slice A5_5 n5_5 c5_5) (.slice B5_5 m5_5 k5_5)
  have G9 := G.comp F9 (R := fun k => k < U4.drew.heap.size) fun k _ hk => ⟨hk, by omega⟩
  have z5 := y5_9.set2 (.slice A5_5 n5_5 c5_5) (.slice B5_5 m5_5 k5_5)
  have T5 := (hV5.now.out.fill (.slice A5_5 n5_5 c5_5) (.slice B5_5 m5_5 k5_5) y5_9).hold
  replace xa := xa.keep G9
  replace z1 := z1.keep G9
  replace z2 := z2.keep G9
  replace z3 := z3.keep G9
  replace z4 := z4.keep G9
  replace HX := HX.keep G9
  replace T1 := T1.keep G9
  replace T2 := T2.keep G9
  replace T3 := T3.keep G9
  replace T4 := T4.keep G9
  replace F := fr_then F G9
  generalize (u.setCell ⟨b5_9, 0, none⟩ (.slice A5_5 n5_5 c5_5)).setCell ⟨b5_9, 1, none⟩ (.slice B5_5 m5_5 k5_5) = U5 at z5 T5 xa z1 z2 z3 z4 HX T1 T2 T3 T4 F ⊢
  clear g0 g1 g2 g3 F9 G9 G y5_9 l5_9 hV5
  repeat' ((fail_if_success (with_reducible refine wpTill.row (fun _ => True) 0 ?_ ?_)); go_step)
  have DR := fun R => (Fr.refl R U5).drew
  replace xa := xa.keep (DR _)
  replace z1 := z1.keep (DR _)
  replace z2 := z2.keep (DR _)
  replace z3 := z3.keep (DR _)
  replace z4 := z4.keep (DR _)
  replace z5 := z5.keep (DR _)
  replace HX := HX.keep (DR _)
  replace T1 := T1.keep (DR _)
  replace T2 := T2.keep (DR _)
  replace T3 := T3.keep (DR _)
  replace T4 := T4.keep (DR _)
  replace T5 := T5.keep (DR _)
  replace F := F.drew
  clear DR
  refine wpTill.begin (fun _ => True) 37 (by kernel_rfl) ?_
  change wpTill _ _ _ _ _ _ 38 _ _ _
  refine wpTill.free (jj := 37) (m := 1) [(0, Fact.eq (.agg #[.slice A1_2 n1_2 c1_2, .slice B1_2 m1_2 k1_2])),
      (1, Fact.eq (.int .i64 0)),
      (2, Fact.held (IntG [3])),
      (3, Fact.held (IntG [5, 7, 9])),
      (4, Fact.held (Agg (QV [3] (ko [5, 7, 9]) 6))),
      (5, Fact.eq (.bool true)),
      (6, Fact.eq (.bool true)),
      (7, Fact.eq (.agg #[.slice A2_2 n2_2 c2_2, .slice B2_2 m2_2 k2_2])),
      (8, Fact.eq (.int .i64 0)),
      (9, Fact.held (IntG [2])),
      (10, Fact.held (IntG [6, 15])),
      (11, Fact.held (Agg (QV [2] (ko [6, 15]) 6))),
      (12, Fact.eq (.bool true)),
      (13, Fact.eq (.bool true)),
      (14, Fact.eq (.bool true)),
      (15, Fact.eq (.agg #[.slice A3_2 n3_2 c3_2, .slice B3_2 m3_2 k3_2])),
      (16, Fact.eq (.int .i64 0)),
      (17, Fact.held (IntG [21])),
      (18, Fact.held (Agg (QV [] (ko [21]) 6))),
      (19, Fact.eq (.bool true)),
      (20, Fact.eq (.bool true)),
      (21, Fact.eq (.bool true)),
      (22, Fact.eq (.agg #[.slice A4_2 n4_2 c4_2, .slice B4_2 m4_2 k4_2])),
      (23, Fact.eq (.int .i64 0)),
      (24, Fact.held (IntG [2])),
      (25, Fact.held (IntG [2, 5])),
      (26, Fact.held (Agg (QV [2] (ko [2, 5]) 6))),
      (27, Fact.eq (.bool true)),
      (28, Fact.eq (.bool true)),
      (29, Fact.eq (.bool true)),
      (30, Fact.eq (.agg #[.slice A5_5 n5_5 c5_5, .slice B5_5 m5_5 k5_5])),
      (31, Fact.eq (.int .i64 0)),
      (32, Fact.held (IntG [2, 1])),
      (33, Fact.held (IntG [7, 16])),
      (34, Fact.held (Agg (QV [2, 1] (ko [7, 16]) 6))),
      (35, Fact.eq (.bool true)),
      (36, Fact.eq (.bool true))] [] [0, 0, 0, 0, 12, 31, 63, 127, 127, 127, 127, 1663, 4095, 8191, 16383, 32767, 32767, 32767, 163839, 524287, 1048575, 2097151, 4194303, 4194303, 4194303, 4194303, 54525951, 134217727, 268435455, 536870911, 1073741823, 1073741823, 1073741823, 1073741823, 13958643711, 34359738367, 68719476735, 137438953471] [] ?_ (by kernel_rfl) (by kernel_rfl) (by kernel_rfl) [(0, some 49), (1, some 50), (2, some 51), (3, some 52), (4, some 53), (5, some 54), (6, some 55), (7, some 56), (8, some 57), (9, some 58), (10, some 59), (11, some 60), (12, some 61), (13, some 62), (14, some 63), (15, some 64), (16, some 65), (17, some 66), (18, some 67), (19, some 68), (20, some 69), (21, some 70), (22, some 71), (23, some 72), (24, some 73), (25, some 74), (26, some 75), (27, some 76), (28, some 77), (29, some 78), (30, some 79), (31, some 80), (32, some 81), (33, some 82), (34, some 83), (35, some 84), (36, some 85)] (by kernel_rfl) ?hA6 ?hQ6 (fun _ _ => trivial) (by kernel_rfl) ?steps6 ?looses6 ?cont6
  case hQ6 => exact fun _ _ _ _ _ h => h
  case hA6 =>
    intro vs
    simp only [fillD, List.foldl_cons, List.foldl_nil, Act.put, List.setIfInBounds_toArray, List.set_cons_zero, List.set_cons_succ]
    exact rfl
  case steps6 =>
    refine ⟨?_, ?_, ?_, ?_, ?_, ?_, ?_, ?_, ?_, ?_, ?_, ?_, ?_, ?_, ?_, ?_, ?_, ?_, ?_, ?_, ?_, ?_, ?_, ?_, ?_, ?_, ?_, ?_, ?_, ?_, ?_, ?_, ?_, ?_, ?_, ?_, ?_, trivial⟩
    · rintro vs u ⟨hV0, hV1, hV2, hV3, hV4, hV5, hV6, hV7, hV8, hV9, hV10, hV11, hV12, hV13, hV14, hV15, hV16, hV17, hV18, hV19, hV20, hV21, hV22, hV23, hV24, hV25, hV26, hV27, hV28, hV29, hV30, hV31, hV32, hV33, hV34, hV35, hV36, -⟩ G
      have o0 := (z1.keep G).c0
      have o1 := (z1.keep G).c1
      exact stepAt.pure (v := .agg #[.slice A1_2 n1_2 c1_2, .slice B1_2 m1_2 k1_2]) rfl rfl (by go_simp) rfl
    · rintro vs u ⟨hV0, hV1, hV2, hV3, hV4, hV5, hV6, hV7, hV8, hV9, hV10, hV11, hV12, hV13, hV14, hV15, hV16, hV17, hV18, hV19, hV20, hV21, hV22, hV23, hV24, hV25, hV26, hV27, hV28, hV29, hV30, hV31, hV32, hV33, hV34, hV35, hV36, -⟩ G
      exact stepAt.pure (v := .int .i64 0) rfl rfl (by go_simp) rfl
    · rintro vs u ⟨hV0, hV1, hV2, hV3, hV4, hV5, hV6, hV7, hV8, hV9, hV10, hV11, hV12, hV13, hV14, hV15, hV16, hV17, hV18, hV19, hV20, hV21, hV22, hV23, hV24, hV25, hV26, hV27, hV28, hV29, hV30, hV31, hV32, hV33, hV34, hV35, hV36, -⟩ G
      exact stepAt.value (v := .slice (some ⟨u.heap.size, 0, none⟩) 1 1) (u := u.alloc (.cells #[.int .i64 3] 3)) rfl rfl (by go_simp) ((Fr.refl _ _).alloc _) (ints_hold u 3 [3] _ rfl (by decide) (by decide))
    · rintro vs u ⟨hV0, hV1, hV2, hV3, hV4, hV5, hV6, hV7, hV8, hV9, hV10, hV11, hV12, hV13, hV14, hV15, hV16, hV17, hV18, hV19, hV20, hV21, hV22, hV23, hV24, hV25, hV26, hV27, hV28, hV29, hV30, hV31, hV32, hV33, hV34, hV35, hV36, -⟩ G
      exact stepAt.value (v := .slice (some ⟨u.heap.size, 0, none⟩) 3 3) (u := u.alloc (.cells #[.int .i64 5, .int .i64 7, .int .i64 9] 3)) rfl rfl (by go_simp) ((Fr.refl _ _).alloc _) (ints_hold u 3 [5, 7, 9] _ rfl (by decide) (by decide))
    · rintro vs u ⟨hV0, hV1, hV2, hV3, hV4, hV5, hV6, hV7, hV8, hV9, hV10, hV11, hV12, hV13, hV14, hV15, hV16, hV17, hV18, hV19, hV20, hV21, hV22, hV23, hV24, hV25, hV26, hV27, hV28, hV29, hV30, hV31, hV32, hV33, hV34, hV35, hV36, -⟩ G
      refine stepAt.call (f := 39) (args := #[vs 2, vs 3]) rfl rfl (by go_simp) ?_
      have HV2 : Hold (fun u' => (IntG [3]) u' (vs 2)) u := hV2 rfl
      obtain ⟨A6_2, n6_2, c6_2, eV2, -⟩ := HV2.now
      rw [eV2] at HV2
      have HV3 : Hold (fun u' => (IntG [5, 7, 9]) u' (vs 3)) u := hV3 rfl
      obtain ⟨A6_3, n6_3, c6_3, eV3, -⟩ := HV3.now
      rw [eV3] at HV3
      rw [eV2, eV3]
      exact of10_u HV2.now HV3.now (by decide)
    · rintro vs u ⟨hV0, hV1, hV2, hV3, hV4, hV5, hV6, hV7, hV8, hV9, hV10, hV11, hV12, hV13, hV14, hV15, hV16, hV17, hV18, hV19, hV20, hV21, hV22, hV23, hV24, hV25, hV26, hV27, hV28, hV29, hV30, hV31, hV32, hV33, hV34, hV35, hV36, -⟩ G
      refine stepAt.call (f := 40) (args := #[vs 0, vs 1, vs 4]) rfl rfl (by go_simp) ?_
      have eV0 : vs 0 = .agg #[.slice A1_2 n1_2 c1_2, .slice B1_2 m1_2 k1_2] := hV0 rfl
      have eV1 : vs 1 = .int .i64 0 := hV1 rfl
      have HV4 : Hold (fun u' => (Agg (QV [3] (ko [5, 7, 9]) 6)) u' (vs 4)) u := hV4 rfl
      obtain ⟨A6_4, n6_4, c6_4, B6_4, m6_4, k6_4, eV4, -⟩ := HV4.now
      rw [eV4] at HV4
      rw [eV0, eV1, eV4]
      exact (is10_u (T1.at G) HV4.now.out (Lib.hid rfl) (by decide)).mono fun _ _ ⟨v, h1, h2, h3⟩ => ⟨v, h1, h2, h3.now⟩
    · rintro vs u ⟨hV0, hV1, hV2, hV3, hV4, hV5, hV6, hV7, hV8, hV9, hV10, hV11, hV12, hV13, hV14, hV15, hV16, hV17, hV18, hV19, hV20, hV21, hV22, hV23, hV24, hV25, hV26, hV27, hV28, hV29, hV30, hV31, hV32, hV33, hV34, hV35, hV36, -⟩ G
      have eV5 : vs 5 = .bool true := hV5 rfl
      exact stepAt.pure (v := .bool true) rfl rfl (by simp only [eV5]; go_simp) rfl
    · rintro vs u ⟨hV0, hV1, hV2, hV3, hV4, hV5, hV6, hV7, hV8, hV9, hV10, hV11, hV12, hV13, hV14, hV15, hV16, hV17, hV18, hV19, hV20, hV21, hV22, hV23, hV24, hV25, hV26, hV27, hV28, hV29, hV30, hV31, hV32, hV33, hV34, hV35, hV36, -⟩ G
      have o0 := (z2.keep G).c0
      have o1 := (z2.keep G).c1
      exact stepAt.pure (v := .agg #[.slice A2_2 n2_2 c2_2, .slice B2_2 m2_2 k2_2]) rfl (wanted_by (g := 6) (b := true) (t := 55) rfl (by kernel_rfl) (congrArg some (show vs 6 = _ from hV6 rfl))) (by go_simp) rfl
    · rintro vs u ⟨hV0, hV1, hV2, hV3, hV4, hV5, hV6, hV7, hV8, hV9, hV10, hV11, hV12, hV13, hV14, hV15, hV16, hV17, hV18, hV19, hV20, hV21, hV22, hV23, hV24, hV25, hV26, hV27, hV28, hV29, hV30, hV31, hV32, hV33, hV34, hV35, hV36, -⟩ G
      exact stepAt.pure (v := .int .i64 0) rfl (wanted_by (g := 6) (b := true) (t := 55) rfl (by kernel_rfl) (congrArg some (show vs 6 = _ from hV6 rfl))) (by go_simp) rfl
    · rintro vs u ⟨hV0, hV1, hV2, hV3, hV4, hV5, hV6, hV7, hV8, hV9, hV10, hV11, hV12, hV13, hV14, hV15, hV16, hV17, hV18, hV19, hV20, hV21, hV22, hV23, hV24, hV25, hV26, hV27, hV28, hV29, hV30, hV31, hV32, hV33, hV34, hV35, hV36, -⟩ G
      exact stepAt.value (v := .slice (some ⟨u.heap.size, 0, none⟩) 1 1) (u := u.alloc (.cells #[.int .i64 2] 3)) rfl (wanted_by (g := 6) (b := true) (t := 55) rfl (by kernel_rfl) (congrArg some (show vs 6 = _ from hV6 rfl))) (by go_simp) ((Fr.refl _ _).alloc _) (ints_hold u 3 [2] _ rfl (by decide) (by decide))
    · rintro vs u ⟨hV0, hV1, hV2, hV3, hV4, hV5, hV6, hV7, hV8, hV9, hV10, hV11, hV12, hV13, hV14, hV15, hV16, hV17, hV18, hV19, hV20, hV21, hV22, hV23, hV24, hV25, hV26, hV27, hV28, hV29, hV30, hV31, hV32, hV33, hV34, hV35, hV36, -⟩ G
      exact stepAt.value (v := .slice (some ⟨u.heap.size, 0, none⟩) 2 2) (u := u.alloc (.cells #[.int .i64 6, .int .i64 15] 3)) rfl (wanted_by (g := 6) (b := true) (t := 55) rfl (by kernel_rfl) (congrArg some (show vs 6 = _ from hV6 rfl))) (by go_simp) ((Fr.refl _ _).alloc _) (ints_hold u 3 [6, 15] _ rfl (by decide) (by decide))
    · rintro vs u ⟨hV0, hV1, hV2, hV3, hV4, hV5, hV6, hV7, hV8, hV9, hV10, hV11, hV12, hV13, hV14, hV15, hV16, hV17, hV18, hV19, hV20, hV21, hV22, hV23, hV24, hV25, hV26, hV27, hV28, hV29, hV30, hV31, hV32, hV33, hV34, hV35, hV36, -⟩ G
      refine stepAt.call (f := 39) (args := #[vs 9, vs 10]) rfl (wanted_by (g := 6) (b := true) (t := 55) rfl (by kernel_rfl) (congrArg some (show vs 6 = _ from hV6 rfl))) (by go_simp) ?_
      have HV9 : Hold (fun u' => (IntG [2]) u' (vs 9)) u := hV9 rfl
      obtain ⟨A6_9, n6_9, c6_9, eV9, -⟩ := HV9.now
      rw [eV9] at HV9
      have HV10 : Hold (fun u' => (IntG [6, 15]) u' (vs 10)) u := hV10 rfl
      obtain ⟨A6_10, n6_10, c6_10, eV10, -⟩ := HV10.now
      rw [eV10] at HV10
      rw [eV9, eV10]
      exact of10_u HV9.now HV10.now (by decide)
    · rintro vs u ⟨hV0, hV1, hV2, hV3, hV4, hV5, hV6, hV7, hV8, hV9, hV10, hV11, hV12, hV13, hV14, hV15, hV16, hV17, hV18, hV19, hV20, hV21, hV22, hV23, hV24, hV25, hV26, hV27, hV28, hV29, hV30, hV31, hV32, hV33, hV34, hV35, hV36, -⟩ G
      refine stepAt.call (f := 40) (args := #[vs 7, vs 8, vs 11]) rfl (wanted_by (g := 6) (b := true) (t := 55) rfl (by kernel_rfl) (congrArg some (show vs 6 = _ from hV6 rfl))) (by go_simp) ?_
      have eV7 : vs 7 = .agg #[.slice A2_2 n2_2 c2_2, .slice B2_2 m2_2 k2_2] := hV7 rfl
      have eV8 : vs 8 = .int .i64 0 := hV8 rfl
      have HV11 : Hold (fun u' => (Agg (QV [2] (ko [6, 15]) 6)) u' (vs 11)) u := hV11 rfl
      obtain ⟨A6_11, n6_11, c6_11, B6_11, m6_11, k6_11, eV11, -⟩ := HV11.now
      rw [eV11] at HV11
      rw [eV7, eV8, eV11]
      exact (is10_u (T2.at G) HV11.now.out (Lib.hid rfl) (by decide)).mono fun _ _ ⟨v, h1, h2, h3⟩ => ⟨v, h1, h2, h3.now⟩
    · rintro vs u ⟨hV0, hV1, hV2, hV3, hV4, hV5, hV6, hV7, hV8, hV9, hV10, hV11, hV12, hV13, hV14, hV15, hV16, hV17, hV18, hV19, hV20, hV21, hV22, hV23, hV24, hV25, hV26, hV27, hV28, hV29, hV30, hV31, hV32, hV33, hV34, hV35, hV36, -⟩ G
      have eV6 : vs 6 = .bool true := hV6 rfl
      have eV12 : vs 12 = .bool true := hV12 rfl
      exact stepAt.pure (v := .bool true) rfl rfl (by simp only [eV6, eV12]; go_simp) rfl
    · rintro vs u ⟨hV0, hV1, hV2, hV3, hV4, hV5, hV6, hV7, hV8, hV9, hV10, hV11, hV12, hV13, hV14, hV15, hV16, hV17, hV18, hV19, hV20, hV21, hV22, hV23, hV24, hV25, hV26, hV27, hV28, hV29, hV30, hV31, hV32, hV33, hV34, hV35, hV36, -⟩ G
      have eV13 : vs 13 = .bool true := hV13 rfl
      exact stepAt.pure (v := .bool true) rfl rfl (by simp only [eV13]; go_simp) rfl
    · rintro vs u ⟨hV0, hV1, hV2, hV3, hV4, hV5, hV6, hV7, hV8, hV9, hV10, hV11, hV12, hV13, hV14, hV15, hV16, hV17, hV18, hV19, hV20, hV21, hV22, hV23, hV24, hV25, hV26, hV27, hV28, hV29, hV30, hV31, hV32, hV33, hV34, hV35, hV36, -⟩ G
      have o0 := (z3.keep G).c0
      have o1 := (z3.keep G).c1
      exact stepAt.pure (v := .agg #[.slice A3_2 n3_2 c3_2, .slice B3_2 m3_2 k3_2]) rfl (wanted_by (g := 14) (b := true) (t := 63) rfl (by kernel_rfl) (congrArg some (show vs 14 = _ from hV14 rfl))) (by go_simp) rfl
    · rintro vs u ⟨hV0, hV1, hV2, hV3, hV4, hV5, hV6, hV7, hV8, hV9, hV10, hV11, hV12, hV13, hV14, hV15, hV16, hV17, hV18, hV19, hV20, hV21, hV22, hV23, hV24, hV25, hV26, hV27, hV28, hV29, hV30, hV31, hV32, hV33, hV34, hV35, hV36, -⟩ G
      exact stepAt.pure (v := .int .i64 0) rfl (wanted_by (g := 14) (b := true) (t := 63) rfl (by kernel_rfl) (congrArg some (show vs 14 = _ from hV14 rfl))) (by go_simp) rfl
    · rintro vs u ⟨hV0, hV1, hV2, hV3, hV4, hV5, hV6, hV7, hV8, hV9, hV10, hV11, hV12, hV13, hV14, hV15, hV16, hV17, hV18, hV19, hV20, hV21, hV22, hV23, hV24, hV25, hV26, hV27, hV28, hV29, hV30, hV31, hV32, hV33, hV34, hV35, hV36, -⟩ G
      exact stepAt.value (v := .slice (some ⟨u.heap.size, 0, none⟩) 1 1) (u := u.alloc (.cells #[.int .i64 21] 3)) rfl (wanted_by (g := 14) (b := true) (t := 63) rfl (by kernel_rfl) (congrArg some (show vs 14 = _ from hV14 rfl))) (by go_simp) ((Fr.refl _ _).alloc _) (ints_hold u 3 [21] _ rfl (by decide) (by decide))
    · rintro vs u ⟨hV0, hV1, hV2, hV3, hV4, hV5, hV6, hV7, hV8, hV9, hV10, hV11, hV12, hV13, hV14, hV15, hV16, hV17, hV18, hV19, hV20, hV21, hV22, hV23, hV24, hV25, hV26, hV27, hV28, hV29, hV30, hV31, hV32, hV33, hV34, hV35, hV36, -⟩ G
      refine stepAt.call (f := 39) (args := #[.slice none 0 0, vs 17]) rfl (wanted_by (g := 14) (b := true) (t := 63) rfl (by kernel_rfl) (congrArg some (show vs 14 = _ from hV14 rfl))) (by go_simp) ?_
      have HV17 : Hold (fun u' => (IntG [21]) u' (vs 17)) u := hV17 rfl
      obtain ⟨A6_17, n6_17, c6_17, eV17, -⟩ := HV17.now
      rw [eV17] at HV17
      rw [eV17]
      exact of10_n HV17.now (by decide)
    · rintro vs u ⟨hV0, hV1, hV2, hV3, hV4, hV5, hV6, hV7, hV8, hV9, hV10, hV11, hV12, hV13, hV14, hV15, hV16, hV17, hV18, hV19, hV20, hV21, hV22, hV23, hV24, hV25, hV26, hV27, hV28, hV29, hV30, hV31, hV32, hV33, hV34, hV35, hV36, -⟩ G
      refine stepAt.call (f := 40) (args := #[vs 15, vs 16, vs 18]) rfl (wanted_by (g := 14) (b := true) (t := 63) rfl (by kernel_rfl) (congrArg some (show vs 14 = _ from hV14 rfl))) (by go_simp) ?_
      have eV15 : vs 15 = .agg #[.slice A3_2 n3_2 c3_2, .slice B3_2 m3_2 k3_2] := hV15 rfl
      have eV16 : vs 16 = .int .i64 0 := hV16 rfl
      have HV18 : Hold (fun u' => (Agg (QV [] (ko [21]) 6)) u' (vs 18)) u := hV18 rfl
      obtain ⟨A6_18, n6_18, c6_18, B6_18, m6_18, k6_18, eV18, -⟩ := HV18.now
      rw [eV18] at HV18
      rw [eV15, eV16, eV18]
      exact (is10_u (T3.at G) HV18.now.out (Lib.hid rfl) (by decide)).mono fun _ _ ⟨v, h1, h2, h3⟩ => ⟨v, h1, h2, h3.now⟩
    · rintro vs u ⟨hV0, hV1, hV2, hV3, hV4, hV5, hV6, hV7, hV8, hV9, hV10, hV11, hV12, hV13, hV14, hV15, hV16, hV17, hV18, hV19, hV20, hV21, hV22, hV23, hV24, hV25, hV26, hV27, hV28, hV29, hV30, hV31, hV32, hV33, hV34, hV35, hV36, -⟩ G
      have eV14 : vs 14 = .bool true := hV14 rfl
      have eV19 : vs 19 = .bool true := hV19 rfl
      exact stepAt.pure (v := .bool true) rfl rfl (by simp only [eV14, eV19]; go_simp) rfl
    · rintro vs u ⟨hV0, hV1, hV2, hV3, hV4, hV5, hV6, hV7, hV8, hV9, hV10, hV11, hV12, hV13, hV14, hV15, hV16, hV17, hV18, hV19, hV20, hV21, hV22, hV23, hV24, hV25, hV26, hV27, hV28, hV29, hV30, hV31, hV32, hV33, hV34, hV35, hV36, -⟩ G
      have eV20 : vs 20 = .bool true := hV20 rfl
      exact stepAt.pure (v := .bool true) rfl rfl (by simp only [eV20]; go_simp) rfl
    · rintro vs u ⟨hV0, hV1, hV2, hV3, hV4, hV5, hV6, hV7, hV8, hV9, hV10, hV11, hV12, hV13, hV14, hV15, hV16, hV17, hV18, hV19, hV20, hV21, hV22, hV23, hV24, hV25, hV26, hV27, hV28, hV29, hV30, hV31, hV32, hV33, hV34, hV35, hV36, -⟩ G
      have o0 := (z4.keep G).c0
      have o1 := (z4.keep G).c1
      exact stepAt.pure (v := .agg #[.slice A4_2 n4_2 c4_2, .slice B4_2 m4_2 k4_2]) rfl (wanted_by (g := 21) (b := true) (t := 70) rfl (by kernel_rfl) (congrArg some (show vs 21 = _ from hV21 rfl))) (by go_simp) rfl
    · rintro vs u ⟨hV0, hV1, hV2, hV3, hV4, hV5, hV6, hV7, hV8, hV9, hV10, hV11, hV12, hV13, hV14, hV15, hV16, hV17, hV18, hV19, hV20, hV21, hV22, hV23, hV24, hV25, hV26, hV27, hV28, hV29, hV30, hV31, hV32, hV33, hV34, hV35, hV36, -⟩ G
      exact stepAt.pure (v := .int .i64 0) rfl (wanted_by (g := 21) (b := true) (t := 70) rfl (by kernel_rfl) (congrArg some (show vs 21 = _ from hV21 rfl))) (by go_simp) rfl
    · rintro vs u ⟨hV0, hV1, hV2, hV3, hV4, hV5, hV6, hV7, hV8, hV9, hV10, hV11, hV12, hV13, hV14, hV15, hV16, hV17, hV18, hV19, hV20, hV21, hV22, hV23, hV24, hV25, hV26, hV27, hV28, hV29, hV30, hV31, hV32, hV33, hV34, hV35, hV36, -⟩ G
      exact stepAt.value (v := .slice (some ⟨u.heap.size, 0, none⟩) 1 1) (u := u.alloc (.cells #[.int .i64 2] 3)) rfl (wanted_by (g := 21) (b := true) (t := 70) rfl (by kernel_rfl) (congrArg some (show vs 21 = _ from hV21 rfl))) (by go_simp) ((Fr.refl _ _).alloc _) (ints_hold u 3 [2] _ rfl (by decide) (by decide))
    · rintro vs u ⟨hV0, hV1, hV2, hV3, hV4, hV5, hV6, hV7, hV8, hV9, hV10, hV11, hV12, hV13, hV14, hV15, hV16, hV17, hV18, hV19, hV20, hV21, hV22, hV23, hV24, hV25, hV26, hV27, hV28, hV29, hV30, hV31, hV32, hV33, hV34, hV35, hV36, -⟩ G
      exact stepAt.value (v := .slice (some ⟨u.heap.size, 0, none⟩) 2 2) (u := u.alloc (.cells #[.int .i64 2, .int .i64 5] 3)) rfl (wanted_by (g := 21) (b := true) (t := 70) rfl (by kernel_rfl) (congrArg some (show vs 21 = _ from hV21 rfl))) (by go_simp) ((Fr.refl _ _).alloc _) (ints_hold u 3 [2, 5] _ rfl (by decide) (by decide))
    · rintro vs u ⟨hV0, hV1, hV2, hV3, hV4, hV5, hV6, hV7, hV8, hV9, hV10, hV11, hV12, hV13, hV14, hV15, hV16, hV17, hV18, hV19, hV20, hV21, hV22, hV23, hV24, hV25, hV26, hV27, hV28, hV29, hV30, hV31, hV32, hV33, hV34, hV35, hV36, -⟩ G
      refine stepAt.call (f := 39) (args := #[vs 24, vs 25]) rfl (wanted_by (g := 21) (b := true) (t := 70) rfl (by kernel_rfl) (congrArg some (show vs 21 = _ from hV21 rfl))) (by go_simp) ?_
      have HV24 : Hold (fun u' => (IntG [2]) u' (vs 24)) u := hV24 rfl
      obtain ⟨A6_24, n6_24, c6_24, eV24, -⟩ := HV24.now
      rw [eV24] at HV24
      have HV25 : Hold (fun u' => (IntG [2, 5]) u' (vs 25)) u := hV25 rfl
      obtain ⟨A6_25, n6_25, c6_25, eV25, -⟩ := HV25.now
      rw [eV25] at HV25
      rw [eV24, eV25]
      exact of10_u HV24.now HV25.now (by decide)
    · rintro vs u ⟨hV0, hV1, hV2, hV3, hV4, hV5, hV6, hV7, hV8, hV9, hV10, hV11, hV12, hV13, hV14, hV15, hV16, hV17, hV18, hV19, hV20, hV21, hV22, hV23, hV24, hV25, hV26, hV27, hV28, hV29, hV30, hV31, hV32, hV33, hV34, hV35, hV36, -⟩ G
      refine stepAt.call (f := 40) (args := #[vs 22, vs 23, vs 26]) rfl (wanted_by (g := 21) (b := true) (t := 70) rfl (by kernel_rfl) (congrArg some (show vs 21 = _ from hV21 rfl))) (by go_simp) ?_
      have eV22 : vs 22 = .agg #[.slice A4_2 n4_2 c4_2, .slice B4_2 m4_2 k4_2] := hV22 rfl
      have eV23 : vs 23 = .int .i64 0 := hV23 rfl
      have HV26 : Hold (fun u' => (Agg (QV [2] (ko [2, 5]) 6)) u' (vs 26)) u := hV26 rfl
      obtain ⟨A6_26, n6_26, c6_26, B6_26, m6_26, k6_26, eV26, -⟩ := HV26.now
      rw [eV26] at HV26
      rw [eV22, eV23, eV26]
      exact (is10_u (T4.at G) HV26.now.out (Lib.hid rfl) (by decide)).mono fun _ _ ⟨v, h1, h2, h3⟩ => ⟨v, h1, h2, h3.now⟩
    · rintro vs u ⟨hV0, hV1, hV2, hV3, hV4, hV5, hV6, hV7, hV8, hV9, hV10, hV11, hV12, hV13, hV14, hV15, hV16, hV17, hV18, hV19, hV20, hV21, hV22, hV23, hV24, hV25, hV26, hV27, hV28, hV29, hV30, hV31, hV32, hV33, hV34, hV35, hV36, -⟩ G
      have eV21 : vs 21 = .bool true := hV21 rfl
      have eV27 : vs 27 = .bool true := hV27 rfl
      exact stepAt.pure (v := .bool true) rfl rfl (by simp only [eV21, eV27]; go_simp) rfl
    · rintro vs u ⟨hV0, hV1, hV2, hV3, hV4, hV5, hV6, hV7, hV8, hV9, hV10, hV11, hV12, hV13, hV14, hV15, hV16, hV17, hV18, hV19, hV20, hV21, hV22, hV23, hV24, hV25, hV26, hV27, hV28, hV29, hV30, hV31, hV32, hV33, hV34, hV35, hV36, -⟩ G
      have eV28 : vs 28 = .bool true := hV28 rfl
      exact stepAt.pure (v := .bool true) rfl rfl (by simp only [eV28]; go_simp) rfl
    · rintro vs u ⟨hV0, hV1, hV2, hV3, hV4, hV5, hV6, hV7, hV8, hV9, hV10, hV11, hV12, hV13, hV14, hV15, hV16, hV17, hV18, hV19, hV20, hV21, hV22, hV23, hV24, hV25, hV26, hV27, hV28, hV29, hV30, hV31, hV32, hV33, hV34, hV35, hV36, -⟩ G
      have o0 := (z5.keep G).c0
      have o1 := (z5.keep G).c1
      exact stepAt.pure (v := .agg #[.slice A5_5 n5_5 c5_5, .slice B5_5 m5_5 k5_5]) rfl (wanted_by (g := 29) (b := true) (t := 78) rfl (by kernel_rfl) (congrArg some (show vs 29 = _ from hV29 rfl))) (by go_simp) rfl
    · rintro vs u ⟨hV0, hV1, hV2, hV3, hV4, hV5, hV6, hV7, hV8, hV9, hV10, hV11, hV12, hV13, hV14, hV15, hV16, hV17, hV18, hV19, hV20, hV21, hV22, hV23, hV24, hV25, hV26, hV27, hV28, hV29, hV30, hV31, hV32, hV33, hV34, hV35, hV36, -⟩ G
      exact stepAt.pure (v := .int .i64 0) rfl (wanted_by (g := 29) (b := true) (t := 78) rfl (by kernel_rfl) (congrArg some (show vs 29 = _ from hV29 rfl))) (by go_simp) rfl
    · rintro vs u ⟨hV0, hV1, hV2, hV3, hV4, hV5, hV6, hV7, hV8, hV9, hV10, hV11, hV12, hV13, hV14, hV15, hV16, hV17, hV18, hV19, hV20, hV21, hV22, hV23, hV24, hV25, hV26, hV27, hV28, hV29, hV30, hV31, hV32, hV33, hV34, hV35, hV36, -⟩ G
      exact stepAt.value (v := .slice (some ⟨u.heap.size, 0, none⟩) 2 2) (u := u.alloc (.cells #[.int .i64 2, .int .i64 1] 3)) rfl (wanted_by (g := 29) (b := true) (t := 78) rfl (by kernel_rfl) (congrArg some (show vs 29 = _ from hV29 rfl))) (by go_simp) ((Fr.refl _ _).alloc _) (ints_hold u 3 [2, 1] _ rfl (by decide) (by decide))
    · rintro vs u ⟨hV0, hV1, hV2, hV3, hV4, hV5, hV6, hV7, hV8, hV9, hV10, hV11, hV12, hV13, hV14, hV15, hV16, hV17, hV18, hV19, hV20, hV21, hV22, hV23, hV24, hV25, hV26, hV27, hV28, hV29, hV30, hV31, hV32, hV33, hV34, hV35, hV36, -⟩ G
      exact stepAt.value (v := .slice (some ⟨u.heap.size, 0, none⟩) 2 2) (u := u.alloc (.cells #[.int .i64 7, .int .i64 16] 3)) rfl (wanted_by (g := 29) (b := true) (t := 78) rfl (by kernel_rfl) (congrArg some (show vs 29 = _ from hV29 rfl))) (by go_simp) ((Fr.refl _ _).alloc _) (ints_hold u 3 [7, 16] _ rfl (by decide) (by decide))
    · rintro vs u ⟨hV0, hV1, hV2, hV3, hV4, hV5, hV6, hV7, hV8, hV9, hV10, hV11, hV12, hV13, hV14, hV15, hV16, hV17, hV18, hV19, hV20, hV21, hV22, hV23, hV24, hV25, hV26, hV27, hV28, hV29, hV30, hV31, hV32, hV33, hV34, hV35, hV36, -⟩ G
      refine stepAt.call (f := 39) (args := #[vs 32, vs 33]) rfl (wanted_by (g := 29) (b := true) (t := 78) rfl (by kernel_rfl) (congrArg some (show vs 29 = _ from hV29 rfl))) (by go_simp) ?_
      have HV32 : Hold (fun u' => (IntG [2, 1]) u' (vs 32)) u := hV32 rfl
      obtain ⟨A6_32, n6_32, c6_32, eV32, -⟩ := HV32.now
      rw [eV32] at HV32
      have HV33 : Hold (fun u' => (IntG [7, 16]) u' (vs 33)) u := hV33 rfl
      obtain ⟨A6_33, n6_33, c6_33, eV33, -⟩ := HV33.now
      rw [eV33] at HV33
      rw [eV32, eV33]
      exact of10_u HV32.now HV33.now (by decide)
    · rintro vs u ⟨hV0, hV1, hV2, hV3, hV4, hV5, hV6, hV7, hV8, hV9, hV10, hV11, hV12, hV13, hV14, hV15, hV16, hV17, hV18, hV19, hV20, hV21, hV22, hV23, hV24, hV25, hV26, hV27, hV28, hV29, hV30, hV31, hV32, hV33, hV34, hV35, hV36, -⟩ G
      refine stepAt.call (f := 40) (args := #[vs 30, vs 31, vs 34]) rfl (wanted_by (g := 29) (b := true) (t := 78) rfl (by kernel_rfl) (congrArg some (show vs 29 = _ from hV29 rfl))) (by go_simp) ?_
      have eV30 : vs 30 = .agg #[.slice A5_5 n5_5 c5_5, .slice B5_5 m5_5 k5_5] := hV30 rfl
      have eV31 : vs 31 = .int .i64 0 := hV31 rfl
      have HV34 : Hold (fun u' => (Agg (QV [2, 1] (ko [7, 16]) 6)) u' (vs 34)) u := hV34 rfl
      obtain ⟨A6_34, n6_34, c6_34, B6_34, m6_34, k6_34, eV34, -⟩ := HV34.now
      rw [eV34] at HV34
      rw [eV30, eV31, eV34]
      exact (is10_u (T5.at G) HV34.now.out (Lib.hid rfl) (by decide)).mono fun _ _ ⟨v, h1, h2, h3⟩ => ⟨v, h1, h2, h3.now⟩
    · rintro vs u ⟨hV0, hV1, hV2, hV3, hV4, hV5, hV6, hV7, hV8, hV9, hV10, hV11, hV12, hV13, hV14, hV15, hV16, hV17, hV18, hV19, hV20, hV21, hV22, hV23, hV24, hV25, hV26, hV27, hV28, hV29, hV30, hV31, hV32, hV33, hV34, hV35, hV36, -⟩ G
      have eV29 : vs 29 = .bool true := hV29 rfl
      have eV35 : vs 35 = .bool true := hV35 rfl
      exact stepAt.pure (v := .bool true) rfl rfl (by simp only [eV29, eV35]; go_simp) rfl
  case looses6 =>
    exact trivial
  rintro vs U6 ⟨hV0, hV1, hV2, hV3, hV4, hV5, hV6, hV7, hV8, hV9, hV10, hV11, hV12, hV13, hV14, hV15, hV16, hV17, hV18, hV19, hV20, hV21, hV22, hV23, hV24, hV25, hV26, hV27, hV28, hV29, hV30, hV31, hV32, hV33, hV34, hV35, hV36, -⟩ G
  have eV0 : vs 0 = .agg #[.slice A1_2 n1_2 c1_2, .slice B1_2 m1_2 k1_2] := hV0
  have eV1 : vs 1 = .int .i64 0 := hV1
  replace hV2 : Hold (fun u' => (IntG [3]) u' (vs 2)) U6 := hV2
  obtain ⟨A6_2, n6_2, c6_2, eV2, -⟩ := hV2.now
  rw [eV2] at hV2
  replace hV3 : Hold (fun u' => (IntG [5, 7, 9]) u' (vs 3)) U6 := hV3
  obtain ⟨A6_3, n6_3, c6_3, eV3, -⟩ := hV3.now
  rw [eV3] at hV3
  replace hV4 : Hold (fun u' => (Agg (QV [3] (ko [5, 7, 9]) 6)) u' (vs 4)) U6 := hV4
  obtain ⟨A6_4, n6_4, c6_4, B6_4, m6_4, k6_4, eV4, -⟩ := hV4.now
  rw [eV4] at hV4
  have eV5 : vs 5 = .bool true := hV5
  have eV6 : vs 6 = .bool true := hV6
  have eV7 : vs 7 = .agg #[.slice A2_2 n2_2 c2_2, .slice B2_2 m2_2 k2_2] := hV7
  have eV8 : vs 8 = .int .i64 0 := hV8
  replace hV9 : Hold (fun u' => (IntG [2]) u' (vs 9)) U6 := hV9
  obtain ⟨A6_9, n6_9, c6_9, eV9, -⟩ := hV9.now
  rw [eV9] at hV9
  replace hV10 : Hold (fun u' => (IntG [6, 15]) u' (vs 10)) U6 := hV10
  obtain ⟨A6_10, n6_10, c6_10, eV10, -⟩ := hV10.now
  rw [eV10] at hV10
  replace hV11 : Hold (fun u' => (Agg (QV [2] (ko [6, 15]) 6)) u' (vs 11)) U6 := hV11
  obtain ⟨A6_11, n6_11, c6_11, B6_11, m6_11, k6_11, eV11, -⟩ := hV11.now
  rw [eV11] at hV11
  have eV12 : vs 12 = .bool true := hV12
  have eV13 : vs 13 = .bool true := hV13
  have eV14 : vs 14 = .bool true := hV14
  have eV15 : vs 15 = .agg #[.slice A3_2 n3_2 c3_2, .slice B3_2 m3_2 k3_2] := hV15
  have eV16 : vs 16 = .int .i64 0 := hV16
  replace hV17 : Hold (fun u' => (IntG [21]) u' (vs 17)) U6 := hV17
  obtain ⟨A6_17, n6_17, c6_17, eV17, -⟩ := hV17.now
  rw [eV17] at hV17
  replace hV18 : Hold (fun u' => (Agg (QV [] (ko [21]) 6)) u' (vs 18)) U6 := hV18
  obtain ⟨A6_18, n6_18, c6_18, B6_18, m6_18, k6_18, eV18, -⟩ := hV18.now
  rw [eV18] at hV18
  have eV19 : vs 19 = .bool true := hV19
  have eV20 : vs 20 = .bool true := hV20
  have eV21 : vs 21 = .bool true := hV21
  have eV22 : vs 22 = .agg #[.slice A4_2 n4_2 c4_2, .slice B4_2 m4_2 k4_2] := hV22
  have eV23 : vs 23 = .int .i64 0 := hV23
  replace hV24 : Hold (fun u' => (IntG [2]) u' (vs 24)) U6 := hV24
  obtain ⟨A6_24, n6_24, c6_24, eV24, -⟩ := hV24.now
  rw [eV24] at hV24
  replace hV25 : Hold (fun u' => (IntG [2, 5]) u' (vs 25)) U6 := hV25
  obtain ⟨A6_25, n6_25, c6_25, eV25, -⟩ := hV25.now
  rw [eV25] at hV25
  replace hV26 : Hold (fun u' => (Agg (QV [2] (ko [2, 5]) 6)) u' (vs 26)) U6 := hV26
  obtain ⟨A6_26, n6_26, c6_26, B6_26, m6_26, k6_26, eV26, -⟩ := hV26.now
  rw [eV26] at hV26
  have eV27 : vs 27 = .bool true := hV27
  have eV28 : vs 28 = .bool true := hV28
  have eV29 : vs 29 = .bool true := hV29
  have eV30 : vs 30 = .agg #[.slice A5_5 n5_5 c5_5, .slice B5_5 m5_5 k5_5] := hV30
  have eV31 : vs 31 = .int .i64 0 := hV31
  replace hV32 : Hold (fun u' => (IntG [2, 1]) u' (vs 32)) U6 := hV32
  obtain ⟨A6_32, n6_32, c6_32, eV32, -⟩ := hV32.now
  rw [eV32] at hV32
  replace hV33 : Hold (fun u' => (IntG [7, 16]) u' (vs 33)) U6 := hV33
  obtain ⟨A6_33, n6_33, c6_33, eV33, -⟩ := hV33.now
  rw [eV33] at hV33
  replace hV34 : Hold (fun u' => (Agg (QV [2, 1] (ko [7, 16]) 6)) u' (vs 34)) U6 := hV34
  obtain ⟨A6_34, n6_34, c6_34, B6_34, m6_34, k6_34, eV34, -⟩ := hV34.now
  rw [eV34] at hV34
  have eV35 : vs 35 = .bool true := hV35
  have eV36 : vs 36 = .bool true := hV36
  simp only [eV0, eV1, eV2, eV3, eV4, eV5, eV6, eV7, eV8, eV9, eV10, eV11, eV12, eV13, eV14, eV15, eV16, eV17, eV18, eV19, eV20, eV21, eV22, eV23, eV24, eV25, eV26, eV27, eV28, eV29, eV30, eV31, eV32, eV33, eV34, eV35, eV36]
  clear eV0 eV1 eV2 eV3 eV4 eV5 eV6 eV7 eV8 eV9 eV10 eV11 eV12 eV13 eV14 eV15 eV16 eV17 eV18 eV19 eV20 eV21 eV22 eV23 eV24 eV25 eV26 eV27 eV28 eV29 eV30 eV31 eV32 eV33 eV34 eV35 eV36 hV0 hV1 hV5 hV6 hV7 hV8 hV12 hV13 hV14 hV15 hV16 hV19 hV20 hV21 hV22 hV23 hV27 hV28 hV29 hV30 hV31 hV35 hV36
  refine wpTill.next 37 rfl (by kernel_rfl) (by rfl) (fun K hK => ?_)
  go_simp
  refine hK _ _ (no_wait (by kernel_rfl)) ?_
  clear hK K
  refine wpTill.done (by kernel_rfl) ?_
  replace xa := xa.keep G
  replace z1 := z1.keep G
  replace z2 := z2.keep G
  replace z3 := z3.keep G
  replace z4 := z4.keep G
  replace z5 := z5.keep G
  replace HX := HX.keep G
  replace T1 := T1.keep G
  replace T2 := T2.keep G
  replace T3 := T3.keep G
  replace T4 := T4.keep G
  replace T5 := T5.keep G
  replace F := fr_then F G
  clear G
  repeat' ((fail_if_success (with_reducible refine wpTill.row (fun _ => True) 0 ?_ ?_)); go_step)
  go_ret
  exact ⟨rfl, F⟩
end Go.Proofs.YtlppcfeimpcbjaaGreat


/- What layer 10's laws are proved with: told, the sizes behind few, the document's product. -/
namespace Go.Proofs.YtlppcfeimpcbjaaGreat
open Go.RowKit

section
variable {w : World} {sha shb sh' : List Int} {ea eb : List RatL} {qa qb qs : List Rat} {a b c d : Value} {L K M : Nat} {r : Int}
theorem told10_u (h : TC r sha ea w a b) (g : QC r shb qb K w c d) (hc : (∃ A n k, c = .slice A n k) ∧ ∃ A n k, d = .slice A n k) (he : Hid (r = 0 → sha = shb ∧ ea = qb.map canR)) (hL : K ≤ 1099511620) : Calls Tryz.prog 16 #[.agg #[a, b], .int .i64 r, .agg #[c, d], .int .i64 r] w (Ret w fun _ v => v = .bool true) := by
  by_cases h0 : r = 0
  · subst h0
    obtain ⟨rfl, rfl⟩ := he.out rfl
    exact (told10_yes w c d a b sha qb K K (g rfl).1 (g rfl).2 (h.2 rfl).1 (h.2 rfl).2 (Rk_len (g rfl).2) hL).mono fun _ _ h => Ret.eq h.1 h.2
  · obtain ⟨rfl, rfl⟩ := h.1 h0
    obtain ⟨⟨A, n, k, rfl⟩, ⟨B, m, l, rfl⟩⟩ := hc
    exact (told10_no w r h0 A B n k m l).mono fun _ _ h => Ret.eq h.1 h.2
theorem told10_e (h : TC r sha ea w a b) (h0 : Hid (r ≠ 0)) : Calls Tryz.prog 16 #[.agg #[a, b], .int .i64 r, .agg #[.slice none 0 0, .slice none 0 0], .int .i64 r] w (Ret w fun _ v => v = .bool true) :=
  told10_u (qb := []) (shb := []) (K := 0) h (fun e => absurd e h0.out) ⟨⟨_, _, _, rfl⟩, ⟨_, _, _, rfl⟩⟩ (Lib.hid fun e => absurd e h0.out) (by decide)
theorem few10_u {bb : Bool} (h : TV sha ea w a b) (hb : Hid (few10B ea = bb)) : Calls Tryz.prog 11 #[.agg #[a, b]] w (Ret w fun _ v => v = .bool bb) :=
  (few10_t (S := fun _ => True) w a b ea bb hb h.1.form h.2).mono fun _ _ h => Ret.eq h.1 h.2
theorem fit3 (f : Fit sha ea L) (h : few10B ea = true) : Fit sha ea 3 ∧ ea.length ≤ 64 := by
  have h2 := of_decide_eq_true h
  exact ⟨⟨f.nsh, f.nes, h2.2, by decide, by decide, f.lt⟩, h2.1⟩
end
theorem lens_db {M N : Nat} {q : Rat} (h : Lens M q) (hl : 3 * M ≤ N) : (dg DB q.num.natAbs).length ≤ N ∧ (dg DB q.den).length ≤ N := ⟨Nat.le_trans (db_len h.1) hl, Nat.le_trans (db_len h.2) hl⟩
section
variable {w : World} {sha : List Int} {ea : List RatL} {a b : Value} {L : Nat} {r : Int}
end
end Go.Proofs.YtlppcfeimpcbjaaGreat

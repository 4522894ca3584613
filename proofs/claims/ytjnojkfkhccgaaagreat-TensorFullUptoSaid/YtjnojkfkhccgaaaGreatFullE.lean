import Derived.Test.YtjnojkfkhccgaaaGreatFullD
import Derived.Test.YtjnojkfkhccgaaaGreatFacts
import Derived.Test.YtjnojkfkhccgaaaGreatTenW

/- TensorFull. -/
namespace Go.Proofs.YtjnojkfkhccgaaaGreat
open Go.RowKit

theorem canR_norm (x : RatL) : normR x = canR (qOf x) := rfl
/-- A slice of one rational, just built. -/
theorem one_rk {u : World} {A B : Option Addr} {n c m k L : Nat} {s : Bool} {q : Rat} {t : TypeId} (hs : s = sg q) (hr : RR (fun _ => True) u (.slice A n c) (.slice B m k) q L) : Sl (Rk L) (fun _ => True) (u.alloc (.cells #[.bool s, .slice A n c, .slice B m k] t)) (.slice (some ⟨u.heap.size, 0, none⟩) 1 1) [q] := by
  have F := (Fr.refl (fun k => k < u.heap.size) u).alloc (.cells #[.bool s, .slice A n c, .slice B m k] t)
  have hb := Box3.new u t (.bool s) (.slice A n c) (.slice B m k)
  refine ⟨some ⟨u.heap.size, 0, none⟩, 1, rfl, Nat.le_refl _, by omega, fun h => by simp at h, fun _ => ⟨_, rfl, trivial, fun i x hx => ?_⟩⟩
  have hi : i = 0 := by have := (List.getElem?_eq_some_iff.1 hx).1; simp at this; exact this
  subst hi
  simp at hx
  subst hx
  refine ⟨[.bool s, .slice A n c, .slice B m k], ⟨_, _, by rw [hs], hr.keep F⟩, fun j v hj => ?_⟩
  rcases j with _ | _ | _ | j
  · simp at hj; subst hj; exact hb.c0
  · simp at hj; subst hj; exact hb.c1
  · simp at hj; subst hj; exact hb.c2
  · simp at hj
/-- A list of rationals of the document. -/
def RefL (qs : List Rat) (L : Nat) (u : World) (v : Value) : Prop := ∃ A n c, v = .slice A n c ∧ Sl (Rk L) (fun _ => True) u (.slice A n c) qs
theorem RefL.keep {qs : List Rat} {L : Nat} {v : Value} {u u' : World} (hf : Fr (fun k => k < u.heap.size) u u') (h : RefL qs L u v) : RefL qs L u' v := by
  obtain ⟨A, n, c, e, h1⟩ := h
  exact ⟨A, n, c, e, h1.keep' (Rk_pos L) hf⟩

set_option maxRecDepth 20000 in
set_option maxHeartbeats 32000000 in
theorem tfull_walk {S : Nat → Prop} {sh shb : List Int} {eb : List RatL} {sx : Bool} {xs ys : List Nat} (w : World) (vs0 vx vt : Value) (L : Nat) (hs : Sl Im S w vs0 sh) (hsl : sh.length ≤ L) (hx : RL S w vx sx xs ys L) (ht : TL S w vt shb eb L) (hL : L ≤ 1048576) :
    Calls Tryz.prog 6 #[vs0, vx, vt] w fun e w' => e = .returned (.bool true) ∧ Fr (fun k => k < w.heap.size) w w' := by
  obtain ⟨P, n1, c1, Q, n2, c2, rfl, hkx, hky, lkx, lky⟩ := hx.open
  obtain ⟨vs1, ve1, rfl, hs1, he1⟩ := ht.ex
  have lb := ht.ls
  have leb := ht.le
  have HLB := Lib.hid (show ∀ x ∈ eb, x.2.1.length ≤ 1099511627000 ∧ x.2.2.length ≤ 1099511627000 from fun x hx => by have := ht.lx x hx; omega)
  have okx := Kd.nat_all hkx
  have oky := Kd.nat_all hky
  have hl1 : 1 ≤ L + 1 := by omega
  have hl2 : L + 1 ≤ 104857600 := by omega
  have HQL := Lib.hid (qOf_len (x := (sx, xs, ys)) ⟨okx, oky⟩ (show xs.length ≤ L + 1 by omega) (show ys.length ≤ L + 1 by omega) hl1)
  obtain ⟨A, c, rfl, _, _, hlx⟩ := hs.slice
  obtain ⟨B, d, rfl, _, _, _⟩ := hs1.slice
  obtain ⟨B', d', rfl, _, _, hleb⟩ := he1.slice
  obtain ⟨r, hr⟩ : ∃ r, mayS sh = r := ⟨_, rfl⟩
  obtain ⟨q, hq⟩ : ∃ q, qOf (sx, xs, ys) = q := ⟨_, rfl⟩
  rw [hq] at HQL
  have HR := Lib.hid hr
  have HQ := Lib.hid hq
  have HS := Lib.hid (hs.low Im_pos)
  have HX := Lib.hid (hkx.low Lm_pos)
  have HY := Lib.hid (hky.low Lm_pos)
  have HSB := Lib.hid (hs1.low Im_pos)
  have HEB := Lib.hid (he1.low Rm_pos)
  clear hs hx ht hs1 he1 hr hq hkx hky okx oky
  have F := ((Fr.refl (fun k => k < w.heap.size) w).alloc (.cells #[.bool sx, .slice P n1 c1, .slice Q n2 c2] 43)).alloc (.cells #[.slice B shb.length d, .slice B' eb.length d'] 26)
  have x0 := (Box3.new w 43 (.bool sx) (.slice P n1 c1) (.slice Q n2 c2)).alloc (.cells #[.slice B shb.length d, .slice B' eb.length d'] 26)
  have x1 := Box2.new (w.alloc (.cells #[.bool sx, .slice P n1 c1, .slice Q n2 c2] 43)) 26 (.slice B shb.length d) (.slice B' eb.length d')
  simp only [World.size_alloc] at x1
  go_enter Tryz.func6, Tryz.ntmps6
  go_wp2_with fail
  generalize hW0 : (w.alloc (.cells #[.bool sx, .slice P n1 c1, .slice Q n2 c2] 43)).alloc (.cells #[.slice B shb.length d, .slice B' eb.length d'] 26) = W0 at F x0 x1 ⊢
  have hsz : W0.drew.heap.size = w.heap.size + 2 := by
    rw [← hW0]
    show ((w.alloc _).alloc _).heap.size = _
    simp
  clear hW0
  have DR := fun R => (Fr.refl R W0).drew
  replace x0 := x0.keep (DR _)
  replace x1 := x1.keep (DR _)
  replace F := F.drew
  clear DR
  have KS : ∀ u, Fr (fun k => k < W0.drew.heap.size) W0.drew u → u.cell? ⟨w.heap.size, 0, none⟩ = some (.bool sx) ∧ u.cell? ⟨w.heap.size, 1, none⟩ = some (.slice P n1 c1) ∧ u.cell? ⟨w.heap.size, 2, none⟩ = some (.slice Q n2 c2) ∧ u.cell? ⟨w.heap.size + 1, 0, none⟩ = some (.slice B shb.length d) ∧ u.cell? ⟨w.heap.size + 1, 1, none⟩ = some (.slice B' eb.length d') := fun u h => ⟨(x0.keep h).c0, (x0.keep h).c1, (x0.keep h).c2, (x1.keep h).c0, (x1.keep h).c1⟩
  have S0 := KS _ (Fr.refl _ _)
  refine wpTill.begin (fun u => u.cell? ⟨w.heap.size, 0, none⟩ = some (.bool sx) ∧ u.cell? ⟨w.heap.size, 1, none⟩ = some (.slice P n1 c1) ∧ u.cell? ⟨w.heap.size, 2, none⟩ = some (.slice Q n2 c2) ∧ u.cell? ⟨w.heap.size + 1, 0, none⟩ = some (.slice B shb.length d) ∧ u.cell? ⟨w.heap.size + 1, 1, none⟩ = some (.slice B' eb.length d')) 9 (by kernel_rfl) ?_
  change wpTill _ _ _ _ _ _ 11 _ _ _
  refine wpTill.take 0 (.slice A sh.length c) rfl (by kernel_rfl) (by kernel_rfl) (fun _ _ _ h => h) (S0) (by rfl) (fun u hu => by go_simp) ?_
  try simp only [Act.put, List.getElem_toArray, List.getElem_cons_zero, List.getElem_cons_succ, List.setIfInBounds_toArray, List.set_cons_zero, List.set_cons_succ]
  refine wpTill.take 2 (.agg #[.bool sx, .slice P n1 c1, .slice Q n2 c2]) rfl (by kernel_rfl) (by kernel_rfl) (fun _ _ _ h => h) (S0) (by rfl) (fun u hu => by go_simp) ?_
  try simp only [Act.put, List.getElem_toArray, List.getElem_cons_zero, List.getElem_cons_succ, List.setIfInBounds_toArray, List.set_cons_zero, List.set_cons_succ]
  refine wpTill.free (jj := 9) (m := 2) [(1, Fact.mem (IntG sh) IntG.keep),
      (3, Fact.mem (LimR (sx, xs, ys)) LimR.keep),
      (4, Fact.mem (TenE r sh (List.replicate (cntS sh).toNat (normR (sx, xs, ys)))) TenE.keep),
      (5, Fact.same 4),
      (6, Fact.fst 5),
      (8, Fact.mem (New2 W0.drew.heap.size 26 (.slice none 0 0) (.slice none 0 0)) New2.keep)] [(7, Fact.snd 5)] [0, 1, 0, 7, 15, 31, 63, 63, 0, 383, 1023] [0, 2] ?_ (by kernel_rfl) (by kernel_rfl) (by kernel_rfl) [(1, some 14), (3, some 16), (4, some 17), (5, some 12), (6, some 18), (8, some 7), (7, some 19)] (by kernel_rfl) ?hA ?hQ KS (by kernel_rfl) ?steps ?looses ?cont
  case hQ => exact fun _ _ _ _ _ h => h
  case hA =>
    intro vs
    simp only [fillD, List.foldl_cons, List.foldl_nil, Act.put, List.setIfInBounds_toArray, List.set_cons_zero, List.set_cons_succ]
    exact rfl
  case steps =>
    refine ⟨?_, ?_, ?_, ?_, ?_, ?_, trivial⟩
    · rintro vs u ⟨h1, h3, h4, h5, h6, h8, h7, -⟩ G
      exact stepAt.append imT Tryz.underlying23 rfl rfl rfl rfl rfl (HS.out.fr (fr_then F G)) (by omega) (fun v u h => h)
    · rintro vs u ⟨h1, h3, h4, h5, h6, h8, h7, -⟩ G
      refine stepAt.call (f := 26) (args := #[.agg #[.bool sx, .slice P n1 c1, .slice Q n2 c2]]) rfl rfl (by go_simp) ?_
      refine (rown_l u sx (.slice P n1 c1) (.slice Q n2 c2) xs ys (HX.out.fr (fr_then F G)) (HY.out.fr (fr_then F G)) (by omega) (by omega)).mono ?_
      rintro e u' ⟨v1, v2, rfl, ho, hf⟩
      obtain ⟨P', i', j', rfl⟩ := ho.num.form
      obtain ⟨Q', k', l', rfl⟩ := ho.den.form
      exact ⟨_, rfl, hf, _, _, _, _, _, _, rfl, ho.num.sl.any, ho.den.sl.any⟩
    · rintro vs u ⟨h1, h3, h4, h5, h6, h8, h7, -⟩ G
      refine stepAt.call (f := 25) (args := #[vs 1, vs 3]) rfl rfl (by go_simp) ?_
      obtain ⟨A1, m1, k1, e1, o1⟩ := h1 rfl
      obtain ⟨P3, i3, j3, Q3, k3, l3, e3, o3, p3⟩ := h3 rfl
      replace e1 : vs 1 = _ := e1
      replace e3 : vs 3 = .agg #[.bool sx, .slice P3 i3 j3, .slice Q3 k3 l3] := e3
      rw [e1, e3]
      have p := full_t u (.slice A1 m1 k1) (.slice P3 i3 j3) (.slice Q3 k3 l3) sh (sx, xs, ys) (L + 1) o1 o3 p3 ⟨show xs.length ≤ L + 1 by omega, show ys.length ≤ L + 1 by omega⟩ hl1 hl2 (by omega)
      rw [HR.out] at p
      refine p.mono ?_
      rintro e u' ⟨v1, v2, rfl, hno, hyes, hf⟩
      have form : (∃ A n c, v1 = Value.slice A n c) ∧ ∃ A n c, v2 = Value.slice A n c := by
        by_cases h : r = 0
        · exact ⟨(hyes h).1.form, (hyes h).2.form⟩
        · exact ⟨⟨_, _, _, (hno h).1⟩, ⟨_, _, _, (hno h).2⟩⟩
      obtain ⟨⟨A5, m5, k5, rfl⟩, ⟨B5, n5, l5, rfl⟩⟩ := form
      exact ⟨_, rfl, hf, _, _, _, _, _, _, rfl, hno, fun h => ⟨(hyes h).1.sl.any, (hyes h).2.sl.any⟩⟩
    · rintro vs u ⟨h1, h3, h4, h5, h6, h8, h7, -⟩ G
      exact stepAt.pure (v := vs 4) rfl rfl (by go_simp) rfl
    · rintro vs u ⟨h1, h3, h4, h5, h6, h8, h7, -⟩ G
      obtain ⟨A4, n4, c4, B4, m4, k4, e4, -⟩ := h4 rfl
      have e5 : vs 5 = vs 4 := h5 rfl
      have e45 := e5.trans e4
      exact stepAt.pure (v := .agg #[.slice A4 n4 c4, .slice B4 m4 k4]) rfl rfl (by simp only [e45]; go_simp) ⟨_, _, e45, rfl⟩
    · rintro vs u ⟨h1, h3, h4, h5, h6, h8, h7, -⟩ G
      exact stepAt.value (v := .pointer (some ⟨u.heap.size, 0, none⟩)) (u := u.alloc (.cells #[.slice none 0 0, .slice none 0 0] 26)) rfl rfl (by go_simp) ((Fr.refl _ _).alloc _) ⟨_, rfl, G.size, Box2.new _ _ _ _⟩
  case looses =>
    refine ⟨?_, trivial⟩
    · rintro vs u ⟨h1, h3, h4, h5, h6, h8, h7, -⟩ G
      obtain ⟨A4, n4, c4, B4, m4, k4, e4, -⟩ := h4 rfl
      have e5 : vs 5 = vs 4 := h5 rfl
      have e45 := e5.trans e4
      exact pureAt.of (v := .int .i64 r) rfl rfl (fun _ => by simp only [e45]; go_simp) ⟨_, _, e45, rfl⟩
  case cont =>
    rintro vs u ⟨h1, h3, h4, h5, h6, h8, h7, -⟩ G
    obtain ⟨A4, n4, c4, B4, m4, k4, e4, nil4, yes4⟩ := h4
    have e5 : vs 5 = _ := (show vs 5 = vs 4 from h5).trans e4
    obtain ⟨x6, z6, a6, e6⟩ := h6
    obtain ⟨x7, z7, a7, e7⟩ := h7
    obtain ⟨b8, e8, l8, y8⟩ := h8
    have a6 := (e5.symm.trans a6)
    have a7 := (e5.symm.trans a7)
    cases a6
    cases a7
    replace e6 : vs 6 = _ := e6
    replace e7 : vs 7 = _ := e7
    replace e8 : vs 8 = _ := e8
    simp only [e6, e7, e8]
    clear e4 e5 e6 e7 e8 h1 h3 h5
    have F1 := fr_then F G
    have q0 := x0.keep G
    have q1 := x1.keep G
    have g0 := y8.free 0
    have g1 := y8.free 1
    have g2 := y8.c0
    have g3 := y8.c1
    refine wpTill.next 9 rfl (by kernel_rfl) (by rfl) (fun K hK => ?_)
    go_simp
    refine hK _ _ (no_wait (by kernel_rfl)) ?_
    clear hK K
    refine wpTill.next 10 rfl (by kernel_rfl) (by rfl) (fun K hK => ?_)
    go_simp
    refine hK _ _ (no_wait (by kernel_rfl)) ?_
    clear hK K
    refine wpTill.done (by kernel_rfl) ?_
    have F9 := fr_put2 u b8 (.slice A4 n4 c4) (.slice B4 m4 k4)
    have z7 := y8.set2 (.slice A4 n4 c4) (.slice B4 m4 k4)
    have Y4 := Lib.hid (show r = 0 → Sl Im (fun _ => True) ((u.setCell ⟨b8, 0, none⟩ (.slice A4 n4 c4)).setCell ⟨b8, 1, none⟩ (.slice B4 m4 k4)) (.slice A4 n4 c4) sh ∧ Sl Rm (fun _ => True) ((u.setCell ⟨b8, 0, none⟩ (.slice A4 n4 c4)).setCell ⟨b8, 1, none⟩ (.slice B4 m4 k4)) (.slice B4 m4 k4) (List.replicate (cntS sh).toNat (normR (sx, xs, ys))) from fun h => ⟨((Im_notin2 (yes4 h).1 y8).fr F9).any, ((Rm_notin2 (yes4 h).2 y8).fr F9).any⟩)
    have N4 := Lib.hid nil4
    have F2 := F1.comp F9 (R := fun k => k < w.heap.size) fun k _ hk => ⟨hk, by omega⟩
    replace q0 := q0.fr F9 (by omega)
    replace q1 := q1.fr F9 (by omega)
    replace l8 : w.heap.size + 2 ≤ b8 := by omega
    generalize (u.setCell ⟨b8, 0, none⟩ (.slice A4 n4 c4)).setCell ⟨b8, 1, none⟩ (.slice B4 m4 k4) = U1 at z7 Y4 F2 q0 q1 ⊢
    clear KS S0 x0 x1 F G F1 yes4 nil4 y8 g0 g1 g2 g3 a6 a7 F9 hsz
    have d0 := q0.c0
    have d1 := q0.c1
    have d2 := q0.c2
    go_wp2_with fail
    with_reducible refine (rown_l _ sx (.slice P n1 c1) (.slice Q n2 c2) xs ys (HX.out.fr F2) (HY.out.fr F2) (by omega) (by omega)).mono ?_
    rintro e w2 ⟨v1, v2, rfl, ho, hf⟩
    obtain ⟨P', i', j', rfl⟩ := ho.num.form
    obtain ⟨Q', k', l', rfl⟩ := ho.den.form
    go_wp2_with fail
    with_reducible refine (scalar_t _ (.slice P' i' j') (.slice Q' k' l') (sx, xs, ys) (L + 1) ho.num.sl ho.den.sl ⟨show xs.length ≤ L + 1 by omega, show ys.length ≤ L + 1 by omega⟩ hl1 hl2).mono ?_
    rintro e w3 ⟨v1, v2, rfl, o1, o2, hf2⟩
    obtain ⟨B1, i1, j1, rfl⟩ := o1.form
    obtain ⟨B2, i2, j2, rfl⟩ := o2.form
    have al := fun R => (Fr.refl R w3).alloc (.cells #[.slice B1 i1 j1, .slice B2 i2 j2] 26)
    have x9 := Box2.new w3 26 (.slice B1 i1 j1) (.slice B2 i2 j2)
    have hg := fr_then (fr_then hf hf2) (al _)
    replace q0 := q0.keep hg
    replace q1 := q1.keep hg
    replace z7 := z7.keep hg
    replace F2 := fr_then F2 hg
    replace Y4 := Lib.hid (show r = 0 → _ from fun h => And.intro ((Y4.out h).1.keep' Im_pos hg) ((Y4.out h).2.keep' Rm_pos hg))
    have H91 := Lib.hid (o1.sl.keep' Im_pos (al _)).any
    have H92 := Lib.hid (o2.sl.keep' Rm_pos (al _)).any
    clear hf hf2 o1 o2 al hg ho d0 d1 d2
    have d0 := q1.c0
    have d1 := q1.c1
    go_wp2_with fail
    with_reducible refine (town_t _ (.slice B shb.length d) (.slice B' eb.length d') shb eb (HSB.out.fr F2) (HEB.out.fr F2) (by omega) (by omega) HLB.out).mono ?_
    rintro e w4 ⟨v1, v2, rfl, o1, o2, hf⟩
    obtain ⟨B3, i3, j3, rfl⟩ := o1.form
    obtain ⟨B5, i5, j5, rfl⟩ := o2.form
    go_wp2_with fail
    with_reducible refine (tcopy_t _ (.slice B3 i3 j3) (.slice B5 i5 j5) shb eb o1.sl o2.sl (by omega) (by omega) HLB.out).mono ?_
    rintro e w5 ⟨v1, v2, rfl, o3, o4, hf2⟩
    obtain ⟨C1, ga, gb, rfl⟩ := o3.form
    obtain ⟨C2, gc, gd, rfl⟩ := o4.form
    have al := fun R => (Fr.refl R w5).alloc (.cells #[.slice C1 ga gb, .slice C2 gc gd] 26)
    have x10 := Box2.new w5 26 (.slice C1 ga gb) (.slice C2 gc gd)
    have hg := fr_then (fr_then hf hf2) (al _)
    replace q0 := q0.keep hg
    replace q1 := q1.keep hg
    replace z7 := z7.keep hg
    replace x9 := x9.keep hg
    replace F2 := fr_then F2 hg
    replace Y4 := Lib.hid (show r = 0 → _ from fun h => And.intro ((Y4.out h).1.keep' Im_pos hg) ((Y4.out h).2.keep' Rm_pos hg))
    replace H91 := Lib.hid (H91.out.keep' Im_pos hg)
    replace H92 := Lib.hid (H92.out.keep' Rm_pos hg)
    have HA1 := Lib.hid (o3.sl.keep' Im_pos (al _)).any
    have HA2 := Lib.hid (o4.sl.keep' Rm_pos (al _)).any
    clear hf hf2 o1 o2 o3 o4 al hg d0 d1
    go_wp2_with fail
    generalize w5.alloc (.cells #[.slice C1 ga gb, .slice C2 gc gd] 26) = U2 at q0 q1 z7 x9 x10 F2 Y4 H91 H92 HA1 HA2 ⊢
    have DR := fun R => (Fr.refl R U2).drew
    replace q0 := q0.keep (DR _)
    replace q1 := q1.keep (DR _)
    replace z7 := z7.keep (DR _)
    replace x9 := x9.keep (DR _)
    replace x10 := x10.keep (DR _)
    replace F2 := F2.drew
    replace Y4 := Lib.hid (show r = 0 → _ from fun h => And.intro ((Y4.out h).1.keep' Im_pos (DR _)) ((Y4.out h).2.keep' Rm_pos (DR _)))
    replace H91 := Lib.hid (H91.out.keep' Im_pos (DR _))
    replace H92 := Lib.hid (H92.out.keep' Rm_pos (DR _))
    replace HA1 := Lib.hid (HA1.out.keep' Im_pos (DR _))
    replace HA2 := Lib.hid (HA2.out.keep' Rm_pos (DR _))
    rw [canR_norm, HQ.out] at H92
    clear DR
    have KS : ∀ u, Fr (fun k => k < U2.drew.heap.size) U2.drew u → u.cell? ⟨w.heap.size, 0, none⟩ = some (.bool sx) ∧ u.cell? ⟨w.heap.size, 1, none⟩ = some (.slice P n1 c1) ∧ u.cell? ⟨w.heap.size, 2, none⟩ = some (.slice Q n2 c2) ∧ u.cell? ⟨w.heap.size + 1, 0, none⟩ = some (.slice B shb.length d) ∧ u.cell? ⟨w.heap.size + 1, 1, none⟩ = some (.slice B' eb.length d') ∧ u.cell? ⟨w3.heap.size, 0, none⟩ = some (.slice B1 i1 j1) ∧ u.cell? ⟨w3.heap.size, 1, none⟩ = some (.slice B2 i2 j2) ∧ u.cell? ⟨w5.heap.size, 0, none⟩ = some (.slice C1 ga gb) ∧ u.cell? ⟨w5.heap.size, 1, none⟩ = some (.slice C2 gc gd) := fun u h => ⟨(q0.keep h).c0, (q0.keep h).c1, (q0.keep h).c2, (q1.keep h).c0, (q1.keep h).c1, (x9.keep h).c0, (x9.keep h).c1, (x10.keep h).c0, (x10.keep h).c1⟩
    refine wpTill.begin (fun u => u.cell? ⟨w.heap.size, 0, none⟩ = some (.bool sx) ∧ u.cell? ⟨w.heap.size, 1, none⟩ = some (.slice P n1 c1) ∧ u.cell? ⟨w.heap.size, 2, none⟩ = some (.slice Q n2 c2) ∧ u.cell? ⟨w.heap.size + 1, 0, none⟩ = some (.slice B shb.length d) ∧ u.cell? ⟨w.heap.size + 1, 1, none⟩ = some (.slice B' eb.length d') ∧ u.cell? ⟨w3.heap.size, 0, none⟩ = some (.slice B1 i1 j1) ∧ u.cell? ⟨w3.heap.size, 1, none⟩ = some (.slice B2 i2 j2) ∧ u.cell? ⟨w5.heap.size, 0, none⟩ = some (.slice C1 ga gb) ∧ u.cell? ⟨w5.heap.size, 1, none⟩ = some (.slice C2 gc gd)) 12 (by kernel_rfl) ?_
    change wpTill _ _ _ _ _ _ 13 _ _ _
    refine wpTill.free (jj := 12) (m := 0) [(0, Fact.eq (.agg #[.bool sx, .slice P n1 c1, .slice Q n2 c2])),
          (1, Fact.mem (RefG q (3 * (L + 1))) RefG.keep),
          (2, Fact.mem (RefL [q] (3 * (L + 1))) RefL.keep),
          (3, Fact.mem (RefT [] [q] (3 * (L + 1))) RefT.keep),
          (4, Fact.eq (.agg #[.slice B1 i1 j1, .slice B2 i2 j2])),
          (5, Fact.eq (.bool true)),
          (6, Fact.eq (.bool false)),
          (7, Fact.eq (.bool false)),
          (8, Fact.eq (.agg #[.slice C1 ga gb, .slice C2 gc gd])),
          (9, Fact.eq (.agg #[.slice B shb.length d, .slice B' eb.length d'])),
          (10, Fact.eq (.bool true)),
          (11, Fact.eq (.bool false)),
          (12, Fact.eq (.bool false))] [] [0, 1, 3, 7, 0, 31, 63, 127, 255, 255, 1023, 2047, 4095] [] ?_ (by kernel_rfl) (by kernel_rfl) (by kernel_rfl) [(0, some 26), (1, some 27), (2, some 28), (3, some 29), (4, some 30), (5, some 31), (6, some 32), (7, some 33), (8, some 34), (9, some 35), (10, some 36), (11, some 37), (12, some 38)] (by kernel_rfl) ?hA ?hQ KS (by kernel_rfl) ?steps ?looses ?cont
    case hQ => exact fun _ _ _ _ _ h => h
    case hA =>
      intro vs
      simp only [fillD, List.foldl_cons, List.foldl_nil, Act.put, List.setIfInBounds_toArray, List.set_cons_zero, List.set_cons_succ]
      exact rfl
    case steps =>
      refine ⟨?_, ?_, ?_, ?_, ?_, ?_, ?_, ?_, ?_, ?_, ?_, ?_, ?_, trivial⟩
      · rintro vs u ⟨h0, h1, h2, h3, h4, h5, h6, h7, h8, h9, h10, h11, h12, -⟩ G
        obtain ⟨o0, o1, o2, o3, o4, o5, o6, o7, o8⟩ := KS u G
        exact stepAt.pure (v := .agg #[.bool sx, .slice P n1 c1, .slice Q n2 c2]) rfl rfl (by go_simp) rfl
      · rintro vs u ⟨h0, h1, h2, h3, h4, h5, h6, h7, h8, h9, h10, h11, h12, -⟩ G
        refine stepAt.call (f := 21) (args := #[vs 0]) rfl rfl (by go_simp) ?_
        have e0 : vs 0 = .agg #[.bool sx, .slice P n1 c1, .slice Q n2 c2] := h0 rfl
        rw [e0]
        refine (rof_h u (sx, xs, ys) sx (.slice P n1 c1) (.slice Q n2 c2) (L + 1) (Lib.hid (HX.out.fr (fr_then F2 G))) (Lib.hid (HY.out.fr (fr_then F2 G))) rfl (Lib.hid ⟨show xs.length ≤ L + 1 by omega, show ys.length ≤ L + 1 by omega⟩) hl1 hl2).mono ?_
        rintro e u' ⟨s1, v1, v2, rfl, hs1, hr1, hf⟩
        rw [HQ.out] at hs1 hr1
        obtain ⟨⟨_, _, _, rfl⟩, ⟨_, _, _, rfl⟩⟩ := hr1.out.form
        exact ⟨_, rfl, hf, _, _, _, _, _, _, _, rfl, hs1.out, hr1.out.mono fun _ _ => trivial⟩
      · rintro vs u ⟨h0, h1, h2, h3, h4, h5, h6, h7, h8, h9, h10, h11, h12, -⟩ G
        obtain ⟨s1, P1, y1, y2, Q1, y3, y4, e1, hs1, hr1⟩ := h1 rfl
        replace e1 : vs 1 = _ := e1
        exact stepAt.value (v := .slice (some ⟨u.heap.size, 0, none⟩) 1 1) (u := u.alloc (.cells #[.bool s1, .slice P1 y1 y2, .slice Q1 y3 y4] 52)) rfl rfl (by simp only [e1]; go_simp) ((Fr.refl _ _).alloc _) ⟨_, _, _, rfl, one_rk hs1 hr1⟩
      · rintro vs u ⟨h0, h1, h2, h3, h4, h5, h6, h7, h8, h9, h10, h11, h12, -⟩ G
        obtain ⟨P1, y1, y2, e2, hr1⟩ := h2 rfl
        replace e2 : vs 2 = _ := e2
        exact stepAt.pure (v := .agg #[.slice none 0 0, .slice P1 y1 y2]) rfl rfl (by simp only [e2]; go_simp) ⟨_, _, _, _, _, _, rfl, Sl.nil _ _ _, hr1⟩
      · rintro vs u ⟨h0, h1, h2, h3, h4, h5, h6, h7, h8, h9, h10, h11, h12, -⟩ G
        obtain ⟨o0, o1, o2, o3, o4, o5, o6, o7, o8⟩ := KS u G
        exact stepAt.pure (v := .agg #[.slice B1 i1 j1, .slice B2 i2 j2]) rfl rfl (by go_simp) rfl
      · rintro vs u ⟨h0, h1, h2, h3, h4, h5, h6, h7, h8, h9, h10, h11, h12, -⟩ G
        refine stepAt.call (f := 14) (args := #[vs 3, vs 4]) rfl rfl (by go_simp) ?_
        have e4 : vs 4 = .agg #[.slice B1 i1 j1, .slice B2 i2 j2] := h4 rfl
        obtain ⟨P1, y1, y2, Q1, y3, y4, e3, hr1, hr2⟩ := h3 rfl
        replace e3 : vs 3 = _ := e3
        rw [e3, e4]
        refine (tis_t u (.slice P1 y1 y2) (.slice Q1 y3 y4) (.slice B1 i1 j1) (.slice B2 i2 j2) [] [q] (L + 1) _ hr1 hr2 (H91.out.keep' Im_pos G) (H92.out.keep' Rm_pos G) (fun x hx => by cases List.mem_singleton.1 hx; exact HQL.out) (by omega)).mono ?_
        rintro e u' ⟨rfl, hf⟩
        exact ⟨_, rfl, hf, rfl⟩
      · rintro vs u ⟨h0, h1, h2, h3, h4, h5, h6, h7, h8, h9, h10, h11, h12, -⟩ G
        have e5 : vs 5 = .bool true := h5 rfl
        exact stepAt.pure (v := .bool false) rfl rfl (by simp only [e5]; go_simp) rfl
      · rintro vs u ⟨h0, h1, h2, h3, h4, h5, h6, h7, h8, h9, h10, h11, h12, -⟩ G
        have e6 : vs 6 = .bool false := h6 rfl
        exact stepAt.pure (v := .bool false) rfl rfl (by simp only [e6]; go_simp) rfl
      · rintro vs u ⟨h0, h1, h2, h3, h4, h5, h6, h7, h8, h9, h10, h11, h12, -⟩ G
        obtain ⟨o0, o1, o2, o3, o4, o5, o6, o7, o8⟩ := KS u G
        exact stepAt.pure (v := .agg #[.slice C1 ga gb, .slice C2 gc gd]) rfl (wanted_by (g := 7) (b := false) (t := 33) rfl (by kernel_rfl) (congrArg some (show vs 7 = _ from h7 rfl))) (by go_simp) rfl
      · rintro vs u ⟨h0, h1, h2, h3, h4, h5, h6, h7, h8, h9, h10, h11, h12, -⟩ G
        obtain ⟨o0, o1, o2, o3, o4, o5, o6, o7, o8⟩ := KS u G
        exact stepAt.pure (v := .agg #[.slice B shb.length d, .slice B' eb.length d']) rfl (wanted_by (g := 7) (b := false) (t := 33) rfl (by kernel_rfl) (congrArg some (show vs 7 = _ from h7 rfl))) (by go_simp) rfl
      · rintro vs u ⟨h0, h1, h2, h3, h4, h5, h6, h7, h8, h9, h10, h11, h12, -⟩ G
        refine stepAt.call (f := 29) (args := #[vs 8, vs 9]) rfl (wanted_by (g := 7) (b := false) (t := 33) rfl (by kernel_rfl) (congrArg some (show vs 7 = _ from h7 rfl))) (by go_simp) ?_
        have e8 : vs 8 = .agg #[.slice C1 ga gb, .slice C2 gc gd] := h8 rfl
        have e9 : vs 9 = .agg #[.slice B shb.length d, .slice B' eb.length d'] := h9 rfl
        rw [e8, e9]
        refine (sameraw_y u (.slice C1 ga gb) (.slice C2 gc gd) (.slice B shb.length d) (.slice B' eb.length d') shb eb (HA1.out.keep' Im_pos G) (HA2.out.keep' Rm_pos G) (HSB.out.fr (fr_then F2 G)) (HEB.out.fr (fr_then F2 G))).mono ?_
        rintro e u' ⟨rfl, hf⟩
        exact ⟨_, rfl, hf, rfl⟩
      · rintro vs u ⟨h0, h1, h2, h3, h4, h5, h6, h7, h8, h9, h10, h11, h12, -⟩ G
        have e10 : vs 10 = .bool true := h10 rfl
        exact stepAt.pure (v := .bool false) rfl (wanted_by (g := 7) (b := false) (t := 33) rfl (by kernel_rfl) (congrArg some (show vs 7 = _ from h7 rfl))) (by simp only [e10]; go_simp) rfl
      · rintro vs u ⟨h0, h1, h2, h3, h4, h5, h6, h7, h8, h9, h10, h11, h12, -⟩ G
        have e7 : vs 7 = .bool false := h7 rfl
        have e11 : vs 11 = .bool false := h11 rfl
        exact stepAt.pure (v := .bool false) rfl rfl (by simp only [e7, e11]; go_simp) rfl
    case looses =>
      exact trivial
    case cont =>
      rintro vs u ⟨h0, h1, h2, h3, h4, h5, h6, h7, h8, h9, h10, h11, h12, -⟩ G
      have e12 : vs 12 = .bool false := h12
      simp only [e12]
      clear h0 h1 h2 h3 h4 h5 h6 h7 h8 h9 h10 h11 h12 e12
      refine wpTill.done (by kernel_rfl) ?_
      replace q0 := q0.keep G
      replace z7 := z7.keep G
      replace Y4 := Lib.hid (show r = 0 → _ from fun h => And.intro ((Y4.out h).1.keep' Im_pos G) ((Y4.out h).2.keep' Rm_pos G))
      replace F2 := fr_then F2 G
      clear KS q1 x9 x10 H91 H92 HA1 HA2 G
      go_wp2_with fail
      have P1 := Lib.hid (smay_calls _ (.slice A sh.length c) sh (HS.out.fr F2))
      rw [HR.out] at P1
      with_reducible refine P1.out.mono ?_
      rintro e wq ⟨rfl, rfl⟩
      clear P1
      by_cases h0 : r = 0
      case neg =>
        have hb0 : (r == 0) = false := beq_eq_false_iff_ne.2 h0
        obtain ⟨e1, e2⟩ := N4.out h0
        cases e1
        cases e2
        have a0 := z7.c0
        have a1 := z7.c1
        go_wp2_with fail
        with_reducible refine (empty_t _).mono ?_
        rintro e wr ⟨rfl, hf1⟩
        go_wp2_with fail
        with_reducible refine (tknown _).mono ?_
        rintro e wz ⟨rfl, hf2⟩
        go_wp2_with fail
        go_ret
        exact ⟨rfl, fr_then (fr_then F2 hf1) hf2⟩
      subst h0
      have Y1 := Lib.hid (Y4.out rfl).1
      have Y2 := Lib.hid (Y4.out rfl).2
      clear Y4 N4
      go_wp2_with fail
      have DR := fun R => (Fr.refl R wq).drew
      replace q0 := q0.keep (DR _)
      replace z7 := z7.keep (DR _)
      replace F2 := F2.drew
      replace Y1 := Lib.hid (Y1.out.keep' Im_pos (DR _))
      replace Y2 := Lib.hid (Y2.out.keep' Rm_pos (DR _))
      rw [canR_norm, HQ.out, ← List.map_replicate] at Y2
      clear DR
      have KS : ∀ u, Fr (fun k => k < wq.drew.heap.size) wq.drew u → u.cell? ⟨w.heap.size, 0, none⟩ = some (.bool sx) ∧ u.cell? ⟨w.heap.size, 1, none⟩ = some (.slice P n1 c1) ∧ u.cell? ⟨w.heap.size, 2, none⟩ = some (.slice Q n2 c2) ∧ u.cell? ⟨b8, 0, none⟩ = some (.slice A4 n4 c4) ∧ u.cell? ⟨b8, 1, none⟩ = some (.slice B4 m4 k4) := fun u h => ⟨(q0.keep h).c0, (q0.keep h).c1, (q0.keep h).c2, (z7.keep h).c0, (z7.keep h).c1⟩
      refine wpTill.begin (fun u => u.cell? ⟨w.heap.size, 0, none⟩ = some (.bool sx) ∧ u.cell? ⟨w.heap.size, 1, none⟩ = some (.slice P n1 c1) ∧ u.cell? ⟨w.heap.size, 2, none⟩ = some (.slice Q n2 c2) ∧ u.cell? ⟨b8, 0, none⟩ = some (.slice A4 n4 c4) ∧ u.cell? ⟨b8, 1, none⟩ = some (.slice B4 m4 k4)) 13 (by kernel_rfl) ?_
      change wpTill _ _ _ _ _ _ 14 _ _ _
      refine wpTill.free (jj := 13) (m := 0) [(0, Fact.eq (.int .i64 0)),
            (1, Fact.eq (.bool true)),
            (2, Fact.eq (.bool true)),
            (3, Fact.eq (.slice A sh.length c)),
            (4, Fact.eq (.agg #[.bool sx, .slice P n1 c1, .slice Q n2 c2])),
            (5, Fact.mem (RefG q (3 * (L + 1))) RefG.keep),
            (6, Fact.mem (RefT sh (List.replicate (cntS sh).toNat q) (3 * (L + 1))) RefT.keep),
            (7, Fact.eq (.agg #[.slice A4 n4 c4, .slice B4 m4 k4])),
            (8, Fact.eq (.bool true)),
            (9, Fact.eq (.bool true)),
            (10, Fact.eq (.bool true)),
            (11, Fact.eq (.bool true)),
            (12, Fact.eq (.bool true)),
            (13, Fact.eq (.bool true))] [] [0, 1, 3, 7, 7, 23, 63, 7, 255, 511, 1023, 2047, 4095, 8191] [] ?_ (by kernel_rfl) (by kernel_rfl) (by kernel_rfl) [(0, some 53), (1, some 54), (2, some 55), (3, some 56), (4, some 57), (5, some 58), (6, some 59), (7, some 60), (8, some 61), (9, some 62), (10, some 63), (11, some 64), (12, some 65), (13, some 6)] (by kernel_rfl) ?hA ?hQ KS (by kernel_rfl) ?steps ?looses ?cont
      case hQ => exact fun _ _ _ _ _ h => h
      case hA =>
        intro vs
        simp only [fillD, List.foldl_cons, List.foldl_nil, Act.put, List.setIfInBounds_toArray, List.set_cons_zero, List.set_cons_succ]
        exact rfl
      case steps =>
        refine ⟨?_, ?_, ?_, ?_, ?_, ?_, ?_, ?_, ?_, ?_, ?_, ?_, ?_, ?_, trivial⟩
        · rintro vs u ⟨h0, h1, h2, h3, h4, h5, h6, h7, h8, h9, h10, h11, h12, h13, -⟩ G
          exact stepAt.pure (v := .int .i64 0) rfl rfl (by go_simp) rfl
        · rintro vs u ⟨h0, h1, h2, h3, h4, h5, h6, h7, h8, h9, h10, h11, h12, h13, -⟩ G
          have e0 : vs 0 = .int .i64 0 := h0 rfl
          exact stepAt.pure (v := .bool true) rfl rfl (by simp only [e0]; go_simp) rfl
        · rintro vs u ⟨h0, h1, h2, h3, h4, h5, h6, h7, h8, h9, h10, h11, h12, h13, -⟩ G
          have e1 : vs 1 = .bool true := h1 rfl
          exact stepAt.pure (v := .bool true) rfl rfl (by simp only [e1]; go_simp) rfl
        · rintro vs u ⟨h0, h1, h2, h3, h4, h5, h6, h7, h8, h9, h10, h11, h12, h13, -⟩ G
          exact stepAt.pure (v := .slice A sh.length c) rfl (wanted_by (g := 2) (b := true) (t := 55) rfl (by kernel_rfl) (congrArg some (show vs 2 = _ from h2 rfl))) (by go_simp) rfl
        · rintro vs u ⟨h0, h1, h2, h3, h4, h5, h6, h7, h8, h9, h10, h11, h12, h13, -⟩ G
          obtain ⟨o0, o1, o2, o3, o4⟩ := KS u G
          exact stepAt.pure (v := .agg #[.bool sx, .slice P n1 c1, .slice Q n2 c2]) rfl (wanted_by (g := 2) (b := true) (t := 55) rfl (by kernel_rfl) (congrArg some (show vs 2 = _ from h2 rfl))) (by go_simp) rfl
        · rintro vs u ⟨h0, h1, h2, h3, h4, h5, h6, h7, h8, h9, h10, h11, h12, h13, -⟩ G
          refine stepAt.call (f := 21) (args := #[vs 4]) rfl (wanted_by (g := 2) (b := true) (t := 55) rfl (by kernel_rfl) (congrArg some (show vs 2 = _ from h2 rfl))) (by go_simp) ?_
          have e4 : vs 4 = .agg #[.bool sx, .slice P n1 c1, .slice Q n2 c2] := h4 rfl
          rw [e4]
          refine (rof_h u (sx, xs, ys) sx (.slice P n1 c1) (.slice Q n2 c2) (L + 1) (Lib.hid (HX.out.fr (fr_then F2 G))) (Lib.hid (HY.out.fr (fr_then F2 G))) rfl (Lib.hid ⟨show xs.length ≤ L + 1 by omega, show ys.length ≤ L + 1 by omega⟩) hl1 hl2).mono ?_
          rintro e u' ⟨s1, v1, v2, rfl, hs1, hr1, hf⟩
          rw [HQ.out] at hs1 hr1
          obtain ⟨⟨_, _, _, rfl⟩, ⟨_, _, _, rfl⟩⟩ := hr1.out.form
          exact ⟨_, rfl, hf, _, _, _, _, _, _, _, rfl, hs1.out, hr1.out.mono fun _ _ => trivial⟩
        · rintro vs u ⟨h0, h1, h2, h3, h4, h5, h6, h7, h8, h9, h10, h11, h12, h13, -⟩ G
          refine stepAt.call (f := 30) (args := #[vs 3, vs 5]) rfl (wanted_by (g := 2) (b := true) (t := 55) rfl (by kernel_rfl) (congrArg some (show vs 2 = _ from h2 rfl))) (by go_simp) ?_
          have e3 : vs 3 = .slice A sh.length c := h3 rfl
          obtain ⟨s1, P1, y1, y2, Q1, y3, y4, e5, hs1, hr1⟩ := h5 rfl
          replace e5 : vs 5 = _ := e5
          rw [e3, e5]
          refine (rfull_t u (.slice A sh.length c) (.slice P1 y1 y2) (.slice Q1 y3 y4) s1 sh q _ (HS.out.fr (fr_then F2 G)) hr1 hs1 (by omega)).mono ?_
          rintro e u' ⟨v1, v2, rfl, hr1, hr2, hf⟩
          exact ⟨_, rfl, hf, RefT.of hr1 hr2⟩
        · rintro vs u ⟨h0, h1, h2, h3, h4, h5, h6, h7, h8, h9, h10, h11, h12, h13, -⟩ G
          obtain ⟨o0, o1, o2, o3, o4⟩ := KS u G
          exact stepAt.pure (v := .agg #[.slice A4 n4 c4, .slice B4 m4 k4]) rfl (wanted_by (g := 2) (b := true) (t := 55) rfl (by kernel_rfl) (congrArg some (show vs 2 = _ from h2 rfl))) (by go_simp) rfl
        · rintro vs u ⟨h0, h1, h2, h3, h4, h5, h6, h7, h8, h9, h10, h11, h12, h13, -⟩ G
          refine stepAt.call (f := 14) (args := #[vs 6, vs 7]) rfl (wanted_by (g := 2) (b := true) (t := 55) rfl (by kernel_rfl) (congrArg some (show vs 2 = _ from h2 rfl))) (by go_simp) ?_
          have e7 : vs 7 = .agg #[.slice A4 n4 c4, .slice B4 m4 k4] := h7 rfl
          obtain ⟨P1, y1, y2, Q1, y3, y4, e6, hr1, hr2⟩ := h6 rfl
          replace e6 : vs 6 = _ := e6
          rw [e6, e7]
          refine (tis_t u (.slice P1 y1 y2) (.slice Q1 y3 y4) (.slice A4 n4 c4) (.slice B4 m4 k4) sh (List.replicate (cntS sh).toNat q) (L + 1) _ hr1 hr2 (Y1.out.keep' Im_pos G) (Y2.out.keep' Rm_pos G) (fun x hx => by rw [List.eq_of_mem_replicate hx]; exact HQL.out) (by omega)).mono ?_
          rintro e u' ⟨rfl, hf⟩
          exact ⟨_, rfl, hf, rfl⟩
        · rintro vs u ⟨h0, h1, h2, h3, h4, h5, h6, h7, h8, h9, h10, h11, h12, h13, -⟩ G
          have e2 : vs 2 = .bool true := h2 rfl
          have e8 : vs 8 = .bool true := h8 rfl
          exact stepAt.pure (v := .bool true) rfl rfl (by simp only [e2, e8]; go_simp) rfl
        · rintro vs u ⟨h0, h1, h2, h3, h4, h5, h6, h7, h8, h9, h10, h11, h12, h13, -⟩ G
          have e9 : vs 9 = .bool true := h9 rfl
          exact stepAt.pure (v := .bool true) rfl rfl (by simp only [e9]; go_simp) rfl
        · rintro vs u ⟨h0, h1, h2, h3, h4, h5, h6, h7, h8, h9, h10, h11, h12, h13, -⟩ G
          refine stepAt.call (f := 13) (args := #[]) rfl (wanted_by (g := 10) (b := true) (t := 63) rfl (by kernel_rfl) (congrArg some (show vs 10 = _ from h10 rfl))) (by go_simp) ?_
          refine (tknown u).mono ?_
          rintro e u' ⟨rfl, hf⟩
          exact ⟨_, rfl, hf, rfl⟩
        · rintro vs u ⟨h0, h1, h2, h3, h4, h5, h6, h7, h8, h9, h10, h11, h12, h13, -⟩ G
          have e10 : vs 10 = .bool true := h10 rfl
          have e11 : vs 11 = .bool true := h11 rfl
          exact stepAt.pure (v := .bool true) rfl rfl (by simp only [e10, e11]; go_simp) rfl
        · rintro vs u ⟨h0, h1, h2, h3, h4, h5, h6, h7, h8, h9, h10, h11, h12, h13, -⟩ G
          have e12 : vs 12 = .bool true := h12 rfl
          exact stepAt.pure (v := .bool true) rfl rfl (by simp only [e12]; go_simp) rfl
      case looses =>
        exact trivial
      case cont =>
        rintro vs u ⟨h0, h1, h2, h3, h4, h5, h6, h7, h8, h9, h10, h11, h12, h13, -⟩ G
        have e13 : vs 13 = .bool true := h13
        simp only [e13]
        clear h0 h1 h2 h3 h4 h5 h6 h7 h8 h9 h10 h11 h12 h13 e13
        refine wpTill.done (by kernel_rfl) ?_
        go_wp2_with fail
        go_ret
        exact ⟨rfl, fr_then F2 G⟩
end Go.Proofs.YtjnojkfkhccgaaaGreat

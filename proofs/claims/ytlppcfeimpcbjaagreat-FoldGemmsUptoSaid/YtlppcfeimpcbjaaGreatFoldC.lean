/- Texts merged: FoH, FoI. -/
import Derived.Test.YtlppcfeimpcbjaaGreatFoldB
set_option linter.unusedSimpArgs false
set_option linter.unusedVariables false

/- fold.Sum: printed by gen_foh.py. -/
namespace Go.Proofs.YtlppcfeimpcbjaaGreat
open Go.RowKit Go.Shelf
attribute [local go_sem] Oper.semAt_some

/-- What a function of layer 10 answers. -/
def FoldR (w : World) (sh : List Int) (es : List RatL) (r : Int) (e : Ending) (w' : World) : Prop := ∃ A i j B k l, e = .returned (.tuple #[.agg #[.slice A i j, .slice B k l], .int .i64 r]) ∧ (r ≠ 0 → Value.slice A i j = .slice none 0 0 ∧ Value.slice B k l = .slice none 0 0) ∧
  (r = 0 → Own Im 3 (fun k => w.heap.size ≤ k) w' (.slice A i j) sh ∧ Own Rm 54 (fun k => w.heap.size ≤ k) w' (.slice B k l) es) ∧ Fr (fun k => k < w.heap.size) w w'
theorem FoldR.ret {w u : World} {sh : List Int} {es : List RatL} {r : Int} {e : Ending} (h : FoldR w sh es r e u) : Ret w (Tup r (TC r sh es)) e u := by
  obtain ⟨A, i, j, B, k, l, rfl, h1, h2, hf⟩ := h
  exact ⟨_, rfl, hf, fun u' hu' => ⟨_, _, _, _, _, _, rfl, h1, fun e => ⟨((h2 e).1.sl.keep' Im_pos hu').any, ((h2 e).2.sl.keep' Rm_pos hu').any⟩⟩⟩
theorem Own.offI {e : TypeId} {S : Nat → Prop} {w : World} {v : Value} {xs : List Int} (h : Own Im e S w v xs) {g : Nat} (hg : some g ≠ v.ownBlock) : Own Im e (fun k => S k ∧ k ≠ g) w v xs := by
  obtain ⟨cells, h1, h2, h3⟩ := h
  exact ⟨cells, h1, fun k hk => ⟨h2 k hk, fun e => hg (by rw [← e]; exact hk.symm)⟩, fun i x hx => let ⟨cs, hr, hu⟩ := h3 i x hx; ⟨cs, Kd.int_any hr, hu⟩⟩
set_option maxRecDepth 100000 in
set_option maxHeartbeats 8000000 in
theorem fsum_t {S T U : Nat → Prop} (w : World) (va ve vx : Value) (sh : List Int) (es : List RatL) (axes : List Int) (L K : Nat) (r : Int) (hr : Hid (sumE sh es axes = r)) (ha : Sl Im S w va sh) (he : Sl Rm T w ve es) (hx : Sl Im U w vx axes)
    (hL : Hid (∀ x ∈ es, x.2.1.length ≤ L ∧ x.2.2.length ≤ L)) (hL1 : 1 ≤ L) (hLK : L ≤ K) (hl : K ≤ 104857600) (hK : Hid (∀ n i, i ≤ es.length → Lens K (sumP (plc sh axes) (es.map qOf) n i))) :
    Calls Tryz.prog 13 #[.agg #[va, ve], vx] w (FoldR w (dropI axes 0 sh) ((sumL (plc sh axes) (es.map qOf) (pr (dropI axes 0 sh)).toNat es.length).map canR) r) := by
  obtain ⟨A, c, rfl, _, _, hlx⟩ := ha.slice
  obtain ⟨A', c', rfl, _, _, hly⟩ := he.slice
  obtain ⟨C, f, rfl, _, _, hlz⟩ := hx.slice
  have F := (((Fr.refl (fun k => k < w.heap.size) w).alloc (.cells #[.slice A sh.length c, .slice A' es.length c'] 26)).alloc (.cells #[.slice C axes.length f] 22)).alloc (.cells #[.slice none 0 0, .slice none 0 0] 26)
  have x0 := ((Box2.new w 26 (.slice A sh.length c) (.slice A' es.length c')).alloc (.cells #[.slice C axes.length f] 22)).alloc (.cells #[.slice none 0 0, .slice none 0 0] 26)
  have x1 := (Box.new (w.alloc (.cells #[.slice A sh.length c, .slice A' es.length c'] 26)) 22 (.slice C axes.length f)).alloc (.cells #[.slice none 0 0, .slice none 0 0] 26)
  have x2 := Box2.new ((w.alloc (.cells #[.slice A sh.length c, .slice A' es.length c'] 26)).alloc (.cells #[.slice C axes.length f] 22)) 26 (.slice none 0 0) (.slice none 0 0)
  simp only [World.size_alloc] at x1 x2
  have HA := Lib.hid (ha.low Im_pos)
  have HE := Lib.hid (he.low Rm_pos)
  have HX := Lib.hid (hx.low Im_pos)
  clear ha he hx
  have a0 := x0.c0
  have a1 := x0.c1
  have a2 := Box.cell x1
  go_enter Tryz.func13, Tryz.ntmps13
  go_wp2_with fail
  generalize (((w.alloc (.cells #[.slice A sh.length c, .slice A' es.length c'] 26)).alloc (.cells #[.slice C axes.length f] 22)).alloc (.cells #[.slice none 0 0, .slice none 0 0] 26)) = W0 at F x0 x1 x2 a0 a1 a2 ⊢
  with_reducible refine (fmay_t _ (.slice A sh.length c) (.slice A' es.length c') (.slice C axes.length f) sh es axes L r hr (HA.out.fr F) (HE.out.fr F) (HX.out.fr F) hL hL1 (by omega)).mono ?_
  rintro e W1 ⟨rfl, hf⟩
  replace x0 := x0.keep hf
  replace x1 := Box.fr x1 hf (Box.lt x1)
  replace x2 := x2.keep hf
  replace F := fr_then F hf
  clear hf a0 a1 a2
  by_cases h0 : r = 0
  case neg =>
    go_wp2_with ((with_reducible apply wpList_st2); rfl; rfl; exact x2; exact ten2; rfl; rfl; intro w9 B9 F9)
    refine bodyPost_ret (results_cell2_tmp rfl rfl B9 Tryz.underlying26 ten2) rfl ?_
    exact ⟨none, 0, 0, none, 0, 0, rfl, fun _ => ⟨rfl, rfl⟩, fun h => absurd h h0, F.comp F9 fun k _ hk => ⟨hk, by omega⟩⟩
  subst h0
  have hm0 : mayT sh es = 0 := by
    have h := hr.out
    unfold sumE at h
    by_cases h1 : mayT sh es = 0
    · exact h1
    · rw [if_pos h1] at h; exact absurd h h1
  obtain ⟨hmS, hcnt, _⟩ := mayT_ok hm0
  obtain ⟨h4, h1, h2⟩ := mayS_ok hmS
  have hmD := drop_may (axes := axes) hmS
  have hpos := pr_pos (mayS_ok hmD).2.1
  have hNle := (mayS_ok hmD).2.2
  obtain ⟨N, hN⟩ : ∃ N : Nat, pr (dropI axes 0 sh) = (N : Int) := ⟨(pr (dropI axes 0 sh)).toNat, by omega⟩
  rw [hN, Int.toNat_natCast]
  rw [cntS_ok hmS] at hcnt
  have HMS := Lib.hid hmS
  have HMD := Lib.hid hmD
  have HND := Lib.hid (show cntS (dropI axes 0 sh) = (N : Int) by rw [cntS_ok hmD, hN])
  have HNP := Lib.hid hN
  have H1 := Lib.hid h1
  have HCN := Lib.hid hcnt
  clear hm0 hmS hmD hN h1 h2 hcnt hpos
  have a0 := x0.c0
  have a1 := x0.c1
  have a2 := Box.cell x1
  go_wp2_with fail
  with_reducible refine (sdrop_t _ _ _ sh axes (HA.out.fr F) (HX.out.fr F) (by omega)).mono ?_
  rintro e W2 ⟨v2, rfl, ho2, hf⟩
  obtain ⟨B0, i0, k0, rfl⟩ := ho2.form
  replace x0 := x0.keep hf
  replace x1 := Box.fr x1 hf (Box.lt x1)
  replace x2 := x2.keep hf
  replace F := fr_then F hf
  clear hf a0 a1 a2
  go_wp2_with fail
  with_reducible refine (zeros_t _ _ (dropI axes 0 sh) N ho2.sl HMD HND).mono ?_
  rintro e W3 ⟨B1, i1, k1, g, rfl, hsh, hel, hf⟩
  have l2 := x2.lt
  have s3 := hf.size
  replace x0 := x0.keep hf
  replace x1 := Box.fr x1 hf (Box.lt x1)
  replace x2 := x2.keep hf
  replace F := fr_then F hf
  have hgn : some g ≠ (Value.slice B1 i1 k1).ownBlock := (hel.in_ g rfl).2
  have hg1 := (hel.in_ g rfl).1
  have hg2 := hel.lt g rfl
  have al := fun R => (Fr.refl R W3).alloc (.cells #[.slice B1 i1 k1, .slice (some ⟨g, 0, none⟩) N N] 26)
  have x7 := Box2.new W3 26 (.slice B1 i1 k1) (.slice (some ⟨g, 0, none⟩) N N)
  have oS := ((hsh.offI hgn).bd.mono (T := fun k => w.heap.size + 3 ≤ k ∧ k ≠ g ∧ k ≠ W3.heap.size) fun k hk => ⟨by omega, hk.1.2, by omega⟩).fr (al _)
  have oE := (hel.bd.mono (T := fun k => w.heap.size + 3 ≤ k ∧ k ≠ W3.heap.size) fun k hk => ⟨by omega, by omega⟩).fr (al _)
  replace x0 := x0.keep (al _)
  replace x1 := Box.fr x1 (al (fun _ => True)) trivial
  replace x2 := x2.keep (al _)
  replace F := fr_then F (al _)
  obtain ⟨b7, hb7⟩ : ∃ b, W3.heap.size = b := ⟨_, rfl⟩
  rw [← List.map_replicate, ← sumL_0 (plc sh axes) (es.map qOf) N] at oE
  clear hf hsh hel ho2 al
  have a0 := x0.c0
  have a1 := x0.c1
  have a7 := x7.c1
  go_wp2_with fail
  generalize W3.alloc (.cells #[.slice B1 i1 k1, .slice (some ⟨g, 0, none⟩) N N] 26) = V0 at x0 x1 x2 x7 oS oE F a0 a1 a7 ⊢
  rw [hb7] at x7 a7 oS oE hg2
  clear hb7
  have l7 := x7.lt
  have l0 : w.heap.size + 3 ≤ g := by omega
  have hNN : Hid ((pr (dropI axes 0 sh)).toNat = N) := Lib.hid (by rw [HNP.out, Int.toNat_natCast])
  clear hg1 hg2 s3 l2 a0 a1 a7
  go_loopw [28] (fun i wr => ∃ (j : Nat), j ≤ es.length ∧ i = .int .i64 j ∧ Box2 wr w.heap.size 26 (.slice A sh.length c) (.slice A' es.length c') ∧ Box wr (w.heap.size + 1) 22 (.slice C axes.length f) ∧ Box2 wr (w.heap.size + 2) 26 (.slice none 0 0) (.slice none 0 0) ∧ Box2 wr b7 26 (.slice B1 i1 k1) (.slice (some ⟨g, 0, none⟩) N N) ∧ Own Im 3 (fun k => w.heap.size + 3 ≤ k ∧ k ≠ g ∧ k ≠ b7) wr (.slice B1 i1 k1) (dropI axes 0 sh) ∧ Own Rm 54 (fun k => w.heap.size + 3 ≤ k ∧ k ≠ b7) wr (.slice (some ⟨g, 0, none⟩) N N) ((sumL (plc sh axes) (es.map qOf) N j).map canR) ∧ Fr (fun k => k < w.heap.size) w wr) (fun i _ => es.length - (intOf i).toNat)
  case atStart => exact ⟨0, Nat.zero_le _, rfl, x0, x1, x2, x7, oS, oE, F⟩
  case round =>
    clear x0 x1 x2 x7 oS oE F
    obtain ⟨j, hj, rfl, x0, x1, x2, x7, oS, oE, F⟩ := hrel
    by_cases hlt : j < es.length
    case neg =>
      obtain rfl : j = es.length := by omega
      have a0 := x7.c0
      have a1 := x7.c1
      go_wp2_with ((with_reducible apply wpList_st2); rfl; rfl; exact x2; exact ten2; rfl; rfl; intro w9 B9 F9)
      refine bodyPost_ret (results_cell2_tmp rfl rfl B9 Tryz.underlying26 ten2) rfl ?_
      rw [hNN.out]
      exact ⟨_, _, _, _, _, _, rfl, fun h => absurd rfl h, fun _ => ⟨(oS.past F9 fun k hk => by omega).mono fun k hk => by omega, (oE.past F9 fun k hk => by omega).mono fun k hk => by omega⟩, F.comp F9 fun k _ hk => ⟨hk, by omega⟩⟩
    obtain ⟨ad, P, n, d, Q, m, o, rfl, hS, g0, g1, g2, r1, r2⟩ := Rm_get (HE.out.fr F) hlt
    have hlen := hL.out _ (List.getElem_mem hlt)
    have hq : (es.map qOf).getD j 0 = qOf es[j] := by rw [List.getD_eq_getElem?_getD, List.getElem?_map, List.getElem?_eq_getElem hlt]; rfl
    have HQ := Lib.hid hq
    have HLEN := Lib.hid hlen
    generalize es[j] = y at g0 r1 r2 HLEN HQ
    clear hlen hq
    obtain ⟨sy, hsy⟩ : ∃ s, y.1 = s := ⟨_, rfl⟩
    rw [hsy] at g0
    have al := fun R => (Fr.refl R wr).alloc (.cells #[.bool sy, .slice P n d, .slice Q m o] 54)
    have xy := Box3.new wr 54 (.bool sy) (.slice P n d) (.slice Q m o)
    replace x0 := x0.keep (al _)
    replace x1 := Box.fr x1 (al (fun _ => True)) trivial
    replace x2 := x2.keep (al _)
    replace x7 := x7.keep (al _)
    replace oS := oS.keep' (al _)
    replace oE := oE.keep' (al _)
    replace r1 := r1.fr (al _)
    replace r2 := r2.fr (al _)
    replace F := fr_then F (al _)
    have HSY := Lib.hid hsy
    have PS := Lib.hid (sum1_t _ j w.heap.size b7 (w.heap.size + 1) _ _ _ _ _ sh axes x0 x7 x1 (HA.out.fr F) oS.sl (HX.out.fr F) HMS (Lib.hid (by rw [← HCN.out]; omega)))
    have hpl := plc_lt (axes := axes) H1.out (j := j) (by rw [← HCN.out]; omega)
    rw [HNP.out] at hpl
    have hpn : plc sh axes j < N := by omega
    have HST := Lib.hid (sumL_step (plc sh axes) (es.map qOf) (i := j) hpn)
    rw [HQ.out] at HST
    have HAT := Lib.hid (sumL_at (plc sh axes) (es.map qOf) (i := j) hpn)
    generalize plc sh axes j = pn at PS hpn HST HAT
    have hlK := hK.out pn j hj
    have hlK2 := hK.out pn (j + 1) hlt
    rw [← HAT.out] at hlK
    have HAT2 : Hid (sumP (plc sh axes) (es.map qOf) pn (j + 1) = (sumL (plc sh axes) (es.map qOf) N j).getD pn 0 + qOf y) := Lib.hid (by
      rw [← sumL_at _ _ hpn, HST.out, List.getD_eq_getElem?_getD, List.getElem?_set, if_pos rfl, if_pos (by rw [sumL_len]; exact hpn)]
      rfl)
    clear hpl hsy al
    go_wp2_with fail
    generalize wr.alloc (.cells #[.bool sy, .slice P n d, .slice Q m o] 54) = W at x0 x1 x2 x7 oS oE F r1 r2 xy PS ⊢
    with_reducible refine PS.out.mono ?_
    rintro e u ⟨rfl, hf⟩
    have D := fun R => (Fr.refl R u).drew
    have sF := F.size
    have hw9 : wr.heap.size < W.heap.size := Box3.lt xy
    replace x0 := (x0.keep hf).fr (D (fun _ => True)) trivial
    replace x1 := Box.fr (Box.fr x1 hf (Box.lt x1)) (D (fun _ => True)) trivial
    replace x2 := (x2.keep hf).fr (D (fun _ => True)) trivial
    replace x7 := (x7.keep hf).fr (D (fun _ => True)) trivial
    replace oS := (oS.keep' hf).fr (D _)
    replace oE := (oE.keep' hf).fr (D _)
    replace r1 := (r1.fr (hf.mono fun k _ hk => by omega)).fr (D _)
    replace r2 := (r2.fr (hf.mono fun k _ hk => by omega)).fr (D _)
    replace xy := (Box3.keep xy hf).fr (D (fun _ => True)) trivial
    replace F := (fr_then F hf).drew
    have s4 := hf.size
    obtain ⟨qo, hqo⟩ : ∃ q, (sumL (plc sh axes) (es.map qOf) N j).getD pn 0 = q := ⟨_, rfl⟩
    have hlN : ((sumL (plc sh axes) (es.map qOf) N j).map canR).length = N := by rw [List.length_map, sumL_len]
    have hsl := oE.sl
    rw [show Value.slice (some ⟨g, 0, none⟩) N N = Value.slice (some ⟨g, 0, none⟩) ((sumL (plc sh axes) (es.map qOf) N j).map canR).length N by rw [hlN]] at hsl
    obtain ⟨ad1, P1, n1, d1, Q1, m1, o1, hA1, hS1, z0, z1, z2, t1, t2⟩ := Rm_get hsl (i := pn) (by rw [hlN]; exact hpn)
    cases hA1
    have hge : ((sumL (plc sh axes) (es.map qOf) N j).map canR)[pn]'(by rw [hlN]; exact hpn) = canR qo := by
      rw [List.getElem_map, ← hqo, List.getD_eq_getElem?_getD, List.getElem?_eq_getElem (by rw [sumL_len]; exact hpn)]
      rfl
    rw [hge] at z0 t1 t2
    rw [addr_lit, Nat.zero_add] at z0 z1 z2
    rw [hqo] at hlK HST HAT2
    have RO : RI (fun k => w.heap.size + 3 ≤ k ∧ k ≠ b7) u.drew (sg qo) (.slice P1 n1 d1) (.slice Q1 m1 o1) qo (val (canR qo).2.1) (val (canR qo).2.2) K := by
      have := ri_x (x := canR qo) t1 t2 ⟨hlK.1, hlK.2⟩
      rwa [qOf_can] at this
    have RY : RI (fun k => k < w.heap.size) u.drew sy (.slice P n d) (.slice Q m o) (qOf y) (val y.2.1) (val y.2.2) K := by
      have := ri_x (x := y) r1 r2 ⟨Nat.le_trans HLEN.out.1 hLK, Nat.le_trans HLEN.out.2 hLK⟩
      rwa [HSY.out] at this
    have PADD := Lib.hid (add_h _ _ _ _ _ _ _ _ _ _ _ _ _ K RO RY (by omega) hl)
    replace z0 : u.drew.cell? ⟨g, pn * 3, none⟩ = some (.bool (sg qo)) := z0
    obtain ⟨so, hso⟩ : ∃ s, sg qo = s := ⟨_, rfl⟩
    rw [hso] at PADD z0
    have hgu : g < u.drew.heap.size := by have := oE.lt g rfl; exact this
    have hSD : u.drew.heap.size = u.heap.size := rfl
    obtain ⟨b10, hb10⟩ : ∃ b, wr.heap.size = b := ⟨_, rfl⟩
    rw [hb10] at xy hw9
    have KS : ∀ v, Fr (fun k => k < u.drew.heap.size) u.drew v → v.cell? ⟨g, pn * 3, none⟩ = some (.bool so) ∧ v.cell? ⟨g, pn * 3 + 1, none⟩ = some (.slice P1 n1 d1) ∧ v.cell? ⟨g, pn * 3 + 2, none⟩ = some (.slice Q1 m1 o1) ∧ v.cell? ⟨b7, 1, none⟩ = some (.slice (some ⟨g, 0, none⟩) N N) ∧ v.cell? ⟨b10, 0, none⟩ = some (.bool sy) ∧ v.cell? ⟨b10, 1, none⟩ = some (.slice P n d) ∧ v.cell? ⟨b10, 2, none⟩ = some (.slice Q m o) := fun v h =>
      ⟨h.cell z0 hgu, h.cell z1 hgu, h.cell z2 hgu, (x7.keep h).c1, (Box3.keep xy h).c0, (Box3.keep xy h).c1, (Box3.keep xy h).c2⟩
    have S0 := KS _ (Fr.refl _ _)
    clear hf D PS hsl z0 z1 z2 t1 t2 RO RY hge hqo hso r1 r2
    go_wp2_with fail
    refine wpTill.begin (fun v => v.cell? ⟨g, pn * 3, none⟩ = some (.bool so) ∧ v.cell? ⟨g, pn * 3 + 1, none⟩ = some (.slice P1 n1 d1) ∧ v.cell? ⟨g, pn * 3 + 2, none⟩ = some (.slice Q1 m1 o1) ∧ v.cell? ⟨b7, 1, none⟩ = some (.slice (some ⟨g, 0, none⟩) N N) ∧ v.cell? ⟨b10, 0, none⟩ = some (.bool sy) ∧ v.cell? ⟨b10, 1, none⟩ = some (.slice P n d) ∧ v.cell? ⟨b10, 2, none⟩ = some (.slice Q m o)) 11 (by kernel_rfl) ?_
    change wpTill _ _ _ _ _ _ 12 _ _ _
    refine wpTill.take 0 (.pointer (some ⟨b7, 1, none⟩)) rfl (by kernel_rfl) (by kernel_rfl) (fun _ _ _ h => h) S0 (by rfl) (fun u hu => by go_simp) ?_
    try simp only [Act.put, List.setIfInBounds_toArray, List.set_cons_zero, List.set_cons_succ]
    refine wpTill.take 1 (.slice (some ⟨g, 0, none⟩) N N) rfl (by kernel_rfl) (by kernel_rfl) (fun _ _ _ h => h) S0 (by rfl) (fun u hu => by go_simp) ?_
    try simp only [Act.put, List.setIfInBounds_toArray, List.set_cons_zero, List.set_cons_succ]
    refine wpTill.take 2 (.int .i64 (pn : Int)) rfl (by kernel_rfl) (by kernel_rfl) (fun _ _ _ h => h) S0 (by rfl) (fun u hu => by go_simp) ?_
    try simp only [Act.put, List.setIfInBounds_toArray, List.set_cons_zero, List.set_cons_succ]
    refine wpTill.take 3 (.pointer (some ⟨b7, 1, none⟩)) rfl (by kernel_rfl) (by kernel_rfl) (fun _ _ _ h => h) S0 (by rfl) (fun u hu => by go_simp) ?_
    try simp only [Act.put, List.setIfInBounds_toArray, List.set_cons_zero, List.set_cons_succ]
    refine wpTill.take 4 (.slice (some ⟨g, 0, none⟩) N N) rfl (by kernel_rfl) (by kernel_rfl) (fun _ _ _ h => h) S0 (by rfl) (fun u hu => by go_simp) ?_
    try simp only [Act.put, List.setIfInBounds_toArray, List.set_cons_zero, List.set_cons_succ]
    refine wpTill.take 5 (.int .i64 (pn : Int)) rfl (by kernel_rfl) (by kernel_rfl) (fun _ _ _ h => h) S0 (by rfl) (fun u hu => by go_simp) ?_
    try simp only [Act.put, List.setIfInBounds_toArray, List.set_cons_zero, List.set_cons_succ]
    refine wpTill.take 6 (.pointer (some ⟨g, pn * 3, none⟩)) rfl (by kernel_rfl) (by kernel_rfl) (fun _ _ _ h => h) S0 (by rfl) (fun u hu => by go_simp) ?_
    try simp only [Act.put, List.setIfInBounds_toArray, List.set_cons_zero, List.set_cons_succ]
    refine wpTill.take 7 (.agg #[.bool so, .slice P1 n1 d1, .slice Q1 m1 o1]) rfl (by kernel_rfl) (by kernel_rfl) (fun _ _ _ h => h) S0 (by rfl) (fun u hu => by go_simp) ?_
    try simp only [Act.put, List.setIfInBounds_toArray, List.set_cons_zero, List.set_cons_succ]
    refine wpTill.take 8 (.agg #[.bool sy, .slice P n d, .slice Q m o]) rfl (by kernel_rfl) (by kernel_rfl) (fun _ _ _ h => h) S0 (by rfl) (fun u hu => by go_simp) ?_
    try simp only [Act.put, List.setIfInBounds_toArray, List.set_cons_zero, List.set_cons_succ]
    refine wpTill.next 9 rfl (by kernel_rfl) (by rfl) (fun KC hKC => ?_)
    go_simp
    with_reducible refine PADD.out.mono ?_
    rintro e u2 ⟨s9, v3, v4, rfl, hs9, h9, hf2⟩
    obtain ⟨⟨P9, n9, d9, rfl⟩, ⟨Q9, m9, o9, rfl⟩⟩ := h9.out.form
    have S0 := KS _ hf2
    refine hKC _ _ (fun _ => S0) ?_
    clear hKC KC
    try simp only [Act.put, List.setIfInBounds_toArray, List.set_cons_zero, List.set_cons_succ]
    refine wpTill.take 10 (.pointer (some ⟨g, pn * 3, none⟩)) rfl (by kernel_rfl) (by kernel_rfl) (fun _ _ _ h => h) S0 (by rfl) (fun u hu => by go_simp) ?_
    try simp only [Act.put, List.setIfInBounds_toArray, List.set_cons_zero, List.set_cons_succ]
    have HS9 := Lib.hid hs9.out
    have s2 := hf2.size
    have j7 := x7.keep hf2
    have oE2 := oE.keep' hf2
    have f0 : u2.frozen? ⟨g, pn * 3, none⟩ = false := Fz.free (a := ⟨g, pn * 3, none⟩) (oE2.fz _ rfl)
    have f1 : u2.frozen? ⟨g, pn * 3 + 1, none⟩ = false := Fz.free (a := ⟨g, pn * 3 + 1, none⟩) (oE2.fz _ rfl)
    have f2 : u2.frozen? ⟨g, pn * 3 + 2, none⟩ = false := Fz.free (a := ⟨g, pn * 3 + 2, none⟩) (oE2.fz _ rfl)
    obtain ⟨c0, c1, c2, -⟩ := S0
    refine wpTill.next 11 rfl (by kernel_rfl) (by rfl) (fun KC hKC => ?_)
    go_simp
    refine hKC _ _ (no_wait (by kernel_rfl)) ?_
    clear hKC KC
    try simp only [Act.put, List.setIfInBounds_toArray, List.set_cons_zero, List.set_cons_succ]
    refine wpTill.done (by kernel_rfl) ?_
    have l7' := x7.lt
    have oN := oE2.set3 (i := pn) (by rw [hlN]; exact hpn) (canR (qo + qOf y)) (h9.out.num.own.sl.mono (T := fun k => (w.heap.size + 3 ≤ k ∧ k ≠ b7) ∧ k ≠ g) fun k hk => ⟨⟨by omega, by omega⟩, by omega⟩) (h9.out.den.own.sl.mono (T := fun k => (w.heap.size + 3 ≤ k ∧ k ≠ b7) ∧ k ≠ g) fun k hk => ⟨⟨by omega, by omega⟩, by omega⟩)
    rw [← List.map_set, ← HST.out, show (canR (qo + qOf y)).1 = s9 from HS9.out.symm] at oN
    have FG : Fr (fun k => k ≠ g) u2 (((u2.setCell ⟨g, pn * 3, none⟩ (.bool s9)).setCell ⟨g, pn * 3 + 1, none⟩ (.slice P9 n9 d9)).setCell ⟨g, pn * 3 + 2, none⟩ (.slice Q9 m9 o9)) := ((fr_set1 u2 g (pn * 3) _).trans (fr_set1 _ g (pn * 3 + 1) _)).trans (fr_set1 _ g (pn * 3 + 2) _)
    have y0 := (x0.keep hf2).fr FG (by omega)
    have y1 := Box.fr (Box.fr x1 hf2 (Box.lt x1)) FG (by omega)
    have y2 := (x2.keep hf2).fr FG (by omega)
    have y7 := (x7.keep hf2).fr FG (fun e => hS1.2 e.symm)
    have yS := (oS.keep' hf2).past FG (fun k hk => hk.2.1)
    have FF := (fr_then F hf2).comp FG (R := fun k => k < w.heap.size) fun k _ hk => ⟨hk, by omega⟩
    clear f0 f1 f2 c0 c1 c2 KS
    go_wp2_with fail
    go_roundw
    case rel => exact ⟨j + 1, by omega, by go_num, y0, y1, y2, y7, yS, oN, FF⟩
    case measure => first | (simp [intOf]; done) | (simp [intOf]; omega)
end Go.Proofs.YtlppcfeimpcbjaaGreat


/- fold.Mean. -/
namespace Go.Proofs.YtlppcfeimpcbjaaGreat
open Go.RowKit Go.Shelf
attribute [local go_sem] Oper.semAt_some

theorem may_sum {sh axes : List Int} {l : List Rat} (hm : mayS sh = 0) (hl : (l.length : Int) = pr (dropI axes 0 sh)) : mayT (dropI axes 0 sh) (l.map canR) = 0 := by
  have h := drop_may (axes := axes) hm
  refine mayT_0 (fitsT_0 h (by rw [List.length_map, cntS_ok h, hl])) fun x hx => ?_
  obtain ⟨q, _, rfl⟩ := List.mem_map.1 hx
  exact like_can q
set_option maxRecDepth 100000 in
set_option maxHeartbeats 8000000 in
theorem fmean_t {S T U : Nat → Prop} (w : World) (va ve vx : Value) (sh : List Int) (es : List RatL) (axes : List Int) (L K N : Nat) (by_ : Rat) (r : Int) (hr : Hid (sumE sh es axes = r)) (ha : Sl Im S w va sh) (he : Sl Rm T w ve es) (hx : Sl Im U w vx axes) (hN : Hid ((pr (dropI axes 0 sh)).toNat = N)) (hby : Hid (fr (N : Int) (es.length : Int) = by_)) (hel : es.length ≤ 1048576)
    (hL : Hid (∀ x ∈ es, x.2.1.length ≤ L ∧ x.2.2.length ≤ L)) (hL1 : 2 ≤ L) (hLK : L ≤ K) (hl : K ≤ 104857600) (hK : Hid (∀ n i, i ≤ es.length → Lens K (sumP (plc sh axes) (es.map qOf) n i))) :
    Calls Tryz.prog 14 #[.agg #[va, ve], vx] w (FoldR w (dropI axes 0 sh) (((sumL (plc sh axes) (es.map qOf) N es.length).map fun q => q * by_).map canR) r) := by
  obtain ⟨A, c, rfl, _, _, hlx⟩ := ha.slice
  obtain ⟨A', c', rfl, _, _, hly⟩ := he.slice
  obtain ⟨C, f, rfl, _, _, hlz⟩ := hx.slice
  have F := ((Fr.refl (fun k => k < w.heap.size) w).alloc (.cells #[.slice A sh.length c, .slice A' es.length c'] 26)).alloc (.cells #[.slice none 0 0, .slice none 0 0] 26)
  have x0 := (Box2.new w 26 (.slice A sh.length c) (.slice A' es.length c')).alloc (.cells #[.slice none 0 0, .slice none 0 0] 26)
  have x2 := Box2.new (w.alloc (.cells #[.slice A sh.length c, .slice A' es.length c'] 26)) 26 (.slice none 0 0) (.slice none 0 0)
  simp only [World.size_alloc] at x2
  have HA := Lib.hid (ha.low Im_pos)
  have HE := Lib.hid (he.low Rm_pos)
  have HX := Lib.hid (hx.low Im_pos)
  clear ha he hx
  have a0 := x0.c0
  have a1 := x0.c1
  go_enter Tryz.func14, Tryz.ntmps14
  go_wp2_with fail
  generalize (w.alloc (.cells #[.slice A sh.length c, .slice A' es.length c'] 26)).alloc (.cells #[.slice none 0 0, .slice none 0 0] 26) = W0 at F x0 x2 a0 a1 ⊢
  with_reducible refine (fsum_t _ (.slice A sh.length c) (.slice A' es.length c') (.slice C axes.length f) sh es axes L K r hr (HA.out.fr F) (HE.out.fr F) (HX.out.fr F) hL (by omega) hLK hl hK).mono ?_
  rintro e W1 ⟨A1, n1, c1, A2, n2, c2, rfl, hno, hyes, hf⟩
  rw [hN.out] at hyes
  have al := fun R => (Fr.refl R W1).alloc (.cells #[.slice A1 n1 c1, .slice A2 n2 c2] 26)
  have x6 := Box2.new W1 26 (.slice A1 n1 c1) (.slice A2 n2 c2)
  replace x0 := (x0.keep hf).keep (al _)
  replace x2 := (x2.keep hf).keep (al _)
  have s1 := F.size
  replace F := fr_then (fr_then F hf) (al _)
  by_cases h0 : r = 0
  case neg =>
    obtain ⟨e1, e2⟩ := hno h0
    cases e1
    cases e2
    clear hno hyes
    have hb0 : (r == 0) = false := beq_eq_false_iff_ne.2 h0
    have d0 := x2.c0
    have d1 := x2.c1
    have f0 := x2.free 0
    have f1 := x2.free 1
    have F9 := F.comp (fr_put2 _ (w.heap.size + 1) (.slice none 0 0) (.slice none 0 0)) (R := fun k => k < w.heap.size) fun k _ hk => ⟨hk, by omega⟩
    have y2 := x2.set2 (.slice none 0 0) (.slice none 0 0)
    go_wp2_with fail
    refine bodyPost_ret (results_cell2_tmp rfl rfl y2 Tryz.underlying26 ten2) rfl ?_
    exact ⟨none, 0, 0, none, 0, 0, rfl, fun _ => ⟨rfl, rfl⟩, fun h => absurd h h0, F9⟩
  subst h0
  obtain ⟨o1, o2⟩ := hyes rfl
  have hn2 : n2 = N := by
    obtain ⟨_, _, e, _⟩ := o2.slice
    simp only [Value.slice.injEq, List.length_map, sumL_len] at e
    exact e.2.1
  subst hn2
  have p1 := o1.keep' (al _)
  have p2 := o2.keep' (al _)
  have hm0 : mayT sh es = 0 := by
    have h := hr.out
    unfold sumE at h
    by_cases h1 : mayT sh es = 0
    · exact h1
    · rw [if_pos h1] at h; exact absurd h h1
  obtain ⟨hmS, hcnt, _⟩ := mayT_ok hm0
  rw [cntS_ok hmS] at hcnt
  have hp1 := pr_pos (mayS_ok hmS).2.1
  have hmD := mayS_ok (drop_may (axes := axes) hmS)
  have hp2 := pr_pos hmD.2.1
  have hnN := hN.out
  have hMT := Lib.hid (may_sum (axes := axes) (l := sumL (plc sh axes) (es.map qOf) n2 es.length) hmS (by rw [sumL_len]; omega))
  have hle : n2 ≤ 1024 := by omega
  have hle1 : 1 ≤ n2 := by omega
  have hle2 : 1 ≤ es.length := by omega
  have hd4 := Nat.le_trans (drop_len (axes := axes) (i := 0) (l := sh)) (mayS_ok hmS).1
  clear hm0 hmS hcnt hp1 hmD hp2 hnN hno hyes al o1 o2 a0 a1
  have a0 := x6.c0
  have a1 := x6.c1
  have a2 := x0.c1
  have PF := Lib.hid (frac_n (W1.alloc (.cells #[.slice A1 n1 c1, .slice A2 n2 c2] 26)) (n2 : Int) (es.length : Int) (by omega) (by omega) (by omega) (by omega) (by omega))
  rw [hby.out] at PF
  go_wp2_with fail
  generalize W1.alloc (.cells #[.slice A1 n1 c1, .slice A2 n2 c2] 26) = V0 at x0 x2 x6 F p1 p2 a0 a1 a2 PF ⊢
  with_reducible refine PF.out.mono ?_
  rintro e W2 ⟨v1, v2, rfl, rv, hf⟩
  obtain ⟨P, i1, k1, rfl⟩ := rv.num.own.form
  obtain ⟨Q, i2, k2, rfl⟩ := rv.den.own.form
  have al := fun R => (Fr.refl R W2).alloc (.cells #[.bool (sg by_), .slice P i1 k1, .slice Q i2 k2] 54)
  have x8 := Box3.new W2 54 (.bool (sg by_)) (.slice P i1 k1) (.slice Q i2 k2)
  replace x2 := (x2.keep hf).keep (al _)
  replace x6 := (x6.keep hf).keep (al _)
  replace p1 := (p1.keep' hf).keep' (al _)
  replace p2 := (p2.keep' hf).keep' (al _)
  have q1 := rv.num.own.keep' (al _)
  have q2 := rv.den.own.keep' (al _)
  replace F := fr_then (fr_then F hf) (al _)
  obtain ⟨sb, hsb⟩ : ∃ s, sg by_ = s := ⟨_, rfl⟩
  have hlb := And.intro rv.num.len rv.den.len
  have PS := Lib.hid (pscale_t _ _ _ _ _ (dropI axes 0 sh) ((sumL (plc sh axes) (es.map qOf) n2 es.length).map canR) (canR by_) K 0 hMT p1.sl p2.sl q1.sl q2.sl (Lib.hid fun x hx => by
    obtain ⟨q, hq, rfl⟩ := List.mem_map.1 hx
    obtain ⟨n, _, rfl⟩ := List.mem_map.1 hq
    exact hK.out n es.length (Nat.le_refl _)) (Lib.hid (show (dg LB by_.num.natAbs).length ≤ K ∧ (dg LB by_.den).length ≤ K from ⟨by omega, by omega⟩)) (by omega) hl (by omega) (by rw [List.length_map, sumL_len]; omega))
  rw [show (canR by_).1 = sb from hsb, show ((sumL (plc sh axes) (es.map qOf) n2 es.length).map canR).map (fun x => canR (qOf x * qOf (canR by_))) = ((sumL (plc sh axes) (es.map qOf) n2 es.length).map fun q => q * by_).map canR by simp only [List.map_map, Function.comp_def, qOf_can]] at PS
  rw [hsb] at x2 x6 x8 p1 p2 q1 q2 F PS al ⊢
  have c0 := x6.c0
  have c1 := x6.c1
  have e0 := Box3.c0 x8
  have e1 := Box3.c1 x8
  have e2 := Box3.c2 x8
  clear a0 a1 a2 PF hf al rv q1 q2 x0
  go_wp2_with fail
  generalize W2.alloc (.cells #[.bool sb, .slice P i1 k1, .slice Q i2 k2] 54) = V1 at x2 x6 F p1 p2 c0 c1 e0 e1 e2 PS ⊢
  with_reducible refine PS.out.mono ?_
  rintro e W3 ⟨B1, j1, l1, B2, j2, l2, rfl, hno, hyes, hf⟩
  obtain ⟨o1, o2⟩ := hyes rfl
  have s9 := F.size
  have l9 := x2.lt
  replace x2 := x2.keep hf
  replace F := fr_then F hf
  clear c0 c1 e0 e1 e2 PS hf hyes hno
  go_wp2_with ((with_reducible apply wpList_st2); rfl; rfl; exact x2; exact ten2; rfl; rfl; intro w9 B9 F9)
  refine bodyPost_ret (results_cell2_tmp rfl rfl B9 Tryz.underlying26 ten2) rfl ?_
  exact ⟨_, _, _, _, _, _, rfl, fun h => absurd rfl h, fun _ => ⟨(o1.past F9 fun k hk => by omega).mono fun k hk => by omega, (o2.rm.past F9 fun k hk => by omega).mono fun k hk => by omega⟩, F.comp F9 fun k _ hk => ⟨hk, by omega⟩⟩
end Go.Proofs.YtlppcfeimpcbjaaGreat

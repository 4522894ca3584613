import Derived.Test.YtlppcfeimpcbjaaGreatFoldF
import Derived.Test.YtlppcfeimpcbjaaGreatFoV
import Derived.Test.YtlppcfeimpcbjaaGreatPuI
set_option linter.unusedSimpArgs false
set_option linter.unusedVariables false

/- FoldTotal: printed by gen_foz.py. -/
namespace Go.Proofs.YtlppcfeimpcbjaaGreat
open Go.RowKit

theorem kf_sum {sh axes sh' : List Int} {a : List Rat} {M K : Nat} (f : KF sh a M) (hd : dropI axes 0 sh = sh') (hK : a.length * (M + 1) + 1 ≤ K) (ht : K ≤ 1048578) : KF sh' (sumL (plc sh axes) a (pr sh').toNat a.length) K := by
  have hmd := drop_may (axes := axes) (mayT_ok f.may).1
  rw [hd] at hmd
  obtain ⟨h1, h2, h3⟩ := mayS_ok hmd
  have hp := pr_pos h2
  exact ⟨by omega, by rw [sumL_len]; omega, mayT_can hmd (by rw [sumL_len]; omega), fun q hq => (lensl_sum _ f.lens f.one _ _ q hq).wide hK, by omega, ht⟩
theorem sum_k {w : World} {sh axes sh' : List Int} {qs a : List Rat} {x y v : Value} {M K : Nat} (h : TV sh (a.map canR) w x y) (g : Sl Im (fun _ => True) w v axes) (fa : Hid (KF sh a M)) (hax : Hid (axE axes sh.length = 0)) (hd : Hid (dropI axes 0 sh = sh')) (hq : Hid (sumL (plc sh axes) a (pr sh').toNat a.length = qs)) (hK : Hid (a.length * (M + 1) + 1 ≤ K ∧ M ≤ K ∧ K ≤ 104857600)) :
    Calls Tryz.prog 13 #[.agg #[x, y], v] w (Ret w (Tup 0 (TC 0 sh' (qs.map canR)))) :=
  sum_u (K := K) h g (Lib.hid fa.out.fit) (Lib.hid ((if_neg (by rw [fa.out.may]; simp)).trans hax.out)) hd (Lib.hid (by rw [List.length_map, List.map_map, show (qOf ∘ canR) = id from funext fun q => qOf_can q, List.map_id]; exact hq.out)) (Lib.hid (by rw [List.length_map]; exact hK.out))

/-- all axes of a shape -/
def iotaI (n : Nat) : List Int := (List.range n).map fun (i : Nat) => (i : Int)
theorem iota_len (n : Nat) : (iotaI n).length = n := by rw [iotaI, List.length_map, List.length_range]
theorem iota_step (n : Nat) : iotaI (n + 1) = iotaI n ++ [(n : Int)] := by rw [iotaI, List.range_succ, List.map_append]; rfl
theorem iota_at {n i : Nat} (h : i < n) : (iotaI n).getD i 0 = (i : Int) := by
  rw [iotaI, List.getD_eq_getElem?_getD, List.getElem?_map, List.getElem?_range h]
  rfl
theorem iota_rise (n : Nat) : Rise (iotaI n) := fun i hi => by
  rw [iota_len] at hi
  rw [iota_at hi]
  exact ⟨by omega, fun h => by rw [iota_at (by omega)]; omega⟩
theorem iota_mem {n : Nat} {x : Int} : x ∈ iotaI n ↔ ∃ i : Nat, i < n ∧ (i : Int) = x := by
  rw [iotaI, List.mem_map]
  exact ⟨fun ⟨i, h, e⟩ => ⟨i, List.mem_range.1 h, e⟩, fun ⟨i, h, e⟩ => ⟨i, List.mem_range.2 h, e⟩⟩
theorem iota_drop (sh : List Int) : dropI (iotaI sh.length) 0 sh = [] := drop_all fun k _ h => iota_mem.2 ⟨k, by omega, rfl⟩
theorem iota_sum {sh : List Int} {q : List Rat} (h : ∀ d ∈ sh, 1 ≤ d) (hq : (q.length : Int) = pr sh) : sumL (plc sh (iotaI sh.length)) q (pr []).toNat q.length = [sumN (fun j => q.getD j 0) q.length] :=
  sumL_one _ _ _ fun j hj => by
    have h1 := (plc_lt (axes := iotaI sh.length) h (j := j) (by omega)).2
    rw [iota_drop, show pr [] = 1 from rfl] at h1
    omega
/-- a row of one of the document's numbers -/
theorem one_q {w : World} {q : Rat} {a b : Value} {K : Nat} (h : RR (fun _ => True) w a b q K) : Sl (Rk K) (fun _ => True) (w.alloc (.cells #[.bool (sg q), a, b] 58)) (.slice (some ⟨w.heap.size, 0, none⟩) 1 1) [q] :=
  (Own.single (K := Rk K) (e := 58) (S := fun _ => True) (x := q) (cs := [.bool (sg q), a, b]) w trivial ⟨a, b, rfl, h.low.mono fun k hk => ⟨trivial, hk⟩⟩).sl

set_option maxRecDepth 20000 in
set_option maxHeartbeats 32000000 in
theorem ftotal_walk {S T U : Nat → Prop} {sha axes : List Int} {ea el : List RatL} (w : World) (vx vl vy : Value) (L : Nat) (hx : TL S w vx sha ea L) (hl : RS T w vl el L) (hy : Sl Im U w vy axes) (_hl : axes.length ≤ L) (hL : L ≤ 1048576) :
    Calls Tryz.prog 8 #[vx, vl, vy] w fun e w' => e = .returned (.bool true) ∧ Fr (fun k => k < w.heap.size) w w' := by
  have FA := Lib.hid (hx.fit hL)
  obtain ⟨va, ve, rfl, ha, he⟩ := hx.ex
  obtain ⟨A, c, rfl, _, _, _⟩ := ha.slice
  obtain ⟨A', c', rfl, _, _, _⟩ := he.slice
  obtain ⟨B, d, rfl, _, _, lB⟩ := hl.sl.slice
  obtain ⟨C, f, rfl, _, _, _⟩ := hy.slice
  have HA := TV.hold ⟨ha.any, he.any⟩
  have HX : Hold (fun u => Sl Im (fun _ => True) u (.slice C axes.length f) axes) w := fun _ hu => hy.any.keep' Im_pos hu
  have HAl := Lib.hid (And.intro (ha.low Im_pos) (he.low Rm_pos))
  have HXl := Lib.hid (hy.low Im_pos)
  have HLl := Lib.hid (hl.sl.low Rm_pos)
  clear hx ha he hy hl
  have F := ((Fr.refl (fun k => k < w.heap.size) w).alloc (.cells #[.slice A sha.length c, .slice A' ea.length c'] 26))
  have xa := (Box2.new w 26 (.slice A sha.length c) (.slice A' ea.length c'))
  replace HA := HA.keep (F.mono fun k h _ => h)
  replace HX := HX.keep (F.mono fun k h _ => h)
  generalize hn1 : el.length = n1 at *
  have HN1 := Lib.hid hn1
  obtain ⟨b1, hb1⟩ : ∃ b, few10B ea = b := ⟨_, rfl⟩
  have HB1 := Lib.hid hb1
  obtain ⟨b2, hb2⟩ : ∃ b, axB axes sha.length = b := ⟨_, rfl⟩
  have HB2 := Lib.hid hb2
  obtain ⟨r0, hr0⟩ : ∃ r, mayT sha ea = r := ⟨_, rfl⟩
  have HR0 := Lib.hid hr0
  clear hb1 hb2 hr0 hn1
  have KN : ∀ (V : World), Fr (fun k => k < w.heap.size) w V → Calls Tryz.prog 12 #[] V fun e u => e = .returned (.bool true) ∧ Fr (fun k => k < w.heap.size) w u := fun V hV => (known10_u V).mono fun e u h => by
    obtain ⟨_, rfl, hf, h⟩ := h
    obtain rfl := h.now
    exact ⟨rfl, fr_then hV hf⟩
  go_enter Tryz.func8, Tryz.ntmps8
  have P := Lib.hid (few10_u HA.now HB1)
  have pp30 := xa.c0
  have pp31 := xa.c1
  go_wp2_with fail
  clear pp30 pp31
  with_reducible refine P.out.mono ?_
  rintro e V1 ⟨v, rfl, hf, H⟩
  obtain rfl := H.now
  replace xa := xa.keep hf
  replace HA := HA.keep hf
  replace HX := HX.keep hf
  replace F := fr_then F hf
  clear P hf H
  cases b1 with
  | false =>
    have P := Lib.hid (known10_u V1)
    have pp30 := xa.c0
    have pp31 := xa.c1
    go_wp2_with fail
    clear pp30 pp31
    with_reducible refine P.out.mono ?_
    rintro e V2 ⟨v, rfl, hf, H⟩
    obtain rfl := H.now
    replace xa := xa.keep hf
    replace HA := HA.keep hf
    replace HX := HX.keep hf
    replace F := fr_then F hf
    clear P hf H
    have pp30 := xa.c0
    have pp31 := xa.c1
    go_wp2_with fail
    clear pp30 pp31
    go_ret
    exact ⟨rfl, F⟩
  | true =>
    have GA := fit3 FA.out HB1.out
    have G3 := Lib.hid GA.1
    have h64 := GA.2
    clear GA
    have P := Lib.hid (may_u HA.now G3 HR0)
    have pp30 := xa.c0
    have pp31 := xa.c1
    go_wp2_with fail
    clear pp30 pp31
    with_reducible refine P.out.mono ?_
    rintro e V3 ⟨v, rfl, hf, H⟩
    obtain rfl := H.now
    replace xa := xa.keep hf
    replace HA := HA.keep hf
    replace HX := HX.keep hf
    replace F := fr_then F hf
    clear P hf H
    by_cases h0 : r0 = 0
    case neg =>
      have hb0 : (r0 == 0) = false := beq_eq_false_iff_ne.2 h0
      have P := Lib.hid (known10_u V3)
      have pp30 := xa.c0
      have pp31 := xa.c1
      go_wp2_with fail
      clear pp30 pp31
      with_reducible refine P.out.mono ?_
      rintro e V4 ⟨v, rfl, hf, H⟩
      obtain rfl := H.now
      replace xa := xa.keep hf
      replace HA := HA.keep hf
      replace HX := HX.keep hf
      replace F := fr_then F hf
      clear P hf H
      have pp30 := xa.c0
      have pp31 := xa.c1
      go_wp2_with fail
      clear pp30 pp31
      go_ret
      exact ⟨rfl, F⟩
    subst h0
    have P := Lib.hid (r6axes_u HX.now HB2)
    have pp30 := xa.c0
    have pp31 := xa.c1
    go_wp2_with fail
    clear pp30 pp31
    with_reducible refine P.out.mono ?_
    rintro e V5 ⟨v, rfl, hf, H⟩
    obtain rfl := H.now
    replace xa := xa.keep hf
    replace HA := HA.keep hf
    replace HX := HX.keep hf
    replace F := fr_then F hf
    clear P hf H
    cases b2 with
    | false =>
      have P := Lib.hid (known10_u V5)
      have pp30 := xa.c0
      have pp31 := xa.c1
      go_wp2_with fail
      clear pp30 pp31
      with_reducible refine P.out.mono ?_
      rintro e V6 ⟨v, rfl, hf, H⟩
      obtain rfl := H.now
      replace xa := xa.keep hf
      replace HA := HA.keep hf
      replace HX := HX.keep hf
      replace F := fr_then F hf
      clear P hf H
      have pp30 := xa.c0
      have pp31 := xa.c1
      go_wp2_with fail
      clear pp30 pp31
      go_ret
      exact ⟨rfl, F⟩
    | true =>
      by_cases hn0 : 0 < n1
      case neg =>
        have z1 : ((n1 : Int) == 0) = true := beq_iff_eq.2 (by omega)
        have P := Lib.hid (known10_u V5)
        have pp30 := xa.c0
        have pp31 := xa.c1
        go_wp2_with fail
        clear pp30 pp31
        with_reducible refine P.out.mono ?_
        rintro e V7 ⟨v, rfl, hf, H⟩
        obtain rfl := H.now
        replace xa := xa.keep hf
        replace HA := HA.keep hf
        replace HX := HX.keep hf
        replace F := fr_then F hf
        clear P hf H
        have pp30 := xa.c0
        have pp31 := xa.c1
        go_wp2_with fail
        clear pp30 pp31
        go_ret
        exact ⟨rfl, F⟩
      have z1 : ((n1 : Int) == 0) = false := beq_eq_false_iff_ne.2 (by omega)
      by_cases hn64 : 64 < n1
      case pos =>
        have P := Lib.hid (known10_u V5)
        have pp30 := xa.c0
        have pp31 := xa.c1
        go_wp2_with fail
        clear pp30 pp31
        with_reducible refine P.out.mono ?_
        rintro e V8 ⟨v, rfl, hf, H⟩
        obtain rfl := H.now
        replace xa := xa.keep hf
        replace HA := HA.keep hf
        replace HX := HX.keep hf
        replace F := fr_then F hf
        clear P hf H
        have pp30 := xa.c0
        have pp31 := xa.c1
        go_wp2_with fail
        clear pp30 pp31
        go_ret
        exact ⟨rfl, F⟩
      have pp30 := xa.c0
      have pp31 := xa.c1
      go_wp2_with fail
      clear pp30 pp31
      have al := fun R => (Fr.refl R V5).alloc (.cells #[.slice A sha.length c, .slice none 0 0] 26)
      have x7 := Box2.new V5 26 (.slice A sha.length c) (.slice none 0 0)
      have lxa := xa.lt
      replace xa := xa.keep (al _)
      replace F := fr_then F (al _)
      clear al HA HX
      obtain ⟨b7, hb7⟩ : ∃ b, V5.heap.size = b := ⟨_, rfl⟩
      rw [hb7] at x7 lxa ⊢
      clear hb7
      generalize V5.alloc (.cells #[.slice A sha.length c, .slice none 0 0] 26) = V at xa x7 F ⊢
      have HT1 := Lib.hid (Rm_lt (HLl.out.fr F))
      have LE := Lib.hid (HLl.out.fr F)
      have lV := xa.lt
      have lV7 := x7.lt
      go_loopw [8] (fun k W => ∃ (j : Nat) (v1 : Value), k = .int .i64 j ∧ j ≤ ea.length ∧ Box2 W b7 26 (.slice A sha.length c) v1 ∧ Own Rm 54 (fun k => V.heap.size ≤ k) W v1 ((rot el j).map canR) ∧ Hid (LensL 3 (rot el j)) ∧ Fr (fun k => k < V.heap.size ∧ k ≠ b7) V W) (fun k _ => ea.length - (intOf k).toNat)
      case atStart => exact ⟨0, _, rfl, by omega, x7, Own.nil _ _ _ _, Lib.hid (fun q hq => by simp [rot] at hq), Fr.refl _ _⟩
      case round =>
        clear x7
        obtain ⟨j, v1, rfl, hj, x7, o1, HQ, GV⟩ := hrel
        obtain ⟨A3, i3, j3, rfl⟩ := o1.form
        have szW := GV.size
        have xw := xa.fr GV ⟨by omega, by omega⟩
        have p1 := xw.c1
        by_cases hlt : j < ea.length
        case pos =>
          have hm1 : j % el.length < el.length := Nat.mod_lt _ (by rw [HN1.out]; exact hn0)
          have HS1 := Lib.hid (rot_step el j hm1)
          have tx := HT1.out _ (List.getElem_mem hm1)
          have LW : Sl Rm (fun k => k < w.heap.size) wr (.slice B el.length d) el := by
            rw [HN1.out]
            exact LE.out.fr (GV.mono fun k _ hk => ⟨by omega, by omega⟩)
          obtain ⟨ad, P, l1, d1, Q, l2, d2, rfl, hS, g0, g1, g2, r1, r2⟩ := Rm_get LW hm1
          have hr1 : (j : Int).tmod (n1 : Int) = ((j % el.length : Nat) : Int) := by rw [HN1.out]; exact (Int.ofNat_tmod j n1).symm
          generalize el[j % el.length] = x at g0 r1 r2 tx HS1
          generalize j % el.length = m1 at hm1 hr1 g0 g1 g2
          rw [HN1.out] at hm1
          have hy1 : l1 = x.2.1.length := by obtain ⟨_, _, e, _⟩ := r1.slice; cases e; rfl
          have hy2 : l2 = x.2.2.length := by obtain ⟨_, _, e, _⟩ := r2.slice; cases e; rfl
          have HE := Lib.hid (show l1 ≤ 3 → l2 ≤ 3 → (x.2.1.length ≤ 3 ∧ x.2.2.length ≤ 3) ∧ Lens 3 (qOf x) from fun h1 h2 => ⟨⟨by omega, by omega⟩, qOf_len tx (by omega) (by omega) (by omega)⟩)
          have HLV := Lib.hid (LV.hold ⟨r1.any, r2.any⟩)
          have al := fun R => (Fr.refl R wr).alloc (.cells #[.bool x.1, .slice P l1 d1, .slice Q l2 d2] 54)
          have z9 := Box3.new wr 54 (.bool x.1) (.slice P l1 d1) (.slice Q l2 d2)
          have FF : Fr (fun k => k < w.heap.size) w (wr.alloc (.cells #[.bool x.1, .slice P l1 d1, .slice Q l2 d2] 54)) := (F.comp GV (R := fun k => k < w.heap.size) fun k _ hk => ⟨hk, by omega, by omega⟩).comp (al (fun k => k < w.heap.size)) fun k _ hk => ⟨hk, hk⟩
          clear hS r1 r2 tx LW hy1 hy2
          have k1 := z9.c1
          have k2 := z9.c2
          by_cases h1 : 3 < l1
          · go_wp2_with fail
            with_reducible refine (KN _ FF).mono ?_
            rintro e V9 ⟨rfl, F9⟩
            go_wp2_with fail
            go_ret
            exact ⟨rfl, F9⟩
          by_cases h2 : 3 < l2
          · go_wp2_with fail
            with_reducible refine (KN _ FF).mono ?_
            rintro e V9 ⟨rfl, F9⟩
            go_wp2_with fail
            go_ret
            exact ⟨rfl, F9⟩
          obtain ⟨hx3, hl3⟩ := HE.out (by omega) (by omega)
          have HX3 := Lib.hid hx3
          have HL3 := Lib.hid hl3
          clear HE hx3 hl3
          go_wp2_with fail
          clear k1 k2 g0 g1 g2 hr1 p1
          replace HLV := Lib.hid (HLV.out.keep (al _))
          have y7 := x7.keep (al _)
          have oU := o1.keep' (al _)
          have GU := GV.comp (al (fun _ => True)) (R := fun k => k < V.heap.size ∧ k ≠ b7) fun k _ hk => ⟨hk, trivial⟩
          obtain ⟨b9, hb9⟩ : ∃ b, wr.heap.size = b := ⟨_, rfl⟩
          have lU := z9.lt
          have lt3 := o1.lt
          have in3 := o1.in_
          have l7 := x7.lt
          rw [hb9] at z9 lU lt3 l7 szW ⊢
          clear hb9 al x7 o1 GV xw
          generalize wr.alloc (.cells #[.bool x.1, .slice P l1 d1, .slice Q l2 d2] 54) = U at y7 oU GU z9 HLV FF lU ⊢
          have DD := fun R => (Fr.refl R U).drew
          have y7d := y7.keep (DD _)
          have oUd := oU.keep' (DD _)
          have z9d := z9.fr (DD (fun _ => True)) trivial
          have HLD := Lib.hid (HLV.out.keep (DD _))
          have hUd : U.drew.heap.size = U.heap.size := rfl
          have KS : ∀ v, Fr (fun κ => κ < U.drew.heap.size ∧ some κ ≠ (Value.slice A3 i3 j3).ownBlock) U.drew v → v.cell? ⟨b7, 1, none⟩ = some (.slice A3 i3 j3) ∧ v.cell? ⟨b9, 0, none⟩ = some (.bool x.1) ∧ v.cell? ⟨b9, 1, none⟩ = some (.slice P l1 d1) ∧ v.cell? ⟨b9, 2, none⟩ = some (.slice Q l2 d2) := fun v h => by
            have n7 : b7 < U.drew.heap.size ∧ some b7 ≠ (Value.slice A3 i3 j3).ownBlock := ⟨by omega, fun e => by have := in3 _ e.symm; omega⟩
            have n9 : b9 < U.drew.heap.size ∧ some b9 ≠ (Value.slice A3 i3 j3).ownBlock := ⟨by omega, fun e => by have := lt3 _ e.symm; omega⟩
            exact ⟨(y7d.fr h n7).c1, (z9d.fr h n9).c0, (z9d.fr h n9).c1, (z9d.fr h n9).c2⟩
          have S0 := KS _ (Fr.refl _ _)
          refine wpTill.begin (fun v => v.cell? ⟨b7, 1, none⟩ = some (.slice A3 i3 j3) ∧ v.cell? ⟨b9, 0, none⟩ = some (.bool x.1) ∧ v.cell? ⟨b9, 1, none⟩ = some (.slice P l1 d1) ∧ v.cell? ⟨b9, 2, none⟩ = some (.slice Q l2 d2)) 8 (by kernel_rfl) ?_
          change wpTill _ _ _ _ _ _ 9 _ _ _
          refine wpTill.take 0 (.pointer (some ⟨b7, 1, none⟩)) rfl (by kernel_rfl) (by kernel_rfl) (fun _ _ _ h => h) S0 (by rfl) (fun u hu => by go_simp) ?_
          try simp only [Act.put, List.setIfInBounds_toArray, List.set_cons_zero, List.set_cons_succ]
          refine wpTill.take 1 (.slice A3 i3 j3) rfl (by kernel_rfl) (by kernel_rfl) (fun _ _ _ h => h) S0 (by rfl) (fun u hu => by go_simp) ?_
          try simp only [Act.put, List.setIfInBounds_toArray, List.set_cons_zero, List.set_cons_succ]
          refine wpTill.take 2 (.agg #[.bool x.1, .slice P l1 d1, .slice Q l2 d2]) rfl (by kernel_rfl) (by kernel_rfl) (fun _ _ _ h => h) S0 (by rfl) (fun u hu => by go_simp) ?_
          try simp only [Act.put, List.setIfInBounds_toArray, List.set_cons_zero, List.set_cons_succ]
          refine wpTill.next 3 rfl (by kernel_rfl) (by rfl) (fun KC hKC => ?_)
          go_simp
          with_reducible refine (rof_u (x := x) HLD.out.now HX3 (by decide) (by decide)).mono ?_
          rintro e u1 ⟨v, rfl, hf1, HQ1⟩
          obtain ⟨A5, i5, j5, B5, k5, m5, rfl, -⟩ := HQ1.now
          refine hKC _ _ (fun _ => KS _ (hf1.mono fun κ _ hκ => hκ.1)) ?_
          clear hKC KC
          try simp only [Act.put, List.setIfInBounds_toArray, List.set_cons_zero, List.set_cons_succ]
          refine wpTill.next 4 rfl (by kernel_rfl) (by rfl) (fun KC hKC => ?_)
          go_simp
          with_reducible refine (rback_u HQ1.now rfl hf1.size (by decide) (HL3.out.wide (by decide))).mono ?_
          rintro e u2 ⟨v, rfl, hf2, HQ2⟩
          obtain ⟨A6, i6, j6, B6, k6, m6, rfl, -⟩ := HQ2.now
          have G2 := hf1.trans (hf2.mono fun κ hk hκ => by have := hf1.size; omega)
          refine hKC _ _ (fun _ => KS _ (G2.mono fun κ _ hκ => hκ.1)) ?_
          clear hKC KC
          try simp only [Act.put, List.setIfInBounds_toArray, List.set_cons_zero, List.set_cons_succ]
          have one := one_e HQ2.now.out G2.size
          have al5 := fun R => (Fr.refl R u2).alloc (.cells #[.bool (sg (qOf x)), .slice A6 i6 j6, .slice B6 k6 m6] 54)
          have G5 := fr_then G2 (al5 _)
          refine wpTill.next 5 rfl (by kernel_rfl) (by rfl) (fun KC hKC => ?_)
          go_simp
          refine hKC _ _ (fun _ => KS _ (G5.mono fun κ _ hκ => hκ.1)) ?_
          clear hKC KC
          try simp only [Act.put, List.setIfInBounds_toArray, List.set_cons_zero, List.set_cons_succ]
          obtain ⟨b5, e5, sl5⟩ := one.now
          cases e5
          have y75 := y7d.keep G5
          have oU5 := oUd.keep' G5
          have s5 := G5.size
          clear HQ1 HQ2 one hf1 hf2 G2 al5
          generalize u2.alloc (.cells #[.bool (sg (qOf x)), .slice A6 i6 j6, .slice B6 k6 m6] 54) = u4 at sl5 y75 oU5 G5 s5 ⊢
          generalize u2.heap.size = b5 at sl5 ⊢
          refine wpTill.next 6 rfl (by kernel_rfl) (by rfl) (fun KC hKC => ?_)
          refine oper_push rmT (v := .slice A3 i3 j3) (xv := .slice (some ⟨b5, 0, none⟩) 1 1) (S := fun k => V.heap.size ≤ k) (T := fun k => U.drew.heap.size ≤ k) rfl rfl rfl oU5 sl5 (fun z cs hr => Rm.mono (fun k hk => ⟨by omega, fun e => by have := lt3 k e.symm; omega⟩) hr) (fun k hk => by omega) (by rw [List.length_map, rot_len]; simp only [List.length_singleton]; omega) (by rw [List.length_map, rot_len]; simp only [List.length_singleton]; omega) ?_
          intro v7 u5 ho hfr hat
          obtain ⟨A9, i9, q9, rfl⟩ := ho.form
          have G6 := (G5.mono fun κ _ (hκ : κ < U.drew.heap.size ∧ some κ ≠ (Value.slice A3 i3 j3).ownBlock) => hκ.1).trans (hfr.mono fun κ _ hκ => hκ.2)
          have S0 := KS _ G6
          refine hKC _ _ (fun _ => S0) ?_
          clear hKC KC
          try simp only [Act.put, List.setIfInBounds_toArray, List.set_cons_zero, List.set_cons_succ]
          refine wpTill.take 7 (.pointer (some ⟨b7, 1, none⟩)) rfl (by kernel_rfl) (by kernel_rfl) (fun _ _ _ h => h) S0 (by rfl) (fun u hu => by go_simp) ?_
          try simp only [Act.put, List.setIfInBounds_toArray, List.set_cons_zero, List.set_cons_succ]
          have y76 := y75.fr hfr (fun e => by have := in3 _ e.symm; omega)
          have e0 := y76.c1
          have e1 := y76.free 1
          clear S0 KS
          refine wpTill.next 8 rfl (by kernel_rfl) (by rfl) (fun KC hKC => ?_)
          go_simp
          refine hKC _ _ (no_wait (by kernel_rfl)) ?_
          clear hKC KC
          try simp only [Act.put, List.setIfInBounds_toArray, List.set_cons_zero, List.set_cons_succ]
          refine wpTill.done (by kernel_rfl) ?_
          have F9 := fr_set1 u5 b7 1 (.slice A9 i9 q9)
          have y9 := y76.set1 (.slice A9 i9 q9)
          have o9 := ho.past F9 (fun k hk => by omega)
          have G9 := ((GU.trans ((DD _).trans (G5.mono fun k hk hh => by have := GU.size; omega))).comp hfr (R := fun k => k < V.heap.size ∧ k ≠ b7) fun k _ hk => ⟨hk, fun e => by have := in3 _ e.symm; omega⟩).comp F9 (R := fun k => k < V.heap.size ∧ k ≠ b7) fun k _ hk => ⟨hk, hk.2⟩
          clear e0 e1
          go_wp2_with fail
          go_roundw
          case rel => exact ⟨j + 1, _, by go_num, by omega, y9, by rw [rot_can HS1.out]; exact o9, Lib.hid (by rw [HS1.out]; exact lensl_snoc HQ.out HL3.out), G9⟩
          case measure => first | (simp [intOf]; done) | (simp [intOf]; omega)
        case neg =>
          obtain rfl : j = ea.length := by omega
          have F1 : Fr (fun k => k < w.heap.size) w wr := F.comp GV (R := fun k => k < w.heap.size) fun k _ hk => ⟨hk, by omega, by omega⟩
          have hea := may_eq HR0.out
          have HA : Hold (fun u => TV sha ((ea.map qOf).map canR) u (.slice A sha.length c) (.slice A' ea.length c')) wr := TV.hold (by rw [← hea]; exact ⟨(HAl.out.1.fr F1).any, (HAl.out.2.fr F1).any⟩)
          have HX : Hold (fun u => Sl Im (fun _ => True) u (.slice C axes.length f) axes) wr := fun _ hu => (HXl.out.fr F1).any.keep' Im_pos hu
          have H7 : Hold (fun u => TV sha ((rot el ea.length).map canR) u (.slice A sha.length c) (.slice A3 i3 j3)) wr := TV.hold ⟨(HAl.out.1.fr F1).any, o1.sl.any⟩
          have KA := Lib.hid (show KF sha (ea.map qOf) 3 from ⟨FA.out.nsh, by rw [List.length_map]; exact FA.out.nes, by rw [← hea]; exact HR0.out, fun q hq => G3.out.lens q hq, by decide, by decide⟩)
          have KB := Lib.hid (show KF sha (rot el ea.length) 3 from ⟨FA.out.nsh, by rw [rot_len]; exact FA.out.nes, may_can HR0.out (rot_len _ _), HQ.out, by decide, by decide⟩)
          have hax := of_decide_eq_true HB2.out
          have HAX := Lib.hid (axE_0 hax.1 hax.2)
          obtain ⟨qa, hqa⟩ : ∃ q, ea.map qOf = q := ⟨_, rfl⟩
          obtain ⟨qb, hqb⟩ : ∃ q, rot el ea.length = q := ⟨_, rfl⟩
          have hla : qa.length = ea.length := by rw [← hqa, List.length_map]
          have hlb : qb.length = ea.length := by rw [← hqb, rot_len]
          have HQA := Lib.hid hqa
          rw [hqa] at HA KA
          rw [hqb] at H7 KB
          have hzl : (List.zipWith (fun p q => p + q) qa qb).length = ea.length := by rw [List.length_zipWith]; omega
          have KC := Lib.hid (show KF sha (List.zipWith (fun p q => p + q) qa qb) 7 from KF.zip (fun h g => lens_add' h g) KA.out KB.out (by decide) (by decide))
          obtain ⟨sh', hsh⟩ : ∃ q, dropI axes 0 sha = q := ⟨_, rfl⟩
          obtain ⟨sA, hsA⟩ : ∃ q, sumL (plc sha axes) qa (pr sh').toNat qa.length = q := ⟨_, rfl⟩
          obtain ⟨sB, hsB⟩ : ∃ q, sumL (plc sha axes) qb (pr sh').toNat qb.length = q := ⟨_, rfl⟩
          have hAB : sumL (plc sha axes) (List.zipWith (fun p q => p + q) qa qb) (pr sh').toNat (List.zipWith (fun p q => p + q) qa qb).length = List.zipWith (fun p q => p + q) sA sB := by
            rw [hzl, ← hla, sumL_add _ _ _ (hla.trans hlb.symm), hsA, hla.trans hlb.symm, hsB]
          have KA2 := kf_sum (K := 300) KA.out hsh (by omega) (by decide)
          have KB2 := kf_sum (K := 300) KB.out hsh (by omega) (by decide)
          have KC2 := kf_sum (K := 600) KC.out hsh (by omega) (by decide)
          rw [hsA] at KA2
          rw [hsB] at KB2
          rw [hAB] at KC2
          replace KA2 := Lib.hid KA2
          replace KB2 := Lib.hid KB2
          have F16 := Lib.hid KC2.fit
          have HSH := Lib.hid hsh
          have HSA := Lib.hid hsA
          have HSB := Lib.hid hsB
          have HAB := Lib.hid hAB
          have HKA : Hid (qa.length * (3 + 1) + 1 ≤ 300 ∧ 3 ≤ 300 ∧ 300 ≤ 104857600) := Lib.hid (by omega)
          have HKB : Hid (qb.length * (3 + 1) + 1 ≤ 300 ∧ 3 ≤ 300 ∧ 300 ≤ 104857600) := Lib.hid (by omega)
          have HKC : Hid ((List.zipWith (fun p q => p + q) qa qb).length * (7 + 1) + 1 ≤ 600 ∧ 7 ≤ 600 ∧ 600 ≤ 104857600) := Lib.hid (by omega)
          have HLA := Lib.hid hla
          clear hea hax hqa hqb hla hlb hzl hsh hsA hsB hAB KC2 o1 HQ GV hlt hj p1 xa F LE HT1
          have P := Lib.hid (add_k HA.now H7.now KA KB)
          have pp30 := xw.c0
          have pp31 := xw.c1
          have pp70 := x7.c0
          have pp71 := x7.c1
          go_wp2_with fail
          clear pp30 pp31 pp70 pp71
          with_reducible refine P.out.mono ?_
          rintro e W10 ⟨v, rfl, hf, H⟩
          obtain ⟨A10, n10, c10, B10, m10, k10, rfl, -⟩ := H.now
          have al := fun R => (Fr.refl R W10).alloc (.cells #[.slice A10 n10 c10, .slice B10 m10 k10] 26)
          replace xw := xw.keep hf
          replace x7 := x7.keep hf
          replace HA := HA.keep hf
          replace H7 := H7.keep hf
          replace HX := HX.keep hf
          replace F1 := fr_then F1 hf
          replace xw := xw.keep (al _)
          replace x7 := x7.keep (al _)
          replace HA := HA.keep (al _)
          replace H7 := H7.keep (al _)
          replace HX := HX.keep (al _)
          replace F1 := fr_then F1 (al _)
          have z10 := Box2.new W10 26 (.slice A10 n10 c10) (.slice B10 m10 k10)
          have H10 : Hold (fun u => TC 0 sha ((List.zipWith (fun p q => p + q) qa qb).map canR) u (.slice A10 n10 c10) (.slice B10 m10 k10)) (W10.alloc (.cells #[.slice A10 n10 c10, .slice B10 m10 k10] 26)) := (H.mono fun _ h => h.out).keep (al _)
          clear P hf H al
          have P := Lib.hid (sum_k (K := 300) HA.now HX.now KA HAX HSH HSA HKA)
          have pp30 := xw.c0
          have pp31 := xw.c1
          have pp70 := x7.c0
          have pp71 := x7.c1
          have pp100 := z10.c0
          have pp101 := z10.c1
          go_wp2_with fail
          clear pp30 pp31 pp70 pp71 pp100 pp101
          generalize W10.alloc (.cells #[.slice A10 n10 c10, .slice B10 m10 k10] 26) = U10 at *
          generalize W10.heap.size = b10 at *
          with_reducible refine P.out.mono ?_
          rintro e W12 ⟨v, rfl, hf, H⟩
          obtain ⟨A12, n12, c12, B12, m12, k12, rfl, -⟩ := H.now
          have al := fun R => (Fr.refl R W12).alloc (.cells #[.slice A12 n12 c12, .slice B12 m12 k12] 26)
          replace xw := xw.keep hf
          replace x7 := x7.keep hf
          replace z10 := z10.keep hf
          replace HA := HA.keep hf
          replace H7 := H7.keep hf
          replace H10 := H10.keep hf
          replace HX := HX.keep hf
          replace F1 := fr_then F1 hf
          replace xw := xw.keep (al _)
          replace x7 := x7.keep (al _)
          replace z10 := z10.keep (al _)
          replace HA := HA.keep (al _)
          replace H7 := H7.keep (al _)
          replace H10 := H10.keep (al _)
          replace HX := HX.keep (al _)
          replace F1 := fr_then F1 (al _)
          have z12 := Box2.new W12 26 (.slice A12 n12 c12) (.slice B12 m12 k12)
          have H12 : Hold (fun u => TC 0 sh' (sA.map canR) u (.slice A12 n12 c12) (.slice B12 m12 k12)) (W12.alloc (.cells #[.slice A12 n12 c12, .slice B12 m12 k12] 26)) := (H.mono fun _ h => h.out).keep (al _)
          clear P hf H al
          have P := Lib.hid (sum_k (K := 300) H7.now HX.now KB HAX HSH HSB HKB)
          have pp30 := xw.c0
          have pp31 := xw.c1
          have pp70 := x7.c0
          have pp71 := x7.c1
          have pp100 := z10.c0
          have pp101 := z10.c1
          have pp120 := z12.c0
          have pp121 := z12.c1
          go_wp2_with fail
          clear pp30 pp31 pp70 pp71 pp100 pp101 pp120 pp121
          generalize W12.alloc (.cells #[.slice A12 n12 c12, .slice B12 m12 k12] 26) = U12 at *
          generalize W12.heap.size = b12 at *
          with_reducible refine P.out.mono ?_
          rintro e W14 ⟨v, rfl, hf, H⟩
          obtain ⟨A14, n14, c14, B14, m14, k14, rfl, -⟩ := H.now
          have al := fun R => (Fr.refl R W14).alloc (.cells #[.slice A14 n14 c14, .slice B14 m14 k14] 26)
          replace xw := xw.keep hf
          replace x7 := x7.keep hf
          replace z10 := z10.keep hf
          replace z12 := z12.keep hf
          replace HA := HA.keep hf
          replace H7 := H7.keep hf
          replace H10 := H10.keep hf
          replace H12 := H12.keep hf
          replace HX := HX.keep hf
          replace F1 := fr_then F1 hf
          replace xw := xw.keep (al _)
          replace x7 := x7.keep (al _)
          replace z10 := z10.keep (al _)
          replace z12 := z12.keep (al _)
          replace HA := HA.keep (al _)
          replace H7 := H7.keep (al _)
          replace H10 := H10.keep (al _)
          replace H12 := H12.keep (al _)
          replace HX := HX.keep (al _)
          replace F1 := fr_then F1 (al _)
          have z14 := Box2.new W14 26 (.slice A14 n14 c14) (.slice B14 m14 k14)
          have H14 : Hold (fun u => TC 0 sh' (sB.map canR) u (.slice A14 n14 c14) (.slice B14 m14 k14)) (W14.alloc (.cells #[.slice A14 n14 c14, .slice B14 m14 k14] 26)) := (H.mono fun _ h => h.out).keep (al _)
          clear P hf H al
          have P := Lib.hid (sum_k (K := 600) (H10.now.2 rfl) HX.now KC HAX HSH HAB HKC)
          have pp30 := xw.c0
          have pp31 := xw.c1
          have pp70 := x7.c0
          have pp71 := x7.c1
          have pp100 := z10.c0
          have pp101 := z10.c1
          have pp120 := z12.c0
          have pp121 := z12.c1
          have pp140 := z14.c0
          have pp141 := z14.c1
          go_wp2_with fail
          clear pp30 pp31 pp70 pp71 pp100 pp101 pp120 pp121 pp140 pp141
          generalize W14.alloc (.cells #[.slice A14 n14 c14, .slice B14 m14 k14] 26) = U14 at *
          generalize W14.heap.size = b14 at *
          with_reducible refine P.out.mono ?_
          rintro e W16 ⟨v, rfl, hf, H⟩
          obtain ⟨A16, n16, c16, B16, m16, k16, rfl, -⟩ := H.now
          have al := fun R => (Fr.refl R W16).alloc (.cells #[.slice A16 n16 c16, .slice B16 m16 k16] 26)
          replace xw := xw.keep hf
          replace x7 := x7.keep hf
          replace z10 := z10.keep hf
          replace z12 := z12.keep hf
          replace z14 := z14.keep hf
          replace HA := HA.keep hf
          replace H7 := H7.keep hf
          replace H10 := H10.keep hf
          replace H12 := H12.keep hf
          replace H14 := H14.keep hf
          replace HX := HX.keep hf
          replace F1 := fr_then F1 hf
          replace xw := xw.keep (al _)
          replace x7 := x7.keep (al _)
          replace z10 := z10.keep (al _)
          replace z12 := z12.keep (al _)
          replace z14 := z14.keep (al _)
          replace HA := HA.keep (al _)
          replace H7 := H7.keep (al _)
          replace H10 := H10.keep (al _)
          replace H12 := H12.keep (al _)
          replace H14 := H14.keep (al _)
          replace HX := HX.keep (al _)
          replace F1 := fr_then F1 (al _)
          have z16 := Box2.new W16 26 (.slice A16 n16 c16) (.slice B16 m16 k16)
          have H16 : Hold (fun u => TC 0 sh' ((List.zipWith (fun p q => p + q) sA sB).map canR) u (.slice A16 n16 c16) (.slice B16 m16 k16)) (W16.alloc (.cells #[.slice A16 n16 c16, .slice B16 m16 k16] 26)) := (H.mono fun _ h => h.out).keep (al _)
          clear P hf H al
          have P := Lib.hid (add_k (H12.now.2 rfl) (H14.now.2 rfl) KA2 KB2)
          have pp30 := xw.c0
          have pp31 := xw.c1
          have pp70 := x7.c0
          have pp71 := x7.c1
          have pp100 := z10.c0
          have pp101 := z10.c1
          have pp120 := z12.c0
          have pp121 := z12.c1
          have pp140 := z14.c0
          have pp141 := z14.c1
          have pp160 := z16.c0
          have pp161 := z16.c1
          go_wp2_with fail
          clear pp30 pp31 pp70 pp71 pp100 pp101 pp120 pp121 pp140 pp141 pp160 pp161
          generalize W16.alloc (.cells #[.slice A16 n16 c16, .slice B16 m16 k16] 26) = U16 at *
          generalize W16.heap.size = b16 at *
          with_reducible refine P.out.mono ?_
          rintro e W18 ⟨v, rfl, hf, H⟩
          obtain ⟨A18, n18, c18, B18, m18, k18, rfl, -⟩ := H.now
          have al := fun R => (Fr.refl R W18).alloc (.cells #[.slice A18 n18 c18, .slice B18 m18 k18] 26)
          replace xw := xw.keep hf
          replace x7 := x7.keep hf
          replace z10 := z10.keep hf
          replace z12 := z12.keep hf
          replace z14 := z14.keep hf
          replace z16 := z16.keep hf
          replace HA := HA.keep hf
          replace H7 := H7.keep hf
          replace H10 := H10.keep hf
          replace H12 := H12.keep hf
          replace H14 := H14.keep hf
          replace H16 := H16.keep hf
          replace HX := HX.keep hf
          replace F1 := fr_then F1 hf
          replace xw := xw.keep (al _)
          replace x7 := x7.keep (al _)
          replace z10 := z10.keep (al _)
          replace z12 := z12.keep (al _)
          replace z14 := z14.keep (al _)
          replace z16 := z16.keep (al _)
          replace HA := HA.keep (al _)
          replace H7 := H7.keep (al _)
          replace H10 := H10.keep (al _)
          replace H12 := H12.keep (al _)
          replace H14 := H14.keep (al _)
          replace H16 := H16.keep (al _)
          replace HX := HX.keep (al _)
          replace F1 := fr_then F1 (al _)
          have z18 := Box2.new W18 26 (.slice A18 n18 c18) (.slice B18 m18 k18)
          have H18 : Hold (fun u => TC 0 sh' ((List.zipWith (fun p q => p + q) sA sB).map canR) u (.slice A18 n18 c18) (.slice B18 m18 k18)) (W18.alloc (.cells #[.slice A18 n18 c18, .slice B18 m18 k18] 26)) := (H.mono fun _ h => h.out).keep (al _)
          clear P hf H al
          have P := Lib.hid (tsame_u (H16.now.2 rfl) (H18.now.2 rfl) F16 F16 rfl (Lib.hid rfl))
          have pp30 := xw.c0
          have pp31 := xw.c1
          have pp70 := x7.c0
          have pp71 := x7.c1
          have pp100 := z10.c0
          have pp101 := z10.c1
          have pp120 := z12.c0
          have pp121 := z12.c1
          have pp140 := z14.c0
          have pp141 := z14.c1
          have pp160 := z16.c0
          have pp161 := z16.c1
          have pp180 := z18.c0
          have pp181 := z18.c1
          go_wp2_with fail
          clear pp30 pp31 pp70 pp71 pp100 pp101 pp120 pp121 pp140 pp141 pp160 pp161 pp180 pp181
          generalize W18.alloc (.cells #[.slice A18 n18 c18, .slice B18 m18 k18] 26) = U18 at *
          generalize W18.heap.size = b18 at *
          with_reducible refine P.out.mono ?_
          rintro e V9 ⟨v, rfl, hf, H⟩
          obtain rfl := H.now
          replace xw := xw.keep hf
          replace x7 := x7.keep hf
          replace z10 := z10.keep hf
          replace z12 := z12.keep hf
          replace z14 := z14.keep hf
          replace z16 := z16.keep hf
          replace z18 := z18.keep hf
          replace HA := HA.keep hf
          replace H7 := H7.keep hf
          replace H10 := H10.keep hf
          replace H12 := H12.keep hf
          replace H14 := H14.keep hf
          replace H16 := H16.keep hf
          replace H18 := H18.keep hf
          replace HX := HX.keep hf
          replace F1 := fr_then F1 hf
          clear P hf H
          have b0 := xw.c0
          have b1' := xw.c1
          go_wp2_with fail
          clear b0 b1' KC KA2 KB2 F16 HSA HSB HAB HKB HKC KB H7 H10 H12 H14 H16 H18 x7 z10 z12 z14 z16 z18 HX HSH HAX
          with_reducible refine (rint_s _ 0 (by decide) (by decide)).mono ?_
          rintro e W6 ⟨s0, v3, v4, rfl, hs0, h0, hf⟩
          obtain ⟨⟨Q1, m3, k3, rfl⟩, ⟨Q2, m4, k4, rfl⟩⟩ := h0.out.form
          have al := fun R => (Fr.refl R W6).alloc (.cells #[.bool s0, .slice Q1 m3 k3, .slice Q2 m4 k4] 58)
          have z21 := Box3.new W6 58 (.bool s0) (.slice Q1 m3 k3) (.slice Q2 m4 k4)
          have m21 : w.heap.size < W6.heap.size := (xw.keep hf).lt
          replace xw := (xw.keep hf).keep (al _)
          replace HA := (HA.keep hf).keep (al _)
          replace F1 := fr_then (fr_then F1 hf) (al _)
          have HR21 := Lib.hid (show RR (fun k => k ≠ W6.heap.size) _ _ _ (sumN (fun j => qa.getD j 0) 0) 900 from (((h0.out.bd.fr (al _)).mono fun k hk => by omega).wide (by decide)))
          have HS21 := Lib.hid (show s0 = sg (sumN (fun j => qa.getD j 0) 0) from hs0.out)
          have b0 := xw.c0
          go_wp2_with fail
          obtain ⟨b21, hb21⟩ : ∃ b, W6.heap.size = b := ⟨_, rfl⟩
          have l21 := xw.lt
          rw [hb21] at z21 HR21 m21 ⊢
          clear hb21 h0 hs0 hf al b0
          generalize W6.alloc (.cells #[.bool s0, .slice Q1 m3 k3, .slice Q2 m4 k4] 58) = W7 at xw HA F1 z21 HR21 l21 ⊢
          have lz := z21.lt
          go_loopw [20, 22] (fun o k W => ∃ (j : Nat), j ≤ sha.length ∧ k = .int .i64 j ∧ Own Im 3 (fun k => W7.heap.size ≤ k) W o (iotaI j) ∧ Fr (fun k => k < W7.heap.size) W7 W) (fun _ k _ => sha.length - (intOf k).toNat)
          case atStart => exact ⟨0, Nat.zero_le _, rfl, Own.nil _ _ _ _, Fr.refl _ _⟩
          case round =>
            obtain ⟨j, hj, rfl, ho, F2⟩ := hrel
            obtain ⟨B1, n2, d2, rfl⟩ := ho.form
            have b0 := (xw.keep F2).c0
            have hsl := KA.out.nsh
            by_cases hlj : j < sha.length
            case pos =>
              have HR := Lib.hid (show Im.rd (fun _ => False) wr (j : Int) [.int .i64 (j : Int)] from ⟨rfl, by omega, by omega⟩)
              have HLn := Lib.hid (show ((iotaI j).length + 1) * 8 ≤ 140737488355328 ∧ (iotaI j).length + 1 ≤ 9223372036854775807 by rw [iota_len]; omega)
              go_wp2_with (at_builtin; refine wpList_push1 (v := .slice B1 n2 d2) imT2 rfl rfl rfl rfl ho HR.out (fun _ h => h.elim) (fun k hk => by have := F2.size; omega) HLn.out.1 HLn.out.2 ?_; intro v' w1 hown hfr hat; obtain ⟨B3, n3, d3, rfl⟩ := hown.form)
              go_roundw
              case rel => exact ⟨j + 1, by omega, by go_num, by rw [iota_step]; exact hown, F2.push ho hfr (fun k hk _ => by omega)⟩
              case measure => first | (simp [intOf]; done) | (simp [intOf]; omega)
            case neg =>
              obtain rfl : j = sha.length := by omega
              rename World => W8
              have x8 := xw.keep F2
              have b1' := x8.c1
              have HA8 := HA.keep F2
              have F8 := fr_then F1 F2
              have z8 := z21.keep F2
              have HR8 := Lib.hid (HR21.out.keep F2)
              have oA := ho.bd
              have s8 := F2.size
              have hea := KA.out.na
              have l8 := x8.lt
              go_wp2_with fail
              clear b0 b1' F2 xw HA F1 z21 HR21 ho
              go_loopw [23] (fun k W => ∃ (i : Nat) (t : Bool) (w1 w2 : Value), i ≤ ea.length ∧ k = .int .i64 i ∧ Box3 W b21 58 (.bool t) w1 w2 ∧ Hid (t = sg (sumN (fun j => qa.getD j 0) i)) ∧ Hid (RR (fun k => k ≠ b21) W w1 w2 (sumN (fun j => qa.getD j 0) i) 900) ∧ Fr (fun k => k < W8.heap.size ∧ k ≠ b21) W8 W) (fun k _ => ea.length - (intOf k).toNat)
              case atStart => exact ⟨0, _, _, _, Nat.zero_le _, rfl, z8, HS21, HR8, Fr.refl _ _⟩
              case round =>
                clear z8 HR8 HS21
                obtain ⟨i, t, w1, w2, hi, rfl, z9, HT, HR, F3⟩ := hrel
                obtain ⟨⟨Q3, ia, ja, rfl⟩, ⟨Q4, ib, jb, rfl⟩⟩ := HR.out.form
                have FW : Fr (fun k => k < w.heap.size) w wr := F8.comp F3 (R := fun k => k < w.heap.size) fun k _ hk => ⟨hk, by omega, by omega⟩
                have x9 := x8.fr F3 ⟨by omega, by omega⟩
                have b1' := x9.c1
                by_cases hli : i < ea.length
                case pos =>
                  obtain ⟨ad, P, l1, d1, Q, l2, d2, hA', hS, g0, g1, g2, r1, r2⟩ := Rm_get (HAl.out.2.fr FW.drew) hli
                  subst hA'
                  have hx3 := G3.out.lx _ (List.getElem_mem hli)
                  have hST : sumN (fun j => qa.getD j 0) (i + 1) = sumN (fun j => qa.getD j 0) i + qOf ea[i] := by
                    show sumN (fun j => qa.getD j 0) i + qa.getD i 0 = _
                    rw [← HQA.out, List.getD_eq_getElem?_getD, List.getElem?_map, List.getElem?_eq_getElem hli]
                    rfl
                  have HST := Lib.hid hST
                  have HX3 := Lib.hid hx3
                  have hB := lens_db (N := 900) (lens_sum (M := 3) (f := fun j => qa.getD j 0) (n := i + 1) fun j _ => lens_at KA.out.lens (by decide) j) (by omega)
                  clear hST hx3
                  generalize ea[i] = x at g0 r1 r2 HST HX3
                  have DD := fun R => (Fr.refl R wr).drew
                  have HLD := Lib.hid (LV.hold ⟨r1.any, r2.any⟩)
                  have x9d := x9.fr (DD (fun _ => True)) trivial
                  have z9d := z9.fr (DD (fun _ => True)) trivial
                  have HRd := Lib.hid (HR.out.fr (DD _))
                  have hWd : wr.drew.heap.size = wr.heap.size := rfl
                  have lz9 := z9.lt
                  have lx9 := x9.lt
                  have KS : ∀ v, Fr (fun κ => κ < wr.drew.heap.size) wr.drew v → v.cell? ⟨b21, 0, none⟩ = some (.bool t) ∧ v.cell? ⟨b21, 1, none⟩ = some (.slice Q3 ia ja) ∧ v.cell? ⟨b21, 2, none⟩ = some (.slice Q4 ib jb) ∧ v.cell? ⟨w.heap.size, 1, none⟩ = some (.slice (some ad) ea.length c') ∧ v.cell? (ad.add (i * 3)) = some (.bool x.1) ∧ v.cell? ⟨(ad.add (i * 3)).block, (ad.add (i * 3)).off + 1, none⟩ = some (.slice P l1 d1) ∧ v.cell? ⟨(ad.add (i * 3)).block, (ad.add (i * 3)).off + 2, none⟩ = some (.slice Q l2 d2) := fun v h =>
                    ⟨(z9d.keep h).c0, (z9d.keep h).c1, (z9d.keep h).c2, (x9d.keep h).c1, h.cell g0 (World.block_lt_of_cell? _ _ g0), h.cell g1 (World.block_lt_of_cell? _ _ g1), h.cell g2 (World.block_lt_of_cell? _ _ g2)⟩
                  have S0 := KS _ (Fr.refl _ _)
                  clear g0 g1 g2 hS r1 r2
                  go_wp2_with fail
                  clear b1'
                  refine wpTill.begin (fun v => v.cell? ⟨b21, 0, none⟩ = some (.bool t) ∧ v.cell? ⟨b21, 1, none⟩ = some (.slice Q3 ia ja) ∧ v.cell? ⟨b21, 2, none⟩ = some (.slice Q4 ib jb) ∧ v.cell? ⟨w.heap.size, 1, none⟩ = some (.slice (some ad) ea.length c') ∧ v.cell? (ad.add (i * 3)) = some (.bool x.1) ∧ v.cell? ⟨(ad.add (i * 3)).block, (ad.add (i * 3)).off + 1, none⟩ = some (.slice P l1 d1) ∧ v.cell? ⟨(ad.add (i * 3)).block, (ad.add (i * 3)).off + 2, none⟩ = some (.slice Q l2 d2)) 8 (by kernel_rfl) ?_
                  change wpTill _ _ _ _ _ _ 9 _ _ _
                  refine wpTill.take 0 (.agg #[.bool t, .slice Q3 ia ja, .slice Q4 ib jb]) rfl (by kernel_rfl) (by kernel_rfl) (fun _ _ _ h => h) S0 (by rfl) (fun u hu => by go_simp) ?_
                  try simp only [Act.put, List.setIfInBounds_toArray, List.set_cons_zero, List.set_cons_succ]
                  refine wpTill.take 1 (.pointer (some ⟨w.heap.size, 1, none⟩)) rfl (by kernel_rfl) (by kernel_rfl) (fun _ _ _ h => h) S0 (by rfl) (fun u hu => by go_simp) ?_
                  try simp only [Act.put, List.setIfInBounds_toArray, List.set_cons_zero, List.set_cons_succ]
                  refine wpTill.take 2 (.slice (some ad) ea.length c') rfl (by kernel_rfl) (by kernel_rfl) (fun _ _ _ h => h) S0 (by rfl) (fun u hu => by go_simp) ?_
                  try simp only [Act.put, List.setIfInBounds_toArray, List.set_cons_zero, List.set_cons_succ]
                  refine wpTill.take 3 (.int .i64 (i : Int)) rfl (by kernel_rfl) (by kernel_rfl) (fun _ _ _ h => h) S0 (by rfl) (fun u hu => by go_simp) ?_
                  try simp only [Act.put, List.setIfInBounds_toArray, List.set_cons_zero, List.set_cons_succ]
                  refine wpTill.take 4 (.pointer (some (ad.add (i * 3)))) rfl (by kernel_rfl) (by kernel_rfl) (fun _ _ _ h => h) S0 (by rfl) (fun u hu => by go_simp) ?_
                  try simp only [Act.put, List.setIfInBounds_toArray, List.set_cons_zero, List.set_cons_succ]
                  refine wpTill.take 5 (.agg #[.bool x.1, .slice P l1 d1, .slice Q l2 d2]) rfl (by kernel_rfl) (by kernel_rfl) (fun _ _ _ h => h) S0 (by rfl) (fun u hu => by go_simp) ?_
                  try simp only [Act.put, List.setIfInBounds_toArray, List.set_cons_zero, List.set_cons_succ]
                  refine wpTill.next 6 rfl (by kernel_rfl) (by rfl) (fun KC hKC => ?_)
                  go_simp
                  with_reducible refine (rof_u (x := x) HLD.out.now HX3 (by decide) (by decide)).mono ?_
                  rintro e u1 ⟨v, rfl, hf1, HQ1⟩
                  obtain ⟨A5, i5, j5, B5, k5, m5, rfl, -⟩ := HQ1.now
                  refine hKC _ _ (fun _ => KS _ hf1) ?_
                  clear hKC KC
                  try simp only [Act.put, List.setIfInBounds_toArray, List.set_cons_zero, List.set_cons_succ]
                  refine wpTill.next 7 rfl (by kernel_rfl) (by rfl) (fun KC hKC => ?_)
                  go_simp
                  with_reducible refine (radd_h _ t (sg (qOf x)) (.slice Q3 ia ja) (.slice Q4 ib jb) (.slice A5 i5 j5) (.slice B5 k5 m5) (sumN (fun j => qa.getD j 0) i) (qOf x) 900 (Lib.hid (HRd.out.keep hf1)) (Lib.hid (HQ1.now.out.wide (by decide))) HT (Lib.hid rfl) (by decide) (by decide)).mono ?_
                  rintro e u2 ⟨s9, v5, v6, rfl, hs9, h9, hf2⟩
                  obtain ⟨⟨Q7, i7, j7, rfl⟩, ⟨Q8, i8, j8, rfl⟩⟩ := h9.out.form
                  have S1 := hf1.size
                  have G2 : Fr (fun κ => κ < wr.drew.heap.size) wr.drew u2 := fr_then hf1 hf2
                  refine hKC _ _ (fun _ => KS _ G2) ?_
                  clear hKC KC
                  try simp only [Act.put, List.setIfInBounds_toArray, List.set_cons_zero, List.set_cons_succ]
                  have y9 := z9d.keep G2
                  have e0 := y9.c0
                  have e1 := y9.c1
                  have e2 := y9.c2
                  have e3 := y9.free 0
                  have e4 := y9.free 1
                  have e5 := y9.free 2
                  clear S0 KS
                  refine wpTill.next 8 rfl (by kernel_rfl) (by rfl) (fun KC hKC => ?_)
                  go_simp
                  refine hKC _ _ (no_wait (by kernel_rfl)) ?_
                  clear hKC KC
                  try simp only [Act.put, List.setIfInBounds_toArray, List.set_cons_zero, List.set_cons_succ]
                  refine wpTill.done (by kernel_rfl) ?_
                  have F9 := fr_set3 u2 b21 (.bool s9) (.slice Q7 i7 j7) (.slice Q8 i8 j8)
                  have k9 := y9.set3 (.bool s9) (.slice Q7 i7 j7) (.slice Q8 i8 j8)
                  have GG := ((F3.drew.trans (G2.mono fun κ hk hκ => hk)).comp F9 (R := fun k => k < W8.heap.size ∧ k ≠ b21) fun κ _ hκ => ⟨hκ, hκ.2⟩)
                  have hv := h9.out.past F9 (fun κ hκ => by omega)
                  rw [← HST.out] at hv
                  have HV2 := Lib.hid ((hv.mono (T := fun κ => κ ≠ b21) fun κ hκ => by omega).sizes hB.1 hB.2)
                  have hs9o := hs9.out
                  rw [← HST.out] at hs9o
                  have HS9 := Lib.hid hs9o
                  clear e0 e1 e2 e3 e4 e5 F9 hv hs9o
                  go_wp2_with fail
                  go_roundw
                  case rel => exact ⟨i + 1, _, _, _, by omega, by go_num, k9, HS9, HV2, GG⟩
                  case measure => first | (simp [intOf]; done) | (simp [intOf]; omega)
                case neg =>
                  obtain rfl : i = ea.length := by omega
                  have HA9 : Hold (fun u => TV sha (qa.map canR) u (.slice A sha.length c) (.slice A' ea.length c')) wr := TV.hold (by rw [← HQA.out, ← may_eq HR0.out]; exact ⟨(HAl.out.1.fr FW).any, (HAl.out.2.fr FW).any⟩)
                  have HO : Hold (fun u => Sl Im (fun _ => True) u (.slice B1 n2 d2) (iotaI sha.length)) wr := by
                    have h := (oA.past F3 fun k hk => ⟨hk.2, by omega⟩).sl.any
                    exact fun _ hu => h.keep' Im_pos hu
                  have HRt : Hold (fun u => RR (fun _ => True) u (.slice Q3 ia ja) (.slice Q4 ib jb) (sumN (fun j => qa.getD j 0) ea.length) 900) wr := fun _ hu => (HR.out.keep hu).mono fun _ _ => trivial
                  have hma := mayT_ok HR0.out
                  have hcm : (qa.length : Int) = pr sha := by rw [HLA.out, hma.2.1, cntS_ok hma.1]
                  have HQI := Lib.hid (iota_sum (mayS_ok hma.1).2.1 hcm)
                  have HDI := Lib.hid (iota_drop sha)
                  have HAI := Lib.hid (show axE (iotaI sha.length) sha.length = 0 from axE_0 (iota_rise sha.length) fun x hx => by obtain ⟨i, hi, rfl⟩ := iota_mem.1 hx; omega)
                  have hTL : Lens 300 (sumN (fun j => qa.getD j 0) ea.length) := (lens_sum (M := 3) fun j _ => lens_at KA.out.lens (by decide) j).wide (by omega)
                  rw [HLA.out] at HQI
                  obtain ⟨tt, htt⟩ : ∃ q, sumN (fun j => qa.getD j 0) ea.length = q := ⟨_, rfl⟩
                  rw [htt] at HQI HRt HT hTL
                  rw [← HLA.out] at HQI
                  have HTL := Lib.hid hTL
                  clear htt hTL hma hcm F3 HR x8 HA8 F8 oA b1'
                  have t0 := HT.out
                  subst t0
                  clear HT
                  have P := Lib.hid (sum_k (K := 300) HA9.now HO.now KA HAI HDI HQI HKA)
                  have pp30 := x9.c0
                  have pp31 := x9.c1
                  go_wp2_with fail
                  clear pp30 pp31
                  with_reducible refine P.out.mono ?_
                  rintro e W24 ⟨v, rfl, hf, H⟩
                  obtain ⟨A24, n24, c24, B24, m24, k24, rfl, -⟩ := H.now
                  have al := fun R => (Fr.refl R W24).alloc (.cells #[.slice A24 n24 c24, .slice B24 m24 k24] 26)
                  replace x9 := x9.keep hf
                  replace HA9 := HA9.keep hf
                  replace HO := HO.keep hf
                  replace HRt := HRt.keep hf
                  replace z9 := z9.keep hf
                  replace FW := fr_then FW hf
                  replace x9 := x9.keep (al _)
                  replace HA9 := HA9.keep (al _)
                  replace HO := HO.keep (al _)
                  replace HRt := HRt.keep (al _)
                  replace z9 := z9.keep (al _)
                  replace FW := fr_then FW (al _)
                  have z24 := Box2.new W24 26 (.slice A24 n24 c24) (.slice B24 m24 k24)
                  have H24 : Hold (fun u => TC 0 [] ([tt].map canR) u (.slice A24 n24 c24) (.slice B24 m24 k24)) (W24.alloc (.cells #[.slice A24 n24 c24, .slice B24 m24 k24] 26)) := (H.mono fun _ h => h.out).keep (al _)
                  clear P hf H al
                  have AB := fun R => (Fr.refl R (W24.alloc (.cells #[.slice A24 n24 c24, .slice B24 m24 k24] 26))).alloc (.cells #[.bool (sg tt), .slice Q3 ia ja, .slice Q4 ib jb] 58)
                  have P := Lib.hid (tis_t ((W24.alloc (.cells #[.slice A24 n24 c24, .slice B24 m24 k24] 26)).alloc (.cells #[.bool (sg tt), .slice Q3 ia ja, .slice Q4 ib jb] 58)) _ _ _ _ [] [tt] 300 900 (Sl.nil Im (fun _ => True) _) (one_q HRt.now) ((H24.keep (AB _)).now.2 rfl).1 ((H24.keep (AB _)).now.2 rfl).2 (fun q hq => by rw [List.mem_singleton] at hq; rw [hq]; exact HTL.out) (by decide))
                  rw [World.size_alloc] at P
                  have y0 := z9.c0
                  have y1 := z9.c1
                  have y2 := z9.c2
                  have pp30 := x9.c0
                  have pp31 := x9.c1
                  have pp240 := z24.c0
                  have pp241 := z24.c1
                  go_wp2_with fail
                  clear y0 y1 y2 pp30 pp31 pp240 pp241
                  with_reducible refine P.out.mono ?_
                  rintro e V99 ⟨rfl, hf⟩
                  have FE := fr_then (fr_then FW (AB _)) hf
                  clear P AB
                  go_wp2_with fail
                  with_reducible refine (KN _ FE).mono ?_
                  rintro e V98 ⟨rfl, F98⟩
                  go_wp2_with fail
                  go_ret
                  exact ⟨rfl, F98⟩
end Go.Proofs.YtlppcfeimpcbjaaGreat

import Derived.Test.YtlppcfeimpcbjaaGreatFoQ
set_option linter.unusedSimpArgs false
set_option linter.unusedVariables false

/- fluxionref10.Sum: printed by gen_for.py. -/
namespace Go.Proofs.YtlppcfeimpcbjaaGreat
open Go.RowKit Go.Shelf
attribute [local go_sem] Oper.semAt_some

theorem r6drop_u {w : World} {A B : Option Addr} {n c m e : Nat} {sh axes : List Int} (h : Sl Im (fun _ => True) w (.slice A n c) sh) (g : Sl Im (fun _ => True) w (.slice B m e) axes) (hl : sh.length ≤ 1099511627000) :
    Calls Tryz.prog 55 #[.slice A n c, .slice B m e] w (Ret w (IntG (dropI axes 0 sh))) := by
  refine (r6drop_t w _ _ sh axes h g hl).mono ?_
  rintro e u ⟨v, rfl, ho, hf⟩
  obtain ⟨P, i, k, rfl⟩ := ho.form
  exact ⟨_, rfl, hf, fun u' hu' => ⟨_, _, _, rfl, (ho.sl.keep' Im_pos hu').any⟩⟩
theorem samelist_u {w : World} {A B : Option Addr} {n c m e : Nat} {xs ys : List Int} {b : Bool} (h : Sl Im (fun _ => True) w (.slice A n c) xs) (g : Sl Im (fun _ => True) w (.slice B m e) ys) (hb : Hid (decide (xs = ys) = b)) :
    Calls Tryz.prog 57 #[.slice A n c, .slice B m e] w (Ret w fun _ v => v = .bool b) :=
  (samelist_calls w _ _ xs ys h g).mono fun _ _ h => Ret.eq (by rw [h.1, hb.out]) (h.2.mono fun _ _ _ => trivial)
theorem sumP_yes {pl : Nat → Nat} {q : List Rat} {n k : Nat} (h : pl k = n) (hk : k < q.length) : sumP pl q n (k + 1) = sumP pl q n k + q[k] := by
  rw [sumP, sumN, if_pos h, List.getD_eq_getElem?_getD, List.getElem?_eq_getElem hk]
  rfl
theorem sumP_no {pl : Nat → Nat} {q : List Rat} {n k : Nat} (h : pl k ≠ n) : sumP pl q n (k + 1) = sumP pl q n k := by
  rw [sumP, sumN, if_neg h, Rat.add_zero]
  rfl
set_option maxRecDepth 100000 in
set_option maxHeartbeats 16000000 in
theorem rsum_t {S T U : Nat → Prop} (w : World) (va ve vx : Value) (sh axes : List Int) (qs : List Rat) (K M N : Nat) (r : Int) (hr : Hid (axE axes sh.length = r)) (ha : Sl Im S w va sh) (hq : Sl (Rk K) T w ve qs) (hx : Sl Im U w vx axes)
    (hm : Hid (mayS sh = 0 ∧ (qs.length : Int) = pr sh)) (hN : Hid (pr (dropI axes 0 sh) = (N : Int))) (hKM : K ≤ M) (h6 : 6 ≤ M) (hM : M ≤ 104857600)
    (hB : Hid (∀ n i, i ≤ qs.length → (dg DB (sumP (plc sh axes) qs n i).num.natAbs).length ≤ M ∧ (dg DB (sumP (plc sh axes) qs n i).den).length ≤ M)) :
    Calls Tryz.prog 17 #[.agg #[va, ve], vx] w (RefO w (dropI axes 0 sh) (sumL (plc sh axes) qs N qs.length) M r) := by
  obtain ⟨A, c, rfl, _, _, _⟩ := ha.slice
  obtain ⟨A', c', rfl, _, _, _⟩ := hq.slice
  obtain ⟨C, f, rfl, _, _, _⟩ := hx.slice
  have F := fun R => ((Fr.refl R w).alloc (.cells #[.slice A sh.length c, .slice A' qs.length c'] 36)).alloc (.cells #[.slice none 0 0, .slice none 0 0] 36)
  have x0 := (Box2.new w 36 (.slice A sh.length c) (.slice A' qs.length c')).alloc (.cells #[.slice none 0 0, .slice none 0 0] 36)
  have x2 := Box2.new (w.alloc (.cells #[.slice A sh.length c, .slice A' qs.length c'] 36)) 36 (.slice none 0 0) (.slice none 0 0)
  simp only [World.size_alloc] at x2
  have HA := (ha.low Im_pos).fr (F _)
  have HQ := (hq.low (Rk_pos K)).fr (F _)
  have HX := (hx.low Im_pos).fr (F _)
  replace F := F (fun k => k < w.heap.size)
  obtain ⟨hmS, hcnt⟩ := hm.out
  obtain ⟨hl4, hd1, hp4⟩ := mayS_ok hmS
  have hmD := drop_may (axes := axes) hmS
  have hND := hN.out
  have hN2 := (mayS_ok hmD).2.2
  have hpos := pr_pos hd1
  have hpos2 := pr_pos (mayS_ok hmD).2.1
  have HMS := Lib.hid hmS
  have HMD := Lib.hid hmD
  have HD1 := Lib.hid hd1
  have HCN := Lib.hid hcnt
  have hql : qs.length ≤ 1024 := by omega
  have hnl : N ≤ 1024 := by omega
  have hn1 : (pr (dropI axes 0 sh)).toNat = N := by omega
  have hn2 : (pr sh).toNat = qs.length := by omega
  have hld := Nat.le_trans (drop_len (axes := axes) (i := 0) (l := sh)) hl4
  have HN1 := Lib.hid hn1
  have HN2 := Lib.hid hn2
  clear ha hq hx hmS hmD hd1 hcnt hp4 hN2 hn1 hn2
  have a0 := x0.c0
  have a1 := x0.c1
  go_enter Tryz.func17, Tryz.ntmps17
  go_wp2_with fail
  generalize (w.alloc (.cells #[.slice A sh.length c, .slice A' qs.length c'] 36)).alloc (.cells #[.slice none 0 0, .slice none 0 0] 36) = W0 at F x0 x2 HA HQ HX a0 a1 ⊢
  with_reducible refine (raxes_t _ _ axes sh.length r hr HX).mono ?_
  rintro e W1 ⟨rfl, hf⟩
  replace x0 := x0.fr hf trivial
  replace x2 := x2.fr hf trivial
  replace HA := HA.fr (hf.mono fun _ _ _ => trivial)
  replace HQ := HQ.fr (hf.mono fun _ _ _ => trivial)
  replace HX := HX.fr (hf.mono fun _ _ _ => trivial)
  replace F := F.trans (hf.mono fun _ _ _ => trivial)
  clear hf a0 a1
  by_cases h0 : r = 0
  case neg =>
    have hb0 : (r == 0) = false := beq_eq_false_iff_ne.2 h0
    go_wp2_with ((with_reducible apply wpList_st2); rfl; rfl; exact x2; exact tt2; rfl; rfl; intro w9 B9 F9)
    refine bodyPost_ret (results_cell2_tmp rfl rfl B9 Tryz.underlying36 tt2) rfl ?_
    exact ⟨none, 0, 0, none, 0, 0, rfl, fun h => absurd h h0, F.comp F9 fun k _ hk => ⟨hk, by omega⟩⟩
  subst h0
  have a0 := x0.c0
  have a1 := x0.c1
  go_wp2_with fail
  with_reducible refine (r6drop_t _ _ _ sh axes HA HX (by omega)).mono ?_
  rintro e W2 ⟨v2, rfl, ho2, hf⟩
  obtain ⟨P, i0, k0, rfl⟩ := ho2.form
  have al := fun R => (Fr.refl R W2).alloc (.cells #[.slice P i0 k0, .slice none 0 0] 36)
  have x7 := Box2.new W2 36 (.slice P i0 k0) (.slice none 0 0)
  have s1 := F.size
  have l2 := x2.lt
  have s2 := hf.size
  have oS := (ho2.bd.mono (T := fun k => w.heap.size + 2 ≤ k ∧ k < W2.heap.size) fun k hk => ⟨by omega, hk.2⟩).fr (al _)
  replace x0 := (x0.keep hf).keep (al _)
  replace x2 := (x2.keep hf).keep (al _)
  replace HA := (HA.keep' Im_pos hf).keep' Im_pos (al _)
  replace HQ := (HQ.keep' (Rk_pos K) hf).keep' (Rk_pos K) (al _)
  replace HX := (HX.keep' Im_pos hf).keep' Im_pos (al _)
  replace F := fr_then (fr_then F hf) (al _)
  obtain ⟨b7, hb7⟩ : ∃ b, W2.heap.size = b := ⟨_, rfl⟩
  clear hf ho2 al a0 a1
  have a7 := x7.c0
  go_wp2_with fail
  rw [hb7] at x7 oS s2 a7
  clear hb7
  generalize W2.alloc (.cells #[.slice P i0 k0, .slice none 0 0] 36) = W3 at x0 x2 x7 HA HQ HX oS F a7 ⊢
  with_reducible refine (indexes_t _ _ (dropI axes 0 sh) oS.sl HMD.out).mono ?_
  rintro e W4 ⟨v8, rfl, ho8, hf⟩
  rw [HN1.out] at ho8
  obtain ⟨T8, n8, c8, rfl⟩ := ho8.form
  have l7 := x7.lt
  have s4 := hf.size
  replace x0 := x0.keep hf
  replace x2 := x2.keep hf
  replace x7 := x7.keep hf
  replace HA := HA.keep' Im_pos hf
  replace HQ := HQ.keep' (Rk_pos K) hf
  replace HX := HX.keep' Im_pos hf
  replace oS := oS.keep' hf
  replace F := fr_then F hf
  have o8 := ho8.bd
  clear hf ho8 a7
  have a0 := x0.c0
  go_wp2_with fail
  with_reducible refine (indexes_t _ _ sh HA HMS.out).mono ?_
  rintro e W5 ⟨v9, rfl, ho9, hf⟩
  rw [HN2.out] at ho9
  obtain ⟨T9, n9, c9, rfl⟩ := ho9.form
  have s5 := hf.size
  replace x0 := x0.keep hf
  replace x2 := x2.keep hf
  replace x7 := x7.keep hf
  replace HQ := HQ.keep' (Rk_pos K) hf
  replace HX := HX.keep' Im_pos hf
  replace oS := oS.keep' hf
  replace o8 := o8.keep' hf
  replace F := fr_then F hf
  have h8 := o8.sl.mono (T := fun k => b7 < k ∧ k < W5.heap.size) fun k hk => ⟨by omega, by omega⟩
  have h9 := ho9.bd.sl.mono (T := fun k => b7 < k ∧ k < W5.heap.size) fun k hk => ⟨by omega, hk.2⟩
  have hn8 : n8 = N := by
    obtain ⟨_, _, e, _⟩ := h8.slice
    rw [List.length_map, List.length_range] at e
    cases e
    rfl
  have hn9 : n9 = qs.length := by
    obtain ⟨_, _, e, _⟩ := h9.slice
    rw [List.length_map, List.length_range] at e
    cases e
    rfl
  subst hn8
  subst hn9
  have H8 := Lib.hid h8
  have H9 := Lib.hid h9
  have HQ5 := Lib.hid HQ
  have HX5 := Lib.hid HX
  have OS5 := Lib.hid (oS.mono (T := fun k => w.heap.size + 2 ≤ k ∧ k < W5.heap.size ∧ k ≠ b7) fun k hk => ⟨by omega, by omega, by omega⟩)
  clear hf ho9 o8 oS h8 h9 HA HQ HX a0
  have lb7 : b7 < W5.heap.size := by omega
  have lw7 : w.heap.size + 2 ≤ b7 := by omega
  have x05 := x0
  have x25 := x2
  have F5 := F
  go_wp2_with fail
  go_loopw [10] (fun oi wr => ∃ (i : Nat) (v2 : Value), i ≤ n8 ∧ oi = .int .i64 i ∧ Box2 wr b7 36 (.slice P i0 k0) v2 ∧ Own (Rk M) 58 (fun k => W5.heap.size ≤ k) wr v2 ((List.range i).map fun n => sumP (plc sh axes) qs n qs.length) ∧ Fr (fun k => k < W5.heap.size ∧ k ≠ b7) W5 wr) (fun oi _ => n8 - (intOf oi).toNat)
  case atStart => exact ⟨0, _, Nat.zero_le _, rfl, x7, Own.nil _ _ _ _, Fr.refl _ _⟩
  case round =>
    clear x0 x2 x7 F
    obtain ⟨i, v2, hi, rfl, x7, oL, G5⟩ := hrel
    rename World => Wj
    have sj := G5.size
    by_cases hlti : i < n8
    case neg =>
      obtain rfl : i = n8 := by omega
      obtain ⟨A2, m2, k2, rfl⟩ := oL.form
      have x2 := x25.fr G5 ⟨by omega, by omega⟩
      have c0 := x7.c0
      have c1' := x7.c1
      have F := F5.comp G5 (R := fun k => k < w.heap.size) fun k _ hk => ⟨hk, by omega, by omega⟩
      have oS := OS5.out.fr (G5.mono fun k _ hk => hk.2)
      go_wp2_with ((with_reducible apply wpList_st2); rfl; rfl; exact x2; exact tt2; rfl; rfl; intro w9 B9 F9)
      refine bodyPost_ret (results_cell2_tmp rfl rfl B9 Tryz.underlying36 tt2) rfl ?_
      exact ⟨_, _, _, _, _, _, rfl, fun _ => ⟨(oS.past F9 fun k hk => by omega).mono fun k hk => by omega, (oL.past F9 fun k hk => by omega).mono fun k hk => by omega⟩, F.comp F9 fun k _ hk => ⟨hk, by omega⟩⟩
    go_wp2_with fail
    with_reducible refine (rint_s _ 0 (by decide) (by decide)).mono ?_
    rintro e W6 ⟨s0, v3, v4, rfl, hs0, h0, hf⟩
    obtain ⟨⟨Q1, m3, k3, rfl⟩, ⟨Q2, m4, k4, rfl⟩⟩ := h0.out.form
    have al := fun R => (Fr.refl R W6).alloc (.cells #[.bool s0, .slice Q1 m3 k3, .slice Q2 m4 k4] 58)
    have b11b := Box3.new W6 58 (.bool s0) (.slice Q1 m3 k3) (.slice Q2 m4 k4)
    have G4 : Fr (fun k => k < Wj.heap.size) Wj _ := fr_then hf (al _)
    have HR0 := Lib.hid (show RR (fun k => Wj.heap.size ≤ k ∧ k ≠ W6.heap.size) _ _ _ (sumP (plc sh axes) qs i 0) M from ((h0.out.bd.fr (al _)).mono fun k hk => ⟨hk.1, by omega⟩).wide h6)
    have HS0 := Lib.hid (show s0 = sg (sumP (plc sh axes) qs i 0) from hs0.out)
    have s6 := hf.size
    obtain ⟨b11, hb11⟩ : ∃ b, W6.heap.size = b := ⟨_, rfl⟩
    clear h0 al hf hs0
    go_wp2_with fail
    generalize W6.alloc (.cells #[.bool s0, .slice Q1 m3 k3, .slice Q2 m4 k4] 58) = W7 at b11b G4 HR0 ⊢
    rw [hb11] at b11b HR0 s6
    clear hb11
    go_loopw [12] (fun ok wl => ∃ (k : Nat) (t : Bool) (w1 w2 : Value), k ≤ qs.length ∧ ok = .int .i64 k ∧ Box3 wl b11 58 (.bool t) w1 w2 ∧ Hid (t = sg (sumP (plc sh axes) qs i k)) ∧ Hid (RR (fun κ => Wj.heap.size ≤ κ ∧ κ ≠ b11) wl w1 w2 (sumP (plc sh axes) qs i k) M) ∧ Fr (fun κ => κ < Wj.heap.size) Wj wl) (fun ok _ => qs.length - (intOf ok).toNat)
    case atStart => exact ⟨0, _, _, _, Nat.zero_le _, rfl, b11b, HS0, HR0, G4⟩
    case round =>
      clear b11b HS0 HR0 G4
      obtain ⟨k, t, w1, w2, hk, rfl, b11b, HT, HR, G4⟩ := hrel
      obtain ⟨⟨Q3, ia, ja, rfl⟩, ⟨Q4, ib, jb, rfl⟩⟩ := HR.out.form
      have s4' := G4.size
      by_cases hltk : k < qs.length
      case neg =>
        obtain rfl : k = qs.length := by omega
        obtain ⟨A2, m2, k2, rfl⟩ := oL.form
        have b9' := x7.keep G4
        have oL' := oL.keep' G4
        have HLn := Lib.hid (show (((List.range i).map fun n => sumP (plc sh axes) qs n qs.length).length + 1) * 56 ≤ 140737488355328 ∧ ((List.range i).map fun n => sumP (plc sh axes) qs n qs.length).length + 1 ≤ 9223372036854775807 by
          rw [List.length_map, List.length_range]; omega)
        have lt2 := oL.lt
        have in2 := oL.in_
        have e0 := b9'.c1
        have e1 := b9'.free 1
        have x16 := Box3.c0 b11b
        have x17 := Box3.c1 b11b
        have x18 := Box3.c2 b11b
        go_wp2_with (at_builtin; refine wpList_push1 (v := .slice A2 m2 k2) (y := sumP (plc sh axes) qs i qs.length) (T := fun κ => Wj.heap.size ≤ κ) (cs := [.bool t, .slice Q3 ia ja, .slice Q4 ib jb]) (rkT M) rfl rfl rfl rfl oL' ⟨_, _, by rw [HT.out], HR.out.mono fun κ hκ => hκ.1⟩ (fun κ hκ _ => ⟨by omega, fun e => by have := lt2 κ e.symm; omega⟩) (fun κ hκ => by omega) HLn.out.1 HLn.out.2 ?_; intro v5 u2 ho hfr hat; obtain ⟨A3, n3, c3, rfl⟩ := ho.form; have q5 := b9'.fr hfr (fun e => by have := in2 _ e.symm; omega); have e2 := q5.c1; have e3 := q5.free 1)
        have F9 := fr_set1 u2 b7 1 (.slice A3 n3 c3)
        have o9 := ho.past F9 (fun κ hκ => by omega)
        have G9 := ((G5.trans (G4.mono fun κ hκ h => Nat.lt_of_lt_of_le h.1 sj)).comp hfr (R := fun k => k < W5.heap.size ∧ k ≠ b7) fun κ _ hκ => ⟨hκ, fun e => by have := in2 _ e.symm; omega⟩).comp F9 (R := fun k => k < W5.heap.size ∧ k ≠ b7) fun κ _ hκ => ⟨hκ, hκ.2⟩
        go_roundw
        case rel =>
          refine ⟨i + 1, _, by omega, by go_num, q5.set1 _, ?_, G9⟩
          rw [List.range_succ, List.map_append, List.map_singleton]
          exact o9
        case measure => first | (simp [intOf]; done) | (simp [intOf]; omega)
      have GW := G5.comp G4 (R := fun k => k < W5.heap.size ∧ k ≠ b7) fun k _ hk => ⟨hk, by omega⟩
      have DD := fun R => (Fr.refl R wr).drew
      have h8 := (H8.out.fr (GW.mono fun k _ hk => ⟨hk.2, by omega⟩)).fr (DD _)
      have h9 := (H9.out.fr (GW.mono fun k _ hk => ⟨hk.2, by omega⟩)).fr (DD _)
      have hX := (HX5.out.fr (GW.mono fun k _ hk => ⟨by omega, by omega⟩)).fr (DD _)
      rw [show Value.slice T8 n8 c8 = Value.slice T8 ((List.range n8).map (seqI (dropI axes 0 sh))).length c8 by rw [List.length_map, List.length_range]] at h8
      rw [show Value.slice T9 qs.length c9 = Value.slice T9 ((List.range qs.length).map (seqI sh)).length c9 by rw [List.length_map, List.length_range]] at h9
      obtain ⟨at8, P8, p8, d8, hA8, hS8, g8, t8⟩ := Ix_get h8 (i := i) (by rw [List.length_map, List.length_range]; exact hlti)
      obtain ⟨at9, P9, p9, d9, hA9, hS9, g9, t9⟩ := Ix_get h9 (i := k) (by rw [List.length_map, List.length_range]; exact hltk)
      rw [List.getElem_map, List.getElem_range] at t8 t9
      subst hA8
      subst hA9
      have HL9 := Lib.hid (show (seqI sh k).length ≤ 1099511627000 by rw [inL_len (seq_in HD1.out (k := k) (by rw [← HCN.out]; omega)).1]; omega)
      have HPL := Lib.hid (plc_same (axes := axes) HD1.out (j := k) (n := i) (by rw [← HCN.out]; omega) (by rw [hND]; omega))
      obtain ⟨bq, hbq⟩ : ∃ b, decide (dropI axes 0 (seqI sh k) = seqI (dropI axes 0 sh) i) = b := ⟨_, rfl⟩
      have HBQ := Lib.hid hbq
      have hB1 := hB.out i (k + 1) hltk
      have hki : (k : Int) < (qs.length : Int) := by omega
      have hii : (i : Int) < (n8 : Int) := by omega
      clear h8 h9 hbq
      go_wp2_with fail
      refine wpTill.begin (fun _ => True) 10 (by kernel_rfl) ?_
      change wpTill _ _ _ _ _ _ 11 _ _ _
      refine wpTill.free (jj := 10) (m := 0) [(0, Fact.eq (.slice (some at9) qs.length c9)),
      (1, Fact.eq (.int .i64 (k : Int))),
      (2, Fact.eq (.pointer (some (at9.add k)))),
      (3, Fact.eq (.slice P9 p9 d9)),
      (4, Fact.eq (.slice C axes.length f)),
      (5, Fact.held (IntG (dropI axes 0 (seqI sh k)))),
      (6, Fact.eq (.slice (some at8) n8 c8)),
      (7, Fact.eq (.int .i64 (i : Int))),
      (8, Fact.eq (.pointer (some (at8.add i)))),
      (9, Fact.eq (.slice P8 p8 d8)),
      (10, Fact.eq (.bool bq))] [] [0, 0, 3, 7, 0, 31, 0, 0, 192, 448, 1023] [] ?_ (by kernel_rfl) (by kernel_rfl) (by kernel_rfl) [(0, some 46), (1, some 47), (2, some 48), (3, some 49), (4, some 50), (5, some 51), (6, some 52), (7, some 53), (8, some 54), (9, some 55), (10, some 56)] (by kernel_rfl) ?hA1 ?hQ1 (fun _ _ => trivial) (by kernel_rfl) ?steps1 ?looses1 ?cont1
      case hQ1 => exact fun _ _ _ _ _ h => h
      case hA1 =>
        intro vs
        simp only [fillD, List.foldl_cons, List.foldl_nil, Act.put, List.setIfInBounds_toArray, List.set_cons_zero, List.set_cons_succ]
        exact rfl
      case steps1 =>
        refine ⟨?_, ?_, ?_, ?_, ?_, ?_, ?_, ?_, ?_, ?_, ?_, trivial⟩
        · rintro vs u ⟨hV0, hV1, hV2, hV3, hV4, hV5, hV6, hV7, hV8, hV9, hV10, -⟩ G
          exact stepAt.pure (v := .slice (some at9) qs.length c9) rfl rfl (by go_simp) rfl
        · rintro vs u ⟨hV0, hV1, hV2, hV3, hV4, hV5, hV6, hV7, hV8, hV9, hV10, -⟩ G
          exact stepAt.pure (v := .int .i64 (k : Int)) rfl rfl (by go_simp) rfl
        · rintro vs u ⟨hV0, hV1, hV2, hV3, hV4, hV5, hV6, hV7, hV8, hV9, hV10, -⟩ G
          have eV0 : vs 0 = .slice (some at9) qs.length c9 := hV0 rfl
          have eV1 : vs 1 = .int .i64 (k : Int) := hV1 rfl
          exact stepAt.pure (v := .pointer (some (at9.add k))) rfl rfl (by simp only [eV0, eV1]; go_simp <;> omega) rfl
        · rintro vs u ⟨hV0, hV1, hV2, hV3, hV4, hV5, hV6, hV7, hV8, hV9, hV10, -⟩ G
          have o0 := G.cell g9 (World.block_lt_of_cell? _ _ g9)
          have eV2 : vs 2 = .pointer (some (at9.add k)) := hV2 rfl
          exact stepAt.pure (v := .slice P9 p9 d9) rfl rfl (by simp only [eV2]; go_simp) rfl
        · rintro vs u ⟨hV0, hV1, hV2, hV3, hV4, hV5, hV6, hV7, hV8, hV9, hV10, -⟩ G
          exact stepAt.pure (v := .slice C axes.length f) rfl rfl (by go_simp) rfl
        · rintro vs u ⟨hV0, hV1, hV2, hV3, hV4, hV5, hV6, hV7, hV8, hV9, hV10, -⟩ G
          refine stepAt.call (f := 55) (args := #[vs 3, vs 4]) rfl rfl (by go_simp) ?_
          have eV3 : vs 3 = .slice P9 p9 d9 := hV3 rfl
          have eV4 : vs 4 = .slice C axes.length f := hV4 rfl
          rw [eV3, eV4]
          exact r6drop_u (t9.keep' Im_pos G).any (hX.keep' Im_pos G).any HL9.out
        · rintro vs u ⟨hV0, hV1, hV2, hV3, hV4, hV5, hV6, hV7, hV8, hV9, hV10, -⟩ G
          exact stepAt.pure (v := .slice (some at8) n8 c8) rfl rfl (by go_simp) rfl
        · rintro vs u ⟨hV0, hV1, hV2, hV3, hV4, hV5, hV6, hV7, hV8, hV9, hV10, -⟩ G
          exact stepAt.pure (v := .int .i64 (i : Int)) rfl rfl (by go_simp) rfl
        · rintro vs u ⟨hV0, hV1, hV2, hV3, hV4, hV5, hV6, hV7, hV8, hV9, hV10, -⟩ G
          have eV6 : vs 6 = .slice (some at8) n8 c8 := hV6 rfl
          have eV7 : vs 7 = .int .i64 (i : Int) := hV7 rfl
          exact stepAt.pure (v := .pointer (some (at8.add i))) rfl rfl (by simp only [eV6, eV7]; go_simp <;> omega) rfl
        · rintro vs u ⟨hV0, hV1, hV2, hV3, hV4, hV5, hV6, hV7, hV8, hV9, hV10, -⟩ G
          have o0 := G.cell g8 (World.block_lt_of_cell? _ _ g8)
          have eV8 : vs 8 = .pointer (some (at8.add i)) := hV8 rfl
          exact stepAt.pure (v := .slice P8 p8 d8) rfl rfl (by simp only [eV8]; go_simp) rfl
        · rintro vs u ⟨hV0, hV1, hV2, hV3, hV4, hV5, hV6, hV7, hV8, hV9, hV10, -⟩ G
          refine stepAt.call (f := 57) (args := #[vs 5, vs 9]) rfl rfl (by go_simp) ?_
          have HV5 : Hold (fun u' => (IntG (dropI axes 0 (seqI sh k))) u' (vs 5)) u := hV5 rfl
          obtain ⟨A5, n5, c5, eV5, -⟩ := HV5.now
          rw [eV5] at HV5
          have eV9 : vs 9 = .slice P8 p8 d8 := hV9 rfl
          rw [eV5, eV9]
          obtain ⟨_, _, _, eq5, hq5⟩ := HV5.now
          cases eq5
          exact (samelist_u hq5 (t8.keep' Im_pos G).any HBQ).mono fun _ _ ⟨v, h1, h2, h3⟩ => ⟨v, h1, h2, h3.now⟩
      case looses1 =>
        exact trivial
      rintro vs u ⟨hV0, hV1, hV2, hV3, hV4, hV5, hV6, hV7, hV8, hV9, hV10, -⟩ G
      have eV0 : vs 0 = .slice (some at9) qs.length c9 := hV0
      have eV1 : vs 1 = .int .i64 (k : Int) := hV1
      have eV2 : vs 2 = .pointer (some (at9.add k)) := hV2
      have eV3 : vs 3 = .slice P9 p9 d9 := hV3
      have eV4 : vs 4 = .slice C axes.length f := hV4
      replace hV5 : Hold (fun u' => (IntG (dropI axes 0 (seqI sh k))) u' (vs 5)) u := hV5
      obtain ⟨A5, n5, c5, eV5, -⟩ := hV5.now
      rw [eV5] at hV5
      have eV6 : vs 6 = .slice (some at8) n8 c8 := hV6
      have eV7 : vs 7 = .int .i64 (i : Int) := hV7
      have eV8 : vs 8 = .pointer (some (at8.add i)) := hV8
      have eV9 : vs 9 = .slice P8 p8 d8 := hV9
      have eV10 : vs 10 = .bool bq := hV10
      simp only [eV0, eV1, eV2, eV3, eV4, eV5, eV6, eV7, eV8, eV9, eV10]
      clear eV0 eV1 eV2 eV3 eV4 eV5 eV6 eV7 eV8 eV9 eV10 hV0 hV1 hV2 hV3 hV4 hV6 hV7 hV8 hV9 hV10
      refine wpTill.done (by kernel_rfl) ?_
      have GX := G
      have hf14 : Fr (fun k => k < wr.heap.size) wr u := (DD _).trans G
      clear hV5 G g8 g9 t8 t9 hX
      have hWd : wr.drew.heap.size = wr.heap.size := rfl
      have lb11 := Box3.lt b11b
      have b11u := (b11b.fr (DD (fun _ => True)) trivial).keep GX
      have HRu := Lib.hid ((HR.out.fr (DD _)).keep GX)
      have G4u := fr_then G4 hf14
      cases bq with
      | false =>
        have HNO : Hid (sumP (plc sh axes) qs i (k + 1) = sumP (plc sh axes) qs i k) := Lib.hid (sumP_no fun h => (of_decide_eq_false HBQ.out) (HPL.out.2 h))
        go_wp2_with fail
        go_roundw
        case rel => exact ⟨k + 1, _, _, _, by omega, by go_num, b11u, by rw [HNO.out]; exact HT, by rw [HNO.out]; exact HRu, G4u⟩
        case measure => first | (simp [intOf]; done) | (simp [intOf]; omega)
      | true =>
        have HST : Hid (sumP (plc sh axes) qs i (k + 1) = sumP (plc sh axes) qs i k + qs[k]) := Lib.hid (sumP_yes (HPL.out.1 (of_decide_eq_true HBQ.out)) hltk)
        have DU := fun R => (Fr.refl R u).drew
        have GU := (G5.comp G4u (R := fun k => k < W5.heap.size ∧ k ≠ b7) fun k _ hk => ⟨hk, by omega⟩)
        have hQ := (HQ5.out.fr (GU.mono fun k _ hk => ⟨by omega, by omega⟩)).fr (DU _)
        have x0u := (x05.fr GU ⟨by omega, by omega⟩).fr (DU (fun _ => True)) trivial
        obtain ⟨ah, P1, n1, e1, P2, n2, e2, hA1, hS1, g0, g1, g2, t1⟩ := Rk_get hQ hltk
        subst hA1
        generalize qs[k] = x1 at g0 t1 HST
        obtain ⟨sx, hsx⟩ : ∃ s, s = sg x1 := ⟨_, rfl⟩
        rw [← hsx] at g0
        have HT1 := Lib.hid (t1.wide hKM)
        have HSX := Lib.hid hsx
        have b11d := b11u.fr (DU (fun _ => True)) trivial
        have HRd := Lib.hid (HRu.out.fr (DU _))
        have hUd : u.drew.heap.size = u.heap.size := rfl
        have l11 := Box3.lt b11u
        have lx0 := x0u.lt
        have KS : ∀ v, Fr (fun κ => κ < u.drew.heap.size) u.drew v → v.cell? ⟨b11, 0, none⟩ = some (.bool t) ∧ v.cell? ⟨b11, 1, none⟩ = some (.slice Q3 ia ja) ∧ v.cell? ⟨b11, 2, none⟩ = some (.slice Q4 ib jb) ∧ v.cell? ⟨w.heap.size, 1, none⟩ = some (.slice (some ah) qs.length c') ∧ v.cell? (ah.add (k * 3)) = some (.bool sx) ∧ v.cell? ⟨(ah.add (k * 3)).block, (ah.add (k * 3)).off + 1, none⟩ = some (.slice P1 n1 e1) ∧ v.cell? ⟨(ah.add (k * 3)).block, (ah.add (k * 3)).off + 2, none⟩ = some (.slice P2 n2 e2) := fun v h =>
          ⟨(b11d.fr h l11).c0, (b11d.fr h l11).c1, (b11d.fr h l11).c2, (x0u.fr h lx0).c1, h.cell g0 (World.block_lt_of_cell? _ _ g0), h.cell g1 (World.block_lt_of_cell? _ _ g1), h.cell g2 (World.block_lt_of_cell? _ _ g2)⟩
        have S0 := KS _ (Fr.refl _ _)
        clear g0 g1 g2 hsx t1 hQ
        go_wp2_with fail
        refine wpTill.begin (fun v => v.cell? ⟨b11, 0, none⟩ = some (.bool t) ∧ v.cell? ⟨b11, 1, none⟩ = some (.slice Q3 ia ja) ∧ v.cell? ⟨b11, 2, none⟩ = some (.slice Q4 ib jb) ∧ v.cell? ⟨w.heap.size, 1, none⟩ = some (.slice (some ah) qs.length c') ∧ v.cell? (ah.add (k * 3)) = some (.bool sx) ∧ v.cell? ⟨(ah.add (k * 3)).block, (ah.add (k * 3)).off + 1, none⟩ = some (.slice P1 n1 e1) ∧ v.cell? ⟨(ah.add (k * 3)).block, (ah.add (k * 3)).off + 2, none⟩ = some (.slice P2 n2 e2)) 7 (by kernel_rfl) ?_
        change wpTill _ _ _ _ _ _ 8 _ _ _
        refine wpTill.take 0 (.agg #[.bool t, .slice Q3 ia ja, .slice Q4 ib jb]) rfl (by kernel_rfl) (by kernel_rfl) (fun _ _ _ h => h) S0 (by rfl) (fun u hu => by go_simp) ?_
        try simp only [Act.put, List.setIfInBounds_toArray, List.set_cons_zero, List.set_cons_succ]
        refine wpTill.take 1 (.pointer (some ⟨w.heap.size, 1, none⟩)) rfl (by kernel_rfl) (by kernel_rfl) (fun _ _ _ h => h) S0 (by rfl) (fun u hu => by go_simp) ?_
        try simp only [Act.put, List.setIfInBounds_toArray, List.set_cons_zero, List.set_cons_succ]
        refine wpTill.take 2 (.slice (some ah) qs.length c') rfl (by kernel_rfl) (by kernel_rfl) (fun _ _ _ h => h) S0 (by rfl) (fun u hu => by go_simp) ?_
        try simp only [Act.put, List.setIfInBounds_toArray, List.set_cons_zero, List.set_cons_succ]
        refine wpTill.take 3 (.int .i64 (k : Int)) rfl (by kernel_rfl) (by kernel_rfl) (fun _ _ _ h => h) S0 (by rfl) (fun u hu => by go_simp) ?_
        try simp only [Act.put, List.setIfInBounds_toArray, List.set_cons_zero, List.set_cons_succ]
        refine wpTill.take 4 (.pointer (some (ah.add (k * 3)))) rfl (by kernel_rfl) (by kernel_rfl) (fun _ _ _ h => h) S0 (by rfl) (fun u hu => by go_simp) ?_
        try simp only [Act.put, List.setIfInBounds_toArray, List.set_cons_zero, List.set_cons_succ]
        refine wpTill.take 5 (.agg #[.bool sx, .slice P1 n1 e1, .slice P2 n2 e2]) rfl (by kernel_rfl) (by kernel_rfl) (fun _ _ _ h => h) S0 (by rfl) (fun u hu => by go_simp) ?_
        try simp only [Act.put, List.setIfInBounds_toArray, List.set_cons_zero, List.set_cons_succ]
        refine wpTill.next 6 rfl (by kernel_rfl) (by rfl) (fun KC hKC => ?_)
        go_simp
        with_reducible refine (radd_h _ t sx (.slice Q3 ia ja) (.slice Q4 ib jb) (.slice P1 n1 e1) (.slice P2 n2 e2) (sumP (plc sh axes) qs i k) x1 M HRd HT1 HT HSX (by omega) hM).mono ?_
        rintro e u2 ⟨s9, v5, v6, rfl, hs9, h9, hf2⟩
        obtain ⟨⟨Q7, i7, j7, rfl⟩, ⟨Q8, i8, j8, rfl⟩⟩ := h9.out.form
        refine hKC _ _ (fun _ => KS _ hf2) ?_
        clear hKC KC
        try simp only [Act.put, List.setIfInBounds_toArray, List.set_cons_zero, List.set_cons_succ]
        have j9 := b11d.fr hf2 l11
        have d0 := j9.c0
        have d1 := j9.c1
        have d2 := j9.c2
        have d3 := j9.free 0
        have d4 := j9.free 1
        have d5 := j9.free 2
        clear S0 KS
        refine wpTill.next 7 rfl (by kernel_rfl) (by rfl) (fun KC hKC => ?_)
        go_simp
        refine hKC _ _ (no_wait (by kernel_rfl)) ?_
        clear hKC KC
        try simp only [Act.put, List.setIfInBounds_toArray, List.set_cons_zero, List.set_cons_succ]
        refine wpTill.done (by kernel_rfl) ?_
        have su := G4u.size
        have F9 := fr_set3 u2 b11 (.bool s9) (.slice Q7 i7 j7) (.slice Q8 i8 j8)
        have k9 := j9.set3 (.bool s9) (.slice Q7 i7 j7) (.slice Q8 i8 j8)
        have GG : Fr (fun κ => κ < Wj.heap.size) Wj (((u2.setCell ⟨b11, 0, none⟩ (.bool s9)).setCell ⟨b11, 1, none⟩ (.slice Q7 i7 j7)).setCell ⟨b11, 2, none⟩ (.slice Q8 i8 j8)) := ((fr_then G4u.drew (hf2.mono fun κ _ hκ => hκ)).comp F9 (R := fun κ => κ < Wj.heap.size) fun κ _ hκ => ⟨hκ, by omega⟩)
        have hv := h9.out.past F9 (fun κ hκ => by omega)
        rw [← HST.out] at hv
        have HV2 := Lib.hid ((hv.mono (T := fun κ => Wj.heap.size ≤ κ ∧ κ ≠ b11) fun κ hκ => ⟨by omega, by omega⟩).sizes hB1.1 hB1.2)
        have hs9o := hs9.out
        rw [← HST.out] at hs9o
        have HS9 := Lib.hid hs9o
        clear d0 d1 d2 d3 d4 d5 F9 hv hs9o
        go_wp2_with fail
        go_roundw
        case rel => exact ⟨k + 1, _, _, _, by omega, by go_num, k9, HS9, HV2, GG⟩
        case measure => first | (simp [intOf]; done) | (simp [intOf]; omega)
end Go.Proofs.YtlppcfeimpcbjaaGreat

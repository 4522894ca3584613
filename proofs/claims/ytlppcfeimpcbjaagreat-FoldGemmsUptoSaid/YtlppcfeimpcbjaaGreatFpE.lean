import Derived.Test.YtlppcfeimpcbjaaGreatFpD
set_option linter.unusedSimpArgs false
set_option linter.unusedVariables false

/- fold.spread (under way: does not build to its end). -/
namespace Go.Proofs.YtlppcfeimpcbjaaGreat
open Go.RowKit Go.Shelf
attribute [local go_sem] Oper.semAt_some

/-- The first of a list of numbers are cut. -/
def cutI (l sh : List Int) (j : Nat) : List Int := (List.range l.length).map fun k => if k < j then min (l.getD k 0) (sh.getD k 0 - 1) else l.getD k 0
theorem cutI_len {l sh : List Int} {j : Nat} : (cutI l sh j).length = l.length := by rw [cutI, List.length_map, List.length_range]
theorem cutI_0 {l sh : List Int} : cutI l sh 0 = l := by
  refine List.ext_getElem cutI_len fun i h1 h2 => ?_
  simp only [cutI, List.getElem_map, List.getElem_range]
  rw [if_neg (by omega), getI_at h2]
theorem cutI_get {l sh : List Int} {j : Nat} (h : j < (cutI l sh j).length) (h2 : j < l.length) : (cutI l sh j)[j] = l[j] := by
  simp only [cutI, List.getElem_map, List.getElem_range]
  rw [if_neg (by omega), getI_at h2]
theorem cutI_set {l sh : List Int} {j : Nat} (h : j < l.length) : (cutI l sh j).set j (min (l.getD j 0) (sh.getD j 0 - 1)) = cutI l sh (j + 1) := by
  refine List.ext_getElem (by rw [List.length_set, cutI_len, cutI_len]) fun i h1 h2 => ?_
  rw [List.getElem_set]
  simp only [cutI, List.getElem_map, List.getElem_range]
  split
  · next e => rw [if_pos (by omega), e]
  · next e =>
    by_cases hi : i < j
    · rw [if_pos hi, if_pos (by omega)]
    · rw [if_neg hi, if_neg (by omega)]

set_option maxHeartbeats 8000000 in
theorem spread_t {S T U : Nat → Prop} (w : World) (vs ve vi : Value) (sh idx : List Int) (es : List RatL) (L g : Nat) (hg : Hid (idx.length = g + sh.length)) (hr : Hid (atE sh es (cutI (idx.drop g) sh sh.length) = 0)) (hs : Sl Im S w vs sh) (he : Sl Rm T w ve es) (hi : Sl Im U w vi idx) (hd : ∀ d ∈ sh, 1 ≤ d ∧ d ≤ 1024) (hil : idx.length ≤ 1099511627000) (hL : ∀ x ∈ es, x.2.1.length ≤ L ∧ x.2.2.length ≤ L) (hL1 : 1 ≤ L) (hl : L ≤ 104857600) :
    Calls Tryz.prog 72 #[.agg #[vs, ve], vi] w fun e w' => ∃ s v1 v2, e = .returned (.agg #[.bool s, v1, v2]) ∧ Hid (s = sg (qOf (es.getD (ofs sh (cutI (idx.drop g) sh sh.length) sh.length).toNat zR)) ∧ RV (fun k => w.heap.size ≤ k) w' v1 v2 (qOf (es.getD (ofs sh (cutI (idx.drop g) sh sh.length) sh.length).toNat zR)) L) ∧ Fr (fun k => k < w.heap.size) w w' := by
  obtain ⟨A, c, rfl, _, _, _⟩ := hs.slice
  obtain ⟨A', c', rfl, _, _, _⟩ := he.slice
  have F := fun R => ((Fr.refl R w).alloc (.cells #[.slice A sh.length c, .slice A' es.length c'] 26)).alloc (.cells #[.bool false, .slice none 0 0, .slice none 0 0] 54)
  have x0 := (Box2.new w 26 (.slice A sh.length c) (.slice A' es.length c')).alloc (.cells #[.bool false, .slice none 0 0, .slice none 0 0] 54)
  have x4 := Box3.new (w.alloc (.cells #[.slice A sh.length c, .slice A' es.length c'] 26)) 54 (.bool false) (.slice none 0 0) (.slice none 0 0)
  simp only [World.size_alloc] at x4
  have HS := Lib.hid ((hs.low Im_pos).fr (F _))
  have HE := Lib.hid ((he.low Rm_pos).fr (F _))
  have hi' := (hi.low Im_pos).fr (F _)
  replace F := F (fun k => k < w.heap.size)
  have HD := Lib.hid hd
  have HLx := Lib.hid hL
  have HGG := hg
  obtain ⟨n, hn⟩ : ∃ n, idx.length = n := ⟨_, rfl⟩
  have hgn : n = g + sh.length := by rw [← hn]; exact hg.out
  obtain ⟨C, f, rfl, hfc, _, _⟩ := hi'.slice
  have hw : IntKind.i64.wrap ((n : Int) - (sh.length : Int)) = (g : Int) := by rw [IntKind.wrap_i64]; omega
  clear hs he hi hd hL hg
  have a0 := x0.c0
  cases C with
  | none =>
    have hf0 : f = 0 := by
      obtain ⟨A9, c9, e9, _, _, h3, _⟩ := hi'
      cases e9
      exact h3 rfl
    subst hf0
    rw [hn] at hfc ⊢
    have hz : sh.length = 0 := by omega
    have hdz : (idx.drop g).length = 0 := by rw [List.length_drop]; omega
    have hg0 : g = 0 := by omega
    have HR := Lib.hid (show Sl Im (fun k => k < w.heap.size) ((w.alloc (.cells #[.slice A sh.length c, .slice A' es.length c'] 26)).alloc (.cells #[.bool false, .slice none 0 0, .slice none 0 0] 54)) (.slice none sh.length 0) (idx.drop g) from ⟨none, 0, by rw [hz, hdz], by omega, by omega, fun h => rfl, fun h => by omega⟩)
    clear hz hdz hi' hg0
    go_enter Tryz.func72, Tryz.ntmps72
    go_wp2_with fail
    clear hw a0
    generalize (w.alloc (.cells #[.slice A sh.length c, .slice A' es.length c'] 26)).alloc (.cells #[.bool false, .slice none 0 0, .slice none 0 0] 54) = W0 at F x0 x4 HS HE HR ⊢
    have hdl : (idx.drop g).length = sh.length := by rw [List.length_drop]; omega
    with_reducible refine (iclone_calls _ _ (idx.drop g) HR.out (by omega)).mono ?_
    rintro e W1 ⟨v, rfl, o1, hf⟩
    obtain ⟨C2, n2, c2, rfl⟩ := o1.form
    have hn2 : n2 = sh.length := by
      obtain ⟨_, _, e, _⟩ := o1.slice
      rw [hdl] at e
      cases e
      rfl
    subst hn2
    have y0 := x0.keep hf
    have a0 := y0.c0
    have o2 : Own Im 3 (fun k => W0.heap.size ≤ k) W1 (.slice C2 sh.length c2) (cutI (idx.drop g) sh 0) := by rw [cutI_0]; exact o1
    have hx4 := x4.lt
    have HRng := Lib.hid (show ∀ i (h : i < (idx.drop g).length), -9223372036854775808 ≤ (idx.drop g)[i] ∧ (idx.drop g)[i] < 9223372036854775808 from fun i h => by
      have hh := HR.out
      rw [← hdl] at hh
      obtain ⟨_, _, _, h1, h2⟩ := Kd.int_cell hh (i := i) h
      exact ⟨h1, h2⟩)
    clear HR o1
    have HDL := Lib.hid hdl
    clear hdl y0
    go_wp2_with fail
    go_loopw [21] (fun i wr => ∃ (j : Nat), j ≤ sh.length ∧ i = .int .i64 j ∧ Own Im 3 (fun k => W0.heap.size ≤ k) wr (.slice C2 sh.length c2) (cutI (idx.drop g) sh j) ∧ Fr (fun k => k < W0.heap.size) W0 wr) (fun i _ => sh.length - (intOf i).toNat)
    case atStart => exact ⟨0, Nat.zero_le _, rfl, o2, hf⟩
    case round =>
      clear o2 hf a0
      obtain ⟨j, hj, rfl, o, hf⟩ := hrel
      by_cases hlt : j < sh.length
      · omega
      · obtain rfl : j = sh.length := by omega
        have hs9 := HS.out.fr (hf.mono fun k _ hk => by omega)
        have he9 := HE.out.fr (hf.mono fun k _ hk => by omega)
        have P := Lib.hid (at_t wr (.slice A sh.length c) (.slice A' es.length c') (.slice C2 sh.length c2) sh (cutI (idx.drop g) sh sh.length) es L hs9 he9 o.sl HLx.out hL1 hl)
        rw [hr.out] at P
        have y0 := x0.keep hf
        have y4 := x4.keep hf
        have b0 := y0.c0
        have b1 := y0.c1
        have FF := F.comp hf (R := fun k => k < w.heap.size) fun k _ hk => ⟨hk, by omega⟩
        have sz := hf.size
        clear hs9 he9 o
        go_wp2_with fail
        with_reducible refine P.out.mono ?_
        rintro e W5 ⟨s0, v1, v2, rfl, -, hv, hf5⟩
        obtain ⟨hs0, hrv⟩ := hv rfl
        have HS0 := Lib.hid hs0
        clear hs0 hv
        obtain ⟨⟨Q1, m1, k1, rfl⟩, ⟨Q2, m2, k2, rfl⟩⟩ := hrv.form
        have al := fun R => (Fr.refl R W5).alloc (.cells #[.bool s0, .slice Q1 m1 k1, .slice Q2 m2 k2] 54)
        have x7 := Box3.new W5 54 (.bool s0) (.slice Q1 m1 k1) (.slice Q2 m2 k2)
        have z4 := (y4.keep hf5).keep (al _)
        have F5 := fr_then (fr_then FF hf5) (al _)
        have hrv5 := hrv.bd.keep (al _)
        have c0 := x7.c0
        have c1 := x7.c1
        have c2 := x7.c2
        have s5 := hf5.size
        have e0 := z4.c0
        have e1 := z4.c1
        have e2 := z4.c2
        have f0 := z4.free 0
        have f1 := z4.free 1
        have f2 := z4.free 2
        have F9 := fr_set3 (W5.alloc (.cells #[.bool s0, .slice Q1 m1 k1, .slice Q2 m2 k2] 54)) (w.heap.size + 1) (.bool s0) (.slice Q1 m1 k1) (.slice Q2 m2 k2)
        have B9 := z4.set3 (.bool s0) (.slice Q1 m1 k1) (.slice Q2 m2 k2)
        go_wp2_with fail
        refine bodyPost_ret (results_cell3 rfl rfl B9 Tryz.underlying54 rat3) rfl ?_
        exact ⟨_, _, _, rfl, Lib.hid ⟨HS0.out, (hrv5.fr (F9.mono fun k _ hk => by omega)).mono fun k hk => by omega⟩, F5.comp F9 fun k _ hk => ⟨hk, by omega⟩⟩
  | some ad =>
    have HR0 := Lib.hid (hi'.rest (m := g) (by omega))
    rw [hn] at HR0 hi' hfc ⊢
    rw [show g * Im.size = g from Nat.mul_one g, show n - g = sh.length by omega] at HR0
    clear hi'
    by_cases hfg : f = g
    case pos =>
      have hz : sh.length = 0 := by omega
      have hdz : (idx.drop g).length = 0 := by rw [List.length_drop]; omega
      have HR := Lib.hid (show Sl Im (fun k => k < w.heap.size) ((w.alloc (.cells #[.slice A sh.length c, .slice A' es.length c'] 26)).alloc (.cells #[.bool false, .slice none 0 0, .slice none 0 0] 54)) (.slice (some ad) sh.length 0) (idx.drop g) from ⟨some ad, 0, by rw [hz, hdz], by omega, by omega, fun h => (nomatch h), fun h => by omega⟩)
      clear HR0 hz hdz
      have hfg' := hfg.symm
      clear hfg
      subst hfg'
      go_enter Tryz.func72, Tryz.ntmps72
      go_wp2_with fail
      clear hw a0
      generalize (w.alloc (.cells #[.slice A sh.length c, .slice A' es.length c'] 26)).alloc (.cells #[.bool false, .slice none 0 0, .slice none 0 0] 54) = W0 at F x0 x4 HS HE HR ⊢
      have hdl : (idx.drop g).length = sh.length := by rw [List.length_drop]; omega
      with_reducible refine (iclone_calls _ _ (idx.drop g) HR.out (by omega)).mono ?_
      rintro e W1 ⟨v, rfl, o1, hf⟩
      obtain ⟨C2, n2, c2, rfl⟩ := o1.form
      have hn2 : n2 = sh.length := by
        obtain ⟨_, _, e, _⟩ := o1.slice
        rw [hdl] at e
        cases e
        rfl
      subst hn2
      have y0 := x0.keep hf
      have a0 := y0.c0
      have o2 : Own Im 3 (fun k => W0.heap.size ≤ k) W1 (.slice C2 sh.length c2) (cutI (idx.drop g) sh 0) := by rw [cutI_0]; exact o1
      have hx4 := x4.lt
      have HRng := Lib.hid (show ∀ i (h : i < (idx.drop g).length), -9223372036854775808 ≤ (idx.drop g)[i] ∧ (idx.drop g)[i] < 9223372036854775808 from fun i h => by
        have hh := HR.out
        rw [← hdl] at hh
        obtain ⟨_, _, _, h1, h2⟩ := Kd.int_cell hh (i := i) h
        exact ⟨h1, h2⟩)
      clear HR o1
      have HDL := Lib.hid hdl
      clear hdl y0
      go_wp2_with fail
      go_loopw [21] (fun i wr => ∃ (j : Nat), j ≤ sh.length ∧ i = .int .i64 j ∧ Own Im 3 (fun k => W0.heap.size ≤ k) wr (.slice C2 sh.length c2) (cutI (idx.drop g) sh j) ∧ Fr (fun k => k < W0.heap.size) W0 wr) (fun i _ => sh.length - (intOf i).toNat)
      case atStart => exact ⟨0, Nat.zero_le _, rfl, o2, hf⟩
      case round =>
        clear o2 hf a0
        obtain ⟨j, hj, rfl, o, hf⟩ := hrel
        by_cases hlt : j < sh.length
        · omega
        · obtain rfl : j = sh.length := by omega
          have hs9 := HS.out.fr (hf.mono fun k _ hk => by omega)
          have he9 := HE.out.fr (hf.mono fun k _ hk => by omega)
          have P := Lib.hid (at_t wr (.slice A sh.length c) (.slice A' es.length c') (.slice C2 sh.length c2) sh (cutI (idx.drop g) sh sh.length) es L hs9 he9 o.sl HLx.out hL1 hl)
          rw [hr.out] at P
          have y0 := x0.keep hf
          have y4 := x4.keep hf
          have b0 := y0.c0
          have b1 := y0.c1
          have FF := F.comp hf (R := fun k => k < w.heap.size) fun k _ hk => ⟨hk, by omega⟩
          have sz := hf.size
          clear hs9 he9 o
          go_wp2_with fail
          with_reducible refine P.out.mono ?_
          rintro e W5 ⟨s0, v1, v2, rfl, -, hv, hf5⟩
          obtain ⟨hs0, hrv⟩ := hv rfl
          have HS0 := Lib.hid hs0
          clear hs0 hv
          obtain ⟨⟨Q1, m1, k1, rfl⟩, ⟨Q2, m2, k2, rfl⟩⟩ := hrv.form
          have al := fun R => (Fr.refl R W5).alloc (.cells #[.bool s0, .slice Q1 m1 k1, .slice Q2 m2 k2] 54)
          have x7 := Box3.new W5 54 (.bool s0) (.slice Q1 m1 k1) (.slice Q2 m2 k2)
          have z4 := (y4.keep hf5).keep (al _)
          have F5 := fr_then (fr_then FF hf5) (al _)
          have hrv5 := hrv.bd.keep (al _)
          have c0 := x7.c0
          have c1 := x7.c1
          have c2 := x7.c2
          have s5 := hf5.size
          have e0 := z4.c0
          have e1 := z4.c1
          have e2 := z4.c2
          have f0 := z4.free 0
          have f1 := z4.free 1
          have f2 := z4.free 2
          have F9 := fr_set3 (W5.alloc (.cells #[.bool s0, .slice Q1 m1 k1, .slice Q2 m2 k2] 54)) (w.heap.size + 1) (.bool s0) (.slice Q1 m1 k1) (.slice Q2 m2 k2)
          have B9 := z4.set3 (.bool s0) (.slice Q1 m1 k1) (.slice Q2 m2 k2)
          go_wp2_with fail
          refine bodyPost_ret (results_cell3 rfl rfl B9 Tryz.underlying54 rat3) rfl ?_
          exact ⟨_, _, _, rfl, Lib.hid ⟨HS0.out, (hrv5.fr (F9.mono fun k _ hk => by omega)).mono fun k hk => by omega⟩, F5.comp F9 fun k _ hk => ⟨hk, by omega⟩⟩
    case neg =>
      have HR := HR0
      clear HR0
      go_enter Tryz.func72, Tryz.ntmps72
      go_wp2_with fail
      clear hw a0
      generalize (w.alloc (.cells #[.slice A sh.length c, .slice A' es.length c'] 26)).alloc (.cells #[.bool false, .slice none 0 0, .slice none 0 0] 54) = W0 at F x0 x4 HS HE HR ⊢
      have hdl : (idx.drop g).length = sh.length := by rw [List.length_drop]; omega
      with_reducible refine (iclone_calls _ _ (idx.drop g) HR.out (by omega)).mono ?_
      rintro e W1 ⟨v, rfl, o1, hf⟩
      obtain ⟨C2, n2, c2, rfl⟩ := o1.form
      have hn2 : n2 = sh.length := by
        obtain ⟨_, _, e, _⟩ := o1.slice
        rw [hdl] at e
        cases e
        rfl
      subst hn2
      have y0 := x0.keep hf
      have a0 := y0.c0
      have o2 : Own Im 3 (fun k => W0.heap.size ≤ k) W1 (.slice C2 sh.length c2) (cutI (idx.drop g) sh 0) := by rw [cutI_0]; exact o1
      have hx4 := x4.lt
      have HRng := Lib.hid (show ∀ i (h : i < (idx.drop g).length), -9223372036854775808 ≤ (idx.drop g)[i] ∧ (idx.drop g)[i] < 9223372036854775808 from fun i h => by
        have hh := HR.out
        rw [← hdl] at hh
        obtain ⟨_, _, _, h1, h2⟩ := Kd.int_cell hh (i := i) h
        exact ⟨h1, h2⟩)
      clear HR o1
      have HDL := Lib.hid hdl
      clear hdl y0
      go_wp2_with fail
      go_loopw [21] (fun i wr => ∃ (j : Nat), j ≤ sh.length ∧ i = .int .i64 j ∧ Own Im 3 (fun k => W0.heap.size ≤ k) wr (.slice C2 sh.length c2) (cutI (idx.drop g) sh j) ∧ Fr (fun k => k < W0.heap.size) W0 wr) (fun i _ => sh.length - (intOf i).toNat)
      case atStart => exact ⟨0, Nat.zero_le _, rfl, o2, hf⟩
      case round =>
        clear o2 hf a0
        obtain ⟨j, hj, rfl, o, hf⟩ := hrel
        by_cases hlt : j < sh.length
        · obtain ⟨ad2, hA2, hx, hx1, hx2⟩ := Kd.int_cell (HS.out.fr (hf.mono fun k _ hk => by omega)) (i := j) hlt
          subst hA2
          obtain ⟨g2, hC2, hS2, hlt2, hc, hfr, hset⟩ := o.int_at (j := j) (by rw [cutI_len, HDL.out]; exact hlt)
          subst hC2
          rw [cutI_get _ (by rw [HDL.out]; exact hlt)] at hc
          have hdd := HD.out _ (List.getElem_mem hlt)
          have HGx := Lib.hid (getI_at hlt)
          have HGy := Lib.hid (getI_at (l := idx.drop g) (j := j) (by rw [HDL.out]; exact hlt))
          have hys := HRng.out j (by rw [HDL.out]; exact hlt)
          generalize sh[j] = d at hx hx1 hx2 hdd HGx
          generalize (idx.drop g)[j]'(by rw [HDL.out]; exact hlt) = y at hc HGy hys
          have hw : IntKind.i64.wrap (d - 1) = d - 1 := by rw [IntKind.wrap_i64]; omega
          have hm1 : -9223372036854775808 ≤ min y (d - 1) ∧ min y (d - 1) < 9223372036854775808 := by omega
          have o9 := hset (min y (d - 1)) hm1.1 hm1.2
          have HST : Hid ((cutI (idx.drop g) sh j).set j (min y (d - 1)) = cutI (idx.drop g) sh (j + 1)) := Lib.hid (by rw [← HGx.out, ← HGy.out]; exact cutI_set (by rw [HDL.out]; exact hlt))
          rw [HST.out] at o9
          have F9 := fr_set1 wr g2 j (.int .i64 (min y (d - 1)))
          have G9 := hf.comp F9 (R := fun k => k < W0.heap.size) fun k _ hk => ⟨hk, by omega⟩
          go_wp2_with fail
          go_roundw
          case rel => exact ⟨j + 1, by omega, by go_num, o9, G9⟩
          case measure => first | (simp [intOf]; done) | (simp [intOf]; omega)
        · obtain rfl : j = sh.length := by omega
          have hs9 := HS.out.fr (hf.mono fun k _ hk => by omega)
          have he9 := HE.out.fr (hf.mono fun k _ hk => by omega)
          have P := Lib.hid (at_t wr (.slice A sh.length c) (.slice A' es.length c') (.slice C2 sh.length c2) sh (cutI (idx.drop g) sh sh.length) es L hs9 he9 o.sl HLx.out hL1 hl)
          rw [hr.out] at P
          have y0 := x0.keep hf
          have y4 := x4.keep hf
          have b0 := y0.c0
          have b1 := y0.c1
          have FF := F.comp hf (R := fun k => k < w.heap.size) fun k _ hk => ⟨hk, by omega⟩
          have sz := hf.size
          clear hs9 he9 o
          go_wp2_with fail
          with_reducible refine P.out.mono ?_
          rintro e W5 ⟨s0, v1, v2, rfl, -, hv, hf5⟩
          obtain ⟨hs0, hrv⟩ := hv rfl
          have HS0 := Lib.hid hs0
          clear hs0 hv
          obtain ⟨⟨Q1, m1, k1, rfl⟩, ⟨Q2, m2, k2, rfl⟩⟩ := hrv.form
          have al := fun R => (Fr.refl R W5).alloc (.cells #[.bool s0, .slice Q1 m1 k1, .slice Q2 m2 k2] 54)
          have x7 := Box3.new W5 54 (.bool s0) (.slice Q1 m1 k1) (.slice Q2 m2 k2)
          have z4 := (y4.keep hf5).keep (al _)
          have F5 := fr_then (fr_then FF hf5) (al _)
          have hrv5 := hrv.bd.keep (al _)
          have c0 := x7.c0
          have c1 := x7.c1
          have c2 := x7.c2
          have s5 := hf5.size
          have e0 := z4.c0
          have e1 := z4.c1
          have e2 := z4.c2
          have f0 := z4.free 0
          have f1 := z4.free 1
          have f2 := z4.free 2
          have F9 := fr_set3 (W5.alloc (.cells #[.bool s0, .slice Q1 m1 k1, .slice Q2 m2 k2] 54)) (w.heap.size + 1) (.bool s0) (.slice Q1 m1 k1) (.slice Q2 m2 k2)
          have B9 := z4.set3 (.bool s0) (.slice Q1 m1 k1) (.slice Q2 m2 k2)
          go_wp2_with fail
          refine bodyPost_ret (results_cell3 rfl rfl B9 Tryz.underlying54 rat3) rfl ?_
          exact ⟨_, _, _, rfl, Lib.hid ⟨HS0.out, (hrv5.fr (F9.mono fun k _ hk => by omega)).mono fun k hk => by omega⟩, F5.comp F9 fun k _ hk => ⟨hk, by omega⟩⟩
end Go.Proofs.YtlppcfeimpcbjaaGreat

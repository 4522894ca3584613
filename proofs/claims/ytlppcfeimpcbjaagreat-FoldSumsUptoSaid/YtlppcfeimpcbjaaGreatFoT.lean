import Derived.Test.YtlppcfeimpcbjaaGreatFoR
set_option linter.unusedSimpArgs false
set_option linter.unusedVariables false

/- fluxionref10.Mean: printed by gen_fot.py. -/
namespace Go.Proofs.YtlppcfeimpcbjaaGreat
open Go.RowKit Go.Shelf
attribute [local go_sem] Oper.semAt_some

/-- The first of a list are scaled. -/
def mixL (f : Nat → Rat) (b : Rat) (N j : Nat) : List Rat := (List.range N).map fun n => if n < j then f n * b else f n
theorem mixL_len {f : Nat → Rat} {b : Rat} {N j : Nat} : (mixL f b N j).length = N := by rw [mixL, List.length_map, List.length_range]
theorem mixL_0 {f : Nat → Rat} {b : Rat} {N : Nat} : mixL f b N 0 = (List.range N).map f := List.map_congr_left fun n _ => if_neg (by omega)
theorem mixL_all {f : Nat → Rat} {b : Rat} {N : Nat} : mixL f b N N = ((List.range N).map f).map fun q => q * b := by
  rw [List.map_map]
  exact List.map_congr_left fun n hn => if_pos (List.mem_range.1 hn)
theorem mixL_get {f : Nat → Rat} {b : Rat} {N j : Nat} (h : j < (mixL f b N j).length) : (mixL f b N j)[j] = f j := by
  simp only [mixL, List.getElem_map, List.getElem_range]
  exact if_neg (by omega)
theorem mixL_set {f : Nat → Rat} {b : Rat} {N j : Nat} (h : j < N) : (mixL f b N j).set j (f j * b) = mixL f b N (j + 1) := by
  refine List.ext_getElem (by rw [List.length_set, mixL_len, mixL_len]) fun i h1 h2 => ?_
  rw [List.getElem_set]
  simp only [mixL, List.getElem_map, List.getElem_range]
  split
  · next e => rw [if_pos (by omega), e]
  · next e =>
    by_cases hi : i < j
    · rw [if_pos hi, if_pos (by omega)]
    · rw [if_neg hi, if_neg (by omega)]
theorem Own.tight {e : TypeId} {S : Nat → Prop} {w : World} {v : Value} {xs : List Int} (h : Own Im e S w v xs) : Own Im e (fun k => v.ownBlock = some k) w v xs := by
  obtain ⟨cells, h1, h2, h3⟩ := h
  exact ⟨cells, h1, fun g hg => hg, fun i x hx => let ⟨cs, hr, hu⟩ := h3 i x hx; ⟨cs, hr, hu⟩⟩
/-- Rows of different types lie apart. -/
theorem Own.apart {α β : Type} {K : Kd α} {K' : Kd β} {e e' : TypeId} {S T : Nat → Prop} {w : World} {v v' : Value} {xs : List α} {ys : List β} (h : Own K e S w v xs) (h' : Own K' e' T w v' ys) (he : e ≠ e') (k : Nat) (hk : v.ownBlock = some k) : v'.ownBlock ≠ some k := fun hk' => by
  obtain ⟨_, ⟨_, h1⟩, _⟩ := h
  obtain ⟨_, ⟨_, h2⟩, _⟩ := h'
  rcases h1 with ⟨rfl, _⟩ | ⟨g, cap, cur, rfl, _, hg, _⟩
  · cases hk
  rcases h2 with ⟨rfl, _⟩ | ⟨g', cap', cur', rfl, _, hg', _⟩
  · cases hk'
  cases hk
  cases hk'
  rw [hg] at hg'
  cases hg'
  exact he rfl
theorem Own.base {α : Type} {K : Kd α} {e : TypeId} {S : Nat → Prop} {w : World} {A : Option Addr} {n c : Nat} {xs : List α} (h : Own K e S w (.slice A n c) xs) (h0 : 0 < xs.length) : n = xs.length ∧ ∃ g, A = some ⟨g, 0, none⟩ := by
  obtain ⟨cells, ⟨_, h1⟩, _⟩ := h
  rcases h1 with ⟨h2, h3⟩ | ⟨g, cap, cur, h2, _⟩
  · omega
  · cases h2
    exact ⟨rfl, g, rfl⟩
theorem Own.rwide {e : TypeId} {S : Nat → Prop} {w : World} {v : Value} {qs : List Rat} {K M : Nat} (h : Own (Rk K) e S w v qs) (hl : K ≤ M) : Own (Rk M) e S w v qs := by
  obtain ⟨cells, h1, h2, h3⟩ := h
  exact ⟨cells, h1, h2, fun i x hx => let ⟨cs, ⟨vn, vd, hc, hr⟩, hu⟩ := h3 i x hx; ⟨cs, ⟨vn, vd, hc, hr.wide hl⟩, hu⟩⟩

set_option maxRecDepth 100000 in
set_option maxHeartbeats 16000000 in
theorem rmean_t {S T U : Nat → Prop} (w : World) (va ve vx : Value) (sh axes : List Int) (qs : List Rat) (K M M2 N m : Nat) (by_ : Rat) (r : Int) (hr : Hid (axE axes sh.length = r)) (ha : Sl Im S w va sh) (hq : Sl (Rk K) T w ve qs) (hx : Sl Im U w vx axes)
    (hm : Hid (mayS sh = 0 ∧ (qs.length : Int) = pr sh)) (hN : Hid (pr (dropI axes 0 sh) = (N : Int))) (hKM : K ≤ M) (h6 : 6 ≤ M) (hM2 : 2 * M ≤ M2) (hM : M2 ≤ 104857600) (hmm : Hid (qs.length / N = m)) (hby : Hid (fr 1 (m : Int) = by_))
    (hB : Hid (∀ n i, i ≤ qs.length → (dg DB (sumP (plc sh axes) qs n i).num.natAbs).length ≤ M ∧ (dg DB (sumP (plc sh axes) qs n i).den).length ≤ M)) :
    Calls Tryz.prog 19 #[.agg #[va, ve], vx] w (RefO w (dropI axes 0 sh) ((sumL (plc sh axes) qs N qs.length).map fun q => q * by_) M2 r) := by
  obtain ⟨A, c, rfl, _, _, _⟩ := ha.slice
  obtain ⟨A', c', rfl, _, _, _⟩ := hq.slice
  obtain ⟨C, f, rfl, _, _, _⟩ := hx.slice
  have F := fun R => ((Fr.refl R w).alloc (.cells #[.slice A sh.length c, .slice A' qs.length c'] 36)).alloc (.cells #[.slice none 0 0, .slice none 0 0] 36)
  have x0 := (Box2.new w 36 (.slice A sh.length c) (.slice A' qs.length c')).alloc (.cells #[.slice none 0 0, .slice none 0 0] 36)
  have x2 := Box2.new (w.alloc (.cells #[.slice A sh.length c, .slice A' qs.length c'] 36)) 36 (.slice none 0 0) (.slice none 0 0)
  have hW0 : ((w.alloc (.cells #[.slice A sh.length c, .slice A' qs.length c'] 36)).alloc (.cells #[.slice none 0 0, .slice none 0 0] 36)).heap.size = w.heap.size + 2 := by simp only [World.size_alloc]
  simp only [World.size_alloc] at x2
  have HA := (ha.low Im_pos).fr (F _)
  have HQ := (hq.low (Rk_pos K)).fr (F _)
  have HX := (hx.low Im_pos).fr (F _)
  replace F := F (fun k => k < w.heap.size)
  obtain ⟨hmS, hcnt⟩ := hm.out
  obtain ⟨hl4, hd1, hp4⟩ := mayS_ok hmS
  have hmD := drop_may (axes := axes) hmS
  have hND := hN.out
  have hpos2 := pr_pos (mayS_ok hmD).2.1
  have hql : qs.length ≤ 1024 := by omega
  have hN0 : 0 < N := by omega
  have hN2 := (mayS_ok hmD).2.2
  have hnl : N ≤ 1024 := by omega
  have hml : m ≤ qs.length := by rw [← hmm.out]; exact Nat.div_le_self _ _
  have hw : Int.tdiv (qs.length : Int) (N : Int) = (m : Int) := by rw [← hmm.out]; rfl
  have HW := Lib.hid hw
  have HBY := hby
  clear ha hq hx hmS hmD hd1 hcnt hp4 hND hpos2 hN2 hw hby
  have a0 := x0.c0
  have a1 := x0.c1
  go_enter Tryz.func19, Tryz.ntmps19
  go_wp2_with fail
  have hWs := Nat.le_of_eq hW0
  have hWs' := Nat.le_of_eq hW0.symm
  clear hW0
  generalize (w.alloc (.cells #[.slice A sh.length c, .slice A' qs.length c'] 36)).alloc (.cells #[.slice none 0 0, .slice none 0 0] 36) = W0 at F x0 x2 HA HQ HX a0 a1 hWs hWs' ⊢
  with_reducible refine (rsum_t _ _ _ _ sh axes qs K M N r hr HA HQ HX hm hN hKM h6 (by omega) hB).mono ?_
  rintro e W1 ⟨P1, i1, j1, P2, i2, j2, rfl, hE, hf⟩
  have x20 := x2
  have F0 := F
  have s1 := hf.size
  replace x0 := x0.keep hf
  replace x2 := x2.keep hf
  replace F := fr_then F (hf.mono fun k _ hk => hk)
  have x6 := Box2.new W1 36 (.slice P1 i1 j1) (.slice P2 i2 j2)
  have al := fun R => (Fr.refl R W1).alloc (.cells #[.slice P1 i1 j1, .slice P2 i2 j2] 36)
  replace x0 := x0.keep (al _)
  replace x2 := x2.keep (al _)
  replace F := fr_then F (al _)
  have FW : Fr (fun k => k < w.heap.size + 2) W0 _ := (fr_then hf (al _)).mono fun k _ hk => by omega
  clear a0 a1 HA HQ HX
  by_cases h0 : r = 0
  case neg =>
    have hb0 : (r == 0) = false := beq_eq_false_iff_ne.2 h0
    go_wp2_with ((with_reducible apply wpList_st2); rfl; rfl; exact x2; exact tt2; rfl; rfl; intro w9 B9 F9)
    refine bodyPost_ret (results_cell2_tmp rfl rfl B9 Tryz.underlying36 tt2) rfl ?_
    exact ⟨none, 0, 0, none, 0, 0, rfl, fun h => absurd h h0, F.comp F9 fun k _ hk => ⟨hk, by omega⟩⟩
  subst h0
  obtain ⟨oS, oE⟩ := hE rfl
  obtain ⟨rfl, g, rfl⟩ := oE.base (by rw [sumL_len]; exact hN0)
  have hlen : (sumL (plc sh axes) qs N qs.length).length = N := sumL_len _ _ _ _
  rw [hlen] at x6 al x0 x2 F FW oE ⊢
  have gin := oE.in_ g rfl
  have glt := oE.lt g rfl
  have HPS := Lib.hid (show ∀ k, (Value.slice P1 i1 j1).ownBlock = some k → w.heap.size + 2 ≤ k ∧ k ≠ g ∧ k < W1.heap.size from fun k hk => ⟨by have := oS.in_ k hk; omega, fun e => oS.apart oE (by decide) k hk (by rw [e]; rfl), oS.lt k hk⟩)
  have oS2 := oS.tight.keep' (al _)
  have oE3 := (((oE.bd.mono (T := fun k => w.heap.size + 2 ≤ k ∧ k ≠ W1.heap.size) fun k hk => ⟨by omega, by omega⟩).keep' (al _)).rwide (M := M2) (by omega))
  have hmx : sumL (plc sh axes) qs N qs.length = mixL (fun n => sumP (plc sh axes) qs n qs.length) by_ N 0 := mixL_0.symm
  have hg : w.heap.size + 2 ≤ g ∧ g ≠ W1.heap.size ∧ g < W1.heap.size := ⟨by omega, by omega, glt⟩
  have hall : (sumL (plc sh axes) qs N qs.length).map (fun q => q * by_) = mixL (fun n => sumP (plc sh axes) qs n qs.length) by_ N N := mixL_all.symm
  rw [hmx] at oE3
  have HALL := Lib.hid hall
  have HLEN := Lib.hid (show w.heap.size + 2 ≤ W1.heap.size by omega)
  obtain ⟨b6, hb6⟩ : ∃ b, W1.heap.size = b := ⟨_, rfl⟩
  clear hE oS oE hf al hlen gin glt hmx hall F
  have a0 := x0.c1
  have a2 := x6.c1
  have hw := HW.out
  go_wp2_with fail
  rw [hb6] at x6 oE3 hg HPS HLEN s1 a2
  clear hb6 a0 a2 hw
  generalize W1.alloc (.cells #[.slice P1 i1 j1, .slice (some ⟨g, 0, none⟩) N j2] 36) = W2 at x0 x2 x6 oS2 oE3 FW ⊢
  go_loopw [9] (fun oi wr => ∃ (j : Nat), j ≤ N ∧ oi = .int .i64 j ∧ Box2 wr b6 36 (.slice P1 i1 j1) (.slice (some ⟨g, 0, none⟩) N j2) ∧ Own Im 3 (fun k => (Value.slice P1 i1 j1).ownBlock = some k) wr (.slice P1 i1 j1) (dropI axes 0 sh) ∧ Own (Rk M2) 58 (fun k => w.heap.size + 2 ≤ k ∧ k ≠ b6) wr (.slice (some ⟨g, 0, none⟩) N j2) (mixL (fun n => sumP (plc sh axes) qs n qs.length) by_ N j) ∧ Fr (fun k => k < w.heap.size + 2) W0 wr) (fun oi _ => N - (intOf oi).toNat)
  case atStart => exact ⟨0, Nat.zero_le _, rfl, x6, oS2, oE3, FW⟩
  case round =>
    clear x0 x2 x6 oS2 oE3 FW
    obtain ⟨j, hj, rfl, x6, oS, oE, FW⟩ := hrel
    by_cases hltj : j < N
    case neg =>
      obtain rfl : j = N := by omega
      have x2 := x20.fr FW (by omega)
      have c0 := x6.c0
      have c1' := x6.c1
      have FF := F0.comp FW (R := fun k => k < w.heap.size) fun k _ hk => by omega
      rw [← HALL.out] at oE
      go_wp2_with ((with_reducible apply wpList_st2); rfl; rfl; exact x2; exact tt2; rfl; rfl; intro w9 B9 F9)
      refine bodyPost_ret (results_cell2_tmp rfl rfl B9 Tryz.underlying36 tt2) rfl ?_
      exact ⟨_, _, _, _, _, _, rfl, fun _ => ⟨(oS.past F9 fun k hk => by have := HPS.out k hk; omega).mono fun k hk => by have := HPS.out k hk; omega, (oE.past F9 fun k hk => by omega).mono fun k hk => by omega⟩, FF.comp F9 fun k _ hk => ⟨hk, by omega⟩⟩
    have DD := fun R => (Fr.refl R wr).drew
    have x6d := x6.fr (DD (fun _ => True)) trivial
    have oSD := oS.fr (DD _)
    have oED := oE.fr (DD _)
    have hlm : (mixL (fun n => sumP (plc sh axes) qs n qs.length) by_ N j).length = N := mixL_len
    have hsl := oED.sl
    rw [show Value.slice (some ⟨g, 0, none⟩) N j2 = Value.slice (some ⟨g, 0, none⟩) (mixL (fun n => sumP (plc sh axes) qs n qs.length) by_ N j).length j2 by rw [hlm]] at hsl
    obtain ⟨ah, Q1, n1, e1, Q2, n2, e2, hA1, hS1, g0, g1, g2, t1⟩ := Rk_get hsl (i := j) (by rw [hlm]; exact hltj)
    cases hA1
    rw [mixL_get] at g0 t1
    rw [addr_lit, Nat.zero_add] at g0 g1 g2
    have hbb := hB.out j qs.length (Nat.le_refl _)
    have HT1 := Lib.hid (t1.sizes hbb.1 hbb.2)
    have HX1 : Hid (sumP (plc sh axes) qs j qs.length = sumP (plc sh axes) qs j qs.length) := Lib.hid rfl
    obtain ⟨x1, hx1⟩ : ∃ x, sumP (plc sh axes) qs j qs.length = x := ⟨_, rfl⟩
    rw [hx1] at g0 HT1
    replace HX1 : Hid (x1 = (fun n => sumP (plc sh axes) qs n qs.length) j) := Lib.hid hx1.symm
    obtain ⟨sx, hsx⟩ : ∃ s, s = sg x1 := ⟨_, rfl⟩
    rw [← hsx] at g0
    have HSX := Lib.hid hsx
    have l6 := x6d.lt
    have gl := oED.lt g rfl
    have hWd : wr.drew.heap.size = wr.heap.size := rfl
    have KS : ∀ v, Fr (fun κ => κ < wr.drew.heap.size) wr.drew v → v.cell? ⟨b6, 1, none⟩ = some (.slice (some ⟨g, 0, none⟩) N j2) ∧ v.cell? ⟨g, j * 3, none⟩ = some (.bool sx) ∧ v.cell? ⟨g, j * 3 + 1, none⟩ = some (.slice Q1 n1 e1) ∧ v.cell? ⟨g, j * 3 + 2, none⟩ = some (.slice Q2 n2 e2) := fun v h =>
      ⟨(x6d.keep h).c1, h.cell g0 (World.block_lt_of_cell? _ _ g0), h.cell g1 (World.block_lt_of_cell? _ _ g1), h.cell g2 (World.block_lt_of_cell? _ _ g2)⟩
    have S0 := KS _ (Fr.refl _ _)
    clear g0 g1 g2 hsx t1 hsl hlm hbb hx1 hS1
    have cc := x6.c1
    go_wp2_with fail
    clear cc
    refine wpTill.begin (fun v => v.cell? ⟨b6, 1, none⟩ = some (.slice (some ⟨g, 0, none⟩) N j2) ∧ v.cell? ⟨g, j * 3, none⟩ = some (.bool sx) ∧ v.cell? ⟨g, j * 3 + 1, none⟩ = some (.slice Q1 n1 e1) ∧ v.cell? ⟨g, j * 3 + 2, none⟩ = some (.slice Q2 n2 e2)) 12 (by kernel_rfl) ?_
    change wpTill _ _ _ _ _ _ 13 _ _ _
    refine wpTill.take 0 (.pointer (some ⟨b6, 1, none⟩)) rfl (by kernel_rfl) (by kernel_rfl) (fun _ _ _ h => h) S0 (by rfl) (fun u hu => by go_simp) ?_
    try simp only [Act.put, List.setIfInBounds_toArray, List.set_cons_zero, List.set_cons_succ]
    refine wpTill.take 1 (.slice (some ⟨g, 0, none⟩) N j2) rfl (by kernel_rfl) (by kernel_rfl) (fun _ _ _ h => h) S0 (by rfl) (fun u hu => by go_simp) ?_
    try simp only [Act.put, List.setIfInBounds_toArray, List.set_cons_zero, List.set_cons_succ]
    refine wpTill.take 2 (.int .i64 (j : Int)) rfl (by kernel_rfl) (by kernel_rfl) (fun _ _ _ h => h) S0 (by rfl) (fun u hu => by go_simp) ?_
    try simp only [Act.put, List.setIfInBounds_toArray, List.set_cons_zero, List.set_cons_succ]
    refine wpTill.take 3 (.pointer (some ⟨b6, 1, none⟩)) rfl (by kernel_rfl) (by kernel_rfl) (fun _ _ _ h => h) S0 (by rfl) (fun u hu => by go_simp) ?_
    try simp only [Act.put, List.setIfInBounds_toArray, List.set_cons_zero, List.set_cons_succ]
    refine wpTill.take 4 (.slice (some ⟨g, 0, none⟩) N j2) rfl (by kernel_rfl) (by kernel_rfl) (fun _ _ _ h => h) S0 (by rfl) (fun u hu => by go_simp) ?_
    try simp only [Act.put, List.setIfInBounds_toArray, List.set_cons_zero, List.set_cons_succ]
    refine wpTill.take 5 (.int .i64 (j : Int)) rfl (by kernel_rfl) (by kernel_rfl) (fun _ _ _ h => h) S0 (by rfl) (fun u hu => by go_simp) ?_
    try simp only [Act.put, List.setIfInBounds_toArray, List.set_cons_zero, List.set_cons_succ]
    refine wpTill.take 6 (.pointer (some ⟨g, j * 3, none⟩)) rfl (by kernel_rfl) (by kernel_rfl) (fun _ _ _ h => h) S0 (by rfl) (fun u hu => by go_simp) ?_
    try simp only [Act.put, List.setIfInBounds_toArray, List.set_cons_zero, List.set_cons_succ]
    refine wpTill.take 7 (.agg #[.bool sx, .slice Q1 n1 e1, .slice Q2 n2 e2]) rfl (by kernel_rfl) (by kernel_rfl) (fun _ _ _ h => h) S0 (by rfl) (fun u hu => by go_simp) ?_
    try simp only [Act.put, List.setIfInBounds_toArray, List.set_cons_zero, List.set_cons_succ]
    refine wpTill.take 8 (.int .i64 (m : Int)) rfl (by kernel_rfl) (by kernel_rfl) (fun _ _ _ h => h) S0 (by rfl) (fun u hu => by go_simp) ?_
    try simp only [Act.put, List.setIfInBounds_toArray, List.set_cons_zero, List.set_cons_succ]
    refine wpTill.next 9 rfl (by kernel_rfl) (by rfl) (fun KC hKC => ?_)
    go_simp
    with_reducible refine (rfrac_h _ 1 (m : Int) (by decide) (by decide) (by omega) (by omega)).mono ?_
    rintro e u1 ⟨s8, v3, v4, rfl, hs8, h8, hf1⟩
    rw [HBY.out] at hs8 h8
    obtain ⟨⟨Q5, i5, j5, rfl⟩, ⟨Q6, i6, j6, rfl⟩⟩ := h8.out.form
    refine hKC _ _ (fun _ => KS _ hf1) ?_
    clear hKC KC
    try simp only [Act.put, List.setIfInBounds_toArray, List.set_cons_zero, List.set_cons_succ]
    refine wpTill.next 10 rfl (by kernel_rfl) (by rfl) (fun KC hKC => ?_)
    go_simp
    with_reducible refine (rmul_h _ sx s8 (.slice Q1 n1 e1) (.slice Q2 n2 e2) (.slice Q5 i5 j5) (.slice Q6 i6 j6) x1 by_ M (Lib.hid (HT1.out.keep hf1)) (Lib.hid (h8.out.wide h6)) HSX hs8 (by omega) (by omega)).mono ?_
    rintro e u2 ⟨s9, v5, v6, rfl, hs9, h9, hf2⟩
    obtain ⟨⟨Q7, i7, j7, rfl⟩, ⟨Q8, i8, j8, rfl⟩⟩ := h9.out.form
    have G2 : Fr (fun κ => κ < wr.drew.heap.size) wr.drew u2 := fr_then hf1 hf2
    have S1 := hf1.size
    have S0 := KS _ G2
    refine hKC _ _ (fun _ => S0) ?_
    clear hKC KC
    try simp only [Act.put, List.setIfInBounds_toArray, List.set_cons_zero, List.set_cons_succ]
    refine wpTill.take 11 (.pointer (some ⟨g, j * 3, none⟩)) rfl (by kernel_rfl) (by kernel_rfl) (fun _ _ _ h => h) S0 (by rfl) (fun u hu => by go_simp) ?_
    try simp only [Act.put, List.setIfInBounds_toArray, List.set_cons_zero, List.set_cons_succ]
    have oE2 := oED.keep' G2
    have y6 := x6d.keep G2
    have yS := oSD.keep' G2
    have f0 : u2.frozen? ⟨g, j * 3, none⟩ = false := Fz.free (a := ⟨g, j * 3, none⟩) (oE2.fz _ rfl)
    have f1 : u2.frozen? ⟨g, j * 3 + 1, none⟩ = false := Fz.free (a := ⟨g, j * 3 + 1, none⟩) (oE2.fz _ rfl)
    have f2 : u2.frozen? ⟨g, j * 3 + 2, none⟩ = false := Fz.free (a := ⟨g, j * 3 + 2, none⟩) (oE2.fz _ rfl)
    obtain ⟨-, c0, c1, c2⟩ := S0
    refine wpTill.next 12 rfl (by kernel_rfl) (by rfl) (fun KC hKC => ?_)
    go_simp
    refine hKC _ _ (no_wait (by kernel_rfl)) ?_
    clear hKC KC
    try simp only [Act.put, List.setIfInBounds_toArray, List.set_cons_zero, List.set_cons_succ]
    refine wpTill.done (by kernel_rfl) ?_
    have FG : Fr (fun k => k ≠ g) u2 (((u2.setCell ⟨g, j * 3, none⟩ (.bool s9)).setCell ⟨g, j * 3 + 1, none⟩ (.slice Q7 i7 j7)).setCell ⟨g, j * 3 + 2, none⟩ (.slice Q8 i8 j8)) := ((fr_set1 u2 g (j * 3) _).trans (fr_set1 _ g (j * 3 + 1) _)).trans (fr_set1 _ g (j * 3 + 2) _)
    have oN := oE2.setQ (i := j) (by rw [mixL_len]; exact hltj) (x1 * by_) ((h9.out.wide hM2).mono (T := fun k => (w.heap.size + 2 ≤ k ∧ k ≠ b6) ∧ k ≠ g) fun k hk => ⟨⟨by omega, by omega⟩, by omega⟩)
    rw [← hs9.out, HX1.out, mixL_set hltj] at oN
    have z6 := y6.fr FG (fun e => hg.2.1 e.symm)
    have zS := yS.past FG (fun k hk => (HPS.out k hk).2.1)
    have FF := (fr_then FW.drew (G2.mono fun κ _ hκ => hκ)).comp FG (R := fun k => k < w.heap.size + 2) fun k _ hk => ⟨hk, by omega⟩
    clear f0 f1 f2 c0 c1 c2 KS
    go_wp2_with fail
    go_roundw
    case rel => exact ⟨j + 1, by omega, by go_num, z6, zS, oN, FF⟩
    case measure => first | (simp [intOf]; done) | (simp [intOf]; omega)
end Go.Proofs.YtlppcfeimpcbjaaGreat

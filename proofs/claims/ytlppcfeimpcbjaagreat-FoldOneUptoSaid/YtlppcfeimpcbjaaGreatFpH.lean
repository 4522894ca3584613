import Derived.Test.YtlppcfeimpcbjaaGreatFpB
import Derived.Test.YtlppcfeimpcbjaaGreatFpG
set_option linter.unusedSimpArgs false
set_option linter.unusedVariables false

/- FoldOne: printed by gen_fph.py. -/
namespace Go.Proofs.YtlppcfeimpcbjaaGreat
open Go.RowKit Go.Shelf

theorem gem_k {w : World} {a b c : Nat} {x y z qs : List Rat} {shc : List Int} {p q r s t u : Value} {M K : Nat} (h : TV [(a : Int), (b : Int)] (x.map canR) w p q) (g : TV [(b : Int), (c : Int)] (y.map canR) w r s) (k : TV shc (z.map canR) w t u) (fa : Hid (KF [(a : Int), (b : Int)] x M)) (fb : Hid (KF [(b : Int), (c : Int)] y M)) (fc : Hid (KF shc z M)) (hd : Hid (a ≤ 5 ∧ b ≤ 5 ∧ c ≤ 5)) (hf : Hid (fitsE shc [(a : Int), (c : Int)] = 0)) (hq : Hid (gemL (mmL x y a b c) z shc [(a : Int), (c : Int)] (a * c) = qs)) (hK : Hid (25 * (M + M + 1) + 1 ≤ K ∧ K ≤ 104857600)) :
    Calls Tryz.prog 26 #[.agg #[p, q], .agg #[r, s], .agg #[t, u]] w (Ret w (Tup 0 (TC 0 [(a : Int), (c : Int)] (qs.map canR)))) := by
  have da := kf_dims fa.out
  have db := kf_dims fb.out
  have hk := hK.out
  have hM := fa.out.one
  have hmm : mmE [(a : Int), (b : Int)] (x.map canR) [(b : Int), (c : Int)] (y.map canR) = 0 := (mmE_s fa.out.may fb.out.may ⟨rfl, rfl, rfl⟩).trans (mayS_two da.1 hd.out.1 db.2.1 hd.out.2.2)
  have h0 := gemm_t w p q r s t u [(a : Int), (b : Int)] [(b : Int), (c : Int)] shc (x.map canR) (y.map canR) (z.map canR) M K 0 (Lib.hid ((gemE_f fa.out.may fb.out.may fc.out.may hmm).trans hf.out)) h.1 h.2 g.1 g.2 k.1 k.2 fa.out.fit.lx fb.out.fit.lx fc.out.fit.lx hM (by omega) hk.2
    (Lib.hid fun _ n i hi => by
      rw [k_q, k_q]
      have hb5 := hd.out.2.1
      have hi' : i ≤ b := hi
      have h5 : i * (M + M + 1) ≤ 5 * (M + M + 1) := Nat.mul_le_mul_right _ (by omega)
      exact (lens_mm fa.out.lens fb.out.lens fa.out.one fb.out.one b c n i).wide (by omega)) (mmL x y a b c) (Lib.hid (by rw [k_q, k_q]; rfl)) (a : Int) (c : Int) (Lib.hid rfl) (Lib.hid rfl)
  refine h0.mono fun _ _ h => ?_
  have h1 := h.ret
  rwa [k_q, mmL_len, hq.out] at h1
theorem rint_q (w : World) (z : Int) (h0 : -9223372036854775808 ≤ z) (h1 : z ≤ 9223372036854775807) : Calls Tryz.prog 29 #[.int .i64 z] w (Ret w (RQ (z : Rat) 6)) := by
  refine (rint_s w z h0 h1).mono ?_
  rintro e u ⟨s, v1, v2, rfl, hs, hr, hf⟩
  obtain ⟨⟨A, n, c, rfl⟩, ⟨B, m, k, rfl⟩⟩ := hr.out.form
  rw [hs.out]
  exact ⟨_, rfl, hf, fun u' hu' => ⟨_, _, _, _, _, _, rfl, (hr.out.keep hu').mono fun _ _ => trivial⟩⟩
/-- the first elements of the matrix with ones where row and column are the same -/
def oneL (b j : Nat) : List Rat := (List.range j).map fun i => if i / b = i % b then 1 else 0
theorem one_full (b : Nat) : oneL b (b * b) = oneM b := rfl
theorem oneL_len (b j : Nat) : (oneL b j).length = j := by rw [oneL, List.length_map, List.length_range]
theorem oneL_step {b j : Nat} {z : Int} (h : (if j / b = j % b then (1 : Int) else 0) = z) : oneL b (j + 1) = oneL b j ++ [(z : Rat)] := by
  rw [oneL, List.range_succ, List.map_append]
  refine congrArg (oneL b j ++ ·) ?_
  rw [← h]
  by_cases he : j / b = j % b
  · simp only [List.map_cons, List.map_nil, if_pos he]; rfl
  · simp only [List.map_cons, List.map_nil, if_neg he]; rfl
theorem lens_01 {z : Int} (h : z = 0 ∨ z = 1) {M : Nat} (hM : 1 ≤ M) : Lens M (z : Rat) := by
  rcases h with rfl | rfl
  · exact lens_0 hM
  · exact lens_1 hM
theorem oneM_lens {b M : Nat} (hM : 1 ≤ M) : LensL M (oneM b) := fun q hq => by
  obtain ⟨n, _, rfl⟩ := List.mem_map.1 hq
  show Lens M (if n / b = n % b then 1 else 0)
  split
  · exact lens_1 hM
  · exact lens_0 hM
/-- a number alone, as a tensor -/
theorem kf_num {q : Rat} {M : Nat} (h : Lens M q) (h1 : 1 ≤ M) (ht : M ≤ 1048578) : KF [] [q] M :=
  ⟨by simp, by simp, mayT_can (mayS_0 (by simp) (fun d hd => by simp at hd) (by decide)) rfl, fun x hx => by rw [List.mem_singleton] at hx; rw [hx]; exact h, h1, ht⟩
theorem fits_nil {a c : Nat} (ha : 1 ≤ a) (ha5 : a ≤ 5) (hc : 1 ≤ c) (hc5 : c ≤ 5) : fitsE [] [(a : Int), (c : Int)] = 0 := by
  unfold fitsE
  rw [if_neg (by rw [mayS_0 (by simp) (fun d hd => by simp at hd) (by decide)]; simp), if_neg (by rw [mayS_two ha ha5 hc hc5]; simp), if_pos ⟨by simp, fun i hi => by simp at hi⟩]
theorem fits_self {a c : Nat} (ha : 1 ≤ a) (ha5 : a ≤ 5) (hc : 1 ≤ c) (hc5 : c ≤ 5) : fitsE [(a : Int), (c : Int)] [(a : Int), (c : Int)] = 0 := by
  unfold fitsE
  rw [if_neg (by rw [mayS_two ha ha5 hc hc5]; simp), if_neg (by rw [mayS_two ha ha5 hc hc5]; simp), if_pos ⟨Nat.le_refl _, fun i hi => .inr (by rw [Nat.sub_self, Nat.zero_add])⟩]
theorem one_tv {n0 b : Nat} {q : Rat} {u : World} (h : OneE n0 q u (.slice (some ⟨b, 0, none⟩) 1 1)) : TV [] ([q].map canR) u (.slice none 0 0) (.slice (some ⟨b, 0, none⟩) 1 1) := by
  obtain ⟨_, _, h⟩ := h
  exact ⟨Sl.nil Im (fun _ => True) u, h.any⟩
theorem gem_zero {x : List Rat} {a b : Nat} {q : Rat} (hq : q = 0) (hx : x.length = a * b) : gemL (mmL x (oneM b) a b b) [q] [] [(a : Int), (b : Int)] (a * b) = x := by
  rw [mm_one x a b hx, ← hx, gem_one, hq]
  simp [Rat.add_zero]
theorem gem_twice {x : List Rat} {a b : Nat} (hx : x.length = a * b) (ha : 1 ≤ a) (hb : 1 ≤ b) : gemL (mmL x (oneM b) a b b) x [(a : Int), (b : Int)] [(a : Int), (b : Int)] (a * b) = List.zipWith (fun p q => p + q) x x := by
  rw [mm_one x a b hx, ← hx, gem_same (fun d hd => by
    rcases List.mem_cons.1 hd with rfl | hd
    · omega
    · rw [List.mem_singleton] at hd; omega) (by rw [pr_two, hx]) rfl]

set_option maxRecDepth 20000 in
set_option maxHeartbeats 64000000 in
theorem fone_walk {S : Nat → Prop} {el : List RatL} (w : World) (a b : Int) (vl : Value) (L : Nat) (wa : (Lit.int .i64 a).wf = true) (wb : (Lit.int .i64 b).wf = true) (hl : RS S w vl el L) (hL : L ≤ 1048576) :
    Calls Tryz.prog 10 #[.int .i64 a, .int .i64 b, vl] w fun e w' => e = .returned (.bool true) ∧ Fr (fun k => k < w.heap.size) w w' := by
  obtain ⟨B, d, rfl, _, _, lB⟩ := hl.sl.slice
  have TL := Lib.hid (Rm_lt hl.sl)
  have HL : Hold (fun u => Sl Rm (fun _ => True) u (.slice B el.length d) el) w := fun _ hu => hl.sl.any.keep' Rm_pos hu
  clear hl
  have F := Fr.refl (fun k => k < w.heap.size) w
  obtain ⟨b1, hb1⟩ : ∃ b, shortB el = b := ⟨_, rfl⟩
  have HB1 := Lib.hid hb1
  clear hb1
  have KN : ∀ (V : World), Fr (fun k => k < w.heap.size) w V → Calls Tryz.prog 12 #[] V fun e u => e = .returned (.bool true) ∧ Fr (fun k => k < w.heap.size) w u := fun V hV => (known10_u V).mono fun e u h => by
    obtain ⟨_, rfl, hf, h⟩ := h
    obtain rfl := h.now
    exact ⟨rfl, fr_then hV hf⟩
  go_enter Tryz.func10, Tryz.ntmps10
  by_cases ha1 : a < 1
  · go_wp2_with fail
    with_reducible refine (KN _ F).mono ?_
    rintro e V9 ⟨rfl, F9⟩
    go_wp2_with fail
    go_ret
    exact ⟨rfl, F9⟩
  by_cases ha5 : 5 < a
  · go_wp2_with fail
    with_reducible refine (KN _ F).mono ?_
    rintro e V9 ⟨rfl, F9⟩
    go_wp2_with fail
    go_ret
    exact ⟨rfl, F9⟩
  by_cases hb1 : b < 1
  · go_wp2_with fail
    with_reducible refine (KN _ F).mono ?_
    rintro e V9 ⟨rfl, F9⟩
    go_wp2_with fail
    go_ret
    exact ⟨rfl, F9⟩
  by_cases hb5 : 5 < b
  · go_wp2_with fail
    with_reducible refine (KN _ F).mono ?_
    rintro e V9 ⟨rfl, F9⟩
    go_wp2_with fail
    go_ret
    exact ⟨rfl, F9⟩
  obtain ⟨m, rfl⟩ : ∃ m : Nat, a = (m : Int) := ⟨a.toNat, by omega⟩
  obtain ⟨n, rfl⟩ : ∃ m : Nat, b = (m : Int) := ⟨b.toNat, by omega⟩
  clear wa wb
  have P := Lib.hid (short_u HL.now HB1)
  go_wp2_with fail
  with_reducible refine P.out.mono ?_
  rintro e V1 ⟨v, rfl, hf, H⟩
  obtain rfl := H.now
  replace HL := HL.keep hf
  replace F := fr_then F hf
  clear P hf H
  cases b1 with
  | false =>
    have P := Lib.hid (known10_u V1)
    go_wp2_with fail
    with_reducible refine P.out.mono ?_
    rintro e V2 ⟨v, rfl, hf, H⟩
    obtain rfl := H.now
    replace HL := HL.keep hf
    replace F := fr_then F hf
    clear P hf H
    go_wp2_with fail
    go_ret
    exact ⟨rfl, F⟩
  | true =>
    obtain ⟨q, hq⟩ : ∃ q, n * n = q := ⟨_, rfl⟩
    have hq25 : q ≤ 25 := by rw [← hq]; exact Nat.mul_le_mul (show n ≤ 5 by omega) (show n ≤ 5 by omega)
    have HQN := Lib.hid hq
    have HW : Hid (IntKind.i64.wrap ((n : Int) * (n : Int)) = (q : Int)) := Lib.hid (by rw [← Int.natCast_mul, hq, IntKind.wrap_i64]; omega)
    have HN : 1 ≤ m ∧ m ≤ 5 ∧ 1 ≤ n ∧ n ≤ 5 := by omega
    clear ha1 ha5 hb1 hb5 hq
    have HMN : Hid (m ≤ 5 ∧ n ≤ 5) := Lib.hid ⟨HN.2.1, HN.2.2.2⟩
    have KA := Lib.hid (kf_rot (m := m) (n := n) HN.1 HN.2.1 HN.2.2.1 HN.2.2.2 HB1.out TL.out)
    have P := Lib.hid (matrix_u (m := m) (n := n) HL.now HMN HB1)
    go_wp2_with fail
    with_reducible refine P.out.mono ?_
    rintro e W1 ⟨v, rfl, hf, H⟩
    obtain ⟨A7, n7, c7, B7, m7, k7, rfl, -⟩ := H.now
    replace F := fr_then F hf
    have lw7 := F.size
    have H7 : Hold (fun u => TV [(m : Int), (n : Int)] ((rot el (m * n)).map canR) u (.slice A7 n7 c7) (.slice B7 m7 k7)) W1 := H.mono fun _ h => h.out
    have HL7 := Lib.hid (And.intro (H7.now.1.low Im_pos) (H7.now.2.low Rm_pos))
    clear P H hf HL
    have al := fun R => (((Fr.refl R W1).alloc (.cells #[.slice A7 n7 c7, .slice B7 m7 k7] 26)).alloc (.cells #[.int .i64 (n : Int), .int .i64 (n : Int)] 3)).alloc (.cells #[.slice (some ⟨W1.heap.size + 1, 0, none⟩) 2 2, .slice none 0 0] 26)
    have z7 := ((Box2.new W1 26 (.slice A7 n7 c7) (.slice B7 m7 k7)).alloc (.cells #[.int .i64 (n : Int), .int .i64 (n : Int)] 3)).alloc (.cells #[.slice (some ⟨W1.heap.size + 1, 0, none⟩) 2 2, .slice none 0 0] 26)
    have oS := (Own.ints (e := 3) (S := fun k => k = W1.heap.size + 1) (W1.alloc (.cells #[.slice A7 n7 c7, .slice B7 m7 k7] 26)) [(n : Int), (n : Int)] #[.int .i64 (n : Int), .int .i64 (n : Int)] rfl (by intro x hx; rcases List.mem_cons.1 hx with rfl | hx; omega; rw [List.mem_singleton] at hx; omega) (by simp) (by rw [World.size_alloc])).keep' ((Fr.refl (fun k => k < ((W1.alloc (.cells #[.slice A7 n7 c7, .slice B7 m7 k7] 26)).alloc (.cells #[.int .i64 (n : Int), .int .i64 (n : Int)] 3)).heap.size) _).alloc (.cells #[.slice (some ⟨W1.heap.size + 1, 0, none⟩) 2 2, .slice none 0 0] 26))
    have z8 := Box2.new ((W1.alloc (.cells #[.slice A7 n7 c7, .slice B7 m7 k7] 26)).alloc (.cells #[.int .i64 (n : Int), .int .i64 (n : Int)] 3)) 26 (.slice (some ⟨W1.heap.size + 1, 0, none⟩) 2 2) (.slice none 0 0)
    simp only [World.size_alloc] at z8 oS
    replace HL7 := Lib.hid (And.intro (HL7.out.1.fr (al _)) (HL7.out.2.fr (al _)))
    replace F := fr_then F (al _)
    clear H7
    clear al
    have hw := HW.out
    go_wp2_with fail
    clear hw
    generalize ((W1.alloc (.cells #[.slice A7 n7 c7, .slice B7 m7 k7] 26)).alloc (.cells #[.int .i64 (n : Int), .int .i64 (n : Int)] 3)).alloc (.cells #[.slice (some ⟨W1.heap.size + 1, 0, none⟩) 2 2, .slice none 0 0] 26) = V at z7 z8 oS HL7 F ⊢
    have lV := z8.lt
    obtain ⟨b7, hb7⟩ : ∃ b, W1.heap.size = b := ⟨_, rfl⟩
    obtain ⟨b8, hb8⟩ : ∃ b, b7 + 1 + 1 = b := ⟨_, rfl⟩
    have hb82 : b7 + 2 ≤ b8 := Nat.le_of_eq hb8
    simp only [hb7, hb8] at z7 z8 oS lV HL7 lw7 ⊢
    clear hb7 hb8
    go_loopw [9] (fun k W => ∃ (j : Nat) (v1 : Value), k = .int .i64 j ∧ j ≤ q ∧ Box2 W b8 26 (.slice (some ⟨b7 + 1, 0, none⟩) 2 2) v1 ∧ Own Rm 54 (fun k => V.heap.size ≤ k) W v1 ((oneL n j).map canR) ∧ Fr (fun k => k < V.heap.size ∧ k ≠ b8) V W) (fun k _ => q - (intOf k).toNat)
    case atStart => exact ⟨0, _, rfl, by omega, z8, Own.nil _ _ _ _, Fr.refl _ _⟩
    case round =>
      clear z8
      obtain ⟨j, v1, rfl, hj, z8, o1, GV⟩ := hrel
      obtain ⟨A3, i3, j3, rfl⟩ := o1.form
      have szW := GV.size
      have hw := HW.out
      by_cases hlt : j < q
      case pos =>
        obtain ⟨jq, hjq⟩ : ∃ x, j / n = x := ⟨_, rfl⟩
        obtain ⟨jr, hjr⟩ : ∃ x, j % n = x := ⟨_, rfl⟩
        have hjl : jq ≤ j := by rw [← hjq]; exact Nat.div_le_self j n
        have hr1 : (j : Int).tmod (n : Int) = (jr : Int) := by rw [← hjr]; exact (Int.ofNat_tmod j n).symm
        have hr2 : (j : Int).tdiv (n : Int) = (jq : Int) := by rw [← hjq]; exact (Int.ofNat_tdiv j n).symm
        have hr3 : (j : Int) % (n : Int) = (jr : Int) := by rw [← hjr]; exact (Int.natCast_emod j n).symm
        have hr4 : (j : Int) / (n : Int) = (jq : Int) := by rw [← hjq]; exact (Int.natCast_ediv j n).symm
        have hwq : IntKind.i64.wrap (jq : Int) = (jq : Int) := by rw [IntKind.wrap_i64]; omega
        have hn0 : 0 < n := HN.2.2.1
        have z1 : ((n : Int) == 0) = false := beq_eq_false_iff_ne.2 (by omega)
        have HJQ := Lib.hid hjq
        have HJR := Lib.hid hjr
        clear hjq hjr
        by_cases he : jq = jr
        case pos =>
          have HE : Hid (j / n = j % n) := Lib.hid (by rw [HJQ.out, HJR.out]; exact he)
          have hbe : ((jq : Int) == (jr : Int)) = true := beq_iff_eq.2 (by rw [he])
          clear he
          go_wp2_with fail
          go_quiet (fail)
          go_wp2_with fail
          generalize hv9 : wr.drewN _ = wq
          have D0 : ∀ R, Fr R wr wq := fun R => by rw [← hv9]; exact (Fr.refl R wr).drewN _
          have hqs : wq.heap.size = wr.heap.size := by rw [← hv9]; rfl
          clear hv9
          obtain ⟨z, hz⟩ : ∃ z : Int, (1 : Int) = z := ⟨_, rfl⟩
          have hz01 : z = 0 ∨ z = 1 := by omega
          have HST := Lib.hid (oneL_step (b := n) (j := j) (z := z) (by rw [← hz]; exact if_pos HE.out))
          have HL1 := Lib.hid (lens_01 hz01 (M := 6) (by decide))
          have DD := fun R => (Fr.refl R wq).drew
          have y8d := (z8.keep (D0 _)).keep (DD _)
          have oUd := (o1.keep' (D0 _)).keep' (DD _)
          have hUd : wq.drew.heap.size = wr.heap.size := hqs
          have lt3 := o1.lt
          have in3 := o1.in_
          have l8 := z8.lt
          have hzr : -9223372036854775808 ≤ z ∧ z ≤ 9223372036854775807 := by omega
          have KS : ∀ v, Fr (fun κ => κ < wq.drew.heap.size ∧ some κ ≠ (Value.slice A3 i3 j3).ownBlock) wq.drew v → v.cell? ⟨b8, 1, none⟩ = some (.slice A3 i3 j3) := fun v h => (y8d.fr h ⟨by omega, fun e => by have := in3 _ e.symm; omega⟩).c1
          have S0 := KS _ (Fr.refl _ _)
          clear hz01
          go_wp2_with fail
          refine wpTill.begin (fun v => v.cell? ⟨b8, 1, none⟩ = some (.slice A3 i3 j3)) 8 (by kernel_rfl) ?_
          change wpTill _ _ _ _ _ _ 9 _ _ _
          refine wpTill.take 0 (.pointer (some ⟨b8, 1, none⟩)) rfl (by kernel_rfl) (by kernel_rfl) (fun _ _ _ h => h) S0 (by rfl) (fun u hu => by go_simp) ?_
          try simp only [Act.put, List.setIfInBounds_toArray, List.set_cons_zero, List.set_cons_succ]
          refine wpTill.take 1 (.slice A3 i3 j3) rfl (by kernel_rfl) (by kernel_rfl) (fun _ _ _ h => h) S0 (by rfl) (fun u hu => by go_simp) ?_
          try simp only [Act.put, List.setIfInBounds_toArray, List.set_cons_zero, List.set_cons_succ]
          refine wpTill.take 2 (.int .i64 1) rfl (by kernel_rfl) (by kernel_rfl) (fun _ _ _ h => h) S0 (by rfl) (fun u hu => by go_simp) ?_
          try simp only [Act.put, List.setIfInBounds_toArray, List.set_cons_zero, List.set_cons_succ]
          refine wpTill.next 3 rfl (by kernel_rfl) (by rfl) (fun KC hKC => ?_)
          go_simp
          clear hz
          with_reducible refine (rint_q _ z hzr.1 hzr.2).mono ?_
          rintro e u1 ⟨v, rfl, hf1, HQ1⟩
          obtain ⟨A5, i5, j5, B5, k5, m5, rfl, -⟩ := HQ1.now
          refine hKC _ _ (fun _ => KS _ (hf1.mono fun κ _ hκ => hκ.1)) ?_
          clear hKC KC
          try simp only [Act.put, List.setIfInBounds_toArray, List.set_cons_zero, List.set_cons_succ]
          refine wpTill.next 4 rfl (by kernel_rfl) (by rfl) (fun KC hKC => ?_)
          go_simp
          with_reducible refine (rback_u HQ1.now rfl hf1.size (by decide) HL1.out).mono ?_
          rintro e u2 ⟨v, rfl, hf2, HQ2⟩
          obtain ⟨A6, i6, j6, B6, k6, m6, rfl, -⟩ := HQ2.now
          have G2 := hf1.trans (hf2.mono fun κ hk hκ => by have := hf1.size; omega)
          refine hKC _ _ (fun _ => KS _ (G2.mono fun κ _ hκ => hκ.1)) ?_
          clear hKC KC
          try simp only [Act.put, List.setIfInBounds_toArray, List.set_cons_zero, List.set_cons_succ]
          have one := one_e HQ2.now.out G2.size
          have al5 := fun R => (Fr.refl R u2).alloc (.cells #[.bool (sg (z : Rat)), .slice A6 i6 j6, .slice B6 k6 m6] 54)
          have G5 := fr_then G2 (al5 _)
          refine wpTill.next 5 rfl (by kernel_rfl) (by rfl) (fun KC hKC => ?_)
          go_simp
          refine hKC _ _ (fun _ => KS _ (G5.mono fun κ _ hκ => hκ.1)) ?_
          clear hKC KC
          try simp only [Act.put, List.setIfInBounds_toArray, List.set_cons_zero, List.set_cons_succ]
          obtain ⟨b5, e5, sl5⟩ := one.now
          cases e5
          have y75 := y8d.keep G5
          have oU5 := oUd.keep' G5
          have s5 := G5.size
          clear HQ1 HQ2 one hf1 hf2 G2 al5
          generalize u2.alloc (.cells #[.bool (sg (z : Rat)), .slice A6 i6 j6, .slice B6 k6 m6] 54) = u4 at sl5 y75 oU5 G5 s5 ⊢
          generalize u2.heap.size = b5 at sl5 ⊢
          refine wpTill.next 6 rfl (by kernel_rfl) (by rfl) (fun KC hKC => ?_)
          refine oper_push rmT (v := .slice A3 i3 j3) (xv := .slice (some ⟨b5, 0, none⟩) 1 1) (S := fun k => V.heap.size ≤ k) (T := fun k => wq.drew.heap.size ≤ k) rfl rfl rfl oU5 sl5 (fun z cs hr => Rm.mono (fun k hk => ⟨by omega, fun e => by have := lt3 k e.symm; omega⟩) hr) (fun k hk => by omega) (by rw [List.length_map, oneL_len]; simp only [List.length_singleton]; omega) (by rw [List.length_map, oneL_len]; simp only [List.length_singleton]; omega) ?_
          intro v7 u5 ho hfr hat
          obtain ⟨A9, i9, q9, rfl⟩ := ho.form
          have G6 := (G5.mono fun κ _ (hκ : κ < wq.drew.heap.size ∧ some κ ≠ (Value.slice A3 i3 j3).ownBlock) => hκ.1).trans (hfr.mono fun κ _ hκ => hκ.2)
          have S0 := KS _ G6
          refine hKC _ _ (fun _ => S0) ?_
          clear hKC KC
          try simp only [Act.put, List.setIfInBounds_toArray, List.set_cons_zero, List.set_cons_succ]
          refine wpTill.take 7 (.pointer (some ⟨b8, 1, none⟩)) rfl (by kernel_rfl) (by kernel_rfl) (fun _ _ _ h => h) S0 (by rfl) (fun u hu => by go_simp) ?_
          try simp only [Act.put, List.setIfInBounds_toArray, List.set_cons_zero, List.set_cons_succ]
          have y76 := y75.fr hfr (fun e => by have := in3 _ e.symm; omega)
          have e0 := y76.c1
          have e1 := y76.free 1
          clear S0 KS
          refine wpTill.next 8 rfl (by kernel_rfl) (by rfl) (fun KC hKC => ?_)
          go_simp
          refine hKC _ _ (no_wait (by kernel_rfl)) ?_
          clear hKC KC
          try simp only [Act.put, List.setIfInBounds_toArray, List.set_cons_zero, List.set_cons_succ]
          refine wpTill.done (by kernel_rfl) ?_
          have F9 := fr_set1 u5 b8 1 (.slice A9 i9 q9)
          have y9 := y76.set1 (.slice A9 i9 q9)
          have o9 := ho.past F9 (fun k hk => by omega)
          have G9 := ((GV.trans ((D0 _).trans ((DD _).trans (G5.mono fun k hk hh => by omega)))).comp hfr (R := fun k => k < V.heap.size ∧ k ≠ b8) fun k _ hk => ⟨hk, fun e => by have := in3 _ e.symm; omega⟩).comp F9 (R := fun k => k < V.heap.size ∧ k ≠ b8) fun k _ hk => ⟨hk, hk.2⟩
          clear e0 e1
          go_wp2_with fail
          go_roundw
          case rel => exact ⟨j + 1, _, by go_num, by omega, y9, by rw [HST.out, List.map_append]; exact o9, G9⟩
          case measure => first | (simp [intOf]; done) | (simp [intOf]; omega)
        case neg =>
          have HE : Hid (¬ j / n = j % n) := Lib.hid (by rw [HJQ.out, HJR.out]; exact he)
          have hbe : ((jq : Int) == (jr : Int)) = false := beq_eq_false_iff_ne.2 (fun e => he (by omega))
          clear he
          go_wp2_with fail
          go_quiet (fail)
          go_wp2_with fail
          generalize hv9 : wr.drewN _ = wq
          have D0 : ∀ R, Fr R wr wq := fun R => by rw [← hv9]; exact (Fr.refl R wr).drewN _
          have hqs : wq.heap.size = wr.heap.size := by rw [← hv9]; rfl
          clear hv9
          obtain ⟨z, hz⟩ : ∃ z : Int, (0 : Int) = z := ⟨_, rfl⟩
          have hz01 : z = 0 ∨ z = 1 := by omega
          have HST := Lib.hid (oneL_step (b := n) (j := j) (z := z) (by rw [← hz]; exact if_neg HE.out))
          have HL1 := Lib.hid (lens_01 hz01 (M := 6) (by decide))
          have DD := fun R => (Fr.refl R wq).drew
          have y8d := (z8.keep (D0 _)).keep (DD _)
          have oUd := (o1.keep' (D0 _)).keep' (DD _)
          have hUd : wq.drew.heap.size = wr.heap.size := hqs
          have lt3 := o1.lt
          have in3 := o1.in_
          have l8 := z8.lt
          have hzr : -9223372036854775808 ≤ z ∧ z ≤ 9223372036854775807 := by omega
          have KS : ∀ v, Fr (fun κ => κ < wq.drew.heap.size ∧ some κ ≠ (Value.slice A3 i3 j3).ownBlock) wq.drew v → v.cell? ⟨b8, 1, none⟩ = some (.slice A3 i3 j3) := fun v h => (y8d.fr h ⟨by omega, fun e => by have := in3 _ e.symm; omega⟩).c1
          have S0 := KS _ (Fr.refl _ _)
          clear hz01
          go_wp2_with fail
          refine wpTill.begin (fun v => v.cell? ⟨b8, 1, none⟩ = some (.slice A3 i3 j3)) 8 (by kernel_rfl) ?_
          change wpTill _ _ _ _ _ _ 9 _ _ _
          refine wpTill.take 0 (.pointer (some ⟨b8, 1, none⟩)) rfl (by kernel_rfl) (by kernel_rfl) (fun _ _ _ h => h) S0 (by rfl) (fun u hu => by go_simp) ?_
          try simp only [Act.put, List.setIfInBounds_toArray, List.set_cons_zero, List.set_cons_succ]
          refine wpTill.take 1 (.slice A3 i3 j3) rfl (by kernel_rfl) (by kernel_rfl) (fun _ _ _ h => h) S0 (by rfl) (fun u hu => by go_simp) ?_
          try simp only [Act.put, List.setIfInBounds_toArray, List.set_cons_zero, List.set_cons_succ]
          refine wpTill.take 2 (.int .i64 0) rfl (by kernel_rfl) (by kernel_rfl) (fun _ _ _ h => h) S0 (by rfl) (fun u hu => by go_simp) ?_
          try simp only [Act.put, List.setIfInBounds_toArray, List.set_cons_zero, List.set_cons_succ]
          refine wpTill.next 3 rfl (by kernel_rfl) (by rfl) (fun KC hKC => ?_)
          go_simp
          clear hz
          with_reducible refine (rint_q _ z hzr.1 hzr.2).mono ?_
          rintro e u1 ⟨v, rfl, hf1, HQ1⟩
          obtain ⟨A5, i5, j5, B5, k5, m5, rfl, -⟩ := HQ1.now
          refine hKC _ _ (fun _ => KS _ (hf1.mono fun κ _ hκ => hκ.1)) ?_
          clear hKC KC
          try simp only [Act.put, List.setIfInBounds_toArray, List.set_cons_zero, List.set_cons_succ]
          refine wpTill.next 4 rfl (by kernel_rfl) (by rfl) (fun KC hKC => ?_)
          go_simp
          with_reducible refine (rback_u HQ1.now rfl hf1.size (by decide) HL1.out).mono ?_
          rintro e u2 ⟨v, rfl, hf2, HQ2⟩
          obtain ⟨A6, i6, j6, B6, k6, m6, rfl, -⟩ := HQ2.now
          have G2 := hf1.trans (hf2.mono fun κ hk hκ => by have := hf1.size; omega)
          refine hKC _ _ (fun _ => KS _ (G2.mono fun κ _ hκ => hκ.1)) ?_
          clear hKC KC
          try simp only [Act.put, List.setIfInBounds_toArray, List.set_cons_zero, List.set_cons_succ]
          have one := one_e HQ2.now.out G2.size
          have al5 := fun R => (Fr.refl R u2).alloc (.cells #[.bool (sg (z : Rat)), .slice A6 i6 j6, .slice B6 k6 m6] 54)
          have G5 := fr_then G2 (al5 _)
          refine wpTill.next 5 rfl (by kernel_rfl) (by rfl) (fun KC hKC => ?_)
          go_simp
          refine hKC _ _ (fun _ => KS _ (G5.mono fun κ _ hκ => hκ.1)) ?_
          clear hKC KC
          try simp only [Act.put, List.setIfInBounds_toArray, List.set_cons_zero, List.set_cons_succ]
          obtain ⟨b5, e5, sl5⟩ := one.now
          cases e5
          have y75 := y8d.keep G5
          have oU5 := oUd.keep' G5
          have s5 := G5.size
          clear HQ1 HQ2 one hf1 hf2 G2 al5
          generalize u2.alloc (.cells #[.bool (sg (z : Rat)), .slice A6 i6 j6, .slice B6 k6 m6] 54) = u4 at sl5 y75 oU5 G5 s5 ⊢
          generalize u2.heap.size = b5 at sl5 ⊢
          refine wpTill.next 6 rfl (by kernel_rfl) (by rfl) (fun KC hKC => ?_)
          refine oper_push rmT (v := .slice A3 i3 j3) (xv := .slice (some ⟨b5, 0, none⟩) 1 1) (S := fun k => V.heap.size ≤ k) (T := fun k => wq.drew.heap.size ≤ k) rfl rfl rfl oU5 sl5 (fun z cs hr => Rm.mono (fun k hk => ⟨by omega, fun e => by have := lt3 k e.symm; omega⟩) hr) (fun k hk => by omega) (by rw [List.length_map, oneL_len]; simp only [List.length_singleton]; omega) (by rw [List.length_map, oneL_len]; simp only [List.length_singleton]; omega) ?_
          intro v7 u5 ho hfr hat
          obtain ⟨A9, i9, q9, rfl⟩ := ho.form
          have G6 := (G5.mono fun κ _ (hκ : κ < wq.drew.heap.size ∧ some κ ≠ (Value.slice A3 i3 j3).ownBlock) => hκ.1).trans (hfr.mono fun κ _ hκ => hκ.2)
          have S0 := KS _ G6
          refine hKC _ _ (fun _ => S0) ?_
          clear hKC KC
          try simp only [Act.put, List.setIfInBounds_toArray, List.set_cons_zero, List.set_cons_succ]
          refine wpTill.take 7 (.pointer (some ⟨b8, 1, none⟩)) rfl (by kernel_rfl) (by kernel_rfl) (fun _ _ _ h => h) S0 (by rfl) (fun u hu => by go_simp) ?_
          try simp only [Act.put, List.setIfInBounds_toArray, List.set_cons_zero, List.set_cons_succ]
          have y76 := y75.fr hfr (fun e => by have := in3 _ e.symm; omega)
          have e0 := y76.c1
          have e1 := y76.free 1
          clear S0 KS
          refine wpTill.next 8 rfl (by kernel_rfl) (by rfl) (fun KC hKC => ?_)
          go_simp
          refine hKC _ _ (no_wait (by kernel_rfl)) ?_
          clear hKC KC
          try simp only [Act.put, List.setIfInBounds_toArray, List.set_cons_zero, List.set_cons_succ]
          refine wpTill.done (by kernel_rfl) ?_
          have F9 := fr_set1 u5 b8 1 (.slice A9 i9 q9)
          have y9 := y76.set1 (.slice A9 i9 q9)
          have o9 := ho.past F9 (fun k hk => by omega)
          have G9 := ((GV.trans ((D0 _).trans ((DD _).trans (G5.mono fun k hk hh => by omega)))).comp hfr (R := fun k => k < V.heap.size ∧ k ≠ b8) fun k _ hk => ⟨hk, fun e => by have := in3 _ e.symm; omega⟩).comp F9 (R := fun k => k < V.heap.size ∧ k ≠ b8) fun k _ hk => ⟨hk, hk.2⟩
          clear e0 e1
          go_wp2_with fail
          go_roundw
          case rel => exact ⟨j + 1, _, by go_num, by omega, y9, by rw [HST.out, List.map_append]; exact o9, G9⟩
          case measure => first | (simp [intOf]; done) | (simp [intOf]; omega)
      case neg =>
        obtain rfl : j = q := by omega
        have F1 : Fr (fun k => k < w.heap.size) w wr := F.comp GV (R := fun k => k < w.heap.size) fun k _ hk => ⟨hk, by omega, by omega⟩
        have y7 := z7.fr GV ⟨by omega, by omega⟩
        have oS9 := oS.past GV fun k hk => ⟨by omega, by omega⟩
        have H7' : Hold (fun u => TV [(m : Int), (n : Int)] ((rot el (m * n)).map canR) u (.slice A7 n7 c7) (.slice B7 m7 k7)) wr := TV.hold ⟨(HL7.out.1.fr (GV.mono fun k _ hk => ⟨by omega, by omega⟩)).any, (HL7.out.2.fr (GV.mono fun k _ hk => ⟨by omega, by omega⟩)).any⟩
        have H8 : Hold (fun u => TV [(n : Int), (n : Int)] ((oneM n).map canR) u (.slice (some ⟨b7 + 1, 0, none⟩) 2 2) (.slice A3 i3 j3)) wr := TV.hold ⟨oS9.sl.any, by have := o1.sl.any; rwa [← HQN.out, one_full] at this⟩
        have HLX : (rot el (m * n)).length = m * n := rot_len _ _
        have K8 := Lib.hid (kf_mat (a := n) (b := n) HN.2.2.1 HN.2.2.2 HN.2.2.1 HN.2.2.2 (oneM_len n) (oneM_lens (M := 3) (by decide)) (by decide) (by decide))
        have K0 := Lib.hid (kf_num (q := ((0 : Int) : Rat)) (M := 3) (lens_0 (by decide)) (by decide) (by decide))
        have D1 : Hid (m ≤ 5 ∧ n ≤ 5 ∧ n ≤ 5) := Lib.hid ⟨HN.2.1, HN.2.2.2, HN.2.2.2⟩
        have FI0 := Lib.hid (fits_nil HN.1 HN.2.1 HN.2.2.1 HN.2.2.2)
        have FIS := Lib.hid (fits_self HN.1 HN.2.1 HN.2.2.1 HN.2.2.2)
        have Q1 := Lib.hid (mm_one (rot el (m * n)) m n HLX)
        have Q2 := Lib.hid (gem_zero (q := ((0 : Int) : Rat)) rfl HLX)
        have Q3 := Lib.hid (gem_twice HLX HN.1 HN.2.2.1)
        have KZ := Lib.hid (KF.zip (fun h g => lens_add' h g) KA.out KA.out (by decide) (by decide))
        have FX := Lib.hid KA.out.fit
        have FZ := Lib.hid KZ.out.fit
        clear F z7 oS HL7 GV o1 HLX oS9
        have F := F1
        clear F1
        have P := Lib.hid (mm_k (K := 400) H7'.now H8.now KA K8 D1 Q1 (Lib.hid (by decide)))
        have pp70 := y7.c0
        have pp71 := y7.c1
        have pp80 := z8.c0
        have pp81 := z8.c1
        go_wp2_with fail
        clear pp70 pp71 pp80 pp81
        with_reducible refine P.out.mono ?_
        rintro e W11 ⟨v, rfl, hf, H⟩
        obtain ⟨A11, n11, c11, B11, m11, k11, rfl, -⟩ := H.now
        have al := fun R => (Fr.refl R W11).alloc (.cells #[.slice A11 n11 c11, .slice B11 m11 k11] 26)
        replace y7 := y7.keep hf
        replace z8 := z8.keep hf
        replace H7' := H7'.keep hf
        replace H8 := H8.keep hf
        replace F := fr_then F hf
        replace y7 := y7.keep (al _)
        replace z8 := z8.keep (al _)
        replace H7' := H7'.keep (al _)
        replace H8 := H8.keep (al _)
        replace F := fr_then F (al _)
        have z11 := Box2.new W11 26 (.slice A11 n11 c11) (.slice B11 m11 k11)
        have H11 : Hold (fun u => TC 0 [(m : Int), (n : Int)] ((rot el (m * n)).map canR) u (.slice A11 n11 c11) (.slice B11 m11 k11)) (W11.alloc (.cells #[.slice A11 n11 c11, .slice B11 m11 k11] 26)) := (H.mono fun _ h => h.out).keep (al _)
        clear P hf H al
        have pp70 := y7.c0
        have pp71 := y7.c1
        have pp80 := z8.c0
        have pp81 := z8.c1
        have pp110 := z11.c0
        have pp111 := z11.c1
        go_wp2_with fail
        clear pp70 pp71 pp80 pp81 pp110 pp111
        generalize W11.alloc (.cells #[.slice A11 n11 c11, .slice B11 m11 k11] 26) = U11 at *
        generalize W11.heap.size = b11 at *
        have HL0 : Hid (Lens 6 ((0 : Int) : Rat)) := Lib.hid (lens_0 (by decide))
        have DR := fun R => (Fr.refl R U11).drew
        replace y7 := y7.keep (DR _)
        replace z8 := z8.keep (DR _)
        replace z11 := z11.keep (DR _)
        replace H7' := H7'.keep (DR _)
        replace H8 := H8.keep (DR _)
        replace H11 := H11.keep (DR _)
        replace F := F.drew
        clear DR
        refine wpTill.begin (fun _ => True) 11 (by kernel_rfl) ?_
        change wpTill _ _ _ _ _ _ 13 _ _ _
        refine wpTill.free (jj := 11) (m := 2) [(0, Fact.eq (.agg #[.slice A7 n7 c7, .slice B7 m7 k7])),
              (1, Fact.eq (.agg #[.slice (some ⟨b7 + 1, 0, none⟩) 2 2, .slice A3 i3 j3])),
              (2, Fact.held (RQ (((0 : Int) : Rat)) (6))),
              (3, Fact.held (OQ (U11.drew.heap.size) (((0 : Int) : Rat)))),
              (4, Fact.held (OneE U11.drew.heap.size ((0 : Int) : Rat))),
              (5, Fact.two 4 (fun v t => v = .agg #[.slice none 0 0, t])),
              (6, Fact.held (Tup (0) (TC 0 [(m : Int), (n : Int)] ((rot el (m * n)).map canR)))),
              (7, Fact.same 6),
              (8, Fact.fst 7),
              (10, Fact.mem (New2 U11.drew.heap.size 26 (.slice none 0 0) (.slice none 0 0)) New2.keep)] [(9, Fact.snd 7)] [0, 0, 0, 4, 12, 28, 63, 127, 255, 255, 0, 1535, 4095] [] ?_ (by kernel_rfl) (by kernel_rfl) (by kernel_rfl) [(0, some 76), (1, some 77), (2, some 78), (3, some 79), (4, some 80), (5, some 81), (6, some 82), (7, some 75), (8, some 83), (10, some 13), (9, some 84)] (by kernel_rfl) ?hA1 ?hQ1 (fun _ _ => trivial) (by kernel_rfl) ?steps1 ?looses1 ?cont1
        case hQ1 => exact fun _ _ _ _ _ h => h
        case hA1 =>
          intro vs
          simp only [fillD, List.foldl_cons, List.foldl_nil, Act.put, List.setIfInBounds_toArray, List.set_cons_zero, List.set_cons_succ]
          exact rfl
        case steps1 =>
          refine ⟨?_, ?_, ?_, ?_, ?_, ?_, ?_, ?_, ?_, ?_, trivial⟩
          · rintro vs u ⟨hV0, hV1, hV2, hV3, hV4, hV5, hV6, hV7, hV8, hV10, hV9, -⟩ G
            have o0 := (y7.keep G).c0
            have o1 := (y7.keep G).c1
            exact stepAt.pure (v := .agg #[.slice A7 n7 c7, .slice B7 m7 k7]) rfl rfl (by go_simp) rfl
          · rintro vs u ⟨hV0, hV1, hV2, hV3, hV4, hV5, hV6, hV7, hV8, hV10, hV9, -⟩ G
            have o0 := (z8.keep G).c0
            have o1 := (z8.keep G).c1
            exact stepAt.pure (v := .agg #[.slice (some ⟨b7 + 1, 0, none⟩) 2 2, .slice A3 i3 j3]) rfl rfl (by go_simp) rfl
          · rintro vs u ⟨hV0, hV1, hV2, hV3, hV4, hV5, hV6, hV7, hV8, hV10, hV9, -⟩ G
            refine stepAt.call (f := 29) (args := #[.int .i64 0]) rfl rfl (by go_simp) ?_
            exact rint_q _ 0 (by decide) (by decide)
          · rintro vs u ⟨hV0, hV1, hV2, hV3, hV4, hV5, hV6, hV7, hV8, hV10, hV9, -⟩ G
            refine stepAt.call (f := 28) (args := #[vs 2]) rfl rfl (by go_simp) ?_
            have HV2 : Hold (fun u' => (RQ (((0 : Int) : Rat)) (6)) u' (vs 2)) u := hV2 rfl
            obtain ⟨A13_2, n13_2, c13_2, B13_2, m13_2, k13_2, eV2, -⟩ := HV2.now
            rw [eV2] at HV2
            rw [eV2]
            exact rback_u HV2.now rfl G.size (by decide) HL0.out
          · rintro vs u ⟨hV0, hV1, hV2, hV3, hV4, hV5, hV6, hV7, hV8, hV10, hV9, -⟩ G
            have HV3 : Hold (fun u' => (OQ (U11.drew.heap.size) (((0 : Int) : Rat))) u' (vs 3)) u := hV3 rfl
            obtain ⟨A13_3, n13_3, c13_3, B13_3, m13_3, k13_3, eV3, -⟩ := HV3.now
            rw [eV3] at HV3
            have one := one_e HV3.now.out G.size
            exact stepAt.value (v := .slice (some ⟨u.heap.size, 0, none⟩) 1 1) (u := u.alloc (.cells #[.bool (sg ((0 : Int) : Rat)), .slice A13_3 n13_3 c13_3, .slice B13_3 m13_3 k13_3] 54)) rfl rfl (by simp only [eV3]; go_simp) ((Fr.refl _ _).alloc _) one
          · rintro vs u ⟨hV0, hV1, hV2, hV3, hV4, hV5, hV6, hV7, hV8, hV10, hV9, -⟩ G
            have HV4 : Hold (fun u' => (OneE U11.drew.heap.size ((0 : Int) : Rat)) u' (vs 4)) u := hV4 rfl
            obtain ⟨b13_4, eV4, -⟩ := HV4.now
            rw [eV4] at HV4
            exact stepAt.pure (v := .agg #[.slice none 0 0, .slice (some ⟨b13_4, 0, none⟩) 1 1]) rfl rfl (by simp only [eV4]; go_simp) (show _ = Value.agg #[.slice none 0 0, vs 4] by rw [eV4]; rfl)
          · rintro vs u ⟨hV0, hV1, hV2, hV3, hV4, hV5, hV6, hV7, hV8, hV10, hV9, -⟩ G
            refine stepAt.call (f := 26) (args := #[vs 0, vs 1, vs 5]) rfl rfl (by go_simp) ?_
            have eV0 : vs 0 = .agg #[.slice A7 n7 c7, .slice B7 m7 k7] := hV0 rfl
            have eV1 : vs 1 = .agg #[.slice (some ⟨b7 + 1, 0, none⟩) 2 2, .slice A3 i3 j3] := hV1 rfl
            have HV4 : Hold (fun u' => (OneE U11.drew.heap.size ((0 : Int) : Rat)) u' (vs 4)) u := hV4 rfl
            obtain ⟨b13_4, eV4, -⟩ := HV4.now
            rw [eV4] at HV4
            have eV5 : vs 5 = .agg #[.slice none 0 0, .slice (some ⟨b13_4, 0, none⟩) 1 1] := (show vs 5 = .agg #[.slice none 0 0, vs 4] from hV5 rfl).trans (by rw [eV4])
            rw [eV0, eV1, eV5]
            exact gem_k (K := 400) (H7'.at G) (H8.at G) (one_tv HV4.now) KA K8 K0 D1 FI0 Q2 (Lib.hid (by decide))
          · rintro vs u ⟨hV0, hV1, hV2, hV3, hV4, hV5, hV6, hV7, hV8, hV10, hV9, -⟩ G
            exact stepAt.pure (v := vs 6) rfl rfl (by go_simp) rfl
          · rintro vs u ⟨hV0, hV1, hV2, hV3, hV4, hV5, hV6, hV7, hV8, hV10, hV9, -⟩ G
            have HV6 : Hold (fun u' => (Tup (0) (TC 0 [(m : Int), (n : Int)] ((rot el (m * n)).map canR))) u' (vs 6)) u := hV6 rfl
            obtain ⟨A13_6, n13_6, c13_6, B13_6, m13_6, k13_6, eV6, -⟩ := HV6.now
            rw [eV6] at HV6
            have eV7 : vs 7 = .tuple #[.agg #[.slice A13_6 n13_6 c13_6, .slice B13_6 m13_6 k13_6], .int .i64 0] := (show vs 7 = vs 6 from hV7 rfl).trans eV6
            exact stepAt.pure (v := .agg #[.slice A13_6 n13_6 c13_6, .slice B13_6 m13_6 k13_6]) rfl rfl (by simp only [eV7]; go_simp) ⟨_, _, eV7, rfl⟩
          · rintro vs u ⟨hV0, hV1, hV2, hV3, hV4, hV5, hV6, hV7, hV8, hV10, hV9, -⟩ G
            exact stepAt.value (v := .pointer (some ⟨u.heap.size, 0, none⟩)) (u := u.alloc (.cells #[.slice none 0 0, .slice none 0 0] 26)) rfl rfl (by go_simp) ((Fr.refl _ _).alloc _) ⟨_, rfl, G.size, Box2.new _ _ _ _⟩
        case looses1 =>
          refine ⟨?_, trivial⟩
          · rintro vs u ⟨hV0, hV1, hV2, hV3, hV4, hV5, hV6, hV7, hV8, hV10, hV9, -⟩ G
            have HV6 : Hold (fun u' => (Tup (0) (TC 0 [(m : Int), (n : Int)] ((rot el (m * n)).map canR))) u' (vs 6)) u := hV6 rfl
            obtain ⟨A13_6, n13_6, c13_6, B13_6, m13_6, k13_6, eV6, -⟩ := HV6.now
            rw [eV6] at HV6
            have eV7 : vs 7 = .tuple #[.agg #[.slice A13_6 n13_6 c13_6, .slice B13_6 m13_6 k13_6], .int .i64 0] := (show vs 7 = vs 6 from hV7 rfl).trans eV6
            exact pureAt.of (v := .int .i64 0) rfl rfl (fun _ => by simp only [eV7]; go_simp) ⟨_, _, eV7, rfl⟩
        rintro vs u ⟨hV0, hV1, hV2, hV3, hV4, hV5, hV6, hV7, hV8, hV10, hV9, -⟩ G
        have eV0 : vs 0 = .agg #[.slice A7 n7 c7, .slice B7 m7 k7] := hV0
        have eV1 : vs 1 = .agg #[.slice (some ⟨b7 + 1, 0, none⟩) 2 2, .slice A3 i3 j3] := hV1
        replace hV2 : Hold (fun u' => (RQ (((0 : Int) : Rat)) (6)) u' (vs 2)) u := hV2
        obtain ⟨A13_2, n13_2, c13_2, B13_2, m13_2, k13_2, eV2, -⟩ := hV2.now
        rw [eV2] at hV2
        replace hV3 : Hold (fun u' => (OQ (U11.drew.heap.size) (((0 : Int) : Rat))) u' (vs 3)) u := hV3
        obtain ⟨A13_3, n13_3, c13_3, B13_3, m13_3, k13_3, eV3, -⟩ := hV3.now
        rw [eV3] at hV3
        replace hV4 : Hold (fun u' => (OneE U11.drew.heap.size ((0 : Int) : Rat)) u' (vs 4)) u := hV4
        obtain ⟨b13_4, eV4, -⟩ := hV4.now
        rw [eV4] at hV4
        have eV5 : vs 5 = .agg #[.slice none 0 0, .slice (some ⟨b13_4, 0, none⟩) 1 1] := (show vs 5 = .agg #[.slice none 0 0, vs 4] from hV5).trans (by rw [eV4])
        replace hV6 : Hold (fun u' => (Tup (0) (TC 0 [(m : Int), (n : Int)] ((rot el (m * n)).map canR))) u' (vs 6)) u := hV6
        obtain ⟨A13_6, n13_6, c13_6, B13_6, m13_6, k13_6, eV6, -⟩ := hV6.now
        rw [eV6] at hV6
        have eV7 : vs 7 = _ := (show vs 7 = vs 6 from hV7).trans eV6
        obtain ⟨x8, z8, a8, eV8⟩ := hV8
        have a8 := eV7.symm.trans a8
        cases a8
        replace eV8 : vs 8 = _ := eV8
        obtain ⟨b13_10, eV10, l13_10, y13_10⟩ := hV10
        replace eV10 : vs 10 = _ := eV10
        obtain ⟨x9, z9, a9, eV9⟩ := hV9
        have a9 := eV7.symm.trans a9
        cases a9
        replace eV9 : vs 9 = _ := eV9
        simp only [eV0, eV1, eV2, eV3, eV4, eV5, eV6, eV7, eV8, eV10, eV9]
        clear eV0 eV1 eV2 eV3 eV4 eV5 eV6 eV7 eV8 eV10 eV9 hV0 hV1 hV5 hV7
        have g0 := y13_10.free 0
        have g1 := y13_10.free 1
        have g2 := y13_10.c0
        have g3 := y13_10.c1
        refine wpTill.next 11 rfl (by kernel_rfl) (by rfl) (fun K hK => ?_)
        go_simp
        refine hK _ _ (no_wait (by kernel_rfl)) ?_
        clear hK K
        refine wpTill.next 12 rfl (by kernel_rfl) (by rfl) (fun K hK => ?_)
        go_simp
        refine hK _ _ (no_wait (by kernel_rfl)) ?_
        clear hK K
        refine wpTill.done (by kernel_rfl) ?_
        have F9 := fr_put2 u b13_10 (.slice A13_6 n13_6 c13_6) (.slice B13_6 m13_6 k13_6)
        have G9 := G.comp F9 (R := fun k => k < U11.drew.heap.size) fun k _ hk => ⟨hk, by omega⟩
        have z13 := y13_10.set2 (.slice A13_6 n13_6 c13_6) (.slice B13_6 m13_6 k13_6)
        have T13 := (hV6.now.out.fill (.slice A13_6 n13_6 c13_6) (.slice B13_6 m13_6 k13_6) y13_10).hold
        replace y7 := y7.keep G9
        replace z8 := z8.keep G9
        replace z11 := z11.keep G9
        replace H7' := H7'.keep G9
        replace H8 := H8.keep G9
        replace H11 := H11.keep G9
        replace F := fr_then F G9
        generalize (u.setCell ⟨b13_10, 0, none⟩ (.slice A13_6 n13_6 c13_6)).setCell ⟨b13_10, 1, none⟩ (.slice B13_6 m13_6 k13_6) = U13 at z13 T13 y7 z8 z11 H7' H8 H11 F ⊢
        clear g0 g1 g2 g3 F9 G9 G y13_10 l13_10 hV6
        have P := Lib.hid (gem_k (K := 400) H7'.now H8.now H7'.now KA K8 KA D1 FIS Q3 (Lib.hid (by decide)))
        have pp70 := y7.c0
        have pp71 := y7.c1
        have pp80 := z8.c0
        have pp81 := z8.c1
        have pp110 := z11.c0
        have pp111 := z11.c1
        have pp130 := z13.c0
        have pp131 := z13.c1
        go_wp2_with fail
        clear pp70 pp71 pp80 pp81 pp110 pp111 pp130 pp131
        with_reducible refine P.out.mono ?_
        rintro e W15 ⟨v, rfl, hf, H⟩
        obtain ⟨A15, n15, c15, B15, m15, k15, rfl, -⟩ := H.now
        have al := fun R => (Fr.refl R W15).alloc (.cells #[.slice A15 n15 c15, .slice B15 m15 k15] 26)
        replace y7 := y7.keep hf
        replace z8 := z8.keep hf
        replace z11 := z11.keep hf
        replace z13 := z13.keep hf
        replace H7' := H7'.keep hf
        replace H8 := H8.keep hf
        replace H11 := H11.keep hf
        replace T13 := T13.keep hf
        replace F := fr_then F hf
        replace y7 := y7.keep (al _)
        replace z8 := z8.keep (al _)
        replace z11 := z11.keep (al _)
        replace z13 := z13.keep (al _)
        replace H7' := H7'.keep (al _)
        replace H8 := H8.keep (al _)
        replace H11 := H11.keep (al _)
        replace T13 := T13.keep (al _)
        replace F := fr_then F (al _)
        have z15 := Box2.new W15 26 (.slice A15 n15 c15) (.slice B15 m15 k15)
        have H15 : Hold (fun u => TC 0 [(m : Int), (n : Int)] ((List.zipWith (fun p q => p + q) (rot el (m * n)) (rot el (m * n))).map canR) u (.slice A15 n15 c15) (.slice B15 m15 k15)) (W15.alloc (.cells #[.slice A15 n15 c15, .slice B15 m15 k15] 26)) := (H.mono fun _ h => h.out).keep (al _)
        clear P hf H al
        have P := Lib.hid (add_k H7'.now H7'.now KA KA)
        have pp70 := y7.c0
        have pp71 := y7.c1
        have pp80 := z8.c0
        have pp81 := z8.c1
        have pp110 := z11.c0
        have pp111 := z11.c1
        have pp130 := z13.c0
        have pp131 := z13.c1
        have pp150 := z15.c0
        have pp151 := z15.c1
        go_wp2_with fail
        clear pp70 pp71 pp80 pp81 pp110 pp111 pp130 pp131 pp150 pp151
        generalize W15.alloc (.cells #[.slice A15 n15 c15, .slice B15 m15 k15] 26) = U15 at *
        generalize W15.heap.size = b15 at *
        with_reducible refine P.out.mono ?_
        rintro e W17 ⟨v, rfl, hf, H⟩
        obtain ⟨A17, n17, c17, B17, m17, k17, rfl, -⟩ := H.now
        have al := fun R => (Fr.refl R W17).alloc (.cells #[.slice A17 n17 c17, .slice B17 m17 k17] 26)
        replace y7 := y7.keep hf
        replace z8 := z8.keep hf
        replace z11 := z11.keep hf
        replace z13 := z13.keep hf
        replace z15 := z15.keep hf
        replace H7' := H7'.keep hf
        replace H8 := H8.keep hf
        replace H11 := H11.keep hf
        replace T13 := T13.keep hf
        replace H15 := H15.keep hf
        replace F := fr_then F hf
        replace y7 := y7.keep (al _)
        replace z8 := z8.keep (al _)
        replace z11 := z11.keep (al _)
        replace z13 := z13.keep (al _)
        replace z15 := z15.keep (al _)
        replace H7' := H7'.keep (al _)
        replace H8 := H8.keep (al _)
        replace H11 := H11.keep (al _)
        replace T13 := T13.keep (al _)
        replace H15 := H15.keep (al _)
        replace F := fr_then F (al _)
        have z17 := Box2.new W17 26 (.slice A17 n17 c17) (.slice B17 m17 k17)
        have H17 : Hold (fun u => TC 0 [(m : Int), (n : Int)] ((List.zipWith (fun p q => p + q) (rot el (m * n)) (rot el (m * n))).map canR) u (.slice A17 n17 c17) (.slice B17 m17 k17)) (W17.alloc (.cells #[.slice A17 n17 c17, .slice B17 m17 k17] 26)) := (H.mono fun _ h => h.out).keep (al _)
        clear P hf H al
        have P := Lib.hid (tsame_u (H11.now.2 rfl) H7'.now FX FX rfl (Lib.hid rfl))
        have pp70 := y7.c0
        have pp71 := y7.c1
        have pp80 := z8.c0
        have pp81 := z8.c1
        have pp110 := z11.c0
        have pp111 := z11.c1
        have pp130 := z13.c0
        have pp131 := z13.c1
        have pp150 := z15.c0
        have pp151 := z15.c1
        have pp170 := z17.c0
        have pp171 := z17.c1
        go_wp2_with fail
        clear pp70 pp71 pp80 pp81 pp110 pp111 pp130 pp131 pp150 pp151 pp170 pp171
        generalize W17.alloc (.cells #[.slice A17 n17 c17, .slice B17 m17 k17] 26) = U17 at *
        generalize W17.heap.size = b17 at *
        with_reducible refine P.out.mono ?_
        rintro e V3 ⟨v, rfl, hf, H⟩
        obtain rfl := H.now
        replace y7 := y7.keep hf
        replace z8 := z8.keep hf
        replace z11 := z11.keep hf
        replace z13 := z13.keep hf
        replace z15 := z15.keep hf
        replace z17 := z17.keep hf
        replace H7' := H7'.keep hf
        replace H8 := H8.keep hf
        replace H11 := H11.keep hf
        replace T13 := T13.keep hf
        replace H15 := H15.keep hf
        replace H17 := H17.keep hf
        replace F := fr_then F hf
        clear P hf H
        have P := Lib.hid (tsame_u (T13.now.2 rfl) H7'.now FX FX rfl (Lib.hid rfl))
        have pp70 := y7.c0
        have pp71 := y7.c1
        have pp80 := z8.c0
        have pp81 := z8.c1
        have pp110 := z11.c0
        have pp111 := z11.c1
        have pp130 := z13.c0
        have pp131 := z13.c1
        have pp150 := z15.c0
        have pp151 := z15.c1
        have pp170 := z17.c0
        have pp171 := z17.c1
        go_wp2_with fail
        clear pp70 pp71 pp80 pp81 pp110 pp111 pp130 pp131 pp150 pp151 pp170 pp171
        with_reducible refine P.out.mono ?_
        rintro e V4 ⟨v, rfl, hf, H⟩
        obtain rfl := H.now
        replace y7 := y7.keep hf
        replace z8 := z8.keep hf
        replace z11 := z11.keep hf
        replace z13 := z13.keep hf
        replace z15 := z15.keep hf
        replace z17 := z17.keep hf
        replace H7' := H7'.keep hf
        replace H8 := H8.keep hf
        replace H11 := H11.keep hf
        replace T13 := T13.keep hf
        replace H15 := H15.keep hf
        replace H17 := H17.keep hf
        replace F := fr_then F hf
        clear P hf H
        have P := Lib.hid (tsame_u (H15.now.2 rfl) (H17.now.2 rfl) FZ FZ rfl (Lib.hid rfl))
        have pp70 := y7.c0
        have pp71 := y7.c1
        have pp80 := z8.c0
        have pp81 := z8.c1
        have pp110 := z11.c0
        have pp111 := z11.c1
        have pp130 := z13.c0
        have pp131 := z13.c1
        have pp150 := z15.c0
        have pp151 := z15.c1
        have pp170 := z17.c0
        have pp171 := z17.c1
        go_wp2_with fail
        clear pp70 pp71 pp80 pp81 pp110 pp111 pp130 pp131 pp150 pp151 pp170 pp171
        with_reducible refine P.out.mono ?_
        rintro e V5 ⟨v, rfl, hf, H⟩
        obtain rfl := H.now
        replace y7 := y7.keep hf
        replace z8 := z8.keep hf
        replace z11 := z11.keep hf
        replace z13 := z13.keep hf
        replace z15 := z15.keep hf
        replace z17 := z17.keep hf
        replace H7' := H7'.keep hf
        replace H8 := H8.keep hf
        replace H11 := H11.keep hf
        replace T13 := T13.keep hf
        replace H15 := H15.keep hf
        replace H17 := H17.keep hf
        replace F := fr_then F hf
        clear P hf H
        have P := Lib.hid (known10_u V5)
        have pp70 := y7.c0
        have pp71 := y7.c1
        have pp80 := z8.c0
        have pp81 := z8.c1
        have pp110 := z11.c0
        have pp111 := z11.c1
        have pp130 := z13.c0
        have pp131 := z13.c1
        have pp150 := z15.c0
        have pp151 := z15.c1
        have pp170 := z17.c0
        have pp171 := z17.c1
        go_wp2_with fail
        clear pp70 pp71 pp80 pp81 pp110 pp111 pp130 pp131 pp150 pp151 pp170 pp171
        with_reducible refine P.out.mono ?_
        rintro e V6 ⟨v, rfl, hf, H⟩
        obtain rfl := H.now
        replace y7 := y7.keep hf
        replace z8 := z8.keep hf
        replace z11 := z11.keep hf
        replace z13 := z13.keep hf
        replace z15 := z15.keep hf
        replace z17 := z17.keep hf
        replace H7' := H7'.keep hf
        replace H8 := H8.keep hf
        replace H11 := H11.keep hf
        replace T13 := T13.keep hf
        replace H15 := H15.keep hf
        replace H17 := H17.keep hf
        replace F := fr_then F hf
        clear P hf H
        have pp70 := y7.c0
        have pp71 := y7.c1
        have pp80 := z8.c0
        have pp81 := z8.c1
        have pp110 := z11.c0
        have pp111 := z11.c1
        have pp130 := z13.c0
        have pp131 := z13.c1
        have pp150 := z15.c0
        have pp151 := z15.c1
        have pp170 := z17.c0
        have pp171 := z17.c1
        go_wp2_with fail
        clear pp70 pp71 pp80 pp81 pp110 pp111 pp130 pp131 pp150 pp151 pp170 pp171
        go_ret
        exact ⟨rfl, F⟩
end Go.Proofs.YtlppcfeimpcbjaaGreat

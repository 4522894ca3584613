import Derived.Test.YtjnojkfkhccgaaaGreatTenK

/- shape.Offset, tensor.At. -/
namespace Go.Proofs.YtjnojkfkhccgaaaGreat
open Go.RowKit

/-- A place, up to dimension k. -/
def ofs (sh idx : List Int) : Nat → Int
  | 0 => 0
  | k + 1 => ofs sh idx k * sh.getD k 0 + idx.getD k 0
def inR (sh idx : List Int) : Prop := ∀ k, k < sh.length → 0 ≤ idx.getD k 0 ∧ idx.getD k 0 < sh.getD k 0
open Classical in
/-- Why an index has no place. -/
noncomputable def offE (sh idx : List Int) : Int := if mayS sh ≠ 0 then mayS sh else if idx.length ≠ sh.length then 2 else if inR sh idx then 0 else 21
theorem offE_no {sh idx : List Int} (h : mayS sh ≠ 0) : offE sh idx = mayS sh := if_pos h
theorem offE_2 {sh idx : List Int} (h : mayS sh = 0) (h1 : idx.length ≠ sh.length) : offE sh idx = 2 := by
  unfold offE
  rw [if_neg (by simpa using h), if_pos h1]
theorem offE_21 {sh idx : List Int} (h : mayS sh = 0) (h1 : idx.length = sh.length) (h2 : ¬ inR sh idx) : offE sh idx = 21 := by
  unfold offE
  rw [if_neg (by simpa using h), if_neg (by simpa using h1), if_neg h2]
theorem offE_0 {sh idx : List Int} (h : mayS sh = 0) (h1 : idx.length = sh.length) (h2 : inR sh idx) : offE sh idx = 0 := by
  unfold offE
  rw [if_neg (by simpa using h), if_neg (by simpa using h1), if_pos h2]
theorem offE_ok {sh idx : List Int} (h : offE sh idx = 0) : mayS sh = 0 ∧ idx.length = sh.length ∧ inR sh idx := by
  unfold offE at h
  split at h
  · rename_i h1; exact absurd h h1
  · rename_i h1
    split at h
    · omega
    · rename_i h2
      split at h
      · rename_i h3; exact ⟨by simpa using h1, by simpa using h2, h3⟩
      · omega
theorem getI_at {l : List Int} {j : Nat} (h : j < l.length) : l.getD j 0 = l[j] := by rw [List.getD_eq_getElem?_getD, List.getElem?_eq_getElem h]; rfl
/-- A place is one of those that the dimensions count. -/
theorem ofs_lt {sh idx : List Int} (h1 : ∀ d ∈ sh, 1 ≤ d) {k : Nat} (hk : k ≤ sh.length) (h : ∀ i, i < k → 0 ≤ idx.getD i 0 ∧ idx.getD i 0 < sh.getD i 0) : 0 ≤ ofs sh idx k ∧ ofs sh idx k < pr (sh.take k) := by
  induction k with
  | zero => simp [ofs, pr]
  | succ k ih =>
    obtain ⟨a, b⟩ := ih (by omega) (fun i hi => h i (by omega))
    obtain ⟨c, d⟩ := h k (by omega)
    have hd := h1 _ (List.getElem_mem (show k < sh.length by omega))
    rw [pr_take (by omega)]
    rw [getI_at (show k < sh.length by omega)] at d
    simp only [ofs]
    rw [getI_at (show k < sh.length by omega)]
    generalize sh[k] = D at hd d
    generalize ofs sh idx k = o at a b
    generalize pr (sh.take k) = p at b
    generalize idx.getD k 0 = x at c d
    have e1 : 0 ≤ o * D := Int.mul_nonneg a (by omega)
    have e2 : (o + 1) * D ≤ p * D := Int.mul_le_mul_of_nonneg_right (by omega) (by omega)
    rw [Int.add_mul, Int.one_mul] at e2
    omega

set_option maxHeartbeats 4000000 in
theorem offset_t {S T : Nat → Prop} (w : World) (va vb : Value) (sh idx : List Int) (ha : Sl Im S w va sh) (hb : Sl Im T w vb idx) :
    Calls Tryz.prog 43 #[va, vb] w fun e w' => e = .returned (.tuple #[.int .i64 (if offE sh idx = 0 then ofs sh idx sh.length else 0), .int .i64 (offE sh idx)]) ∧ w' = w := by
  obtain ⟨A, c, rfl, _, _, hlx⟩ := ha.slice
  obtain ⟨A', c', rfl, _, _, hly⟩ := hb.slice
  have p := shmay_calls w (.slice A sh.length c) sh ha
  obtain ⟨e, he⟩ : ∃ e, e = mayS sh := ⟨_, rfl⟩
  obtain ⟨r, hr⟩ : ∃ r, r = offE sh idx := ⟨_, rfl⟩
  obtain ⟨z, hz⟩ : ∃ z, z = (if offE sh idx = 0 then ofs sh idx sh.length else 0) := ⟨_, rfl⟩
  rw [← he] at p
  rw [← hz, ← hr]
  have HA := Lib.hid ha
  have HB := Lib.hid hb
  have HE := Lib.hid he
  have HR := Lib.hid hr
  have HZ := Lib.hid hz
  clear ha hb he hr hz
  go_enter Tryz.func43, Tryz.ntmps43
  by_cases h0 : e = 0
  · subst h0
    by_cases hl : idx.length = sh.length
    · have hli : ((idx.length : Int) == (sh.length : Int)) = true := by simp [hl]
      obtain ⟨h4, h1, h2⟩ := mayS_ok HE.out.symm
      have H1 := Lib.hid h1
      have hlt4 : sh.length ≤ 4 := h4
      clear h1
      go_wp2_with fail
      refine p.mono ?_
      rintro e w1 ⟨rfl, rfl⟩
      go_wp2_with fail
      go_loop [7, 22] (fun n i => ∃ (j : Nat) (m : Int), j ≤ sh.length ∧ i = .int .i64 j ∧ n = .int .i64 m ∧ 0 ≤ m ∧ m ≤ 1024 ∧ Hid (m = ofs sh idx j) ∧ Hid (∀ k, k < j → 0 ≤ idx.getD k 0 ∧ idx.getD k 0 < sh.getD k 0)) (fun _ i => sh.length - (intOf i).toNat)
      case atStart => exact ⟨0, 0, Nat.zero_le _, rfl, rfl, by omega, by omega, Lib.hid rfl, Lib.hid (fun k hk => by omega)⟩
      case round =>
        obtain ⟨j, m, hj, rfl, rfl, hm1, hm2, hm, HK⟩ := hrel
        by_cases hlt : j < sh.length
        · have hlt2 : j < idx.length := by omega
          obtain ⟨ad, rfl, hx, hx1, hx2⟩ := Kd.int_cell HA.out (i := j) hlt
          obtain ⟨ad', rfl, hy, hy1, hy2⟩ := Kd.int_cell HB.out (i := j) hlt2
          have e1 := getI_at hlt
          have e2 := getI_at hlt2
          have hd1 := H1.out _ (List.getElem_mem hlt)
          have hpt := pr_take hlt
          have hpp := pr_take_pos H1.out j
          have hle := pr_take_le H1.out (j + 1)
          have hol := ofs_lt H1.out (Nat.le_of_lt hlt) HK.out
          rw [← hm.out] at hol
          generalize sh[j] = d at hx hx1 hx2 e1 hd1 hpt
          generalize idx[j] = x at hy hy1 hy2 e2
          have hdd : d ≤ 1024 := by
            have := Int.mul_le_mul hpp (Int.le_refl d) (by omega) (by omega)
            omega
          have HX := Lib.hid (And.intro e1 e2)
          by_cases hr1 : x < 0
          · have HN : r = 21 := HR.out.trans (offE_21 HE.out.symm hl fun h => by have := (h j hlt).1; rw [HX.out.2] at this; omega)
            have HM : z = 0 := HZ.out.trans (if_neg (by rw [← HR.out, HN]; decide))
            clear e1 e2 hpt hpp hle hol
            go_wp2_with fail
            go_ret2
            exact ⟨by first | rfl | rw [HN, HM]; rfl, rfl⟩
          · by_cases hr2 : d ≤ x
            · have HN : r = 21 := HR.out.trans (offE_21 HE.out.symm hl fun h => by have := (h j hlt).2; rw [HX.out.1, HX.out.2] at this; omega)
              have HM : z = 0 := HZ.out.trans (if_neg (by rw [← HR.out, HN]; decide))
              clear e1 e2 hpt hpp hle hol
              go_wp2_with fail
              go_ret2
              exact ⟨by first | rfl | rw [HN, HM]; rfl, rfl⟩
            · have e0 : 0 ≤ m * d := Int.mul_nonneg hm1 (by omega)
              have e4 : m * d ≤ 1024 * 1024 := Int.mul_le_mul hm2 hdd (by omega) (by omega)
              have hw1 : IntKind.i64.wrap (m * d) = m * d := by rw [IntKind.wrap_i64]; omega
              have hw2 : IntKind.i64.wrap (m * d + x) = m * d + x := by rw [IntKind.wrap_i64]; omega
              have HK' : Hid (∀ k, k < j + 1 → 0 ≤ idx.getD k 0 ∧ idx.getD k 0 < sh.getD k 0) := Lib.hid (fun k hk => by
                rcases Nat.lt_succ_iff_lt_or_eq.1 hk with h | rfl
                · exact HK.out k h
                · rw [HX.out.1, HX.out.2]; omega)
              have hol2 := ofs_lt H1.out (k := j + 1) hlt HK'.out
              have HM : Hid (m * d + x = ofs sh idx (j + 1)) := Lib.hid (by rw [ofs, ← hm.out, HX.out.1, HX.out.2])
              rw [← HM.out] at hol2
              have hb2 : m * d + x ≤ 1024 := by omega
              have hb1 : 0 ≤ m * d + x := by omega
              clear e1 e2 hpt hpp hle hol hol2
              go_wp2_with fail
              go_round
              case rel => exact ⟨j + 1, m * d + x, by omega, by go_num, rfl, hb1, hb2, HM, HK'⟩
              case measure => simp [intOf]; omega
        · obtain rfl : j = sh.length := by omega
          have HN : r = 0 := HR.out.trans (offE_0 HE.out.symm hl HK.out)
          have HM : z = m := HZ.out.trans ((if_pos (by rw [← HR.out, HN])).trans hm.out.symm)
          go_wp2_with fail
          go_ret2
          exact ⟨by first | rfl | rw [HN, HM]; rfl, rfl⟩
    · have hli : ((idx.length : Int) == (sh.length : Int)) = false := by rw [beq_eq_false_iff_ne]; omega
      have HN : r = 2 := HR.out.trans (offE_2 HE.out.symm hl)
      have HM : z = 0 := HZ.out.trans (if_neg (by rw [← HR.out, HN]; decide))
      go_wp2_with fail
      refine p.mono ?_
      rintro e w1 ⟨rfl, rfl⟩
      go_wp2_with fail
      go_ret2
      exact ⟨by first | rfl | rw [HN, HM]; rfl, rfl⟩
  · have HN : r = e := HR.out.trans ((offE_no (by rw [← HE.out]; exact h0)).trans HE.out.symm)
    have HM : z = 0 := HZ.out.trans (if_neg (by rw [← HR.out, HN]; exact h0))
    go_wp2_with fail
    refine p.mono ?_
    rintro e w1 ⟨rfl, rfl⟩
    go_wp2_with fail
    go_ret2
    exact ⟨by first | rfl | rw [HN, HM]; rfl, rfl⟩

/-- Why there is no element. -/
noncomputable def atE (sh : List Int) (es : List RatL) (idx : List Int) : Int := if mayT sh es ≠ 0 then mayT sh es else offE sh idx
theorem atE_no {sh idx : List Int} {es : List RatL} (h : mayT sh es ≠ 0) : atE sh es idx = mayT sh es := if_pos h
theorem atE_off {sh idx : List Int} {es : List RatL} (h : mayT sh es = 0) : atE sh es idx = offE sh idx := if_neg (by simpa using h)
theorem atE_ok {sh idx : List Int} {es : List RatL} (h : atE sh es idx = 0) : mayT sh es = 0 ∧ offE sh idx = 0 := by
  unfold atE at h
  split at h
  · rename_i h1; exact absurd h h1
  · rename_i h1; exact ⟨by simpa using h1, h⟩
theorem place_lt {sh idx : List Int} {es : List RatL} (h : atE sh es idx = 0) : 0 ≤ ofs sh idx sh.length ∧ (ofs sh idx sh.length).toNat < es.length := by
  obtain ⟨h1, h2⟩ := atE_ok h
  obtain ⟨h3, h4, _⟩ := mayT_ok h1
  obtain ⟨_, _, h5⟩ := offE_ok h2
  obtain ⟨_, h6, _⟩ := mayS_ok h3
  have := ofs_lt h6 (Nat.le_refl sh.length) h5
  rw [List.take_length, ← cntS_ok h3, ← h4] at this
  omega

/-- What At answers. -/
def AtR (w : World) (sh idx : List Int) (es : List RatL) (L : Nat) (r : Int) (e : Ending) (w' : World) : Prop := ∃ s v1 v2, e = .returned (.tuple #[.agg #[.bool s, v1, v2], .int .i64 r]) ∧ (r ≠ 0 → v1 = .slice none 0 0 ∧ v2 = .slice none 0 0) ∧
  (r = 0 → s = sg (qOf (es.getD (ofs sh idx sh.length).toNat zR)) ∧ RV (fun k => w.heap.size ≤ k) w' v1 v2 (qOf (es.getD (ofs sh idx sh.length).toNat zR)) L) ∧ Fr (fun k => k < w.heap.size) w w'

set_option maxHeartbeats 4000000 in
theorem at_t {S T U : Nat → Prop} (w : World) (vs ve vi : Value) (sh idx : List Int) (es : List RatL) (L : Nat) (hs : Sl Im S w vs sh) (he : Sl Rm T w ve es) (hi : Sl Im U w vi idx) (hL : ∀ x ∈ es, x.2.1.length ≤ L ∧ x.2.2.length ≤ L) (hL1 : 1 ≤ L) (hl : L ≤ 104857600) :
    Calls Tryz.prog 17 #[.agg #[vs, ve], vi] w (AtR w sh idx es L (atE sh es idx)) := by
  obtain ⟨A, c, rfl, _, _, hlx⟩ := hs.slice
  obtain ⟨A', c', rfl, _, _, hly⟩ := he.slice
  obtain ⟨A2, c2, rfl, _, _, hlz⟩ := hi.slice
  have F := fun R => ((Fr.refl R w).alloc (.cells #[.slice A sh.length c, .slice A' es.length c'] 26)).alloc (.cells #[.bool false, .slice none 0 0, .slice none 0 0] 43)
  have HS := Lib.hid (hs.up Im_pos (Nat.le_refl _) (F _))
  have HE := Lib.hid (he.up Rm_pos (Nat.le_refl _) (F _))
  have HI := Lib.hid (hi.up Im_pos (Nat.le_refl _) (F _))
  have b1 := (Box2.new w 26 (.slice A sh.length c) (.slice A' es.length c')).alloc (.cells #[.bool false, .slice none 0 0, .slice none 0 0] 43)
  have b2 := Box3.new (w.alloc (.cells #[.slice A sh.length c, .slice A' es.length c'] 26)) 43 (.bool false) (.slice none 0 0) (.slice none 0 0)
  simp only [World.size_alloc] at b2
  replace F := F (fun k => k < w.heap.size)
  generalize hW : (w.alloc (.cells #[.slice A sh.length c, .slice A' es.length c'] 26)).alloc (.cells #[.bool false, .slice none 0 0, .slice none 0 0] 43) = W at HS HE HI b1 b2 F
  obtain ⟨r, hr⟩ : ∃ r, r = atE sh es idx := ⟨_, rfl⟩
  rw [← hr]
  have HR := Lib.hid hr
  have p := may_t W _ _ sh es L HS.out HE.out hL hL1 hl
  obtain ⟨f, hf⟩ : ∃ f, f = mayT sh es := ⟨_, rfl⟩
  rw [← hf] at p
  have HF := Lib.hid hf
  have PP := Lib.hid p
  have HL := Lib.hid hL
  have c0 := b1.c0
  have c1 := b1.c1
  clear hs he hi hr hf p hL
  go_enter Tryz.func17, Tryz.ntmps17
  go_wp2_with fail
  with_reducible refine PP.out.mono ?_
  rintro e w1 ⟨rfl, hf1⟩
  replace HS := Lib.hid (HS.out.keep' Im_pos hf1)
  replace HE := Lib.hid (HE.out.keep' Rm_pos hf1)
  replace HI := Lib.hid (HI.out.keep' Im_pos hf1)
  replace b1 := b1.keep hf1
  replace b2 := b2.keep hf1
  replace F := fr_then F hf1
  have l1 := b1.lt
  have l2 := b2.lt
  clear hf1 hW PP c0 c1
  by_cases h0 : f = 0
  · subst h0
    have hoff := HR.out.trans (atE_off HF.out.symm)
    have q := offset_t w1 _ _ sh idx HS.out HI.out
    rw [← hoff] at q
    have c0 := b1.c0
    have c1 := b1.c1
    by_cases h1 : r = 0
    · subst h1
      have hpl := place_lt HR.out.symm
      rw [if_pos rfl] at q
      obtain ⟨m, hm⟩ : ∃ m : Nat, ofs sh idx sh.length = (m : Int) := ⟨(ofs sh idx sh.length).toNat, by omega⟩
      have hm2 : (ofs sh idx sh.length).toNat = m := by omega
      rw [hm] at q hpl
      rw [Int.toNat_natCast] at hpl
      have hmlt := hpl.2
      obtain ⟨ad, P, n, d, Q, m', o, rfl, hS, g0, g1, g2, r1, r2⟩ := Rm_get HE.out hmlt
      have hlen := HL.out _ (List.getElem_mem hmlt)
      have hmlt' := hmlt
      generalize hey : es[m] = y at g0 r1 r2 hlen
      have HG : Hid (es.getD (ofs sh idx sh.length).toNat zR = y) := Lib.hid (by rw [hm2, List.getD_eq_getElem?_getD, List.getElem?_eq_getElem hmlt]; exact hey)
      have HQ := Lib.hid q
      have HN := Lib.hid (norm_n w1 y.1 (.slice P n d) (.slice Q m' o) (qOf y) _ _ L ⟨⟨y.2.1, r1, rfl, hlen.1⟩, ⟨y.2.2, r2, rfl, hlen.2⟩, rfl⟩ hL1 (by omega))
      generalize y.1 = sy at g0 HN
      clear q hpl r1 r2 hlen hoff hm hm2 hey hmlt'
      go_wp2_with fail
      with_reducible refine HQ.out.mono ?_
      rintro e w2 ⟨rfl, rfl⟩
      go_wp2_with fail
      with_reducible refine HN.out.mono ?_
      rintro e w3 ⟨v1, v2, rfl, h3, hf⟩
      obtain ⟨⟨B1, m1, k1, rfl⟩, ⟨B2, m2, k2, rfl⟩⟩ := h3.form
      have sz := hf.size
      have b3 := b2.keep hf
      have F3 := fr_then F hf
      clear HQ HN hf
      go_wp2_with ((with_reducible apply wpList_st3); rfl; rfl; exact b3; exact rat3; rfl; rfl; rfl; intro w9 B9 F9)
      refine bodyPost_ret (results_cell3_tmp rfl rfl B9 Tryz.underlying43 rat3) rfl ?_
      exact ⟨_, _, _, rfl, fun h => absurd rfl h, fun _ => by rw [HG.out]; exact ⟨rfl, (h3.out F9 (b := w.heap.size) (fun k hk => by omega) (by omega))⟩, F3.comp F9 fun k _ hk => ⟨hk, by omega⟩⟩
    · rw [if_neg h1] at q
      have HQ := Lib.hid q
      clear q hoff
      go_wp2_with fail
      with_reducible refine HQ.out.mono ?_
      rintro e w2 ⟨rfl, rfl⟩
      clear HQ
      go_wp2_with ((with_reducible apply wpList_st3); rfl; rfl; exact b2; exact rat3; rfl; rfl; rfl; intro w9 B9 F9)
      refine bodyPost_ret (results_cell3_tmp rfl rfl B9 Tryz.underlying43 rat3) rfl ?_
      exact ⟨_, _, _, rfl, fun _ => ⟨rfl, rfl⟩, fun h => absurd h h1, F.comp F9 fun k _ hk => ⟨hk, by omega⟩⟩
  · have HN : r = f := HR.out.trans ((atE_no (by rw [← HF.out]; exact h0)).trans HF.out.symm)
    go_wp2_with ((with_reducible apply wpList_st3); rfl; rfl; exact b2; exact rat3; rfl; rfl; rfl; intro w9 B9 F9)
    refine bodyPost_ret (results_cell3_tmp rfl rfl B9 Tryz.underlying43 rat3) rfl ?_
    exact ⟨false, .slice none 0 0, .slice none 0 0, by first | rfl | rw [HN]; rfl, fun _ => ⟨rfl, rfl⟩, fun h => absurd (HN.symm.trans h) h0, F.comp F9 fun k _ hk => ⟨hk, by omega⟩⟩
end Go.Proofs.YtjnojkfkhccgaaaGreat

import Derived.Test.YtlppcfeimpcbjaaGreatFpL
set_option linter.unusedSimpArgs false
set_option linter.unusedVariables false

/- FoldGemms: printed by gen_fpm.py. -/
namespace Go.Proofs.YtlppcfeimpcbjaaGreat
open Go.RowKit

section
variable {w : World} {sha shb shc sh' : List Int} {ea eb ec : List RatL} {qa qb qc qs : List Rat} {a b c d e f : Value} {L K M : Nat} {r : Int}
theorem gem_u (h : TV sha ea w a b) (g : TV shb eb w c d) (k : TV shc ec w e f) (fa : Hid (Fit sha ea L)) (fb : Hid (Fit shb eb L)) (fc : Hid (Fit shc ec L)) (hr : Hid (gemE sha ea shb eb shc ec = r)) (hd : Hid ([sha.getD 0 0, shb.getD 1 0] = sh')) (hq : Hid (gemL (mmL (ea.map qOf) (eb.map qOf) (sha.getD 0 0).toNat (sha.getD 1 0).toNat (shb.getD 1 0).toNat) (ec.map qOf) shc [sha.getD 0 0, shb.getD 1 0] (mmL (ea.map qOf) (eb.map qOf) (sha.getD 0 0).toNat (sha.getD 1 0).toNat (shb.getD 1 0).toNat).length = qs)) (hK : Hid (ea.length * (L + L + 1) + 1 ≤ K ∧ 6 * L ≤ K ∧ K ≤ 104857600)) :
    Calls Tryz.prog 26 #[.agg #[a, b], .agg #[c, d], .agg #[e, f]] w (Ret w (Tup r (TC r sh' (qs.map canR)))) := by
  have p := gemm_t w a b c d e f sha shb shc ea eb ec L K r hr h.1 h.2 g.1 g.2 k.1 k.2 fa.out.lx fb.out.lx fc.out.lx fa.out.one hK.out.2.1 hK.out.2.2 (Lib.hid fun h0 => mm_bound fa.out fb.out h0 hK.out.1) _ (Lib.hid rfl) _ _ (Lib.hid rfl) (Lib.hid rfl)
  rw [hq.out, hd.out] at p
  exact p.mono fun _ _ h => h.ret
theorem rgem_u (h : QV sha qa K w a b) (g : QV shb qb K w c d) (k : QV shc qc K w e f) (hr : Hid (rgE sha shb shc = r)) (hma : Hid (mayS sha = 0 ∧ (qa.length : Int) = pr sha)) (hmb : Hid (mayS shb = 0 ∧ (qb.length : Int) = pr shb)) (hmc : Hid (mayS shc = 0 ∧ (qc.length : Int) = pr shc)) (hd : Hid ([sha.getD 0 0, shb.getD 1 0] = sh')) (hK : Hid (1 ≤ K ∧ 2 * K ≤ M ∧ 6 ≤ M ∧ 4 * M ≤ 104857600))
    (hq : Hid (gemL (mmL qa qb (sha.getD 0 0).toNat (sha.getD 1 0).toNat (shb.getD 1 0).toNat) qc shc [sha.getD 0 0, shb.getD 1 0] (mmL qa qb (sha.getD 0 0).toNat (sha.getD 1 0).toNat (shb.getD 1 0).toNat).length = qs))
    (hB : Hid (rmE sha shb = 0 → ∀ n k, k ≤ (sha.getD 1 0).toNat → (dg DB (mmS qa qb (sha.getD 1 0).toNat (shb.getD 1 0).toNat n k).num.natAbs).length ≤ M ∧ (dg DB (mmS qa qb (sha.getD 1 0).toNat (shb.getD 1 0).toNat n k).den).length ≤ M)) :
    Calls Tryz.prog 27 #[.agg #[a, b], .agg #[c, d], .agg #[e, f]] w (Ret w (Tup r (QC r sh' qs (4 * M)))) := by
  have p := rgem_t w a b c d e f sha shb shc qa qb qc K M r hr h.1 h.2 g.1 g.2 k.1 k.2 hma hmb hmc hK.out.1 hK.out.2.1 hK.out.2.2.1 hK.out.2.2.2 hB _ (Lib.hid rfl) _ _ (Lib.hid rfl) (Lib.hid rfl)
  rw [hq.out, hd.out] at p
  exact p.mono fun _ _ h => h.ret
theorem fits_13 {xs ys : List Int} (h1 : mayS xs = 0) (h2 : mayS ys = 0) : fitsE xs ys = 0 ∨ fitsE xs ys = 13 := by
  unfold fitsE
  rw [if_neg (by rw [h1]; simp), if_neg (by rw [h2]; simp)]
  split
  · exact .inl rfl
  · exact .inr rfl
theorem gem_rg (h1 : mayT sha ea = 0) (h2 : mayT shb eb = 0) (h3 : mayT shc ec = 0) : rgE sha shb shc = gemE sha ea shb eb shc ec := by
  have hm := mm_rm h1 h2
  unfold rgE
  by_cases h0 : mmE sha ea shb eb = 0
  · rw [gemE_f h1 h2 h3 h0, if_neg (by rw [← hm, h0]; simp)]
    have hs : mayS [sha.getD 0 0, shb.getD 1 0] = 0 := by
      by_cases hc : sha.length = 2 ∧ shb.length = 2 ∧ sha.getD 1 0 = shb.getD 0 0
      · rw [← mmE_s h1 h2 hc, h0]
      · rw [mmE_13 h1 h2 hc] at h0; cases h0
    rcases fits_13 (mayT_ok h3).1 hs with e | e
    · rw [e, if_neg (by simp)]
    · rw [e, if_pos (by decide)]
  · rw [gemE_m h1 h2 h3 h0, if_pos (by rw [← hm]; exact h0), hm]
end
/-- first, of three tensors that were put side by side -/
theorem first10_3 {w : World} {sha shb shc : List Int} {ea eb ec : List RatL} {a b c d e f : Value} {L : Nat} {r : Int} {t : TypeId} {g : Nat} (h : TV sha ea w a b) (k : TV shb eb w c d) (m : TV shc ec w e f) (hg : w.heap[g]? = some (.cells #[a, b, c, d, e, f] t (0, 0))) (fa : Hid (Fit sha ea L)) (fb : Hid (Fit shb eb L)) (fc : Hid (Fit shc ec L)) (hr : Hid ((if mayT sha ea ≠ 0 then mayT sha ea else if mayT shb eb ≠ 0 then mayT shb eb else mayT shc ec) = r)) :
    Calls Tryz.prog 21 #[.slice (some ⟨g, 0, none⟩) 3 3] w (Ret w fun _ v => v = .int .i64 r) := by
  refine (first10_t (S := fun _ => True) w g 3 (fun i => if i = 0 then a else if i = 1 then c else e) (fun i => if i = 0 then b else if i = 1 then d else f) (fun i => if i = 0 then sha else if i = 1 then shb else shc) (fun i => if i = 0 then ea else if i = 1 then eb else ec) L r (Lib.hid ?_) (by decide) (fun i hi => ?_) (fun i hi => ?_) (fun i hi => ?_) fa.out.one (by have := fa.out.top; omega)).mono fun _ _ h => Ret.eq h.1 h.2
  · have := hr.out
    simp only [firstE]
    by_cases h1 : mayT sha ea = 0
    · by_cases h2 : mayT shb eb = 0
      · by_cases h3 : mayT shc ec = 0 <;> simp_all
      · simp_all
    · simp_all
  · obtain rfl | rfl | rfl : i = 0 ∨ i = 1 ∨ i = 2 := by omega
    · exact ⟨(cell_of_row w g 0 _ _ (0, 0) hg).trans rfl, (cell_of_row w g 1 _ _ (0, 0) hg).trans rfl⟩
    · exact ⟨(cell_of_row w g 2 _ _ (0, 0) hg).trans rfl, (cell_of_row w g 3 _ _ (0, 0) hg).trans rfl⟩
    · exact ⟨(cell_of_row w g 4 _ _ (0, 0) hg).trans rfl, (cell_of_row w g 5 _ _ (0, 0) hg).trans rfl⟩
  · obtain rfl | rfl | rfl : i = 0 ∨ i = 1 ∨ i = 2 := by omega
    · exact h
    · exact k
    · exact m
  · obtain rfl | rfl | rfl : i = 0 ∨ i = 1 ∨ i = 2 := by omega
    · exact fa.out.lx
    · exact fb.out.lx
    · exact fc.out.lx

set_option maxRecDepth 20000 in
set_option maxHeartbeats 32000000 in
theorem fgem_walk {S : Nat → Prop} {sha shb shc : List Int} {ea eb ec : List RatL} (w : World) (vx vy vz : Value) (L : Nat) (hx : TL S w vx sha ea L) (hy : TL S w vy shb eb L) (hz : TL S w vz shc ec L) (hL : L ≤ 1048576) :
    Calls Tryz.prog 6 #[vx, vy, vz] w fun e w' => e = .returned (.bool true) ∧ Fr (fun k => k < w.heap.size) w w' := by
  have FA := Lib.hid (hx.fit hL)
  have FB := Lib.hid (hy.fit hL)
  have FC := Lib.hid (hz.fit hL)
  obtain ⟨va, ve, rfl, ha, he⟩ := hx.ex
  obtain ⟨vb, vf, rfl, hb, hf⟩ := hy.ex
  obtain ⟨vc, vg, rfl, hc, hg⟩ := hz.ex
  obtain ⟨A, c, rfl, _, _, _⟩ := ha.slice
  obtain ⟨A', c', rfl, _, _, _⟩ := he.slice
  obtain ⟨B, d, rfl, _, _, _⟩ := hb.slice
  obtain ⟨B', d', rfl, _, _, _⟩ := hf.slice
  obtain ⟨C, f, rfl, _, _, _⟩ := hc.slice
  obtain ⟨C', f', rfl, _, _, _⟩ := hg.slice
  have HA := TV.hold ⟨ha.any, he.any⟩
  have HB := TV.hold ⟨hb.any, hf.any⟩
  have HC := TV.hold ⟨hc.any, hg.any⟩
  clear hx hy hz ha he hb hf hc hg
  have F := (((Fr.refl (fun k => k < w.heap.size) w).alloc (.cells #[.slice A sha.length c, .slice A' ea.length c'] 26)).alloc (.cells #[.slice B shb.length d, .slice B' eb.length d'] 26)).alloc (.cells #[.slice C shc.length f, .slice C' ec.length f'] 26)
  have xa := ((Box2.new w 26 (.slice A sha.length c) (.slice A' ea.length c')).alloc (.cells #[.slice B shb.length d, .slice B' eb.length d'] 26)).alloc (.cells #[.slice C shc.length f, .slice C' ec.length f'] 26)
  have xb := (Box2.new (w.alloc (.cells #[.slice A sha.length c, .slice A' ea.length c'] 26)) 26 (.slice B shb.length d) (.slice B' eb.length d')).alloc (.cells #[.slice C shc.length f, .slice C' ec.length f'] 26)
  have xc := Box2.new ((w.alloc (.cells #[.slice A sha.length c, .slice A' ea.length c'] 26)).alloc (.cells #[.slice B shb.length d, .slice B' eb.length d'] 26)) 26 (.slice C shc.length f) (.slice C' ec.length f')
  simp only [World.size_alloc] at xb xc
  replace HA := HA.keep (F.mono fun k h _ => h)
  replace HB := HB.keep (F.mono fun k h _ => h)
  replace HC := HC.keep (F.mono fun k h _ => h)
  obtain ⟨b1, hb1⟩ : ∃ b, few10B ea = b := ⟨_, rfl⟩
  obtain ⟨b2, hb2⟩ : ∃ b, few10B eb = b := ⟨_, rfl⟩
  obtain ⟨b3, hb3⟩ : ∃ b, few10B ec = b := ⟨_, rfl⟩
  have HB1 := Lib.hid hb1
  have HB2 := Lib.hid hb2
  have HB3 := Lib.hid hb3
  clear hb1 hb2 hb3
  go_enter Tryz.func6, Tryz.ntmps6
  have P := Lib.hid (few10_u HA.now HB1)
  have pp30 := xa.c0
  have pp31 := xa.c1
  have pp40 := xb.c0
  have pp41 := xb.c1
  have pp50 := xc.c0
  have pp51 := xc.c1
  go_wp2_with fail
  clear pp30 pp31 pp40 pp41 pp50 pp51
  with_reducible refine P.out.mono ?_
  rintro e V1 ⟨v, rfl, hf, H⟩
  obtain rfl := H.now
  replace xa := xa.keep hf
  replace xb := xb.keep hf
  replace xc := xc.keep hf
  replace HA := HA.keep hf
  replace HB := HB.keep hf
  replace HC := HC.keep hf
  replace F := fr_then F hf
  clear P hf H
  cases b1 with
  | false =>
    have P := Lib.hid (known10_u V1)
    have pp30 := xa.c0
    have pp31 := xa.c1
    have pp40 := xb.c0
    have pp41 := xb.c1
    have pp50 := xc.c0
    have pp51 := xc.c1
    go_wp2_with fail
    clear pp30 pp31 pp40 pp41 pp50 pp51
    with_reducible refine P.out.mono ?_
    rintro e V2 ⟨v, rfl, hf, H⟩
    obtain rfl := H.now
    replace xa := xa.keep hf
    replace xb := xb.keep hf
    replace xc := xc.keep hf
    replace HA := HA.keep hf
    replace HB := HB.keep hf
    replace HC := HC.keep hf
    replace F := fr_then F hf
    clear P hf H
    have pp30 := xa.c0
    have pp31 := xa.c1
    have pp40 := xb.c0
    have pp41 := xb.c1
    have pp50 := xc.c0
    have pp51 := xc.c1
    go_wp2_with fail
    clear pp30 pp31 pp40 pp41 pp50 pp51
    go_ret
    exact ⟨rfl, F⟩
  | true =>
    have P := Lib.hid (few10_u HB.now HB2)
    have pp30 := xa.c0
    have pp31 := xa.c1
    have pp40 := xb.c0
    have pp41 := xb.c1
    have pp50 := xc.c0
    have pp51 := xc.c1
    go_wp2_with fail
    clear pp30 pp31 pp40 pp41 pp50 pp51
    with_reducible refine P.out.mono ?_
    rintro e V3 ⟨v, rfl, hf, H⟩
    obtain rfl := H.now
    replace xa := xa.keep hf
    replace xb := xb.keep hf
    replace xc := xc.keep hf
    replace HA := HA.keep hf
    replace HB := HB.keep hf
    replace HC := HC.keep hf
    replace F := fr_then F hf
    clear P hf H
    cases b2 with
    | false =>
      have P := Lib.hid (known10_u V3)
      have pp30 := xa.c0
      have pp31 := xa.c1
      have pp40 := xb.c0
      have pp41 := xb.c1
      have pp50 := xc.c0
      have pp51 := xc.c1
      go_wp2_with fail
      clear pp30 pp31 pp40 pp41 pp50 pp51
      with_reducible refine P.out.mono ?_
      rintro e V4 ⟨v, rfl, hf, H⟩
      obtain rfl := H.now
      replace xa := xa.keep hf
      replace xb := xb.keep hf
      replace xc := xc.keep hf
      replace HA := HA.keep hf
      replace HB := HB.keep hf
      replace HC := HC.keep hf
      replace F := fr_then F hf
      clear P hf H
      have pp30 := xa.c0
      have pp31 := xa.c1
      have pp40 := xb.c0
      have pp41 := xb.c1
      have pp50 := xc.c0
      have pp51 := xc.c1
      go_wp2_with fail
      clear pp30 pp31 pp40 pp41 pp50 pp51
      go_ret
      exact ⟨rfl, F⟩
    | true =>
      have P := Lib.hid (few10_u HC.now HB3)
      have pp30 := xa.c0
      have pp31 := xa.c1
      have pp40 := xb.c0
      have pp41 := xb.c1
      have pp50 := xc.c0
      have pp51 := xc.c1
      go_wp2_with fail
      clear pp30 pp31 pp40 pp41 pp50 pp51
      with_reducible refine P.out.mono ?_
      rintro e V5 ⟨v, rfl, hf, H⟩
      obtain rfl := H.now
      replace xa := xa.keep hf
      replace xb := xb.keep hf
      replace xc := xc.keep hf
      replace HA := HA.keep hf
      replace HB := HB.keep hf
      replace HC := HC.keep hf
      replace F := fr_then F hf
      clear P hf H
      cases b3 with
      | false =>
        have P := Lib.hid (known10_u V5)
        have pp30 := xa.c0
        have pp31 := xa.c1
        have pp40 := xb.c0
        have pp41 := xb.c1
        have pp50 := xc.c0
        have pp51 := xc.c1
        go_wp2_with fail
        clear pp30 pp31 pp40 pp41 pp50 pp51
        with_reducible refine P.out.mono ?_
        rintro e V6 ⟨v, rfl, hf, H⟩
        obtain rfl := H.now
        replace xa := xa.keep hf
        replace xb := xb.keep hf
        replace xc := xc.keep hf
        replace HA := HA.keep hf
        replace HB := HB.keep hf
        replace HC := HC.keep hf
        replace F := fr_then F hf
        clear P hf H
        have pp30 := xa.c0
        have pp31 := xa.c1
        have pp40 := xb.c0
        have pp41 := xb.c1
        have pp50 := xc.c0
        have pp51 := xc.c1
        go_wp2_with fail
        clear pp30 pp31 pp40 pp41 pp50 pp51
        go_ret
        exact ⟨rfl, F⟩
      | true =>
        have GA := fit3 FA.out HB1.out
        have G3 := Lib.hid GA.1
        have G4 := Lib.hid (fit3 FB.out HB2.out).1
        have G5 := Lib.hid (fit3 FC.out HB3.out).1
        have h64 := GA.2
        obtain ⟨e1, he1⟩ : ∃ r, gemE sha ea shb eb shc ec = r := ⟨_, rfl⟩
        obtain ⟨r0, hr0⟩ : ∃ r, (if mayT sha ea ≠ 0 then mayT sha ea else if mayT shb eb ≠ 0 then mayT shb eb else mayT shc ec) = r := ⟨_, rfl⟩
        have HE1 := Lib.hid he1
        have HR0 := Lib.hid hr0
        have HNZ : Hid (r0 ≠ 0 → e1 = r0) := Lib.hid fun h => by
          rw [← he1, ← hr0]
          rw [← hr0] at h
          by_cases h1 : mayT sha ea = 0
          · rw [if_neg (by simpa using h1)] at h ⊢
            by_cases h2 : mayT shb eb = 0
            · rw [if_neg (by simpa using h2)] at h ⊢
              exact gemE_c h1 h2 h
            · rw [if_pos h2]
              exact gemE_b h1 h2
          · rw [if_pos h1]
            exact gemE_a h1
        have HZ : Hid (r0 = 0 → mayT sha ea = 0 ∧ mayT shb eb = 0 ∧ mayT shc ec = 0) := Lib.hid fun h => by
          rw [← hr0] at h
          by_cases h1 : mayT sha ea = 0
          · rw [if_neg (by simpa using h1)] at h
            by_cases h2 : mayT shb eb = 0
            · rw [if_neg (by simpa using h2)] at h
              exact ⟨h1, h2, h⟩
            · rw [if_pos h2] at h
              exact absurd h h2
          · rw [if_pos h1] at h
            exact absurd h h1
        obtain ⟨sh', hsh⟩ : ∃ s, [sha.getD 0 0, shb.getD 1 0] = s := ⟨_, rfl⟩
        obtain ⟨qs, hqs⟩ : ∃ s, gemL (mmL (ea.map qOf) (eb.map qOf) (sha.getD 0 0).toNat (sha.getD 1 0).toNat (shb.getD 1 0).toNat) (ec.map qOf) shc [sha.getD 0 0, shb.getD 1 0] (mmL (ea.map qOf) (eb.map qOf) (sha.getD 0 0).toNat (sha.getD 1 0).toNat (shb.getD 1 0).toNat).length = s := ⟨_, rfl⟩
        have HSH := Lib.hid hsh
        have HQS := Lib.hid hqs
        clear he1 hr0 GA hsh hqs
        have P := Lib.hid (gem_u (K := 500) HA.now HB.now HC.now G3 G4 G5 HE1 HSH HQS (Lib.hid (by omega)))
        have pp30 := xa.c0
        have pp31 := xa.c1
        have pp40 := xb.c0
        have pp41 := xb.c1
        have pp50 := xc.c0
        have pp51 := xc.c1
        go_wp2_with fail
        clear pp30 pp31 pp40 pp41 pp50 pp51
        with_reducible refine P.out.mono ?_
        rintro e W7 ⟨v, rfl, hf, H⟩
        obtain ⟨A7, n7, c7, B7, m7, k7, rfl, -⟩ := H.now
        have al := fun R => (Fr.refl R W7).alloc (.cells #[.slice A7 n7 c7, .slice B7 m7 k7] 26)
        replace xa := xa.keep hf
        replace xb := xb.keep hf
        replace xc := xc.keep hf
        replace HA := HA.keep hf
        replace HB := HB.keep hf
        replace HC := HC.keep hf
        replace F := fr_then F hf
        replace xa := xa.keep (al _)
        replace xb := xb.keep (al _)
        replace xc := xc.keep (al _)
        replace HA := HA.keep (al _)
        replace HB := HB.keep (al _)
        replace HC := HC.keep (al _)
        replace F := fr_then F (al _)
        have z7 := Box2.new W7 26 (.slice A7 n7 c7) (.slice B7 m7 k7)
        have H7 : Hold (fun u => TC e1 sh' (qs.map canR) u (.slice A7 n7 c7) (.slice B7 m7 k7)) (W7.alloc (.cells #[.slice A7 n7 c7, .slice B7 m7 k7] 26)) := (H.mono fun _ h => h.out).keep (al _)
        clear P hf H al
        have AB := fun R => (Fr.refl R (W7.alloc (.cells #[.slice A7 n7 c7, .slice B7 m7 k7] 26))).alloc (.cells #[.slice A sha.length c, .slice A' ea.length c', .slice B shb.length d, .slice B' eb.length d', .slice C shc.length f, .slice C' ec.length f'] 26)
        have hrow := heap_alloc_new (W7.alloc (.cells #[.slice A7 n7 c7, .slice B7 m7 k7] 26)) (.cells #[.slice A sha.length c, .slice A' ea.length c', .slice B shb.length d, .slice B' eb.length d', .slice C shc.length f, .slice C' ec.length f'] 26)
        rw [World.size_alloc] at hrow
        have P := Lib.hid (first10_3 (HA.keep (AB _)).now (HB.keep (AB _)).now (HC.keep (AB _)).now hrow G3 G4 G5 HR0)
        clear hrow
        have pp30 := xa.c0
        have pp31 := xa.c1
        have pp40 := xb.c0
        have pp41 := xb.c1
        have pp50 := xc.c0
        have pp51 := xc.c1
        have pp70 := z7.c0
        have pp71 := z7.c1
        go_wp2_with fail
        clear pp30 pp31 pp40 pp41 pp50 pp51 pp70 pp71
        replace xa := xa.keep (AB _)
        replace xb := xb.keep (AB _)
        replace xc := xc.keep (AB _)
        replace z7 := z7.keep (AB _)
        replace HA := HA.keep (AB _)
        replace HB := HB.keep (AB _)
        replace HC := HC.keep (AB _)
        replace H7 := H7.keep (AB _)
        replace F := fr_then F (AB _)
        clear AB
        generalize (W7.alloc (.cells #[.slice A7 n7 c7, .slice B7 m7 k7] 26)).alloc (.cells #[.slice A sha.length c, .slice A' ea.length c', .slice B shb.length d, .slice B' eb.length d', .slice C shc.length f, .slice C' ec.length f'] 26) = U5 at *
        generalize W7.heap.size = b7 at *
        with_reducible refine P.out.mono ?_
        rintro e V9 ⟨v, rfl, hf, H⟩
        obtain rfl := H.now
        replace xa := xa.keep hf
        replace xb := xb.keep hf
        replace xc := xc.keep hf
        replace z7 := z7.keep hf
        replace HA := HA.keep hf
        replace HB := HB.keep hf
        replace HC := HC.keep hf
        replace H7 := H7.keep hf
        replace F := fr_then F hf
        clear P hf H
        by_cases h0 : r0 = 0
        case neg =>
          have hb0 : (r0 == 0) = false := beq_eq_false_iff_ne.2 h0
          have e10 := HNZ.out h0
          subst e10
          have P := Lib.hid (told10_e H7.now (Lib.hid h0))
          have pp30 := xa.c0
          have pp31 := xa.c1
          have pp40 := xb.c0
          have pp41 := xb.c1
          have pp50 := xc.c0
          have pp51 := xc.c1
          have pp70 := z7.c0
          have pp71 := z7.c1
          go_wp2_with fail
          clear pp30 pp31 pp40 pp41 pp50 pp51 pp70 pp71
          with_reducible refine P.out.mono ?_
          rintro e V7 ⟨v, rfl, hf, H⟩
          obtain rfl := H.now
          replace xa := xa.keep hf
          replace xb := xb.keep hf
          replace xc := xc.keep hf
          replace z7 := z7.keep hf
          replace HA := HA.keep hf
          replace HB := HB.keep hf
          replace HC := HC.keep hf
          replace H7 := H7.keep hf
          replace F := fr_then F hf
          clear P hf H
          have P := Lib.hid (known10_u V7)
          have pp30 := xa.c0
          have pp31 := xa.c1
          have pp40 := xb.c0
          have pp41 := xb.c1
          have pp50 := xc.c0
          have pp51 := xc.c1
          have pp70 := z7.c0
          have pp71 := z7.c1
          go_wp2_with fail
          clear pp30 pp31 pp40 pp41 pp50 pp51 pp70 pp71
          with_reducible refine P.out.mono ?_
          rintro e V8 ⟨v, rfl, hf, H⟩
          obtain rfl := H.now
          replace xa := xa.keep hf
          replace xb := xb.keep hf
          replace xc := xc.keep hf
          replace z7 := z7.keep hf
          replace HA := HA.keep hf
          replace HB := HB.keep hf
          replace HC := HC.keep hf
          replace H7 := H7.keep hf
          replace F := fr_then F hf
          clear P hf H
          have pp30 := xa.c0
          have pp31 := xa.c1
          have pp40 := xb.c0
          have pp41 := xb.c1
          have pp50 := xc.c0
          have pp51 := xc.c1
          have pp70 := z7.c0
          have pp71 := z7.c1
          go_wp2_with fail
          clear pp30 pp31 pp40 pp41 pp50 pp51 pp70 pp71
          go_ret
          exact ⟨rfl, F⟩
        subst h0
        have HM := HZ.out rfl
        have hma := mayT_ok HM.1
        have hmb := mayT_ok HM.2.1
        have hmc := mayT_ok HM.2.2
        have HMA := Lib.hid (show mayS sha = 0 ∧ ((ea.map qOf).length : Int) = pr sha from ⟨hma.1, by rw [List.length_map, hma.2.1, cntS_ok hma.1]⟩)
        have HMB := Lib.hid (show mayS shb = 0 ∧ ((eb.map qOf).length : Int) = pr shb from ⟨hmb.1, by rw [List.length_map, hmb.2.1, cntS_ok hmb.1]⟩)
        have HMC := Lib.hid (show mayS shc = 0 ∧ ((ec.map qOf).length : Int) = pr shc from ⟨hmc.1, by rw [List.length_map, hmc.2.1, cntS_ok hmc.1]⟩)
        have HE2 := Lib.hid ((gem_rg HM.1 HM.2.1 HM.2.2).trans HE1.out)
        have HRM := Lib.hid (mm_rm HM.1 HM.2.1)
        have HBD := Lib.hid (show rmE sha shb = 0 → ∀ n k, k ≤ (sha.getD 1 0).toNat → (dg DB (mmS (ea.map qOf) (eb.map qOf) (sha.getD 1 0).toNat (shb.getD 1 0).toNat n k).num.natAbs).length ≤ 1500 ∧ (dg DB (mmS (ea.map qOf) (eb.map qOf) (sha.getD 1 0).toNat (shb.getD 1 0).toNat n k).den).length ≤ 1500 from fun h n k hk => lens_db (mm_bound (K := 500) G3.out G4.out (HRM.out.trans h) (by omega) n k hk) (by decide))
        clear hma hmb hmc HM
        have pp30 := xa.c0
        have pp31 := xa.c1
        have pp40 := xb.c0
        have pp41 := xb.c1
        have pp50 := xc.c0
        have pp51 := xc.c1
        have pp70 := z7.c0
        have pp71 := z7.c1
        go_wp2_with fail
        clear pp30 pp31 pp40 pp41 pp50 pp51 pp70 pp71
        have DR := fun R => (Fr.refl R V9).drew
        replace xa := xa.keep (DR _)
        replace xb := xb.keep (DR _)
        replace xc := xc.keep (DR _)
        replace z7 := z7.keep (DR _)
        replace HA := HA.keep (DR _)
        replace HB := HB.keep (DR _)
        replace HC := HC.keep (DR _)
        replace H7 := H7.keep (DR _)
        replace F := F.drew
        clear DR
        refine wpTill.begin (fun _ => True) 11 (by kernel_rfl) ?_
        change wpTill _ _ _ _ _ _ 13 _ _ _
        refine wpTill.free (jj := 11) (m := 2) [(0, Fact.eq (.agg #[.slice A sha.length c, .slice A' ea.length c'])),
              (1, Fact.held (Agg (QV sha (ea.map qOf) (3 * 3)))),
              (2, Fact.eq (.agg #[.slice B shb.length d, .slice B' eb.length d'])),
              (3, Fact.held (Agg (QV shb (eb.map qOf) (3 * 3)))),
              (4, Fact.eq (.agg #[.slice C shc.length f, .slice C' ec.length f'])),
              (5, Fact.held (Agg (QV shc (ec.map qOf) (3 * 3)))),
              (6, Fact.held (Tup (e1) (QC e1 sh' qs (4 * 1500)))),
              (7, Fact.same 6),
              (8, Fact.fst 7),
              (10, Fact.mem (New2 V9.drew.heap.size 36 (.slice none 0 0) (.slice none 0 0)) New2.keep)] [(9, Fact.snd 7)] [0, 1, 0, 7, 0, 31, 63, 127, 255, 255, 0, 1535, 4095] [] ?_ (by kernel_rfl) (by kernel_rfl) (by kernel_rfl) [(0, some 49), (1, some 50), (2, some 51), (3, some 52), (4, some 53), (5, some 54), (6, some 55), (7, some 48), (8, some 56), (10, some 10), (9, some 57)] (by kernel_rfl) ?hA1 ?hQ1 (fun _ _ => trivial) (by kernel_rfl) ?steps1 ?looses1 ?cont1
        case hQ1 => exact fun _ _ _ _ _ h => h
        case hA1 =>
          intro vs
          simp only [fillD, List.foldl_cons, List.foldl_nil, Act.put, List.setIfInBounds_toArray, List.set_cons_zero, List.set_cons_succ]
          exact rfl
        case steps1 =>
          refine ⟨?_, ?_, ?_, ?_, ?_, ?_, ?_, ?_, ?_, ?_, trivial⟩
          · rintro vs u ⟨hV0, hV1, hV2, hV3, hV4, hV5, hV6, hV7, hV8, hV10, hV9, -⟩ G
            have o0 := (xa.keep G).c0
            have o1 := (xa.keep G).c1
            exact stepAt.pure (v := .agg #[.slice A sha.length c, .slice A' ea.length c']) rfl rfl (by go_simp) rfl
          · rintro vs u ⟨hV0, hV1, hV2, hV3, hV4, hV5, hV6, hV7, hV8, hV10, hV9, -⟩ G
            refine stepAt.call (f := 18) (args := #[vs 0]) rfl rfl (by go_simp) ?_
            have eV0 : vs 0 = .agg #[.slice A sha.length c, .slice A' ea.length c'] := hV0 rfl
            rw [eV0]
            exact of_u (HA.at G) G3
          · rintro vs u ⟨hV0, hV1, hV2, hV3, hV4, hV5, hV6, hV7, hV8, hV10, hV9, -⟩ G
            have o0 := (xb.keep G).c0
            have o1 := (xb.keep G).c1
            exact stepAt.pure (v := .agg #[.slice B shb.length d, .slice B' eb.length d']) rfl rfl (by go_simp) rfl
          · rintro vs u ⟨hV0, hV1, hV2, hV3, hV4, hV5, hV6, hV7, hV8, hV10, hV9, -⟩ G
            refine stepAt.call (f := 18) (args := #[vs 2]) rfl rfl (by go_simp) ?_
            have eV2 : vs 2 = .agg #[.slice B shb.length d, .slice B' eb.length d'] := hV2 rfl
            rw [eV2]
            exact of_u (HB.at G) G4
          · rintro vs u ⟨hV0, hV1, hV2, hV3, hV4, hV5, hV6, hV7, hV8, hV10, hV9, -⟩ G
            have o0 := (xc.keep G).c0
            have o1 := (xc.keep G).c1
            exact stepAt.pure (v := .agg #[.slice C shc.length f, .slice C' ec.length f']) rfl rfl (by go_simp) rfl
          · rintro vs u ⟨hV0, hV1, hV2, hV3, hV4, hV5, hV6, hV7, hV8, hV10, hV9, -⟩ G
            refine stepAt.call (f := 18) (args := #[vs 4]) rfl rfl (by go_simp) ?_
            have eV4 : vs 4 = .agg #[.slice C shc.length f, .slice C' ec.length f'] := hV4 rfl
            rw [eV4]
            exact of_u (HC.at G) G5
          · rintro vs u ⟨hV0, hV1, hV2, hV3, hV4, hV5, hV6, hV7, hV8, hV10, hV9, -⟩ G
            refine stepAt.call (f := 27) (args := #[vs 1, vs 3, vs 5]) rfl rfl (by go_simp) ?_
            have HV1 : Hold (fun u' => (Agg (QV sha (ea.map qOf) (3 * 3))) u' (vs 1)) u := hV1 rfl
            obtain ⟨A1_1, n1_1, c1_1, B1_1, m1_1, k1_1, eV1, -⟩ := HV1.now
            rw [eV1] at HV1
            have HV3 : Hold (fun u' => (Agg (QV shb (eb.map qOf) (3 * 3))) u' (vs 3)) u := hV3 rfl
            obtain ⟨A1_3, n1_3, c1_3, B1_3, m1_3, k1_3, eV3, -⟩ := HV3.now
            rw [eV3] at HV3
            have HV5 : Hold (fun u' => (Agg (QV shc (ec.map qOf) (3 * 3))) u' (vs 5)) u := hV5 rfl
            obtain ⟨A1_5, n1_5, c1_5, B1_5, m1_5, k1_5, eV5, -⟩ := HV5.now
            rw [eV5] at HV5
            rw [eV1, eV3, eV5]
            exact rgem_u (M := 1500) HV1.now.out HV3.now.out HV5.now.out HE2 HMA HMB HMC HSH (Lib.hid (by decide)) HQS HBD
          · rintro vs u ⟨hV0, hV1, hV2, hV3, hV4, hV5, hV6, hV7, hV8, hV10, hV9, -⟩ G
            exact stepAt.pure (v := vs 6) rfl rfl (by go_simp) rfl
          · rintro vs u ⟨hV0, hV1, hV2, hV3, hV4, hV5, hV6, hV7, hV8, hV10, hV9, -⟩ G
            have HV6 : Hold (fun u' => (Tup (e1) (QC e1 sh' qs (4 * 1500))) u' (vs 6)) u := hV6 rfl
            obtain ⟨A1_6, n1_6, c1_6, B1_6, m1_6, k1_6, eV6, -⟩ := HV6.now
            rw [eV6] at HV6
            have eV7 : vs 7 = .tuple #[.agg #[.slice A1_6 n1_6 c1_6, .slice B1_6 m1_6 k1_6], .int .i64 e1] := (show vs 7 = vs 6 from hV7 rfl).trans eV6
            exact stepAt.pure (v := .agg #[.slice A1_6 n1_6 c1_6, .slice B1_6 m1_6 k1_6]) rfl rfl (by simp only [eV7]; go_simp) ⟨_, _, eV7, rfl⟩
          · rintro vs u ⟨hV0, hV1, hV2, hV3, hV4, hV5, hV6, hV7, hV8, hV10, hV9, -⟩ G
            exact stepAt.value (v := .pointer (some ⟨u.heap.size, 0, none⟩)) (u := u.alloc (.cells #[.slice none 0 0, .slice none 0 0] 36)) rfl rfl (by go_simp) ((Fr.refl _ _).alloc _) ⟨_, rfl, G.size, Box2.new _ _ _ _⟩
        case looses1 =>
          refine ⟨?_, trivial⟩
          · rintro vs u ⟨hV0, hV1, hV2, hV3, hV4, hV5, hV6, hV7, hV8, hV10, hV9, -⟩ G
            have HV6 : Hold (fun u' => (Tup (e1) (QC e1 sh' qs (4 * 1500))) u' (vs 6)) u := hV6 rfl
            obtain ⟨A1_6, n1_6, c1_6, B1_6, m1_6, k1_6, eV6, -⟩ := HV6.now
            rw [eV6] at HV6
            have eV7 : vs 7 = .tuple #[.agg #[.slice A1_6 n1_6 c1_6, .slice B1_6 m1_6 k1_6], .int .i64 e1] := (show vs 7 = vs 6 from hV7 rfl).trans eV6
            exact pureAt.of (v := .int .i64 e1) rfl rfl (fun _ => by simp only [eV7]; go_simp) ⟨_, _, eV7, rfl⟩
        rintro vs u ⟨hV0, hV1, hV2, hV3, hV4, hV5, hV6, hV7, hV8, hV10, hV9, -⟩ G
        have eV0 : vs 0 = .agg #[.slice A sha.length c, .slice A' ea.length c'] := hV0
        replace hV1 : Hold (fun u' => (Agg (QV sha (ea.map qOf) (3 * 3))) u' (vs 1)) u := hV1
        obtain ⟨A1_1, n1_1, c1_1, B1_1, m1_1, k1_1, eV1, -⟩ := hV1.now
        rw [eV1] at hV1
        have eV2 : vs 2 = .agg #[.slice B shb.length d, .slice B' eb.length d'] := hV2
        replace hV3 : Hold (fun u' => (Agg (QV shb (eb.map qOf) (3 * 3))) u' (vs 3)) u := hV3
        obtain ⟨A1_3, n1_3, c1_3, B1_3, m1_3, k1_3, eV3, -⟩ := hV3.now
        rw [eV3] at hV3
        have eV4 : vs 4 = .agg #[.slice C shc.length f, .slice C' ec.length f'] := hV4
        replace hV5 : Hold (fun u' => (Agg (QV shc (ec.map qOf) (3 * 3))) u' (vs 5)) u := hV5
        obtain ⟨A1_5, n1_5, c1_5, B1_5, m1_5, k1_5, eV5, -⟩ := hV5.now
        rw [eV5] at hV5
        replace hV6 : Hold (fun u' => (Tup (e1) (QC e1 sh' qs (4 * 1500))) u' (vs 6)) u := hV6
        obtain ⟨A1_6, n1_6, c1_6, B1_6, m1_6, k1_6, eV6, -⟩ := hV6.now
        rw [eV6] at hV6
        have eV7 : vs 7 = _ := (show vs 7 = vs 6 from hV7).trans eV6
        obtain ⟨x8, z8, a8, eV8⟩ := hV8
        have a8 := eV7.symm.trans a8
        cases a8
        replace eV8 : vs 8 = _ := eV8
        obtain ⟨b1_10, eV10, l1_10, y1_10⟩ := hV10
        replace eV10 : vs 10 = _ := eV10
        obtain ⟨x9, z9, a9, eV9⟩ := hV9
        have a9 := eV7.symm.trans a9
        cases a9
        replace eV9 : vs 9 = _ := eV9
        simp only [eV0, eV1, eV2, eV3, eV4, eV5, eV6, eV7, eV8, eV10, eV9]
        clear eV0 eV1 eV2 eV3 eV4 eV5 eV6 eV7 eV8 eV10 eV9 hV0 hV2 hV4 hV7
        have g0 := y1_10.free 0
        have g1 := y1_10.free 1
        have g2 := y1_10.c0
        have g3 := y1_10.c1
        refine wpTill.next 11 rfl (by kernel_rfl) (by rfl) (fun K hK => ?_)
        go_simp
        refine hK _ _ (no_wait (by kernel_rfl)) ?_
        clear hK K
        refine wpTill.next 12 rfl (by kernel_rfl) (by rfl) (fun K hK => ?_)
        go_simp
        refine hK _ _ (no_wait (by kernel_rfl)) ?_
        clear hK K
        refine wpTill.done (by kernel_rfl) ?_
        have F9 := fr_put2 u b1_10 (.slice A1_6 n1_6 c1_6) (.slice B1_6 m1_6 k1_6)
        have G9 := G.comp F9 (R := fun k => k < V9.drew.heap.size) fun k _ hk => ⟨hk, by omega⟩
        have z1 := y1_10.set2 (.slice A1_6 n1_6 c1_6) (.slice B1_6 m1_6 k1_6)
        have T1 := (hV6.now.out.fill (.slice A1_6 n1_6 c1_6) (.slice B1_6 m1_6 k1_6) y1_10).hold
        replace xa := xa.keep G9
        replace xb := xb.keep G9
        replace xc := xc.keep G9
        replace z7 := z7.keep G9
        replace HA := HA.keep G9
        replace HB := HB.keep G9
        replace HC := HC.keep G9
        replace H7 := H7.keep G9
        replace F := fr_then F G9
        generalize (u.setCell ⟨b1_10, 0, none⟩ (.slice A1_6 n1_6 c1_6)).setCell ⟨b1_10, 1, none⟩ (.slice B1_6 m1_6 k1_6) = U1 at z1 T1 xa xb xc z7 HA HB HC H7 F ⊢
        clear g0 g1 g2 g3 F9 G9 G y1_10 l1_10 hV6
        have P := Lib.hid (told10_u H7.now T1.now ⟨⟨_, _, _, rfl⟩, ⟨_, _, _, rfl⟩⟩ (Lib.hid fun _ => ⟨rfl, rfl⟩) (by decide))
        have pp30 := xa.c0
        have pp31 := xa.c1
        have pp40 := xb.c0
        have pp41 := xb.c1
        have pp50 := xc.c0
        have pp51 := xc.c1
        have pp70 := z7.c0
        have pp71 := z7.c1
        have pp100 := z1.c0
        have pp101 := z1.c1
        go_wp2_with fail
        clear pp30 pp31 pp40 pp41 pp50 pp51 pp70 pp71 pp100 pp101
        with_reducible refine P.out.mono ?_
        rintro e V9 ⟨v, rfl, hf, H⟩
        obtain rfl := H.now
        replace xa := xa.keep hf
        replace xb := xb.keep hf
        replace xc := xc.keep hf
        replace z7 := z7.keep hf
        replace z1 := z1.keep hf
        replace HA := HA.keep hf
        replace HB := HB.keep hf
        replace HC := HC.keep hf
        replace H7 := H7.keep hf
        replace T1 := T1.keep hf
        replace F := fr_then F hf
        clear P hf H
        have P := Lib.hid (known10_u V9)
        have pp30 := xa.c0
        have pp31 := xa.c1
        have pp40 := xb.c0
        have pp41 := xb.c1
        have pp50 := xc.c0
        have pp51 := xc.c1
        have pp70 := z7.c0
        have pp71 := z7.c1
        have pp100 := z1.c0
        have pp101 := z1.c1
        go_wp2_with fail
        clear pp30 pp31 pp40 pp41 pp50 pp51 pp70 pp71 pp100 pp101
        with_reducible refine P.out.mono ?_
        rintro e V10 ⟨v, rfl, hf, H⟩
        obtain rfl := H.now
        replace xa := xa.keep hf
        replace xb := xb.keep hf
        replace xc := xc.keep hf
        replace z7 := z7.keep hf
        replace z1 := z1.keep hf
        replace HA := HA.keep hf
        replace HB := HB.keep hf
        replace HC := HC.keep hf
        replace H7 := H7.keep hf
        replace T1 := T1.keep hf
        replace F := fr_then F hf
        clear P hf H
        have pp30 := xa.c0
        have pp31 := xa.c1
        have pp40 := xb.c0
        have pp41 := xb.c1
        have pp50 := xc.c0
        have pp51 := xc.c1
        have pp70 := z7.c0
        have pp71 := z7.c1
        have pp100 := z1.c0
        have pp101 := z1.c1
        go_wp2_with fail
        clear pp30 pp31 pp40 pp41 pp50 pp51 pp70 pp71 pp100 pp101
        go_ret
        exact ⟨rfl, F⟩
end Go.Proofs.YtlppcfeimpcbjaaGreat

import Derived.Test.YtlppcfeimpcbjaaGreatFpG
import Derived.Test.YtlppcfeimpcbjaaGreatFpK
import Derived.Test.YtlppcfeimpcbjaaGreatFoL
set_option linter.unusedSimpArgs false
set_option linter.unusedVariables false

/- fluxionref10.Gemm: printed by gen_fpl.py. -/
namespace Go.Proofs.YtlppcfeimpcbjaaGreat
open Go.RowKit Go.Shelf
attribute [local go_sem] Oper.semAt_some

/-- Why the document has no product and sum. -/
def rgE (sha shb shc : List Int) : Int := if rmE sha shb ≠ 0 then rmE sha shb else if fitsE shc [sha.getD 0 0, shb.getD 1 0] ≠ 0 then 13 else 0
theorem spr_in {shc sh : List Int} (hf : shc.length ≤ sh.length ∧ ∀ i, i < shc.length → alongP shc sh i) (h : ∀ d ∈ sh, 1 ≤ d) {k : Nat} (hk : (k : Int) < pr sh) : ∀ i, i < shc.length → 0 ≤ (seqI sh k).getD (sh.length - shc.length + i) 0 ∧ (shc.getD i 0 = 1 ∨ (seqI sh k).getD (sh.length - shc.length + i) 0 < shc.getD i 0) := fun i hi => by
  obtain ⟨h1, h2, h3⟩ := seq_nn h hk
  have hx := h3 (sh.length - shc.length + i) (by omega)
  refine ⟨hx.1, ?_⟩
  rcases hf.2 i hi with e | e
  · exact .inl e
  · exact .inr (by rw [e]; exact hx.2)

set_option maxRecDepth 100000 in
set_option maxHeartbeats 16000000 in
theorem rgem_t {S T U V X Y : Nat → Prop} (w : World) (va vea vb veb vc vec : Value) (sha shb shc : List Int) (qa qb qc : List Rat) (K M : Nat) (r : Int) (hr : Hid (rgE sha shb shc = r)) (ha : Sl Im S w va sha) (hea : Sl (Rk K) T w vea qa) (hb : Sl Im U w vb shb) (heb : Sl (Rk K) V w veb qb) (hc : Sl Im X w vc shc) (hec : Sl (Rk K) Y w vec qc)
    (hma : Hid (mayS sha = 0 ∧ (qa.length : Int) = pr sha)) (hmb : Hid (mayS shb = 0 ∧ (qb.length : Int) = pr shb)) (hmc : Hid (mayS shc = 0 ∧ (qc.length : Int) = pr shc)) (hK1 : 1 ≤ K) (hKM : 2 * K ≤ M) (h6 : 6 ≤ M) (hM : 4 * M ≤ 104857600)
    (hBnd : Hid (rmE sha shb = 0 → ∀ n k, k ≤ (sha.getD 1 0).toNat → (dg DB (mmS qa qb (sha.getD 1 0).toNat (shb.getD 1 0).toNat n k).num.natAbs).length ≤ M ∧ (dg DB (mmS qa qb (sha.getD 1 0).toNat (shb.getD 1 0).toNat n k).den).length ≤ M)) (qs : List Rat) (hqs : Hid (mmL qa qb (sha.getD 0 0).toNat (sha.getD 1 0).toNat (shb.getD 1 0).toNat = qs)) (da dc : Int) (hda : Hid (sha.getD 0 0 = da)) (hdc : Hid (shb.getD 1 0 = dc)) :
    Calls Tryz.prog 27 #[.agg #[va, vea], .agg #[vb, veb], .agg #[vc, vec]] w (RefO w [da, dc] (gemL qs qc shc [da, dc] qs.length) (4 * M) r) := by
  obtain ⟨A, c, rfl, _, _, _⟩ := ha.slice
  obtain ⟨A', c', rfl, _, _, _⟩ := hea.slice
  obtain ⟨B, d, rfl, _, _, _⟩ := hb.slice
  obtain ⟨B', d', rfl, _, _, _⟩ := heb.slice
  obtain ⟨C, f, rfl, _, _, _⟩ := hc.slice
  obtain ⟨C', f', rfl, _, _, _⟩ := hec.slice
  have HC1 := Lib.hid (hc.low Im_pos)
  have HC2 := Lib.hid (hec.low (Rk_pos K))
  have F := ((((Fr.refl (fun k => k < w.heap.size) w).alloc (.cells #[.slice A sha.length c, .slice A' qa.length c'] 36)).alloc (.cells #[.slice B shb.length d, .slice B' qb.length d'] 36)).alloc (.cells #[.slice C shc.length f, .slice C' qc.length f'] 36)).alloc (.cells #[.slice none 0 0, .slice none 0 0] 36)
  have x0 := (((Box2.new w 36 (.slice A sha.length c) (.slice A' qa.length c')).alloc (.cells #[.slice B shb.length d, .slice B' qb.length d'] 36)).alloc (.cells #[.slice C shc.length f, .slice C' qc.length f'] 36)).alloc (.cells #[.slice none 0 0, .slice none 0 0] 36)
  have x1 := ((Box2.new (w.alloc (.cells #[.slice A sha.length c, .slice A' qa.length c'] 36)) 36 (.slice B shb.length d) (.slice B' qb.length d')).alloc (.cells #[.slice C shc.length f, .slice C' qc.length f'] 36)).alloc (.cells #[.slice none 0 0, .slice none 0 0] 36)
  have x2 := (Box2.new ((w.alloc (.cells #[.slice A sha.length c, .slice A' qa.length c'] 36)).alloc (.cells #[.slice B shb.length d, .slice B' qb.length d'] 36)) 36 (.slice C shc.length f) (.slice C' qc.length f')).alloc (.cells #[.slice none 0 0, .slice none 0 0] 36)
  have x3 := Box2.new (((w.alloc (.cells #[.slice A sha.length c, .slice A' qa.length c'] 36)).alloc (.cells #[.slice B shb.length d, .slice B' qb.length d'] 36)).alloc (.cells #[.slice C shc.length f, .slice C' qc.length f'] 36)) 36 (.slice none 0 0) (.slice none 0 0)
  simp only [World.size_alloc] at x1 x2 x3
  obtain ⟨rm, hrm⟩ : ∃ r, rmE sha shb = r := ⟨_, rfl⟩
  have HRM := Lib.hid hrm
  rw [hrm] at hBnd
  have PM := Lib.hid (rmm_t ((((w.alloc (.cells #[.slice A sha.length c, .slice A' qa.length c'] 36)).alloc (.cells #[.slice B shb.length d, .slice B' qb.length d'] 36)).alloc (.cells #[.slice C shc.length f, .slice C' qc.length f'] 36)).alloc (.cells #[.slice none 0 0, .slice none 0 0] 36)) (.slice A sha.length c) (.slice A' qa.length c') (.slice B shb.length d) (.slice B' qb.length d') sha shb qa qb K M rm HRM ((ha.low Im_pos).fr F) ((hea.low (Rk_pos K)).fr F) ((hb.low Im_pos).fr F) ((heb.low (Rk_pos K)).fr F) hma hmb hK1 hKM h6 (by omega) hBnd)
  rw [hqs.out, hda.out, hdc.out] at PM
  clear ha hea hb heb hc hec hrm
  have a0 := x0.c0
  have a1 := x0.c1
  have a2 := x1.c0
  have a3 := x1.c1
  go_enter Tryz.func27, Tryz.ntmps27
  go_wp2_with fail
  with_reducible refine PM.out.mono ?_
  rintro e W3 ⟨P1, i1, j1, P2, i2, j2, rfl, hown, hf⟩
  clear a0 a1 a2 a3 PM x0 x1
  have s3 := hf.size
  have l3' := x3.lt
  generalize ((((w.alloc (.cells #[.slice A sha.length c, .slice A' qa.length c'] 36)).alloc (.cells #[.slice B shb.length d, .slice B' qb.length d'] 36)).alloc (.cells #[.slice C shc.length f, .slice C' qc.length f'] 36)).alloc (.cells #[.slice none 0 0, .slice none 0 0] 36)) = W0 at F x2 x3 hf hown s3 l3'
  replace x2 := x2.keep hf
  replace x3 := x3.keep hf
  replace F := fr_then F hf
  have al := fun R => (Fr.refl R W3).alloc (.cells #[.slice P1 i1 j1, .slice P2 i2 j2] 36)
  have x8 := Box2.new W3 36 (.slice P1 i1 j1) (.slice P2 i2 j2)
  have l3 := x3.lt
  replace x2 := x2.keep (al _)
  replace x3 := x3.keep (al _)
  replace F := fr_then F (al _)
  have HOWN : Hid (rm = 0 → Own Im 3 (fun k => w.heap.size + 4 ≤ k ∧ k ≠ W3.heap.size) (W3.alloc (.cells #[.slice P1 i1 j1, .slice P2 i2 j2] 36)) (.slice P1 i1 j1) [da, dc] ∧ Own (Rk M) 58 (fun k => w.heap.size + 4 ≤ k ∧ k ≠ W3.heap.size) (W3.alloc (.cells #[.slice P1 i1 j1, .slice P2 i2 j2] 36)) (.slice P2 i2 j2) qs) := Lib.hid fun h0 =>
    ⟨((hown h0).1.bd.mono (T := fun k => w.heap.size + 4 ≤ k ∧ k ≠ W3.heap.size) fun k hk => ⟨by omega, by omega⟩).fr (al _), ((hown h0).2.bd.mono (T := fun k => w.heap.size + 4 ≤ k ∧ k ≠ W3.heap.size) fun k hk => ⟨by omega, by omega⟩).fr (al _)⟩
  clear hown hf al
  by_cases h0 : rm = 0
  case neg =>
    have HN : r = rm := hr.out.symm.trans ((if_pos (by rw [HRM.out]; exact h0)).trans HRM.out)
    have hb0 : (rm == 0) = false := beq_eq_false_iff_ne.2 h0
    have F8 := F
    go_wp2_with ((with_reducible apply wpList_st2); rfl; rfl; exact x3; exact tt2; rfl; rfl; intro w9 B9 F9)
    refine bodyPost_ret (results_cell2_tmp rfl rfl B9 Tryz.underlying36 tt2) rfl ?_
    exact ⟨none, 0, 0, none, 0, 0, by first | rfl | (rw [HN]; rfl), fun h => absurd (HN.symm.trans h) h0, F8.comp F9 fun k _ hk => ⟨hk, by omega⟩⟩
  subst h0
  obtain ⟨oS, oE⟩ := HOWN.out rfl
  have HQ := Lib.hid (show qs.length = da.toNat * dc.toNat by rw [← hqs.out, mmL_len, hda.out, hdc.out])
  have HQS := hqs
  obtain ⟨rf, hrf⟩ : ∃ r, fitsE shc [da, dc] = r := ⟨_, rfl⟩
  have HRF := Lib.hid hrf
  have PF := Lib.hid (rfits_t _ (.slice C shc.length f) (.slice P1 i1 j1) shc [da, dc] rf HRF (HC1.out.fr F) oS.sl)
  clear HOWN hrf
  have a0 := x2.c0
  have b0 := x8.c0
  go_wp2_with fail
  obtain ⟨b8, hb8⟩ : ∃ b, W3.heap.size = b := ⟨_, rfl⟩
  rw [hb8] at x8 oS oE l3 b0 ⊢
  clear hb8
  generalize W3.alloc (.cells #[.slice P1 i1 j1, .slice P2 i2 j2] 36) = W4 at PF x2 x3 x8 oS oE F a0 b0 ⊢
  with_reducible refine PF.out.mono ?_
  rintro e W5 ⟨rfl, hu⟩
  replace hu := hu.symm
  subst hu
  have l8 := x8.lt
  by_cases h0 : rf = 0
  case neg =>
    have HN : r = 13 := hr.out.symm.trans ((if_neg (by rw [HRM.out]; simp)).trans (if_pos (by rw [hda.out, hdc.out, HRF.out]; exact h0)))
    have hb0 : (rf == 0) = false := beq_eq_false_iff_ne.2 h0
    have hc0 : (rf != 0) = true := bne_iff_ne.2 h0
    have F8 := F
    go_wp2_with ((with_reducible apply wpList_st2); rfl; rfl; exact x3; exact tt2; rfl; rfl; intro w9 B9 F9)
    refine bodyPost_ret (results_cell2_tmp rfl rfl B9 Tryz.underlying36 tt2) rfl ?_
    exact ⟨none, 0, 0, none, 0, 0, by first | rfl | (rw [HN]; rfl), fun h => absurd (HN.symm.trans h) (by decide), F8.comp F9 fun k _ hk => ⟨hk, by omega⟩⟩
  subst h0
  have HN : r = 0 := hr.out.symm.trans ((if_neg (by rw [HRM.out]; simp)).trans (if_neg (by rw [hda.out, hdc.out, HRF.out]; simp)))
  clear hr
  subst HN
  have hfo := fits_ok HRF.out
  have hmS := hfo.2.1
  obtain ⟨hd2, hd1, hdN⟩ := mayS_ok hmS
  have hda1 := hd1 da (by simp)
  have hdc1 := hd1 dc (by simp)
  have hpr : pr [da, dc] = da * dc := by simp [pr]
  obtain ⟨N, hN⟩ : ∃ N, qs.length = N := ⟨_, rfl⟩
  have hprN : pr [da, dc] = (N : Int) := by
    rw [hpr, ← hN, HQ.out, Int.natCast_mul, Int.toNat_of_nonneg (by omega), Int.toNat_of_nonneg (by omega)]
  have hN1024 : N ≤ 1024 := by rw [hprN] at hdN; omega
  have hN0 : 0 < N := by have := Int.mul_pos (show 0 < da by omega) (show 0 < dc by omega); rw [← hpr, hprN] at this; omega
  have hbase := own_base oE (by omega)
  rw [hN] at hbase
  obtain ⟨hi2, g, rfl⟩ := hbase
  replace hi2 := hi2.symm
  subst hi2
  have hgn : some g ≠ (Value.slice P1 i1 j1).ownBlock := fun e => own_apart oE oS (by decide) g rfl e.symm
  have hS1 := oE.in_ g rfl
  have hgl := oE.lt g rfl
  have HFO := Lib.hid hfo
  have HMS := Lib.hid hmS
  have HPR := Lib.hid hprN
  have HD1 := Lib.hid hd1
  have HNN := Lib.hid hN
  have PI := Lib.hid (indexes_t _ (.slice P1 i1 j1) [da, dc] oS.sl HMS.out)
  rw [HPR.out, Int.toNat_natCast] at PI
  rw [hN]
  clear hfo hmS hprN hd1 hpr HQ a0 b0 hN
  have b0 := x8.c0
  go_wp2_with fail
  with_reducible refine PI.out.mono ?_
  rintro e W6 ⟨v9, rfl, ho9, hf⟩
  obtain ⟨T9, n9, c9, rfl⟩ := ho9.form
  have s6 := hf.size
  clear b0 PI
  replace x2 := x2.keep hf
  replace x3 := x3.keep hf
  replace x8 := x8.keep hf
  replace oS := oS.keep' hf
  replace oE := own_rwide (oE.keep' hf) (show M ≤ 4 * M by omega)
  replace F := fr_then F hf
  have h9 := ho9.bd.sl.mono (T := fun k => k ≠ g ∧ k < W6.heap.size) fun k hk => ⟨by omega, hk.2⟩
  have hn9 : n9 = N := by
    obtain ⟨_, _, e, _⟩ := h9.slice
    rw [List.length_map, List.length_range] at e
    cases e
    rfl
  replace hn9 := hn9.symm
  subst hn9
  have H9 := Lib.hid h9
  have X2 := Lib.hid x2
  have X3 := Lib.hid x3
  have X8 := Lib.hid x8
  have OS := Lib.hid ((oS.offI hgn).bd)
  have F6 := Lib.hid F
  have l8' := x8.lt
  rw [← gemL_0 (qs := qs) (qc := qc) (shc := shc) (sh := [da, dc])] at oE
  clear hf ho9 h9 x2 x3 x8 oS F hgn
  go_wp2_with fail
  go_loopw [11] (fun i wr => ∃ (j : Nat), j ≤ N ∧ i = .int .i64 j ∧ Own (Rk (4 * M)) 58 (fun k => w.heap.size + 4 ≤ k ∧ k ≠ b8) wr (.slice (some ⟨g, 0, none⟩) N j2) (gemL qs qc shc [da, dc] j) ∧ Fr (fun k => k < W6.heap.size ∧ k ≠ g) W6 wr) (fun i _ => N - (intOf i).toNat)
  case atStart => exact ⟨0, Nat.zero_le _, rfl, oE, Fr.refl _ _⟩
  case round =>
    clear oE
    obtain ⟨j, hj, rfl, oE, G⟩ := hrel
    have sG := G.size
    by_cases hltj : j < N
    case neg =>
      obtain rfl : j = N := by omega
      have x3 := X3.out.fr G ⟨by omega, by omega⟩
      have x8 := X8.out.fr G ⟨by omega, by omega⟩
      have c0 := x8.c0
      have c1' := x8.c1
      have oS := OS.out.past G fun k hk => ⟨hk.2, hk.1.2⟩
      have F := F6.out.comp G (R := fun k => k < w.heap.size) fun k _ hk => ⟨hk, by omega, by omega⟩
      go_wp2_with ((with_reducible apply wpList_st2); rfl; rfl; exact x3; exact tt2; rfl; rfl; intro w9 B9 F9)
      refine bodyPost_ret (results_cell2_tmp rfl rfl B9 Tryz.underlying36 tt2) rfl ?_
      try rw [HNN.out]
      exact ⟨_, _, _, _, _, _, rfl, fun _ => ⟨(oS.past F9 fun k hk => by omega).mono fun k hk => by omega, (oE.past F9 fun k hk => by omega).mono fun k hk => by omega⟩, F.comp F9 fun k _ hk => ⟨hk, by omega⟩⟩
    have DD := fun R => (Fr.refl R wr).drew
    have oED := oE.fr (DD _)
    have x2 := (X2.out.fr G ⟨by omega, by omega⟩).fr (DD (fun _ => True)) trivial
    have x8 := (X8.out.fr G ⟨by omega, by omega⟩).fr (DD (fun _ => True)) trivial
    have FD := (F6.out.comp G (R := fun k => k < w.heap.size) fun k _ hk => ⟨hk, by omega, by omega⟩).drew
    have hlm : (gemL qs qc shc [da, dc] j).length = N := by rw [gemL_len, HNN.out]
    have hsl := oED.sl
    rw [show Value.slice (some ⟨g, 0, none⟩) N j2 = Value.slice (some ⟨g, 0, none⟩) (gemL qs qc shc [da, dc] j).length j2 by rw [hlm]] at hsl
    obtain ⟨ah, Q1, n1, e1, Q2, n2, e2, hA1, hSS1, g0, g1, g2, t1⟩ := Rk_get hsl (i := j) (by rw [hlm]; exact hltj)
    cases hA1
    obtain ⟨x1, hx1⟩ : ∃ x, qs.getD j 0 = x := ⟨_, rfl⟩
    have hge : (gemL qs qc shc [da, dc] j)[j]'(by rw [hlm]; exact hltj) = x1 := by
      rw [← hx1, ← gemL_at (qs := qs) (qc := qc) (shc := shc) (sh := [da, dc]) (j := j) (by rw [HNN.out]; exact hltj), List.getD_eq_getElem?_getD, List.getElem?_eq_getElem (by rw [hlm]; exact hltj)]
      rfl
    rw [hge] at g0 t1
    rw [addr_lit, Nat.zero_add] at g0 g1 g2
    have hbb : (dg DB x1.num.natAbs).length ≤ M ∧ (dg DB x1.den).length ≤ M := by
      rw [← hx1, ← HQS.out, mmL]
      by_cases h9 : j < (sha.getD 0 0).toNat * (shb.getD 1 0).toNat
      · rw [getD_map_range _ _ _ h9]
        exact hBnd.out (by first | rfl | trivial) j _ (Nat.le_refl _)
      · have := HNN.out
        rw [← HQS.out, mmL_len] at this
        omega
    have HT1 := Lib.hid (t1.sizes hbb.1 hbb.2)
    have HST := Lib.hid (gemL_step (qs := qs) (qc := qc) (shc := shc) (sh := [da, dc]) (j := j) (by rw [HNN.out]; exact hltj))
    rw [hx1] at HST
    obtain ⟨y1, hy1⟩ : ∃ y, sprQ shc qc [da, dc] j = y := ⟨_, rfl⟩
    rw [hy1] at HST
    obtain ⟨sx, hsx⟩ : ∃ s, s = sg x1 := ⟨_, rfl⟩
    rw [← hsx] at g0
    have HSX := Lib.hid hsx
    have h9 := (H9.out.fr (G.mono fun k _ hk => ⟨hk.2, hk.1⟩)).fr (DD _)
    rw [show Value.slice T9 N c9 = Value.slice T9 ((List.range N).map (seqI [da, dc])).length c9 by rw [List.length_map, List.length_range]] at h9
    obtain ⟨at9, P9, p9, d9, hA9, hS9, g9, t9⟩ := Ix_get h9 (i := j) (by rw [List.length_map, List.length_range]; exact hltj)
    rw [List.getElem_map, List.getElem_range] at t9
    subst hA9
    have hjp : (j : Int) < pr [da, dc] := by rw [HPR.out]; omega
    have hsn := seq_nn HD1.out hjp
    have hgg : (seqI [da, dc] j).length = (([da, dc] : List Int).length - shc.length) + shc.length := by rw [hsn.1]; have := HFO.out.2.2.1; omega
    have PSP := Lib.hid (rspread_t wr.drew (.slice C shc.length f) (.slice C' qc.length f') (.slice P9 p9 d9) shc (seqI [da, dc] j) qc K (([da, dc] : List Int).length - shc.length) _ (Lib.hid hgg) (Lib.hid rfl) (HC1.out.fr FD) (HC2.out.fr FD) t9 hmc (Lib.hid (spr_in ⟨HFO.out.2.2.1, HFO.out.2.2.2⟩ HD1.out hjp)) (by rw [hsn.1]; simp))
    change Hid (Calls _ _ _ _ (Ret _ (RQ (sprQ shc qc [da, dc] j) K))) at PSP
    rw [hy1] at PSP
    have l8 := x8.lt
    have gl := oED.lt g rfl
    have hWd : wr.drew.heap.size = wr.heap.size := rfl
    have KS : ∀ v, Fr (fun κ => κ < wr.drew.heap.size) wr.drew v → v.cell? ⟨b8, 1, none⟩ = some (.slice (some ⟨g, 0, none⟩) N j2) ∧ v.cell? ⟨g, j * 3, none⟩ = some (.bool sx) ∧ v.cell? ⟨g, j * 3 + 1, none⟩ = some (.slice Q1 n1 e1) ∧ v.cell? ⟨g, j * 3 + 2, none⟩ = some (.slice Q2 n2 e2) ∧ v.cell? ⟨w.heap.size + 2, 0, none⟩ = some (.slice C shc.length f) ∧ v.cell? ⟨w.heap.size + 2, 1, none⟩ = some (.slice C' qc.length f') ∧ v.cell? (at9.add j) = some (.slice P9 p9 d9) := fun v h =>
      ⟨(x8.keep h).c1, h.cell g0 gl, h.cell g1 gl, h.cell g2 gl, (x2.keep h).c0, (x2.keep h).c1, h.cell g9 (World.block_lt_of_cell? _ _ g9)⟩
    have S0 := KS _ (Fr.refl _ _)
    clear g0 g1 g2 g9 hsx t1 hsl hlm hbb hx1 hSS1 hge hy1 h9 t9 hsn hgg hjp
    go_wp2_with fail
    refine wpTill.begin (fun v => v.cell? ⟨b8, 1, none⟩ = some (.slice (some ⟨g, 0, none⟩) N j2) ∧ v.cell? ⟨g, j * 3, none⟩ = some (.bool sx) ∧ v.cell? ⟨g, j * 3 + 1, none⟩ = some (.slice Q1 n1 e1) ∧ v.cell? ⟨g, j * 3 + 2, none⟩ = some (.slice Q2 n2 e2) ∧ v.cell? ⟨w.heap.size + 2, 0, none⟩ = some (.slice C shc.length f) ∧ v.cell? ⟨w.heap.size + 2, 1, none⟩ = some (.slice C' qc.length f') ∧ v.cell? (at9.add j) = some (.slice P9 p9 d9)) 16 (by kernel_rfl) ?_
    change wpTill _ _ _ _ _ _ 17 _ _ _
    refine wpTill.take 0 (.pointer (some ⟨b8, 1, none⟩)) rfl (by kernel_rfl) (by kernel_rfl) (fun _ _ _ h => h) S0 (by rfl) (fun u hu => by go_simp) ?_
    try simp only [Act.put, List.setIfInBounds_toArray, List.set_cons_zero, List.set_cons_succ]
    refine wpTill.take 1 (.slice (some ⟨g, 0, none⟩) N j2) rfl (by kernel_rfl) (by kernel_rfl) (fun _ _ _ h => h) S0 (by rfl) (fun u hu => by go_simp) ?_
    try simp only [Act.put, List.setIfInBounds_toArray, List.set_cons_zero, List.set_cons_succ]
    refine wpTill.take 2 (.int .i64 (j : Int)) rfl (by kernel_rfl) (by kernel_rfl) (fun _ _ _ h => h) S0 (by rfl) (fun u hu => by go_simp) ?_
    try simp only [Act.put, List.setIfInBounds_toArray, List.set_cons_zero, List.set_cons_succ]
    refine wpTill.take 3 (.pointer (some ⟨b8, 1, none⟩)) rfl (by kernel_rfl) (by kernel_rfl) (fun _ _ _ h => h) S0 (by rfl) (fun u hu => by go_simp) ?_
    try simp only [Act.put, List.setIfInBounds_toArray, List.set_cons_zero, List.set_cons_succ]
    refine wpTill.take 4 (.slice (some ⟨g, 0, none⟩) N j2) rfl (by kernel_rfl) (by kernel_rfl) (fun _ _ _ h => h) S0 (by rfl) (fun u hu => by go_simp) ?_
    try simp only [Act.put, List.setIfInBounds_toArray, List.set_cons_zero, List.set_cons_succ]
    refine wpTill.take 5 (.int .i64 (j : Int)) rfl (by kernel_rfl) (by kernel_rfl) (fun _ _ _ h => h) S0 (by rfl) (fun u hu => by go_simp) ?_
    try simp only [Act.put, List.setIfInBounds_toArray, List.set_cons_zero, List.set_cons_succ]
    refine wpTill.take 6 (.pointer (some ⟨g, j * 3, none⟩)) rfl (by kernel_rfl) (by kernel_rfl) (fun _ _ _ h => h) S0 (by rfl) (fun u hu => by go_simp) ?_
    try simp only [Act.put, List.setIfInBounds_toArray, List.set_cons_zero, List.set_cons_succ]
    refine wpTill.take 7 (.agg #[.bool sx, .slice Q1 n1 e1, .slice Q2 n2 e2]) rfl (by kernel_rfl) (by kernel_rfl) (fun _ _ _ h => h) S0 (by rfl) (fun u hu => by go_simp) ?_
    try simp only [Act.put, List.setIfInBounds_toArray, List.set_cons_zero, List.set_cons_succ]
    refine wpTill.take 8 (.agg #[.slice C shc.length f, .slice C' qc.length f']) rfl (by kernel_rfl) (by kernel_rfl) (fun _ _ _ h => h) S0 (by rfl) (fun u hu => by go_simp) ?_
    try simp only [Act.put, List.setIfInBounds_toArray, List.set_cons_zero, List.set_cons_succ]
    refine wpTill.take 9 (.slice (some at9) N c9) rfl (by kernel_rfl) (by kernel_rfl) (fun _ _ _ h => h) S0 (by rfl) (fun u hu => by go_simp) ?_
    try simp only [Act.put, List.setIfInBounds_toArray, List.set_cons_zero, List.set_cons_succ]
    refine wpTill.take 10 (.int .i64 (j : Int)) rfl (by kernel_rfl) (by kernel_rfl) (fun _ _ _ h => h) S0 (by rfl) (fun u hu => by go_simp) ?_
    try simp only [Act.put, List.setIfInBounds_toArray, List.set_cons_zero, List.set_cons_succ]
    refine wpTill.take 11 (.pointer (some (at9.add j))) rfl (by kernel_rfl) (by kernel_rfl) (fun _ _ _ h => h) S0 (by rfl) (fun u hu => by go_simp) ?_
    try simp only [Act.put, List.setIfInBounds_toArray, List.set_cons_zero, List.set_cons_succ]
    refine wpTill.take 12 (.slice P9 p9 d9) rfl (by kernel_rfl) (by kernel_rfl) (fun _ _ _ h => h) S0 (by rfl) (fun u hu => by go_simp) ?_
    try simp only [Act.put, List.setIfInBounds_toArray, List.set_cons_zero, List.set_cons_succ]
    refine wpTill.next 13 rfl (by kernel_rfl) (by rfl) (fun KC hKC => ?_)
    go_simp
    with_reducible refine PSP.out.mono ?_
    rintro e u1 ⟨v, rfl, hf1, H8⟩
    obtain ⟨Q5, i5, j5, Q6, i6, j6, rfl, -⟩ := H8.now
    have h8 := Lib.hid H8.now.out
    refine hKC _ _ (fun _ => KS _ hf1) ?_
    clear hKC KC
    try simp only [Act.put, List.setIfInBounds_toArray, List.set_cons_zero, List.set_cons_succ]
    refine wpTill.next 14 rfl (by kernel_rfl) (by rfl) (fun KC hKC => ?_)
    go_simp
    with_reducible refine (radd_h _ sx _ (.slice Q1 n1 e1) (.slice Q2 n2 e2) (.slice Q5 i5 j5) (.slice Q6 i6 j6) x1 y1 M (Lib.hid (HT1.out.keep hf1)) (Lib.hid (h8.out.wide (by omega))) HSX (Lib.hid rfl) (by omega) (by omega)).mono ?_
    rintro e u2 ⟨s9, v5, v6, rfl, hs9, h9, hf2⟩
    obtain ⟨⟨Q7, i7, j7, rfl⟩, ⟨Q8, i8, j8, rfl⟩⟩ := h9.out.form
    have G2 : Fr (fun κ => κ < wr.drew.heap.size) wr.drew u2 := fr_then hf1 hf2
    have S1 := hf1.size
    have S0 := KS _ G2
    refine hKC _ _ (fun _ => S0) ?_
    clear hKC KC
    try simp only [Act.put, List.setIfInBounds_toArray, List.set_cons_zero, List.set_cons_succ]
    refine wpTill.take 15 (.pointer (some ⟨g, j * 3, none⟩)) rfl (by kernel_rfl) (by kernel_rfl) (fun _ _ _ h => h) S0 (by rfl) (fun u hu => by go_simp) ?_
    try simp only [Act.put, List.setIfInBounds_toArray, List.set_cons_zero, List.set_cons_succ]
    have oE2 := oED.keep' G2
    have f0 : u2.frozen? ⟨g, j * 3, none⟩ = false := Fz.free (a := ⟨g, j * 3, none⟩) (oE2.fz _ rfl)
    have f1 : u2.frozen? ⟨g, j * 3 + 1, none⟩ = false := Fz.free (a := ⟨g, j * 3 + 1, none⟩) (oE2.fz _ rfl)
    have f2 : u2.frozen? ⟨g, j * 3 + 2, none⟩ = false := Fz.free (a := ⟨g, j * 3 + 2, none⟩) (oE2.fz _ rfl)
    obtain ⟨-, c0, c1, c2, -⟩ := S0
    refine wpTill.next 16 rfl (by kernel_rfl) (by rfl) (fun KC hKC => ?_)
    go_simp
    refine hKC _ _ (no_wait (by kernel_rfl)) ?_
    clear hKC KC
    try simp only [Act.put, List.setIfInBounds_toArray, List.set_cons_zero, List.set_cons_succ]
    refine wpTill.done (by kernel_rfl) ?_
    have FG : Fr (fun k => k ≠ g) u2 (((u2.setCell ⟨g, j * 3, none⟩ (.bool s9)).setCell ⟨g, j * 3 + 1, none⟩ (.slice Q7 i7 j7)).setCell ⟨g, j * 3 + 2, none⟩ (.slice Q8 i8 j8)) := ((fr_set1 u2 g (j * 3) _).trans (fr_set1 _ g (j * 3 + 1) _)).trans (fr_set1 _ g (j * 3 + 2) _)
    have oN := oE2.setR (i := j) (by rw [gemL_len, HNN.out]; exact hltj) (x1 + y1) (h9.out.mono (T := fun k => (w.heap.size + 4 ≤ k ∧ k ≠ b8) ∧ k ≠ g) fun k hk => ⟨⟨by omega, by omega⟩, by omega⟩)
    rw [← hs9.out, ← HST.out] at oN
    have D2 := (DD (fun κ => κ < wr.heap.size)).comp G2 (R := fun κ => κ < wr.heap.size) fun κ _ hκ => ⟨hκ, hκ⟩
    have GG := (G.comp D2 (R := fun k => k < W6.heap.size ∧ k ≠ g) fun k _ hk => ⟨hk, by omega⟩).comp FG (R := fun k => k < W6.heap.size ∧ k ≠ g) fun k _ hk => ⟨hk, hk.2⟩
    clear f0 f1 f2 c0 c1 c2 KS
    go_wp2_with fail
    go_roundw
    case rel => exact ⟨j + 1, by omega, by go_num, oN, GG⟩
    case measure => first | (simp [intOf]; done) | (simp [intOf]; omega)
end Go.Proofs.YtlppcfeimpcbjaaGreat

import Derived.Test.YtjnojkfkhccgaaaGreatIdxB
import Derived.Test.YtjnojkfkhccgaaaGreatTenZ

/- TensorAt. -/
namespace Go.Proofs.YtjnojkfkhccgaaaGreat
open Go.RowKit

theorem at_g {S T U : Nat → Prop} (w : World) (vs ve vi : Value) (sh idx : List Int) (es : List RatL) (L : Nat) (r : Int) (q : Rat) (hr : Hid (r = atE sh es idx)) (hq : Hid (q = qOf (es.getD (ofs sh idx sh.length).toNat zR))) (hs : Sl Im S w vs sh) (he : Sl Rm T w ve es) (hi : Sl Im U w vi idx) (hL : Hid (∀ x ∈ es, x.2.1.length ≤ L ∧ x.2.2.length ≤ L)) (hL1 : 1 ≤ L) (hl : L ≤ 104857600) :
    Calls Tryz.prog 17 #[.agg #[vs, ve], vi] w fun e w' => ∃ s P i j Q m k, e = .returned (.tuple #[.agg #[.bool s, .slice P i j, .slice Q m k], .int .i64 r]) ∧ Hid (r ≠ 0 → Value.slice P i j = .slice none 0 0 ∧ Value.slice Q m k = .slice none 0 0) ∧ Hid (r = 0 → s = sg q ∧ SV w' (.slice P i j) (.slice Q m k) q L) ∧ Fr (fun k => k < w.heap.size) w w' := by
  rw [hr.out, hq.out]
  refine (at_t w vs ve vi sh idx es L hs he hi hL.out hL1 hl).mono ?_
  rintro e w' ⟨s, v1, v2, rfl, h1, h2, hf⟩
  have form : (∃ A n c, v1 = Value.slice A n c) ∧ ∃ A n c, v2 = Value.slice A n c := by
    by_cases h : atE sh es idx = 0
    · exact (h2 h).2.form
    · exact ⟨⟨_, _, _, (h1 h).1⟩, ⟨_, _, _, (h1 h).2⟩⟩
  obtain ⟨⟨P, i, j, rfl⟩, ⟨Q, m, k, rfl⟩⟩ := form
  exact ⟨_, _, _, _, _, _, _, rfl, Lib.hid h1, Lib.hid fun h => ⟨(h2 h).1, SV.of (h2 h).2⟩, hf⟩

set_option maxRecDepth 20000 in
set_option maxHeartbeats 16000000 in
theorem tat_walk {S : Nat → Prop} {sh idx : List Int} {es : List RatL} (w : World) (v vi : Value) (L : Nat) (h : TL S w v sh es L) (hi : Sl Im S w vi idx) (hil : idx.length ≤ L) (hL : L ≤ 1048576) :
    Calls Tryz.prog 4 #[v, vi] w fun e w' => e = .returned (.bool true) ∧ Fr (fun k => k < w.heap.size) w w' := by
  obtain ⟨vs, ve, rfl, hs, he⟩ := h.ex
  have ls := h.ls
  have le := h.le
  have HLA := Lib.hid (show ∀ x ∈ es, x.2.1.length ≤ L + 1 ∧ x.2.2.length ≤ L + 1 from fun x hx => by have := h.lx x hx; omega)
  have HLA2 := Lib.hid (show ∀ x ∈ es, x.2.1.length ≤ 1099511627000 ∧ x.2.2.length ≤ 1099511627000 from fun x hx => by have := h.lx x hx; omega)
  have hl1 : 1 ≤ L + 1 := by omega
  have hl2 : L + 1 ≤ 104857600 := by omega
  obtain ⟨A, c, rfl, _, _, _⟩ := hs.slice
  obtain ⟨A', c', rfl, _, _, hle⟩ := he.slice
  obtain ⟨B, d, rfl, _, _, _⟩ := hi.slice
  obtain ⟨r, hr⟩ : ∃ r, r = atE sh es idx := ⟨_, rfl⟩
  obtain ⟨q, hq⟩ : ∃ q, q = qOf (es.getD (ofs sh idx sh.length).toNat zR) := ⟨_, rfl⟩
  obtain ⟨ra, hra⟩ : ∃ r, mayT sh es = r := ⟨_, rfl⟩
  have HR := Lib.hid hr
  have HQ := Lib.hid hq
  have HRA := Lib.hid hra
  have HSA := Lib.hid (hs.low Im_pos)
  have HEA := Lib.hid (he.low Rm_pos)
  have HIA := Lib.hid (hi.low Im_pos)
  have HN := Lib.hid (show (([] : List Int).length + idx.length) * 8 ≤ 140737488355328 ∧ ([] : List Int).length + idx.length ≤ 9223372036854775807 by simp; omega)
  clear h hs he hi hr hq hra
  have F := (Fr.refl (fun k => k < w.heap.size) w).alloc (.cells #[.slice A sh.length c, .slice A' es.length c'] 26)
  have x0 := Box2.new w 26 (.slice A sh.length c) (.slice A' es.length c')
  go_enter Tryz.func4, Tryz.ntmps4
  go_wp2_with fail
  generalize hW0 : w.alloc (.cells #[.slice A sh.length c, .slice A' es.length c'] 26) = W0 at F x0 ⊢
  clear hW0
  with_reducible refine (town_t _ (.slice A sh.length c) (.slice A' es.length c') sh es (HSA.out.fr F) (HEA.out.fr F) (by omega) (by omega) HLA2.out).mono ?_
  rintro e W1 ⟨v1, v2, rfl, ho1, ho2, hf⟩
  obtain ⟨P1, i1, j1, rfl⟩ := ho1.form
  obtain ⟨P2, i2, j2, rfl⟩ := ho2.form
  replace x0 := x0.keep hf
  replace F := fr_then F hf
  have S1 := Lib.hid ho1.sl.any
  have S2 := Lib.hid ho2.sl.any
  clear hf ho1 ho2
  go_wp2_with (at_builtin; refine wpList_push (v := .slice none 0 0) imT2 rfl rfl rfl rfl (Own.nil Im 3 (fun k => W1.heap.size ≤ k) _) (HIA.out.fr F) (fun y cs h => Kd.int_any (S := fun k => k < w.heap.size) h) (fun k hk => hk) HN.out.1 HN.out.2 ?_; intro v3 W2 ho3 hf hat; obtain ⟨P3, i3, j3, rfl⟩ := ho3.form)
  have hf0 : Fr (fun k => k < W1.heap.size) W1 W2 := hf.mono fun k _ _ => by simp [Value.ownBlock]
  rw [List.nil_append] at ho3
  replace x0 := x0.keep hf0
  replace F := fr_then F hf0
  replace S1 := Lib.hid (S1.out.fr (hf.mono fun k _ _ => by simp [Value.ownBlock]))
  replace S2 := Lib.hid (S2.out.fr (hf.mono fun k _ _ => by simp [Value.ownBlock]))
  have S3 := Lib.hid ho3.sl.any
  clear hf hf0 hat ho3
  with_reducible refine (at_g _ (.slice P1 i1 j1) (.slice P2 i2 j2) (.slice P3 i3 j3) sh idx es (L + 1) r q HR HQ S1.out S2.out S3.out HLA hl1 hl2).mono ?_
  rintro e W3 ⟨s, P, i, j, Q, m, k, rfl, hno, hyes, hf⟩
  replace x0 := x0.keep hf
  replace F := fr_then F hf
  clear hf S1 S2 S3
  have al := fun R => (Fr.refl R W3).alloc (.cells #[.bool s, .slice P i j, .slice Q m k] 43)
  have y0 := Box3.new W3 43 (.bool s) (.slice P i j) (.slice Q m k)
  replace x0 := x0.keep (al _)
  replace F := fr_then F (al _)
  have HY := Lib.hid (show r = 0 → s = sg q ∧ SV (W3.alloc (.cells #[.bool s, .slice P i j, .slice Q m k] 43)) (.slice P i j) (.slice Q m k) q (L + 1) from fun h => ⟨(hyes.out h).1, (hyes.out h).2.keep (al _)⟩)
  clear hyes al
  have x0c0 := x0.c0
  have x0c1 := x0.c1
  go_wp2_with fail
  obtain ⟨b5, hb5⟩ : ∃ b, b = W3.heap.size := ⟨_, rfl⟩
  rw [← hb5] at y0 ⊢
  generalize W3.alloc (.cells #[.bool s, .slice P i j, .slice Q m k] 43) = W4 at x0 F y0 HY x0c0 x0c1 ⊢
  clear hb5
  with_reducible refine (rmay_h _ (.slice A sh.length c) (.slice A' es.length c') sh es (L + 1) ra HRA (HSA.out.fr F) (HEA.out.fr F) HLA.out hl1 hl2).mono ?_
  rintro e W5 ⟨rfl, hf⟩
  replace x0 := x0.keep hf
  replace y0 := y0.keep hf
  replace F := fr_then F hf
  replace HY := Lib.hid (show r = 0 → s = sg q ∧ SV W5 (.slice P i j) (.slice Q m k) q (L + 1) from fun h => ⟨(HY.out h).1, (HY.out h).2.keep hf⟩)
  clear hf x0c0 x0c1
  have x0c0 := x0.c0
  have x0c1 := x0.c1
  have y0c0 := y0.c0
  have y0c1 := y0.c1
  have y0c2 := y0.c2
  by_cases h0 : ra = 0
  case neg =>
    have HN2 : r = ra := HR.out.trans ((atE_no (by rw [HRA.out]; exact h0)).trans HRA.out)
    have hb0 : (ra == 0) = false := beq_eq_false_iff_ne.2 h0
    subst HN2
    obtain ⟨e1, e2⟩ := hno.out h0
    cases e1
    cases e2
    clear hno HY
    go_wp2_with fail
    with_reducible refine (tknown _).mono ?_
    rintro e V ⟨rfl, hf⟩
    go_wp2_with fail
    go_ret
    exact ⟨rfl, fr_then F hf⟩
  subst h0
  have HO : Hid (offE sh idx = r) := Lib.hid ((atE_off HRA.out).symm.trans HR.out.symm)
  have PO := Lib.hid (soffset_t W5 (.slice A sh.length c) (.slice B idx.length d) sh idx (HSA.out.fr F) (HIA.out.fr F))
  rw [HO.out] at PO
  by_cases h1 : r = 0
  case neg =>
    rw [if_neg h1] at PO
    have hb1 : (r == 0) = false := beq_eq_false_iff_ne.2 h1
    obtain ⟨e1, e2⟩ := hno.out h1
    cases e1
    cases e2
    clear hno HY
    go_wp2_with fail
    with_reducible refine PO.out.mono ?_
    rintro e W6 ⟨rfl, hf⟩
    replace y0 := y0.keep hf
    replace F := fr_then F hf
    clear hf x0c0 x0c1 y0c0 y0c1 y0c2
    have y0c0 := y0.c0
    have y0c1 := y0.c1
    have y0c2 := y0.c2
    go_wp2_with fail
    with_reducible refine (tknown _).mono ?_
    rintro e V ⟨rfl, hf⟩
    go_wp2_with fail
    go_ret
    exact ⟨rfl, fr_then F hf⟩
  subst h1
  rw [if_pos rfl] at PO
  have hpl := place_lt HR.out.symm
  obtain ⟨n, hn⟩ : ∃ n : Nat, ofs sh idx sh.length = (n : Int) := ⟨(ofs sh idx sh.length).toNat, by omega⟩
  have hn2 : (ofs sh idx sh.length).toNat = n := by omega
  rw [hn] at PO hpl
  rw [Int.toNat_natCast] at hpl
  have hnlt := hpl.2
  have HQ2 : Hid (q = qOf es[n]) := Lib.hid (by rw [HQ.out, hn2, List.getD_eq_getElem?_getD, List.getElem?_eq_getElem hnlt]; rfl)
  have hsq := (HY.out rfl).1
  have HSV := Lib.hid (HY.out rfl).2
  have HSQ := Lib.hid hsq
  clear hpl hn hn2 hno HY hsq
  go_wp2_with fail
  with_reducible refine PO.out.mono ?_
  rintro e W6 ⟨rfl, hf⟩
  replace x0 := x0.keep hf
  replace y0 := y0.keep hf
  replace F := fr_then F hf
  replace HSV := Lib.hid (HSV.out.keep hf)
  clear hf x0c0 x0c1 y0c0 y0c1 y0c2 PO
  have D := fun R => (Fr.refl R W6).drew
  have z0 := x0.keep (D _)
  have z1 := y0.keep (D _)
  replace F := F.drew
  replace HSV := Lib.hid (HSV.out.keep (D _))
  obtain ⟨ad, G1, a1, d1, G2, a2, d2, rfl, hS, g0, g1, g2, r1, r2⟩ := Rm_get (HEA.out.fr F) hnlt
  have hlen := HLA.out _ (List.getElem_mem hnlt)
  generalize es[n] = y at g0 r1 r2 hlen HQ2
  obtain ⟨sy, hsy⟩ : ∃ s, s = y.1 := ⟨_, rfl⟩
  rw [← hsy] at g0
  have HSY := Lib.hid hsy
  have HLE := Lib.hid hlen
  have HR1 := Lib.hid (r1.low Lm_pos)
  have HR2 := Lib.hid (r2.low Lm_pos)
  have hadw : ad.block < W6.drew.heap.size := by have := F.size; omega
  clear hsy hlen r1 r2 D
  have KS : ∀ u, Fr (fun k => k < W6.drew.heap.size) W6.drew u → u.cell? ⟨w.heap.size, 0, none⟩ = some (.slice A sh.length c) ∧ u.cell? ⟨w.heap.size, 1, none⟩ = some (.slice (some ad) es.length c') ∧ u.cell? ⟨b5, 0, none⟩ = some (.bool s) ∧ u.cell? ⟨b5, 1, none⟩ = some (.slice P i j) ∧ u.cell? ⟨b5, 2, none⟩ = some (.slice Q m k) ∧ u.cell? (ad.add (n * 3)) = some (.bool sy) ∧ u.cell? ⟨(ad.add (n * 3)).block, (ad.add (n * 3)).off + 1, none⟩ = some (.slice G1 a1 d1) ∧ u.cell? ⟨(ad.add (n * 3)).block, (ad.add (n * 3)).off + 2, none⟩ = some (.slice G2 a2 d2) := fun u h => ⟨(z0.keep h).c0, (z0.keep h).c1, (z1.keep h).c0, (z1.keep h).c1, (z1.keep h).c2, h.cell g0 (by rw [addr_block]; exact hadw), h.cell g1 (show (ad.add (n * 3)).block < _ by rw [addr_block]; exact hadw), h.cell g2 (show (ad.add (n * 3)).block < _ by rw [addr_block]; exact hadw)⟩
  have K0 := Fr.refl (fun k => k < W6.drew.heap.size) W6.drew
  clear x0 y0 z0 z1 g0 g1 g2
  go_wp2_with fail
  go_region_held3 (fun u => u.cell? ⟨w.heap.size, 0, none⟩ = some (.slice A sh.length c) ∧ u.cell? ⟨w.heap.size, 1, none⟩ = some (.slice (some ad) es.length c') ∧ u.cell? ⟨b5, 0, none⟩ = some (.bool s) ∧ u.cell? ⟨b5, 1, none⟩ = some (.slice P i j) ∧ u.cell? ⟨b5, 2, none⟩ = some (.slice Q m k) ∧ u.cell? (ad.add (n * 3)) = some (.bool sy) ∧ u.cell? ⟨(ad.add (n * 3)).block, (ad.add (n * 3)).off + 1, none⟩ = some (.slice G1 a1 d1) ∧ u.cell? ⟨(ad.add (n * 3)).block, (ad.add (n * 3)).off + 2, none⟩ = some (.slice G2 a2 d2)) (with_reducible exact KS _ K0) (first
    | ((with_reducible refine (rof_h _ y sy (.slice G1 a1 d1) (.slice G2 a2 d2) (L + 1) (Lib.hid (HR1.out.keep' Lm_pos K0)) (Lib.hid (HR2.out.keep' Lm_pos K0)) HSY.out HLE hl1 hl2).mono ?_); rintro e wq ⟨s9, v9, v10, rfl, hs9, h9, hf⟩; obtain ⟨⟨B9, i9, j9, rfl⟩, ⟨B10, i10, j10, rfl⟩⟩ := h9.out.form; have K0 := fr_then K0 hf)
    | ((with_reducible refine (ris_dot _ s9 s (.slice B9 i9 j9) (.slice B10 i10 j10) (.slice P i j) (.slice Q m k) (qOf y) q (L + 1) (3 * (L + 1)) h9 hs9 (Lib.hid (HSV.out.keep K0)) HSQ HQ2 (by omega)).mono ?_); rintro e wq ⟨rfl, hf⟩; have K0 := fr_then K0 hf)
    | ((with_reducible refine (tknown _).mono ?_); rintro e wq ⟨rfl, hf⟩; have K0 := fr_then K0 hf))
  go_wp2_with fail
  go_ret
  exact ⟨rfl, fr_then F K0⟩
end Go.Proofs.YtjnojkfkhccgaaaGreat

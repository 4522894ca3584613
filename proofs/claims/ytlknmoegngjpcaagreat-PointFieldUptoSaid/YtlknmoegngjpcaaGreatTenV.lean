import Derived.Test.YtlknmoegngjpcaaGreatTenU
set_option linter.unusedSimpArgs false
set_option linter.unusedVariables false

/- fluxionref07.Is, Empty. -/
namespace Go.Proofs.YtlknmoegngjpcaaGreat
open Go.RowKit

theorem is_can {S T U : Nat → Prop} (w : World) (s t : Bool) (vn vd un ud : Value) (q : Rat) (L K : Nat) (hs : Hid (s = sg q)) (ht : Hid (t = sg q)) (hq : Hid (RR S w vn vd q K)) (h1 : Hid (Sl Lm T w un (dg LB q.num.natAbs))) (h2 : Hid (Sl Lm U w ud (dg LB q.den))) (hl : Hid ((dg LB q.num.natAbs).length ≤ L ∧ (dg LB q.den).length ≤ L)) (hL : L ≤ 1099511620) :
    Calls Tryz.prog 87 #[.agg #[.bool s, vn, vd], .agg #[.bool t, un, ud]] w fun e w' => e = .returned (.bool true) ∧ Fr (fun k => k < w.heap.size) w w' := by
  have h := ris_full w s t vn vd un ud q _ _ L K hq.out hs.out h1.out h2.out hl.out.1 hl.out.2 hL
  rwa [decide_eq_true (show Like t (dg LB q.num.natAbs) (dg LB q.den) q from ⟨ht.out, rfl, rfl⟩)] at h
theorem sameshape_y {S T : Nat → Prop} (w : World) (va vb : Value) (a : List Int) (ha : Sl Im S w va a) (hb : Sl Im T w vb a) :
    Calls Tryz.prog 68 #[va, vb] w fun e w' => e = .returned (.bool true) ∧ Fr (fun _ => True) w w' := by
  have h := sameshape_calls w va vb a a ha hb
  rwa [decide_eq_true rfl] at h
set_option maxHeartbeats 1000000 in
theorem empty_t (w : World) : Calls Tryz.prog 52 #[.agg #[.slice none 0 0, .slice none 0 0]] w fun e w' => e = .returned (.bool true) ∧ Fr (fun k => k < w.heap.size) w w' := by
  have F := (Fr.refl (fun k => k < w.heap.size) w).alloc (.cells #[.slice none 0 0, .slice none 0 0] 26)
  go_enter Tryz.func52, Tryz.ntmps52
  go_wp2_with fail
  go_ret
  exact ⟨rfl, F⟩

set_option maxRecDepth 20000 in
set_option maxHeartbeats 8000000 in
theorem tis_t {S T U V : Nat → Prop} (w : World) (v1 v2 u1 u2 : Value) (sh : List Int) (qs : List Rat) (L K : Nat) (hs1 : Sl Im S w v1 sh) (hq : Sl (Rk K) T w v2 qs) (hs2 : Sl Im U w u1 sh) (he : Sl Rm V w u2 (qs.map canR)) (hl : ∀ q ∈ qs, (dg LB q.num.natAbs).length ≤ L ∧ (dg LB q.den).length ≤ L) (hL : L ≤ 1099511620) :
    Calls Tryz.prog 89 #[.agg #[v1, v2], .agg #[u1, u2]] w fun e w' => e = .returned (.bool true) ∧ Fr (fun k => k < w.heap.size) w w' := by
  obtain ⟨A, c, rfl, _, _, _⟩ := hs1.slice
  obtain ⟨A', c', rfl, _, _, hlq⟩ := hq.slice
  obtain ⟨B, d, rfl, _, _, _⟩ := hs2.slice
  obtain ⟨B', d', hu2, _, _, _⟩ := he.slice
  rw [List.length_map] at hu2
  subst hu2
  have F := fun R => ((Fr.refl R w).alloc (.cells #[.slice A sh.length c, .slice A' qs.length c'] 32)).alloc (.cells #[.slice B sh.length d, .slice B' qs.length d'] 26)
  have HS1 := Lib.hid (hs1.up Im_pos (Nat.le_refl _) (F _))
  have HQ := Lib.hid (hq.up (Rk_pos K) (Nat.le_refl _) (F _))
  have HS2 := Lib.hid (hs2.up Im_pos (Nat.le_refl _) (F _))
  have HE := Lib.hid (he.up Rm_pos (Nat.le_refl _) (F _))
  have b0 := (Box2.new w 32 (.slice A sh.length c) (.slice A' qs.length c')).alloc (.cells #[.slice B sh.length d, .slice B' qs.length d'] 26)
  have b1 := Box2.new (w.alloc (.cells #[.slice A sh.length c, .slice A' qs.length c'] 32)) 26 (.slice B sh.length d) (.slice B' qs.length d')
  simp only [World.size_alloc] at b1
  replace F := F (fun k => k < w.heap.size)
  have HL := Lib.hid hl
  have c00 := b0.c0; have c01 := b0.c1; have c10 := b1.c0; have c11 := b1.c1
  have PP := Lib.hid (sameshape_y _ (.slice A sh.length c) (.slice B sh.length d) sh HS1.out HS2.out)
  clear hs1 hq hs2 he hl
  go_enter Tryz.func89, Tryz.ntmps89
  go_wp2_with fail
  with_reducible refine PP.out.mono ?_
  rintro e w1 ⟨rfl, hf⟩
  replace HQ := Lib.hid (HQ.out.fr (hf.mono fun _ _ _ => trivial))
  replace HE := Lib.hid (HE.out.fr (hf.mono fun _ _ _ => trivial))
  replace b0 := b0.fr hf trivial
  replace b1 := b1.fr hf trivial
  replace F := F.comp hf (R := fun k => k < w.heap.size) fun k _ hk => ⟨hk, trivial⟩
  clear c00 c01 c10 c11 PP HS1 HS2 hf
  have c00 := b0.c0; have c01 := b0.c1; have c10 := b1.c0; have c11 := b1.c1
  go_wp2_with fail
  clear c00 c01 c10 c11
  go_loopw [5] (fun i wr => ∃ (j : Nat), i = .int .i64 j ∧ j ≤ qs.length ∧ Box2 wr w.heap.size 32 (.slice A sh.length c) (.slice A' qs.length c') ∧ Box2 wr (w.heap.size + 1) 26 (.slice B sh.length d) (.slice B' qs.length d') ∧ Hid (Sl (Rk K) (fun k => k < w.heap.size) wr (.slice A' qs.length c') qs) ∧ Hid (Sl Rm (fun k => k < w.heap.size) wr (.slice B' qs.length d') (qs.map canR)) ∧ Fr (fun k => k < w.heap.size) w wr) (fun i _ => qs.length - (intOf i).toNat)
  case atStart => exact ⟨0, rfl, by omega, b0, b1, HQ, HE, F⟩
  case round =>
    clear b0 b1 HQ HE F
    obtain ⟨j, rfl, hj, b0, b1, HQ, HE, F⟩ := hrel
    have c01 := b0.c1
    by_cases hlt : j < qs.length
    · have D := fun R => (Fr.refl R wr).drew
      have b0' := b0.fr (D (fun _ => True)) trivial
      have b1' := b1.fr (D (fun _ => True)) trivial
      have HQ' := Lib.hid (HQ.out.fr (D _))
      have HE' := Lib.hid (HE.out.fr (D _))
      have F' := F.drew
      obtain ⟨ad, P, n, d1, Q, m, o, rfl, hS, g0, g1, g2, r1⟩ := Rk_get HQ'.out hlt
      have hlt2 : j < (qs.map canR).length := by rw [List.length_map]; exact hlt
      obtain ⟨ad2, P2, n2, d2, Q2, m2, o2, rfl, hS2, z0, z1, z2, r2, r3⟩ := Rm_get (show Sl Rm _ _ (.slice B' (qs.map canR).length d') (qs.map canR) by rw [List.length_map]; exact HE'.out) hlt2
      rw [List.getElem_map] at z0 r2 r3
      have hlen := HL.out _ (List.getElem_mem hlt)
      generalize qs[j] = q at g0 r1 z0 r2 r3 hlen
      obtain ⟨s, hs⟩ : ∃ s, s = sg q := ⟨_, rfl⟩
      obtain ⟨t, ht⟩ : ∃ t, t = sg q := ⟨_, rfl⟩
      rw [← hs] at g0
      rw [show (canR q).1 = t from ht.symm] at z0
      have HS := Lib.hid hs
      have HT := Lib.hid ht
      have H1 := Lib.hid r1
      have H2 := Lib.hid (show Sl Lm _ _ _ (dg LB q.num.natAbs) from r2)
      have H3 := Lib.hid (show Sl Lm _ _ _ (dg LB q.den) from r3)
      have H4 := Lib.hid hlen
      have S0 : wr.drew.cell? ⟨w.heap.size, 1, none⟩ = some (.slice (some ad) qs.length c') ∧ wr.drew.cell? ⟨w.heap.size + 1, 1, none⟩ = some (.slice (some ad2) qs.length d') ∧ wr.drew.cell? (ad.add (j * 3)) = some (.bool s) ∧ wr.drew.cell? ⟨(ad.add (j * 3)).block, (ad.add (j * 3)).off + 1, none⟩ = some (.slice P n d1) ∧ wr.drew.cell? ⟨(ad.add (j * 3)).block, (ad.add (j * 3)).off + 2, none⟩ = some (.slice Q m o) ∧ wr.drew.cell? (ad2.add (j * 3)) = some (.bool t) ∧ wr.drew.cell? ⟨(ad2.add (j * 3)).block, (ad2.add (j * 3)).off + 1, none⟩ = some (.slice P2 n2 d2) ∧ wr.drew.cell? ⟨(ad2.add (j * 3)).block, (ad2.add (j * 3)).off + 2, none⟩ = some (.slice Q2 m2 o2) := ⟨b0'.c1, b1'.c1, g0, g1, g2, z0, z1, z2⟩
      clear hs ht r1 r2 r3 hlen b0 b1 HQ HE F
      go_wp2_with fail
      go_region_held3 (fun u => u.cell? ⟨w.heap.size, 1, none⟩ = some (.slice (some ad) qs.length c') ∧ u.cell? ⟨w.heap.size + 1, 1, none⟩ = some (.slice (some ad2) qs.length d') ∧ u.cell? (ad.add (j * 3)) = some (.bool s) ∧ u.cell? ⟨(ad.add (j * 3)).block, (ad.add (j * 3)).off + 1, none⟩ = some (.slice P n d1) ∧ u.cell? ⟨(ad.add (j * 3)).block, (ad.add (j * 3)).off + 2, none⟩ = some (.slice Q m o) ∧ u.cell? (ad2.add (j * 3)) = some (.bool t) ∧ u.cell? ⟨(ad2.add (j * 3)).block, (ad2.add (j * 3)).off + 1, none⟩ = some (.slice P2 n2 d2) ∧ u.cell? ⟨(ad2.add (j * 3)).block, (ad2.add (j * 3)).off + 2, none⟩ = some (.slice Q2 m2 o2)) (first | exact S0 | exact S1) (first
        | ((with_reducible refine (is_can _ s t _ _ _ _ q L K HS HT H1 H2 H3 H4 hL).mono ?_); rintro e wq ⟨rfl, hf⟩; have S1 : wq.cell? ⟨w.heap.size, 1, none⟩ = some (.slice (some ad) qs.length c') ∧ wq.cell? ⟨w.heap.size + 1, 1, none⟩ = some (.slice (some ad2) qs.length d') ∧ wq.cell? (ad.add (j * 3)) = some (.bool s) ∧ wq.cell? ⟨(ad.add (j * 3)).block, (ad.add (j * 3)).off + 1, none⟩ = some (.slice P n d1) ∧ wq.cell? ⟨(ad.add (j * 3)).block, (ad.add (j * 3)).off + 2, none⟩ = some (.slice Q m o) ∧ wq.cell? (ad2.add (j * 3)) = some (.bool t) ∧ wq.cell? ⟨(ad2.add (j * 3)).block, (ad2.add (j * 3)).off + 1, none⟩ = some (.slice P2 n2 d2) ∧ wq.cell? ⟨(ad2.add (j * 3)).block, (ad2.add (j * 3)).off + 2, none⟩ = some (.slice Q2 m2 o2) := ⟨(b0'.keep hf).c1, (b1'.keep hf).c1, hf.cell g0 (by rw [addr_block]; exact Nat.lt_of_lt_of_le hS F'.size), hf.cell g1 (show (ad.add (j * 3)).block < _ by rw [addr_block]; exact Nat.lt_of_lt_of_le hS F'.size), hf.cell g2 (show (ad.add (j * 3)).block < _ by rw [addr_block]; exact Nat.lt_of_lt_of_le hS F'.size), hf.cell z0 (by rw [addr_block]; exact Nat.lt_of_lt_of_le hS2 F'.size), hf.cell z1 (show (ad2.add (j * 3)).block < _ by rw [addr_block]; exact Nat.lt_of_lt_of_le hS2 F'.size), hf.cell z2 (show (ad2.add (j * 3)).block < _ by rw [addr_block]; exact Nat.lt_of_lt_of_le hS2 F'.size)⟩))
      clear S0 S1
      go_wp2_with fail
      go_roundw
      case rel => exact ⟨j + 1, by go_num, by omega, b0'.keep hf, b1'.keep hf, Lib.hid (HQ'.out.keep' (Rk_pos K) hf), Lib.hid (HE'.out.keep' Rm_pos hf), fr_then F' hf⟩
      case measure => first | (simp [intOf]; done) | (simp [intOf]; omega)
    · obtain rfl : j = qs.length := by omega
      go_wp2_with fail
      go_ret
      exact ⟨rfl, F⟩
end Go.Proofs.YtlknmoegngjpcaaGreat

import Derived.Test.YtjnojkfkhccgaaaLinB
import Derived.Test.YtjnojkfkhccgaaaTenU

/- fluxionlaw07.mix: a tensor times a number, and another one. -/
namespace Go.Proofs.Ytjnojkfkhccgaaa
open Go.RowKit

set_option maxRecDepth 20000 in
set_option maxHeartbeats 16000000 in
theorem mix_t {S T U V X : Nat → Prop} (w : World) (vs va vt vb kv1 kv2 : Value) (sh shb : List Int) (ea eb : List RatL) (sk : Bool) (kq : Rat) (N D L : Nat) (hs : Sl Im S w vs sh) (ha : Sl Rm T w va ea) (ht : Sl Im U w vt shb) (hb : Sl Rm V w vb eb) (hk : Hid (RI X w sk kv1 kv2 kq N D L))
    (hlen : Hid (ea.length = eb.length)) (hLa : Hid (∀ x ∈ ea, x.2.1.length ≤ L ∧ x.2.2.length ≤ L)) (hLb : Hid (∀ x ∈ eb, x.2.1.length ≤ L ∧ x.2.2.length ≤ L)) (hL1 : 1 ≤ L) (hl : 6 * L ≤ 104857600) (hel : ea.length ≤ 1099511627000) :
    Calls Try.prog 11 #[.agg #[vs, va], .agg #[vt, vb], .agg #[.bool sk, kv1, kv2]] w fun e w' => ∃ v2, e = .returned (.agg #[vs, v2]) ∧ Own Rm 36 (fun k => w.heap.size ≤ k) w' v2 (mixE ea eb kq ea.length) ∧ Fr (fun k => k < w.heap.size) w w' := by
  obtain ⟨A, c, rfl, _, _, _⟩ := hs.slice
  obtain ⟨A', c', rfl, _, _, hlqa⟩ := ha.slice
  obtain ⟨B, d, rfl, _, _, _⟩ := ht.slice
  obtain ⟨B', d', rfl, _, _, hlqb⟩ := hb.slice
  obtain ⟨⟨KA, kn, kc, rfl⟩, ⟨KB, km, kd, rfl⟩⟩ := hk.out.form
  have F := fun R => ((((Fr.refl R w).alloc (.cells #[.slice A sh.length c, .slice A' ea.length c'] 26)).alloc (.cells #[.slice B shb.length d, .slice B' eb.length d'] 26)).alloc (.cells #[.bool sk, .slice KA kn kc, .slice KB km kd] 36)).alloc (.cells #[.slice none 0 0, .slice none 0 0] 26)
  have b0 := (((Box2.new w 26 (.slice A sh.length c) (.slice A' ea.length c')).alloc (.cells #[.slice B shb.length d, .slice B' eb.length d'] 26)).alloc (.cells #[.bool sk, .slice KA kn kc, .slice KB km kd] 36)).alloc (.cells #[.slice none 0 0, .slice none 0 0] 26)
  have b1 := ((Box2.new (w.alloc (.cells #[.slice A sh.length c, .slice A' ea.length c'] 26)) 26 (.slice B shb.length d) (.slice B' eb.length d')).alloc (.cells #[.bool sk, .slice KA kn kc, .slice KB km kd] 36)).alloc (.cells #[.slice none 0 0, .slice none 0 0] 26)
  have b2 := (Box3.new ((w.alloc (.cells #[.slice A sh.length c, .slice A' ea.length c'] 26)).alloc (.cells #[.slice B shb.length d, .slice B' eb.length d'] 26)) 36 (.bool sk) (.slice KA kn kc) (.slice KB km kd)).alloc (.cells #[.slice none 0 0, .slice none 0 0] 26)
  have b3 := Box2.new (((w.alloc (.cells #[.slice A sh.length c, .slice A' ea.length c'] 26)).alloc (.cells #[.slice B shb.length d, .slice B' eb.length d'] 26)).alloc (.cells #[.bool sk, .slice KA kn kc, .slice KB km kd] 36)) 26 (.slice none 0 0) (.slice none 0 0)
  simp only [World.size_alloc] at b1 b2 b3
  have HA := Lib.hid (ha.low Rm_pos)
  have HB := Lib.hid (hb.low Rm_pos)
  have HK := Lib.hid hk.out.low
  replace F := F (fun k => k < w.heap.size)
  clear hs ha ht hb hk
  go_enter Try.func11, Try.ntmps11
  go_wp2_with fail
  have b4 := Box2.new ((((w.alloc (.cells #[.slice A sh.length c, .slice A' ea.length c'] 26)).alloc (.cells #[.slice B shb.length d, .slice B' eb.length d'] 26)).alloc (.cells #[.bool sk, .slice KA kn kc, .slice KB km kd] 36)).alloc (.cells #[.slice none 0 0, .slice none 0 0] 26)) 26 (.slice A sh.length c) (.slice none 0 0)
  simp only [World.size_alloc] at b4
  replace b0 := b0.alloc (.cells #[.slice A sh.length c, .slice none 0 0] 26)
  replace b1 := b1.alloc (.cells #[.slice A sh.length c, .slice none 0 0] 26)
  replace b2 := b2.alloc (.cells #[.slice A sh.length c, .slice none 0 0] 26)
  replace b3 := b3.alloc (.cells #[.slice A sh.length c, .slice none 0 0] 26)
  replace F := F.alloc (.cells #[.slice A sh.length c, .slice none 0 0] 26)
  go_loopw [8] (fun i wr => ∃ (j : Nat) (v2 : Value), i = .int .i64 j ∧ j ≤ ea.length ∧ Box2 wr w.heap.size 26 (.slice A sh.length c) (.slice A' ea.length c') ∧ Box2 wr (w.heap.size + 1) 26 (.slice B shb.length d) (.slice B' eb.length d') ∧ Box3 wr (w.heap.size + 2) 36 (.bool sk) (.slice KA kn kc) (.slice KB km kd) ∧ Box2 wr (w.heap.size + 3) 26 (.slice none 0 0) (.slice none 0 0) ∧ Box2 wr (w.heap.size + 4) 26 (.slice A sh.length c) v2 ∧ Own Rm 36 (fun k => w.heap.size + 5 ≤ k) wr v2 (mixE ea eb kq j) ∧ Fr (fun k => k < w.heap.size) w wr) (fun i _ => ea.length - (intOf i).toNat)
  case atStart => exact ⟨0, _, rfl, by omega, b0, b1, b2, b3, b4, Own.nil _ _ _ _, F⟩
  case round =>
    clear b0 b1 b2 b3 b4 F
    obtain ⟨j, v2, rfl, hj, b0, b1, b2, b3, b4, o2, F⟩ := hrel
    obtain ⟨A2, n2, c2, rfl⟩ := o2.form
    have c01 := b0.c1
    by_cases hlt : j < ea.length
    · have hltb : j < eb.length := by rw [← hlen.out]; exact hlt
      have D := fun R => (Fr.refl R wr).drew
      replace b0 := b0.fr (D (fun _ => True)) trivial
      replace b1 := b1.fr (D (fun _ => True)) trivial
      replace b2 := b2.fr (D (fun _ => True)) trivial
      replace b3 := b3.fr (D (fun _ => True)) trivial
      replace b4 := b4.fr (D (fun _ => True)) trivial
      replace o2 := o2.fr (D _)
      replace F := F.drew
      clear D
      obtain ⟨ad, P, n, d1, Q, m, o, rfl, hS, g0, g1, g2, r1, r2⟩ := Rm_get (HA.out.fr F) hlt
      obtain ⟨ad2, P2, n2', d2, Q2, m2, o2', rfl, hS2, z0, z1, z2, r3, r4⟩ := Rm_get (HB.out.fr F) hltb
      have hgx : ea.getD j zR = ea[j] := by rw [List.getD_eq_getElem?_getD, List.getElem?_eq_getElem hlt]; rfl
      have hgy : eb.getD j zR = eb[j] := by rw [List.getD_eq_getElem?_getD, List.getElem?_eq_getElem hltb]; rfl
      have hst := mixE_step ea eb kq j
      rw [show mixQ ea eb kq j = qOf ea[j] + kq * qOf eb[j] by rw [mixQ, hgx, hgy]] at hst
      have lx := hLa.out _ (List.getElem_mem hlt)
      have ly := hLb.out _ (List.getElem_mem hltb)
      clear hgx hgy
      generalize ea[j] = x at g0 r1 r2 hst lx
      generalize eb[j] = y at z0 r3 r4 hst ly
      have HX := Lib.hid (show RI (fun k => k < w.heap.size) wr.drew x.1 (.slice P n d1) (.slice Q m o) (qOf x) _ _ (6 * L) from ⟨⟨x.2.1, r1, rfl, by omega⟩, ⟨x.2.2, r2, rfl, by omega⟩, rfl⟩)
      have HY := Lib.hid (show RI (fun k => k < w.heap.size) wr.drew y.1 (.slice P2 n2' d2) (.slice Q2 m2 o2') (qOf y) _ _ L from ⟨⟨y.2.1, r3, rfl, ly.1⟩, ⟨y.2.2, r4, rfl, ly.2⟩, rfl⟩)
      have HST := Lib.hid hst
      generalize x.1 = sx at g0 HX
      generalize y.1 = sy at z0 HY
      have HKD := Lib.hid (HK.out.fr F)
      have HLn := Lib.hid (show ((mixE ea eb kq j).length + 1) * 56 ≤ 140737488355328 ∧ (mixE ea eb kq j).length + 1 ≤ 9223372036854775807 by rw [mixE_len]; omega)
      have lt4 := b4.lt
      clear hst lx ly r1 r2 r3 r4
      have S0 : wr.drew.cell? ⟨w.heap.size + 4, 1, none⟩ = some (.slice A2 n2 c2) ∧ wr.drew.cell? ⟨w.heap.size, 1, none⟩ = some (.slice (some ad) ea.length c') ∧ wr.drew.cell? (ad.add (j * 3)) = some (.bool sx) ∧ wr.drew.cell? ⟨(ad.add (j * 3)).block, (ad.add (j * 3)).off + 1, none⟩ = some (.slice P n d1) ∧ wr.drew.cell? ⟨(ad.add (j * 3)).block, (ad.add (j * 3)).off + 2, none⟩ = some (.slice Q m o) ∧ wr.drew.cell? ⟨w.heap.size + 2, 0, none⟩ = some (.bool sk) ∧ wr.drew.cell? ⟨w.heap.size + 2, 1, none⟩ = some (.slice KA kn kc) ∧ wr.drew.cell? ⟨w.heap.size + 2, 2, none⟩ = some (.slice KB km kd) ∧ wr.drew.cell? ⟨w.heap.size + 1, 1, none⟩ = some (.slice (some ad2) eb.length d') ∧ wr.drew.cell? (ad2.add (j * 3)) = some (.bool sy) ∧ wr.drew.cell? ⟨(ad2.add (j * 3)).block, (ad2.add (j * 3)).off + 1, none⟩ = some (.slice P2 n2' d2) ∧ wr.drew.cell? ⟨(ad2.add (j * 3)).block, (ad2.add (j * 3)).off + 2, none⟩ = some (.slice Q2 m2 o2') := ⟨b4.c1, b0.c1, g0, g1, g2, b2.c0, b2.c1, b2.c2, b1.c1, z0, z1, z2⟩
      have KS : ∀ u, Fr (fun k => k < w.heap.size + 5) wr.drew u → u.cell? ⟨w.heap.size + 4, 1, none⟩ = some (.slice A2 n2 c2) ∧ u.cell? ⟨w.heap.size, 1, none⟩ = some (.slice (some ad) ea.length c') ∧ u.cell? (ad.add (j * 3)) = some (.bool sx) ∧ u.cell? ⟨(ad.add (j * 3)).block, (ad.add (j * 3)).off + 1, none⟩ = some (.slice P n d1) ∧ u.cell? ⟨(ad.add (j * 3)).block, (ad.add (j * 3)).off + 2, none⟩ = some (.slice Q m o) ∧ u.cell? ⟨w.heap.size + 2, 0, none⟩ = some (.bool sk) ∧ u.cell? ⟨w.heap.size + 2, 1, none⟩ = some (.slice KA kn kc) ∧ u.cell? ⟨w.heap.size + 2, 2, none⟩ = some (.slice KB km kd) ∧ u.cell? ⟨w.heap.size + 1, 1, none⟩ = some (.slice (some ad2) eb.length d') ∧ u.cell? (ad2.add (j * 3)) = some (.bool sy) ∧ u.cell? ⟨(ad2.add (j * 3)).block, (ad2.add (j * 3)).off + 1, none⟩ = some (.slice P2 n2' d2) ∧ u.cell? ⟨(ad2.add (j * 3)).block, (ad2.add (j * 3)).off + 2, none⟩ = some (.slice Q2 m2 o2') := fun u hu =>
        ⟨(b4.fr hu (by omega)).c1, (b0.fr hu (by omega)).c1, hu.cell g0 (by rw [addr_block]; omega), hu.cell g1 (show (ad.add (j * 3)).block < _ by rw [addr_block]; omega), hu.cell g2 (show (ad.add (j * 3)).block < _ by rw [addr_block]; omega), (b2.fr hu (by omega)).c0, (b2.fr hu (by omega)).c1, (b2.fr hu (by omega)).c2, (b1.fr hu (by omega)).c1, hu.cell z0 (by rw [addr_block]; omega), hu.cell z1 (show (ad2.add (j * 3)).block < _ by rw [addr_block]; omega), hu.cell z2 (show (ad2.add (j * 3)).block < _ by rw [addr_block]; omega)⟩
      go_wp2_with fail
      refine wpTill.begin (fun u => u.cell? ⟨w.heap.size + 4, 1, none⟩ = some (.slice A2 n2 c2) ∧ u.cell? ⟨w.heap.size, 1, none⟩ = some (.slice (some ad) ea.length c') ∧ u.cell? (ad.add (j * 3)) = some (.bool sx) ∧ u.cell? ⟨(ad.add (j * 3)).block, (ad.add (j * 3)).off + 1, none⟩ = some (.slice P n d1) ∧ u.cell? ⟨(ad.add (j * 3)).block, (ad.add (j * 3)).off + 2, none⟩ = some (.slice Q m o) ∧ u.cell? ⟨w.heap.size + 2, 0, none⟩ = some (.bool sk) ∧ u.cell? ⟨w.heap.size + 2, 1, none⟩ = some (.slice KA kn kc) ∧ u.cell? ⟨w.heap.size + 2, 2, none⟩ = some (.slice KB km kd) ∧ u.cell? ⟨w.heap.size + 1, 1, none⟩ = some (.slice (some ad2) eb.length d') ∧ u.cell? (ad2.add (j * 3)) = some (.bool sy) ∧ u.cell? ⟨(ad2.add (j * 3)).block, (ad2.add (j * 3)).off + 1, none⟩ = some (.slice P2 n2' d2) ∧ u.cell? ⟨(ad2.add (j * 3)).block, (ad2.add (j * 3)).off + 2, none⟩ = some (.slice Q2 m2 o2')) 17 (by kernel_rfl) ?_
      change wpTill _ _ _ _ _ _ 19 _ _ _
      refine wpTill.take 0 (.pointer (some ⟨w.heap.size + 4, 1, none⟩)) rfl (by kernel_rfl) (by kernel_rfl) (fun _ _ _ h => h) S0 (by rfl) (fun u hu => by go_simp) ?_
      try simp only [Act.put, List.setIfInBounds_toArray, List.set_cons_zero, List.set_cons_succ]
      refine wpTill.take 1 (.slice A2 n2 c2) rfl (by kernel_rfl) (by kernel_rfl) (fun _ _ _ h => h) S0 (by rfl) (fun u hu => by go_simp) ?_
      try simp only [Act.put, List.setIfInBounds_toArray, List.set_cons_zero, List.set_cons_succ]
      refine wpTill.take 2 (.pointer (some ⟨w.heap.size, 1, none⟩)) rfl (by kernel_rfl) (by kernel_rfl) (fun _ _ _ h => h) S0 (by rfl) (fun u hu => by go_simp) ?_
      try simp only [Act.put, List.setIfInBounds_toArray, List.set_cons_zero, List.set_cons_succ]
      refine wpTill.take 3 (.slice (some ad) ea.length c') rfl (by kernel_rfl) (by kernel_rfl) (fun _ _ _ h => h) S0 (by rfl) (fun u hu => by go_simp) ?_
      try simp only [Act.put, List.setIfInBounds_toArray, List.set_cons_zero, List.set_cons_succ]
      refine wpTill.take 4 (.int .i64 j) rfl (by kernel_rfl) (by kernel_rfl) (fun _ _ _ h => h) S0 (by rfl) (fun u hu => by go_simp) ?_
      try simp only [Act.put, List.setIfInBounds_toArray, List.set_cons_zero, List.set_cons_succ]
      refine wpTill.take 5 (.pointer (some (ad.add (j * 3)))) rfl (by kernel_rfl) (by kernel_rfl) (fun _ _ _ h => h) S0 (by rfl) (fun u hu => by go_simp) ?_
      try simp only [Act.put, List.setIfInBounds_toArray, List.set_cons_zero, List.set_cons_succ]
      refine wpTill.take 6 (.agg #[.bool sx, .slice P n d1, .slice Q m o]) rfl (by kernel_rfl) (by kernel_rfl) (fun _ _ _ h => h) S0 (by rfl) (fun u hu => by go_simp) ?_
      try simp only [Act.put, List.setIfInBounds_toArray, List.set_cons_zero, List.set_cons_succ]
      refine wpTill.take 7 (.agg #[.bool sk, .slice KA kn kc, .slice KB km kd]) rfl (by kernel_rfl) (by kernel_rfl) (fun _ _ _ h => h) S0 (by rfl) (fun u hu => by go_simp) ?_
      try simp only [Act.put, List.setIfInBounds_toArray, List.set_cons_zero, List.set_cons_succ]
      refine wpTill.take 8 (.pointer (some ⟨w.heap.size + 1, 1, none⟩)) rfl (by kernel_rfl) (by kernel_rfl) (fun _ _ _ h => h) S0 (by rfl) (fun u hu => by go_simp) ?_
      try simp only [Act.put, List.setIfInBounds_toArray, List.set_cons_zero, List.set_cons_succ]
      refine wpTill.take 9 (.slice (some ad2) eb.length d') rfl (by kernel_rfl) (by kernel_rfl) (fun _ _ _ h => h) S0 (by rfl) (fun u hu => by go_simp) ?_
      try simp only [Act.put, List.setIfInBounds_toArray, List.set_cons_zero, List.set_cons_succ]
      refine wpTill.take 10 (.int .i64 j) rfl (by kernel_rfl) (by kernel_rfl) (fun _ _ _ h => h) S0 (by rfl) (fun u hu => by go_simp) ?_
      try simp only [Act.put, List.setIfInBounds_toArray, List.set_cons_zero, List.set_cons_succ]
      refine wpTill.take 11 (.pointer (some (ad2.add (j * 3)))) rfl (by kernel_rfl) (by kernel_rfl) (fun _ _ _ h => h) S0 (by rfl) (fun u hu => by go_simp) ?_
      try simp only [Act.put, List.setIfInBounds_toArray, List.set_cons_zero, List.set_cons_succ]
      refine wpTill.take 12 (.agg #[.bool sy, .slice P2 n2' d2, .slice Q2 m2 o2']) rfl (by kernel_rfl) (by kernel_rfl) (fun _ _ _ h => h) S0 (by rfl) (fun u hu => by go_simp) ?_
      try simp only [Act.put, List.setIfInBounds_toArray, List.set_cons_zero, List.set_cons_succ]
      refine wpTill.next 13 rfl (by kernel_rfl) (by rfl) (fun K hK => ?_)
      go_simp
      with_reducible refine (mul_h _ sk sy (.slice KA kn kc) (.slice KB km kd) (.slice P2 n2' d2) (.slice Q2 m2 o2') kq (qOf y) _ _ _ _ L HKD.out HY.out hL1 (by omega)).mono ?_
      rintro e u1 ⟨s8, v3, v4, rfl, hs8, h8, hf1⟩
      obtain ⟨⟨Q5, i5, j5, rfl⟩, ⟨Q6, i6, j6, rfl⟩⟩ := h8.out.form
      have G1 : Fr (fun k => k < w.heap.size + 5) wr.drew u1 := hf1.mono fun k _ hk => by have : wr.drew.heap.size = wr.heap.size := rfl; omega
      refine hK _ _ (fun _ => KS _ G1) ?_
      clear hK K
      try simp only [Act.put, List.setIfInBounds_toArray, List.set_cons_zero, List.set_cons_succ]
      refine wpTill.next 14 rfl (by kernel_rfl) (by rfl) (fun K hK => ?_)
      go_simp
      with_reducible refine (add_h _ sx s8 (.slice P n d1) (.slice Q m o) (.slice Q5 i5 j5) (.slice Q6 i6 j6) (qOf x) (kq * qOf y) _ _ _ _ (6 * L) (HX.out.keep hf1) (hs8.out ▸ h8.out.toRI (Nat.le_refl _)) (by omega) hl).mono ?_
      rintro e u2 ⟨s9, v5, v6, rfl, hs9, h9, hf2⟩
      obtain ⟨⟨Q7, i7, j7, rfl⟩, ⟨Q8, i8, j8, rfl⟩⟩ := h9.out.form
      have hf := fr_then hf1 hf2
      have G2 : Fr (fun k => k < w.heap.size + 5) wr.drew u2 := hf.mono fun k _ hk => by have : wr.drew.heap.size = wr.heap.size := rfl; omega
      refine hK _ _ (fun _ => KS _ G2) ?_
      clear hK K
      try simp only [Act.put, List.setIfInBounds_toArray, List.set_cons_zero, List.set_cons_succ]
      refine wpTill.next 15 rfl (by kernel_rfl) (by rfl) (fun K hK => ?_)
      go_simp
      refine hK _ _ (fun _ => KS _ (G2.alloc _)) ?_
      clear hK K
      try simp only [Act.put, List.setIfInBounds_toArray, List.set_cons_zero, List.set_cons_succ]
      have lt2 := o2.lt
      have s1 := hf1.size
      have s2 := hf2.size
      have hdw : wr.drew.heap.size = wr.heap.size := rfl
      replace b0 := b0.keep hf
      replace b1 := b1.keep hf
      replace b2 := b2.keep hf
      replace b3 := b3.keep hf
      replace b4 := b4.keep hf
      replace o2 := o2.keep' hf
      have F' := fr_then F hf
      clear S0 g0 g1 g2 z0 z1 z2 HX HY G1 hf1 hf2 h8 HKD
      have in2 := o2.in_
      refine wpTill.next 16 rfl (by kernel_rfl) (by rfl) (fun K hK => ?_)
      refine oper_push1 rmT (v := .slice A2 n2 c2) (y := canR (qOf x + kq * qOf y)) (T := fun k => wr.drew.heap.size ≤ k) rfl rfl rfl o2 ⟨_, _, by rw [hs9.out]; rfl, (h9.out.num.sl.mono fun k hk => by omega), (h9.out.den.sl.mono fun k hk => by omega)⟩ (fun k hk _ => ⟨by omega, fun e => by have := lt2 k e.symm; omega⟩) (fun k hk => by omega) HLn.out.1 HLn.out.2 ?_
      intro v7 u3 ho hfr hat
      obtain ⟨A3, n3, c3, rfl⟩ := ho.form
      have G3 : Fr (fun k => k < w.heap.size + 5) wr.drew u3 := G2.comp hfr fun k _ hk => ⟨hk, fun e => by have := in2 _ e.symm; omega⟩
      refine hK _ _ (fun _ => KS _ G3) ?_
      clear hK K
      try simp only [Act.put, List.setIfInBounds_toArray, List.set_cons_zero, List.set_cons_succ]
      replace b0 := b0.fr hfr (fun e => by have := in2 _ e.symm; omega)
      replace b1 := b1.fr hfr (fun e => by have := in2 _ e.symm; omega)
      replace b2 := b2.fr hfr (fun e => by have := in2 _ e.symm; omega)
      replace b3 := b3.fr hfr (fun e => by have := in2 _ e.symm; omega)
      replace b4 := b4.fr hfr (fun e => by have := in2 _ e.symm; omega)
      replace F := F'.comp hfr (R := fun k => k < w.heap.size) fun k _ hk => ⟨hk, fun e => by have := in2 _ e.symm; omega⟩
      replace o2 := ho
      clear ho hfr hat hf F' in2 KS G2 G3 h9
      have e0 := b4.c1
      have e1 := b4.free 1
      refine wpTill.next 17 rfl (by kernel_rfl) (by rfl) (fun K hK => ?_)
      go_simp
      refine hK _ _ (no_wait (by kernel_rfl)) ?_
      clear hK K
      try simp only [Act.put, List.setIfInBounds_toArray, List.set_cons_zero, List.set_cons_succ]
      refine wpTill.next 18 rfl (by kernel_rfl) (by rfl) (fun K hK => ?_)
      go_simp
      refine hK _ _ (no_wait (by kernel_rfl)) ?_
      clear hK K
      try simp only [Act.put, List.setIfInBounds_toArray, List.set_cons_zero, List.set_cons_succ]
      refine wpTill.done (by kernel_rfl) ?_
      clear e0 e1
      have F9 := fr_set1 u3 (w.heap.size + 4) 1 (.slice A3 n3 c3)
      have f0 := b0.fr F9 (by omega)
      have f1 := b1.fr F9 (by omega)
      have f2 := b2.fr F9 (by omega)
      have f3 := b3.fr F9 (by omega)
      have f4 := b4.set1 (.slice A3 n3 c3)
      have f5 := o2.past F9 (fun k hk => by omega)
      have f6 := F.comp F9 (R := fun k => k < w.heap.size) fun k _ hk => ⟨hk, by omega⟩
      go_wp2_with fail
      go_roundw
      case rel => exact ⟨j + 1, _, by go_num, by omega, f0, f1, f2, f3, f4, by rw [HST.out]; exact f5, f6⟩
      case measure => first | (simp [intOf]; done) | (simp [intOf]; omega)
    · obtain rfl : j = ea.length := by omega
      have d0 := b4.c0
      have d1 := b4.c1
      go_wp2_with ((with_reducible apply wpList_st2); rfl; rfl; exact b3; exact ten2; rfl; rfl; intro w9 B9 F9)
      refine bodyPost_ret (results_cell2 rfl rfl B9 Try.underlying26 ten2) rfl ?_
      exact ⟨_, rfl, (o2.past F9 fun k hk => by omega).mono fun k hk => by omega, F.comp F9 fun k _ hk => ⟨hk, by omega⟩⟩
end Go.Proofs.Ytjnojkfkhccgaaa

import Derived.Test.YtlknmoegngjpcaaGreatTenQT
set_option linter.unusedSimpArgs false
set_option linter.unusedVariables false

/- fluxionref07.Of: a tensor as the document has it. -/
namespace Go.Proofs.YtlknmoegngjpcaaGreat
open Go.RowKit

theorem imT2 : ElemT Tryz.prog Im 22 3 8 := ElemT.mk' (.int .i64 0) Tryz.underlying22 Im_pos (by kernel_rfl) rfl
theorem tt2 : (Tryz.prog.info? 32).map (·.size) = some 2 := by kernel_rfl
theorem rof_h {S : Nat → Prop} (w : World) (x : RatL) (s : Bool) (vn vd : Value) (L : Nat) (h1 : Hid (Sl Lm S w vn x.2.1)) (h2 : Hid (Sl Lm S w vd x.2.2)) (hs : s = x.1) (hl : Hid (x.2.1.length ≤ L ∧ x.2.2.length ≤ L)) (hL1 : 1 ≤ L) (hL : L ≤ 104857600) :
    Calls Tryz.prog 36 #[.agg #[.bool s, vn, vd]] w fun e w' => ∃ r v1 v2, e = .returned (.agg #[.bool r, v1, v2]) ∧ Hid (r = sg (qOf x)) ∧ Hid (RR (fun k => w.heap.size ≤ k) w' v1 v2 (qOf x) (3 * L)) ∧ Fr (fun k => k < w.heap.size) w w' := by
  subst hs
  refine (rof_r w x.1 vn vd (qOf x) _ _ L ⟨⟨_, h1.out, rfl, hl.out.1⟩, ⟨_, h2.out, rfl, hl.out.2⟩, rfl⟩ hL1 hL).mono ?_
  rintro e w' ⟨v1, v2, rfl, h, hf⟩
  exact ⟨_, v1, v2, rfl, Lib.hid rfl, Lib.hid h, hf⟩

set_option maxRecDepth 20000 in
set_option maxHeartbeats 8000000 in
theorem tof_t {S T : Nat → Prop} (w : World) (vs ve : Value) (sh : List Int) (es : List RatL) (L : Nat) (hs : Sl Im S w vs sh) (he : Sl Rm T w ve es) (hsl : sh.length ≤ 1099511627000) (hel : es.length ≤ 1099511627000) (hL : ∀ x ∈ es, x.2.1.length ≤ L ∧ x.2.2.length ≤ L) (hL1 : 1 ≤ L) (hl : L ≤ 104857600) :
    Calls Tryz.prog 14 #[.agg #[vs, ve]] w fun e w' => ∃ v1 v2, e = .returned (.agg #[v1, v2]) ∧ Own Im 3 (fun k => w.heap.size ≤ k) w' v1 sh ∧ Own (Rk (3 * L)) 56 (fun k => w.heap.size ≤ k) w' v2 (es.map qOf) ∧ Fr (fun k => k < w.heap.size) w w' := by
  obtain ⟨A, c, rfl, _, _, _⟩ := hs.slice
  obtain ⟨A', c', rfl, _, _, hly⟩ := he.slice
  have F := fun R => ((Fr.refl R w).alloc (.cells #[.slice A sh.length c, .slice A' es.length c'] 26)).alloc (.cells #[.slice none 0 0, .slice none 0 0] 32)
  have HS := Lib.hid (hs.up Im_pos (Nat.le_refl _) (F _))
  have HE := Lib.hid (he.up Rm_pos (Nat.le_refl _) (F _))
  have hb1 := (Box2.new w 26 (.slice A sh.length c) (.slice A' es.length c')).alloc (.cells #[.slice none 0 0, .slice none 0 0] 32)
  have hb2 := Box2.new (w.alloc (.cells #[.slice A sh.length c, .slice A' es.length c'] 26)) 32 (.slice none 0 0) (.slice none 0 0)
  simp only [World.size_alloc] at hb2
  replace F := F (fun k => k < w.heap.size)
  have HN := Lib.hid (show (([] : List Int).length + sh.length) * 8 ≤ 140737488355328 ∧ ([] : List Int).length + sh.length ≤ 9223372036854775807 by simp; omega)
  have HL := Lib.hid hL
  clear hs he hL
  go_enter Tryz.func14, Tryz.ntmps14
  go_wp2_with (at_builtin; refine wpList_push2 (v := .slice none 0 0) imT2 Tryz.underlying23 rfl rfl rfl rfl (Own.nil Im 3 (fun k => w.heap.size + 2 ≤ k) _) HS.out (fun y cs h => Kd.int_any (S := fun k => k < w.heap.size) h) (fun k hk => by simp only [World.size_alloc] at hk; omega) HN.out.1 HN.out.2 ?_; intro v1 w1 ho1 hf1 hat1; obtain ⟨A1, n1, c1, rfl⟩ := ho1.form)
  simp only [List.nil_append] at ho1
  have F1 := F.comp hf1 (R := fun k => k < w.heap.size) fun k _ hk => ⟨hk, by simp [Value.ownBlock]⟩
  have s1 := hf1.size
  simp only [World.size_alloc] at s1
  have lt1 := ho1.lt
  have k1 := hb1.fr hf1 (by simp [Value.ownBlock])
  have k2 := hb2.fr hf1 (by simp [Value.ownBlock])
  have HE1 := Lib.hid (HE.out.fr (hf1.mono fun k _ hk => by simp [Value.ownBlock]))
  clear hf1 hat1 hb1 hb2 F HS HE HN
  have al := fun R => (Fr.refl R w1).alloc (.cells #[.slice A1 n1 c1, .slice none 0 0] 32)
  have b3 := Box2.new w1 32 (.slice A1 n1 c1) (.slice none 0 0)
  have o1 := (ho1.bd.fr (al _)).mono (T := fun k => w.heap.size + 2 ≤ k ∧ k < w1.heap.size) fun k hk => hk
  have k1' := k1.alloc (.cells #[.slice A1 n1 c1, .slice none 0 0] 32)
  have k2' := k2.alloc (.cells #[.slice A1 n1 c1, .slice none 0 0] 32)
  have HE2 := Lib.hid (HE1.out.fr (al _))
  have F2 := F1.alloc (.cells #[.slice A1 n1 c1, .slice none 0 0] 32)
  clear ho1 k1 k2 HE1 F1 al lt1
  go_loopw [4] (fun i wr => ∃ (j : Nat) (v2 : Value), i = .int .i64 j ∧ j ≤ es.length ∧ Box2 wr w.heap.size 26 (.slice A sh.length c) (.slice A' es.length c') ∧ Box2 wr (w.heap.size + 1) 32 (.slice none 0 0) (.slice none 0 0) ∧ Box2 wr w1.heap.size 32 (.slice A1 n1 c1) v2 ∧ Own Im 3 (fun k => w.heap.size + 2 ≤ k ∧ k < w1.heap.size) wr (.slice A1 n1 c1) sh ∧ Own (Rk (3 * L)) 56 (fun k => w1.heap.size < k) wr v2 ((es.take j).map qOf) ∧ Hid (Sl Rm (fun k => k < w.heap.size) wr (.slice A' es.length c') es) ∧ Fr (fun k => k < w.heap.size) w wr) (fun i _ => es.length - (intOf i).toNat)
  case atStart => exact ⟨0, _, rfl, by omega, k1', k2', b3, o1, Own.nil _ _ _ _, HE2, F2⟩
  case round =>
    clear k1' k2' b3 o1 HE2 F2
    obtain ⟨j, v2, rfl, hj, k1, k2, b3, o1, o2, HE, F⟩ := hrel
    obtain ⟨A2, n2, c2, rfl⟩ := o2.form
    have c0 := k1.c0
    have c1' := k1.c1
    by_cases hlt : j < es.length
    · have D := fun R => (Fr.refl R wr).drew
      replace k1 := k1.fr (D (fun _ => True)) trivial
      replace k2 := k2.fr (D (fun _ => True)) trivial
      replace b3 := b3.fr (D (fun _ => True)) trivial
      replace o1 := o1.fr (D _)
      replace o2 := o2.fr (D _)
      replace HE := Lib.hid (HE.out.fr (D _))
      replace F := F.drew
      clear D
      obtain ⟨ad, P, n, d, Q, m, o, rfl, hS, g0, g1, g2, r1, r2⟩ := Rm_get HE.out hlt
      have hlen := HL.out _ (List.getElem_mem hlt)
      have htk := List.take_succ_eq_append_getElem hlt
      generalize es[j] = y at g0 r1 r2 hlen htk
      obtain ⟨sy, hsy⟩ : ∃ s, s = y.1 := ⟨_, rfl⟩
      rw [← hsy] at g0
      have HSY := Lib.hid hsy
      have HLE := Lib.hid hlen
      have HR1 := Lib.hid r1
      have HR2 := Lib.hid r2
      clear hsy hlen r1 r2
      have S0 : wr.drew.cell? ⟨w1.heap.size, 1, none⟩ = some (.slice A2 n2 c2) ∧ wr.drew.cell? ⟨w.heap.size, 1, none⟩ = some (.slice (some ad) es.length c') ∧ wr.drew.cell? (ad.add (j * 3)) = some (.bool sy) ∧ wr.drew.cell? ⟨(ad.add (j * 3)).block, (ad.add (j * 3)).off + 1, none⟩ = some (.slice P n d) ∧ wr.drew.cell? ⟨(ad.add (j * 3)).block, (ad.add (j * 3)).off + 2, none⟩ = some (.slice Q m o) := ⟨b3.c1, k1.c1, g0, g1, g2⟩
      have KS : ∀ u, Fr (fun k => k ≤ w.heap.size ∨ k = w1.heap.size) wr.drew u → u.cell? ⟨w1.heap.size, 1, none⟩ = some (.slice A2 n2 c2) ∧ u.cell? ⟨w.heap.size, 1, none⟩ = some (.slice (some ad) es.length c') ∧ u.cell? (ad.add (j * 3)) = some (.bool sy) ∧ u.cell? ⟨(ad.add (j * 3)).block, (ad.add (j * 3)).off + 1, none⟩ = some (.slice P n d) ∧ u.cell? ⟨(ad.add (j * 3)).block, (ad.add (j * 3)).off + 2, none⟩ = some (.slice Q m o) := fun u hu =>
        ⟨(b3.fr hu (.inr rfl)).c1, (k1.fr hu (.inl (Nat.le_refl _))).c1, hu.cell g0 (by rw [addr_block]; exact .inl (Nat.le_of_lt hS)), hu.cell g1 (show (ad.add (j * 3)).block ≤ w.heap.size ∨ _ by rw [addr_block]; exact .inl (Nat.le_of_lt hS)), hu.cell g2 (show (ad.add (j * 3)).block ≤ w.heap.size ∨ _ by rw [addr_block]; exact .inl (Nat.le_of_lt hS))⟩
      have HT := Lib.hid (map_take_step qOf htk)
      have HLn := Lib.hid (show (((es.take j).map qOf).length + 1) * 56 ≤ 140737488355328 ∧ ((es.take j).map qOf).length + 1 ≤ 9223372036854775807 by rw [List.length_map, List.length_take]; omega)
      have l1 := k1.lt
      have l2 := k2.lt
      have l3 := b3.lt
      clear htk
      go_wp2_with fail
      refine wpTill.begin (fun u => u.cell? ⟨w1.heap.size, 1, none⟩ = some (.slice A2 n2 c2) ∧ u.cell? ⟨w.heap.size, 1, none⟩ = some (.slice (some ad) es.length c') ∧ u.cell? (ad.add (j * 3)) = some (.bool sy) ∧ u.cell? ⟨(ad.add (j * 3)).block, (ad.add (j * 3)).off + 1, none⟩ = some (.slice P n d) ∧ u.cell? ⟨(ad.add (j * 3)).block, (ad.add (j * 3)).off + 2, none⟩ = some (.slice Q m o)) 10 (by kernel_rfl) ?_
      change wpTill _ _ _ _ _ _ 12 _ _ _
      refine wpTill.take 0 (.pointer (some ⟨w1.heap.size, 1, none⟩)) rfl (by kernel_rfl) (by kernel_rfl) (fun _ _ _ h => h) S0 (by rfl) (fun u hu => by go_simp) ?_
      try simp only [Act.put, List.setIfInBounds_toArray, List.set_cons_zero, List.set_cons_succ]
      refine wpTill.take 1 (.slice A2 n2 c2) rfl (by kernel_rfl) (by kernel_rfl) (fun _ _ _ h => h) S0 (by rfl) (fun u hu => by go_simp) ?_
      try simp only [Act.put, List.setIfInBounds_toArray, List.set_cons_zero, List.set_cons_succ]
      refine wpTill.take 2 (.pointer (some ⟨w.heap.size, 1, none⟩)) rfl (by kernel_rfl) (by kernel_rfl) (fun _ _ _ h => h) S0 (by rfl) (fun u hu => by go_simp) ?_
      try simp only [Act.put, List.setIfInBounds_toArray, List.set_cons_zero, List.set_cons_succ]
      refine wpTill.take 3 (.slice (some ad) es.length c') rfl (by kernel_rfl) (by kernel_rfl) (fun _ _ _ h => h) S0 (by rfl) (fun u hu => by go_simp) ?_
      try simp only [Act.put, List.setIfInBounds_toArray, List.set_cons_zero, List.set_cons_succ]
      refine wpTill.take 4 (.int .i64 j) rfl (by kernel_rfl) (by kernel_rfl) (fun _ _ _ h => h) S0 (by rfl) (fun u hu => by go_simp) ?_
      try simp only [Act.put, List.setIfInBounds_toArray, List.set_cons_zero, List.set_cons_succ]
      refine wpTill.take 5 (.pointer (some (ad.add (j * 3)))) rfl (by kernel_rfl) (by kernel_rfl) (fun _ _ _ h => h) S0 (by rfl) (fun u hu => by go_simp) ?_
      try simp only [Act.put, List.setIfInBounds_toArray, List.set_cons_zero, List.set_cons_succ]
      refine wpTill.take 6 (.agg #[.bool sy, .slice P n d, .slice Q m o]) rfl (by kernel_rfl) (by kernel_rfl) (fun _ _ _ h => h) S0 (by rfl) (fun u hu => by go_simp) ?_
      try simp only [Act.put, List.setIfInBounds_toArray, List.set_cons_zero, List.set_cons_succ]
      refine wpTill.next 7 rfl (by kernel_rfl) (by rfl) (fun K hK => ?_)
      go_simp
      refine (rof_h _ y sy (.slice P n d) (.slice Q m o) L HR1 HR2 HSY.out HLE hL1 hl).mono ?_
      rintro e u1 ⟨sz1, v3, v4, rfl, hsz1, hol, hf⟩
      obtain ⟨⟨P3, i3, j3, rfl⟩, ⟨P4, i4, j4, rfl⟩⟩ := hol.out.form
      have G1 : Fr (fun k => k ≤ w.heap.size ∨ k = w1.heap.size) wr.drew u1 := hf.mono fun k hk _ => hk
      refine hK _ _ (fun _ => KS _ G1) ?_
      clear hK K
      try simp only [Act.put, List.setIfInBounds_toArray, List.set_cons_zero, List.set_cons_succ]
      refine wpTill.next 8 rfl (by kernel_rfl) (by rfl) (fun K hK => ?_)
      go_simp
      refine hK _ _ (fun _ => KS _ (G1.alloc _)) ?_
      clear hK K
      try simp only [Act.put, List.setIfInBounds_toArray, List.set_cons_zero, List.set_cons_succ]
      have lt2 := o2.lt
      replace k1 := k1.keep hf
      replace k2 := k2.keep hf
      replace b3 := b3.keep hf
      replace o1 := o1.keep' hf
      replace o2 := o2.keep' hf
      replace HE := Lib.hid (HE.out.keep' Rm_pos hf)
      have F' := fr_then F hf
      have sz := hf.size
      clear S0 g0 g1 g2 HR1 HR2
      have in2 := o2.in_
      refine wpTill.next 9 rfl (by kernel_rfl) (by rfl) (fun K hK => ?_)
      refine oper_push1 (rkT (3 * L)) (v := .slice A2 n2 c2) (y := qOf y) (T := fun k => wr.drew.heap.size ≤ k) rfl rfl rfl o2 ⟨_, _, by rw [hsz1.out], hol.out⟩ (fun k hk _ => ⟨by omega, fun e => by have := lt2 k e.symm; omega⟩) (fun k hk => by omega) HLn.out.1 HLn.out.2 ?_
      intro v5 u2 ho hfr hat
      obtain ⟨A3, n3, c3, rfl⟩ := ho.form
      have G2 : Fr (fun k => k ≤ w.heap.size ∨ k = w1.heap.size) wr.drew u2 := G1.comp hfr fun k _ hk => ⟨hk, fun e => by have := in2 _ e.symm; omega⟩
      refine hK _ _ (fun _ => KS _ G2) ?_
      clear hK K
      try simp only [Act.put, List.setIfInBounds_toArray, List.set_cons_zero, List.set_cons_succ]
      replace k1 := k1.fr hfr (fun e => by have := in2 _ e.symm; omega)
      replace k2 := k2.fr hfr (fun e => by have := in2 _ e.symm; omega)
      replace b3 := b3.fr hfr (fun e => by have := in2 _ e.symm; omega)
      replace o1 := o1.past hfr (fun k hk e => by have := in2 _ e.symm; omega)
      replace HE := Lib.hid (HE.out.fr (hfr.mono fun k _ hk e => by have := in2 _ e.symm; omega))
      replace F := F'.comp hfr (R := fun k => k < w.heap.size) fun k _ hk => ⟨hk, fun e => by have := in2 _ e.symm; omega⟩
      replace o2 := ho
      clear ho hfr hat hf F' in2
      have e0 := b3.c1
      have e1 := b3.free 1
      refine wpTill.next 10 rfl (by kernel_rfl) (by rfl) (fun K hK => ?_)
      go_simp
      refine hK _ _ (no_wait (by kernel_rfl)) ?_
      clear hK K
      try simp only [Act.put, List.setIfInBounds_toArray, List.set_cons_zero, List.set_cons_succ]
      refine wpTill.next 11 rfl (by kernel_rfl) (by rfl) (fun K hK => ?_)
      go_simp
      refine hK _ _ (no_wait (by kernel_rfl)) ?_
      clear hK K
      try simp only [Act.put, List.setIfInBounds_toArray, List.set_cons_zero, List.set_cons_succ]
      refine wpTill.done (by kernel_rfl) ?_
      clear e0 e1
      have F9 := fr_set1 u2 w1.heap.size 1 (.slice A3 n3 c3)
      have f1 := k1.fr F9 (by omega)
      have f2 := k2.fr F9 (by omega)
      have f3 := b3.set1 (.slice A3 n3 c3)
      have f4 := o1.past F9 (fun k hk => by omega)
      have f5 := o2.past F9 (fun k hk => by omega)
      have f6 := HE.out.fr (F9.mono fun k _ hk => by omega)
      have f7 := F.comp F9 (R := fun k => k < w.heap.size) fun k _ hk => ⟨hk, by omega⟩
      go_wp2_with fail
      go_roundw
      case rel => exact ⟨j + 1, _, by go_num, by omega, f1, f2, f3, f4, by rw [HT.out]; exact f5, f6, f7⟩
      case measure => first | (simp [intOf]; done) | (simp [intOf]; omega)
    · obtain rfl : j = es.length := by omega
      rw [List.take_length] at o2
      have d0 := b3.c0
      have d1 := b3.c1
      go_wp2_with ((with_reducible apply wpList_st2); rfl; rfl; exact k2; exact tt2; rfl; rfl; intro w9 B9 F9)
      refine bodyPost_ret (results_cell2 rfl rfl B9 Tryz.underlying32 tt2) rfl ?_
      exact ⟨_, _, rfl, (o1.past F9 fun k hk => by omega).mono fun k hk => by omega, (o2.past F9 fun k hk => by omega).mono fun k hk => by omega, F.comp F9 fun k _ hk => ⟨hk, by omega⟩⟩
end Go.Proofs.YtlknmoegngjpcaaGreat

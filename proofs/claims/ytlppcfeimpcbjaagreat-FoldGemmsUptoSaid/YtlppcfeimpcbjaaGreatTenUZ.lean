/- Texts merged: TenU, TenV, TenW, TenX, TenY, TenZ. -/
import Derived.Test.YtlppcfeimpcbjaaGreatTenQT
set_option linter.unusedSimpArgs false
set_option linter.unusedVariables false

/- fluxionref07.Of: a tensor as the document has it. -/
namespace Go.Proofs.YtlppcfeimpcbjaaGreat
open Go.RowKit

theorem imT2 : ElemT Tryz.prog Im 22 3 8 := ElemT.mk' (.int .i64 0) Tryz.underlying22 Im_pos (by kernel_rfl) rfl
theorem tt2 : (Tryz.prog.info? 36).map (·.size) = some 2 := by kernel_rfl
theorem rof_h {S : Nat → Prop} (w : World) (x : RatL) (s : Bool) (vn vd : Value) (L : Nat) (h1 : Hid (Sl Lm S w vn x.2.1)) (h2 : Hid (Sl Lm S w vd x.2.2)) (hs : s = x.1) (hl : Hid (x.2.1.length ≤ L ∧ x.2.2.length ≤ L)) (hL1 : 1 ≤ L) (hL : L ≤ 104857600) :
    Calls Tryz.prog 32 #[.agg #[.bool s, vn, vd]] w fun e w' => ∃ r v1 v2, e = .returned (.agg #[.bool r, v1, v2]) ∧ Hid (r = sg (qOf x)) ∧ Hid (RR (fun k => w.heap.size ≤ k) w' v1 v2 (qOf x) (3 * L)) ∧ Fr (fun k => k < w.heap.size) w w' := by
  subst hs
  refine (rof_r w x.1 vn vd (qOf x) _ _ L ⟨⟨_, h1.out, rfl, hl.out.1⟩, ⟨_, h2.out, rfl, hl.out.2⟩, rfl⟩ hL1 hL).mono ?_
  rintro e w' ⟨v1, v2, rfl, h, hf⟩
  exact ⟨_, v1, v2, rfl, Lib.hid rfl, Lib.hid h, hf⟩

set_option maxRecDepth 20000 in
set_option maxHeartbeats 8000000 in
theorem tof_t {S T : Nat → Prop} (w : World) (vs ve : Value) (sh : List Int) (es : List RatL) (L : Nat) (hs : Sl Im S w vs sh) (he : Sl Rm T w ve es) (hsl : sh.length ≤ 1099511627000) (hel : es.length ≤ 1099511627000) (hL : ∀ x ∈ es, x.2.1.length ≤ L ∧ x.2.2.length ≤ L) (hL1 : 1 ≤ L) (hl : L ≤ 104857600) :
    Calls Tryz.prog 18 #[.agg #[vs, ve]] w fun e w' => ∃ v1 v2, e = .returned (.agg #[v1, v2]) ∧ Own Im 3 (fun k => w.heap.size ≤ k) w' v1 sh ∧ Own (Rk (3 * L)) 58 (fun k => w.heap.size ≤ k) w' v2 (es.map qOf) ∧ Fr (fun k => k < w.heap.size) w w' := by
  obtain ⟨A, c, rfl, _, _, _⟩ := hs.slice
  obtain ⟨A', c', rfl, _, _, hly⟩ := he.slice
  have F := fun R => ((Fr.refl R w).alloc (.cells #[.slice A sh.length c, .slice A' es.length c'] 26)).alloc (.cells #[.slice none 0 0, .slice none 0 0] 36)
  have HS := Lib.hid (hs.up Im_pos (Nat.le_refl _) (F _))
  have HE := Lib.hid (he.up Rm_pos (Nat.le_refl _) (F _))
  have hb1 := (Box2.new w 26 (.slice A sh.length c) (.slice A' es.length c')).alloc (.cells #[.slice none 0 0, .slice none 0 0] 36)
  have hb2 := Box2.new (w.alloc (.cells #[.slice A sh.length c, .slice A' es.length c'] 26)) 36 (.slice none 0 0) (.slice none 0 0)
  simp only [World.size_alloc] at hb2
  replace F := F (fun k => k < w.heap.size)
  have HN := Lib.hid (show (([] : List Int).length + sh.length) * 8 ≤ 140737488355328 ∧ ([] : List Int).length + sh.length ≤ 9223372036854775807 by simp; omega)
  have HL := Lib.hid hL
  clear hs he hL
  go_enter Tryz.func18, Tryz.ntmps18
  go_wp2_with (at_builtin; refine wpList_push2 (v := .slice none 0 0) imT2 Tryz.underlying23 rfl rfl rfl rfl (Own.nil Im 3 (fun k => w.heap.size + 2 ≤ k) _) HS.out (fun y cs h => Kd.int_any (S := fun k => k < w.heap.size) h) (fun k hk => by simp only [World.size_alloc] at hk; omega) HN.out.1 HN.out.2 ?_; intro v1 w1 ho1 hf1 hat1; obtain ⟨A1, n1, c1, rfl⟩ := ho1.form)
  simp only [List.nil_append] at ho1
  have F1 := F.comp hf1 (R := fun k => k < w.heap.size) fun k _ hk => ⟨hk, by simp [Value.ownBlock]⟩
  have s1 := hf1.size
  simp only [World.size_alloc] at s1
  have lt1 := ho1.lt
  have k1 := hb1.fr hf1 (by simp [Value.ownBlock])
  have k2 := hb2.fr hf1 (by simp [Value.ownBlock])
  have HE1 := Lib.hid (HE.out.fr (hf1.mono fun k _ hk => by simp [Value.ownBlock]))
  clear hf1 hat1 hb1 hb2 F HS HE HN
  have al := fun R => (Fr.refl R w1).alloc (.cells #[.slice A1 n1 c1, .slice none 0 0] 36)
  have b3 := Box2.new w1 36 (.slice A1 n1 c1) (.slice none 0 0)
  have o1 := (ho1.bd.fr (al _)).mono (T := fun k => w.heap.size + 2 ≤ k ∧ k < w1.heap.size) fun k hk => hk
  have k1' := k1.alloc (.cells #[.slice A1 n1 c1, .slice none 0 0] 36)
  have k2' := k2.alloc (.cells #[.slice A1 n1 c1, .slice none 0 0] 36)
  have HE2 := Lib.hid (HE1.out.fr (al _))
  have F2 := F1.alloc (.cells #[.slice A1 n1 c1, .slice none 0 0] 36)
  clear ho1 k1 k2 HE1 F1 al lt1
  go_loopw [4] (fun i wr => ∃ (j : Nat) (v2 : Value), i = .int .i64 j ∧ j ≤ es.length ∧ Box2 wr w.heap.size 26 (.slice A sh.length c) (.slice A' es.length c') ∧ Box2 wr (w.heap.size + 1) 36 (.slice none 0 0) (.slice none 0 0) ∧ Box2 wr w1.heap.size 36 (.slice A1 n1 c1) v2 ∧ Own Im 3 (fun k => w.heap.size + 2 ≤ k ∧ k < w1.heap.size) wr (.slice A1 n1 c1) sh ∧ Own (Rk (3 * L)) 58 (fun k => w1.heap.size < k) wr v2 ((es.take j).map qOf) ∧ Hid (Sl Rm (fun k => k < w.heap.size) wr (.slice A' es.length c') es) ∧ Fr (fun k => k < w.heap.size) w wr) (fun i _ => es.length - (intOf i).toNat)
  case atStart => exact ⟨0, _, rfl, by omega, k1', k2', b3, o1, Own.nil _ _ _ _, HE2, F2⟩
  case round =>
    clear k1' k2' b3 o1 HE2 F2
    obtain ⟨j, v2, rfl, hj, k1, k2, b3, o1, o2, HE, F⟩ := hrel
    obtain ⟨A2, n2, c2, rfl⟩ := o2.form
    have c0 := k1.c0
    have c1' := k1.c1
    by_cases hlt : j < es.length
    · have D := fun R => (Fr.refl R wr).drew
      replace k1 := k1.fr (D (fun _ => True)) trivial
      replace k2 := k2.fr (D (fun _ => True)) trivial
      replace b3 := b3.fr (D (fun _ => True)) trivial
      replace o1 := o1.fr (D _)
      replace o2 := o2.fr (D _)
      replace HE := Lib.hid (HE.out.fr (D _))
      replace F := F.drew
      clear D
      obtain ⟨ad, P, n, d, Q, m, o, rfl, hS, g0, g1, g2, r1, r2⟩ := Rm_get HE.out hlt
      have hlen := HL.out _ (List.getElem_mem hlt)
      have htk := List.take_succ_eq_append_getElem hlt
      generalize es[j] = y at g0 r1 r2 hlen htk
      obtain ⟨sy, hsy⟩ : ∃ s, s = y.1 := ⟨_, rfl⟩
      rw [← hsy] at g0
      have HSY := Lib.hid hsy
      have HLE := Lib.hid hlen
      have HR1 := Lib.hid r1
      have HR2 := Lib.hid r2
      clear hsy hlen r1 r2
      have S0 : wr.drew.cell? ⟨w1.heap.size, 1, none⟩ = some (.slice A2 n2 c2) ∧ wr.drew.cell? ⟨w.heap.size, 1, none⟩ = some (.slice (some ad) es.length c') ∧ wr.drew.cell? (ad.add (j * 3)) = some (.bool sy) ∧ wr.drew.cell? ⟨(ad.add (j * 3)).block, (ad.add (j * 3)).off + 1, none⟩ = some (.slice P n d) ∧ wr.drew.cell? ⟨(ad.add (j * 3)).block, (ad.add (j * 3)).off + 2, none⟩ = some (.slice Q m o) := ⟨b3.c1, k1.c1, g0, g1, g2⟩
      have KS : ∀ u, Fr (fun k => k ≤ w.heap.size ∨ k = w1.heap.size) wr.drew u → u.cell? ⟨w1.heap.size, 1, none⟩ = some (.slice A2 n2 c2) ∧ u.cell? ⟨w.heap.size, 1, none⟩ = some (.slice (some ad) es.length c') ∧ u.cell? (ad.add (j * 3)) = some (.bool sy) ∧ u.cell? ⟨(ad.add (j * 3)).block, (ad.add (j * 3)).off + 1, none⟩ = some (.slice P n d) ∧ u.cell? ⟨(ad.add (j * 3)).block, (ad.add (j * 3)).off + 2, none⟩ = some (.slice Q m o) := fun u hu =>
        ⟨(b3.fr hu (.inr rfl)).c1, (k1.fr hu (.inl (Nat.le_refl _))).c1, hu.cell g0 (by rw [addr_block]; exact .inl (Nat.le_of_lt hS)), hu.cell g1 (show (ad.add (j * 3)).block ≤ w.heap.size ∨ _ by rw [addr_block]; exact .inl (Nat.le_of_lt hS)), hu.cell g2 (show (ad.add (j * 3)).block ≤ w.heap.size ∨ _ by rw [addr_block]; exact .inl (Nat.le_of_lt hS))⟩
      have HT := Lib.hid (map_take_step qOf htk)
      have HLn := Lib.hid (show (((es.take j).map qOf).length + 1) * 56 ≤ 140737488355328 ∧ ((es.take j).map qOf).length + 1 ≤ 9223372036854775807 by rw [List.length_map, List.length_take]; omega)
      have l1 := k1.lt
      have l2 := k2.lt
      have l3 := b3.lt
      clear htk
      go_wp2_with fail
      refine wpTill.begin (fun u => u.cell? ⟨w1.heap.size, 1, none⟩ = some (.slice A2 n2 c2) ∧ u.cell? ⟨w.heap.size, 1, none⟩ = some (.slice (some ad) es.length c') ∧ u.cell? (ad.add (j * 3)) = some (.bool sy) ∧ u.cell? ⟨(ad.add (j * 3)).block, (ad.add (j * 3)).off + 1, none⟩ = some (.slice P n d) ∧ u.cell? ⟨(ad.add (j * 3)).block, (ad.add (j * 3)).off + 2, none⟩ = some (.slice Q m o)) 10 (by kernel_rfl) ?_
      change wpTill _ _ _ _ _ _ 12 _ _ _
      refine wpTill.take 0 (.pointer (some ⟨w1.heap.size, 1, none⟩)) rfl (by kernel_rfl) (by kernel_rfl) (fun _ _ _ h => h) S0 (by rfl) (fun u hu => by go_simp) ?_
      try simp only [Act.put, List.setIfInBounds_toArray, List.set_cons_zero, List.set_cons_succ]
      refine wpTill.take 1 (.slice A2 n2 c2) rfl (by kernel_rfl) (by kernel_rfl) (fun _ _ _ h => h) S0 (by rfl) (fun u hu => by go_simp) ?_
      try simp only [Act.put, List.setIfInBounds_toArray, List.set_cons_zero, List.set_cons_succ]
      refine wpTill.take 2 (.pointer (some ⟨w.heap.size, 1, none⟩)) rfl (by kernel_rfl) (by kernel_rfl) (fun _ _ _ h => h) S0 (by rfl) (fun u hu => by go_simp) ?_
      try simp only [Act.put, List.setIfInBounds_toArray, List.set_cons_zero, List.set_cons_succ]
      refine wpTill.take 3 (.slice (some ad) es.length c') rfl (by kernel_rfl) (by kernel_rfl) (fun _ _ _ h => h) S0 (by rfl) (fun u hu => by go_simp) ?_
      try simp only [Act.put, List.setIfInBounds_toArray, List.set_cons_zero, List.set_cons_succ]
      refine wpTill.take 4 (.int .i64 j) rfl (by kernel_rfl) (by kernel_rfl) (fun _ _ _ h => h) S0 (by rfl) (fun u hu => by go_simp) ?_
      try simp only [Act.put, List.setIfInBounds_toArray, List.set_cons_zero, List.set_cons_succ]
      refine wpTill.take 5 (.pointer (some (ad.add (j * 3)))) rfl (by kernel_rfl) (by kernel_rfl) (fun _ _ _ h => h) S0 (by rfl) (fun u hu => by go_simp) ?_
      try simp only [Act.put, List.setIfInBounds_toArray, List.set_cons_zero, List.set_cons_succ]
      refine wpTill.take 6 (.agg #[.bool sy, .slice P n d, .slice Q m o]) rfl (by kernel_rfl) (by kernel_rfl) (fun _ _ _ h => h) S0 (by rfl) (fun u hu => by go_simp) ?_
      try simp only [Act.put, List.setIfInBounds_toArray, List.set_cons_zero, List.set_cons_succ]
      refine wpTill.next 7 rfl (by kernel_rfl) (by rfl) (fun K hK => ?_)
      go_simp
      refine (rof_h _ y sy (.slice P n d) (.slice Q m o) L HR1 HR2 HSY.out HLE hL1 hl).mono ?_
      rintro e u1 ⟨sz1, v3, v4, rfl, hsz1, hol, hf⟩
      obtain ⟨⟨P3, i3, j3, rfl⟩, ⟨P4, i4, j4, rfl⟩⟩ := hol.out.form
      have G1 : Fr (fun k => k ≤ w.heap.size ∨ k = w1.heap.size) wr.drew u1 := hf.mono fun k hk _ => hk
      refine hK _ _ (fun _ => KS _ G1) ?_
      clear hK K
      try simp only [Act.put, List.setIfInBounds_toArray, List.set_cons_zero, List.set_cons_succ]
      refine wpTill.next 8 rfl (by kernel_rfl) (by rfl) (fun K hK => ?_)
      go_simp
      refine hK _ _ (fun _ => KS _ (G1.alloc _)) ?_
      clear hK K
      try simp only [Act.put, List.setIfInBounds_toArray, List.set_cons_zero, List.set_cons_succ]
      have lt2 := o2.lt
      replace k1 := k1.keep hf
      replace k2 := k2.keep hf
      replace b3 := b3.keep hf
      replace o1 := o1.keep' hf
      replace o2 := o2.keep' hf
      replace HE := Lib.hid (HE.out.keep' Rm_pos hf)
      have F' := fr_then F hf
      have sz := hf.size
      clear S0 g0 g1 g2 HR1 HR2
      have in2 := o2.in_
      refine wpTill.next 9 rfl (by kernel_rfl) (by rfl) (fun K hK => ?_)
      refine oper_push1 (rkT (3 * L)) (v := .slice A2 n2 c2) (y := qOf y) (T := fun k => wr.drew.heap.size ≤ k) rfl rfl rfl o2 ⟨_, _, by rw [hsz1.out], hol.out⟩ (fun k hk _ => ⟨by omega, fun e => by have := lt2 k e.symm; omega⟩) (fun k hk => by omega) HLn.out.1 HLn.out.2 ?_
      intro v5 u2 ho hfr hat
      obtain ⟨A3, n3, c3, rfl⟩ := ho.form
      have G2 : Fr (fun k => k ≤ w.heap.size ∨ k = w1.heap.size) wr.drew u2 := G1.comp hfr fun k _ hk => ⟨hk, fun e => by have := in2 _ e.symm; omega⟩
      refine hK _ _ (fun _ => KS _ G2) ?_
      clear hK K
      try simp only [Act.put, List.setIfInBounds_toArray, List.set_cons_zero, List.set_cons_succ]
      replace k1 := k1.fr hfr (fun e => by have := in2 _ e.symm; omega)
      replace k2 := k2.fr hfr (fun e => by have := in2 _ e.symm; omega)
      replace b3 := b3.fr hfr (fun e => by have := in2 _ e.symm; omega)
      replace o1 := o1.past hfr (fun k hk e => by have := in2 _ e.symm; omega)
      replace HE := Lib.hid (HE.out.fr (hfr.mono fun k _ hk e => by have := in2 _ e.symm; omega))
      replace F := F'.comp hfr (R := fun k => k < w.heap.size) fun k _ hk => ⟨hk, fun e => by have := in2 _ e.symm; omega⟩
      replace o2 := ho
      clear ho hfr hat hf F' in2
      have e0 := b3.c1
      have e1 := b3.free 1
      refine wpTill.next 10 rfl (by kernel_rfl) (by rfl) (fun K hK => ?_)
      go_simp
      refine hK _ _ (no_wait (by kernel_rfl)) ?_
      clear hK K
      try simp only [Act.put, List.setIfInBounds_toArray, List.set_cons_zero, List.set_cons_succ]
      refine wpTill.next 11 rfl (by kernel_rfl) (by rfl) (fun K hK => ?_)
      go_simp
      refine hK _ _ (no_wait (by kernel_rfl)) ?_
      clear hK K
      try simp only [Act.put, List.setIfInBounds_toArray, List.set_cons_zero, List.set_cons_succ]
      refine wpTill.done (by kernel_rfl) ?_
      clear e0 e1
      have F9 := fr_set1 u2 w1.heap.size 1 (.slice A3 n3 c3)
      have f1 := k1.fr F9 (by omega)
      have f2 := k2.fr F9 (by omega)
      have f3 := b3.set1 (.slice A3 n3 c3)
      have f4 := o1.past F9 (fun k hk => by omega)
      have f5 := o2.past F9 (fun k hk => by omega)
      have f6 := HE.out.fr (F9.mono fun k _ hk => by omega)
      have f7 := F.comp F9 (R := fun k => k < w.heap.size) fun k _ hk => ⟨hk, by omega⟩
      go_wp2_with fail
      go_roundw
      case rel => exact ⟨j + 1, _, by go_num, by omega, f1, f2, f3, f4, by rw [HT.out]; exact f5, f6, f7⟩
      case measure => first | (simp [intOf]; done) | (simp [intOf]; omega)
    · obtain rfl : j = es.length := by omega
      rw [List.take_length] at o2
      have d0 := b3.c0
      have d1 := b3.c1
      go_wp2_with ((with_reducible apply wpList_st2); rfl; rfl; exact k2; exact tt2; rfl; rfl; intro w9 B9 F9)
      refine bodyPost_ret (results_cell2 rfl rfl B9 Tryz.underlying36 tt2) rfl ?_
      exact ⟨_, _, rfl, (o1.past F9 fun k hk => by omega).mono fun k hk => by omega, (o2.past F9 fun k hk => by omega).mono fun k hk => by omega, F.comp F9 fun k _ hk => ⟨hk, by omega⟩⟩
end Go.Proofs.YtlppcfeimpcbjaaGreat


/- fluxionref07.Is, Empty. -/
namespace Go.Proofs.YtlppcfeimpcbjaaGreat
open Go.RowKit

theorem is_can {S T U : Nat → Prop} (w : World) (s t : Bool) (vn vd un ud : Value) (q : Rat) (L K : Nat) (hs : Hid (s = sg q)) (ht : Hid (t = sg q)) (hq : Hid (RR S w vn vd q K)) (h1 : Hid (Sl Lm T w un (dg LB q.num.natAbs))) (h2 : Hid (Sl Lm U w ud (dg LB q.den))) (hl : Hid ((dg LB q.num.natAbs).length ≤ L ∧ (dg LB q.den).length ≤ L)) (hL : L ≤ 1099511620) :
    Calls Tryz.prog 86 #[.agg #[.bool s, vn, vd], .agg #[.bool t, un, ud]] w fun e w' => e = .returned (.bool true) ∧ Fr (fun k => k < w.heap.size) w w' := by
  have h := ris_full w s t vn vd un ud q _ _ L K hq.out hs.out h1.out h2.out hl.out.1 hl.out.2 hL
  rwa [decide_eq_true (show Like t (dg LB q.num.natAbs) (dg LB q.den) q from ⟨ht.out, rfl, rfl⟩)] at h
theorem sameshape_y {S T : Nat → Prop} (w : World) (va vb : Value) (a : List Int) (ha : Sl Im S w va a) (hb : Sl Im T w vb a) :
    Calls Tryz.prog 85 #[va, vb] w fun e w' => e = .returned (.bool true) ∧ Fr (fun _ => True) w w' := by
  have h := sameshape_calls w va vb a a ha hb
  rwa [decide_eq_true rfl] at h
set_option maxHeartbeats 1000000 in
theorem empty_t (w : World) : Calls Tryz.prog 53 #[.agg #[.slice none 0 0, .slice none 0 0]] w fun e w' => e = .returned (.bool true) ∧ Fr (fun k => k < w.heap.size) w w' := by
  have F := (Fr.refl (fun k => k < w.heap.size) w).alloc (.cells #[.slice none 0 0, .slice none 0 0] 26)
  go_enter Tryz.func53, Tryz.ntmps53
  go_wp2_with fail
  go_ret
  exact ⟨rfl, F⟩

set_option maxRecDepth 20000 in
set_option maxHeartbeats 8000000 in
theorem tis_t {S T U V : Nat → Prop} (w : World) (v1 v2 u1 u2 : Value) (sh : List Int) (qs : List Rat) (L K : Nat) (hs1 : Sl Im S w v1 sh) (hq : Sl (Rk K) T w v2 qs) (hs2 : Sl Im U w u1 sh) (he : Sl Rm V w u2 (qs.map canR)) (hl : ∀ q ∈ qs, (dg LB q.num.natAbs).length ≤ L ∧ (dg LB q.den).length ≤ L) (hL : L ≤ 1099511620) :
    Calls Tryz.prog 35 #[.agg #[v1, v2], .agg #[u1, u2]] w fun e w' => e = .returned (.bool true) ∧ Fr (fun k => k < w.heap.size) w w' := by
  obtain ⟨A, c, rfl, _, _, _⟩ := hs1.slice
  obtain ⟨A', c', rfl, _, _, hlq⟩ := hq.slice
  obtain ⟨B, d, rfl, _, _, _⟩ := hs2.slice
  obtain ⟨B', d', hu2, _, _, _⟩ := he.slice
  rw [List.length_map] at hu2
  subst hu2
  have F := fun R => ((Fr.refl R w).alloc (.cells #[.slice A sh.length c, .slice A' qs.length c'] 36)).alloc (.cells #[.slice B sh.length d, .slice B' qs.length d'] 26)
  have HS1 := Lib.hid (hs1.up Im_pos (Nat.le_refl _) (F _))
  have HQ := Lib.hid (hq.up (Rk_pos K) (Nat.le_refl _) (F _))
  have HS2 := Lib.hid (hs2.up Im_pos (Nat.le_refl _) (F _))
  have HE := Lib.hid (he.up Rm_pos (Nat.le_refl _) (F _))
  have b0 := (Box2.new w 36 (.slice A sh.length c) (.slice A' qs.length c')).alloc (.cells #[.slice B sh.length d, .slice B' qs.length d'] 26)
  have b1 := Box2.new (w.alloc (.cells #[.slice A sh.length c, .slice A' qs.length c'] 36)) 26 (.slice B sh.length d) (.slice B' qs.length d')
  simp only [World.size_alloc] at b1
  replace F := F (fun k => k < w.heap.size)
  have HL := Lib.hid hl
  have c00 := b0.c0; have c01 := b0.c1; have c10 := b1.c0; have c11 := b1.c1
  have PP := Lib.hid (sameshape_y _ (.slice A sh.length c) (.slice B sh.length d) sh HS1.out HS2.out)
  clear hs1 hq hs2 he hl
  go_enter Tryz.func35, Tryz.ntmps35
  go_wp2_with fail
  with_reducible refine PP.out.mono ?_
  rintro e w1 ⟨rfl, hf⟩
  replace HQ := Lib.hid (HQ.out.fr (hf.mono fun _ _ _ => trivial))
  replace HE := Lib.hid (HE.out.fr (hf.mono fun _ _ _ => trivial))
  replace b0 := b0.fr hf trivial
  replace b1 := b1.fr hf trivial
  replace F := F.comp hf (R := fun k => k < w.heap.size) fun k _ hk => ⟨hk, trivial⟩
  clear c00 c01 c10 c11 PP HS1 HS2 hf
  have c00 := b0.c0; have c01 := b0.c1; have c10 := b1.c0; have c11 := b1.c1
  go_wp2_with fail
  clear c00 c01 c10 c11
  go_loopw [5] (fun i wr => ∃ (j : Nat), i = .int .i64 j ∧ j ≤ qs.length ∧ Box2 wr w.heap.size 36 (.slice A sh.length c) (.slice A' qs.length c') ∧ Box2 wr (w.heap.size + 1) 26 (.slice B sh.length d) (.slice B' qs.length d') ∧ Hid (Sl (Rk K) (fun k => k < w.heap.size) wr (.slice A' qs.length c') qs) ∧ Hid (Sl Rm (fun k => k < w.heap.size) wr (.slice B' qs.length d') (qs.map canR)) ∧ Fr (fun k => k < w.heap.size) w wr) (fun i _ => qs.length - (intOf i).toNat)
  case atStart => exact ⟨0, rfl, by omega, b0, b1, HQ, HE, F⟩
  case round =>
    clear b0 b1 HQ HE F
    obtain ⟨j, rfl, hj, b0, b1, HQ, HE, F⟩ := hrel
    have c01 := b0.c1
    by_cases hlt : j < qs.length
    · have D := fun R => (Fr.refl R wr).drew
      have b0' := b0.fr (D (fun _ => True)) trivial
      have b1' := b1.fr (D (fun _ => True)) trivial
      have HQ' := Lib.hid (HQ.out.fr (D _))
      have HE' := Lib.hid (HE.out.fr (D _))
      have F' := F.drew
      obtain ⟨ad, P, n, d1, Q, m, o, rfl, hS, g0, g1, g2, r1⟩ := Rk_get HQ'.out hlt
      have hlt2 : j < (qs.map canR).length := by rw [List.length_map]; exact hlt
      obtain ⟨ad2, P2, n2, d2, Q2, m2, o2, rfl, hS2, z0, z1, z2, r2, r3⟩ := Rm_get (show Sl Rm _ _ (.slice B' (qs.map canR).length d') (qs.map canR) by rw [List.length_map]; exact HE'.out) hlt2
      rw [List.getElem_map] at z0 r2 r3
      have hlen := HL.out _ (List.getElem_mem hlt)
      generalize qs[j] = q at g0 r1 z0 r2 r3 hlen
      obtain ⟨s, hs⟩ : ∃ s, s = sg q := ⟨_, rfl⟩
      obtain ⟨t, ht⟩ : ∃ t, t = sg q := ⟨_, rfl⟩
      rw [← hs] at g0
      rw [show (canR q).1 = t from ht.symm] at z0
      have HS := Lib.hid hs
      have HT := Lib.hid ht
      have H1 := Lib.hid r1
      have H2 := Lib.hid (show Sl Lm _ _ _ (dg LB q.num.natAbs) from r2)
      have H3 := Lib.hid (show Sl Lm _ _ _ (dg LB q.den) from r3)
      have H4 := Lib.hid hlen
      have S0 : wr.drew.cell? ⟨w.heap.size, 1, none⟩ = some (.slice (some ad) qs.length c') ∧ wr.drew.cell? ⟨w.heap.size + 1, 1, none⟩ = some (.slice (some ad2) qs.length d') ∧ wr.drew.cell? (ad.add (j * 3)) = some (.bool s) ∧ wr.drew.cell? ⟨(ad.add (j * 3)).block, (ad.add (j * 3)).off + 1, none⟩ = some (.slice P n d1) ∧ wr.drew.cell? ⟨(ad.add (j * 3)).block, (ad.add (j * 3)).off + 2, none⟩ = some (.slice Q m o) ∧ wr.drew.cell? (ad2.add (j * 3)) = some (.bool t) ∧ wr.drew.cell? ⟨(ad2.add (j * 3)).block, (ad2.add (j * 3)).off + 1, none⟩ = some (.slice P2 n2 d2) ∧ wr.drew.cell? ⟨(ad2.add (j * 3)).block, (ad2.add (j * 3)).off + 2, none⟩ = some (.slice Q2 m2 o2) := ⟨b0'.c1, b1'.c1, g0, g1, g2, z0, z1, z2⟩
      clear hs ht r1 r2 r3 hlen b0 b1 HQ HE F
      go_wp2_with fail
      go_region_held3 (fun u => u.cell? ⟨w.heap.size, 1, none⟩ = some (.slice (some ad) qs.length c') ∧ u.cell? ⟨w.heap.size + 1, 1, none⟩ = some (.slice (some ad2) qs.length d') ∧ u.cell? (ad.add (j * 3)) = some (.bool s) ∧ u.cell? ⟨(ad.add (j * 3)).block, (ad.add (j * 3)).off + 1, none⟩ = some (.slice P n d1) ∧ u.cell? ⟨(ad.add (j * 3)).block, (ad.add (j * 3)).off + 2, none⟩ = some (.slice Q m o) ∧ u.cell? (ad2.add (j * 3)) = some (.bool t) ∧ u.cell? ⟨(ad2.add (j * 3)).block, (ad2.add (j * 3)).off + 1, none⟩ = some (.slice P2 n2 d2) ∧ u.cell? ⟨(ad2.add (j * 3)).block, (ad2.add (j * 3)).off + 2, none⟩ = some (.slice Q2 m2 o2)) (first | exact S0 | exact S1) (first
        | ((with_reducible refine (is_can _ s t _ _ _ _ q L K HS HT H1 H2 H3 H4 hL).mono ?_); rintro e wq ⟨rfl, hf⟩; have S1 : wq.cell? ⟨w.heap.size, 1, none⟩ = some (.slice (some ad) qs.length c') ∧ wq.cell? ⟨w.heap.size + 1, 1, none⟩ = some (.slice (some ad2) qs.length d') ∧ wq.cell? (ad.add (j * 3)) = some (.bool s) ∧ wq.cell? ⟨(ad.add (j * 3)).block, (ad.add (j * 3)).off + 1, none⟩ = some (.slice P n d1) ∧ wq.cell? ⟨(ad.add (j * 3)).block, (ad.add (j * 3)).off + 2, none⟩ = some (.slice Q m o) ∧ wq.cell? (ad2.add (j * 3)) = some (.bool t) ∧ wq.cell? ⟨(ad2.add (j * 3)).block, (ad2.add (j * 3)).off + 1, none⟩ = some (.slice P2 n2 d2) ∧ wq.cell? ⟨(ad2.add (j * 3)).block, (ad2.add (j * 3)).off + 2, none⟩ = some (.slice Q2 m2 o2) := ⟨(b0'.keep hf).c1, (b1'.keep hf).c1, hf.cell g0 (by rw [addr_block]; exact Nat.lt_of_lt_of_le hS F'.size), hf.cell g1 (show (ad.add (j * 3)).block < _ by rw [addr_block]; exact Nat.lt_of_lt_of_le hS F'.size), hf.cell g2 (show (ad.add (j * 3)).block < _ by rw [addr_block]; exact Nat.lt_of_lt_of_le hS F'.size), hf.cell z0 (by rw [addr_block]; exact Nat.lt_of_lt_of_le hS2 F'.size), hf.cell z1 (show (ad2.add (j * 3)).block < _ by rw [addr_block]; exact Nat.lt_of_lt_of_le hS2 F'.size), hf.cell z2 (show (ad2.add (j * 3)).block < _ by rw [addr_block]; exact Nat.lt_of_lt_of_le hS2 F'.size)⟩))
      clear S0 S1
      go_wp2_with fail
      go_roundw
      case rel => exact ⟨j + 1, by go_num, by omega, b0'.keep hf, b1'.keep hf, Lib.hid (HQ'.out.keep' (Rk_pos K) hf), Lib.hid (HE'.out.keep' Rm_pos hf), fr_then F' hf⟩
      case measure => first | (simp [intOf]; done) | (simp [intOf]; omega)
    · obtain rfl : j = qs.length := by omega
      go_wp2_with fail
      go_ret
      exact ⟨rfl, F⟩
end Go.Proofs.YtlppcfeimpcbjaaGreat


/- TensorMakes. -/
namespace Go.Proofs.YtlppcfeimpcbjaaGreat
open Go.RowKit

theorem mayT_norm {sh : List Int} {es : List RatL} (h : fitsT sh es.length = 0) : mayT sh (es.map normR) = 0 := mayT_0 (by rw [List.length_map]; exact h) fun x hx => by
  obtain ⟨y, _, rfl⟩ := List.mem_map.1 hx
  exact like_can _
theorem norm_can (es : List RatL) : es.map normR = (es.map qOf).map canR := by rw [List.map_map]; rfl

theorem Rm_lt {S : Nat → Prop} {w : World} {v : Value} {es : List RatL} (h : Sl Rm S w v es) : ∀ x ∈ es, (∀ d ∈ x.2.1, d < LB) ∧ ∀ d ∈ x.2.2, d < LB := by
  intro x hx
  obtain ⟨A, c, rfl, _⟩ := h.slice
  obtain ⟨i, hi, rfl⟩ := List.mem_iff_getElem.1 hx
  obtain ⟨_, _, _, _, _, _, _, _, _, _, _, _, h1, h2⟩ := Rm_get h hi
  exact ⟨Kd.nat_all h1, Kd.nat_all h2⟩
theorem qOf_len {x : RatL} {L : Nat} (h : (∀ d ∈ x.2.1, d < LB) ∧ ∀ d ∈ x.2.2, d < LB) (l1 : x.2.1.length ≤ L) (l2 : x.2.2.length ≤ L) (hL : 1 ≤ L) : (dg LB (qOf x).num.natAbs).length ≤ L ∧ (dg LB (qOf x).den).length ≤ L := by
  have b1 : val x.2.1 < LB ^ L := Nat.lt_of_lt_of_le (ofB_lt h.1) (Nat.pow_le_pow_right LBpos l1)
  have b2 : val x.2.2 < LB ^ L := Nat.lt_of_lt_of_le (ofB_lt h.2) (Nat.pow_le_pow_right LBpos l2)
  unfold qOf
  rcases Nat.eq_zero_or_pos (val x.2.2) with h0 | hp
  · rw [h0, rv_den0]
    refine ⟨by rw [show (0 : Rat).num.natAbs = 0 from rfl, dg_zero]; exact Nat.zero_le _, Nat.le_trans (dg_len_le LB2 (k := 1) ?_) hL⟩
    rw [show (0 : Rat).den = 1 from rfl]
    decide
  · rw [rv_num hp, rv_den hp]
    exact ⟨dg_len_le LB2 (Nat.lt_of_le_of_lt (Nat.div_le_self _ _) b1), dg_len_le LB2 (Nat.lt_of_le_of_lt (Nat.div_le_self _ _) b2)⟩

end Go.Proofs.YtlppcfeimpcbjaaGreat


/- How long a sum of products may be: its denominator divides the product of all. -/
namespace Go.Proofs.YtlppcfeimpcbjaaGreat
open Go.RowKit

/-- A rational's numerator and denominator, as they lie there. -/
def dd (x : RatL) : Nat := if val x.2.2 = 0 then 1 else val x.2.2
def nn (x : RatL) : Int := if val x.2.2 = 0 then 0 else sgn x.1 (val x.2.1)
theorem dd_pos (x : RatL) : 0 < dd x := by unfold dd; split <;> omega
theorem q_mk (x : RatL) : qOf x = mkRat (nn x) (dd x) := by
  unfold qOf rv nn dd
  split
  · rename_i h; rw [h]; simp
  · rfl
theorem nn_le (x : RatL) : (nn x).natAbs ≤ val x.2.1 := by
  unfold nn
  split
  · simp
  · unfold sgn; split <;> simp
/-- The product of all denominators. -/
def dprod : List RatL → Nat
  | [] => 1
  | x :: l => dd x * dprod l
theorem dprod_pos (l : List RatL) : 0 < dprod l := by
  induction l with
  | nil => decide
  | cons x l ih => exact Nat.mul_pos (dd_pos x) ih
theorem dd_dvd {l : List RatL} {x : RatL} (h : x ∈ l) : dd x ∣ dprod l := by
  induction l with
  | nil => cases h
  | cons y l ih =>
    rcases List.mem_cons.1 h with rfl | h
    · exact Nat.dvd_mul_right _ _
    · exact Nat.dvd_trans (ih h) (Nat.dvd_mul_left _ _)
theorem dd_dvd' (l : List RatL) (i : Nat) : dd (l.getD i zR) ∣ dprod l := by
  by_cases h : i < l.length
  · exact dd_dvd (getD_mem h)
  · rw [List.getD_eq_getElem?_getD, List.getElem?_eq_none (Nat.le_of_not_lt h)]
    exact ⟨dprod l, by simp [dd, zR, val, ofB]⟩
def Ok (l : List RatL) : Prop := ∀ x ∈ l, (∀ d ∈ x.2.1, d < LB) ∧ ∀ d ∈ x.2.2, d < LB
theorem dprod_le {l : List RatL} (h : Ok l) : dprod l ≤ LB ^ limbsD l := by
  induction l with
  | nil => simp [dprod, limbsD]
  | cons x l ih =>
    have h1 := ih fun y hy => h y (List.mem_cons_of_mem _ hy)
    have h2 : dd x ≤ LB ^ x.2.2.length := by
      have := ofB_lt (h x List.mem_cons_self).2
      have hp := Nat.pow_pos (n := x.2.2.length) LBpos
      unfold dd
      split
      · omega
      · exact Nat.le_of_lt this
    have := Nat.mul_le_mul h2 h1
    rw [← Nat.pow_add] at this
    simpa [dprod, limbsD] using this
theorem num_le {l : List RatL} (h : Ok l) (i : Nat) : (nn (l.getD i zR)).natAbs ≤ LB ^ limbsN l := by
  by_cases hi : i < l.length
  · have hm := getD_mem hi
    refine Nat.le_trans (nn_le _) (Nat.le_trans (Nat.le_of_lt (ofB_lt (h _ hm).1)) (Nat.pow_le_pow_right LBpos ?_))
    have : ∀ (l : List RatL) (x : RatL), x ∈ l → x.2.1.length ≤ limbsN l := fun l x hx => by
      induction l with
      | nil => cases hx
      | cons y l ih =>
        simp only [limbsN, List.map_cons, List.sum_cons]
        rcases List.mem_cons.1 hx with rfl | hx
        · omega
        · have := ih hx
          simp only [limbsN] at this
          omega
    exact this l _ hm
  · rw [List.getD_eq_getElem?_getD, List.getElem?_eq_none (Nat.le_of_not_lt hi)]
    have : nn zR = 0 := by simp [nn, zR, val, ofB]
    simp only [Option.getD_none, this]
    exact Nat.zero_le _
theorem mk_add {z y : Int} {P : Nat} (hP : 0 < P) : mkRat z P + mkRat y P = mkRat (z + y) P := by
  have h : P ≠ 0 := by omega
  rw [Rat.mkRat_add_mkRat _ _ h h, ← Int.add_mul, Rat.mkRat_mul_right h]
theorem term_mk (ea eb : List RatL) (i : Nat) : ∃ z : Int, qOf (ea.getD i zR) * qOf (eb.getD i zR) = mkRat z (dprod ea * dprod eb) ∧ (Ok ea → Ok eb → z.natAbs ≤ LB ^ limbsN ea * LB ^ limbsN eb * (dprod ea * dprod eb)) := by
  obtain ⟨k1, h1⟩ := dd_dvd' ea i
  obtain ⟨k2, h2⟩ := dd_dvd' eb i
  have hp1 := dprod_pos ea
  have hp2 := dprod_pos eb
  have hk : k1 * k2 ≠ 0 := by
    intro h
    rcases Nat.mul_eq_zero.1 h with h | h
    · rw [h, Nat.mul_zero] at h1; omega
    · rw [h, Nat.mul_zero] at h2; omega
  refine ⟨nn (ea.getD i zR) * nn (eb.getD i zR) * ((k1 * k2 : Nat) : Int), ?_, fun oa ob => ?_⟩
  · rw [q_mk, q_mk, Rat.mkRat_mul_mkRat, show dprod ea * dprod eb = dd (ea.getD i zR) * dd (eb.getD i zR) * (k1 * k2) by rw [h1, h2]; simp [Nat.mul_assoc, Nat.mul_left_comm, Nat.mul_comm], Rat.mkRat_mul_right hk]
  · rw [Int.natAbs_mul, Int.natAbs_mul, Int.natAbs_natCast]
    refine Nat.mul_le_mul (Nat.mul_le_mul (num_le oa i) (num_le ob i)) ?_
    have a1 : k1 ≤ dprod ea := by rw [h1]; exact Nat.le_mul_of_pos_left _ (dd_pos _)
    have a2 : k2 ≤ dprod eb := by rw [h2]; exact Nat.le_mul_of_pos_left _ (dd_pos _)
    exact Nat.mul_le_mul a1 a2
theorem sum_mk (ea eb : List RatL) (oa : Ok ea) (ob : Ok eb) (pre : List (Fin ea.length)) : ∀ z0 : Int, ∃ z : Int, pre.foldl (fun s i => s + qOf (ea.getD i.val zR) * qOf (eb.getD i.val zR)) (mkRat z0 (dprod ea * dprod eb)) = mkRat z (dprod ea * dprod eb) ∧ z.natAbs ≤ z0.natAbs + pre.length * (LB ^ limbsN ea * LB ^ limbsN eb * (dprod ea * dprod eb)) := by
  induction pre with
  | nil => exact fun z0 => ⟨z0, rfl, by simp⟩
  | cons x pre ih =>
    intro z0
    obtain ⟨y, h1, h2⟩ := term_mk ea eb x.val
    obtain ⟨z, h3, h4⟩ := ih (z0 + y)
    refine ⟨z, ?_, ?_⟩
    · rw [List.foldl_cons, h1, mk_add (Nat.mul_pos (dprod_pos ea) (dprod_pos eb))]
      exact h3
    · have := h2 oa ob
      have h5 := Int.natAbs_add_le z0 y
      rw [List.length_cons, Nat.succ_mul]
      omega
theorem dot_len (ea eb : List RatL) (oa : Ok ea) (ob : Ok eb) (hn : ea.length ≤ 1048576) (K : Nat) (hK : limbsN ea + limbsN eb + limbsD ea + limbsD eb + 2 ≤ K) (pre : List (Fin ea.length)) (hp : pre.length ≤ ea.length) :
    (dg LB (dotQ ea eb pre).num.natAbs).length ≤ K ∧ (dg LB (dotQ ea eb pre).den).length ≤ K := by
  have hP := Nat.mul_pos (dprod_pos ea) (dprod_pos eb)
  obtain ⟨z, h1, h2⟩ := sum_mk ea eb oa ob pre 0
  have e : dotQ ea eb pre = mkRat z (dprod ea * dprod eb) := by
    rw [← h1, Rat.zero_mkRat]
    rfl
  have hPle : dprod ea * dprod eb ≤ LB ^ (limbsD ea + limbsD eb) := by rw [Nat.pow_add]; exact Nat.mul_le_mul (dprod_le oa) (dprod_le ob)
  have hden : (dotQ ea eb pre).den ≤ dprod ea * dprod eb := by
    rw [e, Rat.den_mkRat, if_neg (by omega)]
    exact Nat.div_le_self _ _
  have hnum : (dotQ ea eb pre).num.natAbs ≤ z.natAbs := by
    rw [e, Rat.num_mkRat, if_neg (by omega)]
    exact Int.natAbs_ediv_le_natAbs _ _
  have hzl : z.natAbs < LB ^ K := by
    have h3 : pre.length * (LB ^ limbsN ea * LB ^ limbsN eb * (dprod ea * dprod eb)) ≤ LB ^ 1 * (LB ^ (limbsN ea + limbsN eb) * LB ^ (limbsD ea + limbsD eb)) := by
      refine Nat.mul_le_mul (by unfold LB; omega) ?_
      rw [← Nat.pow_add (m := limbsN ea)]
      exact Nat.mul_le_mul (Nat.le_refl _) hPle
    rw [← Nat.pow_add, ← Nat.pow_add, ← Nat.pow_add] at h3
    rw [← Nat.pow_add (m := limbsN ea)] at h2
    have h4 : LB ^ (1 + (limbsN ea + limbsN eb + (limbsD ea + limbsD eb))) < LB ^ K := Nat.pow_lt_pow_right (by decide) (by omega)
    simp only [Int.natAbs_zero, Nat.zero_add] at h2
    omega
  have hdl : (dotQ ea eb pre).den < LB ^ K := by
    have h4 : LB ^ (limbsD ea + limbsD eb) < LB ^ K := Nat.pow_lt_pow_right (by decide) (by omega)
    omega
  exact ⟨dg_len_le LB2 (Nat.lt_of_le_of_lt hnum hzl), dg_len_le LB2 hdl⟩
end Go.Proofs.YtlppcfeimpcbjaaGreat


/- fluxionref07.Dot. -/
namespace Go.Proofs.YtlppcfeimpcbjaaGreat
open Go.RowKit

/-- The sum of the first products. -/
def sumQ (a b : List Rat) : Nat → Rat
  | 0 => 0
  | j + 1 => sumQ a b j + a.getD j 0 * b.getD j 0
theorem RR.bd {S : Nat → Prop} {w : World} {vn vd : Value} {q : Rat} {L : Nat} (h : RR S w vn vd q L) : RR (fun k => S k ∧ k < w.heap.size) w vn vd q L := ⟨⟨h.num.sl.bd Dg_pos, h.num.len⟩, ⟨h.den.sl.bd Dg_pos, h.den.len⟩⟩
theorem RR.past {S R : Nat → Prop} {w w' : World} {vn vd : Value} {q : Rat} {L : Nat} (h : RR S w vn vd q L) (hf : Fr R w w') (hs : ∀ k, S k → R k) : RR S w' vn vd q L := h.fr (hf.mono fun k _ hk => hs k hk)
theorem RR.sizes {S : Nat → Prop} {w : World} {vn vd : Value} {q : Rat} {L K : Nat} (h : RR S w vn vd q L) (hn : (dg DB q.num.natAbs).length ≤ K) (hd : (dg DB q.den).length ≤ K) : RR S w vn vd q K := ⟨⟨h.num.sl, hn⟩, ⟨h.den.sl, hd⟩⟩
theorem rmul_h {S T : Nat → Prop} (w : World) (s t : Bool) (vn vd un ud : Value) (x y : Rat) (L : Nat) (hx : Hid (RR S w vn vd x L)) (hy : Hid (RR T w un ud y L)) (hs : Hid (s = sg x)) (ht : Hid (t = sg y)) (hL1 : 1 ≤ L) (hl : L ≤ 104857600) :
    Calls Tryz.prog 58 #[.agg #[.bool s, vn, vd], .agg #[.bool t, un, ud]] w fun e w' => ∃ r v1 v2, e = .returned (.agg #[.bool r, v1, v2]) ∧ Hid (r = sg (x * y)) ∧ Hid (RR (fun k => w.heap.size ≤ k) w' v1 v2 (x * y) (2 * L)) ∧ Fr (fun k => k < w.heap.size) w w' := by
  refine (rmul_q w s t vn vd un ud x y L hx.out hy.out hs.out ht.out hL1 hl).mono ?_
  rintro e w' ⟨v1, v2, rfl, h, hf⟩
  exact ⟨_, v1, v2, rfl, Lib.hid rfl, Lib.hid h, hf⟩
theorem radd_h {S T : Nat → Prop} (w : World) (s t : Bool) (vn vd un ud : Value) (x y : Rat) (L : Nat) (hx : Hid (RR S w vn vd x L)) (hy : Hid (RR T w un ud y L)) (hs : Hid (s = sg x)) (ht : Hid (t = sg y)) (hL1 : 1 ≤ L) (hl : L ≤ 104857600) :
    Calls Tryz.prog 34 #[.agg #[.bool s, vn, vd], .agg #[.bool t, un, ud]] w fun e w' => ∃ r v1 v2, e = .returned (.agg #[.bool r, v1, v2]) ∧ Hid (r = sg (x + y)) ∧ Hid (RR (fun k => w.heap.size ≤ k) w' v1 v2 (x + y) (4 * L)) ∧ Fr (fun k => k < w.heap.size) w w' := by
  refine (radd_q w s t vn vd un ud x y L hx.out hy.out hs.out ht.out hL1 hl).mono ?_
  rintro e w' ⟨v1, v2, rfl, h, hf⟩
  exact ⟨_, v1, v2, rfl, Lib.hid rfl, Lib.hid h, hf⟩

end Go.Proofs.YtlppcfeimpcbjaaGreat


/- TensorDots. -/
namespace Go.Proofs.YtlppcfeimpcbjaaGreat
open Go.RowKit

theorem zR_q : qOf zR = 0 := by
  unfold qOf zR
  exact rv_den0 _ _
theorem getD_q (es : List RatL) (j : Nat) : (es.map qOf).getD j 0 = qOf (es.getD j zR) := by
  rw [List.getD_eq_getElem?_getD, List.getD_eq_getElem?_getD, List.getElem?_map]
  cases es[j]? with
  | none => exact zR_q.symm
  | some x => rfl
theorem sum_dot (ea eb : List RatL) : ∀ j, j ≤ ea.length → sumQ (ea.map qOf) (eb.map qOf) j = dotQ ea eb ((List.finRange ea.length).take j)
  | 0, _ => rfl
  | j + 1, h => by
    have hl : j < (List.finRange ea.length).length := by rw [List.length_finRange]; exact h
    rw [sumQ, sum_dot ea eb j (by omega), List.take_succ_eq_append_getElem hl, dotQ_step, List.getElem_finRange, getD_q, getD_q]
    rfl
theorem sum_dot' (ea eb : List RatL) : sumQ (ea.map qOf) (eb.map qOf) ea.length = dotT ea eb := by
  rw [sum_dot ea eb _ (Nat.le_refl _), List.take_of_length_le (by rw [List.length_finRange]; exact Nat.le_refl _)]
  rfl
theorem db_len {n K : Nat} (h : (dg LB n).length ≤ K) : (dg DB n).length ≤ 3 * K := by
  have h1 : n < LB ^ K := by
    have := ofB_lt (b := LB) (l := dg LB n) (dg_lt LB2 n)
    rw [ofB_dg LB2] at this
    exact Nat.lt_of_lt_of_le this (Nat.pow_le_pow_right LBpos h)
  have h2 : LB ^ K ≤ (DB ^ 3) ^ K := Nat.pow_le_pow_left (by decide) K
  rw [← Nat.pow_mul] at h2
  exact dg_len_le DB2 (Nat.lt_of_lt_of_le h1 h2)
theorem dotQ_le {ea eb : List RatL} {K : Nat} (h : ∀ pre : List (Fin ea.length), pre.length ≤ ea.length → (dg LB (dotQ ea eb pre).num.natAbs).length ≤ K ∧ (dg LB (dotQ ea eb pre).den).length ≤ K) : (dg LB (dotT ea eb).num.natAbs).length ≤ K ∧ (dg LB (dotT ea eb).den).length ≤ K :=
  h _ (by rw [List.length_finRange]; exact Nat.le_refl _)
/-- A tensor in memory of its own. -/
def TOwn (sh : List Int) (es : List RatL) (u : World) (v : Value) : Prop := ∃ A n c B m k, v = .agg #[.slice A n c, .slice B m k] ∧ Sl Im (fun _ => True) u (.slice A n c) sh ∧ Sl Rm (fun _ => True) u (.slice B m k) es
theorem TOwn.of {S T : Nat → Prop} {sh : List Int} {es : List RatL} {u : World} {v1 v2 : Value} (h1 : Sl Im S u v1 sh) (h2 : Sl Rm T u v2 es) : TOwn sh es u (.agg #[v1, v2]) := by
  obtain ⟨A, n, c, rfl⟩ := h1.form
  obtain ⟨B, m, k, rfl⟩ := h2.form
  exact ⟨_, _, _, _, _, _, rfl, h1.mono fun _ _ => trivial, h2.mono fun _ _ => trivial⟩
theorem TOwn.keep {sh : List Int} {es : List RatL} {u u' : World} {v : Value} (hf : Fr (fun k => k < u.heap.size) u u') (h : TOwn sh es u v) : TOwn sh es u' v := by
  obtain ⟨A, n, c, B, m, k, rfl, h1, h2⟩ := h
  exact ⟨_, _, _, _, _, _, rfl, h1.keep' Im_pos hf, h2.keep' Rm_pos hf⟩
/-- What a product answers. -/
def DotG (r : Int) (q : Rat) (K : Nat) (u : World) (v : Value) : Prop := ∃ s P i j Q m k, v = .tuple #[.agg #[.bool s, .slice P i j, .slice Q m k], .int .i64 r] ∧ (r ≠ 0 → Value.slice P i j = .slice none 0 0 ∧ Value.slice Q m k = .slice none 0 0) ∧ (r = 0 → s = sg q ∧ SV u (.slice P i j) (.slice Q m k) q K)
theorem DotG.keep {r : Int} {q : Rat} {K : Nat} {u u' : World} {v : Value} (hf : Fr (fun k => k < u.heap.size) u u') (h : DotG r q K u v) : DotG r q K u' v := by
  obtain ⟨s, P, i, j, Q, m, k, rfl, h1, h2⟩ := h
  exact ⟨_, _, _, _, _, _, _, rfl, h1, fun h => ⟨(h2 h).1, (h2 h).2.keep hf⟩⟩
theorem ris_dot {S : Nat → Prop} (w : World) (s t : Bool) (vn vd un ud : Value) (q p : Rat) (L K : Nat) (hq : Hid (RR S w vn vd q K)) (hs : Hid (s = sg q)) (hp : Hid (SV w un ud p L)) (ht : Hid (t = sg p)) (e : Hid (p = q)) (hL : L ≤ 1099511620) :
    Calls Tryz.prog 86 #[.agg #[.bool s, vn, vd], .agg #[.bool t, un, ud]] w fun e w' => e = .returned (.bool true) ∧ Fr (fun k => k < w.heap.size) w w' :=
  ris_sv w s t vn vd un ud q p L K hq.out hs.out hp.out ht.out e.out.symm hL

end Go.Proofs.YtlppcfeimpcbjaaGreat

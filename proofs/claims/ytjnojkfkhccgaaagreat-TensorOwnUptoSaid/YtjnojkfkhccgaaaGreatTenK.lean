import Derived.Test.YtjnojkfkhccgaaaGreatTenJ

/- fluxionlaw07.whole: a tensor of small numbers. -/
namespace Go.Proofs.YtjnojkfkhccgaaaGreat
open Go.RowKit
/-- fluxionref03.Int, its sign under a name. -/
theorem rint_s (w : World) (z : Int) (h0 : -9223372036854775808 ≤ z) (h1 : z ≤ 9223372036854775807) :
    Calls Tryz.prog 39 #[.int .i64 z] w fun e w' => ∃ s v1 v2, e = .returned (.agg #[.bool s, v1, v2]) ∧ Hid (s = sg (z : Rat)) ∧ Hid (RR (fun k => w.heap.size ≤ k) w' v1 v2 (z : Rat) 6) ∧ Fr (fun k => k < w.heap.size) w w' := by
  refine (rint_r w z h0 h1).mono ?_
  rintro e w' ⟨v1, v2, rfl, h, hf⟩
  exact ⟨_, _, _, rfl, Lib.hid rfl, Lib.hid h, hf⟩

set_option maxRecDepth 20000 in
set_option maxHeartbeats 8000000 in
theorem whole_t {S T : Nat → Prop} (w : World) (vs vl : Value) (sh ls : List Int) (hs : Sl Im S w vs sh) (he : Sl Im T w vl ls) (hsl : sh.length ≤ 1099511627000) (hel : ls.length ≤ 1099511627000) :
    Calls Tryz.prog 37 #[vs, vl] w fun e w' => ∃ v1 v2, e = .returned (.agg #[v1, v2]) ∧ Own Im 3 (fun k => w.heap.size ≤ k) w' v1 sh ∧ Own Rm 43 (fun k => w.heap.size ≤ k) w' v2 (ls.map fun (z : Int) => canR (z : Rat)) ∧ Fr (fun k => k < w.heap.size) w w' := by
  obtain ⟨A, c, rfl, _, _, _⟩ := hs.slice
  obtain ⟨A', c', rfl, _, _, hly⟩ := he.slice
  have F := fun R => ((Fr.refl R w).alloc (.cells #[.slice none 0 0, .slice none 0 0] 26)).alloc (.cells #[.slice A sh.length c, .slice none 0 0] 37)
  have HS0 := Lib.hid (hs.up Im_pos (Nat.le_refl _) (F _))
  have HE0 := Lib.hid (he.up Im_pos (Nat.le_refl _) (F _))
  have b0 := (Box2.new w 26 (.slice none 0 0) (.slice none 0 0)).alloc (.cells #[.slice A sh.length c, .slice none 0 0] 37)
  have b3 := Box2.new (w.alloc (.cells #[.slice none 0 0, .slice none 0 0] 26)) 37 (.slice A sh.length c) (.slice none 0 0)
  simp only [World.size_alloc] at b3
  replace F := F (fun k => k < w.heap.size)
  have HLL := Lib.hid (Kd.int_all he)
  clear hs he
  go_enter Tryz.func37, Tryz.ntmps37
  go_wp2_with fail
  go_loopw [6] (fun i wr => ∃ (j : Nat) (v2 : Value), i = .int .i64 j ∧ j ≤ ls.length ∧ Box2 wr w.heap.size 26 (.slice none 0 0) (.slice none 0 0) ∧ Box2 wr (w.heap.size + 1) 37 (.slice A sh.length c) v2 ∧ Own (Rk 6) 52 (fun k => w.heap.size + 1 < k) wr v2 ((ls.take j).map fun (z : Int) => (z : Rat)) ∧ Hid (Sl Im (fun k => k < w.heap.size) wr (.slice A sh.length c) sh) ∧ Hid (Sl Im (fun k => k < w.heap.size) wr (.slice A' ls.length c') ls) ∧ Fr (fun k => k < w.heap.size) w wr) (fun i _ => ls.length - (intOf i).toNat)
  case atStart => exact ⟨0, _, rfl, by omega, b0, b3, Own.nil _ _ _ _, HS0, HE0, F⟩
  case round =>
    clear b0 b3 HS0 HE0 F
    obtain ⟨j, v2, rfl, hj, b0, b3, o2, HS, HE, F⟩ := hrel
    obtain ⟨A2, n2, c2, rfl⟩ := o2.form
    by_cases hlt : j < ls.length
    · have D := fun R => (Fr.refl R wr).drew
      replace b0 := b0.fr (D (fun _ => True)) trivial
      replace b3 := b3.fr (D (fun _ => True)) trivial
      replace o2 := o2.fr (D _)
      replace HS := Lib.hid (HS.out.fr (D _))
      replace HE := Lib.hid (HE.out.fr (D _))
      replace F := F.drew
      clear D
      obtain ⟨ad, rfl, g0, _, _⟩ := Kd.int_cell HE.out hlt
      have hS : ad.block < w.heap.size := by
        obtain ⟨_, _, e, _, _, _, h4⟩ := HE.out
        injection e with e1
        obtain ⟨ad', e2, h, _⟩ := h4 (by omega)
        rw [e2] at e1
        injection e1 with e1
        rw [e1]; exact h
      have hb := HLL.out _ (List.getElem_mem hlt)
      have htk := List.take_succ_eq_append_getElem hlt
      generalize ls[j] = y at g0 hb htk
      have KS : ∀ u, Fr (fun k => k < w.heap.size ∨ k = w.heap.size + 1) wr.drew u → u.cell? ⟨w.heap.size + 1, 1, none⟩ = some (.slice A2 n2 c2) ∧ u.cell? (ad.add j) = some (.int .i64 y) := fun u hu =>
        ⟨(b3.fr hu (.inr rfl)).c1, hu.cell g0 (by rw [addr_block]; exact .inl hS)⟩
      have S0 := KS _ (Fr.refl _ _)
      have HT := Lib.hid (map_take_step (fun (z : Int) => (z : Rat)) htk)
      have HLn := Lib.hid (show ((((ls.take j).map fun (z : Int) => (z : Rat))).length + 1) * 56 ≤ 140737488355328 ∧ (((ls.take j).map fun (z : Int) => (z : Rat))).length + 1 ≤ 9223372036854775807 by rw [List.length_map, List.length_take]; omega)
      have l0 := b0.lt
      have l3 := b3.lt
      clear htk
      go_wp2_with fail
      refine wpTill.begin (fun u => u.cell? ⟨w.heap.size + 1, 1, none⟩ = some (.slice A2 n2 c2) ∧ u.cell? (ad.add j) = some (.int .i64 y)) 9 (by kernel_rfl) ?_
      change wpTill _ _ _ _ _ _ 11 _ _ _
      refine wpTill.take 0 (.pointer (some ⟨w.heap.size + 1, 1, none⟩)) rfl (by kernel_rfl) (by kernel_rfl) (fun _ _ _ h => h) S0 (by rfl) (fun u hu => by go_simp) ?_
      try simp only [Act.put, List.setIfInBounds_toArray, List.set_cons_zero, List.set_cons_succ]
      refine wpTill.take 1 (.slice A2 n2 c2) rfl (by kernel_rfl) (by kernel_rfl) (fun _ _ _ h => h) S0 (by rfl) (fun u hu => by go_simp) ?_
      try simp only [Act.put, List.setIfInBounds_toArray, List.set_cons_zero, List.set_cons_succ]
      refine wpTill.take 2 (.slice (some ad) ls.length c') rfl (by kernel_rfl) (by kernel_rfl) (fun _ _ _ h => h) S0 (by rfl) (fun u hu => by go_simp) ?_
      try simp only [Act.put, List.setIfInBounds_toArray, List.set_cons_zero, List.set_cons_succ]
      refine wpTill.take 3 (.int .i64 j) rfl (by kernel_rfl) (by kernel_rfl) (fun _ _ _ h => h) S0 (by rfl) (fun u hu => by go_simp) ?_
      try simp only [Act.put, List.setIfInBounds_toArray, List.set_cons_zero, List.set_cons_succ]
      refine wpTill.take 4 (.pointer (some (ad.add j))) rfl (by kernel_rfl) (by kernel_rfl) (fun _ _ _ h => h) S0 (by rfl) (fun u hu => by go_simp) ?_
      try simp only [Act.put, List.setIfInBounds_toArray, List.set_cons_zero, List.set_cons_succ]
      refine wpTill.take 5 (.int .i64 y) rfl (by kernel_rfl) (by kernel_rfl) (fun _ _ _ h => h) S0 (by rfl) (fun u hu => by go_simp) ?_
      try simp only [Act.put, List.setIfInBounds_toArray, List.set_cons_zero, List.set_cons_succ]
      refine wpTill.next 6 rfl (by kernel_rfl) (by rfl) (fun K hK => ?_)
      go_simp
      refine (rint_s _ y (by omega) (by omega)).mono ?_
      rintro e u1 ⟨sy, v3, v4, rfl, hsy, hol, hf⟩
      obtain ⟨⟨P3, i3, j3, rfl⟩, ⟨P4, i4, j4, rfl⟩⟩ := hol.out.form
      have G1 : Fr (fun k => k < w.heap.size ∨ k = w.heap.size + 1) wr.drew u1 := hf.mono fun k hk _ => hk
      refine hK _ _ (fun _ => KS _ G1) ?_
      clear hK K
      try simp only [Act.put, List.setIfInBounds_toArray, List.set_cons_zero, List.set_cons_succ]
      refine wpTill.next 7 rfl (by kernel_rfl) (by rfl) (fun K hK => ?_)
      go_simp
      refine hK _ _ (fun _ => KS _ (G1.alloc _)) ?_
      clear hK K
      try simp only [Act.put, List.setIfInBounds_toArray, List.set_cons_zero, List.set_cons_succ]
      have lt2 := o2.lt
      replace b0 := b0.keep hf
      replace b3 := b3.keep hf
      replace o2 := o2.keep' hf
      replace HS := Lib.hid (HS.out.keep' Im_pos hf)
      replace HE := Lib.hid (HE.out.keep' Im_pos hf)
      have F' := fr_then F hf
      have sz := hf.size
      have in2 := o2.in_
      clear S0 g0
      refine wpTill.next 8 rfl (by kernel_rfl) (by rfl) (fun K hK => ?_)
      refine oper_push1 (rkT 6) (v := .slice A2 n2 c2) (y := (y : Rat)) (T := fun k => wr.drew.heap.size ≤ k) rfl rfl rfl o2 ⟨_, _, by rw [hsy.out], hol.out⟩ (fun k hk _ => ⟨by omega, fun e => by have := lt2 k e.symm; omega⟩) (fun k hk => by omega) HLn.out.1 HLn.out.2 ?_
      intro v5 u2 ho hfr hat
      obtain ⟨A3, n3, c3, rfl⟩ := ho.form
      have G2 : Fr (fun k => k < w.heap.size ∨ k = w.heap.size + 1) wr.drew u2 := G1.comp hfr fun k _ hk => ⟨hk, fun e => by have := in2 _ e.symm; omega⟩
      refine hK _ _ (fun _ => KS _ G2) ?_
      clear hK K
      try simp only [Act.put, List.setIfInBounds_toArray, List.set_cons_zero, List.set_cons_succ]
      replace b0 := b0.fr hfr (fun e => by have := in2 _ e.symm; omega)
      replace b3 := b3.fr hfr (fun e => by have := in2 _ e.symm; omega)
      replace HS := Lib.hid (HS.out.fr (hfr.mono fun k _ hk e => by have := in2 _ e.symm; omega))
      replace HE := Lib.hid (HE.out.fr (hfr.mono fun k _ hk e => by have := in2 _ e.symm; omega))
      replace F := F'.comp hfr (R := fun k => k < w.heap.size) fun k _ hk => ⟨hk, fun e => by have := in2 _ e.symm; omega⟩
      replace o2 := ho
      clear ho hfr hat hf F' in2
      have e0 := b3.c1
      have e1 := b3.free 1
      refine wpTill.next 9 rfl (by kernel_rfl) (by rfl) (fun K hK => ?_)
      go_simp
      refine hK _ _ (no_wait (by kernel_rfl)) ?_
      clear hK K
      try simp only [Act.put, List.setIfInBounds_toArray, List.set_cons_zero, List.set_cons_succ]
      refine wpTill.next 10 rfl (by kernel_rfl) (by rfl) (fun K hK => ?_)
      go_simp
      refine hK _ _ (no_wait (by kernel_rfl)) ?_
      clear hK K
      try simp only [Act.put, List.setIfInBounds_toArray, List.set_cons_zero, List.set_cons_succ]
      refine wpTill.done (by kernel_rfl) ?_
      clear e0 e1
      have F9 := fr_set1 u2 (w.heap.size + 1) 1 (.slice A3 n3 c3)
      have f1 := b0.fr F9 (by omega)
      have f3 := b3.set1 (.slice A3 n3 c3)
      have f5 := o2.past F9 (fun k hk => by omega)
      have f4 := HS.out.fr (F9.mono fun k _ hk => by omega)
      have f6 := HE.out.fr (F9.mono fun k _ hk => by omega)
      have f7 := F.comp F9 (R := fun k => k < w.heap.size) fun k _ hk => ⟨hk, by omega⟩
      go_wp2_with fail
      go_roundw
      case rel => exact ⟨j + 1, _, by go_num, by omega, f1, f3, by rw [HT.out]; exact f5, f4, f6, f7⟩
      case measure => first | (simp [intOf]; done) | (simp [intOf]; omega)
    · obtain rfl : j = ls.length := by omega
      rw [List.take_length] at o2
      have d0 := b3.c0
      have d1 := b3.c1
      have HQ := Lib.hid (show ∀ q ∈ ls.map (fun (z : Int) => (z : Rat)), (dg LB q.num.natAbs).length ≤ 1099511627000 ∧ (dg LB q.den).length ≤ 1099511627000 from fun q hq => by
        obtain ⟨z, hz, rfl⟩ := List.mem_map.1 hq
        have hb := HLL.out z hz
        rw [Rat.num_intCast, Rat.den_intCast]
        refine ⟨Nat.le_trans (dg_len_le LB2 (k := 3) (by unfold LB; omega)) (by decide), Nat.le_trans (dg_len_le LB2 (k := 1) (by decide)) (by decide)⟩)
      have p := Lib.hid (tback_t wr (.slice A sh.length c) (.slice A2 n2 c2) sh (ls.map (fun (z : Int) => (z : Rat))) 6 HS.out o2.sl hsl (by rw [List.length_map]; exact hel) (by decide) HQ.out)
      clear o2 HQ
      go_wp2_with fail
      with_reducible refine p.out.mono ?_
      rintro e w2 ⟨v1, v3, rfl, h1, h2, hf⟩
      obtain ⟨B1, m1, k1, rfl⟩ := h1.form
      obtain ⟨B2, m2, k2, rfl⟩ := h2.form
      have k0 := b0.keep hf
      have F2 := fr_then F hf
      have sz := hf.size
      have l0 := b0.lt
      clear hf p
      go_wp2_with ((with_reducible apply wpList_st2); rfl; rfl; exact k0; exact ten2; rfl; rfl; intro w9 B9 F9)
      refine bodyPost_ret (results_cell2 rfl rfl B9 Tryz.underlying26 ten2) rfl ?_
      rw [List.map_map] at h2
      exact ⟨_, _, rfl, (h1.past F9 fun k hk => by omega).mono fun k hk => by omega, (h2.past F9 fun k hk => by omega).mono fun k hk => by omega, F2.comp F9 fun k _ hk => ⟨hk, by omega⟩⟩
end Go.Proofs.YtjnojkfkhccgaaaGreat

/- Texts merged: PtQ, PtR, PtS, PtT, PtU. -/
import Derived.Test.YtlknmoegngjpcaaGreatPointC
set_option linter.unusedSimpArgs false
set_option linter.unusedVariables false

/- The document's Pow over the elements: printed by gen_ptq.py. -/
namespace Go.Proofs.YtlknmoegngjpcaaGreat
open Go.RowKit

theorem r8pow_no (w : World) (A B : Option Addr) (n c m d : Nat) (z : Int) (hz : z < 0 ∨ 16 < z) :
    Calls Tryz.prog 18 #[.agg #[.slice A n c, .slice B m d], .int .i64 z] w (RefE w [] [] 0 11) := by
  have F := ((Fr.refl (fun k => k < w.heap.size) w).alloc (.cells #[.slice A n c, .slice B m d] 32)).alloc (.cells #[.slice none 0 0, .slice none 0 0] 32)
  have b2 := Box2.new (w.alloc (.cells #[.slice A n c, .slice B m d] 32)) 32 (.slice none 0 0) (.slice none 0 0)
  simp only [World.size_alloc] at b2
  go_enter Tryz.func18, Tryz.ntmps18
  go_wp2_with ((with_reducible apply wpList_st2); rfl; rfl; exact b2; exact tt2; rfl; rfl; intro w9 B9 F9)
  all_goals
    refine bodyPost_ret (results_cell2_tmp rfl rfl B9 Tryz.underlying32 tt2) rfl ?_
    exact ⟨none, 0, 0, none, 0, 0, rfl, fun h => absurd h (by decide), F.comp F9 fun k _ hk => ⟨hk, by omega⟩⟩

set_option maxRecDepth 20000 in
set_option maxHeartbeats 8000000 in
theorem r8pow_t {S T : Nat → Prop} (w : World) (vs ve : Value) (kk KO : Nat) (sh : List Int) (qs : List Rat) (K : Nat) (hs : Sl Im S w vs sh) (hq : Sl (Rk K) T w ve qs) (hsl : sh.length ≤ 1099511627000) (hql : qs.length ≤ 1099511627000) (hk : kk ≤ 16) (hKO : K * kk + 6 ≤ KO) (hKK : K ≤ KO) (hKl : KO ≤ 52428800) :
    Calls Tryz.prog 18 #[.agg #[vs, ve], .int .i64 kk] w (RefE w sh (qs.map (fun q => q ^ kk)) KO 0) := by
  obtain ⟨A, c, rfl, _, _, hlx⟩ := hs.slice
  obtain ⟨A', c', rfl, _, _, hly⟩ := hq.slice
  have F := (((Fr.refl (fun k => k < w.heap.size) w).alloc (.cells #[.slice A sh.length c, .slice A' qs.length c'] 32)).alloc (.cells #[.slice none 0 0, .slice none 0 0] 32))
  have x0 := ((Box2.new w 32 (.slice A sh.length c) (.slice A' qs.length c')).alloc (.cells #[.slice none 0 0, .slice none 0 0] 32))
  have b2 := (Box2.new (w.alloc (.cells #[.slice A sh.length c, .slice A' qs.length c'] 32)) 32 (.slice none 0 0) (.slice none 0 0))
  simp only [World.size_alloc] at b2
  have HS := Lib.hid (hs.low Im_pos)
  have HQ := Lib.hid (hq.low (Rk_pos K))
  clear hs hq
  have a0 := x0.c0
  have a1 := x0.c1
  go_enter Tryz.func18, Tryz.ntmps18
  go_wp2_with fail
  generalize (w.alloc (.cells #[.slice A sh.length c, .slice A' qs.length c'] 32)).alloc (.cells #[.slice none 0 0, .slice none 0 0] 32) = W0 at F x0 b2 a0 a1 ⊢
  have sW := F.size
  have lt2 := b2.lt
  with_reducible refine (shaped_t _ (.slice A sh.length c) (.slice A' qs.length c') sh (HS.out.fr F) ⟨_, _, _, rfl⟩ hsl).mono ?_
  rintro e w1 ⟨A1, n1, c1, rfl, ho1, hf⟩
  have s1 := hf.size
  have al := fun R => (Fr.refl R w1).alloc (.cells #[.slice A1 n1 c1, .slice none 0 0] 32)
  have b5 := Box2.new w1 32 (.slice A1 n1 c1) (.slice none 0 0)
  replace x0 := (x0.keep hf).keep (al _)
  replace b2 := (b2.keep hf).keep (al _)
  have o1 := (ho1.bd.keep' (al _)).mono (T := fun k => w.heap.size + 2 ≤ k ∧ k < w1.heap.size) fun k hk => ⟨by have := hk.1; omega, hk.2⟩
  replace F := fr_then (fr_then F hf) (al _)
  clear hf al ho1 a0 a1
  go_wp2_with fail
  go_loopw [7] (fun k W => ∃ (j : Nat) (v2 : Value), k = .int .i64 j ∧ j ≤ qs.length ∧ Box2 W w.heap.size 32 (.slice A sh.length c) (.slice A' qs.length c') ∧ Box2 W (w.heap.size + 1) 32 (.slice none 0 0) (.slice none 0 0) ∧ Box2 W w1.heap.size 32 (.slice A1 n1 c1) v2 ∧ Own Im 3 (fun k => w.heap.size + 2 ≤ k ∧ k < w1.heap.size) W (.slice A1 n1 c1) sh ∧ Own (Rk (KO)) 56 (fun k => k < w.heap.size ∨ w1.heap.size < k) W v2 ((qs.take j).map (fun q => q ^ kk)) ∧ (∀ b, v2.ownBlock = some b → w1.heap.size < b) ∧ Fr (fun k => k < w.heap.size) w W ∧ w1.heap.size < W.heap.size) (fun k _ => qs.length - (intOf k).toNat)
  case atStart => exact ⟨0, _, rfl, by omega, x0, b2, b5, o1, Own.nil _ _ _ _, fun b h => by simp [Value.ownBlock] at h, F, by simp⟩
  case round =>
    clear x0 b2 b5 o1 F
    obtain ⟨j, v2, rfl, hj, x0, b2, b5, o1, o2, hob, F, hwr⟩ := hrel
    obtain ⟨A2, n2, c2, rfl⟩ := o2.form
    have a1 := x0.c1
    by_cases hlt : j < qs.length
    · have htk := map_take_step ((fun q => q ^ kk)) (List.take_append_getElem hlt).symm
      have HTK := Lib.hid htk
      obtain ⟨ad, P, n, d, Q, m, o, rfl, hS, g0, g1, g2, rr⟩ := Rk_get (HQ.out.fr F) hlt
      generalize qs[j] = y at g0 rr HTK
      clear htk
      have HLn := Lib.hid (show (((qs.take j).map (fun q => q ^ kk)).length + 1) * 56 ≤ 140737488355328 ∧ ((qs.take j).map (fun q => q ^ kk)).length + 1 ≤ 9223372036854775807 by rw [List.length_map, List.length_take]; omega)
      have lt2 := o2.lt
      have l1 := x0.lt
      have l2 := b2.lt
      have l3 := b5.lt
      have RRd := Lib.hid (rr.keep (Fr.refl (fun k => k < wr.heap.size) wr).drew)
      have D := fun R => (Fr.refl R wr).drew
      have dx0 := x0.keep (D _)
      have db2 := b2.keep (D _)
      have db5 := b5.keep (D _)
      have do2 := o2.keep' (D _)
      have KS : ∀ u, Fr (fun k => k < w.heap.size + 2 ∨ k = w1.heap.size) wr.drew u → u.cell? ⟨w1.heap.size, 1, none⟩ = some (.slice A2 n2 c2) ∧ u.cell? ⟨w.heap.size, 1, none⟩ = some (.slice (some ad) qs.length c') ∧ u.cell? (ad.add (j * 3)) = some (.bool (sg y)) ∧ u.cell? ⟨(ad.add (j * 3)).block, (ad.add (j * 3)).off + 1, none⟩ = some (.slice P n d) ∧ u.cell? ⟨(ad.add (j * 3)).block, (ad.add (j * 3)).off + 2, none⟩ = some (.slice Q m o) := fun u hu => ⟨(db5.fr hu (.inr rfl)).c1, (dx0.fr hu (.inl (by omega))).c1, hu.cell g0 (.inl (by rw [addr_block]; omega)), hu.cell g1 (.inl (by show (ad.add (j * 3)).block < _; rw [addr_block]; omega)), hu.cell g2 (.inl (by show (ad.add (j * 3)).block < _; rw [addr_block]; omega))⟩
      have S0 := KS _ (Fr.refl _ _)
      have hWd : wr.drew.heap.size = wr.heap.size := rfl
      go_wp2_with fail
      refine wpTill.begin (fun u => u.cell? ⟨w1.heap.size, 1, none⟩ = some (.slice A2 n2 c2) ∧ u.cell? ⟨w.heap.size, 1, none⟩ = some (.slice (some ad) qs.length c') ∧ u.cell? (ad.add (j * 3)) = some (.bool (sg y)) ∧ u.cell? ⟨(ad.add (j * 3)).block, (ad.add (j * 3)).off + 1, none⟩ = some (.slice P n d) ∧ u.cell? ⟨(ad.add (j * 3)).block, (ad.add (j * 3)).off + 2, none⟩ = some (.slice Q m o)) 11 (by kernel_rfl) ?_
      change wpTill _ _ _ _ _ _ 13 _ _ _
      refine wpTill.take 0 (.pointer (some ⟨w1.heap.size, 1, none⟩)) rfl (by kernel_rfl) (by kernel_rfl) (fun _ _ _ h => h) S0 (by rfl) (fun u hu => by go_simp) ?_
      try simp only [Act.put, List.setIfInBounds_toArray, List.set_cons_zero, List.set_cons_succ]
      refine wpTill.take 1 (.slice A2 n2 c2) rfl (by kernel_rfl) (by kernel_rfl) (fun _ _ _ h => h) S0 (by rfl) (fun u hu => by go_simp) ?_
      try simp only [Act.put, List.setIfInBounds_toArray, List.set_cons_zero, List.set_cons_succ]
      refine wpTill.take 2 (.pointer (some ⟨w.heap.size, 1, none⟩)) rfl (by kernel_rfl) (by kernel_rfl) (fun _ _ _ h => h) S0 (by rfl) (fun u hu => by go_simp) ?_
      try simp only [Act.put, List.setIfInBounds_toArray, List.set_cons_zero, List.set_cons_succ]
      refine wpTill.take 3 (.slice (some ad) qs.length c') rfl (by kernel_rfl) (by kernel_rfl) (fun _ _ _ h => h) S0 (by rfl) (fun u hu => by go_simp) ?_
      try simp only [Act.put, List.setIfInBounds_toArray, List.set_cons_zero, List.set_cons_succ]
      refine wpTill.take 4 (.int .i64 j) rfl (by kernel_rfl) (by kernel_rfl) (fun _ _ _ h => h) S0 (by rfl) (fun u hu => by go_simp) ?_
      try simp only [Act.put, List.setIfInBounds_toArray, List.set_cons_zero, List.set_cons_succ]
      refine wpTill.take 5 (.pointer (some (ad.add (j * 3)))) rfl (by kernel_rfl) (by kernel_rfl) (fun _ _ _ h => h) S0 (by rfl) (fun u hu => by go_simp) ?_
      try simp only [Act.put, List.setIfInBounds_toArray, List.set_cons_zero, List.set_cons_succ]
      refine wpTill.take 6 (.agg #[.bool (sg y), .slice P n d, .slice Q m o]) rfl (by kernel_rfl) (by kernel_rfl) (fun _ _ _ h => h) S0 (by rfl) (fun u hu => by go_simp) ?_
      try simp only [Act.put, List.setIfInBounds_toArray, List.set_cons_zero, List.set_cons_succ]
      refine wpTill.take 7 (.int .i64 kk) rfl (by kernel_rfl) (by kernel_rfl) (fun _ _ _ h => h) S0 (by rfl) (fun u hu => by go_simp) ?_
      try simp only [Act.put, List.setIfInBounds_toArray, List.set_cons_zero, List.set_cons_succ]
      refine wpTill.next 8 rfl (by kernel_rfl) (by rfl) (fun KK hK => ?_)
      go_simp
      with_reducible refine (rrpow_t _ (sg y) (.slice P n d) (.slice Q m o) y K kk KO RRd.out rfl hKO hKK hKl (by omega)).mono ?_
      rintro e u1 ⟨s9, v3, v4, rfl, hs9, hol, hf⟩
      obtain ⟨⟨P3, i4, j4, rfl⟩, ⟨P4, i5, j5, rfl⟩⟩ := hol.out.form
      have G1 : Fr (fun k => k < w.heap.size + 2 ∨ k = w1.heap.size) wr.drew u1 := hf.mono fun k hk _ => hk
      refine hK _ _ (fun _ => KS _ G1) ?_
      clear hK KK
      try simp only [Act.put, List.setIfInBounds_toArray, List.set_cons_zero, List.set_cons_succ]
      refine wpTill.next 9 rfl (by kernel_rfl) (by rfl) (fun KK hK => ?_)
      go_simp
      refine hK _ _ (fun _ => KS _ (G1.alloc _)) ?_
      clear hK KK
      try simp only [Act.put, List.setIfInBounds_toArray, List.set_cons_zero, List.set_cons_succ]
      have do3 := do2.keep' hf
      have su := hf.size
      clear S0
      refine wpTill.next 10 rfl (by kernel_rfl) (by rfl) (fun KK hK => ?_)
      refine oper_push1 (rkT (KO)) (v := .slice A2 n2 c2) (y := y ^ kk) (T := fun k => wr.drew.heap.size ≤ k) rfl rfl rfl do3 ⟨_, _, by rw [hs9.out], hol.out⟩ (fun k hk _ => ⟨by omega, fun e => by have h1 := lt2 k e.symm; have h2 := hob k e.symm; omega⟩) (fun k hk => by omega) HLn.out.1 HLn.out.2 ?_
      intro v5 u2 ho hfr hat
      obtain ⟨A3, n3, c3, rfl⟩ := ho.form
      have G2 : Fr (fun k => k < w.heap.size + 2 ∨ k = w1.heap.size) wr.drew u2 := G1.comp hfr fun k _ hk => ⟨hk, fun e => by have h1 := hob _ e.symm; omega⟩
      refine hK _ _ (fun _ => KS _ G2) ?_
      clear hK KK
      try simp only [Act.put, List.setIfInBounds_toArray, List.set_cons_zero, List.set_cons_succ]
      have q5 := db5.fr G2 (.inr rfl)
      have e0 := q5.c1
      have e1 := q5.free 1
      have su2 := hfr.size
      have hob' : ∀ b, (Value.slice A3 n3 c3).ownBlock = some b → w1.heap.size < b := fun b hb => by
        rcases hat with e | ⟨b', e, hb'⟩
        · exact hob b (e ▸ hb)
        · rw [e] at hb; cases hb; omega
      clear do3 KS
      refine wpTill.next 11 rfl (by kernel_rfl) (by rfl) (fun KK hK => ?_)
      go_simp
      refine hK _ _ (no_wait (by kernel_rfl)) ?_
      clear hK KK
      try simp only [Act.put, List.setIfInBounds_toArray, List.set_cons_zero, List.set_cons_succ]
      refine wpTill.next 12 rfl (by kernel_rfl) (by rfl) (fun KK hK => ?_)
      go_simp
      refine hK _ _ (no_wait (by kernel_rfl)) ?_
      clear hK KK
      try simp only [Act.put, List.setIfInBounds_toArray, List.set_cons_zero, List.set_cons_succ]
      refine wpTill.done (by kernel_rfl) ?_
      have F8 := fr_set1 u2 w1.heap.size 1 (.slice A3 n3 c3)
      have fx0 := (dx0.fr G2 (.inl (by omega))).fr F8 (by omega)
      have fb2 := (db2.fr G2 (.inl (by omega))).fr F8 (by omega)
      have f5 := q5.set1 (.slice A3 n3 c3)
      have G4 := ((D (fun k => k ≤ w1.heap.size)).trans (hf.mono (T := fun k => k ≤ w1.heap.size) fun k hk _ => hk)).comp hfr (R := fun k => k ≤ w1.heap.size) fun k _ hk => ⟨hk, fun e => by have h1 := hob _ e.symm; omega⟩
      have f1 := (o1.fr (G4.mono fun k _ hk => by omega)).past F8 (fun k hk => by omega)
      have f3 := ho.past F8 (fun k hk => by omega)
      have f6 := (F.comp G4 (R := fun k => k < w.heap.size) fun k _ hk => ⟨hk, by omega⟩).comp F8 (R := fun k => k < w.heap.size) fun k _ hk => ⟨hk, by omega⟩
      have f7 := F8.size
      have f8 := G4.size
      clear e0 e1 q5 x0 b2 b5 o1 o2 do2 F D G1 G2 G4 HLn ho F8 hat hfr dx0 db2 db5
      go_wp2_with fail
      go_roundw
      case rel => exact ⟨j + 1, _, by go_num, by omega, fx0, fb2, f5, f1, by rw [HTK.out]; exact f3, hob', f6, by omega⟩
      case measure => first | (simp [intOf]; done) | (simp [intOf]; omega)
    · obtain rfl : j = qs.length := by omega
      rw [List.take_length] at o2
      have d0 := b5.c0
      have d1 := b5.c1
      go_wp2_with ((with_reducible apply wpList_st2); rfl; rfl; exact b2; exact tt2; rfl; rfl; intro w9 B9 F9)
      refine bodyPost_ret (results_cell2_tmp rfl rfl B9 Tryz.underlying32 tt2) rfl ?_
      exact ⟨_, _, _, _, _, _, rfl, fun _ => ⟨(o1.past F9 fun k hk => by omega).sl.any, (o2.past F9 fun k hk => by omega).sl.any⟩, F.comp F9 fun k _ hk => ⟨hk, by omega⟩⟩
end Go.Proofs.YtlknmoegngjpcaaGreat


/- The document's Div over the elements: printed by gen_ptr.py. -/
namespace Go.Proofs.YtlknmoegngjpcaaGreat
open Go.RowKit

/-- numbers of two readings: of the blocks of both -/
theorem Sl.both {k : IntKind} {m : Nat} {S T : Nat → Prop} {w : World} {v : Value} {xs : List Nat} (h : Sl (Kd.nat k m) S w v xs) (h' : Sl (Kd.nat k m) T w v xs) : Sl (Kd.nat k m) (fun j => S j ∧ T j) w v xs := by
  obtain ⟨A, c, e, h1, h2, h3, h4⟩ := h
  obtain ⟨A', c', e', _, _, _, h4'⟩ := h'
  rw [e] at e'
  cases e'
  refine ⟨A, c, e, h1, h2, h3, fun hp => ?_⟩
  obtain ⟨ad, e1, hS, hr⟩ := h4 hp
  obtain ⟨ad', e1', hT, _⟩ := h4' hp
  rw [e1] at e1'
  cases e1'
  exact ⟨ad, e1, ⟨hS, hT⟩, hr⟩
theorem RR.off {S : Nat → Prop} {w : World} {vn vd : Value} {q : Rat} {L b : Nat} {t : TypeId} {p : Bool} {a1 a2 : Option Addr} {n1 c1 n2 c2 : Nat} (h : RR S w vn vd q L) (hb : Box3 w b t (.bool p) (.slice a1 n1 c1) (.slice a2 n2 c2)) : RR (fun k => S k ∧ k ≠ b) w vn vd q L :=
  ⟨⟨h.num.sl.both (h.num.sl.notin hb), h.num.len⟩, ⟨h.den.sl.both (h.den.sl.notin hb), h.den.len⟩⟩

set_option maxRecDepth 20000 in
set_option maxHeartbeats 8000000 in
theorem r8div_t {S T U V : Nat → Prop} (w : World) (vs ve : Value) (us ue : Value) (sh2 : List Int) (ps : List Rat) (sh : List Int) (qs : List Rat) (K : Nat) (hs : Sl Im S w vs sh) (hq : Sl (Rk K) T w ve qs) (hsl : sh.length ≤ 1099511627000) (hql : qs.length ≤ 1099511627000) (hs2 : Sl Im U w us sh2) (hq2 : Sl (Rk K) V w ue ps) (hpl : ps.length ≤ 1099511627000) (hK1 : 1 ≤ K) (hKl : K ≤ 104857600) (r : Int) (hr : Hid ((if sh = sh2 then (if ∀ p ∈ ps, p ≠ 0 then (0 : Int) else 17) else 13) = r)) (hlen : sh = sh2 → qs.length = ps.length) :
    Calls Tryz.prog 33 #[.agg #[vs, ve], .agg #[us, ue]] w (RefE w sh (List.zipWith (fun (x y : Rat) => x / y) qs ps) (2 * K) r) := by
  obtain ⟨A, c, rfl, _, _, hlx⟩ := hs.slice
  obtain ⟨A', c', rfl, _, _, hly⟩ := hq.slice
  obtain ⟨A9, c9, rfl, _, _, hl9⟩ := hs2.slice
  obtain ⟨B9, d9, rfl, _, _, hm9⟩ := hq2.slice
  have HS2 := Lib.hid (hs2.low Im_pos)
  have HQ2 := Lib.hid (hq2.low (Rk_pos K))
  clear hs2 hq2
  have F := ((((Fr.refl (fun k => k < w.heap.size) w).alloc (.cells #[.slice A sh.length c, .slice A' qs.length c'] 32)).alloc (.cells #[.slice A9 sh2.length c9, .slice B9 ps.length d9] 32)).alloc (.cells #[.slice none 0 0, .slice none 0 0] 32))
  have x0 := (((Box2.new w 32 (.slice A sh.length c) (.slice A' qs.length c')).alloc (.cells #[.slice A9 sh2.length c9, .slice B9 ps.length d9] 32)).alloc (.cells #[.slice none 0 0, .slice none 0 0] 32))
  have x1 := ((Box2.new (w.alloc (.cells #[.slice A sh.length c, .slice A' qs.length c'] 32)) 32 (.slice A9 sh2.length c9) (.slice B9 ps.length d9)).alloc (.cells #[.slice none 0 0, .slice none 0 0] 32))
  have b2 := (Box2.new ((w.alloc (.cells #[.slice A sh.length c, .slice A' qs.length c'] 32)).alloc (.cells #[.slice A9 sh2.length c9, .slice B9 ps.length d9] 32)) 32 (.slice none 0 0) (.slice none 0 0))
  simp only [World.size_alloc] at x1 b2
  have HS := Lib.hid (hs.low Im_pos)
  have HQ := Lib.hid (hq.low (Rk_pos K))
  clear hs hq
  have a0 := x0.c0
  have a1 := x0.c1
  have e0 := x1.c0
  go_enter Tryz.func33, Tryz.ntmps33
  go_wp2_with fail
  generalize ((w.alloc (.cells #[.slice A sh.length c, .slice A' qs.length c'] 32)).alloc (.cells #[.slice A9 sh2.length c9, .slice B9 ps.length d9] 32)).alloc (.cells #[.slice none 0 0, .slice none 0 0] 32) = W0 at F x0 x1 b2 a0 a1 e0 ⊢
  obtain ⟨b, hb⟩ : ∃ b, decide (sh = sh2) = b := ⟨_, rfl⟩
  have HP := Lib.hid (sameshape_calls W0 (.slice A sh.length c) (.slice A9 sh2.length c9) sh sh2 (HS.out.fr F) (HS2.out.fr F))
  rw [hb] at HP
  with_reducible refine HP.out.mono ?_
  rintro e W0 ⟨rfl, hf⟩
  replace x0 := x0.fr hf trivial
  replace x1 := x1.fr hf trivial
  replace b2 := b2.fr hf trivial
  replace F := F.comp hf (R := fun k => k < w.heap.size) fun k _ hk => ⟨hk, trivial⟩
  have HB := Lib.hid hb
  clear hf HP hb a0 a1 e0
  by_cases hbt : b = true
  case neg =>
    have hbf : b = false := by cases b; rfl; exact absurd rfl hbt
    clear hbt
    subst hbf
    have hr13 : r = 13 := by rw [← hr.out, if_neg (of_decide_eq_false HB.out)]
    subst hr13
    have lt2 := b2.lt
    go_wp2_with ((with_reducible apply wpList_st2); rfl; rfl; exact b2; exact tt2; rfl; rfl; intro w9 B9 F9)
    refine bodyPost_ret (results_cell2_tmp rfl rfl B9 Tryz.underlying32 tt2) rfl ?_
    exact ⟨none, 0, 0, none, 0, 0, rfl, fun h => absurd h (by decide), F.comp F9 fun k _ hk => ⟨hk, by omega⟩⟩
  subst hbt
  have hsh := of_decide_eq_true HB.out
  have HR := Lib.hid (show (if ∀ p ∈ ps, p ≠ 0 then (0 : Int) else 17) = r by rw [← hr.out, if_pos hsh])
  have hlen9 := Nat.le_of_eq (hlen hsh)
  have hlen8 := Nat.le_of_eq (hlen hsh).symm
  clear hr
  clear hsh HB
  have a0 := x0.c0
  have a1 := x0.c1
  go_wp2_with fail
  have sW := F.size
  have lt2 := b2.lt
  with_reducible refine (shaped_t _ (.slice A sh.length c) (.slice A' qs.length c') sh (HS.out.fr F) ⟨_, _, _, rfl⟩ hsl).mono ?_
  rintro e w1 ⟨A1, n1, c1, rfl, ho1, hf⟩
  have s1 := hf.size
  have al := fun R => (Fr.refl R w1).alloc (.cells #[.slice A1 n1 c1, .slice none 0 0] 32)
  have b5 := Box2.new w1 32 (.slice A1 n1 c1) (.slice none 0 0)
  replace x0 := (x0.keep hf).keep (al _)
  replace x1 := (x1.keep hf).keep (al _)
  replace b2 := (b2.keep hf).keep (al _)
  have o1 := (ho1.bd.keep' (al _)).mono (T := fun k => w.heap.size + 3 ≤ k ∧ k < w1.heap.size) fun k hk => ⟨by have := hk.1; omega, hk.2⟩
  replace F := fr_then (fr_then F hf) (al _)
  clear hf al ho1 a0 a1
  go_wp2_with fail
  go_loopw [7] (fun k W => ∃ (j : Nat) (v2 : Value), k = .int .i64 j ∧ j ≤ qs.length ∧ Hid (∀ i (hi : i < ps.length), i < j → ps[i] ≠ 0) ∧ Box2 W w.heap.size 32 (.slice A sh.length c) (.slice A' qs.length c') ∧ Box2 W (w.heap.size + 1) 32 (.slice A9 sh2.length c9) (.slice B9 ps.length d9) ∧ Box2 W (w.heap.size + 2) 32 (.slice none 0 0) (.slice none 0 0) ∧ Box2 W w1.heap.size 32 (.slice A1 n1 c1) v2 ∧ Own Im 3 (fun k => w.heap.size + 3 ≤ k ∧ k < w1.heap.size) W (.slice A1 n1 c1) sh ∧ Own (Rk (2 * K)) 56 (fun k => k < w.heap.size ∨ w1.heap.size < k) W v2 ((List.zipWith (fun (x y : Rat) => x / y) qs ps).take j) ∧ (∀ b, v2.ownBlock = some b → w1.heap.size < b) ∧ Fr (fun k => k < w.heap.size) w W ∧ w1.heap.size < W.heap.size) (fun k _ => qs.length - (intOf k).toNat)
  case atStart => exact ⟨0, _, rfl, by omega, Lib.hid (fun i hi h => by omega), x0, x1, b2, b5, o1, Own.nil _ _ _ _, fun b h => by simp [Value.ownBlock] at h, F, by simp⟩
  case round =>
    clear x0 x1 b2 b5 o1 F
    obtain ⟨j, v2, rfl, hj, HZ, x0, x1, b2, b5, o1, o2, hob, F, hwr⟩ := hrel
    obtain ⟨A2, n2, c2, rfl⟩ := o2.form
    have a1 := x0.c1
    by_cases hlt : j < qs.length
    · have hlt9 : j < ps.length := by omega
      have HTK := Lib.hid (zip_step (f := (fun (x y : Rat) => x / y)) hlt hlt9)
      obtain ⟨ad, P, n, d, Q, m, o, rfl, hS, g0, g1, g2, rr⟩ := Rk_get (HQ.out.fr F) hlt
      obtain ⟨ae, P9, n9, e9, Q9, m9, g9, rfl, hS9, k0, k1, k2, re⟩ := Rk_get (HQ2.out.fr F) hlt9
      generalize qs[j] = y at g0 rr HTK
      obtain ⟨z, hz⟩ : ∃ z, ps[j] = z := ⟨_, rfl⟩
      rw [hz] at k0 re HTK
      have HLn := Lib.hid (show (((List.zipWith (fun (x y : Rat) => x / y) qs ps).take j).length + 1) * 56 ≤ 140737488355328 ∧ ((List.zipWith (fun (x y : Rat) => x / y) qs ps).take j).length + 1 ≤ 9223372036854775807 by rw [List.length_take, List.length_zipWith]; omega)
      have lt2 := o2.lt
      have l1 := x0.lt
      have l2 := b2.lt
      have l3 := b5.lt
      have D := fun R => (Fr.refl R wr).drew
      have dx0 := x0.keep (D _)
      have dx1 := x1.keep (D _)
      have db2 := b2.keep (D _)
      have db5 := b5.keep (D _)
      have do1 := o1.keep' (D _)
      have do2 := o2.keep' (D _)
      have dF := F.drew
      have RRd := Lib.hid (rr.keep (D _))
      have RRe := Lib.hid (re.keep (D _))
      have hWd : wr.drew.heap.size = wr.heap.size := rfl
      have KS : ∀ u, Fr (fun k => k < wr.drew.heap.size) wr.drew u → u.cell? (ad.add (j * 3)) = some (.bool (sg y)) ∧ u.cell? ⟨(ad.add (j * 3)).block, (ad.add (j * 3)).off + 1, none⟩ = some (.slice P n d) ∧ u.cell? ⟨(ad.add (j * 3)).block, (ad.add (j * 3)).off + 2, none⟩ = some (.slice Q m o) ∧ u.cell? (ae.add (j * 3)) = some (.bool (sg z)) ∧ u.cell? ⟨(ae.add (j * 3)).block, (ae.add (j * 3)).off + 1, none⟩ = some (.slice P9 n9 e9) ∧ u.cell? ⟨(ae.add (j * 3)).block, (ae.add (j * 3)).off + 2, none⟩ = some (.slice Q9 m9 g9) := fun u hu => ⟨hu.cell g0 (World.block_lt_of_cell? _ _ g0), hu.cell g1 (World.block_lt_of_cell? _ _ g1), hu.cell g2 (World.block_lt_of_cell? _ _ g2), hu.cell k0 (World.block_lt_of_cell? _ _ k0), hu.cell k1 (World.block_lt_of_cell? _ _ k1), hu.cell k2 (World.block_lt_of_cell? _ _ k2)⟩
      clear x0 x1 b2 b5 o1 o2 F g0 g1 g2 k0 k1 k2 rr re
      go_wp2_with fail
      by_cases hz0 : z = 0
      · have hr17 : r = 17 := by rw [← HR.out, if_neg (fun h => h _ (List.getElem_mem hlt9) (by rw [hz, hz0]))]
        clear HR
        subst hr17
        refine wpTill.begin (fun _ => True) 15 (by kernel_rfl) ?_
        change wpTill _ _ _ _ _ _ 17 _ _ _
        refine wpTill.free (jj := 15) (m := 2) [(0, Fact.eq (.pointer (some ⟨w.heap.size, 1, none⟩))),
      (1, Fact.eq (.slice (some ad) qs.length c')),
      (2, Fact.eq (.int .i64 j)),
      (3, Fact.eq (.pointer (some (ad.add (j * 3))))),
      (4, Fact.eq (.agg #[.bool (sg y), .slice P n d, .slice Q m o])),
      (5, Fact.eq (.pointer (some ⟨w.heap.size + 1, 1, none⟩))),
      (6, Fact.eq (.slice (some ae) ps.length d9)),
      (7, Fact.eq (.int .i64 j)),
      (8, Fact.eq (.pointer (some (ae.add (j * 3))))),
      (9, Fact.eq (.agg #[.bool (sg z), .slice P9 n9 e9, .slice Q9 m9 g9])),
      (10, Fact.eq (.tuple #[.agg #[.bool false, .slice none 0 0, .slice none 0 0], .bool false])),
      (11, Fact.eq (.tuple #[.agg #[.bool false, .slice none 0 0, .slice none 0 0], .bool false])),
      (12, Fact.eq (.agg #[.bool false, .slice none 0 0, .slice none 0 0])),
      (14, Fact.mem (New3 wr.drew.heap.size 56 (.bool false) (.slice none 0 0) (.slice none 0 0)) New3.keep)] [(13, Fact.eq (.bool false))] [0, 1, 0, 7, 15, 0, 32, 0, 224, 480, 1023, 2047, 4095, 4095, 0, 24575, 65535] [] ?_ (by kernel_rfl) (by kernel_rfl) (by kernel_rfl) [(0, some 27), (1, some 28), (2, some 29), (3, some 30), (4, some 31), (5, some 32), (6, some 33), (7, some 34), (8, some 35), (9, some 36), (10, some 37), (11, some 26), (12, some 38), (14, some 8), (13, some 39)] (by kernel_rfl) ?hA ?hQ (fun _ _ => trivial) (by kernel_rfl) ?steps ?looses ?cont
        case hQ => exact fun _ _ _ _ _ h => h
        case hA =>
          intro vs
          simp only [fillD, List.foldl_cons, List.foldl_nil, Act.put, List.setIfInBounds_toArray, List.set_cons_zero, List.set_cons_succ]
          exact rfl
        case steps =>
          refine ⟨?_, ?_, ?_, ?_, ?_, ?_, ?_, ?_, ?_, ?_, ?_, ?_, ?_, ?_, trivial⟩
          · rintro vs u ⟨hV0, hV1, hV2, hV3, hV4, hV5, hV6, hV7, hV8, hV9, hV10, hV11, hV12, hV14, hV13, -⟩ G
            exact stepAt.pure (v := .pointer (some ⟨w.heap.size, 1, none⟩)) rfl rfl (by go_simp) rfl
          · rintro vs u ⟨hV0, hV1, hV2, hV3, hV4, hV5, hV6, hV7, hV8, hV9, hV10, hV11, hV12, hV14, hV13, -⟩ G
            have o0 := (dx0.keep G).c1
            have eV0 : vs 0 = .pointer (some ⟨w.heap.size, 1, none⟩) := hV0 rfl
            exact stepAt.pure (v := .slice (some ad) qs.length c') rfl rfl (by simp only [eV0]; go_simp) rfl
          · rintro vs u ⟨hV0, hV1, hV2, hV3, hV4, hV5, hV6, hV7, hV8, hV9, hV10, hV11, hV12, hV14, hV13, -⟩ G
            exact stepAt.pure (v := .int .i64 j) rfl rfl (by go_simp) rfl
          · rintro vs u ⟨hV0, hV1, hV2, hV3, hV4, hV5, hV6, hV7, hV8, hV9, hV10, hV11, hV12, hV14, hV13, -⟩ G
            have eV1 : vs 1 = .slice (some ad) qs.length c' := hV1 rfl
            have eV2 : vs 2 = .int .i64 j := hV2 rfl
            exact stepAt.pure (v := .pointer (some (ad.add (j * 3)))) rfl rfl (by simp only [eV1, eV2]; go_simp) rfl
          · rintro vs u ⟨hV0, hV1, hV2, hV3, hV4, hV5, hV6, hV7, hV8, hV9, hV10, hV11, hV12, hV14, hV13, -⟩ G
            obtain ⟨o0, o1, o2, -⟩ := KS u G
            have eV3 : vs 3 = .pointer (some (ad.add (j * 3))) := hV3 rfl
            exact stepAt.pure (v := .agg #[.bool (sg y), .slice P n d, .slice Q m o]) rfl rfl (by simp only [eV3]; go_simp) rfl
          · rintro vs u ⟨hV0, hV1, hV2, hV3, hV4, hV5, hV6, hV7, hV8, hV9, hV10, hV11, hV12, hV14, hV13, -⟩ G
            exact stepAt.pure (v := .pointer (some ⟨w.heap.size + 1, 1, none⟩)) rfl rfl (by go_simp) rfl
          · rintro vs u ⟨hV0, hV1, hV2, hV3, hV4, hV5, hV6, hV7, hV8, hV9, hV10, hV11, hV12, hV14, hV13, -⟩ G
            have o0 := (dx1.keep G).c1
            have eV5 : vs 5 = .pointer (some ⟨w.heap.size + 1, 1, none⟩) := hV5 rfl
            exact stepAt.pure (v := .slice (some ae) ps.length d9) rfl rfl (by simp only [eV5]; go_simp) rfl
          · rintro vs u ⟨hV0, hV1, hV2, hV3, hV4, hV5, hV6, hV7, hV8, hV9, hV10, hV11, hV12, hV14, hV13, -⟩ G
            exact stepAt.pure (v := .int .i64 j) rfl rfl (by go_simp) rfl
          · rintro vs u ⟨hV0, hV1, hV2, hV3, hV4, hV5, hV6, hV7, hV8, hV9, hV10, hV11, hV12, hV14, hV13, -⟩ G
            have eV6 : vs 6 = .slice (some ae) ps.length d9 := hV6 rfl
            have eV7 : vs 7 = .int .i64 j := hV7 rfl
            exact stepAt.pure (v := .pointer (some (ae.add (j * 3)))) rfl rfl (by simp only [eV6, eV7]; go_simp) rfl
          · rintro vs u ⟨hV0, hV1, hV2, hV3, hV4, hV5, hV6, hV7, hV8, hV9, hV10, hV11, hV12, hV14, hV13, -⟩ G
            obtain ⟨-, -, -, o0, o1, o2⟩ := KS u G
            have eV8 : vs 8 = .pointer (some (ae.add (j * 3))) := hV8 rfl
            exact stepAt.pure (v := .agg #[.bool (sg z), .slice P9 n9 e9, .slice Q9 m9 g9]) rfl rfl (by simp only [eV8]; go_simp) rfl
          · rintro vs u ⟨hV0, hV1, hV2, hV3, hV4, hV5, hV6, hV7, hV8, hV9, hV10, hV11, hV12, hV14, hV13, -⟩ G
            refine stepAt.call (f := 73) (args := #[vs 4, vs 9]) rfl rfl (by go_simp) ?_
            have eV4 : vs 4 = .agg #[.bool (sg y), .slice P n d, .slice Q m o] := hV4 rfl
            have eV9 : vs 9 = .agg #[.bool (sg z), .slice P9 n9 e9, .slice Q9 m9 g9] := hV9 rfl
            rw [eV4, eV9]
            with_reducible refine (rdiv_q0 u (sg y) (sg z) (.slice P n d) (.slice Q m o) (.slice P9 n9 e9) (.slice Q9 m9 g9) y K (RRd.out.keep G) (by have := RRe.out.keep G; rwa [hz0] at this)).mono ?_
            rintro e u' ⟨rfl, hf⟩
            exact ⟨_, rfl, hf, rfl⟩
          · rintro vs u ⟨hV0, hV1, hV2, hV3, hV4, hV5, hV6, hV7, hV8, hV9, hV10, hV11, hV12, hV14, hV13, -⟩ G
            have eV10 : vs 10 = .tuple #[.agg #[.bool false, .slice none 0 0, .slice none 0 0], .bool false] := hV10 rfl
            exact stepAt.pure (v := .tuple #[.agg #[.bool false, .slice none 0 0, .slice none 0 0], .bool false]) rfl rfl (by simp only [eV10]; go_simp) rfl
          · rintro vs u ⟨hV0, hV1, hV2, hV3, hV4, hV5, hV6, hV7, hV8, hV9, hV10, hV11, hV12, hV14, hV13, -⟩ G
            have eV11 : vs 11 = .tuple #[.agg #[.bool false, .slice none 0 0, .slice none 0 0], .bool false] := hV11 rfl
            exact stepAt.pure (v := .agg #[.bool false, .slice none 0 0, .slice none 0 0]) rfl rfl (by simp only [eV11]; go_simp) rfl
          · rintro vs u ⟨hV0, hV1, hV2, hV3, hV4, hV5, hV6, hV7, hV8, hV9, hV10, hV11, hV12, hV14, hV13, -⟩ G
            exact stepAt.value (v := .pointer (some ⟨u.heap.size, 0, none⟩)) (u := u.alloc (.cells #[.bool false, .slice none 0 0, .slice none 0 0] 56)) rfl rfl (by go_simp) ((Fr.refl _ _).alloc _) ⟨_, rfl, G.size, Box3.new _ _ _ _ _⟩
        case looses =>
          refine ⟨?_, trivial⟩
          · rintro vs u ⟨hV0, hV1, hV2, hV3, hV4, hV5, hV6, hV7, hV8, hV9, hV10, hV11, hV12, hV14, hV13, -⟩ G
            have eV11 : vs 11 = .tuple #[.agg #[.bool false, .slice none 0 0, .slice none 0 0], .bool false] := hV11 rfl
            exact pureAt.of (v := .bool false) rfl rfl (fun _ => by simp only [eV11]; go_simp) rfl
        case cont =>
          rintro vs u ⟨hV0, hV1, hV2, hV3, hV4, hV5, hV6, hV7, hV8, hV9, hV10, hV11, hV12, hV14, hV13, -⟩ G
          have eV0 : vs 0 = .pointer (some ⟨w.heap.size, 1, none⟩) := hV0
          have eV1 : vs 1 = .slice (some ad) qs.length c' := hV1
          have eV2 : vs 2 = .int .i64 j := hV2
          have eV3 : vs 3 = .pointer (some (ad.add (j * 3))) := hV3
          have eV4 : vs 4 = .agg #[.bool (sg y), .slice P n d, .slice Q m o] := hV4
          have eV5 : vs 5 = .pointer (some ⟨w.heap.size + 1, 1, none⟩) := hV5
          have eV6 : vs 6 = .slice (some ae) ps.length d9 := hV6
          have eV7 : vs 7 = .int .i64 j := hV7
          have eV8 : vs 8 = .pointer (some (ae.add (j * 3))) := hV8
          have eV9 : vs 9 = .agg #[.bool (sg z), .slice P9 n9 e9, .slice Q9 m9 g9] := hV9
          have eV10 : vs 10 = .tuple #[.agg #[.bool false, .slice none 0 0, .slice none 0 0], .bool false] := hV10
          have eV11 : vs 11 = .tuple #[.agg #[.bool false, .slice none 0 0, .slice none 0 0], .bool false] := hV11
          have eV12 : vs 12 = .agg #[.bool false, .slice none 0 0, .slice none 0 0] := hV12
          obtain ⟨b14, eV14, l14, y14⟩ := hV14
          replace eV14 : vs 14 = _ := eV14
          have eV13 : vs 13 = .bool false := hV13
          simp only [eV0, eV1, eV2, eV3, eV4, eV5, eV6, eV7, eV8, eV9, eV10, eV11, eV12, eV14, eV13]
          clear eV0 eV1 eV2 eV3 eV4 eV5 eV6 eV7 eV8 eV9 eV10 eV11 eV12 eV14 eV13 hV0 hV1 hV2 hV3 hV4 hV5 hV6 hV7 hV8 hV9 hV10 hV11 hV12 hV13
          have g0 := y14.free 0
          have g1 := y14.free 1
          have g2 := y14.free 2
          have h0 := y14.c0
          have h1 := y14.c1
          have h2 := y14.c2
          refine wpTill.next 15 rfl (by kernel_rfl) (by rfl) (fun K hK => ?_)
          go_simp
          refine hK _ _ (no_wait (by kernel_rfl)) ?_
          clear hK K
          refine wpTill.next 16 rfl (by kernel_rfl) (by rfl) (fun K hK => ?_)
          go_simp
          refine hK _ _ (no_wait (by kernel_rfl)) ?_
          clear hK K
          refine wpTill.done (by kernel_rfl) ?_
          have F4 := fr_set3 u b14 (.bool false) (.slice none 0 0) (.slice none 0 0)
          have z14 := y14.set3 (.bool false) (.slice none 0 0) (.slice none 0 0)
          have GF := G.comp F4 (R := fun k => k < wr.drew.heap.size) fun k _ hk => ⟨hk, by omega⟩
          clear KS RRd RRe do1 do2 y14 z14 g0 g1 g2 h0 h1 h2 F4
          replace db2 := db2.keep GF
          replace dF := fr_then dF GF
          have ltb := db2.lt
          go_wp2_with ((with_reducible apply wpList_st2); rfl; rfl; exact db2; exact tt2; rfl; rfl; intro w9 B9 F9)
          refine bodyPost_ret (results_cell2_tmp rfl rfl B9 Tryz.underlying32 tt2) rfl ?_
          exact ⟨none, 0, 0, none, 0, 0, rfl, fun h => absurd h (by decide), dF.comp F9 fun k _ hk => ⟨hk, by omega⟩⟩
      · refine wpTill.begin (fun _ => True) 15 (by kernel_rfl) ?_
        change wpTill _ _ _ _ _ _ 17 _ _ _
        refine wpTill.free (jj := 15) (m := 2) [(0, Fact.eq (.pointer (some ⟨w.heap.size, 1, none⟩))),
      (1, Fact.eq (.slice (some ad) qs.length c')),
      (2, Fact.eq (.int .i64 j)),
      (3, Fact.eq (.pointer (some (ad.add (j * 3))))),
      (4, Fact.eq (.agg #[.bool (sg y), .slice P n d, .slice Q m o])),
      (5, Fact.eq (.pointer (some ⟨w.heap.size + 1, 1, none⟩))),
      (6, Fact.eq (.slice (some ae) ps.length d9)),
      (7, Fact.eq (.int .i64 j)),
      (8, Fact.eq (.pointer (some (ae.add (j * 3))))),
      (9, Fact.eq (.agg #[.bool (sg z), .slice P9 n9 e9, .slice Q9 m9 g9])),
      (10, Fact.mem (fun u v => ∃ A i j B k l, v = .tuple #[.agg #[.bool (sg (y / z)), .slice A i j, .slice B k l], .bool true] ∧ Hold (fun u => RR (fun k => wr.drew.heap.size ≤ k) u (.slice A i j) (.slice B k l) (y / z) (2 * K)) u) (fun hf ⟨A, i, j, B, k, l, e, h⟩ => ⟨A, i, j, B, k, l, e, h.keep hf⟩)),
      (11, Fact.same 10),
      (12, Fact.fst 11),
      (14, Fact.mem (New3 wr.drew.heap.size 56 (.bool false) (.slice none 0 0) (.slice none 0 0)) New3.keep)] [(13, Fact.snd 11)] [0, 1, 0, 7, 15, 0, 32, 0, 224, 480, 1023, 2047, 4095, 4095, 0, 24575, 65535] [] ?_ (by kernel_rfl) (by kernel_rfl) (by kernel_rfl) [(0, some 27), (1, some 28), (2, some 29), (3, some 30), (4, some 31), (5, some 32), (6, some 33), (7, some 34), (8, some 35), (9, some 36), (10, some 37), (11, some 26), (12, some 38), (14, some 8), (13, some 39)] (by kernel_rfl) ?hA ?hQ (fun _ _ => trivial) (by kernel_rfl) ?steps ?looses ?cont
        case hQ => exact fun _ _ _ _ _ h => h
        case hA =>
          intro vs
          simp only [fillD, List.foldl_cons, List.foldl_nil, Act.put, List.setIfInBounds_toArray, List.set_cons_zero, List.set_cons_succ]
          exact rfl
        case steps =>
          refine ⟨?_, ?_, ?_, ?_, ?_, ?_, ?_, ?_, ?_, ?_, ?_, ?_, ?_, ?_, trivial⟩
          · rintro vs u ⟨hV0, hV1, hV2, hV3, hV4, hV5, hV6, hV7, hV8, hV9, hV10, hV11, hV12, hV14, hV13, -⟩ G
            exact stepAt.pure (v := .pointer (some ⟨w.heap.size, 1, none⟩)) rfl rfl (by go_simp) rfl
          · rintro vs u ⟨hV0, hV1, hV2, hV3, hV4, hV5, hV6, hV7, hV8, hV9, hV10, hV11, hV12, hV14, hV13, -⟩ G
            have o0 := (dx0.keep G).c1
            have eV0 : vs 0 = .pointer (some ⟨w.heap.size, 1, none⟩) := hV0 rfl
            exact stepAt.pure (v := .slice (some ad) qs.length c') rfl rfl (by simp only [eV0]; go_simp) rfl
          · rintro vs u ⟨hV0, hV1, hV2, hV3, hV4, hV5, hV6, hV7, hV8, hV9, hV10, hV11, hV12, hV14, hV13, -⟩ G
            exact stepAt.pure (v := .int .i64 j) rfl rfl (by go_simp) rfl
          · rintro vs u ⟨hV0, hV1, hV2, hV3, hV4, hV5, hV6, hV7, hV8, hV9, hV10, hV11, hV12, hV14, hV13, -⟩ G
            have eV1 : vs 1 = .slice (some ad) qs.length c' := hV1 rfl
            have eV2 : vs 2 = .int .i64 j := hV2 rfl
            exact stepAt.pure (v := .pointer (some (ad.add (j * 3)))) rfl rfl (by simp only [eV1, eV2]; go_simp) rfl
          · rintro vs u ⟨hV0, hV1, hV2, hV3, hV4, hV5, hV6, hV7, hV8, hV9, hV10, hV11, hV12, hV14, hV13, -⟩ G
            obtain ⟨o0, o1, o2, -⟩ := KS u G
            have eV3 : vs 3 = .pointer (some (ad.add (j * 3))) := hV3 rfl
            exact stepAt.pure (v := .agg #[.bool (sg y), .slice P n d, .slice Q m o]) rfl rfl (by simp only [eV3]; go_simp) rfl
          · rintro vs u ⟨hV0, hV1, hV2, hV3, hV4, hV5, hV6, hV7, hV8, hV9, hV10, hV11, hV12, hV14, hV13, -⟩ G
            exact stepAt.pure (v := .pointer (some ⟨w.heap.size + 1, 1, none⟩)) rfl rfl (by go_simp) rfl
          · rintro vs u ⟨hV0, hV1, hV2, hV3, hV4, hV5, hV6, hV7, hV8, hV9, hV10, hV11, hV12, hV14, hV13, -⟩ G
            have o0 := (dx1.keep G).c1
            have eV5 : vs 5 = .pointer (some ⟨w.heap.size + 1, 1, none⟩) := hV5 rfl
            exact stepAt.pure (v := .slice (some ae) ps.length d9) rfl rfl (by simp only [eV5]; go_simp) rfl
          · rintro vs u ⟨hV0, hV1, hV2, hV3, hV4, hV5, hV6, hV7, hV8, hV9, hV10, hV11, hV12, hV14, hV13, -⟩ G
            exact stepAt.pure (v := .int .i64 j) rfl rfl (by go_simp) rfl
          · rintro vs u ⟨hV0, hV1, hV2, hV3, hV4, hV5, hV6, hV7, hV8, hV9, hV10, hV11, hV12, hV14, hV13, -⟩ G
            have eV6 : vs 6 = .slice (some ae) ps.length d9 := hV6 rfl
            have eV7 : vs 7 = .int .i64 j := hV7 rfl
            exact stepAt.pure (v := .pointer (some (ae.add (j * 3)))) rfl rfl (by simp only [eV6, eV7]; go_simp) rfl
          · rintro vs u ⟨hV0, hV1, hV2, hV3, hV4, hV5, hV6, hV7, hV8, hV9, hV10, hV11, hV12, hV14, hV13, -⟩ G
            obtain ⟨-, -, -, o0, o1, o2⟩ := KS u G
            have eV8 : vs 8 = .pointer (some (ae.add (j * 3))) := hV8 rfl
            exact stepAt.pure (v := .agg #[.bool (sg z), .slice P9 n9 e9, .slice Q9 m9 g9]) rfl rfl (by simp only [eV8]; go_simp) rfl
          · rintro vs u ⟨hV0, hV1, hV2, hV3, hV4, hV5, hV6, hV7, hV8, hV9, hV10, hV11, hV12, hV14, hV13, -⟩ G
            refine stepAt.call (f := 73) (args := #[vs 4, vs 9]) rfl rfl (by go_simp) ?_
            have eV4 : vs 4 = .agg #[.bool (sg y), .slice P n d, .slice Q m o] := hV4 rfl
            have eV9 : vs 9 = .agg #[.bool (sg z), .slice P9 n9 e9, .slice Q9 m9 g9] := hV9 rfl
            rw [eV4, eV9]
            with_reducible refine (rdiv_q u (sg y) (sg z) (.slice P n d) (.slice Q m o) (.slice P9 n9 e9) (.slice Q9 m9 g9) y z K (RRd.out.keep G) (RRe.out.keep G) rfl rfl hz0 hK1 hKl).mono ?_
            rintro e u' ⟨v3, v4, rfl, hc, hf⟩
            obtain ⟨⟨A3, i3, j3, rfl⟩, ⟨A4, i4, j4, rfl⟩⟩ := hc.form
            exact ⟨_, rfl, hf, _, _, _, _, _, _, rfl, fun u' hu' => (hc.mono fun k hk => Nat.le_trans G.size hk).keep hu'⟩
          · rintro vs u ⟨hV0, hV1, hV2, hV3, hV4, hV5, hV6, hV7, hV8, hV9, hV10, hV11, hV12, hV14, hV13, -⟩ G
            exact stepAt.pure (v := vs 10) rfl rfl (by go_simp) rfl
          · rintro vs u ⟨hV0, hV1, hV2, hV3, hV4, hV5, hV6, hV7, hV8, hV9, hV10, hV11, hV12, hV14, hV13, -⟩ G
            obtain ⟨A3, i3, j3, A4, i4, j4, eV10, r3⟩ := hV10 rfl
            replace eV11 : vs 11 = .tuple #[.agg #[.bool (sg (y / z)), .slice A3 i3 j3, .slice A4 i4 j4], .bool true] := (show vs 11 = vs 10 from hV11 rfl).trans eV10
            exact stepAt.pure (v := .agg #[.bool (sg (y / z)), .slice A3 i3 j3, .slice A4 i4 j4]) rfl rfl (by simp only [eV11]; go_simp) ⟨_, _, eV11, rfl⟩
          · rintro vs u ⟨hV0, hV1, hV2, hV3, hV4, hV5, hV6, hV7, hV8, hV9, hV10, hV11, hV12, hV14, hV13, -⟩ G
            exact stepAt.value (v := .pointer (some ⟨u.heap.size, 0, none⟩)) (u := u.alloc (.cells #[.bool false, .slice none 0 0, .slice none 0 0] 56)) rfl rfl (by go_simp) ((Fr.refl _ _).alloc _) ⟨_, rfl, G.size, Box3.new _ _ _ _ _⟩
        case looses =>
          refine ⟨?_, trivial⟩
          · rintro vs u ⟨hV0, hV1, hV2, hV3, hV4, hV5, hV6, hV7, hV8, hV9, hV10, hV11, hV12, hV14, hV13, -⟩ G
            obtain ⟨A3, i3, j3, A4, i4, j4, eV10, r3⟩ := hV10 rfl
            replace eV11 : vs 11 = .tuple #[.agg #[.bool (sg (y / z)), .slice A3 i3 j3, .slice A4 i4 j4], .bool true] := (show vs 11 = vs 10 from hV11 rfl).trans eV10
            exact pureAt.of (v := .bool true) rfl rfl (fun _ => by simp only [eV11]; go_simp) ⟨_, _, eV11, rfl⟩
        case cont =>
          rintro vs u ⟨hV0, hV1, hV2, hV3, hV4, hV5, hV6, hV7, hV8, hV9, hV10, hV11, hV12, hV14, hV13, -⟩ G
          have eV0 : vs 0 = .pointer (some ⟨w.heap.size, 1, none⟩) := hV0
          have eV1 : vs 1 = .slice (some ad) qs.length c' := hV1
          have eV2 : vs 2 = .int .i64 j := hV2
          have eV3 : vs 3 = .pointer (some (ad.add (j * 3))) := hV3
          have eV4 : vs 4 = .agg #[.bool (sg y), .slice P n d, .slice Q m o] := hV4
          have eV5 : vs 5 = .pointer (some ⟨w.heap.size + 1, 1, none⟩) := hV5
          have eV6 : vs 6 = .slice (some ae) ps.length d9 := hV6
          have eV7 : vs 7 = .int .i64 j := hV7
          have eV8 : vs 8 = .pointer (some (ae.add (j * 3))) := hV8
          have eV9 : vs 9 = .agg #[.bool (sg z), .slice P9 n9 e9, .slice Q9 m9 g9] := hV9
          obtain ⟨A3, i3, j3, A4, i4, j4, eV10, r3⟩ := hV10
          replace eV10 : vs 10 = _ := eV10
          have eV11 : vs 11 = _ := (show vs 11 = vs 10 from hV11).trans eV10
          obtain ⟨x12, z12, a12, eV12⟩ := hV12
          have a12 := (eV11.symm.trans a12)
          cases a12
          replace eV12 : vs 12 = _ := eV12
          obtain ⟨b14, eV14, l14, y14⟩ := hV14
          replace eV14 : vs 14 = _ := eV14
          obtain ⟨x13, z13, a13, eV13⟩ := hV13
          have a13 := (eV11.symm.trans a13)
          cases a13
          replace eV13 : vs 13 = _ := eV13
          simp only [eV0, eV1, eV2, eV3, eV4, eV5, eV6, eV7, eV8, eV9, eV10, eV11, eV12, eV14, eV13]
          clear eV0 eV1 eV2 eV3 eV4 eV5 eV6 eV7 eV8 eV9 eV10 eV11 eV12 eV14 eV13 hV0 hV1 hV2 hV3 hV4 hV5 hV6 hV7 hV8 hV9
          have g0 := y14.free 0
          have g1 := y14.free 1
          have g2 := y14.free 2
          have h0 := y14.c0
          have h1 := y14.c1
          have h2 := y14.c2
          refine wpTill.next 15 rfl (by kernel_rfl) (by rfl) (fun K hK => ?_)
          go_simp
          refine hK _ _ (no_wait (by kernel_rfl)) ?_
          clear hK K
          refine wpTill.next 16 rfl (by kernel_rfl) (by rfl) (fun K hK => ?_)
          go_simp
          refine hK _ _ (no_wait (by kernel_rfl)) ?_
          clear hK K
          refine wpTill.done (by kernel_rfl) ?_
          have F4 := fr_set3 u b14 (.bool (sg (y / z))) (.slice A3 i3 j3) (.slice A4 i4 j4)
          have z14 := y14.set3 (.bool (sg (y / z))) (.slice A3 i3 j3) (.slice A4 i4 j4)
          have GF := G.comp F4 (R := fun k => k < wr.drew.heap.size) fun k _ hk => ⟨hk, by omega⟩
          have r4 : RR (fun k => wr.drew.heap.size ≤ k ∧ k ≠ b14) (((u.setCell ⟨b14, 0, none⟩ (.bool (sg (y / z)))).setCell ⟨b14, 1, none⟩ (.slice A3 i3 j3)).setCell ⟨b14, 2, none⟩ (.slice A4 i4 j4)) (.slice A3 i3 j3) (.slice A4 i4 j4) (y / z) (2 * K) := (r3.now.off y14).fr (F4.mono fun k _ hk => hk.2)
          clear KS RRd RRe y14 g0 g1 g2 h0 h1 h2 r3
          replace dx0 := dx0.keep GF
          replace dx1 := dx1.keep GF
          replace db2 := db2.keep GF
          replace db5 := db5.keep GF
          replace do1 := do1.keep' GF
          have lt2 := do2.lt
          replace do2 := do2.keep' GF
          replace dF := fr_then dF GF
          have sz := GF.size
          have HZ' := Lib.hid (show ∀ i (hi : i < ps.length), i < j + 1 → ps[i] ≠ 0 from fun i hi h => by
            by_cases hij : i = j
            · subst hij; rw [hz]; exact hz0
            · exact HZ.out i hi (by omega))
          have R4 := Lib.hid r4
          have lz := z14.lt
          generalize ((u.setCell ⟨b14, 0, none⟩ (.bool (sg (y / z)))).setCell ⟨b14, 1, none⟩ (.slice A3 i3 j3)).setCell ⟨b14, 2, none⟩ (.slice A4 i4 j4) = U at *
          have y0 := z14.c0
          have y1 := z14.c1
          have y2 := z14.c2
          have c5 := db5.c1
          obtain ⟨s8, hs8⟩ : ∃ s, sg (y / z) = s := ⟨_, rfl⟩
          rw [hs8] at y0
          have HS8 := Lib.hid hs8
          clear r4 GF F4 G z14 hs8 l14
          go_wp2_with (at_builtin; refine wpList_push1 (v := .slice A2 n2 c2) (y := y / z) (T := fun k => wr.heap.size ≤ k) (cs := [.bool s8, .slice A3 i3 j3, .slice A4 i4 j4]) (rkT (2 * K)) rfl rfl rfl rfl do2 ⟨_, _, by rw [HS8.out], R4.out.mono fun k hk => by omega⟩ (fun k hk _ => ⟨by omega, fun e => by have := hob k e.symm; have := lt2 k e.symm; omega⟩) (fun k hk => .inr (by omega)) HLn.out.1 HLn.out.2 ?_; intro v3 w3 ho hfr hat; obtain ⟨A5, m5, k5, rfl⟩ := ho.form; have d5 := db5.fr hfr (fun e => by have := hob _ e.symm; omega); have d1 := d5.c1; have d2 := d5.free 1)
          have F9 := fr_set1 w3 w1.heap.size 1 (.slice A5 m5 k5)
          go_roundw
          case rel =>
            refine ⟨j + 1, _, by go_num, by omega, HZ', (dx0.fr hfr (fun e => by have := hob _ e.symm; omega)).fr F9 (by omega), (dx1.fr hfr (fun e => by have := hob _ e.symm; omega)).fr F9 (by omega), (db2.fr hfr (fun e => by have := hob _ e.symm; omega)).fr F9 (by omega), d5.set1 _, (do1.fr (hfr.mono fun k _ hk e => by have := hob _ e.symm; omega)).past F9 (fun k hk => by omega),
              by rw [HTK.out]; exact ho.past F9 (fun k hk => by omega), fun b hb => ?_, (dF.comp hfr (R := fun k => k < w.heap.size) fun k _ hk => ⟨hk, fun e => by have := hob _ e.symm; omega⟩).comp F9 fun k _ hk => ⟨hk, by omega⟩, ?_⟩
            · rcases hat with e | ⟨b', e, hb'⟩
              · exact hob b (by rw [← e]; exact hb)
              · rw [e] at hb
                cases hb
                omega
            · have := F9.size
              have := hfr.size
              omega
          case measure => first | (simp [intOf]; done) | (simp [intOf]; omega)
    · obtain rfl : j = qs.length := by omega
      have hr0 : r = 0 := by
        rw [← HR.out, if_pos]
        intro p hp h0
        obtain ⟨i, hi, rfl⟩ := List.mem_iff_getElem.1 hp
        exact HZ.out i hi (by omega) h0
      clear HR
      subst hr0
      rw [List.take_of_length_le (by rw [List.length_zipWith]; omega)] at o2
      have d0 := b5.c0
      have d1 := b5.c1
      go_wp2_with ((with_reducible apply wpList_st2); rfl; rfl; exact b2; exact tt2; rfl; rfl; intro w9 B9 F9)
      refine bodyPost_ret (results_cell2_tmp rfl rfl B9 Tryz.underlying32 tt2) rfl ?_
      exact ⟨_, _, _, _, _, _, rfl, fun _ => ⟨(o1.past F9 fun k hk => by omega).sl.any, (o2.past F9 fun k hk => by omega).sl.any⟩, F.comp F9 fun k _ hk => ⟨hk, by omega⟩⟩
end Go.Proofs.YtlknmoegngjpcaaGreat


/- The document's Small; law08's row. -/
namespace Go.Proofs.YtlknmoegngjpcaaGreat
open Go.RowKit

def smallB (es : List Rat) : Bool := decide (es.length ≤ 64 ∧ ∀ q ∈ es, (dg DB q.num.natAbs).length ≤ 5 ∧ (dg DB q.den).length ≤ 5)

set_option maxHeartbeats 4000000 in
theorem small_t {T : Nat → Prop} (w : World) (vs ve : Value) (es : List Rat) (K : Nat) (b : Bool) (hb : Hid (smallB es = b)) (hvs : ∃ A n c, vs = .slice A n c) (he : Sl (Rk K) T w ve es) :
    Calls Tryz.prog 13 #[.agg #[vs, ve], .int .i64 64, .int .i64 5] w fun e w' => e = .returned (.bool b) ∧ Fr (fun k => k < w.heap.size) w w' := by
  obtain ⟨A, n, c, rfl⟩ := hvs
  obtain ⟨A', c', rfl, _, _, hly⟩ := he.slice
  have F := (Fr.refl (fun k => k < w.heap.size) w).alloc (.cells #[.slice A n c, .slice A' es.length c'] 32)
  have x0 := Box2.new w 32 (.slice A n c) (.slice A' es.length c')
  have HE := Lib.hid (he.low (Rk_pos K))
  clear he
  have a1 := x0.c1
  go_enter Tryz.func13, Tryz.ntmps13
  by_cases h64 : 64 < es.length
  · have hb0 : b = false := by rw [← hb.out]; exact decide_eq_false fun h => by omega
    clear hb
    subst hb0
    go_wp2_with fail
    go_ret
    exact ⟨rfl, F⟩
  go_wp2_with fail
  go_loopw [7] (fun k W => ∃ (j : Nat), k = .int .i64 j ∧ j ≤ es.length ∧ Hid (∀ i (hi : i < es.length), i < j → (dg DB es[i].num.natAbs).length ≤ 5 ∧ (dg DB es[i].den).length ≤ 5) ∧ Box2 W w.heap.size 32 (.slice A n c) (.slice A' es.length c') ∧ Fr (fun k => k < w.heap.size) w W) (fun k _ => es.length - (intOf k).toNat)
  case atStart => exact ⟨0, rfl, by omega, Lib.hid (fun i hi h => by omega), x0, F⟩
  case round =>
    clear x0 F a1
    obtain ⟨j, rfl, hj, HP, x0, F⟩ := hrel
    have a1 := x0.c1
    by_cases hlt : j < es.length
    · obtain ⟨ad, P, m, d, Q, k, o, rfl, hS, g0, g1, g2, rr⟩ := Rk_get (HE.out.fr F) hlt
      obtain ⟨l1, hl1⟩ : ∃ l, (dg DB es[j].num.natAbs).length = l := ⟨_, rfl⟩
      obtain ⟨l2, hl2⟩ : ∃ l, (dg DB es[j].den).length = l := ⟨_, rfl⟩
      obtain ⟨P1, y1, e1, _, _, _⟩ := rr.num.sl.slice
      obtain ⟨Q1, y2, e2, _, _, _⟩ := rr.den.sl.slice
      cases e1
      cases e2
      rw [hl1] at g1
      rw [hl2] at g2
      have H1 := Lib.hid hl1
      have H2 := Lib.hid hl2
      clear hl1 hl2 rr
      by_cases h1 : 5 < l1
      · have hb0 : b = false := by rw [← hb.out]; exact decide_eq_false fun h => by have := (h.2 _ (List.getElem_mem hlt)).1; rw [H1.out] at this; omega
        clear hb
        subst hb0
        go_wp2_with fail
        go_ret
        exact ⟨rfl, F⟩
      · by_cases h2 : 5 < l2
        · have hb0 : b = false := by rw [← hb.out]; exact decide_eq_false fun h => by have := (h.2 _ (List.getElem_mem hlt)).2; rw [H2.out] at this; omega
          clear hb
          subst hb0
          go_wp2_with fail
          go_ret
          exact ⟨rfl, F⟩
        · have HP' := Lib.hid (show ∀ i (hi : i < es.length), i < j + 1 → (dg DB es[i].num.natAbs).length ≤ 5 ∧ (dg DB es[i].den).length ≤ 5 from fun i hi h => by
            by_cases hij : i = j
            · subst hij
              rw [H1.out, H2.out]
              omega
            · exact HP.out i hi (by omega))
          go_wp2_with fail
          go_roundw
          case rel => exact ⟨j + 1, by go_num, by omega, HP', x0, F⟩
          case measure => first | (simp [intOf]; done) | (simp [intOf]; omega)
    · obtain rfl : j = es.length := by omega
      have hb0 : b = true := by
        rw [← hb.out]
        refine decide_eq_true ⟨by omega, fun x hx => ?_⟩
        obtain ⟨i, hi, rfl⟩ := List.mem_iff_getElem.1 hx
        exact HP.out i hi hi
      clear hb
      subst hb0
      go_wp2_with fail
      go_ret
      exact ⟨rfl, F⟩
end Go.Proofs.YtlknmoegngjpcaaGreat


/- law08's row. -/
namespace Go.Proofs.YtlknmoegngjpcaaGreat
open Go.RowKit

theorem Sl.at_block {α : Type} {K : Kd α} {S : Nat → Prop} {w : World} {b o n c : Nat} {x : α} {xs : List α} (h : Sl K S w (.slice (some ⟨b, o, none⟩) n c) (x :: xs)) (hK : ∀ {S T : Nat → Prop} {x : α} {cs : List Value}, K.rd S w x cs → K.rd T w x cs := by exact fun h => h) : Sl K (fun k => k = b) w (.slice (some ⟨b, o, none⟩) n c) (x :: xs) := by
  obtain ⟨A, c, e, h1, h2, h3, h4⟩ := h
  cases e
  exact ⟨_, _, rfl, h1, h2, h3, fun hp => by
    obtain ⟨ad, e1, _, hr⟩ := h4 hp
    cases e1
    exact ⟨_, rfl, rfl, fun i x hx => by obtain ⟨cs, h5, h6⟩ := hr i x hx; exact ⟨cs, hK h5, h6⟩⟩⟩
theorem rfrac_h (w : World) (p q : Int) (h0 : -9223372036854775808 ≤ p) (h1 : p ≤ 9223372036854775807) (h2 : -9223372036854775808 ≤ q) (h3 : q ≤ 9223372036854775807) :
    Calls Tryz.prog 88 #[.int .i64 p, .int .i64 q] w fun e w' => ∃ s v1 v2, e = .returned (.agg #[.bool s, v1, v2]) ∧ Hid (s = sg (fr p q)) ∧ Hid (RR (fun k => w.heap.size ≤ k) w' v1 v2 (fr p q) 6) ∧ Fr (fun k => k < w.heap.size) w w' := by
  refine (rfrac_r w p q h0 h1 h2 h3).mono ?_
  rintro e w' ⟨v1, v2, rfl, h, hf⟩
  exact ⟨_, v1, v2, rfl, Lib.hid rfl, Lib.hid h, hf⟩

set_option maxRecDepth 20000 in
set_option maxHeartbeats 8000000 in
theorem row_t {T : Nat → Prop} (w : World) (vl : Value) (ls : List Int) (he : Sl Im T w vl ls) (hel : ls.length ≤ 1099511627000) :
    Calls Tryz.prog 47 #[vl] w fun e w' => ∃ A i j B k l, e = .returned (.agg #[.slice A i j, .slice B k l]) ∧ Sl Im (fun _ => True) w' (.slice A i j) [(ls.length : Int)] ∧ Sl (Rk 6) (fun _ => True) w' (.slice B k l) (ls.map fun (z : Int) => fr z 2) ∧ Fr (fun k => k < w.heap.size) w w' := by
  obtain ⟨A', c', rfl, _, _, hly⟩ := he.slice
  have F := fun R => (((Fr.refl R w).alloc (.cells #[.slice none 0 0, .slice none 0 0] 32)).alloc (.cells #[.int .i64 ls.length] 3)).alloc (.cells #[.slice (some ⟨w.heap.size + 1, 0, none⟩) 1 1, .slice none 0 0] 32)
  have HE0 := Lib.hid (he.up Im_pos (Nat.le_refl _) (F _))
  have b0 := ((Box2.new w 32 (.slice none 0 0) (.slice none 0 0)).alloc (.cells #[.int .i64 ls.length] 3)).alloc (.cells #[.slice (some ⟨w.heap.size + 1, 0, none⟩) 1 1, .slice none 0 0] 32)
  have hs1 := sl_ints (w := (w.alloc (.cells #[.slice none 0 0, .slice none 0 0] 32)).alloc (.cells #[.int .i64 ls.length] 3)) (b := w.heap.size + 1) (t := 3) [(ls.length : Int)] [.int .i64 ls.length] rfl (by intro x hx; rw [List.mem_singleton] at hx; subst hx; omega) (by simp) (heap_b _ _ _)
  have b3 := Box2.new ((w.alloc (.cells #[.slice none 0 0, .slice none 0 0] 32)).alloc (.cells #[.int .i64 ls.length] 3)) 32 (.slice (some ⟨w.heap.size + 1, 0, none⟩) 1 1) (.slice none 0 0)
  simp only [World.size_alloc] at b3
  have HS0 := Lib.hid ((hs1.fr ((Fr.refl _ _).alloc (.cells #[.slice (some ⟨w.heap.size + 1, 0, none⟩) 1 1, .slice none 0 0] 32))).at_block)
  replace F := F (fun k => k < w.heap.size)
  have HLL := Lib.hid (Kd.int_all he)
  have hsz : (((w.alloc (.cells #[.slice none 0 0, .slice none 0 0] 32)).alloc (.cells #[.int .i64 ls.length] 3)).alloc (.cells #[.slice (some ⟨w.heap.size + 1, 0, none⟩) 1 1, .slice none 0 0] 32)).heap.size = w.heap.size + 3 := by simp
  clear he hs1
  go_enter Tryz.func47, Tryz.ntmps47
  go_wp2_with fail
  go_loopw [4] (fun i wr => ∃ (j : Nat) (v2 : Value), i = .int .i64 j ∧ j ≤ ls.length ∧ Box2 wr w.heap.size 32 (.slice none 0 0) (.slice none 0 0) ∧ Box2 wr (w.heap.size + 2) 32 (.slice (some ⟨w.heap.size + 1, 0, none⟩) 1 1) v2 ∧ Own (Rk 6) 56 (fun k => w.heap.size + 2 < k) wr v2 ((ls.take j).map fun (z : Int) => fr z 2) ∧ Hid (Sl Im (fun k => k = w.heap.size + 1) wr (.slice (some ⟨w.heap.size + 1, 0, none⟩) 1 1) [(ls.length : Int)]) ∧ Hid (Sl Im (fun k => k < w.heap.size) wr (.slice A' ls.length c') ls) ∧ Fr (fun k => k < w.heap.size) w wr) (fun i _ => ls.length - (intOf i).toNat)
  case atStart => exact ⟨0, _, rfl, by omega, b0, b3, Own.nil _ _ _ _, HS0, HE0, F⟩
  case round =>
    clear b0 b3 HS0 HE0 F
    obtain ⟨j, v2, rfl, hj, b0, b3, o2, HS, HE, F⟩ := hrel
    obtain ⟨A2, n2, c2, rfl⟩ := o2.form
    by_cases hlt : j < ls.length
    · have D := fun R => (Fr.refl R wr).drew
      replace b0 := b0.fr (D (fun _ => True)) trivial
      replace b3 := b3.fr (D (fun _ => True)) trivial
      replace o2 := o2.fr (D _)
      replace HS := Lib.hid (HS.out.fr (D _))
      replace HE := Lib.hid (HE.out.fr (D _))
      replace F := F.drew
      clear D
      obtain ⟨ad, rfl, g0, _, _⟩ := Kd.int_cell HE.out hlt
      have hS : ad.block < w.heap.size := by
        obtain ⟨_, _, e, _, _, _, h4⟩ := HE.out
        injection e with e1
        obtain ⟨ad', e2, h, _⟩ := h4 (by omega)
        rw [e2] at e1
        injection e1 with e1
        rw [e1]; exact h
      have hb := HLL.out _ (List.getElem_mem hlt)
      have htk := List.take_succ_eq_append_getElem hlt
      generalize ls[j] = y at g0 hb htk
      have KS : ∀ u, Fr (fun k => k < w.heap.size ∨ k = w.heap.size + 2) wr.drew u → u.cell? ⟨w.heap.size + 2, 1, none⟩ = some (.slice A2 n2 c2) ∧ u.cell? (ad.add j) = some (.int .i64 y) := fun u hu =>
        ⟨(b3.fr hu (.inr rfl)).c1, hu.cell g0 (by rw [addr_block]; exact .inl hS)⟩
      have S0 := KS _ (Fr.refl _ _)
      have HT := Lib.hid (map_take_step (fun (z : Int) => fr z 2) htk)
      have HLn := Lib.hid (show ((((ls.take j).map fun (z : Int) => fr z 2)).length + 1) * 56 ≤ 140737488355328 ∧ (((ls.take j).map fun (z : Int) => fr z 2)).length + 1 ≤ 9223372036854775807 by rw [List.length_map, List.length_take]; omega)
      have l0 := b0.lt
      have l3 := b3.lt
      clear htk
      go_wp2_with fail
      refine wpTill.begin (fun u => u.cell? ⟨w.heap.size + 2, 1, none⟩ = some (.slice A2 n2 c2) ∧ u.cell? (ad.add j) = some (.int .i64 y)) 9 (by kernel_rfl) ?_
      change wpTill _ _ _ _ _ _ 11 _ _ _
      refine wpTill.take 0 (.pointer (some ⟨w.heap.size + 2, 1, none⟩)) rfl (by kernel_rfl) (by kernel_rfl) (fun _ _ _ h => h) S0 (by rfl) (fun u hu => by go_simp) ?_
      try simp only [Act.put, List.setIfInBounds_toArray, List.set_cons_zero, List.set_cons_succ]
      refine wpTill.take 1 (.slice A2 n2 c2) rfl (by kernel_rfl) (by kernel_rfl) (fun _ _ _ h => h) S0 (by rfl) (fun u hu => by go_simp) ?_
      try simp only [Act.put, List.setIfInBounds_toArray, List.set_cons_zero, List.set_cons_succ]
      refine wpTill.take 2 (.slice (some ad) ls.length c') rfl (by kernel_rfl) (by kernel_rfl) (fun _ _ _ h => h) S0 (by rfl) (fun u hu => by go_simp) ?_
      try simp only [Act.put, List.setIfInBounds_toArray, List.set_cons_zero, List.set_cons_succ]
      refine wpTill.take 3 (.int .i64 j) rfl (by kernel_rfl) (by kernel_rfl) (fun _ _ _ h => h) S0 (by rfl) (fun u hu => by go_simp) ?_
      try simp only [Act.put, List.setIfInBounds_toArray, List.set_cons_zero, List.set_cons_succ]
      refine wpTill.take 4 (.pointer (some (ad.add j))) rfl (by kernel_rfl) (by kernel_rfl) (fun _ _ _ h => h) S0 (by rfl) (fun u hu => by go_simp) ?_
      try simp only [Act.put, List.setIfInBounds_toArray, List.set_cons_zero, List.set_cons_succ]
      refine wpTill.take 5 (.int .i64 y) rfl (by kernel_rfl) (by kernel_rfl) (fun _ _ _ h => h) S0 (by rfl) (fun u hu => by go_simp) ?_
      try simp only [Act.put, List.setIfInBounds_toArray, List.set_cons_zero, List.set_cons_succ]
      refine wpTill.next 6 rfl (by kernel_rfl) (by rfl) (fun K hK => ?_)
      go_simp
      with_reducible refine (rfrac_h _ y 2 (by omega) (by omega) (by decide) (by decide)).mono ?_
      rintro e u1 ⟨sy, v3, v4, rfl, hsy, hol, hf⟩
      obtain ⟨⟨P3, i3, j3, rfl⟩, ⟨P4, i4, j4, rfl⟩⟩ := hol.out.form
      have G1 : Fr (fun k => k < w.heap.size ∨ k = w.heap.size + 2) wr.drew u1 := hf.mono fun k hk _ => hk
      refine hK _ _ (fun _ => KS _ G1) ?_
      clear hK K
      try simp only [Act.put, List.setIfInBounds_toArray, List.set_cons_zero, List.set_cons_succ]
      refine wpTill.next 7 rfl (by kernel_rfl) (by rfl) (fun K hK => ?_)
      go_simp
      refine hK _ _ (fun _ => KS _ (G1.alloc _)) ?_
      clear hK K
      try simp only [Act.put, List.setIfInBounds_toArray, List.set_cons_zero, List.set_cons_succ]
      have lt2 := o2.lt
      replace b0 := b0.keep hf
      replace b3 := b3.keep hf
      replace o2 := o2.keep' hf
      replace HS := Lib.hid (HS.out.keep' Im_pos hf)
      replace HE := Lib.hid (HE.out.keep' Im_pos hf)
      have F' := fr_then F hf
      have sz := hf.size
      have in2 := o2.in_
      clear S0 g0
      refine wpTill.next 8 rfl (by kernel_rfl) (by rfl) (fun K hK => ?_)
      refine oper_push1 (rkT 6) (v := .slice A2 n2 c2) (y := fr y 2) (T := fun k => wr.drew.heap.size ≤ k) rfl rfl rfl o2 ⟨_, _, by rw [hsy.out], hol.out⟩ (fun k hk _ => ⟨by omega, fun e => by have := lt2 k e.symm; omega⟩) (fun k hk => by omega) HLn.out.1 HLn.out.2 ?_
      intro v5 u2 ho hfr hat
      obtain ⟨A3, n3, c3, rfl⟩ := ho.form
      have G2 : Fr (fun k => k < w.heap.size ∨ k = w.heap.size + 2) wr.drew u2 := G1.comp hfr fun k _ hk => ⟨hk, fun e => by have := in2 _ e.symm; omega⟩
      refine hK _ _ (fun _ => KS _ G2) ?_
      clear hK K
      try simp only [Act.put, List.setIfInBounds_toArray, List.set_cons_zero, List.set_cons_succ]
      replace b0 := b0.fr hfr (fun e => by have := in2 _ e.symm; omega)
      replace b3 := b3.fr hfr (fun e => by have := in2 _ e.symm; omega)
      replace HS := Lib.hid (HS.out.fr (hfr.mono fun k _ hk e => by have := in2 _ e.symm; omega))
      replace HE := Lib.hid (HE.out.fr (hfr.mono fun k _ hk e => by have := in2 _ e.symm; omega))
      replace F := F'.comp hfr (R := fun k => k < w.heap.size) fun k _ hk => ⟨hk, fun e => by have := in2 _ e.symm; omega⟩
      replace o2 := ho
      clear ho hfr hat hf F' in2
      have e0 := b3.c1
      have e1 := b3.free 1
      refine wpTill.next 9 rfl (by kernel_rfl) (by rfl) (fun K hK => ?_)
      go_simp
      refine hK _ _ (no_wait (by kernel_rfl)) ?_
      clear hK K
      try simp only [Act.put, List.setIfInBounds_toArray, List.set_cons_zero, List.set_cons_succ]
      refine wpTill.next 10 rfl (by kernel_rfl) (by rfl) (fun K hK => ?_)
      go_simp
      refine hK _ _ (no_wait (by kernel_rfl)) ?_
      clear hK K
      try simp only [Act.put, List.setIfInBounds_toArray, List.set_cons_zero, List.set_cons_succ]
      refine wpTill.done (by kernel_rfl) ?_
      clear e0 e1
      have F9 := fr_set1 u2 (w.heap.size + 2) 1 (.slice A3 n3 c3)
      have f1 := b0.fr F9 (by omega)
      have f3 := b3.set1 (.slice A3 n3 c3)
      have f5 := o2.past F9 (fun k hk => by omega)
      have f4 := HS.out.fr (F9.mono fun k _ hk => by omega)
      have f6 := HE.out.fr (F9.mono fun k _ hk => by omega)
      have f7 := F.comp F9 (R := fun k => k < w.heap.size) fun k _ hk => ⟨hk, by omega⟩
      go_wp2_with fail
      go_roundw
      case rel => exact ⟨j + 1, _, by go_num, by omega, f1, f3, by rw [HT.out]; exact f5, f4, f6, f7⟩
      case measure => first | (simp [intOf]; done) | (simp [intOf]; omega)
    · obtain rfl : j = ls.length := by omega
      rw [List.take_length] at o2
      have d0 := b3.c0
      have d1 := b3.c1
      have l0 := b0.lt
      go_wp2_with ((with_reducible apply wpList_st2); rfl; rfl; exact b0; exact tt2; rfl; rfl; intro w9 B9 F9)
      refine bodyPost_ret (results_cell2 rfl rfl B9 Tryz.underlying32 tt2) rfl ?_
      exact ⟨_, _, _, _, _, _, rfl, (HS.out.fr (F9.mono fun k _ hk => by omega)).any, (o2.past F9 fun k hk => by omega).sl.any, F.comp F9 fun k _ hk => ⟨hk, by omega⟩⟩
end Go.Proofs.YtlknmoegngjpcaaGreat


/- What the laws of chapter 08 say of values: tensors as parts of what is answered, and the contracts in these words. -/
namespace Go.Proofs.YtlknmoegngjpcaaGreat
open Go.RowKit

/-- a tensor's two parts -/
def TV (sh : List Int) (es : List RatL) (u : World) (a b : Value) : Prop := Sl Im (fun _ => True) u a sh ∧ Sl Rm (fun _ => True) u b es
/-- those of a tensor that is answered beside an error -/
def TC (r : Int) (sh : List Int) (es : List RatL) (u : World) (a b : Value) : Prop := (r ≠ 0 → a = .slice none 0 0 ∧ b = .slice none 0 0) ∧ (r = 0 → TV sh es u a b)
/-- those of a tensor of the document's -/
def QV (sh : List Int) (qs : List Rat) (K : Nat) (u : World) (a b : Value) : Prop := Sl Im (fun _ => True) u a sh ∧ Sl (Rk K) (fun _ => True) u b qs
def QC (r : Int) (sh : List Int) (qs : List Rat) (K : Nat) (u : World) (a b : Value) : Prop := r = 0 → QV sh qs K u a b
/-- a struct of two slices -/
def Agg (p : World → Value → Value → Prop) (u : World) (v : Value) : Prop := ∃ A n c B m k, v = .agg #[.slice A n c, .slice B m k] ∧ p u (.slice A n c) (.slice B m k)
/-- such a struct, and a number -/
def Tup (r : Int) (p : World → Value → Value → Prop) (u : World) (v : Value) : Prop := ∃ A n c B m k, v = .tuple #[.agg #[.slice A n c, .slice B m k], .int .i64 r] ∧ p u (.slice A n c) (.slice B m k)
/-- What a call answers. -/
def Ret (w : World) (p : World → Value → Prop) (e : Ending) (u : World) : Prop := ∃ v, e = .returned v ∧ Fr (fun k => k < w.heap.size) w u ∧ Hold (fun u' => p u' v) u

theorem Agg.out {p : World → Value → Value → Prop} {u : World} {a b : Value} (h : Agg p u (.agg #[a, b])) : p u a b := by
  obtain ⟨A, n, c, B, m, k, e, h⟩ := h
  cases e
  exact h
theorem Tup.out {r : Int} {p : World → Value → Value → Prop} {u : World} {a b x : Value} (h : Tup r p u (.tuple #[.agg #[a, b], x])) : p u a b := by
  obtain ⟨A, n, c, B, m, k, e, h⟩ := h
  cases e
  exact h
section
variable {sh : List Int} {es : List RatL} {qs : List Rat} {K : Nat} {r : Int} {u u' : World} {a b : Value}
theorem TV.keep (h : TV sh es u a b) (hf : Fr (fun k => k < u.heap.size) u u') : TV sh es u' a b := ⟨h.1.keep' Im_pos hf, h.2.keep' Rm_pos hf⟩
theorem TC.keep (h : TC r sh es u a b) (hf : Fr (fun k => k < u.heap.size) u u') : TC r sh es u' a b := ⟨h.1, fun e => (h.2 e).keep hf⟩
theorem QV.keep (h : QV sh qs K u a b) (hf : Fr (fun k => k < u.heap.size) u u') : QV sh qs K u' a b := ⟨h.1.keep' Im_pos hf, h.2.keep' (Rk_pos K) hf⟩
theorem QC.keep (h : QC r sh qs K u a b) (hf : Fr (fun k => k < u.heap.size) u u') : QC r sh qs K u' a b := fun e => (h e).keep hf
theorem TV.hold (h : TV sh es u a b) : Hold (fun u => TV sh es u a b) u := fun _ hu => h.keep hu
theorem TC.hold (h : TC r sh es u a b) : Hold (fun u => TC r sh es u a b) u := fun _ hu => h.keep hu
theorem QV.hold (h : QV sh qs K u a b) : Hold (fun u => QV sh qs K u a b) u := fun _ hu => h.keep hu
theorem QC.hold (h : QC r sh qs K u a b) : Hold (fun u => QC r sh qs K u a b) u := fun _ hu => h.keep hu
variable {g : Nat} {t : TypeId} {a1 a2 : Option Addr} {n1 c1 n2 c2 : Nat} (x y : Value)
theorem TV.fill (h : TV sh es u a b) (hb : Box2 u g t (.slice a1 n1 c1) (.slice a2 n2 c2)) : TV sh es ((u.setCell ⟨g, 0, none⟩ x).setCell ⟨g, 1, none⟩ y) a b :=
  ⟨((Im_notin2 h.1 hb).fr (fr_put2 u g x y)).any, ((Rm_notin2 h.2 hb).fr (fr_put2 u g x y)).any⟩
theorem TC.fill (h : TC r sh es u a b) (hb : Box2 u g t (.slice a1 n1 c1) (.slice a2 n2 c2)) : TC r sh es ((u.setCell ⟨g, 0, none⟩ x).setCell ⟨g, 1, none⟩ y) a b := ⟨h.1, fun e => (h.2 e).fill x y hb⟩
theorem QV.fill (h : QV sh qs K u a b) (hb : Box2 u g t (.slice a1 n1 c1) (.slice a2 n2 c2)) : QV sh qs K ((u.setCell ⟨g, 0, none⟩ x).setCell ⟨g, 1, none⟩ y) a b :=
  ⟨((Im_notin2 h.1 hb).fr (fr_put2 u g x y)).any, ((Rk_notin2 h.2 hb).fr (fr_put2 u g x y)).any⟩
theorem QC.fill (h : QC r sh qs K u a b) (hb : Box2 u g t (.slice a1 n1 c1) (.slice a2 n2 c2)) : QC r sh qs K ((u.setCell ⟨g, 0, none⟩ x).setCell ⟨g, 1, none⟩ y) a b := fun e => (h e).fill x y hb
theorem TV.form (h : TV sh es u a b) : (∃ A n c, a = .slice A n c) ∧ ∃ A n c, b = .slice A n c := ⟨h.1.form, h.2.form⟩
theorem TC.form (h : TC r sh es u a b) : (∃ A n c, a = .slice A n c) ∧ ∃ A n c, b = .slice A n c := by
  by_cases h0 : r = 0
  · exact (h.2 h0).form
  · exact ⟨⟨_, _, _, (h.1 h0).1⟩, ⟨_, _, _, (h.1 h0).2⟩⟩
theorem QV.form (h : QV sh qs K u a b) : (∃ A n c, a = .slice A n c) ∧ ∃ A n c, b = .slice A n c := ⟨h.1.form, h.2.form⟩
theorem TV.tc (h : TV sh es u a b) : TC 0 sh es u a b := ⟨fun h => absurd rfl h, fun _ => h⟩
theorem TC.tv (h : TC 0 sh es u a b) : TV sh es u a b := h.2 rfl
theorem QV.qc (h : QV sh qs K u a b) : QC r sh qs K u a b := fun _ => h
end
theorem Ret.eq {w u : World} {e : Ending} {x : Value} (he : e = .returned x) (hf : Fr (fun k => k < w.heap.size) w u) : Ret w (fun _ v => v = x) e u := ⟨_, he, hf, fun _ _ => rfl⟩

theorem lt_of_dg {N L : Nat} (h : (dg LB N).length ≤ L) : N < LB ^ L := by
  have := ofB_lt (dg_lt LB2 N)
  rw [ofB_dg LB2] at this
  exact Nat.lt_of_lt_of_le this (Nat.pow_le_pow_right LBpos h)
/-- bounds on a tensor's lists -/
structure Fit (sh : List Int) (es : List RatL) (L : Nat) : Prop where
  nsh : sh.length ≤ 1099511627000
  nes : es.length ≤ 1099511627000
  lx : ∀ x ∈ es, x.2.1.length ≤ L ∧ x.2.2.length ≤ L
  one : 1 ≤ L
  top : L ≤ 1048578
  lt : ∀ x ∈ es, (∀ d ∈ x.2.1, d < LB) ∧ ∀ d ∈ x.2.2, d < LB
theorem EachR.ret {w u : World} {sh : List Int} {es : List RatL} {r : Int} {e : Ending} (h : EachR w sh es r e u) : Ret w (Tup r (TC r sh es)) e u := by
  obtain ⟨A, i, j, B, k, l, rfl, h1, h2, hf⟩ := h
  exact ⟨_, rfl, hf, fun u' hu' => ⟨_, _, _, _, _, _, rfl, h1, fun e => ⟨((h2 e).1.sl.keep' Im_pos hu').any, ((h2 e).2.rm.sl.keep' Rm_pos hu').any⟩⟩⟩
theorem RefE.ret {w u : World} {sh : List Int} {qs : List Rat} {K : Nat} {r : Int} {e : Ending} (h : RefE w sh qs K r e u) : Ret w (Tup r (QC r sh qs K)) e u := by
  obtain ⟨A, i, j, B, k, l, rfl, h2, hf⟩ := h
  exact ⟨_, rfl, hf, fun u' hu' => ⟨_, _, _, _, _, _, rfl, fun e => ⟨(h2 e).1.keep' Im_pos hu', (h2 e).2.keep' (Rk_pos K) hu'⟩⟩⟩
theorem RefR.ret {w u : World} {sh : List Int} {qs : List Rat} {K : Nat} {e : Ending} (h : RefR w sh qs K e u) : Ret w (Agg (QV sh qs K)) e u := by
  obtain ⟨A, i, j, B, k, l, rfl, h1, h2, hf⟩ := h
  exact ⟨_, rfl, hf, fun u' hu' => ⟨_, _, _, _, _, _, rfl, h1.keep' Im_pos hu', h2.keep' (Rk_pos K) hu'⟩⟩

section
variable {w : World} {sha shb : List Int} {ea eb : List RatL} {qa qb : List Rat} {a b c d : Value} {L K : Nat} {r : Int}
theorem few_u {bb : Bool} (h : TV sha ea w a b) (hb : Hid (fewB ea = bb)) : Calls Tryz.prog 11 #[.agg #[a, b]] w (Ret w fun _ v => v = .bool bb) :=
  (few_t (S := fun _ => True) w a b ea bb hb h.1.form h.2).mono fun _ _ h => Ret.eq h.1 h.2
theorem may_u (h : TV sha ea w a b) (f : Hid (Fit sha ea L)) (hr : Hid (mayT sha ea = r)) : Calls Tryz.prog 12 #[.agg #[a, b]] w (Ret w fun _ v => v = .int .i64 r) :=
  (rmay_h w a b sha ea L r hr h.1 h.2 f.out.lx f.out.one (by have := f.out.top; omega)).mono fun _ _ h => Ret.eq h.1 h.2
theorem first_u {r1 r2 : Int} (h : TV sha ea w a b) (g : TV shb eb w c d) (fa : Hid (Fit sha ea L)) (fb : Hid (Fit shb eb L)) (h1 : Hid (mayT sha ea = r1)) (h2 : Hid (mayT shb eb = r2)) (hr : Hid ((if r1 ≠ 0 then r1 else r2) = r)) : Calls Tryz.prog 27 #[.agg #[a, b], .agg #[c, d]] w (Ret w fun _ v => v = .int .i64 r) :=
  (first_t w a b c d sha shb ea eb L r1 r2 r h1 h2 hr h.1 h.2 g.1 g.2 (Lib.hid fa.out.lx) (Lib.hid fb.out.lx) fa.out.one (by have := fa.out.top; omega)).mono fun _ _ h => Ret.eq h.1 h.2
theorem of_u (h : TV sha ea w a b) (f : Hid (Fit sha ea L)) : Calls Tryz.prog 14 #[.agg #[a, b]] w (Ret w (Agg (QV sha (ea.map qOf) (3 * L)))) := by
  refine (tof_t w a b sha ea L h.1 h.2 f.out.nsh f.out.nes f.out.lx f.out.one (by have := f.out.top; omega)).mono ?_
  rintro e u ⟨v1, v2, rfl, h1, h2, hf⟩
  obtain ⟨A, n, c, rfl⟩ := h1.form
  obtain ⟨B, m, k, rfl⟩ := h2.form
  exact ⟨_, rfl, hf, fun u' hu' => ⟨_, _, _, _, _, _, rfl, (h1.sl.keep' Im_pos hu').any, (h2.sl.keep' (Rk_pos _) hu').any⟩⟩
theorem own_u (h : TV sha ea w a b) (f : Hid (Fit sha ea L)) : Calls Tryz.prog 37 #[.agg #[a, b]] w (Ret w (Agg (TV sha ea))) := by
  refine (town_t w a b sha ea h.1 h.2 f.out.nsh f.out.nes (fun x hx => by have := f.out.lx x hx; have := f.out.top; omega)).mono ?_
  rintro e u ⟨v1, v2, rfl, h1, h2, hf⟩
  obtain ⟨A, n, c, rfl⟩ := h1.form
  obtain ⟨B, m, k, rfl⟩ := h2.form
  exact ⟨_, rfl, hf, fun u' hu' => ⟨_, _, _, _, _, _, rfl, (h1.sl.keep' Im_pos hu').any, (h2.sl.keep' Rm_pos hu').any⟩⟩
theorem add_u (h : TV sha ea w a b) (g : TV shb eb w c d) (fa : Hid (Fit sha ea L)) (fb : Hid (Fit shb eb L)) (hr : Hid (bothE noR sha ea shb eb = r)) : Calls Tryz.prog 25 #[.agg #[a, b], .agg #[c, d]] w (Ret w (Tup r (TC r sha ((List.range ea.length).map (zipG addG ea eb))))) :=
  (padd_t w a b c d sha shb ea eb L r hr h.1 h.2 g.1 g.2 fa.out.lx fb.out.lx fa.out.one (by have := fa.out.top; omega) fa.out.nsh fa.out.nes).mono fun _ _ h => h.ret
theorem sub_u (h : TV sha ea w a b) (g : TV shb eb w c d) (fa : Hid (Fit sha ea L)) (fb : Hid (Fit shb eb L)) (hr : Hid (bothE noR sha ea shb eb = r)) : Calls Tryz.prog 26 #[.agg #[a, b], .agg #[c, d]] w (Ret w (Tup r (TC r sha ((List.range ea.length).map (zipG subG ea eb))))) :=
  (psub_t w a b c d sha shb ea eb L r hr h.1 h.2 g.1 g.2 fa.out.lx fb.out.lx fa.out.one (by have := fa.out.top; omega) fa.out.nsh fa.out.nes).mono fun _ _ h => h.ret
theorem mul_u (h : TV sha ea w a b) (g : TV shb eb w c d) (fa : Hid (Fit sha ea L)) (fb : Hid (Fit shb eb L)) (hr : Hid (bothE noR sha ea shb eb = r)) : Calls Tryz.prog 30 #[.agg #[a, b], .agg #[c, d]] w (Ret w (Tup r (TC r sha ((List.range ea.length).map (zipG mulG ea eb))))) :=
  (pmul_t w a b c d sha shb ea eb L r hr h.1 h.2 g.1 g.2 fa.out.lx fb.out.lx fa.out.one (by have := fa.out.top; omega) fa.out.nsh fa.out.nes).mono fun _ _ h => h.ret
theorem div_u (h : TV sha ea w a b) (g : TV shb eb w c d) (fa : Hid (Fit sha ea L)) (fb : Hid (Fit shb eb L)) (hr : Hid (bothE divR sha ea shb eb = r)) : Calls Tryz.prog 31 #[.agg #[a, b], .agg #[c, d]] w (Ret w (Tup r (TC r sha ((List.range ea.length).map (zipG divG ea eb))))) :=
  (pdiv_t w a b c d sha shb ea eb L r hr h.1 h.2 g.1 g.2 fa.out.lx fb.out.lx fa.out.one (by have := fa.out.top; omega) fa.out.nsh fa.out.nes).mono fun _ _ h => h.ret
theorem neg_u (h : TV sha ea w a b) (f : Hid (Fit sha ea L)) (hr : Hid (mayT sha ea = r)) : Calls Tryz.prog 19 #[.agg #[a, b]] w (Ret w (Tup r (TC r sha (ea.map fun x => canR (-(qOf x)))))) :=
  (pneg_t w a b sha ea L r hr h.1 h.2 (Lib.hid f.out.lx) f.out.one (by have := f.out.top; omega) f.out.nsh f.out.nes).mono fun _ _ h => h.ret
theorem relu_u (h : TV sha ea w a b) (f : Hid (Fit sha ea L)) (hr : Hid (mayT sha ea = r)) : Calls Tryz.prog 20 #[.agg #[a, b]] w (Ret w (Tup r (TC r sha (ea.map fun x => canR (if (qOf x).num.sign < 0 then 0 else qOf x))))) :=
  (prelu_t w a b sha ea L r hr h.1 h.2 (Lib.hid f.out.lx) f.out.one (by have := f.out.top; omega) f.out.nsh f.out.nes).mono fun _ _ h => h.ret
theorem step_u (h : TV sha ea w a b) (f : Hid (Fit sha ea L)) (hr : Hid (mayT sha ea = r)) : Calls Tryz.prog 21 #[.agg #[a, b]] w (Ret w (Tup r (TC r sha (ea.map fun x => canR ((max (qOf x).num.sign 0 : Int) : Rat))))) :=
  (pstep_t w a b sha ea L r hr h.1 h.2 (Lib.hid f.out.lx) f.out.one (by have := f.out.top; omega) f.out.nsh f.out.nes).mono fun _ _ h => h.ret
theorem pow_u {n : Int} (h : TV sha ea w a b) (f : Hid (Fit sha ea L)) (hr : Hid (powE sha ea n = r)) (hn : Hid (-9223372036854775808 ≤ n ∧ n ≤ 9223372036854775807)) : Calls Tryz.prog 16 #[.agg #[a, b], .int .i64 n] w (Ret w (Tup r (TC r sha (ea.map fun x => canR (qOf x ^ n.toNat))))) :=
  (ppow_t w a b sha ea n L r hr h.1 h.2 (Lib.hid f.out.lx) (Lib.hid fun x hx => by
    have := qOf_len (x := x) (f.out.lt x hx) (f.out.lx x hx).1 (f.out.lx x hx).2 f.out.one
    exact ⟨lt_of_dg this.1, lt_of_dg this.2⟩) f.out.one (by have := f.out.top; omega) f.out.nsh f.out.nes hn.out.1 hn.out.2).mono fun _ _ h => h.ret
theorem scale_u {y : RatL} {p q : Value} (h : TV sha ea w a b) (f : Hid (Fit sha ea L)) (hr : Hid (mayT sha ea = r)) (hp : Sl Lm (fun _ => True) w p y.2.1) (hq : Sl Lm (fun _ => True) w q y.2.2) (hy : Hid (y.2.1.length ≤ L ∧ y.2.2.length ≤ L)) : Calls Tryz.prog 34 #[.agg #[a, b], .agg #[.bool y.1, p, q]] w (Ret w (Tup r (TC r sha (ea.map fun x => canR (qOf x * qOf y))))) :=
  (pscale_t w a b p q sha ea y L r hr h.1 h.2 hp hq (Lib.hid f.out.lx) hy f.out.one (by have := f.out.top; omega) f.out.nsh f.out.nes).mono fun _ _ h => h.ret

theorem lb_db (n : Nat) {K : Nat} (h : (dg DB n).length ≤ K) : (dg LB n).length ≤ K := by
  have h1 : n < DB ^ K := by
    have := ofB_lt (dg_lt DB2 n)
    rw [ofB_dg DB2] at this
    exact Nat.lt_of_lt_of_le this (Nat.pow_le_pow_right (by decide) h)
  exact dg_len_le LB2 (Nat.lt_of_lt_of_le h1 (Nat.pow_le_pow_left (by decide) K))
theorem Rk_len {K : Nat} {S : Nat → Prop} {w : World} {v : Value} {qs : List Rat} (h : Sl (Rk K) S w v qs) : ∀ q ∈ qs, (dg LB q.num.natAbs).length ≤ K ∧ (dg LB q.den).length ≤ K := by
  intro q hq
  obtain ⟨A, c, rfl, _⟩ := h.slice
  obtain ⟨i, hi, rfl⟩ := List.mem_iff_getElem.1 hq
  obtain ⟨_, _, _, _, _, _, _, _, _, _, _, _, hr⟩ := Rk_get h hi
  exact ⟨lb_db _ hr.num.len, lb_db _ hr.den.len⟩
/-- bounds on a tensor's lists, as the document has it -/
structure FitQ (sh : List Int) (qs : List Rat) (K : Nat) : Prop where
  nsh : sh.length ≤ 1099511627000
  nqs : qs.length ≤ 1099511627000
  six : 6 ≤ K
  top : K ≤ 104857600
theorem radd_u (h : QV sha qa K w a b) (g : QV shb qb K w c d) (fa : Hid (FitQ sha qa K)) (fb : Hid (FitQ shb qb K)) (hr : Hid ((if sha = shb then (0 : Int) else 13) = r)) (hlen : Hid (sha = shb → qa.length = qb.length)) : Calls Tryz.prog 28 #[.agg #[a, b], .agg #[c, d]] w (Ret w (Tup r (QC r sha (List.zipWith (fun (x y : Rat) => x + y) qa qb) (4 * K)))) :=
  (r8add_t w a b c d shb qb sha qa K h.1 h.2 fa.out.nsh fa.out.nqs g.1 g.2 fb.out.nqs (by have := fa.out.six; omega) (by have := fa.out.top; omega) r hr hlen.out).mono fun _ _ h => h.ret
theorem rsub_u (h : QV sha qa K w a b) (g : QV shb qb K w c d) (fa : Hid (FitQ sha qa K)) (fb : Hid (FitQ shb qb K)) (hr : Hid ((if sha = shb then (0 : Int) else 13) = r)) (hlen : Hid (sha = shb → qa.length = qb.length)) : Calls Tryz.prog 29 #[.agg #[a, b], .agg #[c, d]] w (Ret w (Tup r (QC r sha (List.zipWith (fun (x y : Rat) => x + y) qa (qb.map (fun q => -q))) (4 * K)))) :=
  (r8sub_t w a b c d sha shb qa qb K h.1 h.2 g.1 g.2 fa.out.nsh fa.out.nqs fb.out.nsh fb.out.nqs (by have := fa.out.six; omega) (by have := fa.out.top; omega) r hr hlen.out).mono fun _ _ h => h.ret
theorem rmul_u (h : QV sha qa K w a b) (g : QV shb qb K w c d) (fa : Hid (FitQ sha qa K)) (fb : Hid (FitQ shb qb K)) (hr : Hid ((if sha = shb then (0 : Int) else 13) = r)) (hlen : Hid (sha = shb → qa.length = qb.length)) : Calls Tryz.prog 32 #[.agg #[a, b], .agg #[c, d]] w (Ret w (Tup r (QC r sha (List.zipWith (fun (x y : Rat) => x * y) qa qb) (2 * K)))) :=
  (r8mul_t w a b c d shb qb sha qa K h.1 h.2 fa.out.nsh fa.out.nqs g.1 g.2 fb.out.nqs (by have := fa.out.six; omega) (by have := fa.out.top; omega) r hr hlen.out).mono fun _ _ h => h.ret
theorem rdiv_u (h : QV sha qa K w a b) (g : QV shb qb K w c d) (fa : Hid (FitQ sha qa K)) (fb : Hid (FitQ shb qb K)) (hr : Hid ((if sha = shb then (if ∀ p ∈ qb, p ≠ 0 then (0 : Int) else 17) else 13) = r)) (hlen : Hid (sha = shb → qa.length = qb.length)) : Calls Tryz.prog 33 #[.agg #[a, b], .agg #[c, d]] w (Ret w (Tup r (QC r sha (List.zipWith (fun (x y : Rat) => x / y) qa qb) (2 * K)))) :=
  (r8div_t w a b c d shb qb sha qa K h.1 h.2 fa.out.nsh fa.out.nqs g.1 g.2 fb.out.nqs (by have := fa.out.six; omega) (by have := fa.out.top; omega) r hr hlen.out).mono fun _ _ h => h.ret
theorem rneg_u (h : QV sha qa K w a b) (f : Hid (FitQ sha qa K)) : Calls Tryz.prog 22 #[.agg #[a, b]] w (Ret w (Agg (QV sha (qa.map (fun q => -q)) K))) :=
  (r8neg_t w a b sha qa K h.1 h.2 f.out.nsh f.out.nqs).mono fun _ _ h => h.ret
theorem rrelu_u (h : QV sha qa K w a b) (f : Hid (FitQ sha qa K)) : Calls Tryz.prog 23 #[.agg #[a, b]] w (Ret w (Agg (QV sha (qa.map (fun q => (if q.num.sign < 0 then 0 else q : Rat))) K))) :=
  (r8relu_t w a b sha qa K h.1 h.2 f.out.nsh f.out.nqs f.out.six).mono fun _ _ h => h.ret
theorem rstep_u (h : QV sha qa K w a b) (f : Hid (FitQ sha qa K)) : Calls Tryz.prog 24 #[.agg #[a, b]] w (Ret w (Agg (QV sha (qa.map (fun q => (((max q.num.sign 0 : Int) : Rat) : Rat))) K))) :=
  (r8step_t w a b sha qa K h.1 h.2 f.out.nsh f.out.nqs f.out.six).mono fun _ _ h => h.ret
theorem rscale_u {p : Rat} {x y : Value} (h : QV sha qa K w a b) (f : Hid (FitQ sha qa K)) (hp : RR (fun _ => True) w x y p K) : Calls Tryz.prog 35 #[.agg #[a, b], .agg #[.bool (sg p), x, y]] w (Ret w (Agg (QV sha (qa.map (fun q => q * p)) (2 * K)))) :=
  (r8scale_t w a b x y p sha qa K h.1 h.2 f.out.nsh f.out.nqs hp (by have := f.out.six; omega) (by have := f.out.top; omega)).mono fun _ _ h => h.ret
theorem small_u {bb : Bool} (h : QV sha qa K w a b) (hb : Hid (smallB qa = bb)) : Calls Tryz.prog 13 #[.agg #[a, b], .int .i64 64, .int .i64 5] w (Ret w fun _ v => v = .bool bb) :=
  (small_t w a b qa K bb hb h.1.form h.2).mono fun _ _ h => Ret.eq h.1 h.2
/-- told: both are errors, or the tensors are the same -/
theorem told_u (h : TC r sha ea w a b) (g : QC r shb qb K w c d) (hc : (∃ A n k, c = .slice A n k) ∧ ∃ A n k, d = .slice A n k) (he : Hid (r = 0 → sha = shb ∧ ea = qb.map canR)) (hL : K ≤ 1099511620) : Calls Tryz.prog 17 #[.agg #[a, b], .int .i64 r, .agg #[c, d], .int .i64 r] w (Ret w fun _ v => v = .bool true) := by
  by_cases h0 : r = 0
  · subst h0
    obtain ⟨rfl, rfl⟩ := he.out rfl
    exact (told_yes w c d a b sha qb K K (g rfl).1 (g rfl).2 (h.2 rfl).1 (h.2 rfl).2 (Rk_len (g rfl).2) hL).mono fun _ _ h => Ret.eq h.1 h.2
  · obtain ⟨rfl, rfl⟩ := h.1 h0
    obtain ⟨⟨A, n, k, rfl⟩, ⟨B, m, l, rfl⟩⟩ := hc
    exact (told_no w r h0 A B n k m l).mono fun _ _ h => Ret.eq h.1 h.2
end
end Go.Proofs.YtlknmoegngjpcaaGreat

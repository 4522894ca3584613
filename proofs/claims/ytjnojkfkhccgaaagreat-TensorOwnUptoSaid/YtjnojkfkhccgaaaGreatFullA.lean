import Derived.Test.YtjnojkfkhccgaaaGreatTenV
import Derived.Test.YtjnojkfkhccgaaaGreatFree

/- Two tensors that have the same limbs: sameRaw, limbs. -/
namespace Go.Proofs.YtjnojkfkhccgaaaGreat
open Go.RowKit

set_option maxHeartbeats 2000000 in
theorem limbs_y {S T : Nat → Prop} (w : World) (va vb : Value) (a : List Nat) (ha : Sl Lm S w va a) (hb : Sl Lm T w vb a) :
    Calls Tryz.prog 61 #[va, vb] w fun e w' => e = .returned (.bool true) ∧ Fr (fun k => k < w.heap.size) w w' := by
  obtain ⟨A, c, rfl, _, _, hlx⟩ := ha.slice
  obtain ⟨A', c', rfl, _, _, hly⟩ := hb.slice
  have HA := Lib.hid (ha.low Lm_pos)
  have HB := Lib.hid (hb.low Lm_pos)
  clear ha hb
  go_enter Tryz.func61, Tryz.ntmps61
  go_wp2_with fail
  go_loopw [5] (fun i wr => ∃ (n : Nat), i = .int .i64 n ∧ n ≤ a.length ∧ Fr (fun k => k < w.heap.size) w wr) (fun i _ => a.length - (intOf i).toNat)
  case atStart => exact ⟨0, rfl, by omega, Fr.refl _ _⟩
  case round =>
    obtain ⟨n, rfl, hn, G⟩ := hrel
    by_cases hlt : n < a.length
    · replace G := G.drew
      obtain ⟨ad, rfl, hx, _⟩ := Kd.nat_cell (HA.out.fr G) (i := n) hlt
      obtain ⟨ad', rfl, hy, _⟩ := Kd.nat_cell (HB.out.fr G) (i := n) hlt
      generalize a[n] = X at hx hy
      go_wp2_with fail
      go_region
      all_goals
        go_wp2_with fail
        go_roundw
        case rel => exact ⟨n + 1, by go_num, by omega, G⟩
        case measure => first | (simp [intOf]; done) | (simp [intOf]; omega)
    · go_wp2_with fail
      go_ret
      exact ⟨rfl, G⟩

set_option maxRecDepth 20000 in
set_option maxHeartbeats 8000000 in
theorem sameraw_y {S T U V : Nat → Prop} (w : World) (va vea vb veb : Value) (sh : List Int) (es : List RatL) (ha : Sl Im S w va sh) (hea : Sl Rm T w vea es) (hb : Sl Im U w vb sh) (heb : Sl Rm V w veb es) :
    Calls Tryz.prog 29 #[.agg #[va, vea], .agg #[vb, veb]] w fun e w' => e = .returned (.bool true) ∧ Fr (fun k => k < w.heap.size) w w' := by
  obtain ⟨A, c, rfl, _, _, _⟩ := ha.slice
  obtain ⟨A', c', rfl, _, _, hlx⟩ := hea.slice
  obtain ⟨B, d, rfl, _, _, _⟩ := hb.slice
  obtain ⟨B', d', rfl, _, _, hly⟩ := heb.slice
  have F := ((Fr.refl (fun k => k < w.heap.size) w).alloc (.cells #[.slice A sh.length c, .slice A' es.length c'] 26)).alloc (.cells #[.slice B sh.length d, .slice B' es.length d'] 26)
  have x0 := (Box2.new w 26 (.slice A sh.length c) (.slice A' es.length c')).alloc (.cells #[.slice B sh.length d, .slice B' es.length d'] 26)
  have x1 := Box2.new (w.alloc (.cells #[.slice A sh.length c, .slice A' es.length c'] 26)) 26 (.slice B sh.length d) (.slice B' es.length d')
  simp only [World.size_alloc] at x1
  have HSA := Lib.hid (ha.low Im_pos)
  have HEA := Lib.hid (hea.low Rm_pos)
  have HSB := Lib.hid (hb.low Im_pos)
  have HEB := Lib.hid (heb.low Rm_pos)
  clear ha hea hb heb
  go_enter Tryz.func29, Tryz.ntmps29
  go_wp2_with fail
  generalize hW0 : (w.alloc (.cells #[.slice A sh.length c, .slice A' es.length c'] 26)).alloc (.cells #[.slice B sh.length d, .slice B' es.length d'] 26) = W0 at F x0 x1 ⊢
  clear hW0
  have P0 := Lib.hid (sameshape_y W0 (.slice A sh.length c) (.slice B sh.length d) sh (HSA.out.fr F) (HSB.out.fr F))
  have a0 := x0.c0; have a1 := x0.c1; have b0 := x1.c0; have b1 := x1.c1
  with_reducible refine P0.out.mono ?_
  rintro e W1 ⟨rfl, hf⟩
  replace x0 := x0.fr hf trivial
  replace x1 := x1.fr hf trivial
  replace F := F.comp hf (R := fun k => k < w.heap.size) fun k _ hk => ⟨hk, trivial⟩
  clear hf P0 a0 a1 b0 b1
  have a1 := x0.c1; have b1 := x1.c1
  go_wp2_with fail
  go_loopw [5] (fun i wr => ∃ (j : Nat), i = .int .i64 j ∧ j ≤ es.length ∧ Box2 wr w.heap.size 26 (.slice A sh.length c) (.slice A' es.length c') ∧ Box2 wr (w.heap.size + 1) 26 (.slice B sh.length d) (.slice B' es.length d') ∧ Fr (fun k => k < w.heap.size) w wr) (fun i _ => es.length - (intOf i).toNat)
  case atStart => exact ⟨0, rfl, by omega, x0, x1, F⟩
  case round =>
    clear x0 x1 F a1 b1
    obtain ⟨j, rfl, hj, x0, x1, F⟩ := hrel
    have a1 := x0.c1; have b1 := x1.c1
    by_cases hlt : j < es.length
    · have D := fun R => (Fr.refl R wr).drew
      replace x0 := x0.fr (D (fun _ => True)) trivial
      replace x1 := x1.fr (D (fun _ => True)) trivial
      replace F := F.drew
      clear D
      obtain ⟨ad, P, n, d1, Q, m, o, rfl, hS, g0, g1, g2, r1, r2⟩ := Rm_get (HEA.out.fr F) hlt
      obtain ⟨ad2, P2, n2, d2, Q2, m2, o2, rfl, hS2, z0, z1, z2, r3, r4⟩ := Rm_get (HEB.out.fr F) hlt
      generalize es[j] = y at g0 r1 r2 z0 r3 r4
      generalize y.1 = sy at g0 z0
      have lw := x1.lt
      have hdw : wr.drew.heap.size = wr.heap.size := rfl
      have KS : ∀ u, Fr (fun k => k < wr.drew.heap.size) wr.drew u → u.cell? ⟨w.heap.size, 1, none⟩ = some (.slice (some ad) es.length c') ∧ u.cell? ⟨w.heap.size + 1, 1, none⟩ = some (.slice (some ad2) es.length d') ∧ u.cell? (ad.add (j * 3)) = some (.bool sy) ∧ u.cell? ⟨(ad.add (j * 3)).block, (ad.add (j * 3)).off + 1, none⟩ = some (.slice P n d1) ∧ u.cell? ⟨(ad.add (j * 3)).block, (ad.add (j * 3)).off + 2, none⟩ = some (.slice Q m o) ∧ u.cell? (ad2.add (j * 3)) = some (.bool sy) ∧ u.cell? ⟨(ad2.add (j * 3)).block, (ad2.add (j * 3)).off + 1, none⟩ = some (.slice P2 n2 d2) ∧ u.cell? ⟨(ad2.add (j * 3)).block, (ad2.add (j * 3)).off + 2, none⟩ = some (.slice Q2 m2 o2) := fun u h => ⟨(x0.keep h).c1, (x1.keep h).c1, h.cell g0 (by rw [addr_block]; omega), h.cell g1 (show (ad.add (j * 3)).block < _ by rw [addr_block]; omega), h.cell g2 (show (ad.add (j * 3)).block < _ by rw [addr_block]; omega), h.cell z0 (by rw [addr_block]; omega), h.cell z1 (show (ad2.add (j * 3)).block < _ by rw [addr_block]; omega), h.cell z2 (show (ad2.add (j * 3)).block < _ by rw [addr_block]; omega)⟩
      have K0 := Fr.refl (fun k => k < wr.drew.heap.size) wr.drew
      have S0 := KS _ K0
      clear g0 g1 g2 z0 z1 z2
      go_wp2_with fail
      clear a1 b1
      refine wpTill.begin (fun u => u.cell? ⟨w.heap.size, 1, none⟩ = some (.slice (some ad) es.length c') ∧ u.cell? ⟨w.heap.size + 1, 1, none⟩ = some (.slice (some ad2) es.length d') ∧ u.cell? (ad.add (j * 3)) = some (.bool sy) ∧ u.cell? ⟨(ad.add (j * 3)).block, (ad.add (j * 3)).off + 1, none⟩ = some (.slice P n d1) ∧ u.cell? ⟨(ad.add (j * 3)).block, (ad.add (j * 3)).off + 2, none⟩ = some (.slice Q m o) ∧ u.cell? (ad2.add (j * 3)) = some (.bool sy) ∧ u.cell? ⟨(ad2.add (j * 3)).block, (ad2.add (j * 3)).off + 1, none⟩ = some (.slice P2 n2 d2) ∧ u.cell? ⟨(ad2.add (j * 3)).block, (ad2.add (j * 3)).off + 2, none⟩ = some (.slice Q2 m2 o2)) 13 (by kernel_rfl) ?_
      change wpTill _ _ _ _ _ _ 14 _ _ _
      refine wpTill.take 0 (.pointer (some ⟨w.heap.size, 1, none⟩)) rfl (by kernel_rfl) (by kernel_rfl) (fun _ _ _ h => h) S0 (by rfl) (fun u hu => by go_simp) ?_
      try simp only [Act.put, List.setIfInBounds_toArray, List.set_cons_zero, List.set_cons_succ]
      refine wpTill.take 1 (.slice (some ad) es.length c') rfl (by kernel_rfl) (by kernel_rfl) (fun _ _ _ h => h) S0 (by rfl) (fun u hu => by go_simp) ?_
      try simp only [Act.put, List.setIfInBounds_toArray, List.set_cons_zero, List.set_cons_succ]
      refine wpTill.take 2 (.int .i64 j) rfl (by kernel_rfl) (by kernel_rfl) (fun _ _ _ h => h) S0 (by rfl) (fun u hu => by go_simp) ?_
      try simp only [Act.put, List.setIfInBounds_toArray, List.set_cons_zero, List.set_cons_succ]
      refine wpTill.take 3 (.pointer (some (ad.add (j * 3)))) rfl (by kernel_rfl) (by kernel_rfl) (fun _ _ _ h => h) S0 (by rfl) (fun u hu => by go_simp) ?_
      try simp only [Act.put, List.setIfInBounds_toArray, List.set_cons_zero, List.set_cons_succ]
      refine wpTill.take 4 (.agg #[.bool sy, .slice P n d1, .slice Q m o]) rfl (by kernel_rfl) (by kernel_rfl) (fun _ _ _ h => h) S0 (by rfl) (fun u hu => by go_simp) ?_
      try simp only [Act.put, List.setIfInBounds_toArray, List.set_cons_zero, List.set_cons_succ]
      refine wpTill.take 5 (.pointer (some ⟨w.heap.size + 1, 1, none⟩)) rfl (by kernel_rfl) (by kernel_rfl) (fun _ _ _ h => h) S0 (by rfl) (fun u hu => by go_simp) ?_
      try simp only [Act.put, List.setIfInBounds_toArray, List.set_cons_zero, List.set_cons_succ]
      refine wpTill.take 6 (.slice (some ad2) es.length d') rfl (by kernel_rfl) (by kernel_rfl) (fun _ _ _ h => h) S0 (by rfl) (fun u hu => by go_simp) ?_
      try simp only [Act.put, List.setIfInBounds_toArray, List.set_cons_zero, List.set_cons_succ]
      refine wpTill.take 7 (.int .i64 j) rfl (by kernel_rfl) (by kernel_rfl) (fun _ _ _ h => h) S0 (by rfl) (fun u hu => by go_simp) ?_
      try simp only [Act.put, List.setIfInBounds_toArray, List.set_cons_zero, List.set_cons_succ]
      refine wpTill.take 8 (.pointer (some (ad2.add (j * 3)))) rfl (by kernel_rfl) (by kernel_rfl) (fun _ _ _ h => h) S0 (by rfl) (fun u hu => by go_simp) ?_
      try simp only [Act.put, List.setIfInBounds_toArray, List.set_cons_zero, List.set_cons_succ]
      refine wpTill.take 9 (.agg #[.bool sy, .slice P2 n2 d2, .slice Q2 m2 o2]) rfl (by kernel_rfl) (by kernel_rfl) (fun _ _ _ h => h) S0 (by rfl) (fun u hu => by go_simp) ?_
      try simp only [Act.put, List.setIfInBounds_toArray, List.set_cons_zero, List.set_cons_succ]
      refine wpTill.twoNew 10 11 (.cells #[.bool false, .slice none 0 0, .slice none 0 0] 43) (.cells #[.bool false, .slice none 0 0, .slice none 0 0] 43) rfl rfl (by kernel_rfl) (by kernel_rfl) (by kernel_rfl) rfl rfl (by decide) (fun d h e => by cases h; cases e) (fun a u => by go_simp) (fun a u => by go_simp) KS ?_
      intro b6 b7 U hne l6 l7 y6 y7 GU
      replace y6 : Box3 U b6 43 (.bool false) (.slice none 0 0) (.slice none 0 0) := y6
      replace y7 : Box3 U b7 43 (.bool false) (.slice none 0 0) (.slice none 0 0) := y7
      try simp only [Act.put, List.setIfInBounds_toArray, List.set_cons_zero, List.set_cons_succ]
      have o0 := y6.c0; have o1 := y6.c1; have o2' := y6.c2; have o3 := y6.free 0; have o4 := y6.free 1; have o5 := y6.free 2
      refine wpTill.next 12 rfl (by kernel_rfl) (by rfl) (fun K hK => ?_)
      go_simp
      refine hK _ _ (fun _ => KS _ (fr3 GU l6)) ?_
      clear hK K o0 o1 o2' o3 o4 o5
      try simp only [Act.put, List.setIfInBounds_toArray, List.set_cons_zero, List.set_cons_succ]
      have F6 := fr_set3 U b6 (.bool sy) (.slice P n d1) (.slice Q m o)
      have t6 := y6.set3 (.bool sy) (.slice P n d1) (.slice Q m o)
      have t7 := y7.fr F6 (Ne.symm hne)
      have G6 := fr3 GU l6 (x := .bool sy) (y := .slice P n d1) (z := .slice Q m o)
      generalize ((U.setCell ⟨b6, 0, none⟩ (.bool sy)).setCell ⟨b6, 1, none⟩ (.slice P n d1)).setCell ⟨b6, 2, none⟩ (.slice Q m o) = V6 at t6 t7 G6 ⊢
      clear F6 y6 y7 GU
      have o0 := t7.c0; have o1 := t7.c1; have o2' := t7.c2; have o3 := t7.free 0; have o4 := t7.free 1; have o5 := t7.free 2
      refine wpTill.next 13 rfl (by kernel_rfl) (by rfl) (fun K hK => ?_)
      go_simp
      refine hK _ _ (no_wait (by kernel_rfl)) ?_
      clear hK K o0 o1 o2' o3 o4 o5
      try simp only [Act.put, List.setIfInBounds_toArray, List.set_cons_zero, List.set_cons_succ]
      refine wpTill.done (by kernel_rfl) ?_
      have F7 := fr_set3 V6 b7 (.bool sy) (.slice P2 n2 d2) (.slice Q2 m2 o2)
      have s7 := t7.set3 (.bool sy) (.slice P2 n2 d2) (.slice Q2 m2 o2)
      have s6 := t6.fr F7 hne
      have G7 := fr3 G6 l7 (x := .bool sy) (y := .slice P2 n2 d2) (z := .slice Q2 m2 o2)
      generalize ((V6.setCell ⟨b7, 0, none⟩ (.bool sy)).setCell ⟨b7, 1, none⟩ (.slice P2 n2 d2)).setCell ⟨b7, 2, none⟩ (.slice Q2 m2 o2) = V7 at s6 s7 G7 ⊢
      clear F7 t6 t7 G6 KS S0 K0
      have L0 := Lib.hid ((r1.mono (T := fun k => k < wr.drew.heap.size) fun k hk => by omega).fr G7)
      have L1 := Lib.hid ((r3.mono (T := fun k => k < wr.drew.heap.size) fun k hk => by omega).fr G7)
      have L2 := Lib.hid ((r2.mono (T := fun k => k < wr.drew.heap.size) fun k hk => by omega).fr G7)
      have L3 := Lib.hid ((r4.mono (T := fun k => k < wr.drew.heap.size) fun k hk => by omega).fr G7)
      replace x0 := x0.keep G7
      replace x1 := x1.keep G7
      replace F := fr_then F G7
      clear r1 r2 r3 r4 G7 l6 l7
      have q0 := s6.c0; have q1 := s6.c1; have q2 := s6.c2; have p0 := s7.c0; have p1 := s7.c1; have p2 := s7.c2
      have hsy : (sy != sy) = false := bne_self_eq_false sy
      go_wp2_with fail
      with_reducible refine (limbs_y _ (.slice P n d1) (.slice P2 n2 d2) y.2.1 L0.out L1.out).mono ?_
      rintro e V8 ⟨rfl, hf⟩
      replace s6 := s6.keep hf
      replace s7 := s7.keep hf
      replace x0 := x0.keep hf
      replace x1 := x1.keep hf
      replace F := fr_then F hf
      replace L2 := Lib.hid (L2.out.keep' Lm_pos hf)
      replace L3 := Lib.hid (L3.out.keep' Lm_pos hf)
      clear hf L0 L1 q0 q1 q2 p0 p1 p2
      have q2 := s6.c2; have p2 := s7.c2
      go_wp2_with fail
      with_reducible refine (limbs_y _ (.slice Q m o) (.slice Q2 m2 o2) y.2.2 L2.out L3.out).mono ?_
      rintro e V9 ⟨rfl, hf⟩
      replace x0 := x0.keep hf
      replace x1 := x1.keep hf
      replace F := fr_then F hf
      clear hf q2 p2
      go_wp2_with fail
      go_roundw
      case rel => exact ⟨j + 1, by go_num, by omega, x0, x1, F⟩
      case measure => first | (simp [intOf]; done) | (simp [intOf]; omega)
    · go_wp2_with fail
      go_ret
      exact ⟨rfl, F⟩
end Go.Proofs.YtjnojkfkhccgaaaGreat

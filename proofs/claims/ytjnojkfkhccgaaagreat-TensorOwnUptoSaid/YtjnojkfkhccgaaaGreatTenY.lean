import Derived.Test.YtjnojkfkhccgaaaGreatTenX

/- fluxionref07.Dot. -/
namespace Go.Proofs.YtjnojkfkhccgaaaGreat
open Go.RowKit

/-- The sum of the first products. -/
def sumQ (a b : List Rat) : Nat → Rat
  | 0 => 0
  | j + 1 => sumQ a b j + a.getD j 0 * b.getD j 0
theorem RR.bd {S : Nat → Prop} {w : World} {vn vd : Value} {q : Rat} {L : Nat} (h : RR S w vn vd q L) : RR (fun k => S k ∧ k < w.heap.size) w vn vd q L := ⟨⟨h.num.sl.bd Dg_pos, h.num.len⟩, ⟨h.den.sl.bd Dg_pos, h.den.len⟩⟩
theorem RR.past {S R : Nat → Prop} {w w' : World} {vn vd : Value} {q : Rat} {L : Nat} (h : RR S w vn vd q L) (hf : Fr R w w') (hs : ∀ k, S k → R k) : RR S w' vn vd q L := h.fr (hf.mono fun k _ hk => hs k hk)
theorem RR.sizes {S : Nat → Prop} {w : World} {vn vd : Value} {q : Rat} {L K : Nat} (h : RR S w vn vd q L) (hn : (dg DB q.num.natAbs).length ≤ K) (hd : (dg DB q.den).length ≤ K) : RR S w vn vd q K := ⟨⟨h.num.sl, hn⟩, ⟨h.den.sl, hd⟩⟩
theorem rmul_h {S T : Nat → Prop} (w : World) (s t : Bool) (vn vd un ud : Value) (x y : Rat) (L : Nat) (hx : Hid (RR S w vn vd x L)) (hy : Hid (RR T w un ud y L)) (hs : Hid (s = sg x)) (ht : Hid (t = sg y)) (hL1 : 1 ≤ L) (hl : L ≤ 104857600) :
    Calls Tryz.prog 54 #[.agg #[.bool s, vn, vd], .agg #[.bool t, un, ud]] w fun e w' => ∃ r v1 v2, e = .returned (.agg #[.bool r, v1, v2]) ∧ Hid (r = sg (x * y)) ∧ Hid (RR (fun k => w.heap.size ≤ k) w' v1 v2 (x * y) (2 * L)) ∧ Fr (fun k => k < w.heap.size) w w' := by
  refine (rmul_q w s t vn vd un ud x y L hx.out hy.out hs.out ht.out hL1 hl).mono ?_
  rintro e w' ⟨v1, v2, rfl, h, hf⟩
  exact ⟨_, v1, v2, rfl, Lib.hid rfl, Lib.hid h, hf⟩
theorem radd_h {S T : Nat → Prop} (w : World) (s t : Bool) (vn vd un ud : Value) (x y : Rat) (L : Nat) (hx : Hid (RR S w vn vd x L)) (hy : Hid (RR T w un ud y L)) (hs : Hid (s = sg x)) (ht : Hid (t = sg y)) (hL1 : 1 ≤ L) (hl : L ≤ 104857600) :
    Calls Tryz.prog 53 #[.agg #[.bool s, vn, vd], .agg #[.bool t, un, ud]] w fun e w' => ∃ r v1 v2, e = .returned (.agg #[.bool r, v1, v2]) ∧ Hid (r = sg (x + y)) ∧ Hid (RR (fun k => w.heap.size ≤ k) w' v1 v2 (x + y) (4 * L)) ∧ Fr (fun k => k < w.heap.size) w w' := by
  refine (radd_q w s t vn vd un ud x y L hx.out hy.out hs.out ht.out hL1 hl).mono ?_
  rintro e w' ⟨v1, v2, rfl, h, hf⟩
  exact ⟨_, v1, v2, rfl, Lib.hid rfl, Lib.hid h, hf⟩

set_option maxRecDepth 20000 in
set_option maxHeartbeats 8000000 in
theorem rdot_t {S T U V : Nat → Prop} (w : World) (va vea vb veb : Value) (sha shb : List Int) (qa qb : List Rat) (K M : Nat) (ha : Sl Im S w va sha) (hea : Sl (Rk K) T w vea qa) (hb : Sl Im U w vb shb) (heb : Sl (Rk K) V w veb qb)
    (hlen : qa.length = qb.length) (hK1 : 1 ≤ K) (hKM : 2 * K ≤ M) (h6 : 6 ≤ M) (hM : M ≤ 104857600) (hB : ∀ j, j ≤ qa.length → (dg DB (sumQ qa qb j).num.natAbs).length ≤ M ∧ (dg DB (sumQ qa qb j).den).length ≤ M) :
    Calls Tryz.prog 24 #[.agg #[va, vea], .agg #[vb, veb]] w fun e w' => ∃ s v1 v2, e = .returned (.agg #[.bool s, v1, v2]) ∧ Hid (s = sg (sumQ qa qb qa.length)) ∧ Hid (RR (fun k => w.heap.size ≤ k) w' v1 v2 (sumQ qa qb qa.length) M) ∧ Fr (fun k => k < w.heap.size) w w' := by
  obtain ⟨A, c, rfl, _, _, _⟩ := ha.slice
  obtain ⟨A', c', rfl, _, _, hlqa⟩ := hea.slice
  obtain ⟨B, d, rfl, _, _, _⟩ := hb.slice
  obtain ⟨B', d', rfl, _, _, hlqb⟩ := heb.slice
  have F := fun R => (((Fr.refl R w).alloc (.cells #[.slice A sha.length c, .slice A' qa.length c'] 37)).alloc (.cells #[.slice B shb.length d, .slice B' qb.length d'] 37)).alloc (.cells #[.bool false, .slice none 0 0, .slice none 0 0] 52)
  have b0 := ((Box2.new w 37 (.slice A sha.length c) (.slice A' qa.length c')).alloc (.cells #[.slice B shb.length d, .slice B' qb.length d'] 37)).alloc (.cells #[.bool false, .slice none 0 0, .slice none 0 0] 52)
  have b1 := (Box2.new (w.alloc (.cells #[.slice A sha.length c, .slice A' qa.length c'] 37)) 37 (.slice B shb.length d) (.slice B' qb.length d')).alloc (.cells #[.bool false, .slice none 0 0, .slice none 0 0] 52)
  have b2 := Box3.new ((w.alloc (.cells #[.slice A sha.length c, .slice A' qa.length c'] 37)).alloc (.cells #[.slice B shb.length d, .slice B' qb.length d'] 37)) 52 (.bool false) (.slice none 0 0) (.slice none 0 0)
  simp only [World.size_alloc] at b1 b2
  have HA := Lib.hid (hea.up (Rk_pos K) (Nat.le_refl _) (F _))
  have HB := Lib.hid (heb.up (Rk_pos K) (Nat.le_refl _) (F _))
  replace F := F (fun k => k < w.heap.size)
  have HBD := Lib.hid hB
  have HLEN := Lib.hid hlen
  clear ha hea hb heb hB hlen
  go_enter Tryz.func24, Tryz.ntmps24
  go_wp2_with fail
  with_reducible refine (rint_s _ 0 (by decide) (by decide)).mono ?_
  rintro e w1 ⟨s0, v1, v2, rfl, hs0, h0, hf⟩
  obtain ⟨⟨Q1, i1, j1, rfl⟩, ⟨Q2, i2, j2, rfl⟩⟩ := h0.out.form
  have s1 := hf.size
  simp only [World.size_alloc] at s1
  have al := fun R => (Fr.refl R w1).alloc (.cells #[.bool s0, .slice Q1 i1 j1, .slice Q2 i2 j2] 52)
  have b3 := Box3.new w1 52 (.bool s0) (.slice Q1 i1 j1) (.slice Q2 i2 j2)
  replace b0 := (b0.keep hf).keep (al _)
  replace b1 := (b1.keep hf).keep (al _)
  replace b2 := (b2.keep hf).keep (al _)
  replace HA := Lib.hid ((HA.out.keep' (Rk_pos K) hf).keep' (Rk_pos K) (al _))
  replace HB := Lib.hid ((HB.out.keep' (Rk_pos K) hf).keep' (Rk_pos K) (al _))
  replace F := fr_then (fr_then F hf) (al _)
  have HS := Lib.hid (show s0 = sg (sumQ qa qb 0) from hs0.out)
  have HR := Lib.hid (show RR (fun k => w.heap.size + 3 ≤ k ∧ k ≠ w1.heap.size) _ _ _ (sumQ qa qb 0) M from ((h0.out.bd.fr (al _)).mono fun k hk => ⟨by simp only [World.size_alloc] at hk; omega, by omega⟩).wide h6)
  clear hs0 h0 hf al
  go_wp2_with fail
  go_loopw [6] (fun i wr => ∃ (j : Nat) (s : Bool) (v1 v2 : Value), i = .int .i64 j ∧ j ≤ qa.length ∧ Box2 wr w.heap.size 37 (.slice A sha.length c) (.slice A' qa.length c') ∧ Box2 wr (w.heap.size + 1) 37 (.slice B shb.length d) (.slice B' qb.length d') ∧ Box3 wr (w.heap.size + 2) 52 (.bool false) (.slice none 0 0) (.slice none 0 0) ∧ Box3 wr w1.heap.size 52 (.bool s) v1 v2 ∧ Hid (s = sg (sumQ qa qb j)) ∧ Hid (RR (fun k => w.heap.size + 3 ≤ k ∧ k ≠ w1.heap.size) wr v1 v2 (sumQ qa qb j) M) ∧ Hid (Sl (Rk K) (fun k => k < w.heap.size) wr (.slice A' qa.length c') qa) ∧ Hid (Sl (Rk K) (fun k => k < w.heap.size) wr (.slice B' qb.length d') qb) ∧ Fr (fun k => k < w.heap.size) w wr) (fun i _ => qa.length - (intOf i).toNat)
  case atStart => exact ⟨0, _, _, _, rfl, by omega, b0, b1, b2, b3, HS, HR, HA, HB, F⟩
  case round =>
    clear b0 b1 b2 b3 HS HR HA HB F
    obtain ⟨j, s, v1, v2, rfl, hj, b0, b1, b2, b3, HS, HR, HA, HB, F⟩ := hrel
    obtain ⟨⟨Q1, i1, j1, rfl⟩, ⟨Q2, i2, j2, rfl⟩⟩ := HR.out.form
    have c01 := b0.c1
    have c11 := b1.c1
    have lt1 := b3.lt
    by_cases hlt : j < qa.length
    · have hltb : j < qb.length := by rw [← HLEN.out]; exact hlt
      have D := fun R => (Fr.refl R wr).drew
      replace b0 := b0.fr (D (fun _ => True)) trivial
      replace b1 := b1.fr (D (fun _ => True)) trivial
      replace b2 := b2.fr (D (fun _ => True)) trivial
      replace b3 := b3.fr (D (fun _ => True)) trivial
      replace HR := Lib.hid (HR.out.fr (D _))
      replace HA := Lib.hid (HA.out.fr (D _))
      replace HB := Lib.hid (HB.out.fr (D _))
      replace F := F.drew
      clear D
      obtain ⟨ad, P, n, d1, Q, m, o, rfl, hS, g0, g1, g2, r1⟩ := Rk_get HA.out hlt
      obtain ⟨ad2, P2, n2, d2, Q2', m2, o2, rfl, hS2, z0, z1, z2, r2⟩ := Rk_get HB.out hltb
      have hgx : qa.getD j 0 = qa[j] := by rw [List.getD_eq_getElem?_getD, List.getElem?_eq_getElem hlt]; rfl
      have hgy : qb.getD j 0 = qb[j] := by rw [List.getD_eq_getElem?_getD, List.getElem?_eq_getElem hltb]; rfl
      have HSTEP := Lib.hid (show sumQ qa qb (j + 1) = sumQ qa qb j + qa[j] * qb[j] by rw [← hgx, ← hgy]; rfl)
      have HB1 := Lib.hid (HBD.out (j + 1) hlt)
      clear hgx hgy
      generalize qa[j] = x at g0 r1 HSTEP
      generalize qb[j] = y at z0 r2 HSTEP
      obtain ⟨sx, hsx⟩ : ∃ s, s = sg x := ⟨_, rfl⟩
      obtain ⟨sy, hsy⟩ : ∃ s, s = sg y := ⟨_, rfl⟩
      rw [← hsx] at g0
      rw [← hsy] at z0
      have HSX := Lib.hid hsx
      have HSY := Lib.hid hsy
      have HX := Lib.hid r1
      have HY := Lib.hid r2
      clear hsx hsy r1 r2
      have S0 : wr.drew.cell? ⟨w1.heap.size, 0, none⟩ = some (.bool s) ∧ wr.drew.cell? ⟨w1.heap.size, 1, none⟩ = some (.slice Q1 i1 j1) ∧ wr.drew.cell? ⟨w1.heap.size, 2, none⟩ = some (.slice Q2 i2 j2) ∧ wr.drew.cell? ⟨w.heap.size, 1, none⟩ = some (.slice (some ad) qa.length c') ∧ wr.drew.cell? (ad.add (j * 3)) = some (.bool sx) ∧ wr.drew.cell? ⟨(ad.add (j * 3)).block, (ad.add (j * 3)).off + 1, none⟩ = some (.slice P n d1) ∧ wr.drew.cell? ⟨(ad.add (j * 3)).block, (ad.add (j * 3)).off + 2, none⟩ = some (.slice Q m o) ∧ wr.drew.cell? ⟨w.heap.size + 1, 1, none⟩ = some (.slice (some ad2) qb.length d') ∧ wr.drew.cell? (ad2.add (j * 3)) = some (.bool sy) ∧ wr.drew.cell? ⟨(ad2.add (j * 3)).block, (ad2.add (j * 3)).off + 1, none⟩ = some (.slice P2 n2 d2) ∧ wr.drew.cell? ⟨(ad2.add (j * 3)).block, (ad2.add (j * 3)).off + 2, none⟩ = some (.slice Q2' m2 o2) := ⟨b3.c0, b3.c1, b3.c2, b0.c1, g0, g1, g2, b1.c1, z0, z1, z2⟩
      have KS : ∀ u, Fr (fun k => k < wr.drew.heap.size) wr.drew u → u.cell? ⟨w1.heap.size, 0, none⟩ = some (.bool s) ∧ u.cell? ⟨w1.heap.size, 1, none⟩ = some (.slice Q1 i1 j1) ∧ u.cell? ⟨w1.heap.size, 2, none⟩ = some (.slice Q2 i2 j2) ∧ u.cell? ⟨w.heap.size, 1, none⟩ = some (.slice (some ad) qa.length c') ∧ u.cell? (ad.add (j * 3)) = some (.bool sx) ∧ u.cell? ⟨(ad.add (j * 3)).block, (ad.add (j * 3)).off + 1, none⟩ = some (.slice P n d1) ∧ u.cell? ⟨(ad.add (j * 3)).block, (ad.add (j * 3)).off + 2, none⟩ = some (.slice Q m o) ∧ u.cell? ⟨w.heap.size + 1, 1, none⟩ = some (.slice (some ad2) qb.length d') ∧ u.cell? (ad2.add (j * 3)) = some (.bool sy) ∧ u.cell? ⟨(ad2.add (j * 3)).block, (ad2.add (j * 3)).off + 1, none⟩ = some (.slice P2 n2 d2) ∧ u.cell? ⟨(ad2.add (j * 3)).block, (ad2.add (j * 3)).off + 2, none⟩ = some (.slice Q2' m2 o2) := fun u hu =>
        ⟨(b3.keep hu).c0, (b3.keep hu).c1, (b3.keep hu).c2, (b0.keep hu).c1, hu.cell g0 (by rw [addr_block]; exact Nat.lt_of_lt_of_le hS F.size), hu.cell g1 (show (ad.add (j * 3)).block < _ by rw [addr_block]; exact Nat.lt_of_lt_of_le hS F.size), hu.cell g2 (show (ad.add (j * 3)).block < _ by rw [addr_block]; exact Nat.lt_of_lt_of_le hS F.size), (b1.keep hu).c1, hu.cell z0 (by rw [addr_block]; exact Nat.lt_of_lt_of_le hS2 F.size), hu.cell z1 (show (ad2.add (j * 3)).block < _ by rw [addr_block]; exact Nat.lt_of_lt_of_le hS2 F.size), hu.cell z2 (show (ad2.add (j * 3)).block < _ by rw [addr_block]; exact Nat.lt_of_lt_of_le hS2 F.size)⟩
      go_wp2_with fail
      refine wpTill.begin (fun u => u.cell? ⟨w1.heap.size, 0, none⟩ = some (.bool s) ∧ u.cell? ⟨w1.heap.size, 1, none⟩ = some (.slice Q1 i1 j1) ∧ u.cell? ⟨w1.heap.size, 2, none⟩ = some (.slice Q2 i2 j2) ∧ u.cell? ⟨w.heap.size, 1, none⟩ = some (.slice (some ad) qa.length c') ∧ u.cell? (ad.add (j * 3)) = some (.bool sx) ∧ u.cell? ⟨(ad.add (j * 3)).block, (ad.add (j * 3)).off + 1, none⟩ = some (.slice P n d1) ∧ u.cell? ⟨(ad.add (j * 3)).block, (ad.add (j * 3)).off + 2, none⟩ = some (.slice Q m o) ∧ u.cell? ⟨w.heap.size + 1, 1, none⟩ = some (.slice (some ad2) qb.length d') ∧ u.cell? (ad2.add (j * 3)) = some (.bool sy) ∧ u.cell? ⟨(ad2.add (j * 3)).block, (ad2.add (j * 3)).off + 1, none⟩ = some (.slice P2 n2 d2) ∧ u.cell? ⟨(ad2.add (j * 3)).block, (ad2.add (j * 3)).off + 2, none⟩ = some (.slice Q2' m2 o2)) 13 (by kernel_rfl) ?_
      change wpTill _ _ _ _ _ _ 14 _ _ _
      refine wpTill.take 0 (.agg #[.bool s, .slice Q1 i1 j1, .slice Q2 i2 j2]) rfl (by kernel_rfl) (by kernel_rfl) (fun _ _ _ h => h) S0 (by rfl) (fun u hu => by go_simp) ?_
      try simp only [Act.put, List.setIfInBounds_toArray, List.set_cons_zero, List.set_cons_succ]
      refine wpTill.take 1 (.pointer (some ⟨w.heap.size, 1, none⟩)) rfl (by kernel_rfl) (by kernel_rfl) (fun _ _ _ h => h) S0 (by rfl) (fun u hu => by go_simp) ?_
      try simp only [Act.put, List.setIfInBounds_toArray, List.set_cons_zero, List.set_cons_succ]
      refine wpTill.take 2 (.slice (some ad) qa.length c') rfl (by kernel_rfl) (by kernel_rfl) (fun _ _ _ h => h) S0 (by rfl) (fun u hu => by go_simp) ?_
      try simp only [Act.put, List.setIfInBounds_toArray, List.set_cons_zero, List.set_cons_succ]
      refine wpTill.take 3 (.int .i64 j) rfl (by kernel_rfl) (by kernel_rfl) (fun _ _ _ h => h) S0 (by rfl) (fun u hu => by go_simp) ?_
      try simp only [Act.put, List.setIfInBounds_toArray, List.set_cons_zero, List.set_cons_succ]
      refine wpTill.take 4 (.pointer (some (ad.add (j * 3)))) rfl (by kernel_rfl) (by kernel_rfl) (fun _ _ _ h => h) S0 (by rfl) (fun u hu => by go_simp) ?_
      try simp only [Act.put, List.setIfInBounds_toArray, List.set_cons_zero, List.set_cons_succ]
      refine wpTill.take 5 (.agg #[.bool sx, .slice P n d1, .slice Q m o]) rfl (by kernel_rfl) (by kernel_rfl) (fun _ _ _ h => h) S0 (by rfl) (fun u hu => by go_simp) ?_
      try simp only [Act.put, List.setIfInBounds_toArray, List.set_cons_zero, List.set_cons_succ]
      refine wpTill.take 6 (.pointer (some ⟨w.heap.size + 1, 1, none⟩)) rfl (by kernel_rfl) (by kernel_rfl) (fun _ _ _ h => h) S0 (by rfl) (fun u hu => by go_simp) ?_
      try simp only [Act.put, List.setIfInBounds_toArray, List.set_cons_zero, List.set_cons_succ]
      refine wpTill.take 7 (.slice (some ad2) qb.length d') rfl (by kernel_rfl) (by kernel_rfl) (fun _ _ _ h => h) S0 (by rfl) (fun u hu => by go_simp) ?_
      try simp only [Act.put, List.setIfInBounds_toArray, List.set_cons_zero, List.set_cons_succ]
      refine wpTill.take 8 (.int .i64 j) rfl (by kernel_rfl) (by kernel_rfl) (fun _ _ _ h => h) S0 (by rfl) (fun u hu => by go_simp) ?_
      try simp only [Act.put, List.setIfInBounds_toArray, List.set_cons_zero, List.set_cons_succ]
      refine wpTill.take 9 (.pointer (some (ad2.add (j * 3)))) rfl (by kernel_rfl) (by kernel_rfl) (fun _ _ _ h => h) S0 (by rfl) (fun u hu => by go_simp) ?_
      try simp only [Act.put, List.setIfInBounds_toArray, List.set_cons_zero, List.set_cons_succ]
      refine wpTill.take 10 (.agg #[.bool sy, .slice P2 n2 d2, .slice Q2' m2 o2]) rfl (by kernel_rfl) (by kernel_rfl) (fun _ _ _ h => h) S0 (by rfl) (fun u hu => by go_simp) ?_
      try simp only [Act.put, List.setIfInBounds_toArray, List.set_cons_zero, List.set_cons_succ]
      refine wpTill.next 11 rfl (by kernel_rfl) (by rfl) (fun K' hK => ?_)
      go_simp
      with_reducible refine (rmul_h _ sx sy (.slice P n d1) (.slice Q m o) (.slice P2 n2 d2) (.slice Q2' m2 o2) x y K HX HY HSX HSY hK1 (by omega)).mono ?_
      rintro e u1 ⟨s8, v3, v4, rfl, hs8, h8, hf1⟩
      obtain ⟨⟨Q5, i5, j5, rfl⟩, ⟨Q6, i6, j6, rfl⟩⟩ := h8.out.form
      refine hK _ _ (fun _ => KS _ hf1) ?_
      clear hK K'
      try simp only [Act.put, List.setIfInBounds_toArray, List.set_cons_zero, List.set_cons_succ]
      refine wpTill.next 12 rfl (by kernel_rfl) (by rfl) (fun K' hK => ?_)
      go_simp
      with_reducible refine (radd_h _ s s8 (.slice Q1 i1 j1) (.slice Q2 i2 j2) (.slice Q5 i5 j5) (.slice Q6 i6 j6) (sumQ qa qb j) (x * y) M (Lib.hid (HR.out.keep hf1)) (Lib.hid (h8.out.wide hKM)) HS hs8 (by omega) hM).mono ?_
      rintro e u2 ⟨s9, v5, v6, rfl, hs9, h9, hf2⟩
      obtain ⟨⟨Q7, i7, j7, rfl⟩, ⟨Q8, i8, j8, rfl⟩⟩ := h9.out.form
      have G2 := fr_then hf1 hf2
      refine hK _ _ (fun _ => KS _ G2) ?_
      clear hK K'
      try simp only [Act.put, List.setIfInBounds_toArray, List.set_cons_zero, List.set_cons_succ]
      replace b0 := b0.keep G2
      replace b1 := b1.keep G2
      replace b2 := b2.keep G2
      replace b3 := b3.keep G2
      replace HA := Lib.hid (HA.out.keep' (Rk_pos K) G2)
      replace HB := Lib.hid (HB.out.keep' (Rk_pos K) G2)
      replace F := fr_then F G2
      have sz := hf1.size
      have e0 := b3.c0
      have e1 := b3.c1
      have e2 := b3.c2
      have e3 := b3.free 0
      have e4 := b3.free 1
      have e5 := b3.free 2
      have hdw : wr.drew.heap.size = wr.heap.size := rfl
      clear S0 KS g0 g1 g2 z0 z1 z2 HX HY hf1 hf2 G2
      refine wpTill.next 13 rfl (by kernel_rfl) (by rfl) (fun K' hK => ?_)
      go_simp
      refine hK _ _ (no_wait (by kernel_rfl)) ?_
      clear hK K'
      try simp only [Act.put, List.setIfInBounds_toArray, List.set_cons_zero, List.set_cons_succ]
      refine wpTill.done (by kernel_rfl) ?_
      have F9 := fr_set3 u2 w1.heap.size (.bool s9) (.slice Q7 i7 j7) (.slice Q8 i8 j8)
      have f3 := b3.set3 (.bool s9) (.slice Q7 i7 j7) (.slice Q8 i8 j8)
      clear e0 e1 e2 e3 e4 e5
      have f0 := b0.fr F9 (by omega)
      have f1 := b1.fr F9 (by omega)
      have f2 := b2.fr F9 (by omega)
      have fA := Lib.hid (HA.out.fr (F9.mono fun k _ hk => by omega))
      have fB := Lib.hid (HB.out.fr (F9.mono fun k _ hk => by omega))
      have fF := F.comp F9 (R := fun k => k < w.heap.size) fun k _ hk => ⟨hk, by omega⟩
      have fS := Lib.hid (show s9 = sg (sumQ qa qb (j + 1)) by rw [HSTEP.out]; exact hs9.out)
      have hv := h9.out.past F9 (fun k hk => by omega)
      rw [← HSTEP.out] at hv
      have fR := Lib.hid (show RR (fun k => w.heap.size + 3 ≤ k ∧ k ≠ w1.heap.size) _ _ _ (sumQ qa qb (j + 1)) M from (hv.mono fun k hk => ⟨by omega, by omega⟩).sizes HB1.out.1 HB1.out.2)
      clear hv h9 h8
      go_wp2_with fail
      go_roundw
      case rel => exact ⟨j + 1, _, _, _, by go_num, by omega, f0, f1, f2, f3, fS, fR, fA, fB, fF⟩
      case measure => first | (simp [intOf]; done) | (simp [intOf]; omega)
    · obtain rfl : j = qa.length := by omega
      have d0 := b2.c0
      have d1 := b2.c1
      have d2 := b2.c2
      have f0 := b2.free 0
      have f1 := b2.free 1
      have f2 := b2.free 2
      have e0 := b3.c0
      have e1 := b3.c1
      have e2 := b3.c2
      have F9 := fr_set3 wr (w.heap.size + 2) (.bool s) (.slice Q1 i1 j1) (.slice Q2 i2 j2)
      have y2 := b2.set3 (.bool s) (.slice Q1 i1 j1) (.slice Q2 i2 j2)
      have F8 := F.comp F9 (R := fun k => k < w.heap.size) fun k _ hk => ⟨hk, by omega⟩
      have fR := Lib.hid (show RR (fun k => w.heap.size ≤ k) _ _ _ (sumQ qa qb qa.length) M from (HR.out.past F9 fun k hk => by omega).mono fun k hk => by omega)
      go_wp2_with fail
      refine bodyPost_ret (results_cell3 rfl rfl y2 Tryz.underlying52 ref3) rfl ?_
      exact ⟨_, _, _, rfl, HS, fR, F8⟩
end Go.Proofs.YtjnojkfkhccgaaaGreat

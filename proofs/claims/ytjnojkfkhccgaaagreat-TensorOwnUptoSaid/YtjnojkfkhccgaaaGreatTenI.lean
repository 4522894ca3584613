import Derived.Test.YtjnojkfkhccgaaaGreatTenH

/- fluxionref01.Limbs, fluxionref03.Back: the document's numbers as the program has them. -/
namespace Go.Proofs.YtjnojkfkhccgaaaGreat
open Go.RowKit

theorem short_w {S : Nat → Prop} (w : World) (va : Value) (N L : Nat) (ha : RC S w va N L) (hl : L ≤ 1099511627000) :
    Calls Tryz.prog 124 #[va, .int .i64 65536] w fun e w' => ∃ v, e = .returned (.tuple #[v, .int .i64 ((N % 65536 : Nat) : Int)]) ∧ RC (fun k => w.heap.size ≤ k) w' v (N / 65536) L ∧ Fr (fun k => k < w.heap.size) w w' :=
  short_r w va N L 65536 ha hl (by decide) (by decide)
theorem half_lt {M : Nat} : M % 65536 < 65536 := Nat.mod_lt _ (by decide)
theorem limb_of (M : Nat) : M % LB = M / 65536 % 65536 * 65536 + M % 65536 := by unfold LB; omega
theorem limb_rest (M : Nat) : M / 65536 / 65536 = M / LB := by rw [Nat.div_div_eq_div_mul]; rfl

set_option maxHeartbeats 4000000 in
theorem rlimbs_r {S : Nat → Prop} (w : World) (va : Value) (N L : Nat) (ha : RC S w va N L) (hl : L ≤ 1099511627000) (hN : (dg LB N).length ≤ 1099511627000) :
    Calls Tryz.prog 110 #[va] w fun e w' => ∃ v, e = .returned v ∧ Own Lm 94 (fun k => w.heap.size ≤ k) w' v (dg LB N) ∧ Fr (fun k => k < w.heap.size) w w' := by
  obtain ⟨A, n, c, rfl⟩ := ha.form
  have HN := Lib.hid hN
  go_enter Tryz.func110, Tryz.ntmps110
  go_wp2_with fail
  go_loopg [0, 3] N (fun M a v wr => ∃ (ls : List Nat) (T : Nat → Prop), RC T wr a M L ∧ Own Lm 94 (fun k => w.heap.size ≤ k) wr v ls ∧ Hid (ls ++ dg LB M = dg LB N) ∧ Fr (fun k => k < w.heap.size) w wr)
  case atStart => exact ⟨[], _, ha, Own.nil _ _ _ _, Lib.hid rfl, Fr.refl _ _⟩
  case round =>
    obtain ⟨ls, T, hM, ho, hls, F⟩ := hrel
    obtain ⟨A1, c1, rfl, _, _, _⟩ := hM.sl.slice
    obtain ⟨A2, n2, c2, rfl⟩ := ho.form
    rcases Nat.eq_zero_or_pos gk with h0 | hpos
    · subst h0
      have e : (dg DB 0).length = 0 := by rw [dg_zero]; rfl
      rw [e]
      have h := hls.out
      rw [dg_zero, List.append_nil] at h
      subst h
      go_wp2_with fail
      go_ret
      exact ⟨_, rfl, ho, F⟩
    · have hlen : 0 < (dg DB gk).length := (dg_len_pos DB2).2 hpos
      have hq := Nat.div_lt_self (n := gk) (k := LB) hpos (by decide)
      have hdg := dg_pos LB2 hpos
      have hll := congrArg List.length hls.out
      rw [hdg, List.length_append, List.length_cons] at hll
      have HLn := Lib.hid (show (ls.length + 1) * 4 ≤ 140737488355328 ∧ ls.length + 1 ≤ 9223372036854775807 by have := HN.out; omega)
      generalize hz0 : (dg DB gk).length = zl at hM hlen
      obtain ⟨x, hx⟩ : ∃ x, x = gk % 65536 := ⟨_, rfl⟩
      obtain ⟨y, hy⟩ : ∃ y, y = gk / 65536 % 65536 := ⟨_, rfl⟩
      obtain ⟨z, hz⟩ : ∃ z, z = gk % LB := ⟨_, rfl⟩
      have hx1 : x < 65536 := by rw [hx]; exact Nat.mod_lt _ (by decide)
      have hy1 : y < 65536 := by rw [hy]; exact Nat.mod_lt _ (by decide)
      have hzz : z = y * 65536 + x := by rw [hz, hy, hx]; exact limb_of gk
      have hzl : z < LB := by rw [hz]; exact Nat.mod_lt _ (by decide)
      have hw1 : IntKind.u32.wrap (y : Int) = (y : Int) := by rw [IntKind.wrap_u32]; omega
      have hw2 : IntKind.u32.wrap ((y : Int) * 65536) = (y : Int) * 65536 := by rw [IntKind.wrap_u32]; omega
      have hw3 : IntKind.u32.wrap ((y : Int) * 65536 + (x : Int)) = (z : Int) := by rw [IntKind.wrap_u32]; omega
      have hw4 : IntKind.u32.wrap (x : Int) = (x : Int) := by rw [IntKind.wrap_u32]; omega
      have p1 := short_w wr (.slice A1 zl c1) gk L hM hl
      rw [← hx] at p1
      have HZ := Lib.hid (And.intro hz hzl)
      have HQ := Lib.hid (And.intro hq hdg)
      have HY := Lib.hid hy
      clear hx hy hz hzz hzl hq hdg hll hpos hM
      go_wp2_with fail
      refine p1.mono ?_
      rintro e w1 ⟨v1, rfl, h1, hf1⟩
      obtain ⟨B1, m1, k1, rfl⟩ := h1.form
      have p2 := short_w w1 (.slice B1 m1 k1) _ L h1 hl
      rw [← HY.out] at p2
      go_wp2_with fail
      refine p2.mono ?_
      rintro e w2 ⟨v2, rfl, h2, hf2⟩
      obtain ⟨B2, m2, k2, rfl⟩ := h2.form
      rw [limb_rest] at h2
      have o2 := (ho.keep' hf1).keep' hf2
      have F2 := fr_then (fr_then F hf1) hf2
      have sz := F2.size
      have h2' := Lib.hid h2
      have lt := ho.lt
      have sz1 := hf1.size
      have hrd : Lm.rd (fun _ => False) w2 z [.int .u32 (z : Int)] := ⟨rfl, HZ.out.2⟩
      have HR := Lib.hid hrd
      clear p1 p2 h1 ho hf1 hf2 F h2 hrd
      go_wp2_with (at_builtin; refine wpList_push1 (v := .slice A2 n2 c2) lmT rfl rfl rfl rfl o2 HR.out (fun _ h => h.elim) (fun k hk => by omega) HLn.out.1 HLn.out.2 ?_; intro v' w3 ho3 hfr3 hat)
      go_roundg (gk / LB)
      case measure => exact HQ.out.1
      case rel => exact ⟨ls ++ [z], _, ⟨(h2'.out.sl.fr (hfr3.mono fun k _ hk e => by have := lt _ e.symm; omega)), h2'.out.len⟩, ho3, Lib.hid (by rw [List.append_assoc, ← hls.out, HQ.out.2, ← HZ.out.1]; rfl), F2.comp hfr3 fun k hk hk' => ⟨hk', fun e => by have := o2.in_ _ e.symm; omega⟩⟩

set_option maxHeartbeats 4000000 in
theorem rback_r {S : Nat → Prop} (w : World) (s : Bool) (vn vd : Value) (q : Rat) (L : Nat) (h : RR S w vn vd q L) (hs : s = sg q) (hl : L ≤ 1099511627000) (h1 : (dg LB q.num.natAbs).length ≤ 1099511627000) (h2 : (dg LB q.den).length ≤ 1099511627000) :
    Calls Tryz.prog 91 #[.agg #[.bool s, vn, vd]] w fun e w' => ∃ v1 v2, e = .returned (.agg #[.bool (sg q), v1, v2]) ∧ OL (fun k => w.heap.size ≤ k) w' v1 v2 (dg LB q.num.natAbs) (dg LB q.den) ∧ Fr (fun k => k < w.heap.size) w w' := by
  subst hs
  obtain ⟨⟨A1, n1, c1, rfl⟩, ⟨A2, n2, c2, rfl⟩⟩ := h.form
  generalize sg q = s
  have F := ((Fr.refl (fun k => k < w.heap.size) w).alloc (.cells #[.bool s, .slice A1 n1 c1, .slice A2 n2 c2] 52)).alloc (.cells #[.bool false, .slice none 0 0, .slice none 0 0] 43)
  have hb := box_nz (w.alloc (.cells #[.bool s, .slice A1 n1 c1, .slice A2 n2 c2] 52))
  have x1 := (Box3.new w 52 (.bool s) (.slice A1 n1 c1) (.slice A2 n2 c2)).alloc (.cells #[.bool false, .slice none 0 0, .slice none 0 0] 43)
  simp only [World.size_alloc] at hb
  have h0 := h.keep F
  generalize hW0 : (w.alloc (.cells #[.bool s, .slice A1 n1 c1, .slice A2 n2 c2] 52)).alloc (.cells #[.bool false, .slice none 0 0, .slice none 0 0] 43) = W0 at F hb x1 h0
  have dr : ∀ R, Fr R W0 W0.drew := fun R => (Fr.refl R W0).drew
  replace h0 := h0.keep (dr _)
  replace x1 := x1.keep (dr _)
  replace hb := hb.keep (dr _)
  replace F := F.drew
  have s0 := hb.lt
  have S0 : W0.drew.cell? ⟨w.heap.size, 0, none⟩ = some (.bool s) ∧ W0.drew.cell? ⟨w.heap.size, 1, none⟩ = some (.slice A1 n1 c1) ∧ W0.drew.cell? ⟨w.heap.size, 2, none⟩ = some (.slice A2 n2 c2) := ⟨x1.c0, x1.c1, x1.c2⟩
  clear h dr
  go_enter Tryz.func91, Tryz.ntmps91
  go_wp2_with fail
  clear hW0
  go_region_held3 (fun u => u.cell? ⟨w.heap.size, 0, none⟩ = some (.bool s) ∧ u.cell? ⟨w.heap.size, 1, none⟩ = some (.slice A1 n1 c1) ∧ u.cell? ⟨w.heap.size, 2, none⟩ = some (.slice A2 n2 c2)) (first | exact S0 | exact S1 | exact S2 | exact S3) (first
    | ((with_reducible refine (rlimbs_r _ (.slice A1 n1 c1) q.num.natAbs L h0.num hl h1).mono ?_); rintro e w1 ⟨v1, rfl, g1, hf1⟩; obtain ⟨B1, m1, k1, rfl⟩ := g1.form; have y1 := x1.keep hf1; have S1 := And.intro y1.c0 (And.intro y1.c1 y1.c2))
    | ((with_reducible refine (rlimbs_r _ (.slice A2 n2 c2) q.den L (h0.den.keep hf1) hl h2).mono ?_); rintro e w2 ⟨v1, rfl, g2, hf2⟩; obtain ⟨B2, m2, k2, rfl⟩ := g2.form; have y2 := y1.keep hf2; have S2 := And.intro y2.c0 (And.intro y2.c1 y2.c2); have hb2 := (hb.keep hf1).keep hf2; have F4 := fr_set3 w2 (w.heap.size + 1) (.bool s) (.slice B1 m1 k1) (.slice B2 m2 k2); have q1 := y2.fr F4 (by omega); have S3 := And.intro q1.c0 (And.intro q1.c1 q1.c2); have d0 := hb2.c0; have d1 := hb2.c1; have d2 := hb2.c2; have f0 := hb2.free 0; have f1 := hb2.free 1; have f2 := hb2.free 2))
  have B4 := hb2.set3 (.bool s) (.slice B1 m1 k1) (.slice B2 m2 k2)
  have s1 := hf1.size
  have F3 := fr_then (fr_then F hf1) hf2
  have e1 := ((g1.keep' hf2).mono (T := fun k => w.heap.size + 2 ≤ k) fun k hk => by omega).fr (F4.mono fun k _ hk => by omega)
  have e2 := (g2.mono (T := fun k => w.heap.size + 2 ≤ k) fun k hk => by omega).fr (F4.mono fun k _ hk => by omega)
  go_wp2_with fail
  refine bodyPost_ret (results_cell3 rfl rfl B4 Tryz.underlying43 rat3) rfl ?_
  exact ⟨_, _, rfl, ⟨e1.mono fun k hk => by omega, e2.mono fun k hk => by omega⟩, F3.comp F4 fun k hk h => ⟨h, by omega⟩⟩
end Go.Proofs.YtjnojkfkhccgaaaGreat

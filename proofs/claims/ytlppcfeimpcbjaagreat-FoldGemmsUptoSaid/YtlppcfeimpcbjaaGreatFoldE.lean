/- Texts merged: FoK, FoJ. -/
import Derived.Test.YtlppcfeimpcbjaaGreatFoldC
import Derived.Test.YtlppcfeimpcbjaaGreatFoB
set_option linter.unusedSimpArgs false
set_option linter.unusedVariables false

/- law10's is, told, few, of: printed by gen_fok.py. -/
namespace Go.Proofs.YtlppcfeimpcbjaaGreat
open Go.RowKit

/-- law10's is: no error, and the tensor is the document's. -/
theorem lis10_t {S T U V : Nat → Prop} (w : World) (v1 v2 u1 u2 : Value) (sh : List Int) (qs : List Rat) (L K : Nat) (hs1 : Sl Im S w v1 sh) (hq : Sl (Rk K) T w v2 qs) (hs2 : Sl Im U w u1 sh) (he : Sl Rm V w u2 (qs.map canR)) (hl : ∀ q ∈ qs, (dg LB q.num.natAbs).length ≤ L ∧ (dg LB q.den).length ≤ L) (hL : L ≤ 1099511620) :
    Calls Tryz.prog 40 #[.agg #[u1, u2], .int .i64 0, .agg #[v1, v2]] w fun e w' => e = .returned (.bool true) ∧ Fr (fun k => k < w.heap.size) w w' := by
  obtain ⟨A, c, rfl, _, _, _⟩ := hs1.slice
  obtain ⟨A', c', rfl, _, _, hlq⟩ := hq.slice
  obtain ⟨B, d, rfl, _, _, _⟩ := hs2.slice
  obtain ⟨B', n', d', rfl⟩ := he.form
  have F := ((Fr.refl (fun k => k < w.heap.size) w).alloc (.cells #[.slice B sh.length d, .slice B' n' d'] 26)).alloc (.cells #[.slice A sh.length c, .slice A' qs.length c'] 36)
  have x0 := (Box2.new w 26 (.slice B sh.length d) (.slice B' n' d')).alloc (.cells #[.slice A sh.length c, .slice A' qs.length c'] 36)
  have x1 := Box2.new (w.alloc (.cells #[.slice B sh.length d, .slice B' n' d'] 26)) 36 (.slice A sh.length c) (.slice A' qs.length c')
  simp only [World.size_alloc] at x1
  have a0 := x0.c0
  have a1 := x0.c1
  have b0 := x1.c0
  have b1 := x1.c1
  have H1 := Lib.hid (hs1.low Im_pos)
  have H2 := Lib.hid (hq.low (Rk_pos K))
  have H3 := Lib.hid (hs2.low Im_pos)
  have H4 := Lib.hid (he.low Rm_pos)
  have HL := Lib.hid hl
  clear hs1 hq hs2 he hl
  go_enter Tryz.func40, Tryz.ntmps40
  go_wp2_with fail
  with_reducible refine (tis_t _ (.slice A sh.length c) (.slice A' qs.length c') (.slice B sh.length d) (.slice B' n' d') sh qs L K (H1.out.fr F) (H2.out.fr F) (H3.out.fr F) (H4.out.fr F) HL.out hL).mono ?_
  rintro e w1 ⟨rfl, hf⟩
  go_wp2_with fail
  go_ret
  exact ⟨rfl, fr_then F hf⟩
theorem told10_no (w : World) (r : Int) (h0 : r ≠ 0) (A B : Option Addr) (n c m d : Nat) :
    Calls Tryz.prog 16 #[.agg #[.slice none 0 0, .slice none 0 0], .int .i64 r, .agg #[.slice A n c, .slice B m d], .int .i64 r] w fun e w' => e = .returned (.bool true) ∧ Fr (fun k => k < w.heap.size) w w' := by
  have F := ((Fr.refl (fun k => k < w.heap.size) w).alloc (.cells #[.slice none 0 0, .slice none 0 0] 26)).alloc (.cells #[.slice A n c, .slice B m d] 36)
  have x0 := (Box2.new w 26 (.slice none 0 0) (.slice none 0 0)).alloc (.cells #[.slice A n c, .slice B m d] 36)
  have a0 := x0.c0
  have a1 := x0.c1
  have hb0 : (r == 0) = false := beq_eq_false_iff_ne.2 h0
  go_enter Tryz.func16, Tryz.ntmps16
  go_wp2_with fail
  with_reducible refine (empty_t _).mono ?_
  rintro e w1 ⟨rfl, hf⟩
  go_wp2_with fail
  go_ret
  exact ⟨rfl, fr_then F hf⟩
theorem told10_yes {S T U V : Nat → Prop} (w : World) (v1 v2 u1 u2 : Value) (sh : List Int) (qs : List Rat) (L K : Nat) (hs1 : Sl Im S w v1 sh) (hq : Sl (Rk K) T w v2 qs) (hs2 : Sl Im U w u1 sh) (he : Sl Rm V w u2 (qs.map canR)) (hl : ∀ q ∈ qs, (dg LB q.num.natAbs).length ≤ L ∧ (dg LB q.den).length ≤ L) (hL : L ≤ 1099511620) :
    Calls Tryz.prog 16 #[.agg #[u1, u2], .int .i64 0, .agg #[v1, v2], .int .i64 0] w fun e w' => e = .returned (.bool true) ∧ Fr (fun k => k < w.heap.size) w w' := by
  obtain ⟨A, c, rfl, _, _, _⟩ := hs1.slice
  obtain ⟨A', c', rfl, _, _, hlq⟩ := hq.slice
  obtain ⟨B, d, rfl, _, _, _⟩ := hs2.slice
  obtain ⟨B', n', d', rfl⟩ := he.form
  have F := ((Fr.refl (fun k => k < w.heap.size) w).alloc (.cells #[.slice B sh.length d, .slice B' n' d'] 26)).alloc (.cells #[.slice A sh.length c, .slice A' qs.length c'] 36)
  have x0 := (Box2.new w 26 (.slice B sh.length d) (.slice B' n' d')).alloc (.cells #[.slice A sh.length c, .slice A' qs.length c'] 36)
  have x1 := Box2.new (w.alloc (.cells #[.slice B sh.length d, .slice B' n' d'] 26)) 36 (.slice A sh.length c) (.slice A' qs.length c')
  simp only [World.size_alloc] at x1
  have a0 := x0.c0
  have a1 := x0.c1
  have b0 := x1.c0
  have b1 := x1.c1
  have H1 := Lib.hid (hs1.low Im_pos)
  have H2 := Lib.hid (hq.low (Rk_pos K))
  have H3 := Lib.hid (hs2.low Im_pos)
  have H4 := Lib.hid (he.low Rm_pos)
  have HL := Lib.hid hl
  clear hs1 hq hs2 he hl
  go_enter Tryz.func16, Tryz.ntmps16
  go_wp2_with fail
  with_reducible refine (lis10_t _ (.slice A sh.length c) (.slice A' qs.length c') (.slice B sh.length d) (.slice B' n' d') sh qs L K (H1.out.fr F) (H2.out.fr F) (H3.out.fr F) (H4.out.fr F) HL.out hL).mono ?_
  rintro e w1 ⟨rfl, hf⟩
  go_wp2_with fail
  go_ret
  exact ⟨rfl, fr_then F hf⟩

def few10B (es : List RatL) : Bool := decide (es.length ≤ 64 ∧ ∀ x ∈ es, x.2.1.length ≤ 3 ∧ x.2.2.length ≤ 3)

set_option maxHeartbeats 4000000 in
theorem few10_t {S T : Nat → Prop} (w : World) (vs ve : Value) (es : List RatL) (b : Bool) (hb : Hid (few10B es = b)) (hvs : ∃ A n c, vs = .slice A n c) (he : Sl Rm T w ve es) :
    Calls Tryz.prog 11 #[.agg #[vs, ve]] w fun e w' => e = .returned (.bool b) ∧ Fr (fun k => k < w.heap.size) w w' := by
  obtain ⟨A, n, c, rfl⟩ := hvs
  obtain ⟨A', c', rfl, _, _, hly⟩ := he.slice
  have F := (Fr.refl (fun k => k < w.heap.size) w).alloc (.cells #[.slice A n c, .slice A' es.length c'] 26)
  have x0 := Box2.new w 26 (.slice A n c) (.slice A' es.length c')
  have HE := Lib.hid (he.low Rm_pos)
  clear he
  have a1 := x0.c1
  go_enter Tryz.func11, Tryz.ntmps11
  by_cases h64 : 64 < es.length
  · have hb0 : b = false := by rw [← hb.out]; exact decide_eq_false fun h => by omega
    clear hb
    subst hb0
    go_wp2_with fail
    go_ret
    exact ⟨rfl, F⟩
  go_wp2_with fail
  go_loopw [3] (fun k W => ∃ (j : Nat), k = .int .i64 j ∧ j ≤ es.length ∧ Hid (∀ i (hi : i < es.length), i < j → es[i].2.1.length ≤ 3 ∧ es[i].2.2.length ≤ 3) ∧ Box2 W w.heap.size 26 (.slice A n c) (.slice A' es.length c') ∧ Fr (fun k => k < w.heap.size) w W) (fun k _ => es.length - (intOf k).toNat)
  case atStart => exact ⟨0, rfl, by omega, Lib.hid (fun i hi h => by omega), x0, F⟩
  case round =>
    clear x0 F a1
    obtain ⟨j, rfl, hj, HP, x0, F⟩ := hrel
    have a1 := x0.c1
    by_cases hlt : j < es.length
    · obtain ⟨ad, P, m, d, Q, k, o, rfl, hS, g0, g1, g2, r1, r2⟩ := Rm_get (HE.out.fr F) hlt
      obtain ⟨l1, hl1⟩ : ∃ l, es[j].2.1.length = l := ⟨_, rfl⟩
      obtain ⟨l2, hl2⟩ : ∃ l, es[j].2.2.length = l := ⟨_, rfl⟩
      obtain ⟨P1, y1, e1, _, _, _⟩ := r1.slice
      obtain ⟨Q1, y2, e2, _, _, _⟩ := r2.slice
      cases e1
      cases e2
      rw [hl1] at g1
      rw [hl2] at g2
      have H1 := Lib.hid hl1
      have H2 := Lib.hid hl2
      clear hl1 hl2 r1 r2
      by_cases h1 : 3 < l1
      · have hb0 : b = false := by rw [← hb.out]; exact decide_eq_false fun h => by have := (h.2 _ (List.getElem_mem hlt)).1; rw [H1.out] at this; omega
        clear hb
        subst hb0
        go_wp2_with fail
        go_ret
        exact ⟨rfl, F⟩
      · by_cases h2 : 3 < l2
        · have hb0 : b = false := by rw [← hb.out]; exact decide_eq_false fun h => by have := (h.2 _ (List.getElem_mem hlt)).2; rw [H2.out] at this; omega
          clear hb
          subst hb0
          go_wp2_with fail
          go_ret
          exact ⟨rfl, F⟩
        · have HP' := Lib.hid (show ∀ i (hi : i < es.length), i < j + 1 → es[i].2.1.length ≤ 3 ∧ es[i].2.2.length ≤ 3 from fun i hi h => by
            by_cases hij : i = j
            · subst hij
              rw [H1.out, H2.out]
              omega
            · exact HP.out i hi (by omega))
          go_wp2_with fail
          go_roundw
          case rel => exact ⟨j + 1, by go_num, by omega, HP', x0, F⟩
          case measure => first | (simp [intOf]; done) | (simp [intOf]; omega)
    · obtain rfl : j = es.length := by omega
      have hb0 : b = true := by
        rw [← hb.out]
        refine decide_eq_true ⟨by omega, fun x hx => ?_⟩
        obtain ⟨i, hi, rfl⟩ := List.mem_iff_getElem.1 hx
        exact HP.out i hi hi
      clear hb
      subst hb0
      go_wp2_with fail
      go_ret
      exact ⟨rfl, F⟩
set_option maxRecDepth 20000 in
set_option maxHeartbeats 8000000 in
theorem of10_t {S T : Nat → Prop} (w : World) (vs vl : Value) (sh ls : List Int) (hs : Sl Im S w vs sh) (he : Sl Im T w vl ls) (hel : ls.length ≤ 1099511627000) :
    Calls Tryz.prog 39 #[vs, vl] w fun e w' => ∃ A i j B k l, e = .returned (.agg #[.slice A i j, .slice B k l]) ∧ Sl Im (fun _ => True) w' (.slice A i j) sh ∧ Sl (Rk 6) (fun _ => True) w' (.slice B k l) (ls.map fun (z : Int) => (z : Rat)) ∧ Fr (fun k => k < w.heap.size) w w' := by
  obtain ⟨A', c', rfl, _, _, hly⟩ := he.slice
  obtain ⟨As, cs, rfl, _, _, _⟩ := hs.slice
  have F := fun R => ((Fr.refl R w).alloc (.cells #[.slice none 0 0, .slice none 0 0] 36)).alloc (.cells #[.slice As sh.length cs, .slice none 0 0] 36)
  have HE0 := Lib.hid (he.up Im_pos (Nat.le_refl _) (F _))
  have b0 := (Box2.new w 36 (.slice none 0 0) (.slice none 0 0)).alloc (.cells #[.slice As sh.length cs, .slice none 0 0] 36)
  have b3 := Box2.new (w.alloc (.cells #[.slice none 0 0, .slice none 0 0] 36)) 36 (.slice As sh.length cs) (.slice none 0 0)
  simp only [World.size_alloc] at b3
  have HS0 := Lib.hid (hs.up Im_pos (Nat.le_refl _) (F _))
  replace F := F (fun k => k < w.heap.size)
  have HLL := Lib.hid (Kd.int_all he)
  have hsz : ((w.alloc (.cells #[.slice none 0 0, .slice none 0 0] 36)).alloc (.cells #[.slice As sh.length cs, .slice none 0 0] 36)).heap.size = w.heap.size + 2 := by simp
  clear he hs
  go_enter Tryz.func39, Tryz.ntmps39
  go_wp2_with fail
  go_loopw [6] (fun i wr => ∃ (j : Nat) (v2 : Value), i = .int .i64 j ∧ j ≤ ls.length ∧ Box2 wr w.heap.size 36 (.slice none 0 0) (.slice none 0 0) ∧ Box2 wr (w.heap.size + 1) 36 (.slice As sh.length cs) v2 ∧ Own (Rk 6) 58 (fun k => w.heap.size + 1 < k) wr v2 ((ls.take j).map fun (z : Int) => (z : Rat)) ∧ Hid (Sl Im (fun k => k < w.heap.size) wr (.slice As sh.length cs) sh) ∧ Hid (Sl Im (fun k => k < w.heap.size) wr (.slice A' ls.length c') ls) ∧ Fr (fun k => k < w.heap.size) w wr) (fun i _ => ls.length - (intOf i).toNat)
  case atStart => exact ⟨0, _, rfl, by omega, b0, b3, Own.nil _ _ _ _, HS0, HE0, F⟩
  case round =>
    clear b0 b3 HS0 HE0 F
    obtain ⟨j, v2, rfl, hj, b0, b3, o2, HS, HE, F⟩ := hrel
    obtain ⟨A2, n2, c2, rfl⟩ := o2.form
    by_cases hlt : j < ls.length
    · have D := fun R => (Fr.refl R wr).drew
      replace b0 := b0.fr (D (fun _ => True)) trivial
      replace b3 := b3.fr (D (fun _ => True)) trivial
      replace o2 := o2.fr (D _)
      replace HS := Lib.hid (HS.out.fr (D _))
      replace HE := Lib.hid (HE.out.fr (D _))
      replace F := F.drew
      clear D
      obtain ⟨ad, rfl, g0, _, _⟩ := Kd.int_cell HE.out hlt
      have hS : ad.block < w.heap.size := by
        obtain ⟨_, _, e, _, _, _, h4⟩ := HE.out
        injection e with e1
        obtain ⟨ad', e2, h, _⟩ := h4 (by omega)
        rw [e2] at e1
        injection e1 with e1
        rw [e1]; exact h
      have hb := HLL.out _ (List.getElem_mem hlt)
      have htk := List.take_succ_eq_append_getElem hlt
      generalize ls[j] = y at g0 hb htk
      have KS : ∀ u, Fr (fun k => k < w.heap.size ∨ k = w.heap.size + 1) wr.drew u → u.cell? ⟨w.heap.size + 1, 1, none⟩ = some (.slice A2 n2 c2) ∧ u.cell? (ad.add j) = some (.int .i64 y) := fun u hu =>
        ⟨(b3.fr hu (.inr rfl)).c1, hu.cell g0 (by rw [addr_block]; exact .inl hS)⟩
      have S0 := KS _ (Fr.refl _ _)
      have HT := Lib.hid (map_take_step (fun (z : Int) => (z : Rat)) htk)
      have HLn := Lib.hid (show ((((ls.take j).map fun (z : Int) => (z : Rat))).length + 1) * 56 ≤ 140737488355328 ∧ (((ls.take j).map fun (z : Int) => (z : Rat))).length + 1 ≤ 9223372036854775807 by rw [List.length_map, List.length_take]; omega)
      have l0 := b0.lt
      have l3 := b3.lt
      clear htk
      go_wp2_with fail
      refine wpTill.begin (fun u => u.cell? ⟨w.heap.size + 1, 1, none⟩ = some (.slice A2 n2 c2) ∧ u.cell? (ad.add j) = some (.int .i64 y)) 9 (by kernel_rfl) ?_
      change wpTill _ _ _ _ _ _ 11 _ _ _
      refine wpTill.take 0 (.pointer (some ⟨w.heap.size + 1, 1, none⟩)) rfl (by kernel_rfl) (by kernel_rfl) (fun _ _ _ h => h) S0 (by rfl) (fun u hu => by go_simp) ?_
      try simp only [Act.put, List.setIfInBounds_toArray, List.set_cons_zero, List.set_cons_succ]
      refine wpTill.take 1 (.slice A2 n2 c2) rfl (by kernel_rfl) (by kernel_rfl) (fun _ _ _ h => h) S0 (by rfl) (fun u hu => by go_simp) ?_
      try simp only [Act.put, List.setIfInBounds_toArray, List.set_cons_zero, List.set_cons_succ]
      refine wpTill.take 2 (.slice (some ad) ls.length c') rfl (by kernel_rfl) (by kernel_rfl) (fun _ _ _ h => h) S0 (by rfl) (fun u hu => by go_simp) ?_
      try simp only [Act.put, List.setIfInBounds_toArray, List.set_cons_zero, List.set_cons_succ]
      refine wpTill.take 3 (.int .i64 j) rfl (by kernel_rfl) (by kernel_rfl) (fun _ _ _ h => h) S0 (by rfl) (fun u hu => by go_simp) ?_
      try simp only [Act.put, List.setIfInBounds_toArray, List.set_cons_zero, List.set_cons_succ]
      refine wpTill.take 4 (.pointer (some (ad.add j))) rfl (by kernel_rfl) (by kernel_rfl) (fun _ _ _ h => h) S0 (by rfl) (fun u hu => by go_simp) ?_
      try simp only [Act.put, List.setIfInBounds_toArray, List.set_cons_zero, List.set_cons_succ]
      refine wpTill.take 5 (.int .i64 y) rfl (by kernel_rfl) (by kernel_rfl) (fun _ _ _ h => h) S0 (by rfl) (fun u hu => by go_simp) ?_
      try simp only [Act.put, List.setIfInBounds_toArray, List.set_cons_zero, List.set_cons_succ]
      refine wpTill.next 6 rfl (by kernel_rfl) (by rfl) (fun K hK => ?_)
      go_simp
      with_reducible refine (rint_s _ y (by omega) (by omega)).mono ?_
      rintro e u1 ⟨sy, v3, v4, rfl, hsy, hol, hf⟩
      obtain ⟨⟨P3, i3, j3, rfl⟩, ⟨P4, i4, j4, rfl⟩⟩ := hol.out.form
      have G1 : Fr (fun k => k < w.heap.size ∨ k = w.heap.size + 1) wr.drew u1 := hf.mono fun k hk _ => hk
      refine hK _ _ (fun _ => KS _ G1) ?_
      clear hK K
      try simp only [Act.put, List.setIfInBounds_toArray, List.set_cons_zero, List.set_cons_succ]
      refine wpTill.next 7 rfl (by kernel_rfl) (by rfl) (fun K hK => ?_)
      go_simp
      refine hK _ _ (fun _ => KS _ (G1.alloc _)) ?_
      clear hK K
      try simp only [Act.put, List.setIfInBounds_toArray, List.set_cons_zero, List.set_cons_succ]
      have lt2 := o2.lt
      replace b0 := b0.keep hf
      replace b3 := b3.keep hf
      replace o2 := o2.keep' hf
      replace HS := Lib.hid (HS.out.keep' Im_pos hf)
      replace HE := Lib.hid (HE.out.keep' Im_pos hf)
      have F' := fr_then F hf
      have sz := hf.size
      have in2 := o2.in_
      clear S0 g0
      refine wpTill.next 8 rfl (by kernel_rfl) (by rfl) (fun K hK => ?_)
      refine oper_push1 (rkT 6) (v := .slice A2 n2 c2) (y := (y : Rat)) (T := fun k => wr.drew.heap.size ≤ k) rfl rfl rfl o2 ⟨_, _, by rw [hsy.out], hol.out⟩ (fun k hk _ => ⟨by omega, fun e => by have := lt2 k e.symm; omega⟩) (fun k hk => by omega) HLn.out.1 HLn.out.2 ?_
      intro v5 u2 ho hfr hat
      obtain ⟨A3, n3, c3, rfl⟩ := ho.form
      have G2 : Fr (fun k => k < w.heap.size ∨ k = w.heap.size + 1) wr.drew u2 := G1.comp hfr fun k _ hk => ⟨hk, fun e => by have := in2 _ e.symm; omega⟩
      refine hK _ _ (fun _ => KS _ G2) ?_
      clear hK K
      try simp only [Act.put, List.setIfInBounds_toArray, List.set_cons_zero, List.set_cons_succ]
      replace b0 := b0.fr hfr (fun e => by have := in2 _ e.symm; omega)
      replace b3 := b3.fr hfr (fun e => by have := in2 _ e.symm; omega)
      replace HS := Lib.hid (HS.out.fr (hfr.mono fun k _ hk e => by have := in2 _ e.symm; omega))
      replace HE := Lib.hid (HE.out.fr (hfr.mono fun k _ hk e => by have := in2 _ e.symm; omega))
      replace F := F'.comp hfr (R := fun k => k < w.heap.size) fun k _ hk => ⟨hk, fun e => by have := in2 _ e.symm; omega⟩
      replace o2 := ho
      clear ho hfr hat hf F' in2
      have e0 := b3.c1
      have e1 := b3.free 1
      refine wpTill.next 9 rfl (by kernel_rfl) (by rfl) (fun K hK => ?_)
      go_simp
      refine hK _ _ (no_wait (by kernel_rfl)) ?_
      clear hK K
      try simp only [Act.put, List.setIfInBounds_toArray, List.set_cons_zero, List.set_cons_succ]
      refine wpTill.next 10 rfl (by kernel_rfl) (by rfl) (fun K hK => ?_)
      go_simp
      refine hK _ _ (no_wait (by kernel_rfl)) ?_
      clear hK K
      try simp only [Act.put, List.setIfInBounds_toArray, List.set_cons_zero, List.set_cons_succ]
      refine wpTill.done (by kernel_rfl) ?_
      clear e0 e1
      have F9 := fr_set1 u2 (w.heap.size + 1) 1 (.slice A3 n3 c3)
      have f1 := b0.fr F9 (by omega)
      have f3 := b3.set1 (.slice A3 n3 c3)
      have f5 := o2.past F9 (fun k hk => by omega)
      have f4 := HS.out.fr (F9.mono fun k _ hk => by omega)
      have f6 := HE.out.fr (F9.mono fun k _ hk => by omega)
      have f7 := F.comp F9 (R := fun k => k < w.heap.size) fun k _ hk => ⟨hk, by omega⟩
      go_wp2_with fail
      go_roundw
      case rel => exact ⟨j + 1, _, by go_num, by omega, f1, f3, by rw [HT.out]; exact f5, f4, f6, f7⟩
      case measure => first | (simp [intOf]; done) | (simp [intOf]; omega)
    · obtain rfl : j = ls.length := by omega
      rw [List.take_length] at o2
      have d0 := b3.c0
      have d1 := b3.c1
      have l0 := b0.lt
      go_wp2_with ((with_reducible apply wpList_st2); rfl; rfl; exact b0; exact tt2; rfl; rfl; intro w9 B9 F9)
      refine bodyPost_ret (results_cell2 rfl rfl B9 Tryz.underlying36 tt2) rfl ?_
      exact ⟨_, _, _, _, _, _, rfl, (HS.out.fr (F9.mono fun k _ hk => by omega)).any, (o2.past F9 fun k hk => by omega).sl.any, F.comp F9 fun k _ hk => ⟨hk, by omega⟩⟩
end Go.Proofs.YtlppcfeimpcbjaaGreat


/- The contracts of layer 10 in words of values; law10's first. -/
namespace Go.Proofs.YtlppcfeimpcbjaaGreat
open Go.RowKit

theorem sumP_lens {L K : Nat} {l : List Rat} (f : LensL L l) (h1 : 1 ≤ L) (pl : Nat → Nat) (m : Nat) (hK : m * (L + 1) + 1 ≤ K) : ∀ n i, i ≤ m → Lens K (sumP pl l n i) := fun n i hi =>
  (lens_sum (fun j _ => by split; exact lens_at f h1 j; exact lens_0 h1)).wide (by have := Nat.mul_le_mul_right (L + 1) hi; omega)
section
variable {w : World} {sha shb sh' : List Int} {ea eb : List RatL} {qs : List Rat} {axes : List Int} {a b c d v : Value} {L K : Nat} {r : Int}
theorem sum_u (h : TV sha ea w a b) (g : Sl Im (fun _ => True) w v axes) (f : Hid (Fit sha ea L)) (hr : Hid (sumE sha ea axes = r)) (hd : Hid (dropI axes 0 sha = sh')) (hq : Hid (sumL (plc sha axes) (ea.map qOf) (pr sh').toNat ea.length = qs)) (hK : Hid (ea.length * (L + 1) + 1 ≤ K ∧ L ≤ K ∧ K ≤ 104857600)) :
    Calls Tryz.prog 13 #[.agg #[a, b], v] w (Ret w (Tup r (TC r sh' (qs.map canR)))) := by
  have p := fsum_t w a b v sha ea axes L K r hr h.1 h.2 g (Lib.hid f.out.lx) f.out.one hK.out.2.1 hK.out.2.2 (Lib.hid (sumP_lens f.out.lens f.out.one _ _ hK.out.1))
  rw [hd.out, hq.out] at p
  exact p.mono fun _ _ h => h.ret
theorem mean_u (h : TV sha ea w a b) (g : Sl Im (fun _ => True) w v axes) (f : Hid (Fit sha ea L)) (hr : Hid (sumE sha ea axes = r)) (hd : Hid (dropI axes 0 sha = sh')) (hq : Hid ((sumL (plc sha axes) (ea.map qOf) (pr sh').toNat ea.length).map (fun q => q * fr ((pr sh').toNat : Int) (ea.length : Int)) = qs)) (hn : ea.length ≤ 1048576) (hK : Hid (ea.length * (L + 1) + 1 ≤ K ∧ L ≤ K ∧ 2 ≤ L ∧ K ≤ 104857600)) :
    Calls Tryz.prog 14 #[.agg #[a, b], v] w (Ret w (Tup r (TC r sh' (qs.map canR)))) := by
  have p := fmean_t w a b v sha ea axes L K (pr (dropI axes 0 sha)).toNat (fr ((pr (dropI axes 0 sha)).toNat : Int) (ea.length : Int)) r hr h.1 h.2 g (Lib.hid rfl) (Lib.hid rfl) hn (Lib.hid f.out.lx) hK.out.2.2.1 hK.out.2.1 hK.out.2.2.2 (Lib.hid (sumP_lens f.out.lens f.out.one _ _ hK.out.1))
  rw [hd.out, hq.out] at p
  exact p.mono fun _ _ h => h.ret
theorem mmE_dims {sha shb : List Int} {ea eb : List RatL} (h : mmE sha ea shb eb = 0) : mayT sha ea = 0 ∧ mayT shb eb = 0 ∧ ∃ a b c : Nat, sha = [(a : Int), (b : Int)] ∧ shb = [(b : Int), (c : Int)] ∧ 1 ≤ a ∧ 1 ≤ b ∧ 1 ≤ c ∧ ea.length = a * b ∧ eb.length = b * c ∧ mayS [(a : Int), (c : Int)] = 0 := by
  unfold mmE at h
  by_cases h1 : mayT sha ea = 0
  case neg => rw [if_pos h1] at h; exact absurd h h1
  rw [if_neg (by rw [h1]; simp)] at h
  by_cases h2 : mayT shb eb = 0
  case neg => rw [if_pos h2] at h; exact absurd h h2
  rw [if_neg (by rw [h2]; simp)] at h
  by_cases h3 : sha.length = 2 ∧ shb.length = 2 ∧ sha.getD 1 0 = shb.getD 0 0
  case neg => rw [if_neg h3] at h; exact absurd h (by decide)
  rw [if_pos h3] at h
  obtain ⟨a, b, es, ha, hb, _, _, hea⟩ := two_dims h1 h3.1
  obtain ⟨b', c, et, _, hc, _, _, heb⟩ := two_dims h2 h3.2.1
  have e := h3.2.2
  rw [es, et] at e h
  have e2 : (b : Int) = (b' : Int) := e
  obtain rfl : b' = b := by omega
  exact ⟨h1, h2, a, b', c, es, et, ha, hb, hc, hea, heb, h⟩
theorem mm_bound {sha shb : List Int} {ea eb : List RatL} (fa : Fit sha ea L) (fb : Fit shb eb L) (h : mmE sha ea shb eb = 0) (hK : ea.length * (L + L + 1) + 1 ≤ K) : ∀ n k, k ≤ (sha.getD 1 0).toNat → Lens K (mmS (ea.map qOf) (eb.map qOf) (sha.getD 1 0).toNat (shb.getD 1 0).toNat n k) := fun n k hk => by
  obtain ⟨_, _, x, y, z, rfl, _, hx, _, _, he, _⟩ := mmE_dims h
  have hk2 : k ≤ y := hk
  have h3 : y ≤ x * y := Nat.le_mul_of_pos_left y (by omega)
  exact (lens_mm fa.lens fb.lens fa.one fb.one _ _ n k).wide (by have := Nat.mul_le_mul_right (L + L + 1) (show k ≤ ea.length by omega); omega)
theorem mm_u (h : TV sha ea w a b) (g : TV shb eb w c d) (fa : Hid (Fit sha ea L)) (fb : Hid (Fit shb eb L)) (hr : Hid (mmE sha ea shb eb = r)) (hd : Hid (r = 0 → [sha.getD 0 0, shb.getD 1 0] = sh')) (hq : Hid (r = 0 → mmL (ea.map qOf) (eb.map qOf) (sha.getD 0 0).toNat (sha.getD 1 0).toNat (shb.getD 1 0).toNat = qs)) (hK : Hid (ea.length * (L + L + 1) + 1 ≤ K ∧ 6 * L ≤ K ∧ K ≤ 104857600)) :
    Calls Tryz.prog 20 #[.agg #[a, b], .agg #[c, d]] w (Ret w (Tup r (TC r sh' (qs.map canR)))) := by
  have p := mm_t w a b c d sha shb ea eb L K r hr h.1 h.2 g.1 g.2 fa.out.lx fb.out.lx fa.out.one hK.out.2.1 hK.out.2.2 (Lib.hid fun h0 => mm_bound fa.out fb.out (hr.out.trans h0) hK.out.1)
  refine p.mono fun e u h => ?_
  obtain ⟨A, i, j, B, k, l, rfl, h1, h2, hf⟩ := h
  refine EachR.ret ⟨A, i, j, B, k, l, rfl, h1, fun h0 => ?_, hf⟩
  rw [← hd.out h0, ← hq.out h0]
  exact h2 h0
end
/-- The first of some numbers that isn't 0. -/
def firstE (f : Nat → Int) : Nat → Nat → Int
  | _, 0 => 0
  | i, k + 1 => if f i ≠ 0 then f i else firstE f (i + 1) k
set_option maxHeartbeats 4000000 in
theorem first10_t {S : Nat → Prop} (w : World) (b n : Nat) (v1 v2 : Nat → Value) (sh : Nat → List Int) (es : Nat → List RatL) (L : Nat) (r : Int) (hr : Hid (firstE (fun i => mayT (sh i) (es i)) 0 n = r)) (hn : n ≤ 1000)
    (hc : ∀ i, i < n → w.cell? ⟨b, i * 2, none⟩ = some (v1 i) ∧ w.cell? ⟨b, i * 2 + 1, none⟩ = some (v2 i)) (hs : ∀ i, i < n → Sl Im S w (v1 i) (sh i) ∧ Sl Rm S w (v2 i) (es i)) (hL : ∀ i, i < n → ∀ x ∈ es i, x.2.1.length ≤ L ∧ x.2.2.length ≤ L) (hL1 : 1 ≤ L) (hl : L ≤ 104857600) :
    Calls Tryz.prog 21 #[.slice (some ⟨b, 0, none⟩) n n] w fun e w' => e = .returned (.int .i64 r) ∧ Fr (fun k => k < w.heap.size) w w' := by
  have HC := Lib.hid hc
  have HS := Lib.hid hs
  have HL := Lib.hid hL
  clear hc hs hL
  go_enter Tryz.func21, Tryz.ntmps21
  go_wp2_with fail
  go_loopw [3] (fun i wr => ∃ (j : Nat), j ≤ n ∧ i = .int .i64 j ∧ Hid (firstE (fun i => mayT (sh i) (es i)) j (n - j) = r) ∧ Fr (fun k => k < w.heap.size) w wr) (fun i _ => n - (intOf i).toNat)
  case atStart => exact ⟨0, Nat.zero_le _, rfl, hr, Fr.refl _ _⟩
  case round =>
    obtain ⟨j, hj, rfl, HR, F⟩ := hrel
    by_cases hlt : j < n
    · obtain ⟨e1, e2⟩ := HC.out j hlt
      have c1 := F.cell e1 (World.block_lt_of_cell? _ _ e1)
      have c2 := F.cell e2 (World.block_lt_of_cell? _ _ e2)
      obtain ⟨s1, s2⟩ := HS.out j hlt
      obtain ⟨m, hm⟩ : ∃ m, mayT (sh j) (es j) = m := ⟨_, rfl⟩
      have PM := Lib.hid (rmay_h wr (v1 j) (v2 j) (sh j) (es j) L m (Lib.hid hm) ((s1.low Im_pos).fr F) ((s2.low Rm_pos).fr F) (HL.out j hlt) hL1 hl)
      have HR2 : Hid ((if m ≠ 0 then m else firstE (fun i => mayT (sh i) (es i)) (j + 1) (n - (j + 1))) = r) := Lib.hid (by
        have h := HR.out
        rw [show n - j = (n - (j + 1)) + 1 by omega, firstE, hm] at h
        exact h)
      generalize v1 j = x1 at c1 PM
      generalize v2 j = x2 at c2 PM
      clear e1 e2 s1 s2 hm
      go_wp2_with fail
      with_reducible refine PM.out.mono ?_
      rintro e u ⟨rfl, hf⟩
      by_cases h0 : m = 0
      · subst h0
        have HR3 : Hid (firstE (fun i => mayT (sh i) (es i)) (j + 1) (n - (j + 1)) = r) := Lib.hid ((if_neg (by simp)).symm.trans HR2.out)
        go_wp2_with fail
        go_roundw
        case rel => exact ⟨j + 1, by omega, by go_num, HR3, fr_then F hf⟩
        case measure => first | (simp [intOf]; done) | (simp [intOf]; omega)
      · have HN : m = r := (if_pos h0).symm.trans HR2.out
        have hb0 : (m == 0) = false := beq_eq_false_iff_ne.2 h0
        go_wp2_with fail
        go_ret
        exact ⟨by first | rfl | (rw [HN]; rfl) | (rw [← HN]; rfl), fr_then F hf⟩
    · obtain rfl : j = n := by omega
      have HN : r = 0 := by
        have h := HR.out
        rw [Nat.sub_self, firstE] at h
        exact h.symm
      go_wp2_with fail
      go_ret
      exact ⟨by first | rfl | (rw [HN]; rfl), F⟩
end Go.Proofs.YtlppcfeimpcbjaaGreat

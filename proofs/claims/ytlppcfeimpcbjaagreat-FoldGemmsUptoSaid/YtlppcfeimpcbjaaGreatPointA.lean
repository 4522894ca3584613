/- Texts merged: PtA, PtB, PtC, PtD, PtE. -/
import Derived.Test.YtlppcfeimpcbjaaGreatOwnS
import Derived.Test.YtlppcfeimpcbjaaGreatTenUZ
set_option linter.unusedSimpArgs false
set_option linter.unusedVariables false

/- point.each: a tensor, each element by a function. -/
namespace Go.Proofs.YtlppcfeimpcbjaaGreat
open Go.RowKit

/-- What a function over the elements answers. -/
def EachR (w : World) (sh : List Int) (es : List RatL) (r : Int) (e : Ending) (w' : World) : Prop := ∃ A i j B k l, e = .returned (.tuple #[.agg #[.slice A i j, .slice B k l], .int .i64 r]) ∧ (r ≠ 0 → Value.slice A i j = .slice none 0 0 ∧ Value.slice B k l = .slice none 0 0) ∧
  (r = 0 → Own Im 3 (fun k => w.heap.size ≤ k) w' (.slice A i j) sh ∧ Own RZ 54 (fun k => w.heap.size ≤ k) w' (.slice B k l) es) ∧ Fr (fun k => k < w.heap.size) w w'

set_option maxRecDepth 20000 in
set_option maxHeartbeats 8000000 in
theorem each_t {S T : Nat → Prop} (f : FuncId) (caps : Array Value) (g : RatL → RatL) (hcf : ∀ (args : Array Value) (u : World), (callFunc f args).run Tryz.prog u = .ok (.enter f args) u) (w : World) (vs ve : Value) (sh : List Int) (es : List RatL) (L : Nat) (r : Int) (hr : Hid (mayT sh es = r)) (hs : Sl Im S w vs sh) (he : Sl Rm T w ve es) (hL : Hid (∀ x ∈ es, x.2.1.length ≤ L ∧ x.2.2.length ≤ L)) (hL1 : 1 ≤ L) (hl : L ≤ 104857600)
    (hF : Hid (r = 0 → ∀ (u : World) (x : RatL) (vn vd : Value) (X : Nat → Prop), x ∈ es → Fr (fun k => k < w.heap.size) w u → Sl Lm X u vn x.2.1 → Sl Lm X u vd x.2.2 → Calls Tryz.prog f (#[.agg #[.bool x.1, vn, vd]] ++ caps) u fun e u' => ∃ v1 v2, e = .returned (.agg #[.bool (g x).1, v1, v2]) ∧ OL (fun k => u.heap.size ≤ k) u' v1 v2 (g x).2.1 (g x).2.2 ∧ Fr (fun k => k < u.heap.size) u u')) (hsl : sh.length ≤ 1099511627000) (hel : es.length ≤ 1099511627000) :
    Calls Tryz.prog 99 #[.agg #[vs, ve], .func (.func f) #[] caps] w (EachR w sh (es.map g) r) := by
  obtain ⟨A, c, rfl, _, _, hlx⟩ := hs.slice
  obtain ⟨A', c', rfl, _, _, hly⟩ := he.slice
  have F := ((Fr.refl (fun k => k < w.heap.size) w).alloc (.cells #[.slice A sh.length c, .slice A' es.length c'] 26)).alloc (.cells #[.slice none 0 0, .slice none 0 0] 26)
  have x0 := (Box2.new w 26 (.slice A sh.length c) (.slice A' es.length c')).alloc (.cells #[.slice none 0 0, .slice none 0 0] 26)
  have b2 := Box2.new (w.alloc (.cells #[.slice A sh.length c, .slice A' es.length c'] 26)) 26 (.slice none 0 0) (.slice none 0 0)
  simp only [World.size_alloc] at b2
  have HS := Lib.hid (hs.low Im_pos)
  have HE := Lib.hid (he.low Rm_pos)
  clear hs he
  have a0 := x0.c0
  have a1 := x0.c1
  go_enter Tryz.func99, Tryz.ntmps99
  go_wp2_with fail
  generalize hW0 : (w.alloc (.cells #[.slice A sh.length c, .slice A' es.length c'] 26)).alloc (.cells #[.slice none 0 0, .slice none 0 0] 26) = W0 at F x0 b2 a0 a1 ⊢
  clear hW0
  with_reducible refine (may_h _ (.slice A sh.length c) (.slice A' es.length c') sh es L r hr (HS.out.fr F) (HE.out.fr F) hL.out hL1 hl).mono ?_
  rintro e W1 ⟨rfl, hf⟩
  replace x0 := x0.keep hf
  replace b2 := b2.keep hf
  replace F := fr_then F hf
  clear hf a0 a1
  by_cases h0 : r = 0
  case neg =>
    have hb0 : (r == 0) = false := beq_eq_false_iff_ne.2 h0
    go_wp2_with ((with_reducible apply wpList_st2); rfl; rfl; exact b2; exact ten2; rfl; rfl; intro w9 B9 F9)
    refine bodyPost_ret (results_cell2_tmp rfl rfl B9 Tryz.underlying26 ten2) rfl ?_
    exact ⟨none, 0, 0, none, 0, 0, rfl, fun _ => ⟨rfl, rfl⟩, fun h => absurd h h0, F.comp F9 fun k _ hk => ⟨hk, by omega⟩⟩
  subst h0
  have a0 := x0.c0
  have a1 := x0.c1
  go_wp2_with fail
  with_reducible refine (sclone_calls _ (.slice A sh.length c) sh (HS.out.fr F) hsl).mono ?_
  rintro e w1 ⟨v1, rfl, ho1, hf⟩
  obtain ⟨A1, n1, c1, rfl⟩ := ho1.form
  have sW := F.size
  have lt2 := b2.lt
  have s1 := hf.size
  have al := fun R => (Fr.refl R w1).alloc (.cells #[.slice A1 n1 c1, .slice none 0 0] 26)
  have b5 := Box2.new w1 26 (.slice A1 n1 c1) (.slice none 0 0)
  replace x0 := (x0.keep hf).keep (al _)
  replace b2 := (b2.keep hf).keep (al _)
  have o1 := (ho1.bd.keep' (al _)).mono (T := fun k => w.heap.size + 2 ≤ k ∧ k < w1.heap.size) fun k hk => ⟨by have := hk.1; omega, hk.2⟩
  replace F := fr_then (fr_then F hf) (al _)
  clear hf al ho1 a0 a1
  have a1 := x0.c1
  go_wp2_with fail
  have F0 := F
  go_loopw [23] (fun k W => ∃ (j : Nat) (v2 : Value), k = .int .i64 j ∧ j ≤ es.length ∧ Box2 W w.heap.size 26 (.slice A sh.length c) (.slice A' es.length c') ∧ Box2 W (w.heap.size + 1) 26 (.slice none 0 0) (.slice none 0 0) ∧ Box2 W w1.heap.size 26 (.slice A1 n1 c1) v2 ∧ Own Im 3 (fun k => w.heap.size + 2 ≤ k ∧ k < w1.heap.size) W (.slice A1 n1 c1) sh ∧ Own RZ 54 (fun k => w1.heap.size < k) W v2 ((es.take j).map g) ∧ Fr (fun k => k < w.heap.size) w W ∧ w1.heap.size < W.heap.size) (fun k _ => es.length - (intOf k).toNat)
  case atStart => exact ⟨0, _, rfl, by omega, x0, b2, b5, o1, Own.nil _ _ _ _, F, by simp⟩
  case round =>
    clear x0 b2 b5 o1 F a1 F0
    obtain ⟨j, v2, rfl, hj, x0, b2, b5, o1, o2, F, hwr⟩ := hrel
    obtain ⟨A2, n2, c2, rfl⟩ := o2.form
    by_cases hlt : j < es.length
    · obtain ⟨ad, P, n, d, Q, m, o, rfl, hS, g0, g1, g2, r1, r2⟩ := Rm_get (HE.out.fr F) hlt
      have hmem := List.getElem_mem hlt
      have htk : es.take (j + 1) = es.take j ++ [es[j]] := (List.take_append_getElem hlt).symm
      have HTK := Lib.hid htk
      generalize es[j] = y at g0 r1 r2 hmem HTK
      have al := fun R => (Fr.refl R wr).alloc (.cells #[.bool y.1, .slice P n d, .slice Q m o] 54)
      have x9 := (Box3.new wr 54 (.bool y.1) (.slice P n d) (.slice Q m o)).keep (Fr.refl (fun k => k < (wr.alloc (.cells #[.bool y.1, .slice P n d, .slice Q m o] 54)).heap.size) _).drew
      have D := fun R => (al R).drew
      replace x0 := x0.keep (D _)
      replace b2 := b2.keep (D _)
      replace b5 := b5.keep (D _)
      have o2' := o2.keep' (D _)
      have lt2 := o2.lt
      have in2 := o2.in_
      replace o1 := o1.keep' (D _)
      have F9 := fr_then F (D _)
      have sz : (wr.alloc (.cells #[.bool y.1, .slice P n d, .slice Q m o] 54)).drew.heap.size = wr.heap.size + 1 := by show (wr.alloc _).heap.size = _; simp
      have HC := Lib.hid (hF.out trivial _ y (.slice P n d) (.slice Q m o) (fun k => k < w.heap.size) hmem F9 (r1.keep' Lm_pos (D _)) (r2.keep' Lm_pos (D _)))
      clear r1 r2 htk hmem al
      go_wp2_with fail
      refine wpTill.begin (fun u => u.cell? ⟨w1.heap.size, 1, none⟩ = some (.slice A2 n2 c2) ∧ u.cell? ⟨wr.heap.size, 0, none⟩ = some (.bool y.1) ∧ u.cell? ⟨wr.heap.size, 1, none⟩ = some (.slice P n d) ∧ u.cell? ⟨wr.heap.size, 2, none⟩ = some (.slice Q m o)) 7 (by kernel_rfl) ?_
      change wpTill _ _ _ _ _ _ 9 _ _ _
      generalize (wr.alloc (.cells #[.bool y.1, .slice P n d, .slice Q m o] 54)).drew = Wd at x0 b2 b5 x9 o1 o2' F9 sz HC D ⊢
      have KS : ∀ u, Fr (fun k => k = w1.heap.size ∨ k = wr.heap.size) Wd u → u.cell? ⟨w1.heap.size, 1, none⟩ = some (.slice A2 n2 c2) ∧ u.cell? ⟨wr.heap.size, 0, none⟩ = some (.bool y.1) ∧ u.cell? ⟨wr.heap.size, 1, none⟩ = some (.slice P n d) ∧ u.cell? ⟨wr.heap.size, 2, none⟩ = some (.slice Q m o) := fun u hu => ⟨(b5.fr hu (.inl rfl)).c1, (x9.fr hu (.inr rfl)).c0, (x9.fr hu (.inr rfl)).c1, (x9.fr hu (.inr rfl)).c2⟩
      have S0 := KS _ (Fr.refl _ _)
      refine wpTill.take 0 (.pointer (some ⟨w1.heap.size, 1, none⟩)) rfl (by kernel_rfl) (by kernel_rfl) (fun _ _ _ h => h) S0 (by rfl) (fun u hu => by go_simp) ?_
      try simp only [Act.put, List.setIfInBounds_toArray, List.set_cons_zero, List.set_cons_succ]
      refine wpTill.take 1 (.slice A2 n2 c2) rfl (by kernel_rfl) (by kernel_rfl) (fun _ _ _ h => h) S0 (by rfl) (fun u hu => by go_simp) ?_
      try simp only [Act.put, List.setIfInBounds_toArray, List.set_cons_zero, List.set_cons_succ]
      refine wpTill.take 2 (.func (.func f) #[] caps) rfl (by kernel_rfl) (by kernel_rfl) (fun _ _ _ h => h) S0 (by rfl) (fun u hu => by go_simp) ?_
      try simp only [Act.put, List.setIfInBounds_toArray, List.set_cons_zero, List.set_cons_succ]
      refine wpTill.take 3 (.agg #[.bool y.1, .slice P n d, .slice Q m o]) rfl (by kernel_rfl) (by kernel_rfl) (fun _ _ _ h => h) S0 (by rfl) (fun u hu => by go_simp) ?_
      try simp only [Act.put, List.setIfInBounds_toArray, List.set_cons_zero, List.set_cons_succ]
      refine wpTill.next 4 rfl (by kernel_rfl) (by rfl) (fun K hK => ?_)
      go_simp
      with_reducible refine HC.out.mono ?_
      rintro e u1 ⟨v3, v4, rfl, hol, hf⟩
      obtain ⟨⟨P3, i4, j4, rfl⟩, ⟨P4, i5, j5, rfl⟩⟩ := hol.form
      have G1 : Fr (fun k => k = w1.heap.size ∨ k = wr.heap.size) Wd u1 := hf.mono fun k hk _ => hk
      refine hK _ _ (fun _ => KS _ G1) ?_
      clear hK K
      try simp only [Act.put, List.setIfInBounds_toArray, List.set_cons_zero, List.set_cons_succ]
      refine wpTill.next 5 rfl (by kernel_rfl) (by rfl) (fun K hK => ?_)
      go_simp
      refine hK _ _ (fun _ => KS _ (G1.alloc _)) ?_
      clear hK K
      try simp only [Act.put, List.setIfInBounds_toArray, List.set_cons_zero, List.set_cons_succ]
      have o3 := o2'.keep' hf
      have HLn := Lib.hid (show (((es.take j).map g).length + 1) * 56 ≤ 140737488355328 ∧ ((es.take j).map g).length + 1 ≤ 9223372036854775807 by rw [List.length_map, List.length_take]; omega)
      have su := hf.size
      clear S0 HC
      refine wpTill.next 6 rfl (by kernel_rfl) (by rfl) (fun K hK => ?_)
      refine oper_push1 rzT (v := .slice A2 n2 c2) (y := g y) (T := fun k => Wd.heap.size ≤ k) rfl rfl rfl o3 ⟨_, _, rfl, hol.num.sl_fz, hol.den.sl_fz⟩ (fun k hk _ => ⟨by omega, fun e => by have := lt2 k e.symm; omega⟩) (fun k hk => by omega) HLn.out.1 HLn.out.2 ?_
      intro v5 u2 ho hfr hat
      obtain ⟨A3, n3, c3, rfl⟩ := ho.form
      have G2 : Fr (fun k => k = w1.heap.size ∨ k = wr.heap.size) Wd u2 := G1.comp hfr fun k _ hk => ⟨hk, fun e => by have h1 := in2 _ e.symm; have h2 := lt2 _ e.symm; omega⟩
      refine hK _ _ (fun _ => KS _ G2) ?_
      clear hK K
      try simp only [Act.put, List.setIfInBounds_toArray, List.set_cons_zero, List.set_cons_succ]
      have q5 := b5.fr G2 (.inl rfl)
      have G3 : Fr (fun k => k ≤ w1.heap.size) Wd u2 := hf.comp hfr fun k _ hk => ⟨by omega, fun e => by have h1 := in2 _ e.symm; omega⟩
      have e0 := q5.c1
      have e1 := q5.free 1
      have su2 := G3.size
      clear hfr hat o3 KS
      refine wpTill.next 7 rfl (by kernel_rfl) (by rfl) (fun K hK => ?_)
      go_simp
      refine hK _ _ (no_wait (by kernel_rfl)) ?_
      clear hK K
      try simp only [Act.put, List.setIfInBounds_toArray, List.set_cons_zero, List.set_cons_succ]
      refine wpTill.next 8 rfl (by kernel_rfl) (by rfl) (fun K hK => ?_)
      go_simp
      refine hK _ _ (no_wait (by kernel_rfl)) ?_
      clear hK K
      try simp only [Act.put, List.setIfInBounds_toArray, List.set_cons_zero, List.set_cons_succ]
      refine wpTill.done (by kernel_rfl) ?_
      have F8 := fr_set1 u2 w1.heap.size 1 (.slice A3 n3 c3)
      have f0 := (x0.fr G3 (by omega)).fr F8 (by omega)
      have f2 := (b2.fr G3 (by omega)).fr F8 (by omega)
      have f5 := q5.set1 (.slice A3 n3 c3)
      have f1 := (o1.fr (G3.mono fun k _ hk => by omega)).past F8 (fun k hk => by omega)
      have f3 := ho.past F8 (fun k hk => by omega)
      have f6 := (F9.comp G3 (R := fun k => k < w.heap.size) fun k _ hk => ⟨hk, by omega⟩).comp F8 (R := fun k => k < w.heap.size) fun k _ hk => ⟨hk, by omega⟩
      have f7 := F8.size
      clear e0 e1 q5 x0 b2 b5 x9 o1 o2' F9 D G1 G2 G3 HLn hol ho F8
      go_wp2_with fail
      go_roundw
      case rel => exact ⟨j + 1, _, by go_num, by omega, f0, f2, f5, f1, by rw [HTK.out, List.map_append, List.map_singleton]; exact f3, f6, by omega⟩
      case measure => first | (simp [intOf]; done) | (simp [intOf]; omega)
    · obtain rfl : j = es.length := by omega
      rw [List.take_length] at o2
      have d0 := b5.c0
      have d1 := b5.c1
      go_wp2_with ((with_reducible apply wpList_st2); rfl; rfl; exact b2; exact ten2; rfl; rfl; intro w9 B9 F9)
      refine bodyPost_ret (results_cell2_tmp rfl rfl B9 Tryz.underlying26 ten2) rfl ?_
      exact ⟨_, _, _, _, _, _, rfl, fun h => absurd rfl h, fun _ => ⟨(o1.past F9 fun k hk => by omega).mono fun k hk => by omega, (o2.past F9 fun k hk => by omega).mono fun k hk => by omega⟩, F.comp F9 fun k _ hk => ⟨hk, by omega⟩⟩
end Go.Proofs.YtlppcfeimpcbjaaGreat


/- The functions that point hands to each: Relu's, Step's, Scale's. -/
namespace Go.Proofs.YtlppcfeimpcbjaaGreat
open Go.RowKit

/-- A rational as it is answered, in memory of the call's own. -/
def Ans (p : Rat) (w : World) (e : Ending) (w' : World) : Prop := ∃ v1 v2, e = .returned (.agg #[.bool (sg p), v1, v2]) ∧ OL (fun k => w.heap.size ≤ k) w' v1 v2 (dg LB p.num.natAbs) (dg LB p.den) ∧ Fr (fun k => k < w.heap.size) w w'
theorem RV.ol {S : Nat → Prop} {w : World} {v1 v2 : Value} {q : Rat} {L : Nat} (h : RV S w v1 v2 q L) : OL S w v1 v2 (dg LB q.num.natAbs) (dg LB q.den) := ⟨h.num.own, h.den.own⟩
theorem OL.past {S T : Nat → Prop} {w w' : World} {v1 v2 : Value} {xs ys : List Nat} (h : OL S w v1 v2 xs ys) {b : Nat} (hf : Fr (fun k => k ≠ b) w w') (hb : ∀ k, k < w.heap.size → S k → k ≠ b) (hT : ∀ k, S k → T k) : OL T w' v1 v2 xs ys := by
  have d1 := (h.num.bd.fr (hf.mono fun k _ hk => hb k hk.2 hk.1)).mono (T := T) fun k hk => hT k hk.1
  have d2 := (h.den.bd.fr (hf.mono fun k _ hk => hb k hk.2 hk.1)).mono (T := T) fun k hk => hT k hk.1
  exact ⟨d1, d2⟩

theorem sign_3 (q : Rat) : q.num.sign = -1 ∨ q.num.sign = 0 ∨ q.num.sign = 1 := by
  rcases Int.lt_trichotomy q.num 0 with h | h | h
  · exact .inl (Int.sign_eq_neg_one_of_neg h)
  · exact .inr (.inl (by rw [h]; rfl))
  · exact .inr (.inr (Int.sign_eq_one_of_pos h))
set_option maxHeartbeats 2000000 in
theorem scale1_t {S T : Nat → Prop} (w : World) (s t : Bool) (vn vd un ud : Value) (q p : Rat) (N D M E L b : Nat) (h : RI S w s vn vd q N D L) (hp : RI T w t un ud p M E L) (hx : Box3 w b 54 (.bool t) un ud) (hL1 : 1 ≤ L) (hl : L ≤ 104857600) :
    Calls Tryz.prog 100 #[.agg #[.bool s, vn, vd], .pointer (some ⟨b, 0, none⟩)] w (Ans (q * p) w) := by
  obtain ⟨⟨A1, n1, c1, rfl⟩, ⟨A2, n2, c2, rfl⟩⟩ := h.form
  obtain ⟨⟨A3, n3, c3, rfl⟩, ⟨A4, n4, c4, rfl⟩⟩ := hp.form
  have F := ((Fr.refl (fun k => k < w.heap.size) w).alloc (.cells #[.bool s, .slice A1 n1 c1, .slice A2 n2 c2] 54)).alloc (.cells #[.bool false, .slice none 0 0, .slice none 0 0] 54)
  have hb := box_nz (w.alloc (.cells #[.bool s, .slice A1 n1 c1, .slice A2 n2 c2] 54))
  have x1 := (Box3.new w 54 (.bool s) (.slice A1 n1 c1) (.slice A2 n2 c2)).alloc (.cells #[.bool false, .slice none 0 0, .slice none 0 0] 54)
  have x2 := hx.keep F
  simp only [World.size_alloc] at hb
  have H := Lib.hid (RI.low h)
  have HP := Lib.hid (RI.low hp)
  clear h hp hx
  have d0 := x1.c0
  have d1 := x1.c1
  have d2 := x1.c2
  have e0 := x2.c0
  have e1 := x2.c1
  have e2 := x2.c2
  go_enter Tryz.func100, Tryz.ntmps100
  go_wp2_with fail
  generalize (w.alloc (.cells #[.bool s, .slice A1 n1 c1, .slice A2 n2 c2] 54)).alloc (.cells #[.bool false, .slice none 0 0, .slice none 0 0] 54) = W at F hb x1 x2 d0 d1 d2 e0 e1 e2 ⊢
  with_reducible refine (rmul_n _ s t (.slice A1 n1 c1) (.slice A2 n2 c2) (.slice A3 n3 c3) (.slice A4 n4 c4) q p N D M E L (H.out.fr F) (HP.out.fr F) hL1 hl).mono ?_
  rintro e w2 ⟨v1, v2, rfl, hv, hf⟩
  obtain ⟨⟨B1, m1, k1, rfl⟩, ⟨B2, m2, k2, rfl⟩⟩ := hv.form
  have lb := hb.lt
  replace hb := hb.keep hf
  replace F := fr_then F hf
  clear hf d0 d1 d2 e0 e1 e2 x1 x2
  go_wp2_with ((with_reducible apply wpList_st3); rfl; rfl; exact hb; exact rat3; rfl; rfl; rfl; intro w9 B9 F9)
  refine bodyPost_ret (results_cell3 rfl rfl B9 Tryz.underlying54 rat3) rfl ?_
  exact ⟨_, _, rfl, hv.ol.past F9 (fun k _ hk => by omega) (fun k hk => by omega), F.comp F9 fun k _ hk => ⟨hk, by omega⟩⟩
end Go.Proofs.YtlppcfeimpcbjaaGreat


/- point.Neg, Relu, Step, Scale. -/
namespace Go.Proofs.YtlppcfeimpcbjaaGreat
open Go.RowKit

theorem ri_x {X : Nat → Prop} {u : World} {x : RatL} {vn vd : Value} {L : Nat} (h1 : Sl Lm X u vn x.2.1) (h2 : Sl Lm X u vd x.2.2) (hl : x.2.1.length ≤ L ∧ x.2.2.length ≤ L) : RI X u x.1 vn vd (qOf x) (val x.2.1) (val x.2.2) L := ⟨⟨x.2.1, h1, rfl, hl.1⟩, ⟨x.2.2, h2, rfl, hl.2⟩, rfl⟩

set_option maxHeartbeats 2000000 in
theorem pscale_t {S T U V : Nat → Prop} (w : World) (vs ve un ud : Value) (sh : List Int) (es : List RatL) (y : RatL) (L : Nat) (r : Int) (hr : Hid (mayT sh es = r)) (hs : Sl Im S w vs sh) (he : Sl Rm T w ve es) (hu : Sl Lm U w un y.2.1) (hv : Sl Lm V w ud y.2.2) (hL : Hid (∀ x ∈ es, x.2.1.length ≤ L ∧ x.2.2.length ≤ L)) (hy : Hid (y.2.1.length ≤ L ∧ y.2.2.length ≤ L)) (hL1 : 1 ≤ L) (hl : L ≤ 104857600) (hsl : sh.length ≤ 1099511627000) (hel : es.length ≤ 1099511627000) :
    Calls Tryz.prog 49 #[.agg #[vs, ve], .agg #[.bool y.1, un, ud]] w (EachR w sh (es.map fun x => canR (qOf x * qOf y)) r) := by
  obtain ⟨A, c, rfl, _, _, hlx⟩ := hs.slice
  obtain ⟨A', c', rfl, _, _, hly⟩ := he.slice
  obtain ⟨P, n1, c1, rfl⟩ := hu.form
  obtain ⟨Q, n2, c2, rfl⟩ := hv.form
  obtain ⟨sy, ya, yb⟩ := y
  have F := (((Fr.refl (fun k => k < w.heap.size) w).alloc (.cells #[.slice A sh.length c, .slice A' es.length c'] 26)).alloc (.cells #[.bool sy, .slice P n1 c1, .slice Q n2 c2] 54)).alloc (.cells #[.slice none 0 0, .slice none 0 0] 26)
  have x0 := ((Box2.new w 26 (.slice A sh.length c) (.slice A' es.length c')).alloc (.cells #[.bool sy, .slice P n1 c1, .slice Q n2 c2] 54)).alloc (.cells #[.slice none 0 0, .slice none 0 0] 26)
  have x1 := (Box3.new (w.alloc (.cells #[.slice A sh.length c, .slice A' es.length c'] 26)) 54 (.bool sy) (.slice P n1 c1) (.slice Q n2 c2)).alloc (.cells #[.slice none 0 0, .slice none 0 0] 26)
  have b2 := Box2.new ((w.alloc (.cells #[.slice A sh.length c, .slice A' es.length c'] 26)).alloc (.cells #[.bool sy, .slice P n1 c1, .slice Q n2 c2] 54)) 26 (.slice none 0 0) (.slice none 0 0)
  simp only [World.size_alloc] at b2 x1
  have HS := Lib.hid (hs.low Im_pos)
  have HE := Lib.hid (he.low Rm_pos)
  have HU := Lib.hid (hu.low Lm_pos)
  have HV := Lib.hid (hv.low Lm_pos)
  clear hs he hu hv
  have a0 := x0.c0
  have a1 := x0.c1
  go_enter Tryz.func49, Tryz.ntmps49
  go_wp2_with fail
  generalize ((w.alloc (.cells #[.slice A sh.length c, .slice A' es.length c'] 26)).alloc (.cells #[.bool sy, .slice P n1 c1, .slice Q n2 c2] 54)).alloc (.cells #[.slice none 0 0, .slice none 0 0] 26) = W0 at F x0 x1 b2 a0 a1 ⊢
  have p := Lib.hid (each_t 100 #[.pointer (some ⟨w.heap.size + 1, 0, none⟩)] (fun x => canR (qOf x * qOf (sy, ya, yb))) (fun args u => by go_simp) W0 (.slice A sh.length c) (.slice A' es.length c') sh es L r hr (HS.out.fr F) (HE.out.fr F) hL hL1 hl (Lib.hid fun _ u x vn vd X hm hf h1 h2 =>
    scale1_t u x.1 sy vn vd (.slice P n1 c1) (.slice Q n2 c2) (qOf x) (qOf (sy, ya, yb)) _ _ _ _ L (w.heap.size + 1) (ri_x h1 h2 (hL.out x hm)) (ri_x (x := (sy, ya, yb)) (HU.out.fr (fr_then F hf)) (HV.out.fr (fr_then F hf)) hy.out) (x1.keep hf) hL1 hl) hsl hel)
  with_reducible refine p.out.mono ?_
  rintro e w3 ⟨A1, n1', c1', A2, n2', c2', rfl, hno, hyes, hf⟩
  have l2 := b2.lt
  replace b2 := b2.keep hf
  replace F := fr_then F hf
  clear hf p x0 a0 a1
  go_wp2_with ((with_reducible apply wpList_st2); rfl; rfl; exact b2; exact ten2; rfl; rfl; intro w9 B9 F9)
  refine bodyPost_ret (results_cell2_tmp rfl rfl B9 Tryz.underlying26 ten2) rfl ?_
  exact ⟨_, _, _, _, _, _, rfl, hno, fun h => ⟨((hyes h).1.past F9 fun k hk => by omega).mono fun k hk => by omega, ((hyes h).2.past F9 fun k hk => by omega).mono fun k hk => by omega⟩, F.comp F9 fun k _ hk => ⟨hk, by omega⟩⟩
end Go.Proofs.YtlppcfeimpcbjaaGreat


/- The document's functions over the elements: printed by gen_ptd.py. -/
namespace Go.Proofs.YtlppcfeimpcbjaaGreat
open Go.RowKit

/-- A tensor of the document, answered. -/
def RefR (w : World) (sh : List Int) (qs : List Rat) (K : Nat) (e : Ending) (w' : World) : Prop := ∃ A i j B k l, e = .returned (.agg #[.slice A i j, .slice B k l]) ∧ Sl Im (fun _ => True) w' (.slice A i j) sh ∧ Sl (Rk K) (fun _ => True) w' (.slice B k l) qs ∧ Fr (fun k => k < w.heap.size) w w'

end Go.Proofs.YtlppcfeimpcbjaaGreat


/- The document's Add and Mul over the elements: printed by gen_pte.py. -/
namespace Go.Proofs.YtlppcfeimpcbjaaGreat
open Go.RowKit

/-- A tensor of the document and an error, answered. -/
def RefE (w : World) (sh : List Int) (qs : List Rat) (K : Nat) (r : Int) (e : Ending) (w' : World) : Prop := ∃ A i j B k l, e = .returned (.tuple #[.agg #[.slice A i j, .slice B k l], .int .i64 r]) ∧ (r = 0 → Sl Im (fun _ => True) w' (.slice A i j) sh ∧ Sl (Rk K) (fun _ => True) w' (.slice B k l) qs) ∧ Fr (fun k => k < w.heap.size) w w'
theorem zip_step {f : Rat → Rat → Rat} {qs ps : List Rat} {j : Nat} (h1 : j < qs.length) (h2 : j < ps.length) : (List.zipWith f qs ps).take (j + 1) = (List.zipWith f qs ps).take j ++ [f qs[j] ps[j]] := by
  have h : j < (List.zipWith f qs ps).length := by rw [List.length_zipWith]; omega
  rw [← List.take_append_getElem h, List.getElem_zipWith]

end Go.Proofs.YtlppcfeimpcbjaaGreat

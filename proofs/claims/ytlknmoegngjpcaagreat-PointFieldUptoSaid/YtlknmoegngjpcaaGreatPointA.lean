/- Texts merged: PtA, PtB, PtC, PtD, PtE. -/
import Derived.Test.YtlknmoegngjpcaaGreatOwnS
import Derived.Test.YtlknmoegngjpcaaGreatTenW
set_option linter.unusedSimpArgs false
set_option linter.unusedVariables false

/- point.each: a tensor, each element by a function. -/
namespace Go.Proofs.YtlknmoegngjpcaaGreat
open Go.RowKit

/-- What a function over the elements answers. -/
def EachR (w : World) (sh : List Int) (es : List RatL) (r : Int) (e : Ending) (w' : World) : Prop := ∃ A i j B k l, e = .returned (.tuple #[.agg #[.slice A i j, .slice B k l], .int .i64 r]) ∧ (r ≠ 0 → Value.slice A i j = .slice none 0 0 ∧ Value.slice B k l = .slice none 0 0) ∧
  (r = 0 → Own Im 3 (fun k => w.heap.size ≤ k) w' (.slice A i j) sh ∧ Own RZ 51 (fun k => w.heap.size ≤ k) w' (.slice B k l) es) ∧ Fr (fun k => k < w.heap.size) w w'

set_option maxRecDepth 20000 in
set_option maxHeartbeats 8000000 in
theorem each_t {S T : Nat → Prop} (f : FuncId) (caps : Array Value) (g : RatL → RatL) (hcf : ∀ (args : Array Value) (u : World), (callFunc f args).run Tryz.prog u = .ok (.enter f args) u) (w : World) (vs ve : Value) (sh : List Int) (es : List RatL) (L : Nat) (r : Int) (hr : Hid (mayT sh es = r)) (hs : Sl Im S w vs sh) (he : Sl Rm T w ve es) (hL : Hid (∀ x ∈ es, x.2.1.length ≤ L ∧ x.2.2.length ≤ L)) (hL1 : 1 ≤ L) (hl : L ≤ 104857600)
    (hF : Hid (r = 0 → ∀ (u : World) (x : RatL) (vn vd : Value) (X : Nat → Prop), x ∈ es → Fr (fun k => k < w.heap.size) w u → Sl Lm X u vn x.2.1 → Sl Lm X u vd x.2.2 → Calls Tryz.prog f (#[.agg #[.bool x.1, vn, vd]] ++ caps) u fun e u' => ∃ v1 v2, e = .returned (.agg #[.bool (g x).1, v1, v2]) ∧ OL (fun k => u.heap.size ≤ k) u' v1 v2 (g x).2.1 (g x).2.2 ∧ Fr (fun k => k < u.heap.size) u u')) (hsl : sh.length ≤ 1099511627000) (hel : es.length ≤ 1099511627000) :
    Calls Tryz.prog 49 #[.agg #[vs, ve], .func (.func f) #[] caps] w (EachR w sh (es.map g) r) := by
  obtain ⟨A, c, rfl, _, _, hlx⟩ := hs.slice
  obtain ⟨A', c', rfl, _, _, hly⟩ := he.slice
  have F := ((Fr.refl (fun k => k < w.heap.size) w).alloc (.cells #[.slice A sh.length c, .slice A' es.length c'] 26)).alloc (.cells #[.slice none 0 0, .slice none 0 0] 26)
  have x0 := (Box2.new w 26 (.slice A sh.length c) (.slice A' es.length c')).alloc (.cells #[.slice none 0 0, .slice none 0 0] 26)
  have b2 := Box2.new (w.alloc (.cells #[.slice A sh.length c, .slice A' es.length c'] 26)) 26 (.slice none 0 0) (.slice none 0 0)
  simp only [World.size_alloc] at b2
  have HS := Lib.hid (hs.low Im_pos)
  have HE := Lib.hid (he.low Rm_pos)
  clear hs he
  have a0 := x0.c0
  have a1 := x0.c1
  go_enter Tryz.func49, Tryz.ntmps49
  go_wp2_with fail
  generalize hW0 : (w.alloc (.cells #[.slice A sh.length c, .slice A' es.length c'] 26)).alloc (.cells #[.slice none 0 0, .slice none 0 0] 26) = W0 at F x0 b2 a0 a1 ⊢
  clear hW0
  with_reducible refine (may_h _ (.slice A sh.length c) (.slice A' es.length c') sh es L r hr (HS.out.fr F) (HE.out.fr F) hL.out hL1 hl).mono ?_
  rintro e W1 ⟨rfl, hf⟩
  replace x0 := x0.keep hf
  replace b2 := b2.keep hf
  replace F := fr_then F hf
  clear hf a0 a1
  by_cases h0 : r = 0
  case neg =>
    have hb0 : (r == 0) = false := beq_eq_false_iff_ne.2 h0
    go_wp2_with ((with_reducible apply wpList_st2); rfl; rfl; exact b2; exact ten2; rfl; rfl; intro w9 B9 F9)
    refine bodyPost_ret (results_cell2_tmp rfl rfl B9 Tryz.underlying26 ten2) rfl ?_
    exact ⟨none, 0, 0, none, 0, 0, rfl, fun _ => ⟨rfl, rfl⟩, fun h => absurd h h0, F.comp F9 fun k _ hk => ⟨hk, by omega⟩⟩
  subst h0
  have a0 := x0.c0
  have a1 := x0.c1
  go_wp2_with fail
  with_reducible refine (sclone_calls _ (.slice A sh.length c) sh (HS.out.fr F) hsl).mono ?_
  rintro e w1 ⟨v1, rfl, ho1, hf⟩
  obtain ⟨A1, n1, c1, rfl⟩ := ho1.form
  have sW := F.size
  have lt2 := b2.lt
  have s1 := hf.size
  have al := fun R => (Fr.refl R w1).alloc (.cells #[.slice A1 n1 c1, .slice none 0 0] 26)
  have b5 := Box2.new w1 26 (.slice A1 n1 c1) (.slice none 0 0)
  replace x0 := (x0.keep hf).keep (al _)
  replace b2 := (b2.keep hf).keep (al _)
  have o1 := (ho1.bd.keep' (al _)).mono (T := fun k => w.heap.size + 2 ≤ k ∧ k < w1.heap.size) fun k hk => ⟨by have := hk.1; omega, hk.2⟩
  replace F := fr_then (fr_then F hf) (al _)
  clear hf al ho1 a0 a1
  have a1 := x0.c1
  go_wp2_with fail
  have F0 := F
  go_loopw [23] (fun k W => ∃ (j : Nat) (v2 : Value), k = .int .i64 j ∧ j ≤ es.length ∧ Box2 W w.heap.size 26 (.slice A sh.length c) (.slice A' es.length c') ∧ Box2 W (w.heap.size + 1) 26 (.slice none 0 0) (.slice none 0 0) ∧ Box2 W w1.heap.size 26 (.slice A1 n1 c1) v2 ∧ Own Im 3 (fun k => w.heap.size + 2 ≤ k ∧ k < w1.heap.size) W (.slice A1 n1 c1) sh ∧ Own RZ 51 (fun k => w1.heap.size < k) W v2 ((es.take j).map g) ∧ Fr (fun k => k < w.heap.size) w W ∧ w1.heap.size < W.heap.size) (fun k _ => es.length - (intOf k).toNat)
  case atStart => exact ⟨0, _, rfl, by omega, x0, b2, b5, o1, Own.nil _ _ _ _, F, by simp⟩
  case round =>
    clear x0 b2 b5 o1 F a1 F0
    obtain ⟨j, v2, rfl, hj, x0, b2, b5, o1, o2, F, hwr⟩ := hrel
    obtain ⟨A2, n2, c2, rfl⟩ := o2.form
    by_cases hlt : j < es.length
    · obtain ⟨ad, P, n, d, Q, m, o, rfl, hS, g0, g1, g2, r1, r2⟩ := Rm_get (HE.out.fr F) hlt
      have hmem := List.getElem_mem hlt
      have htk : es.take (j + 1) = es.take j ++ [es[j]] := (List.take_append_getElem hlt).symm
      have HTK := Lib.hid htk
      generalize es[j] = y at g0 r1 r2 hmem HTK
      have al := fun R => (Fr.refl R wr).alloc (.cells #[.bool y.1, .slice P n d, .slice Q m o] 51)
      have x9 := (Box3.new wr 51 (.bool y.1) (.slice P n d) (.slice Q m o)).keep (Fr.refl (fun k => k < (wr.alloc (.cells #[.bool y.1, .slice P n d, .slice Q m o] 51)).heap.size) _).drew
      have D := fun R => (al R).drew
      replace x0 := x0.keep (D _)
      replace b2 := b2.keep (D _)
      replace b5 := b5.keep (D _)
      have o2' := o2.keep' (D _)
      have lt2 := o2.lt
      have in2 := o2.in_
      replace o1 := o1.keep' (D _)
      have F9 := fr_then F (D _)
      have sz : (wr.alloc (.cells #[.bool y.1, .slice P n d, .slice Q m o] 51)).drew.heap.size = wr.heap.size + 1 := by show (wr.alloc _).heap.size = _; simp
      have HC := Lib.hid (hF.out trivial _ y (.slice P n d) (.slice Q m o) (fun k => k < w.heap.size) hmem F9 (r1.keep' Lm_pos (D _)) (r2.keep' Lm_pos (D _)))
      clear r1 r2 htk hmem al
      go_wp2_with fail
      refine wpTill.begin (fun u => u.cell? ⟨w1.heap.size, 1, none⟩ = some (.slice A2 n2 c2) ∧ u.cell? ⟨wr.heap.size, 0, none⟩ = some (.bool y.1) ∧ u.cell? ⟨wr.heap.size, 1, none⟩ = some (.slice P n d) ∧ u.cell? ⟨wr.heap.size, 2, none⟩ = some (.slice Q m o)) 7 (by kernel_rfl) ?_
      change wpTill _ _ _ _ _ _ 9 _ _ _
      generalize (wr.alloc (.cells #[.bool y.1, .slice P n d, .slice Q m o] 51)).drew = Wd at x0 b2 b5 x9 o1 o2' F9 sz HC D ⊢
      have KS : ∀ u, Fr (fun k => k = w1.heap.size ∨ k = wr.heap.size) Wd u → u.cell? ⟨w1.heap.size, 1, none⟩ = some (.slice A2 n2 c2) ∧ u.cell? ⟨wr.heap.size, 0, none⟩ = some (.bool y.1) ∧ u.cell? ⟨wr.heap.size, 1, none⟩ = some (.slice P n d) ∧ u.cell? ⟨wr.heap.size, 2, none⟩ = some (.slice Q m o) := fun u hu => ⟨(b5.fr hu (.inl rfl)).c1, (x9.fr hu (.inr rfl)).c0, (x9.fr hu (.inr rfl)).c1, (x9.fr hu (.inr rfl)).c2⟩
      have S0 := KS _ (Fr.refl _ _)
      refine wpTill.take 0 (.pointer (some ⟨w1.heap.size, 1, none⟩)) rfl (by kernel_rfl) (by kernel_rfl) (fun _ _ _ h => h) S0 (by rfl) (fun u hu => by go_simp) ?_
      try simp only [Act.put, List.setIfInBounds_toArray, List.set_cons_zero, List.set_cons_succ]
      refine wpTill.take 1 (.slice A2 n2 c2) rfl (by kernel_rfl) (by kernel_rfl) (fun _ _ _ h => h) S0 (by rfl) (fun u hu => by go_simp) ?_
      try simp only [Act.put, List.setIfInBounds_toArray, List.set_cons_zero, List.set_cons_succ]
      refine wpTill.take 2 (.func (.func f) #[] caps) rfl (by kernel_rfl) (by kernel_rfl) (fun _ _ _ h => h) S0 (by rfl) (fun u hu => by go_simp) ?_
      try simp only [Act.put, List.setIfInBounds_toArray, List.set_cons_zero, List.set_cons_succ]
      refine wpTill.take 3 (.agg #[.bool y.1, .slice P n d, .slice Q m o]) rfl (by kernel_rfl) (by kernel_rfl) (fun _ _ _ h => h) S0 (by rfl) (fun u hu => by go_simp) ?_
      try simp only [Act.put, List.setIfInBounds_toArray, List.set_cons_zero, List.set_cons_succ]
      refine wpTill.next 4 rfl (by kernel_rfl) (by rfl) (fun K hK => ?_)
      go_simp
      with_reducible refine HC.out.mono ?_
      rintro e u1 ⟨v3, v4, rfl, hol, hf⟩
      obtain ⟨⟨P3, i4, j4, rfl⟩, ⟨P4, i5, j5, rfl⟩⟩ := hol.form
      have G1 : Fr (fun k => k = w1.heap.size ∨ k = wr.heap.size) Wd u1 := hf.mono fun k hk _ => hk
      refine hK _ _ (fun _ => KS _ G1) ?_
      clear hK K
      try simp only [Act.put, List.setIfInBounds_toArray, List.set_cons_zero, List.set_cons_succ]
      refine wpTill.next 5 rfl (by kernel_rfl) (by rfl) (fun K hK => ?_)
      go_simp
      refine hK _ _ (fun _ => KS _ (G1.alloc _)) ?_
      clear hK K
      try simp only [Act.put, List.setIfInBounds_toArray, List.set_cons_zero, List.set_cons_succ]
      have o3 := o2'.keep' hf
      have HLn := Lib.hid (show (((es.take j).map g).length + 1) * 56 ≤ 140737488355328 ∧ ((es.take j).map g).length + 1 ≤ 9223372036854775807 by rw [List.length_map, List.length_take]; omega)
      have su := hf.size
      clear S0 HC
      refine wpTill.next 6 rfl (by kernel_rfl) (by rfl) (fun K hK => ?_)
      refine oper_push1 rzT (v := .slice A2 n2 c2) (y := g y) (T := fun k => Wd.heap.size ≤ k) rfl rfl rfl o3 ⟨_, _, rfl, hol.num.sl_fz, hol.den.sl_fz⟩ (fun k hk _ => ⟨by omega, fun e => by have := lt2 k e.symm; omega⟩) (fun k hk => by omega) HLn.out.1 HLn.out.2 ?_
      intro v5 u2 ho hfr hat
      obtain ⟨A3, n3, c3, rfl⟩ := ho.form
      have G2 : Fr (fun k => k = w1.heap.size ∨ k = wr.heap.size) Wd u2 := G1.comp hfr fun k _ hk => ⟨hk, fun e => by have h1 := in2 _ e.symm; have h2 := lt2 _ e.symm; omega⟩
      refine hK _ _ (fun _ => KS _ G2) ?_
      clear hK K
      try simp only [Act.put, List.setIfInBounds_toArray, List.set_cons_zero, List.set_cons_succ]
      have q5 := b5.fr G2 (.inl rfl)
      have G3 : Fr (fun k => k ≤ w1.heap.size) Wd u2 := hf.comp hfr fun k _ hk => ⟨by omega, fun e => by have h1 := in2 _ e.symm; omega⟩
      have e0 := q5.c1
      have e1 := q5.free 1
      have su2 := G3.size
      clear hfr hat o3 KS
      refine wpTill.next 7 rfl (by kernel_rfl) (by rfl) (fun K hK => ?_)
      go_simp
      refine hK _ _ (no_wait (by kernel_rfl)) ?_
      clear hK K
      try simp only [Act.put, List.setIfInBounds_toArray, List.set_cons_zero, List.set_cons_succ]
      refine wpTill.next 8 rfl (by kernel_rfl) (by rfl) (fun K hK => ?_)
      go_simp
      refine hK _ _ (no_wait (by kernel_rfl)) ?_
      clear hK K
      try simp only [Act.put, List.setIfInBounds_toArray, List.set_cons_zero, List.set_cons_succ]
      refine wpTill.done (by kernel_rfl) ?_
      have F8 := fr_set1 u2 w1.heap.size 1 (.slice A3 n3 c3)
      have f0 := (x0.fr G3 (by omega)).fr F8 (by omega)
      have f2 := (b2.fr G3 (by omega)).fr F8 (by omega)
      have f5 := q5.set1 (.slice A3 n3 c3)
      have f1 := (o1.fr (G3.mono fun k _ hk => by omega)).past F8 (fun k hk => by omega)
      have f3 := ho.past F8 (fun k hk => by omega)
      have f6 := (F9.comp G3 (R := fun k => k < w.heap.size) fun k _ hk => ⟨hk, by omega⟩).comp F8 (R := fun k => k < w.heap.size) fun k _ hk => ⟨hk, by omega⟩
      have f7 := F8.size
      clear e0 e1 q5 x0 b2 b5 x9 o1 o2' F9 D G1 G2 G3 HLn hol ho F8
      go_wp2_with fail
      go_roundw
      case rel => exact ⟨j + 1, _, by go_num, by omega, f0, f2, f5, f1, by rw [HTK.out, List.map_append, List.map_singleton]; exact f3, f6, by omega⟩
      case measure => first | (simp [intOf]; done) | (simp [intOf]; omega)
    · obtain rfl : j = es.length := by omega
      rw [List.take_length] at o2
      have d0 := b5.c0
      have d1 := b5.c1
      go_wp2_with ((with_reducible apply wpList_st2); rfl; rfl; exact b2; exact ten2; rfl; rfl; intro w9 B9 F9)
      refine bodyPost_ret (results_cell2_tmp rfl rfl B9 Tryz.underlying26 ten2) rfl ?_
      exact ⟨_, _, _, _, _, _, rfl, fun h => absurd rfl h, fun _ => ⟨(o1.past F9 fun k hk => by omega).mono fun k hk => by omega, (o2.past F9 fun k hk => by omega).mono fun k hk => by omega⟩, F.comp F9 fun k _ hk => ⟨hk, by omega⟩⟩
end Go.Proofs.YtlknmoegngjpcaaGreat


/- The functions that point hands to each: Relu's, Step's, Scale's. -/
namespace Go.Proofs.YtlknmoegngjpcaaGreat
open Go.RowKit

/-- A rational as it is answered, in memory of the call's own. -/
def Ans (p : Rat) (w : World) (e : Ending) (w' : World) : Prop := ∃ v1 v2, e = .returned (.agg #[.bool (sg p), v1, v2]) ∧ OL (fun k => w.heap.size ≤ k) w' v1 v2 (dg LB p.num.natAbs) (dg LB p.den) ∧ Fr (fun k => k < w.heap.size) w w'
theorem RV.ol {S : Nat → Prop} {w : World} {v1 v2 : Value} {q : Rat} {L : Nat} (h : RV S w v1 v2 q L) : OL S w v1 v2 (dg LB q.num.natAbs) (dg LB q.den) := ⟨h.num.own, h.den.own⟩
theorem OL.past {S T : Nat → Prop} {w w' : World} {v1 v2 : Value} {xs ys : List Nat} (h : OL S w v1 v2 xs ys) {b : Nat} (hf : Fr (fun k => k ≠ b) w w') (hb : ∀ k, k < w.heap.size → S k → k ≠ b) (hT : ∀ k, S k → T k) : OL T w' v1 v2 xs ys := by
  have d1 := (h.num.bd.fr (hf.mono fun k _ hk => hb k hk.2 hk.1)).mono (T := T) fun k hk => hT k hk.1
  have d2 := (h.den.bd.fr (hf.mono fun k _ hk => hb k hk.2 hk.1)).mono (T := T) fun k hk => hT k hk.1
  exact ⟨d1, d2⟩

set_option maxHeartbeats 2000000 in
theorem relu1_t {S : Nat → Prop} (w : World) (s : Bool) (vn vd : Value) (q : Rat) (N D L : Nat) (h : RI S w s vn vd q N D L) (hL1 : 1 ≤ L) (hl : L ≤ 104857600) :
    Calls Tryz.prog 56 #[.agg #[.bool s, vn, vd]] w (Ans (if q.num.sign < 0 then 0 else q) w) := by
  obtain ⟨⟨A1, n1, c1, rfl⟩, ⟨A2, n2, c2, rfl⟩⟩ := h.form
  have F := ((Fr.refl (fun k => k < w.heap.size) w).alloc (.cells #[.bool s, .slice A1 n1 c1, .slice A2 n2 c2] 51)).alloc (.cells #[.bool false, .slice none 0 0, .slice none 0 0] 51)
  have hb := box_nz (w.alloc (.cells #[.bool s, .slice A1 n1 c1, .slice A2 n2 c2] 51))
  have x1 := (Box3.new w 51 (.bool s) (.slice A1 n1 c1) (.slice A2 n2 c2)).alloc (.cells #[.bool false, .slice none 0 0, .slice none 0 0] 51)
  simp only [World.size_alloc] at hb
  obtain ⟨p, hp⟩ : ∃ p, p = if q.num.sign < 0 then 0 else q := ⟨_, rfl⟩
  obtain ⟨c, hc⟩ : ∃ c, q.num.sign = c := ⟨_, rfl⟩
  rw [← hp]
  rw [hc] at hp
  have HP := Lib.hid hp
  have HC := Lib.hid hc
  have H := Lib.hid (RI.low h)
  clear h hp hc
  have d0 := x1.c0
  have d1 := x1.c1
  have d2 := x1.c2
  go_enter Tryz.func56, Tryz.ntmps56
  go_wp2_with fail
  generalize (w.alloc (.cells #[.bool s, .slice A1 n1 c1, .slice A2 n2 c2] 51)).alloc (.cells #[.bool false, .slice none 0 0, .slice none 0 0] 51) = W at F hb x1 d0 d1 d2 ⊢
  with_reducible refine (rsign_z _ s (.slice A1 n1 c1) (.slice A2 n2 c2) q N D L c HC (H.out.fr F) hL1 (by omega)).mono ?_
  rintro e w1 ⟨rfl, hf⟩
  replace hb := hb.keep hf
  replace x1 := x1.keep hf
  replace F := fr_then F hf
  clear hf d0 d1 d2
  have lb := hb.lt
  have d0 := x1.c0
  have d1 := x1.c1
  have d2 := x1.c2
  by_cases h0 : c < 0
  · have h1 : p = 0 := HP.out.trans (if_pos h0)
    clear HP
    subst h1
    go_wp2_with fail
    with_reducible refine (int_0 _).mono ?_
    rintro e w2 ⟨s2, v1, v2, rfl, hs, hv, hf⟩
    obtain ⟨⟨B1, m1, k1, rfl⟩, ⟨B2, m2, k2, rfl⟩⟩ := hv.out.form
    replace hb := hb.keep hf
    replace F := fr_then F hf
    clear hf d0 d1 d2 x1
    go_wp2_with ((with_reducible apply wpList_st3); rfl; rfl; exact hb; exact rat3; rfl; rfl; rfl; intro w9 B9 F9)
    refine bodyPost_ret (results_cell3 rfl rfl B9 Tryz.underlying51 rat3) rfl ?_
    rw [hs.out]
    exact ⟨_, _, rfl, hv.out.ol.past F9 (fun k _ hk => by omega) (fun k hk => by omega), F.comp F9 fun k _ hk => ⟨hk, by omega⟩⟩
  · have h1 : p = q := HP.out.trans (if_neg h0)
    subst h1
    clear HP
    go_wp2_with fail
    with_reducible refine (norm_n _ s (.slice A1 n1 c1) (.slice A2 n2 c2) p N D L (H.out.fr F) hL1 (by omega)).mono ?_
    rintro e w2 ⟨v1, v2, rfl, hv, hf⟩
    obtain ⟨⟨B1, m1, k1, rfl⟩, ⟨B2, m2, k2, rfl⟩⟩ := hv.form
    replace hb := hb.keep hf
    replace F := fr_then F hf
    clear hf d0 d1 d2 x1
    go_wp2_with ((with_reducible apply wpList_st3); rfl; rfl; exact hb; exact rat3; rfl; rfl; rfl; intro w9 B9 F9)
    refine bodyPost_ret (results_cell3 rfl rfl B9 Tryz.underlying51 rat3) rfl ?_
    exact ⟨_, _, rfl, hv.ol.past F9 (fun k _ hk => by omega) (fun k hk => by omega), F.comp F9 fun k _ hk => ⟨hk, by omega⟩⟩
theorem sign_3 (q : Rat) : q.num.sign = -1 ∨ q.num.sign = 0 ∨ q.num.sign = 1 := by
  rcases Int.lt_trichotomy q.num 0 with h | h | h
  · exact .inl (Int.sign_eq_neg_one_of_neg h)
  · exact .inr (.inl (by rw [h]; rfl))
  · exact .inr (.inr (Int.sign_eq_one_of_pos h))
set_option maxHeartbeats 2000000 in
theorem step1_t {S : Nat → Prop} (w : World) (s : Bool) (vn vd : Value) (q : Rat) (N D L : Nat) (h : RI S w s vn vd q N D L) (hL1 : 1 ≤ L) (hl : L ≤ 104857600) :
    Calls Tryz.prog 60 #[.agg #[.bool s, vn, vd]] w (Ans ((max q.num.sign 0 : Int) : Rat) w) := by
  obtain ⟨⟨A1, n1, c1, rfl⟩, ⟨A2, n2, c2, rfl⟩⟩ := h.form
  have F := ((Fr.refl (fun k => k < w.heap.size) w).alloc (.cells #[.bool s, .slice A1 n1 c1, .slice A2 n2 c2] 51)).alloc (.cells #[.bool false, .slice none 0 0, .slice none 0 0] 51)
  have hb := box_nz (w.alloc (.cells #[.bool s, .slice A1 n1 c1, .slice A2 n2 c2] 51))
  have x1 := (Box3.new w 51 (.bool s) (.slice A1 n1 c1) (.slice A2 n2 c2)).alloc (.cells #[.bool false, .slice none 0 0, .slice none 0 0] 51)
  simp only [World.size_alloc] at hb
  have h3 := sign_3 q
  obtain ⟨c, hc⟩ : ∃ c, q.num.sign = c := ⟨_, rfl⟩
  rw [hc] at h3 ⊢
  have HC := Lib.hid hc
  have H := Lib.hid (RI.low h)
  clear h hc
  have d0 := x1.c0
  have d1 := x1.c1
  have d2 := x1.c2
  go_enter Tryz.func60, Tryz.ntmps60
  go_wp2_with fail
  generalize (w.alloc (.cells #[.bool s, .slice A1 n1 c1, .slice A2 n2 c2] 51)).alloc (.cells #[.bool false, .slice none 0 0, .slice none 0 0] 51) = W at F hb x1 d0 d1 d2 ⊢
  with_reducible refine (rsign_z _ s (.slice A1 n1 c1) (.slice A2 n2 c2) q N D L c HC (H.out.fr F) hL1 (by omega)).mono ?_
  rintro e w1 ⟨rfl, hf⟩
  replace hb := hb.keep hf
  replace F := fr_then F hf
  clear hf d0 d1 d2 x1 HC
  have lb := hb.lt
  rcases h3 with rfl | rfl | rfl
  all_goals
    go_wp2_with fail
    with_reducible refine (int_h _ _ (by decide) (by decide)).mono ?_
    rintro e w2 ⟨s2, v1, v2, rfl, hs, hv, hf⟩
    obtain ⟨⟨B1, m1, k1, rfl⟩, ⟨B2, m2, k2, rfl⟩⟩ := hv.out.form
    replace hb := hb.keep hf
    replace F := fr_then F hf
    clear hf
    go_wp2_with ((with_reducible apply wpList_st3); rfl; rfl; exact hb; exact rat3; rfl; rfl; rfl; intro w9 B9 F9)
    refine bodyPost_ret (results_cell3 rfl rfl B9 Tryz.underlying51 rat3) rfl ?_
    rw [hs.out]
    exact ⟨_, _, rfl, hv.out.ol.past F9 (fun k _ hk => by omega) (fun k hk => by omega), F.comp F9 fun k _ hk => ⟨hk, by omega⟩⟩

set_option maxHeartbeats 2000000 in
theorem scale1_t {S T : Nat → Prop} (w : World) (s t : Bool) (vn vd un ud : Value) (q p : Rat) (N D M E L b : Nat) (h : RI S w s vn vd q N D L) (hp : RI T w t un ud p M E L) (hx : Box3 w b 51 (.bool t) un ud) (hL1 : 1 ≤ L) (hl : L ≤ 104857600) :
    Calls Tryz.prog 74 #[.agg #[.bool s, vn, vd], .pointer (some ⟨b, 0, none⟩)] w (Ans (q * p) w) := by
  obtain ⟨⟨A1, n1, c1, rfl⟩, ⟨A2, n2, c2, rfl⟩⟩ := h.form
  obtain ⟨⟨A3, n3, c3, rfl⟩, ⟨A4, n4, c4, rfl⟩⟩ := hp.form
  have F := ((Fr.refl (fun k => k < w.heap.size) w).alloc (.cells #[.bool s, .slice A1 n1 c1, .slice A2 n2 c2] 51)).alloc (.cells #[.bool false, .slice none 0 0, .slice none 0 0] 51)
  have hb := box_nz (w.alloc (.cells #[.bool s, .slice A1 n1 c1, .slice A2 n2 c2] 51))
  have x1 := (Box3.new w 51 (.bool s) (.slice A1 n1 c1) (.slice A2 n2 c2)).alloc (.cells #[.bool false, .slice none 0 0, .slice none 0 0] 51)
  have x2 := hx.keep F
  simp only [World.size_alloc] at hb
  have H := Lib.hid (RI.low h)
  have HP := Lib.hid (RI.low hp)
  clear h hp hx
  have d0 := x1.c0
  have d1 := x1.c1
  have d2 := x1.c2
  have e0 := x2.c0
  have e1 := x2.c1
  have e2 := x2.c2
  go_enter Tryz.func74, Tryz.ntmps74
  go_wp2_with fail
  generalize (w.alloc (.cells #[.bool s, .slice A1 n1 c1, .slice A2 n2 c2] 51)).alloc (.cells #[.bool false, .slice none 0 0, .slice none 0 0] 51) = W at F hb x1 x2 d0 d1 d2 e0 e1 e2 ⊢
  with_reducible refine (rmul_n _ s t (.slice A1 n1 c1) (.slice A2 n2 c2) (.slice A3 n3 c3) (.slice A4 n4 c4) q p N D M E L (H.out.fr F) (HP.out.fr F) hL1 hl).mono ?_
  rintro e w2 ⟨v1, v2, rfl, hv, hf⟩
  obtain ⟨⟨B1, m1, k1, rfl⟩, ⟨B2, m2, k2, rfl⟩⟩ := hv.form
  have lb := hb.lt
  replace hb := hb.keep hf
  replace F := fr_then F hf
  clear hf d0 d1 d2 e0 e1 e2 x1 x2
  go_wp2_with ((with_reducible apply wpList_st3); rfl; rfl; exact hb; exact rat3; rfl; rfl; rfl; intro w9 B9 F9)
  refine bodyPost_ret (results_cell3 rfl rfl B9 Tryz.underlying51 rat3) rfl ?_
  exact ⟨_, _, rfl, hv.ol.past F9 (fun k _ hk => by omega) (fun k hk => by omega), F.comp F9 fun k _ hk => ⟨hk, by omega⟩⟩
end Go.Proofs.YtlknmoegngjpcaaGreat


/- point.Neg, Relu, Step, Scale. -/
namespace Go.Proofs.YtlknmoegngjpcaaGreat
open Go.RowKit

theorem ri_x {X : Nat → Prop} {u : World} {x : RatL} {vn vd : Value} {L : Nat} (h1 : Sl Lm X u vn x.2.1) (h2 : Sl Lm X u vd x.2.2) (hl : x.2.1.length ≤ L ∧ x.2.2.length ≤ L) : RI X u x.1 vn vd (qOf x) (val x.2.1) (val x.2.2) L := ⟨⟨x.2.1, h1, rfl, hl.1⟩, ⟨x.2.2, h2, rfl, hl.2⟩, rfl⟩

set_option maxHeartbeats 2000000 in
theorem pneg_t {S T : Nat → Prop} (w : World) (vs ve : Value) (sh : List Int) (es : List RatL) (L : Nat) (r : Int) (hr : Hid (mayT sh es = r)) (hs : Sl Im S w vs sh) (he : Sl Rm T w ve es) (hL : Hid (∀ x ∈ es, x.2.1.length ≤ L ∧ x.2.2.length ≤ L)) (hL1 : 1 ≤ L) (hl : L ≤ 104857600) (hsl : sh.length ≤ 1099511627000) (hel : es.length ≤ 1099511627000) :
    Calls Tryz.prog 19 #[.agg #[vs, ve]] w (EachR w sh (es.map fun x => canR (-(qOf x))) r) := by
  obtain ⟨A, c, rfl, _, _, hlx⟩ := hs.slice
  obtain ⟨A', c', rfl, _, _, hly⟩ := he.slice
  have F := ((Fr.refl (fun k => k < w.heap.size) w).alloc (.cells #[.slice A sh.length c, .slice A' es.length c'] 26)).alloc (.cells #[.slice none 0 0, .slice none 0 0] 26)
  have x0 := (Box2.new w 26 (.slice A sh.length c) (.slice A' es.length c')).alloc (.cells #[.slice none 0 0, .slice none 0 0] 26)
  have b2 := Box2.new (w.alloc (.cells #[.slice A sh.length c, .slice A' es.length c'] 26)) 26 (.slice none 0 0) (.slice none 0 0)
  simp only [World.size_alloc] at b2
  have HS := Lib.hid (hs.low Im_pos)
  have HE := Lib.hid (he.low Rm_pos)
  clear hs he
  have a0 := x0.c0
  have a1 := x0.c1
  go_enter Tryz.func19, Tryz.ntmps19
  go_wp2_with fail
  generalize (w.alloc (.cells #[.slice A sh.length c, .slice A' es.length c'] 26)).alloc (.cells #[.slice none 0 0, .slice none 0 0] 26) = W0 at F x0 b2 a0 a1 ⊢
  have p := Lib.hid (each_t 55 #[] (fun x => canR (-(qOf x))) (fun args u => by go_simp) W0 (.slice A sh.length c) (.slice A' es.length c') sh es L r hr (HS.out.fr F) (HE.out.fr F) hL hL1 hl (Lib.hid fun _ u x vn vd X hm _ h1 h2 => by
    rw [Array.append_empty]
    exact (neg_n u x.1 vn vd (qOf x) _ _ L (ri_x h1 h2 (hL.out x hm)) hL1 (by omega)).mono fun e u' ⟨v1, v2, he, hv, hf⟩ => ⟨v1, v2, he, hv.ol, hf⟩) hsl hel)
  with_reducible refine p.out.mono ?_
  rintro e w3 ⟨A1, n1, c1, A2, n2, c2, rfl, hno, hyes, hf⟩
  have l2 := b2.lt
  replace b2 := b2.keep hf
  replace F := fr_then F hf
  clear hf p x0 a0 a1
  go_wp2_with ((with_reducible apply wpList_st2); rfl; rfl; exact b2; exact ten2; rfl; rfl; intro w9 B9 F9)
  refine bodyPost_ret (results_cell2_tmp rfl rfl B9 Tryz.underlying26 ten2) rfl ?_
  exact ⟨_, _, _, _, _, _, rfl, hno, fun h => ⟨((hyes h).1.past F9 fun k hk => by omega).mono fun k hk => by omega, ((hyes h).2.past F9 fun k hk => by omega).mono fun k hk => by omega⟩, F.comp F9 fun k _ hk => ⟨hk, by omega⟩⟩

set_option maxHeartbeats 2000000 in
theorem prelu_t {S T : Nat → Prop} (w : World) (vs ve : Value) (sh : List Int) (es : List RatL) (L : Nat) (r : Int) (hr : Hid (mayT sh es = r)) (hs : Sl Im S w vs sh) (he : Sl Rm T w ve es) (hL : Hid (∀ x ∈ es, x.2.1.length ≤ L ∧ x.2.2.length ≤ L)) (hL1 : 1 ≤ L) (hl : L ≤ 104857600) (hsl : sh.length ≤ 1099511627000) (hel : es.length ≤ 1099511627000) :
    Calls Tryz.prog 20 #[.agg #[vs, ve]] w (EachR w sh (es.map fun x => canR (if (qOf x).num.sign < 0 then 0 else qOf x)) r) := by
  obtain ⟨A, c, rfl, _, _, hlx⟩ := hs.slice
  obtain ⟨A', c', rfl, _, _, hly⟩ := he.slice
  have F := ((Fr.refl (fun k => k < w.heap.size) w).alloc (.cells #[.slice A sh.length c, .slice A' es.length c'] 26)).alloc (.cells #[.slice none 0 0, .slice none 0 0] 26)
  have x0 := (Box2.new w 26 (.slice A sh.length c) (.slice A' es.length c')).alloc (.cells #[.slice none 0 0, .slice none 0 0] 26)
  have b2 := Box2.new (w.alloc (.cells #[.slice A sh.length c, .slice A' es.length c'] 26)) 26 (.slice none 0 0) (.slice none 0 0)
  simp only [World.size_alloc] at b2
  have HS := Lib.hid (hs.low Im_pos)
  have HE := Lib.hid (he.low Rm_pos)
  clear hs he
  have a0 := x0.c0
  have a1 := x0.c1
  go_enter Tryz.func20, Tryz.ntmps20
  go_wp2_with fail
  generalize (w.alloc (.cells #[.slice A sh.length c, .slice A' es.length c'] 26)).alloc (.cells #[.slice none 0 0, .slice none 0 0] 26) = W0 at F x0 b2 a0 a1 ⊢
  have p := Lib.hid (each_t 56 #[] (fun x => canR (if (qOf x).num.sign < 0 then 0 else qOf x)) (fun args u => by go_simp) W0 (.slice A sh.length c) (.slice A' es.length c') sh es L r hr (HS.out.fr F) (HE.out.fr F) hL hL1 hl (Lib.hid fun _ u x vn vd X hm _ h1 h2 => by
    rw [Array.append_empty]
    exact relu1_t u x.1 vn vd (qOf x) _ _ L (ri_x h1 h2 (hL.out x hm)) hL1 hl) hsl hel)
  with_reducible refine p.out.mono ?_
  rintro e w3 ⟨A1, n1, c1, A2, n2, c2, rfl, hno, hyes, hf⟩
  have l2 := b2.lt
  replace b2 := b2.keep hf
  replace F := fr_then F hf
  clear hf p x0 a0 a1
  go_wp2_with ((with_reducible apply wpList_st2); rfl; rfl; exact b2; exact ten2; rfl; rfl; intro w9 B9 F9)
  refine bodyPost_ret (results_cell2_tmp rfl rfl B9 Tryz.underlying26 ten2) rfl ?_
  exact ⟨_, _, _, _, _, _, rfl, hno, fun h => ⟨((hyes h).1.past F9 fun k hk => by omega).mono fun k hk => by omega, ((hyes h).2.past F9 fun k hk => by omega).mono fun k hk => by omega⟩, F.comp F9 fun k _ hk => ⟨hk, by omega⟩⟩

set_option maxHeartbeats 2000000 in
theorem pstep_t {S T : Nat → Prop} (w : World) (vs ve : Value) (sh : List Int) (es : List RatL) (L : Nat) (r : Int) (hr : Hid (mayT sh es = r)) (hs : Sl Im S w vs sh) (he : Sl Rm T w ve es) (hL : Hid (∀ x ∈ es, x.2.1.length ≤ L ∧ x.2.2.length ≤ L)) (hL1 : 1 ≤ L) (hl : L ≤ 104857600) (hsl : sh.length ≤ 1099511627000) (hel : es.length ≤ 1099511627000) :
    Calls Tryz.prog 21 #[.agg #[vs, ve]] w (EachR w sh (es.map fun x => canR ((max (qOf x).num.sign 0 : Int) : Rat)) r) := by
  obtain ⟨A, c, rfl, _, _, hlx⟩ := hs.slice
  obtain ⟨A', c', rfl, _, _, hly⟩ := he.slice
  have F := ((Fr.refl (fun k => k < w.heap.size) w).alloc (.cells #[.slice A sh.length c, .slice A' es.length c'] 26)).alloc (.cells #[.slice none 0 0, .slice none 0 0] 26)
  have x0 := (Box2.new w 26 (.slice A sh.length c) (.slice A' es.length c')).alloc (.cells #[.slice none 0 0, .slice none 0 0] 26)
  have b2 := Box2.new (w.alloc (.cells #[.slice A sh.length c, .slice A' es.length c'] 26)) 26 (.slice none 0 0) (.slice none 0 0)
  simp only [World.size_alloc] at b2
  have HS := Lib.hid (hs.low Im_pos)
  have HE := Lib.hid (he.low Rm_pos)
  clear hs he
  have a0 := x0.c0
  have a1 := x0.c1
  go_enter Tryz.func21, Tryz.ntmps21
  go_wp2_with fail
  generalize (w.alloc (.cells #[.slice A sh.length c, .slice A' es.length c'] 26)).alloc (.cells #[.slice none 0 0, .slice none 0 0] 26) = W0 at F x0 b2 a0 a1 ⊢
  have p := Lib.hid (each_t 60 #[] (fun x => canR ((max (qOf x).num.sign 0 : Int) : Rat)) (fun args u => by go_simp) W0 (.slice A sh.length c) (.slice A' es.length c') sh es L r hr (HS.out.fr F) (HE.out.fr F) hL hL1 hl (Lib.hid fun _ u x vn vd X hm _ h1 h2 => by
    rw [Array.append_empty]
    exact step1_t u x.1 vn vd (qOf x) _ _ L (ri_x h1 h2 (hL.out x hm)) hL1 hl) hsl hel)
  with_reducible refine p.out.mono ?_
  rintro e w3 ⟨A1, n1, c1, A2, n2, c2, rfl, hno, hyes, hf⟩
  have l2 := b2.lt
  replace b2 := b2.keep hf
  replace F := fr_then F hf
  clear hf p x0 a0 a1
  go_wp2_with ((with_reducible apply wpList_st2); rfl; rfl; exact b2; exact ten2; rfl; rfl; intro w9 B9 F9)
  refine bodyPost_ret (results_cell2_tmp rfl rfl B9 Tryz.underlying26 ten2) rfl ?_
  exact ⟨_, _, _, _, _, _, rfl, hno, fun h => ⟨((hyes h).1.past F9 fun k hk => by omega).mono fun k hk => by omega, ((hyes h).2.past F9 fun k hk => by omega).mono fun k hk => by omega⟩, F.comp F9 fun k _ hk => ⟨hk, by omega⟩⟩

set_option maxHeartbeats 2000000 in
theorem pscale_t {S T U V : Nat → Prop} (w : World) (vs ve un ud : Value) (sh : List Int) (es : List RatL) (y : RatL) (L : Nat) (r : Int) (hr : Hid (mayT sh es = r)) (hs : Sl Im S w vs sh) (he : Sl Rm T w ve es) (hu : Sl Lm U w un y.2.1) (hv : Sl Lm V w ud y.2.2) (hL : Hid (∀ x ∈ es, x.2.1.length ≤ L ∧ x.2.2.length ≤ L)) (hy : Hid (y.2.1.length ≤ L ∧ y.2.2.length ≤ L)) (hL1 : 1 ≤ L) (hl : L ≤ 104857600) (hsl : sh.length ≤ 1099511627000) (hel : es.length ≤ 1099511627000) :
    Calls Tryz.prog 34 #[.agg #[vs, ve], .agg #[.bool y.1, un, ud]] w (EachR w sh (es.map fun x => canR (qOf x * qOf y)) r) := by
  obtain ⟨A, c, rfl, _, _, hlx⟩ := hs.slice
  obtain ⟨A', c', rfl, _, _, hly⟩ := he.slice
  obtain ⟨P, n1, c1, rfl⟩ := hu.form
  obtain ⟨Q, n2, c2, rfl⟩ := hv.form
  obtain ⟨sy, ya, yb⟩ := y
  have F := (((Fr.refl (fun k => k < w.heap.size) w).alloc (.cells #[.slice A sh.length c, .slice A' es.length c'] 26)).alloc (.cells #[.bool sy, .slice P n1 c1, .slice Q n2 c2] 51)).alloc (.cells #[.slice none 0 0, .slice none 0 0] 26)
  have x0 := ((Box2.new w 26 (.slice A sh.length c) (.slice A' es.length c')).alloc (.cells #[.bool sy, .slice P n1 c1, .slice Q n2 c2] 51)).alloc (.cells #[.slice none 0 0, .slice none 0 0] 26)
  have x1 := (Box3.new (w.alloc (.cells #[.slice A sh.length c, .slice A' es.length c'] 26)) 51 (.bool sy) (.slice P n1 c1) (.slice Q n2 c2)).alloc (.cells #[.slice none 0 0, .slice none 0 0] 26)
  have b2 := Box2.new ((w.alloc (.cells #[.slice A sh.length c, .slice A' es.length c'] 26)).alloc (.cells #[.bool sy, .slice P n1 c1, .slice Q n2 c2] 51)) 26 (.slice none 0 0) (.slice none 0 0)
  simp only [World.size_alloc] at b2 x1
  have HS := Lib.hid (hs.low Im_pos)
  have HE := Lib.hid (he.low Rm_pos)
  have HU := Lib.hid (hu.low Lm_pos)
  have HV := Lib.hid (hv.low Lm_pos)
  clear hs he hu hv
  have a0 := x0.c0
  have a1 := x0.c1
  go_enter Tryz.func34, Tryz.ntmps34
  go_wp2_with fail
  generalize ((w.alloc (.cells #[.slice A sh.length c, .slice A' es.length c'] 26)).alloc (.cells #[.bool sy, .slice P n1 c1, .slice Q n2 c2] 51)).alloc (.cells #[.slice none 0 0, .slice none 0 0] 26) = W0 at F x0 x1 b2 a0 a1 ⊢
  have p := Lib.hid (each_t 74 #[.pointer (some ⟨w.heap.size + 1, 0, none⟩)] (fun x => canR (qOf x * qOf (sy, ya, yb))) (fun args u => by go_simp) W0 (.slice A sh.length c) (.slice A' es.length c') sh es L r hr (HS.out.fr F) (HE.out.fr F) hL hL1 hl (Lib.hid fun _ u x vn vd X hm hf h1 h2 =>
    scale1_t u x.1 sy vn vd (.slice P n1 c1) (.slice Q n2 c2) (qOf x) (qOf (sy, ya, yb)) _ _ _ _ L (w.heap.size + 1) (ri_x h1 h2 (hL.out x hm)) (ri_x (x := (sy, ya, yb)) (HU.out.fr (fr_then F hf)) (HV.out.fr (fr_then F hf)) hy.out) (x1.keep hf) hL1 hl) hsl hel)
  with_reducible refine p.out.mono ?_
  rintro e w3 ⟨A1, n1', c1', A2, n2', c2', rfl, hno, hyes, hf⟩
  have l2 := b2.lt
  replace b2 := b2.keep hf
  replace F := fr_then F hf
  clear hf p x0 a0 a1
  go_wp2_with ((with_reducible apply wpList_st2); rfl; rfl; exact b2; exact ten2; rfl; rfl; intro w9 B9 F9)
  refine bodyPost_ret (results_cell2_tmp rfl rfl B9 Tryz.underlying26 ten2) rfl ?_
  exact ⟨_, _, _, _, _, _, rfl, hno, fun h => ⟨((hyes h).1.past F9 fun k hk => by omega).mono fun k hk => by omega, ((hyes h).2.past F9 fun k hk => by omega).mono fun k hk => by omega⟩, F.comp F9 fun k _ hk => ⟨hk, by omega⟩⟩
end Go.Proofs.YtlknmoegngjpcaaGreat


/- The document's functions over the elements: printed by gen_ptd.py. -/
namespace Go.Proofs.YtlknmoegngjpcaaGreat
open Go.RowKit

set_option maxHeartbeats 1000000 in
theorem rneg_s {S : Nat → Prop} (w : World) (s : Bool) (vn vd : Value) (q : Rat) (L : Nat) (h : RR S w vn vd q L) (hs : s = sg q) :
    Calls Tryz.prog 61 #[.agg #[.bool s, vn, vd]] w fun e w' => ∃ v1 v2, e = .returned (.agg #[.bool (sg (-q)), v1, v2]) ∧ RR S w' v1 v2 (-q) L ∧ Fr (fun k => k < w.heap.size) w w' := by
  subst hs
  obtain ⟨⟨A1, n1, c1, rfl⟩, ⟨A2, n2, c2, rfl⟩⟩ := h.form
  have F := ((Fr.refl (fun k => k < w.heap.size) w).alloc (.cells #[.bool (sg q), .slice A1 n1 c1, .slice A2 n2 c2] 56)).alloc (.cells #[.bool false, .slice none 0 0, .slice none 0 0] 56)
  have hb := box_nr (w.alloc (.cells #[.bool (sg q), .slice A1 n1 c1, .slice A2 n2 c2] 56))
  have hx := (Box3.new w 56 (.bool (sg q)) (.slice A1 n1 c1) (.slice A2 n2 c2)).alloc (.cells #[.bool false, .slice none 0 0, .slice none 0 0] 56)
  have h0 := (show RR (fun k => S k ∧ k < w.heap.size) w (.slice A1 n1 c1) (.slice A2 n2 c2) q L from ⟨⟨h.num.sl.bd Dg_pos, h.num.len⟩, ⟨h.den.sl.bd Dg_pos, h.den.len⟩⟩).fr (F.mono fun _ _ hk => hk.2)
  have h1 := h.keep F
  have hsg := sg_neg (q := q)
  simp only [World.size_alloc] at hb
  go_enter Tryz.func61, Tryz.ntmps61
  by_cases hz : q.num.natAbs = 0
  · have HS := Lib.hid (show sg (-q) = sg q by rw [hsg, show sg q = false by unfold sg; rw [show q.num = 0 by omega]; rfl, decide_eq_false (show ¬ q.num ≠ 0 by omega)]; rfl)
    have p1 := rzero_r _ (sg q) _ _ q L h1
    rw [decide_eq_true hz] at p1
    clear hsg hz h1 h
    go_wp2_with fail
    refine p1.mono ?_
    rintro e w1 ⟨rfl, hf⟩
    clear p1
    replace hb := hb.keep hf
    have hx1 := hx.keep hf
    have b0 := hx1.c0; have b1 := hx1.c1; have b2 := hx1.c2
    replace h0 := h0.keep hf
    replace F := fr_then F hf
    clear hf
    go_wp2_with ((with_reducible apply wpList_st3); rfl; rfl; exact hb; exact ref3; rfl; rfl; rfl; intro w9 B9 F9)
    refine bodyPost_ret (results_cell3 rfl rfl B9 Tryz.underlying56 ref3) rfl ?_
    have h9 := (h0.fr (F9.mono fun k _ hk => by omega)).mono (T := S) fun _ hk => hk.1
    exact ⟨_, _, by rw [HS.out], ⟨by rw [neg_natAbs]; exact h9.num, h9.den⟩, F.comp F9 fun k hk h => ⟨h, by omega⟩⟩
  · have HS := Lib.hid (show sg (-q) = !sg q by rw [hsg, decide_eq_true (show q.num ≠ 0 by omega)]; rfl)
    have p1 := rzero_r _ (sg q) _ _ q L h1
    rw [decide_eq_false hz] at p1
    clear hsg hz h1 h
    go_wp2_with fail
    refine p1.mono ?_
    rintro e w1 ⟨rfl, hf⟩
    clear p1
    replace hb := hb.keep hf
    have hx1 := hx.keep hf
    have b0 := hx1.c0; have b1 := hx1.c1; have b2 := hx1.c2
    replace h0 := h0.keep hf
    replace F := fr_then F hf
    clear hf
    go_wp2_with ((with_reducible apply wpList_st3); rfl; rfl; exact hb; exact ref3; rfl; rfl; rfl; intro w9 B9 F9)
    refine bodyPost_ret (results_cell3 rfl rfl B9 Tryz.underlying56 ref3) rfl ?_
    have h9 := (h0.fr (F9.mono fun k _ hk => by omega)).mono (T := S) fun _ hk => hk.1
    exact ⟨_, _, by rw [HS.out], ⟨by rw [neg_natAbs]; exact h9.num, h9.den⟩, F.comp F9 fun k hk h => ⟨h, by omega⟩⟩


set_option maxHeartbeats 2000000 in
theorem shaped_t {S : Nat → Prop} (w : World) (vs ve : Value) (sh : List Int) (hs : Sl Im S w vs sh) (hve : ∃ A n c, ve = .slice A n c) (hsl : sh.length ≤ 1099511627000) :
    Calls Tryz.prog 53 #[.agg #[vs, ve]] w fun e w' => ∃ A i j, e = .returned (.agg #[.slice A i j, .slice none 0 0]) ∧ Own Im 3 (fun k => w.heap.size ≤ k) w' (.slice A i j) sh ∧ Fr (fun k => k < w.heap.size) w w' := by
  obtain ⟨A, c, rfl, _, _, hlx⟩ := hs.slice
  obtain ⟨A', n', c', rfl⟩ := hve
  have F := ((Fr.refl (fun k => k < w.heap.size) w).alloc (.cells #[.slice A sh.length c, .slice A' n' c'] 32)).alloc (.cells #[.slice none 0 0, .slice none 0 0] 32)
  have x0 := (Box2.new w 32 (.slice A sh.length c) (.slice A' n' c')).alloc (.cells #[.slice none 0 0, .slice none 0 0] 32)
  have b2 := Box2.new (w.alloc (.cells #[.slice A sh.length c, .slice A' n' c'] 32)) 32 (.slice none 0 0) (.slice none 0 0)
  simp only [World.size_alloc] at b2
  have HS := Lib.hid (hs.low Im_pos)
  have HN := Lib.hid (show (([] : List Int).length + sh.length) * 8 ≤ 140737488355328 ∧ ([] : List Int).length + sh.length ≤ 9223372036854775807 by simp; omega)
  have hsz : ((w.alloc (.cells #[.slice A sh.length c, .slice A' n' c'] 32)).alloc (.cells #[.slice none 0 0, .slice none 0 0] 32)).heap.size = w.heap.size + 2 := by simp
  clear hs
  have a0 := x0.c0
  go_enter Tryz.func53, Tryz.ntmps53
  go_wp2_with (at_builtin; refine wpList_push (v := .slice none 0 0) imT2 rfl rfl rfl rfl (Own.nil Im 3 (fun k => w.heap.size + 2 ≤ k) _) (HS.out.fr F) (fun y cs h => Kd.int_any (S := fun k => k < w.heap.size) h) (fun k hk => by omega) HN.out.1 HN.out.2 ?_; intro v1 w1 ho1 hf1 hat1; obtain ⟨A1, m1, k1, rfl⟩ := ho1.form; have b3 := b2.fr (hf1.mono (T := fun _ => True) fun k _ _ => by simp [Value.ownBlock]) trivial; have c30 := b3.c0; have c31 := b3.c1; have f30 := b3.free 0; have f31 := b3.free 1)
  rw [List.nil_append] at ho1
  have F3 := F.comp (hf1.mono (T := fun _ => True) fun k _ _ => by simp [Value.ownBlock]) (R := fun k => k < w.heap.size) fun k _ hk => ⟨hk, trivial⟩
  have B9 := b3.set2 (.slice A1 m1 k1) (.slice none 0 0)
  have F9 := fr_put2 w1 (w.heap.size + 1) (.slice A1 m1 k1) (.slice none 0 0)
  refine bodyPost_ret (results_cell2 rfl rfl B9 Tryz.underlying32 tt2) rfl ?_
  exact ⟨_, _, _, rfl, (ho1.past F9 fun k hk => by omega).mono fun k hk => by omega, F3.comp F9 fun k _ hk => ⟨hk, by omega⟩⟩

theorem rsign_8 {S : Nat → Prop} (w : World) (s : Bool) (vn vd : Value) (q : Rat) (L : Nat) (c : Int) (hc : Hid (q.num.sign = c)) (h : RR S w vn vd q L) (hs : s = sg q) :
    Calls Tryz.prog 62 #[.agg #[.bool s, vn, vd]] w fun e w' => e = .returned (.int .i64 c) ∧ Fr (fun k => k < w.heap.size) w w' := by
  have := rsign_r w s vn vd q L h hs
  rwa [hc.out] at this
/-- A tensor of the document, answered. -/
def RefR (w : World) (sh : List Int) (qs : List Rat) (K : Nat) (e : Ending) (w' : World) : Prop := ∃ A i j B k l, e = .returned (.agg #[.slice A i j, .slice B k l]) ∧ Sl Im (fun _ => True) w' (.slice A i j) sh ∧ Sl (Rk K) (fun _ => True) w' (.slice B k l) qs ∧ Fr (fun k => k < w.heap.size) w w'

set_option maxRecDepth 20000 in
set_option maxHeartbeats 8000000 in
theorem r8neg_t {S T : Nat → Prop} (w : World) (vs ve : Value) (sh : List Int) (qs : List Rat) (K : Nat) (hs : Sl Im S w vs sh) (hq : Sl (Rk K) T w ve qs) (hsl : sh.length ≤ 1099511627000) (hql : qs.length ≤ 1099511627000) :
    Calls Tryz.prog 22 #[.agg #[vs, ve]] w (RefR w sh (qs.map (fun q => -q)) K) := by
  obtain ⟨A, c, rfl, _, _, hlx⟩ := hs.slice
  obtain ⟨A', c', rfl, _, _, hly⟩ := hq.slice
  have F := (((Fr.refl (fun k => k < w.heap.size) w).alloc (.cells #[.slice A sh.length c, .slice A' qs.length c'] 32)).alloc (.cells #[.slice none 0 0, .slice none 0 0] 32))
  have x0 := ((Box2.new w 32 (.slice A sh.length c) (.slice A' qs.length c')).alloc (.cells #[.slice none 0 0, .slice none 0 0] 32))
  have b2 := (Box2.new (w.alloc (.cells #[.slice A sh.length c, .slice A' qs.length c'] 32)) 32 (.slice none 0 0) (.slice none 0 0))
  simp only [World.size_alloc] at b2
  have HS := Lib.hid (hs.low Im_pos)
  have HQ := Lib.hid (hq.low (Rk_pos K))
  clear hs hq
  have a0 := x0.c0
  have a1 := x0.c1
  go_enter Tryz.func22, Tryz.ntmps22
  go_wp2_with fail
  generalize (w.alloc (.cells #[.slice A sh.length c, .slice A' qs.length c'] 32)).alloc (.cells #[.slice none 0 0, .slice none 0 0] 32) = W0 at F x0 b2 a0 a1 ⊢
  have sW := F.size
  have lt2 := b2.lt
  with_reducible refine (shaped_t _ (.slice A sh.length c) (.slice A' qs.length c') sh (HS.out.fr F) ⟨_, _, _, rfl⟩ hsl).mono ?_
  rintro e w1 ⟨A1, n1, c1, rfl, ho1, hf⟩
  have s1 := hf.size
  have al := fun R => (Fr.refl R w1).alloc (.cells #[.slice A1 n1 c1, .slice none 0 0] 32)
  have b5 := Box2.new w1 32 (.slice A1 n1 c1) (.slice none 0 0)
  replace x0 := (x0.keep hf).keep (al _)
  replace b2 := (b2.keep hf).keep (al _)
  have o1 := (ho1.bd.keep' (al _)).mono (T := fun k => w.heap.size + 2 ≤ k ∧ k < w1.heap.size) fun k hk => ⟨by have := hk.1; omega, hk.2⟩
  replace F := fr_then (fr_then F hf) (al _)
  clear hf al ho1 a0 a1
  go_wp2_with fail
  go_loopw [4] (fun k W => ∃ (j : Nat) (v2 : Value), k = .int .i64 j ∧ j ≤ qs.length ∧ Box2 W w.heap.size 32 (.slice A sh.length c) (.slice A' qs.length c') ∧ Box2 W (w.heap.size + 1) 32 (.slice none 0 0) (.slice none 0 0) ∧ Box2 W w1.heap.size 32 (.slice A1 n1 c1) v2 ∧ Own Im 3 (fun k => w.heap.size + 2 ≤ k ∧ k < w1.heap.size) W (.slice A1 n1 c1) sh ∧ Own (Rk (K)) 56 (fun k => k < w.heap.size ∨ w1.heap.size < k) W v2 ((qs.take j).map (fun q => -q)) ∧ (∀ b, v2.ownBlock = some b → w1.heap.size < b) ∧ Fr (fun k => k < w.heap.size) w W ∧ w1.heap.size < W.heap.size) (fun k _ => qs.length - (intOf k).toNat)
  case atStart => exact ⟨0, _, rfl, by omega, x0, b2, b5, o1, Own.nil _ _ _ _, fun b h => by simp [Value.ownBlock] at h, F, by simp⟩
  case round =>
    clear x0 b2 b5 o1 F
    obtain ⟨j, v2, rfl, hj, x0, b2, b5, o1, o2, hob, F, hwr⟩ := hrel
    obtain ⟨A2, n2, c2, rfl⟩ := o2.form
    have a1 := x0.c1
    by_cases hlt : j < qs.length
    · have htk := map_take_step ((fun q => -q)) (List.take_append_getElem hlt).symm
      have HTK := Lib.hid htk
      obtain ⟨ad, P, n, d, Q, m, o, rfl, hS, g0, g1, g2, rr⟩ := Rk_get (HQ.out.fr F) hlt
      generalize qs[j] = y at g0 rr HTK
      clear htk
      have HLn := Lib.hid (show (((qs.take j).map (fun q => -q)).length + 1) * 56 ≤ 140737488355328 ∧ ((qs.take j).map (fun q => -q)).length + 1 ≤ 9223372036854775807 by rw [List.length_map, List.length_take]; omega)
      have lt2 := o2.lt
      have l1 := x0.lt
      have l2 := b2.lt
      have l3 := b5.lt
      have RRd := Lib.hid (rr.keep (Fr.refl (fun k => k < wr.heap.size) wr).drew)
      have D := fun R => (Fr.refl R wr).drew
      have dx0 := x0.keep (D _)
      have db2 := b2.keep (D _)
      have db5 := b5.keep (D _)
      have do2 := o2.keep' (D _)
      have KS : ∀ u, Fr (fun k => k < w.heap.size + 2 ∨ k = w1.heap.size) wr.drew u → u.cell? ⟨w1.heap.size, 1, none⟩ = some (.slice A2 n2 c2) ∧ u.cell? ⟨w.heap.size, 1, none⟩ = some (.slice (some ad) qs.length c') ∧ u.cell? (ad.add (j * 3)) = some (.bool (sg y)) ∧ u.cell? ⟨(ad.add (j * 3)).block, (ad.add (j * 3)).off + 1, none⟩ = some (.slice P n d) ∧ u.cell? ⟨(ad.add (j * 3)).block, (ad.add (j * 3)).off + 2, none⟩ = some (.slice Q m o) := fun u hu => ⟨(db5.fr hu (.inr rfl)).c1, (dx0.fr hu (.inl (by omega))).c1, hu.cell g0 (.inl (by rw [addr_block]; omega)), hu.cell g1 (.inl (by show (ad.add (j * 3)).block < _; rw [addr_block]; omega)), hu.cell g2 (.inl (by show (ad.add (j * 3)).block < _; rw [addr_block]; omega))⟩
      have S0 := KS _ (Fr.refl _ _)
      have hWd : wr.drew.heap.size = wr.heap.size := rfl
      go_wp2_with fail
      refine wpTill.begin (fun u => u.cell? ⟨w1.heap.size, 1, none⟩ = some (.slice A2 n2 c2) ∧ u.cell? ⟨w.heap.size, 1, none⟩ = some (.slice (some ad) qs.length c') ∧ u.cell? (ad.add (j * 3)) = some (.bool (sg y)) ∧ u.cell? ⟨(ad.add (j * 3)).block, (ad.add (j * 3)).off + 1, none⟩ = some (.slice P n d) ∧ u.cell? ⟨(ad.add (j * 3)).block, (ad.add (j * 3)).off + 2, none⟩ = some (.slice Q m o)) 10 (by kernel_rfl) ?_
      change wpTill _ _ _ _ _ _ 12 _ _ _
      refine wpTill.take 0 (.pointer (some ⟨w1.heap.size, 1, none⟩)) rfl (by kernel_rfl) (by kernel_rfl) (fun _ _ _ h => h) S0 (by rfl) (fun u hu => by go_simp) ?_
      try simp only [Act.put, List.setIfInBounds_toArray, List.set_cons_zero, List.set_cons_succ]
      refine wpTill.take 1 (.slice A2 n2 c2) rfl (by kernel_rfl) (by kernel_rfl) (fun _ _ _ h => h) S0 (by rfl) (fun u hu => by go_simp) ?_
      try simp only [Act.put, List.setIfInBounds_toArray, List.set_cons_zero, List.set_cons_succ]
      refine wpTill.take 2 (.pointer (some ⟨w.heap.size, 1, none⟩)) rfl (by kernel_rfl) (by kernel_rfl) (fun _ _ _ h => h) S0 (by rfl) (fun u hu => by go_simp) ?_
      try simp only [Act.put, List.setIfInBounds_toArray, List.set_cons_zero, List.set_cons_succ]
      refine wpTill.take 3 (.slice (some ad) qs.length c') rfl (by kernel_rfl) (by kernel_rfl) (fun _ _ _ h => h) S0 (by rfl) (fun u hu => by go_simp) ?_
      try simp only [Act.put, List.setIfInBounds_toArray, List.set_cons_zero, List.set_cons_succ]
      refine wpTill.take 4 (.int .i64 j) rfl (by kernel_rfl) (by kernel_rfl) (fun _ _ _ h => h) S0 (by rfl) (fun u hu => by go_simp) ?_
      try simp only [Act.put, List.setIfInBounds_toArray, List.set_cons_zero, List.set_cons_succ]
      refine wpTill.take 5 (.pointer (some (ad.add (j * 3)))) rfl (by kernel_rfl) (by kernel_rfl) (fun _ _ _ h => h) S0 (by rfl) (fun u hu => by go_simp) ?_
      try simp only [Act.put, List.setIfInBounds_toArray, List.set_cons_zero, List.set_cons_succ]
      refine wpTill.take 6 (.agg #[.bool (sg y), .slice P n d, .slice Q m o]) rfl (by kernel_rfl) (by kernel_rfl) (fun _ _ _ h => h) S0 (by rfl) (fun u hu => by go_simp) ?_
      try simp only [Act.put, List.setIfInBounds_toArray, List.set_cons_zero, List.set_cons_succ]
      refine wpTill.next 7 rfl (by kernel_rfl) (by rfl) (fun KK hK => ?_)
      go_simp
      with_reducible refine (rneg_s _ (sg y) (.slice P n d) (.slice Q m o) y K (RRd.out) rfl).mono ?_
      rintro e u1 ⟨v3, v4, rfl, hol, hf⟩
      obtain ⟨⟨P3, i4, j4, rfl⟩, ⟨P4, i5, j5, rfl⟩⟩ := hol.form
      have G1 : Fr (fun k => k < w.heap.size + 2 ∨ k = w1.heap.size) wr.drew u1 := hf.mono fun k hk _ => hk
      refine hK _ _ (fun _ => KS _ G1) ?_
      clear hK KK
      try simp only [Act.put, List.setIfInBounds_toArray, List.set_cons_zero, List.set_cons_succ]
      refine wpTill.next 8 rfl (by kernel_rfl) (by rfl) (fun KK hK => ?_)
      go_simp
      refine hK _ _ (fun _ => KS _ (G1.alloc _)) ?_
      clear hK KK
      try simp only [Act.put, List.setIfInBounds_toArray, List.set_cons_zero, List.set_cons_succ]
      have do3 := do2.keep' hf
      have su := hf.size
      clear S0
      refine wpTill.next 9 rfl (by kernel_rfl) (by rfl) (fun KK hK => ?_)
      refine oper_push1 (rkT (K)) (v := .slice A2 n2 c2) (y := -y) (T := fun k => k < w.heap.size) rfl rfl rfl do3 ⟨_, _, rfl, hol⟩ (fun k hk _ => ⟨by omega, fun e => by have h1 := lt2 k e.symm; have h2 := hob k e.symm; omega⟩) (fun k hk => by omega) HLn.out.1 HLn.out.2 ?_
      intro v5 u2 ho hfr hat
      obtain ⟨A3, n3, c3, rfl⟩ := ho.form
      have G2 : Fr (fun k => k < w.heap.size + 2 ∨ k = w1.heap.size) wr.drew u2 := G1.comp hfr fun k _ hk => ⟨hk, fun e => by have h1 := hob _ e.symm; omega⟩
      refine hK _ _ (fun _ => KS _ G2) ?_
      clear hK KK
      try simp only [Act.put, List.setIfInBounds_toArray, List.set_cons_zero, List.set_cons_succ]
      have q5 := db5.fr G2 (.inr rfl)
      have e0 := q5.c1
      have e1 := q5.free 1
      have su2 := hfr.size
      have hob' : ∀ b, (Value.slice A3 n3 c3).ownBlock = some b → w1.heap.size < b := fun b hb => by
        rcases hat with e | ⟨b', e, hb'⟩
        · exact hob b (e ▸ hb)
        · rw [e] at hb; cases hb; omega
      clear do3 KS
      refine wpTill.next 10 rfl (by kernel_rfl) (by rfl) (fun KK hK => ?_)
      go_simp
      refine hK _ _ (no_wait (by kernel_rfl)) ?_
      clear hK KK
      try simp only [Act.put, List.setIfInBounds_toArray, List.set_cons_zero, List.set_cons_succ]
      refine wpTill.next 11 rfl (by kernel_rfl) (by rfl) (fun KK hK => ?_)
      go_simp
      refine hK _ _ (no_wait (by kernel_rfl)) ?_
      clear hK KK
      try simp only [Act.put, List.setIfInBounds_toArray, List.set_cons_zero, List.set_cons_succ]
      refine wpTill.done (by kernel_rfl) ?_
      have F8 := fr_set1 u2 w1.heap.size 1 (.slice A3 n3 c3)
      have fx0 := (dx0.fr G2 (.inl (by omega))).fr F8 (by omega)
      have fb2 := (db2.fr G2 (.inl (by omega))).fr F8 (by omega)
      have f5 := q5.set1 (.slice A3 n3 c3)
      have G4 := ((D (fun k => k ≤ w1.heap.size)).trans (hf.mono (T := fun k => k ≤ w1.heap.size) fun k hk _ => hk)).comp hfr (R := fun k => k ≤ w1.heap.size) fun k _ hk => ⟨hk, fun e => by have h1 := hob _ e.symm; omega⟩
      have f1 := (o1.fr (G4.mono fun k _ hk => by omega)).past F8 (fun k hk => by omega)
      have f3 := ho.past F8 (fun k hk => by omega)
      have f6 := (F.comp G4 (R := fun k => k < w.heap.size) fun k _ hk => ⟨hk, by omega⟩).comp F8 (R := fun k => k < w.heap.size) fun k _ hk => ⟨hk, by omega⟩
      have f7 := F8.size
      have f8 := G4.size
      clear e0 e1 q5 x0 b2 b5 o1 o2 do2 F D G1 G2 G4 HLn ho F8 hat hfr dx0 db2 db5
      go_wp2_with fail
      go_roundw
      case rel => exact ⟨j + 1, _, by go_num, by omega, fx0, fb2, f5, f1, by rw [HTK.out]; exact f3, hob', f6, by omega⟩
      case measure => first | (simp [intOf]; done) | (simp [intOf]; omega)
    · obtain rfl : j = qs.length := by omega
      rw [List.take_length] at o2
      have d0 := b5.c0
      have d1 := b5.c1
      go_wp2_with ((with_reducible apply wpList_st2); rfl; rfl; exact b2; exact tt2; rfl; rfl; intro w9 B9 F9)
      refine bodyPost_ret (results_cell2 rfl rfl B9 Tryz.underlying32 tt2) rfl ?_
      exact ⟨_, _, _, _, _, _, rfl, (o1.past F9 fun k hk => by omega).sl.any, (o2.past F9 fun k hk => by omega).sl.any, F.comp F9 fun k _ hk => ⟨hk, by omega⟩⟩

set_option maxRecDepth 20000 in
set_option maxHeartbeats 8000000 in
theorem r8scale_t {S T U : Nat → Prop} (w : World) (vs ve : Value) (un ud : Value) (p : Rat) (sh : List Int) (qs : List Rat) (K : Nat) (hs : Sl Im S w vs sh) (hq : Sl (Rk K) T w ve qs) (hsl : sh.length ≤ 1099511627000) (hql : qs.length ≤ 1099511627000) (hp : RR U w un ud p K) (hK1 : 1 ≤ K) (hKl : K ≤ 104857600) :
    Calls Tryz.prog 35 #[.agg #[vs, ve], .agg #[.bool (sg p), un, ud]] w (RefR w sh (qs.map (fun q => q * p)) (2 * K)) := by
  obtain ⟨A, c, rfl, _, _, hlx⟩ := hs.slice
  obtain ⟨A', c', rfl, _, _, hly⟩ := hq.slice
  obtain ⟨⟨P9, n9, c9, rfl⟩, ⟨Q9, m9, d9, rfl⟩⟩ := hp.form
  have HP := Lib.hid hp.low
  clear hp
  have F := ((((Fr.refl (fun k => k < w.heap.size) w).alloc (.cells #[.slice A sh.length c, .slice A' qs.length c'] 32)).alloc (.cells #[.bool (sg p), .slice P9 n9 c9, .slice Q9 m9 d9] 56)).alloc (.cells #[.slice none 0 0, .slice none 0 0] 32))
  have x0 := (((Box2.new w 32 (.slice A sh.length c) (.slice A' qs.length c')).alloc (.cells #[.bool (sg p), .slice P9 n9 c9, .slice Q9 m9 d9] 56)).alloc (.cells #[.slice none 0 0, .slice none 0 0] 32))
  have x1 := ((Box3.new (w.alloc (.cells #[.slice A sh.length c, .slice A' qs.length c'] 32)) 56 (.bool (sg p)) (.slice P9 n9 c9) (.slice Q9 m9 d9)).alloc (.cells #[.slice none 0 0, .slice none 0 0] 32))
  have b2 := (Box2.new ((w.alloc (.cells #[.slice A sh.length c, .slice A' qs.length c'] 32)).alloc (.cells #[.bool (sg p), .slice P9 n9 c9, .slice Q9 m9 d9] 56)) 32 (.slice none 0 0) (.slice none 0 0))
  simp only [World.size_alloc] at x1 b2
  have HS := Lib.hid (hs.low Im_pos)
  have HQ := Lib.hid (hq.low (Rk_pos K))
  clear hs hq
  have a0 := x0.c0
  have a1 := x0.c1
  go_enter Tryz.func35, Tryz.ntmps35
  go_wp2_with fail
  generalize ((w.alloc (.cells #[.slice A sh.length c, .slice A' qs.length c'] 32)).alloc (.cells #[.bool (sg p), .slice P9 n9 c9, .slice Q9 m9 d9] 56)).alloc (.cells #[.slice none 0 0, .slice none 0 0] 32) = W0 at F x0 x1 b2 a0 a1 ⊢
  have sW := F.size
  have lt2 := b2.lt
  with_reducible refine (shaped_t _ (.slice A sh.length c) (.slice A' qs.length c') sh (HS.out.fr F) ⟨_, _, _, rfl⟩ hsl).mono ?_
  rintro e w1 ⟨A1, n1, c1, rfl, ho1, hf⟩
  have s1 := hf.size
  have al := fun R => (Fr.refl R w1).alloc (.cells #[.slice A1 n1 c1, .slice none 0 0] 32)
  have b5 := Box2.new w1 32 (.slice A1 n1 c1) (.slice none 0 0)
  replace x0 := (x0.keep hf).keep (al _)
  replace x1 := (x1.keep hf).keep (al _)
  replace b2 := (b2.keep hf).keep (al _)
  have o1 := (ho1.bd.keep' (al _)).mono (T := fun k => w.heap.size + 3 ≤ k ∧ k < w1.heap.size) fun k hk => ⟨by have := hk.1; omega, hk.2⟩
  replace F := fr_then (fr_then F hf) (al _)
  clear hf al ho1 a0 a1
  go_wp2_with fail
  go_loopw [6] (fun k W => ∃ (j : Nat) (v2 : Value), k = .int .i64 j ∧ j ≤ qs.length ∧ Box2 W w.heap.size 32 (.slice A sh.length c) (.slice A' qs.length c') ∧ Box3 W (w.heap.size + 1) 56 (.bool (sg p)) (.slice P9 n9 c9) (.slice Q9 m9 d9) ∧ Box2 W (w.heap.size + 2) 32 (.slice none 0 0) (.slice none 0 0) ∧ Box2 W w1.heap.size 32 (.slice A1 n1 c1) v2 ∧ Own Im 3 (fun k => w.heap.size + 3 ≤ k ∧ k < w1.heap.size) W (.slice A1 n1 c1) sh ∧ Own (Rk (2 * K)) 56 (fun k => k < w.heap.size ∨ w1.heap.size < k) W v2 ((qs.take j).map (fun q => q * p)) ∧ (∀ b, v2.ownBlock = some b → w1.heap.size < b) ∧ Fr (fun k => k < w.heap.size) w W ∧ w1.heap.size < W.heap.size) (fun k _ => qs.length - (intOf k).toNat)
  case atStart => exact ⟨0, _, rfl, by omega, x0, x1, b2, b5, o1, Own.nil _ _ _ _, fun b h => by simp [Value.ownBlock] at h, F, by simp⟩
  case round =>
    clear x0 x1 b2 b5 o1 F
    obtain ⟨j, v2, rfl, hj, x0, x1, b2, b5, o1, o2, hob, F, hwr⟩ := hrel
    obtain ⟨A2, n2, c2, rfl⟩ := o2.form
    have a1 := x0.c1
    by_cases hlt : j < qs.length
    · have htk := map_take_step ((fun q => q * p)) (List.take_append_getElem hlt).symm
      have HTK := Lib.hid htk
      obtain ⟨ad, P, n, d, Q, m, o, rfl, hS, g0, g1, g2, rr⟩ := Rk_get (HQ.out.fr F) hlt
      generalize qs[j] = y at g0 rr HTK
      clear htk
      have HLn := Lib.hid (show (((qs.take j).map (fun q => q * p)).length + 1) * 56 ≤ 140737488355328 ∧ ((qs.take j).map (fun q => q * p)).length + 1 ≤ 9223372036854775807 by rw [List.length_map, List.length_take]; omega)
      have lt2 := o2.lt
      have l1 := x0.lt
      have l2 := b2.lt
      have l3 := b5.lt
      have RRd := Lib.hid (rr.keep (Fr.refl (fun k => k < wr.heap.size) wr).drew)
      have D := fun R => (Fr.refl R wr).drew
      have dx0 := x0.keep (D _)
      have dx1 := x1.keep (D _)
      have db2 := b2.keep (D _)
      have db5 := b5.keep (D _)
      have do2 := o2.keep' (D _)
      have KS : ∀ u, Fr (fun k => k < w.heap.size + 3 ∨ k = w1.heap.size) wr.drew u → u.cell? ⟨w1.heap.size, 1, none⟩ = some (.slice A2 n2 c2) ∧ u.cell? ⟨w.heap.size, 1, none⟩ = some (.slice (some ad) qs.length c') ∧ u.cell? (ad.add (j * 3)) = some (.bool (sg y)) ∧ u.cell? ⟨(ad.add (j * 3)).block, (ad.add (j * 3)).off + 1, none⟩ = some (.slice P n d) ∧ u.cell? ⟨(ad.add (j * 3)).block, (ad.add (j * 3)).off + 2, none⟩ = some (.slice Q m o) ∧ u.cell? ⟨w.heap.size + 1, 0, none⟩ = some (.bool (sg p)) ∧ u.cell? ⟨w.heap.size + 1, 1, none⟩ = some (.slice P9 n9 c9) ∧ u.cell? ⟨w.heap.size + 1, 2, none⟩ = some (.slice Q9 m9 d9) := fun u hu => ⟨(db5.fr hu (.inr rfl)).c1, (dx0.fr hu (.inl (by omega))).c1, hu.cell g0 (.inl (by rw [addr_block]; omega)), hu.cell g1 (.inl (by show (ad.add (j * 3)).block < _; rw [addr_block]; omega)), hu.cell g2 (.inl (by show (ad.add (j * 3)).block < _; rw [addr_block]; omega)), (dx1.fr hu (.inl (by omega))).c0, (dx1.fr hu (.inl (by omega))).c1, (dx1.fr hu (.inl (by omega))).c2⟩
      have S0 := KS _ (Fr.refl _ _)
      have hWd : wr.drew.heap.size = wr.heap.size := rfl
      go_wp2_with fail
      refine wpTill.begin (fun u => u.cell? ⟨w1.heap.size, 1, none⟩ = some (.slice A2 n2 c2) ∧ u.cell? ⟨w.heap.size, 1, none⟩ = some (.slice (some ad) qs.length c') ∧ u.cell? (ad.add (j * 3)) = some (.bool (sg y)) ∧ u.cell? ⟨(ad.add (j * 3)).block, (ad.add (j * 3)).off + 1, none⟩ = some (.slice P n d) ∧ u.cell? ⟨(ad.add (j * 3)).block, (ad.add (j * 3)).off + 2, none⟩ = some (.slice Q m o) ∧ u.cell? ⟨w.heap.size + 1, 0, none⟩ = some (.bool (sg p)) ∧ u.cell? ⟨w.heap.size + 1, 1, none⟩ = some (.slice P9 n9 c9) ∧ u.cell? ⟨w.heap.size + 1, 2, none⟩ = some (.slice Q9 m9 d9)) 11 (by kernel_rfl) ?_
      change wpTill _ _ _ _ _ _ 13 _ _ _
      refine wpTill.take 0 (.pointer (some ⟨w1.heap.size, 1, none⟩)) rfl (by kernel_rfl) (by kernel_rfl) (fun _ _ _ h => h) S0 (by rfl) (fun u hu => by go_simp) ?_
      try simp only [Act.put, List.setIfInBounds_toArray, List.set_cons_zero, List.set_cons_succ]
      refine wpTill.take 1 (.slice A2 n2 c2) rfl (by kernel_rfl) (by kernel_rfl) (fun _ _ _ h => h) S0 (by rfl) (fun u hu => by go_simp) ?_
      try simp only [Act.put, List.setIfInBounds_toArray, List.set_cons_zero, List.set_cons_succ]
      refine wpTill.take 2 (.pointer (some ⟨w.heap.size, 1, none⟩)) rfl (by kernel_rfl) (by kernel_rfl) (fun _ _ _ h => h) S0 (by rfl) (fun u hu => by go_simp) ?_
      try simp only [Act.put, List.setIfInBounds_toArray, List.set_cons_zero, List.set_cons_succ]
      refine wpTill.take 3 (.slice (some ad) qs.length c') rfl (by kernel_rfl) (by kernel_rfl) (fun _ _ _ h => h) S0 (by rfl) (fun u hu => by go_simp) ?_
      try simp only [Act.put, List.setIfInBounds_toArray, List.set_cons_zero, List.set_cons_succ]
      refine wpTill.take 4 (.int .i64 j) rfl (by kernel_rfl) (by kernel_rfl) (fun _ _ _ h => h) S0 (by rfl) (fun u hu => by go_simp) ?_
      try simp only [Act.put, List.setIfInBounds_toArray, List.set_cons_zero, List.set_cons_succ]
      refine wpTill.take 5 (.pointer (some (ad.add (j * 3)))) rfl (by kernel_rfl) (by kernel_rfl) (fun _ _ _ h => h) S0 (by rfl) (fun u hu => by go_simp) ?_
      try simp only [Act.put, List.setIfInBounds_toArray, List.set_cons_zero, List.set_cons_succ]
      refine wpTill.take 6 (.agg #[.bool (sg y), .slice P n d, .slice Q m o]) rfl (by kernel_rfl) (by kernel_rfl) (fun _ _ _ h => h) S0 (by rfl) (fun u hu => by go_simp) ?_
      try simp only [Act.put, List.setIfInBounds_toArray, List.set_cons_zero, List.set_cons_succ]
      refine wpTill.take 7 (.agg #[.bool (sg p), .slice P9 n9 c9, .slice Q9 m9 d9]) rfl (by kernel_rfl) (by kernel_rfl) (fun _ _ _ h => h) S0 (by rfl) (fun u hu => by go_simp) ?_
      try simp only [Act.put, List.setIfInBounds_toArray, List.set_cons_zero, List.set_cons_succ]
      refine wpTill.next 8 rfl (by kernel_rfl) (by rfl) (fun KK hK => ?_)
      go_simp
      with_reducible refine (rmul_h _ (sg y) (sg p) (.slice P n d) (.slice Q m o) (.slice P9 n9 c9) (.slice Q9 m9 d9) y p K RRd (Lib.hid (HP.out.fr (F.comp (D (fun _ => True)) fun k _ hk => ⟨hk, trivial⟩))) (Lib.hid rfl) (Lib.hid rfl) hK1 hKl).mono ?_
      rintro e u1 ⟨s9, v3, v4, rfl, hs9, hol, hf⟩
      obtain ⟨⟨P3, i4, j4, rfl⟩, ⟨P4, i5, j5, rfl⟩⟩ := hol.out.form
      have G1 : Fr (fun k => k < w.heap.size + 3 ∨ k = w1.heap.size) wr.drew u1 := hf.mono fun k hk _ => hk
      refine hK _ _ (fun _ => KS _ G1) ?_
      clear hK KK
      try simp only [Act.put, List.setIfInBounds_toArray, List.set_cons_zero, List.set_cons_succ]
      refine wpTill.next 9 rfl (by kernel_rfl) (by rfl) (fun KK hK => ?_)
      go_simp
      refine hK _ _ (fun _ => KS _ (G1.alloc _)) ?_
      clear hK KK
      try simp only [Act.put, List.setIfInBounds_toArray, List.set_cons_zero, List.set_cons_succ]
      have do3 := do2.keep' hf
      have su := hf.size
      clear S0
      refine wpTill.next 10 rfl (by kernel_rfl) (by rfl) (fun KK hK => ?_)
      refine oper_push1 (rkT (2 * K)) (v := .slice A2 n2 c2) (y := y * p) (T := fun k => wr.drew.heap.size ≤ k) rfl rfl rfl do3 ⟨_, _, by rw [hs9.out], hol.out⟩ (fun k hk _ => ⟨by omega, fun e => by have h1 := lt2 k e.symm; have h2 := hob k e.symm; omega⟩) (fun k hk => by omega) HLn.out.1 HLn.out.2 ?_
      intro v5 u2 ho hfr hat
      obtain ⟨A3, n3, c3, rfl⟩ := ho.form
      have G2 : Fr (fun k => k < w.heap.size + 3 ∨ k = w1.heap.size) wr.drew u2 := G1.comp hfr fun k _ hk => ⟨hk, fun e => by have h1 := hob _ e.symm; omega⟩
      refine hK _ _ (fun _ => KS _ G2) ?_
      clear hK KK
      try simp only [Act.put, List.setIfInBounds_toArray, List.set_cons_zero, List.set_cons_succ]
      have q5 := db5.fr G2 (.inr rfl)
      have e0 := q5.c1
      have e1 := q5.free 1
      have su2 := hfr.size
      have hob' : ∀ b, (Value.slice A3 n3 c3).ownBlock = some b → w1.heap.size < b := fun b hb => by
        rcases hat with e | ⟨b', e, hb'⟩
        · exact hob b (e ▸ hb)
        · rw [e] at hb; cases hb; omega
      clear do3 KS
      refine wpTill.next 11 rfl (by kernel_rfl) (by rfl) (fun KK hK => ?_)
      go_simp
      refine hK _ _ (no_wait (by kernel_rfl)) ?_
      clear hK KK
      try simp only [Act.put, List.setIfInBounds_toArray, List.set_cons_zero, List.set_cons_succ]
      refine wpTill.next 12 rfl (by kernel_rfl) (by rfl) (fun KK hK => ?_)
      go_simp
      refine hK _ _ (no_wait (by kernel_rfl)) ?_
      clear hK KK
      try simp only [Act.put, List.setIfInBounds_toArray, List.set_cons_zero, List.set_cons_succ]
      refine wpTill.done (by kernel_rfl) ?_
      have F8 := fr_set1 u2 w1.heap.size 1 (.slice A3 n3 c3)
      have fx0 := (dx0.fr G2 (.inl (by omega))).fr F8 (by omega)
      have fx1 := (dx1.fr G2 (.inl (by omega))).fr F8 (by omega)
      have fb2 := (db2.fr G2 (.inl (by omega))).fr F8 (by omega)
      have f5 := q5.set1 (.slice A3 n3 c3)
      have G4 := ((D (fun k => k ≤ w1.heap.size)).trans (hf.mono (T := fun k => k ≤ w1.heap.size) fun k hk _ => hk)).comp hfr (R := fun k => k ≤ w1.heap.size) fun k _ hk => ⟨hk, fun e => by have h1 := hob _ e.symm; omega⟩
      have f1 := (o1.fr (G4.mono fun k _ hk => by omega)).past F8 (fun k hk => by omega)
      have f3 := ho.past F8 (fun k hk => by omega)
      have f6 := (F.comp G4 (R := fun k => k < w.heap.size) fun k _ hk => ⟨hk, by omega⟩).comp F8 (R := fun k => k < w.heap.size) fun k _ hk => ⟨hk, by omega⟩
      have f7 := F8.size
      have f8 := G4.size
      clear e0 e1 q5 x0 x1 b2 b5 o1 o2 do2 F D G1 G2 G4 HLn ho F8 hat hfr dx0 dx1 db2 db5
      go_wp2_with fail
      go_roundw
      case rel => exact ⟨j + 1, _, by go_num, by omega, fx0, fx1, fb2, f5, f1, by rw [HTK.out]; exact f3, hob', f6, by omega⟩
      case measure => first | (simp [intOf]; done) | (simp [intOf]; omega)
    · obtain rfl : j = qs.length := by omega
      rw [List.take_length] at o2
      have d0 := b5.c0
      have d1 := b5.c1
      go_wp2_with ((with_reducible apply wpList_st2); rfl; rfl; exact b2; exact tt2; rfl; rfl; intro w9 B9 F9)
      refine bodyPost_ret (results_cell2 rfl rfl B9 Tryz.underlying32 tt2) rfl ?_
      exact ⟨_, _, _, _, _, _, rfl, (o1.past F9 fun k hk => by omega).sl.any, (o2.past F9 fun k hk => by omega).sl.any, F.comp F9 fun k _ hk => ⟨hk, by omega⟩⟩

set_option maxRecDepth 20000 in
set_option maxHeartbeats 8000000 in
theorem r8relu_t {S T : Nat → Prop} (w : World) (vs ve : Value) (sh : List Int) (qs : List Rat) (K : Nat) (hs : Sl Im S w vs sh) (hq : Sl (Rk K) T w ve qs) (hsl : sh.length ≤ 1099511627000) (hql : qs.length ≤ 1099511627000) (hK6 : 6 ≤ K) :
    Calls Tryz.prog 23 #[.agg #[vs, ve]] w (RefR w sh (qs.map (fun q => (if q.num.sign < 0 then 0 else q : Rat))) K) := by
  obtain ⟨A, c, rfl, _, _, hlx⟩ := hs.slice
  obtain ⟨A', c', rfl, _, _, hly⟩ := hq.slice
  have F := (((Fr.refl (fun k => k < w.heap.size) w).alloc (.cells #[.slice A sh.length c, .slice A' qs.length c'] 32)).alloc (.cells #[.slice none 0 0, .slice none 0 0] 32))
  have x0 := ((Box2.new w 32 (.slice A sh.length c) (.slice A' qs.length c')).alloc (.cells #[.slice none 0 0, .slice none 0 0] 32))
  have b2 := (Box2.new (w.alloc (.cells #[.slice A sh.length c, .slice A' qs.length c'] 32)) 32 (.slice none 0 0) (.slice none 0 0))
  simp only [World.size_alloc] at b2
  have HS := Lib.hid (hs.low Im_pos)
  have HQ := Lib.hid (hq.low (Rk_pos K))
  clear hs hq
  have a0 := x0.c0
  have a1 := x0.c1
  go_enter Tryz.func23, Tryz.ntmps23
  go_wp2_with fail
  generalize (w.alloc (.cells #[.slice A sh.length c, .slice A' qs.length c'] 32)).alloc (.cells #[.slice none 0 0, .slice none 0 0] 32) = W0 at F x0 b2 a0 a1 ⊢
  have sW := F.size
  have lt2 := b2.lt
  with_reducible refine (shaped_t _ (.slice A sh.length c) (.slice A' qs.length c') sh (HS.out.fr F) ⟨_, _, _, rfl⟩ hsl).mono ?_
  rintro e w1 ⟨A1, n1, c1, rfl, ho1, hf⟩
  have s1 := hf.size
  have al := fun R => (Fr.refl R w1).alloc (.cells #[.slice A1 n1 c1, .slice none 0 0] 32)
  have b5 := Box2.new w1 32 (.slice A1 n1 c1) (.slice none 0 0)
  replace x0 := (x0.keep hf).keep (al _)
  replace b2 := (b2.keep hf).keep (al _)
  have o1 := (ho1.bd.keep' (al _)).mono (T := fun k => w.heap.size + 2 ≤ k ∧ k < w1.heap.size) fun k hk => ⟨by have := hk.1; omega, hk.2⟩
  replace F := fr_then (fr_then F hf) (al _)
  clear hf al ho1 a0 a1
  go_wp2_with fail
  go_loopw [4] (fun k W => ∃ (j : Nat) (v2 : Value), k = .int .i64 j ∧ j ≤ qs.length ∧ Box2 W w.heap.size 32 (.slice A sh.length c) (.slice A' qs.length c') ∧ Box2 W (w.heap.size + 1) 32 (.slice none 0 0) (.slice none 0 0) ∧ Box2 W w1.heap.size 32 (.slice A1 n1 c1) v2 ∧ Own Im 3 (fun k => w.heap.size + 2 ≤ k ∧ k < w1.heap.size) W (.slice A1 n1 c1) sh ∧ Own (Rk (K)) 56 (fun k => k < w.heap.size ∨ w1.heap.size < k) W v2 ((qs.take j).map (fun q => (if q.num.sign < 0 then 0 else q : Rat))) ∧ (∀ b, v2.ownBlock = some b → w1.heap.size < b) ∧ Fr (fun k => k < w.heap.size) w W ∧ w1.heap.size < W.heap.size) (fun k _ => qs.length - (intOf k).toNat)
  case atStart => exact ⟨0, _, rfl, by omega, x0, b2, b5, o1, Own.nil _ _ _ _, fun b h => by simp [Value.ownBlock] at h, F, by simp⟩
  case round =>
    clear x0 b2 b5 o1 F
    obtain ⟨j, v2, rfl, hj, x0, b2, b5, o1, o2, hob, F, hwr⟩ := hrel
    obtain ⟨A2, n2, c2, rfl⟩ := o2.form
    have a1 := x0.c1
    by_cases hlt : j < qs.length
    · have htk := map_take_step ((fun q => (if q.num.sign < 0 then 0 else q : Rat))) (List.take_append_getElem hlt).symm
      have HTK := Lib.hid htk
      obtain ⟨ad, P, n, d, Q, m, o, rfl, hS, g0, g1, g2, rr⟩ := Rk_get (HQ.out.fr F) hlt
      generalize qs[j] = y at g0 rr HTK
      clear htk
      have HLn := Lib.hid (show (((qs.take j).map (fun q => (if q.num.sign < 0 then 0 else q : Rat))).length + 1) * 56 ≤ 140737488355328 ∧ ((qs.take j).map (fun q => (if q.num.sign < 0 then 0 else q : Rat))).length + 1 ≤ 9223372036854775807 by rw [List.length_map, List.length_take]; omega)
      have lt2 := o2.lt
      have l1 := x0.lt
      have l2 := b2.lt
      have l3 := b5.lt
      obtain ⟨c0, hc0⟩ : ∃ c, y.num.sign = c := ⟨_, rfl⟩
      have HC0 := Lib.hid hc0
      have h3 := sign_3 y
      rw [hc0] at h3
      clear hc0
      go_wp2_with fail
      with_reducible refine (rsign_8 _ (sg y) (.slice P n d) (.slice Q m o) y K c0 HC0 rr rfl).mono ?_
      rintro e wr' ⟨rfl, hf⟩
      replace x0 := x0.keep hf
      replace b2 := b2.keep hf
      replace b5 := b5.keep hf
      replace o1 := o1.keep' hf
      replace o2 := o2.keep' hf
      replace F := fr_then F hf
      replace rr := rr.keep hf
      replace g0 := hf.cell g0 (World.block_lt_of_cell? _ _ g0)
      replace g1 := hf.cell g1 (World.block_lt_of_cell? _ _ g1)
      replace g2 := hf.cell g2 (World.block_lt_of_cell? _ _ g2)
      replace hwr := Nat.lt_of_lt_of_le hwr hf.size
      clear hf lt2 l1 l2 l3 a1
      have lt2 := o2.lt
      have l1 := x0.lt
      have l2 := b2.lt
      have l3 := b5.lt
      by_cases h0 : c0 < 0
      · have HV := Lib.hid (show (if y.num.sign < 0 then 0 else y : Rat) = ((0 : Int) : Rat) by rw [HC0.out]; first | (rw [if_pos h0]; rfl) | (rw [if_neg h0]; rfl) | (rcases h3 with rfl | rfl | rfl <;> first | rfl | (exfalso; omega)))
        have D := fun R => (Fr.refl R wr').drew
        have dx0 := x0.keep (D _)
        have db2 := b2.keep (D _)
        have db5 := b5.keep (D _)
        have do2 := o2.keep' (D _)
        have KS : ∀ u, Fr (fun k => k < w.heap.size + 2 ∨ k = w1.heap.size) wr'.drew u → u.cell? ⟨w1.heap.size, 1, none⟩ = some (.slice A2 n2 c2) := fun u hu => (db5.fr hu (.inr rfl)).c1
        have S0 := KS _ (Fr.refl _ _)
        have hWd : wr'.drew.heap.size = wr'.heap.size := rfl
        go_wp2_with fail
        refine wpTill.begin (fun u => u.cell? ⟨w1.heap.size, 1, none⟩ = some (.slice A2 n2 c2)) 5 (by kernel_rfl) ?_
        change wpTill _ _ _ _ _ _ 7 _ _ _
        refine wpTill.take 0 (.pointer (some ⟨w1.heap.size, 1, none⟩)) rfl (by kernel_rfl) (by kernel_rfl) (fun _ _ _ h => h) S0 (by rfl) (fun u hu => by go_simp) ?_
        try simp only [Act.put, List.setIfInBounds_toArray, List.set_cons_zero, List.set_cons_succ]
        refine wpTill.take 1 (.slice A2 n2 c2) rfl (by kernel_rfl) (by kernel_rfl) (fun _ _ _ h => h) S0 (by rfl) (fun u hu => by go_simp) ?_
        try simp only [Act.put, List.setIfInBounds_toArray, List.set_cons_zero, List.set_cons_succ]
        refine wpTill.next 2 rfl (by kernel_rfl) (by rfl) (fun KK hK => ?_)
        go_simp
        with_reducible refine (rint_s _ (0) (by decide) (by decide)).mono ?_
        rintro e u1 ⟨s9, v3, v4, rfl, hs9, hol, hf⟩
        obtain ⟨⟨P3, i4, j4, rfl⟩, ⟨P4, i5, j5, rfl⟩⟩ := hol.out.form
        have G1 : Fr (fun k => k < w.heap.size + 2 ∨ k = w1.heap.size) wr'.drew u1 := hf.mono fun k hk _ => hk
        refine hK _ _ (fun _ => KS _ G1) ?_
        clear hK KK
        try simp only [Act.put, List.setIfInBounds_toArray, List.set_cons_zero, List.set_cons_succ]
        refine wpTill.next 3 rfl (by kernel_rfl) (by rfl) (fun KK hK => ?_)
        go_simp
        refine hK _ _ (fun _ => KS _ (G1.alloc _)) ?_
        clear hK KK
        try simp only [Act.put, List.setIfInBounds_toArray, List.set_cons_zero, List.set_cons_succ]
        have do3 := do2.keep' hf
        have su := hf.size
        clear S0
        refine wpTill.next 4 rfl (by kernel_rfl) (by rfl) (fun KK hK => ?_)
        refine oper_push1 (rkT (K)) (v := .slice A2 n2 c2) (y := (if y.num.sign < 0 then 0 else y : Rat)) (T := fun k => wr'.drew.heap.size ≤ k) rfl rfl rfl do3 ⟨_, _, by rw [HV.out, hs9.out], by rw [HV.out]; exact ⟨hol.out.num.wide hK6, hol.out.den.wide hK6⟩⟩ (fun k hk _ => ⟨by omega, fun e => by have h1 := lt2 k e.symm; have h2 := hob k e.symm; omega⟩) (fun k hk => by omega) HLn.out.1 HLn.out.2 ?_
        intro v5 u2 ho hfr hat
        obtain ⟨A3, n3, c3, rfl⟩ := ho.form
        have G2 : Fr (fun k => k < w.heap.size + 2 ∨ k = w1.heap.size) wr'.drew u2 := G1.comp hfr fun k _ hk => ⟨hk, fun e => by have h1 := hob _ e.symm; omega⟩
        refine hK _ _ (fun _ => KS _ G2) ?_
        clear hK KK
        try simp only [Act.put, List.setIfInBounds_toArray, List.set_cons_zero, List.set_cons_succ]
        have q5 := db5.fr G2 (.inr rfl)
        have e0 := q5.c1
        have e1 := q5.free 1
        have su2 := hfr.size
        have hob' : ∀ b, (Value.slice A3 n3 c3).ownBlock = some b → w1.heap.size < b := fun b hb => by
          rcases hat with e | ⟨b', e, hb'⟩
          · exact hob b (e ▸ hb)
          · rw [e] at hb; cases hb; omega
        clear do3 KS
        refine wpTill.next 5 rfl (by kernel_rfl) (by rfl) (fun KK hK => ?_)
        go_simp
        refine hK _ _ (no_wait (by kernel_rfl)) ?_
        clear hK KK
        try simp only [Act.put, List.setIfInBounds_toArray, List.set_cons_zero, List.set_cons_succ]
        refine wpTill.next 6 rfl (by kernel_rfl) (by rfl) (fun KK hK => ?_)
        go_simp
        refine hK _ _ (no_wait (by kernel_rfl)) ?_
        clear hK KK
        try simp only [Act.put, List.setIfInBounds_toArray, List.set_cons_zero, List.set_cons_succ]
        refine wpTill.done (by kernel_rfl) ?_
        have F8 := fr_set1 u2 w1.heap.size 1 (.slice A3 n3 c3)
        have fx0 := (dx0.fr G2 (.inl (by omega))).fr F8 (by omega)
        have fb2 := (db2.fr G2 (.inl (by omega))).fr F8 (by omega)
        have f5 := q5.set1 (.slice A3 n3 c3)
        have G4 := ((D (fun k => k ≤ w1.heap.size)).trans (hf.mono (T := fun k => k ≤ w1.heap.size) fun k hk _ => hk)).comp hfr (R := fun k => k ≤ w1.heap.size) fun k _ hk => ⟨hk, fun e => by have h1 := hob _ e.symm; omega⟩
        have f1 := (o1.fr (G4.mono fun k _ hk => by omega)).past F8 (fun k hk => by omega)
        have f3 := ho.past F8 (fun k hk => by omega)
        have f6 := (F.comp G4 (R := fun k => k < w.heap.size) fun k _ hk => ⟨hk, by omega⟩).comp F8 (R := fun k => k < w.heap.size) fun k _ hk => ⟨hk, by omega⟩
        have f7 := F8.size
        have f8 := G4.size
        clear e0 e1 q5 x0 b2 b5 o1 o2 do2 F D G1 G2 G4 HLn ho F8 hat hfr dx0 db2 db5
        go_wp2_with fail
        go_roundw
        case rel => exact ⟨j + 1, _, by go_num, by omega, fx0, fb2, f5, f1, by rw [HTK.out]; exact f3, hob', f6, by omega⟩
        case measure => first | (simp [intOf]; done) | (simp [intOf]; omega)
      · have HV := Lib.hid (show (if y.num.sign < 0 then 0 else y : Rat) = y by rw [HC0.out, if_neg h0])
        have RRd := Lib.hid (rr.keep (Fr.refl (fun k => k < wr'.heap.size) wr').drew)
        have D := fun R => (Fr.refl R wr').drew
        have dx0 := x0.keep (D _)
        have db2 := b2.keep (D _)
        have db5 := b5.keep (D _)
        have do2 := o2.keep' (D _)
        have KS : ∀ u, Fr (fun k => k < w.heap.size + 2 ∨ k = w1.heap.size) wr'.drew u → u.cell? ⟨w1.heap.size, 1, none⟩ = some (.slice A2 n2 c2) ∧ u.cell? ⟨w.heap.size, 1, none⟩ = some (.slice (some ad) qs.length c') ∧ u.cell? (ad.add (j * 3)) = some (.bool (sg y)) ∧ u.cell? ⟨(ad.add (j * 3)).block, (ad.add (j * 3)).off + 1, none⟩ = some (.slice P n d) ∧ u.cell? ⟨(ad.add (j * 3)).block, (ad.add (j * 3)).off + 2, none⟩ = some (.slice Q m o) := fun u hu => ⟨(db5.fr hu (.inr rfl)).c1, (dx0.fr hu (.inl (by omega))).c1, hu.cell g0 (.inl (by rw [addr_block]; omega)), hu.cell g1 (.inl (by show (ad.add (j * 3)).block < _; rw [addr_block]; omega)), hu.cell g2 (.inl (by show (ad.add (j * 3)).block < _; rw [addr_block]; omega))⟩
        have S0 := KS _ (Fr.refl _ _)
        have hWd : wr'.drew.heap.size = wr'.heap.size := rfl
        go_wp2_with fail
        refine wpTill.begin (fun u => u.cell? ⟨w1.heap.size, 1, none⟩ = some (.slice A2 n2 c2) ∧ u.cell? ⟨w.heap.size, 1, none⟩ = some (.slice (some ad) qs.length c') ∧ u.cell? (ad.add (j * 3)) = some (.bool (sg y)) ∧ u.cell? ⟨(ad.add (j * 3)).block, (ad.add (j * 3)).off + 1, none⟩ = some (.slice P n d) ∧ u.cell? ⟨(ad.add (j * 3)).block, (ad.add (j * 3)).off + 2, none⟩ = some (.slice Q m o)) 9 (by kernel_rfl) ?_
        change wpTill _ _ _ _ _ _ 11 _ _ _
        refine wpTill.take 0 (.pointer (some ⟨w1.heap.size, 1, none⟩)) rfl (by kernel_rfl) (by kernel_rfl) (fun _ _ _ h => h) S0 (by rfl) (fun u hu => by go_simp) ?_
        try simp only [Act.put, List.setIfInBounds_toArray, List.set_cons_zero, List.set_cons_succ]
        refine wpTill.take 1 (.slice A2 n2 c2) rfl (by kernel_rfl) (by kernel_rfl) (fun _ _ _ h => h) S0 (by rfl) (fun u hu => by go_simp) ?_
        try simp only [Act.put, List.setIfInBounds_toArray, List.set_cons_zero, List.set_cons_succ]
        refine wpTill.take 2 (.pointer (some ⟨w.heap.size, 1, none⟩)) rfl (by kernel_rfl) (by kernel_rfl) (fun _ _ _ h => h) S0 (by rfl) (fun u hu => by go_simp) ?_
        try simp only [Act.put, List.setIfInBounds_toArray, List.set_cons_zero, List.set_cons_succ]
        refine wpTill.take 3 (.slice (some ad) qs.length c') rfl (by kernel_rfl) (by kernel_rfl) (fun _ _ _ h => h) S0 (by rfl) (fun u hu => by go_simp) ?_
        try simp only [Act.put, List.setIfInBounds_toArray, List.set_cons_zero, List.set_cons_succ]
        refine wpTill.take 4 (.int .i64 j) rfl (by kernel_rfl) (by kernel_rfl) (fun _ _ _ h => h) S0 (by rfl) (fun u hu => by go_simp) ?_
        try simp only [Act.put, List.setIfInBounds_toArray, List.set_cons_zero, List.set_cons_succ]
        refine wpTill.take 5 (.pointer (some (ad.add (j * 3)))) rfl (by kernel_rfl) (by kernel_rfl) (fun _ _ _ h => h) S0 (by rfl) (fun u hu => by go_simp) ?_
        try simp only [Act.put, List.setIfInBounds_toArray, List.set_cons_zero, List.set_cons_succ]
        refine wpTill.take 6 (.agg #[.bool (sg y), .slice P n d, .slice Q m o]) rfl (by kernel_rfl) (by kernel_rfl) (fun _ _ _ h => h) S0 (by rfl) (fun u hu => by go_simp) ?_
        try simp only [Act.put, List.setIfInBounds_toArray, List.set_cons_zero, List.set_cons_succ]
        have hf := Fr.refl (fun k => k < wr'.drew.heap.size) wr'.drew
        have G1 := Fr.refl (fun k => k < w.heap.size + 2 ∨ k = w1.heap.size) wr'.drew
        refine wpTill.next 7 rfl (by kernel_rfl) (by rfl) (fun KK hK => ?_)
        go_simp
        refine hK _ _ (fun _ => KS _ (G1.alloc _)) ?_
        clear hK KK
        try simp only [Act.put, List.setIfInBounds_toArray, List.set_cons_zero, List.set_cons_succ]
        have do3 := do2.keep' hf
        have su := hf.size
        clear S0
        refine wpTill.next 8 rfl (by kernel_rfl) (by rfl) (fun KK hK => ?_)
        refine oper_push1 (rkT (K)) (v := .slice A2 n2 c2) (y := (if y.num.sign < 0 then 0 else y : Rat)) (T := fun k => k < w.heap.size) rfl rfl rfl do3 ⟨_, _, by rw [HV.out], by rw [HV.out]; exact RRd.out⟩ (fun k hk _ => ⟨by omega, fun e => by have h1 := lt2 k e.symm; have h2 := hob k e.symm; omega⟩) (fun k hk => by omega) HLn.out.1 HLn.out.2 ?_
        intro v5 u2 ho hfr hat
        obtain ⟨A3, n3, c3, rfl⟩ := ho.form
        have G2 : Fr (fun k => k < w.heap.size + 2 ∨ k = w1.heap.size) wr'.drew u2 := G1.comp hfr fun k _ hk => ⟨hk, fun e => by have h1 := hob _ e.symm; omega⟩
        refine hK _ _ (fun _ => KS _ G2) ?_
        clear hK KK
        try simp only [Act.put, List.setIfInBounds_toArray, List.set_cons_zero, List.set_cons_succ]
        have q5 := db5.fr G2 (.inr rfl)
        have e0 := q5.c1
        have e1 := q5.free 1
        have su2 := hfr.size
        have hob' : ∀ b, (Value.slice A3 n3 c3).ownBlock = some b → w1.heap.size < b := fun b hb => by
          rcases hat with e | ⟨b', e, hb'⟩
          · exact hob b (e ▸ hb)
          · rw [e] at hb; cases hb; omega
        clear do3 KS
        refine wpTill.next 9 rfl (by kernel_rfl) (by rfl) (fun KK hK => ?_)
        go_simp
        refine hK _ _ (no_wait (by kernel_rfl)) ?_
        clear hK KK
        try simp only [Act.put, List.setIfInBounds_toArray, List.set_cons_zero, List.set_cons_succ]
        refine wpTill.next 10 rfl (by kernel_rfl) (by rfl) (fun KK hK => ?_)
        go_simp
        refine hK _ _ (no_wait (by kernel_rfl)) ?_
        clear hK KK
        try simp only [Act.put, List.setIfInBounds_toArray, List.set_cons_zero, List.set_cons_succ]
        refine wpTill.done (by kernel_rfl) ?_
        have F8 := fr_set1 u2 w1.heap.size 1 (.slice A3 n3 c3)
        have fx0 := (dx0.fr G2 (.inl (by omega))).fr F8 (by omega)
        have fb2 := (db2.fr G2 (.inl (by omega))).fr F8 (by omega)
        have f5 := q5.set1 (.slice A3 n3 c3)
        have G4 := ((D (fun k => k ≤ w1.heap.size)).trans (hf.mono (T := fun k => k ≤ w1.heap.size) fun k hk _ => hk)).comp hfr (R := fun k => k ≤ w1.heap.size) fun k _ hk => ⟨hk, fun e => by have h1 := hob _ e.symm; omega⟩
        have f1 := (o1.fr (G4.mono fun k _ hk => by omega)).past F8 (fun k hk => by omega)
        have f3 := ho.past F8 (fun k hk => by omega)
        have f6 := (F.comp G4 (R := fun k => k < w.heap.size) fun k _ hk => ⟨hk, by omega⟩).comp F8 (R := fun k => k < w.heap.size) fun k _ hk => ⟨hk, by omega⟩
        have f7 := F8.size
        have f8 := G4.size
        clear e0 e1 q5 x0 b2 b5 o1 o2 do2 F D G1 G2 G4 HLn ho F8 hat hfr dx0 db2 db5
        go_wp2_with fail
        go_roundw
        case rel => exact ⟨j + 1, _, by go_num, by omega, fx0, fb2, f5, f1, by rw [HTK.out]; exact f3, hob', f6, by omega⟩
        case measure => first | (simp [intOf]; done) | (simp [intOf]; omega)
    · obtain rfl : j = qs.length := by omega
      rw [List.take_length] at o2
      have d0 := b5.c0
      have d1 := b5.c1
      go_wp2_with ((with_reducible apply wpList_st2); rfl; rfl; exact b2; exact tt2; rfl; rfl; intro w9 B9 F9)
      refine bodyPost_ret (results_cell2 rfl rfl B9 Tryz.underlying32 tt2) rfl ?_
      exact ⟨_, _, _, _, _, _, rfl, (o1.past F9 fun k hk => by omega).sl.any, (o2.past F9 fun k hk => by omega).sl.any, F.comp F9 fun k _ hk => ⟨hk, by omega⟩⟩

set_option maxRecDepth 20000 in
set_option maxHeartbeats 8000000 in
theorem r8step_t {S T : Nat → Prop} (w : World) (vs ve : Value) (sh : List Int) (qs : List Rat) (K : Nat) (hs : Sl Im S w vs sh) (hq : Sl (Rk K) T w ve qs) (hsl : sh.length ≤ 1099511627000) (hql : qs.length ≤ 1099511627000) (hK6 : 6 ≤ K) :
    Calls Tryz.prog 24 #[.agg #[vs, ve]] w (RefR w sh (qs.map (fun q => (((max q.num.sign 0 : Int) : Rat) : Rat))) K) := by
  obtain ⟨A, c, rfl, _, _, hlx⟩ := hs.slice
  obtain ⟨A', c', rfl, _, _, hly⟩ := hq.slice
  have F := (((Fr.refl (fun k => k < w.heap.size) w).alloc (.cells #[.slice A sh.length c, .slice A' qs.length c'] 32)).alloc (.cells #[.slice none 0 0, .slice none 0 0] 32))
  have x0 := ((Box2.new w 32 (.slice A sh.length c) (.slice A' qs.length c')).alloc (.cells #[.slice none 0 0, .slice none 0 0] 32))
  have b2 := (Box2.new (w.alloc (.cells #[.slice A sh.length c, .slice A' qs.length c'] 32)) 32 (.slice none 0 0) (.slice none 0 0))
  simp only [World.size_alloc] at b2
  have HS := Lib.hid (hs.low Im_pos)
  have HQ := Lib.hid (hq.low (Rk_pos K))
  clear hs hq
  have a0 := x0.c0
  have a1 := x0.c1
  go_enter Tryz.func24, Tryz.ntmps24
  go_wp2_with fail
  generalize (w.alloc (.cells #[.slice A sh.length c, .slice A' qs.length c'] 32)).alloc (.cells #[.slice none 0 0, .slice none 0 0] 32) = W0 at F x0 b2 a0 a1 ⊢
  have sW := F.size
  have lt2 := b2.lt
  with_reducible refine (shaped_t _ (.slice A sh.length c) (.slice A' qs.length c') sh (HS.out.fr F) ⟨_, _, _, rfl⟩ hsl).mono ?_
  rintro e w1 ⟨A1, n1, c1, rfl, ho1, hf⟩
  have s1 := hf.size
  have al := fun R => (Fr.refl R w1).alloc (.cells #[.slice A1 n1 c1, .slice none 0 0] 32)
  have b5 := Box2.new w1 32 (.slice A1 n1 c1) (.slice none 0 0)
  replace x0 := (x0.keep hf).keep (al _)
  replace b2 := (b2.keep hf).keep (al _)
  have o1 := (ho1.bd.keep' (al _)).mono (T := fun k => w.heap.size + 2 ≤ k ∧ k < w1.heap.size) fun k hk => ⟨by have := hk.1; omega, hk.2⟩
  replace F := fr_then (fr_then F hf) (al _)
  clear hf al ho1 a0 a1
  go_wp2_with fail
  go_loopw [4] (fun k W => ∃ (j : Nat) (v2 : Value), k = .int .i64 j ∧ j ≤ qs.length ∧ Box2 W w.heap.size 32 (.slice A sh.length c) (.slice A' qs.length c') ∧ Box2 W (w.heap.size + 1) 32 (.slice none 0 0) (.slice none 0 0) ∧ Box2 W w1.heap.size 32 (.slice A1 n1 c1) v2 ∧ Own Im 3 (fun k => w.heap.size + 2 ≤ k ∧ k < w1.heap.size) W (.slice A1 n1 c1) sh ∧ Own (Rk (K)) 56 (fun k => k < w.heap.size ∨ w1.heap.size < k) W v2 ((qs.take j).map (fun q => (((max q.num.sign 0 : Int) : Rat) : Rat))) ∧ (∀ b, v2.ownBlock = some b → w1.heap.size < b) ∧ Fr (fun k => k < w.heap.size) w W ∧ w1.heap.size < W.heap.size) (fun k _ => qs.length - (intOf k).toNat)
  case atStart => exact ⟨0, _, rfl, by omega, x0, b2, b5, o1, Own.nil _ _ _ _, fun b h => by simp [Value.ownBlock] at h, F, by simp⟩
  case round =>
    clear x0 b2 b5 o1 F
    obtain ⟨j, v2, rfl, hj, x0, b2, b5, o1, o2, hob, F, hwr⟩ := hrel
    obtain ⟨A2, n2, c2, rfl⟩ := o2.form
    have a1 := x0.c1
    by_cases hlt : j < qs.length
    · have htk := map_take_step ((fun q => (((max q.num.sign 0 : Int) : Rat) : Rat))) (List.take_append_getElem hlt).symm
      have HTK := Lib.hid htk
      obtain ⟨ad, P, n, d, Q, m, o, rfl, hS, g0, g1, g2, rr⟩ := Rk_get (HQ.out.fr F) hlt
      generalize qs[j] = y at g0 rr HTK
      clear htk
      have HLn := Lib.hid (show (((qs.take j).map (fun q => (((max q.num.sign 0 : Int) : Rat) : Rat))).length + 1) * 56 ≤ 140737488355328 ∧ ((qs.take j).map (fun q => (((max q.num.sign 0 : Int) : Rat) : Rat))).length + 1 ≤ 9223372036854775807 by rw [List.length_map, List.length_take]; omega)
      have lt2 := o2.lt
      have l1 := x0.lt
      have l2 := b2.lt
      have l3 := b5.lt
      obtain ⟨c0, hc0⟩ : ∃ c, y.num.sign = c := ⟨_, rfl⟩
      have HC0 := Lib.hid hc0
      have h3 := sign_3 y
      rw [hc0] at h3
      clear hc0
      go_wp2_with fail
      with_reducible refine (rsign_8 _ (sg y) (.slice P n d) (.slice Q m o) y K c0 HC0 rr rfl).mono ?_
      rintro e wr' ⟨rfl, hf⟩
      replace x0 := x0.keep hf
      replace b2 := b2.keep hf
      replace b5 := b5.keep hf
      replace o1 := o1.keep' hf
      replace o2 := o2.keep' hf
      replace F := fr_then F hf
      replace rr := rr.keep hf
      replace g0 := hf.cell g0 (World.block_lt_of_cell? _ _ g0)
      replace g1 := hf.cell g1 (World.block_lt_of_cell? _ _ g1)
      replace g2 := hf.cell g2 (World.block_lt_of_cell? _ _ g2)
      replace hwr := Nat.lt_of_lt_of_le hwr hf.size
      clear hf lt2 l1 l2 l3 a1
      have lt2 := o2.lt
      have l1 := x0.lt
      have l2 := b2.lt
      have l3 := b5.lt
      by_cases h0 : 0 < c0
      · have HV := Lib.hid (show (((max y.num.sign 0 : Int) : Rat) : Rat) = ((1 : Int) : Rat) by rw [HC0.out]; first | (rw [if_pos h0]; rfl) | (rw [if_neg h0]; rfl) | (rcases h3 with rfl | rfl | rfl <;> first | rfl | (exfalso; omega)))
        have D := fun R => (Fr.refl R wr').drew
        have dx0 := x0.keep (D _)
        have db2 := b2.keep (D _)
        have db5 := b5.keep (D _)
        have do2 := o2.keep' (D _)
        have KS : ∀ u, Fr (fun k => k < w.heap.size + 2 ∨ k = w1.heap.size) wr'.drew u → u.cell? ⟨w1.heap.size, 1, none⟩ = some (.slice A2 n2 c2) := fun u hu => (db5.fr hu (.inr rfl)).c1
        have S0 := KS _ (Fr.refl _ _)
        have hWd : wr'.drew.heap.size = wr'.heap.size := rfl
        go_wp2_with fail
        refine wpTill.begin (fun u => u.cell? ⟨w1.heap.size, 1, none⟩ = some (.slice A2 n2 c2)) 5 (by kernel_rfl) ?_
        change wpTill _ _ _ _ _ _ 7 _ _ _
        refine wpTill.take 0 (.pointer (some ⟨w1.heap.size, 1, none⟩)) rfl (by kernel_rfl) (by kernel_rfl) (fun _ _ _ h => h) S0 (by rfl) (fun u hu => by go_simp) ?_
        try simp only [Act.put, List.setIfInBounds_toArray, List.set_cons_zero, List.set_cons_succ]
        refine wpTill.take 1 (.slice A2 n2 c2) rfl (by kernel_rfl) (by kernel_rfl) (fun _ _ _ h => h) S0 (by rfl) (fun u hu => by go_simp) ?_
        try simp only [Act.put, List.setIfInBounds_toArray, List.set_cons_zero, List.set_cons_succ]
        refine wpTill.next 2 rfl (by kernel_rfl) (by rfl) (fun KK hK => ?_)
        go_simp
        with_reducible refine (rint_s _ (1) (by decide) (by decide)).mono ?_
        rintro e u1 ⟨s9, v3, v4, rfl, hs9, hol, hf⟩
        obtain ⟨⟨P3, i4, j4, rfl⟩, ⟨P4, i5, j5, rfl⟩⟩ := hol.out.form
        have G1 : Fr (fun k => k < w.heap.size + 2 ∨ k = w1.heap.size) wr'.drew u1 := hf.mono fun k hk _ => hk
        refine hK _ _ (fun _ => KS _ G1) ?_
        clear hK KK
        try simp only [Act.put, List.setIfInBounds_toArray, List.set_cons_zero, List.set_cons_succ]
        refine wpTill.next 3 rfl (by kernel_rfl) (by rfl) (fun KK hK => ?_)
        go_simp
        refine hK _ _ (fun _ => KS _ (G1.alloc _)) ?_
        clear hK KK
        try simp only [Act.put, List.setIfInBounds_toArray, List.set_cons_zero, List.set_cons_succ]
        have do3 := do2.keep' hf
        have su := hf.size
        clear S0
        refine wpTill.next 4 rfl (by kernel_rfl) (by rfl) (fun KK hK => ?_)
        refine oper_push1 (rkT (K)) (v := .slice A2 n2 c2) (y := (((max y.num.sign 0 : Int) : Rat) : Rat)) (T := fun k => wr'.drew.heap.size ≤ k) rfl rfl rfl do3 ⟨_, _, by rw [HV.out, hs9.out], by rw [HV.out]; exact ⟨hol.out.num.wide hK6, hol.out.den.wide hK6⟩⟩ (fun k hk _ => ⟨by omega, fun e => by have h1 := lt2 k e.symm; have h2 := hob k e.symm; omega⟩) (fun k hk => by omega) HLn.out.1 HLn.out.2 ?_
        intro v5 u2 ho hfr hat
        obtain ⟨A3, n3, c3, rfl⟩ := ho.form
        have G2 : Fr (fun k => k < w.heap.size + 2 ∨ k = w1.heap.size) wr'.drew u2 := G1.comp hfr fun k _ hk => ⟨hk, fun e => by have h1 := hob _ e.symm; omega⟩
        refine hK _ _ (fun _ => KS _ G2) ?_
        clear hK KK
        try simp only [Act.put, List.setIfInBounds_toArray, List.set_cons_zero, List.set_cons_succ]
        have q5 := db5.fr G2 (.inr rfl)
        have e0 := q5.c1
        have e1 := q5.free 1
        have su2 := hfr.size
        have hob' : ∀ b, (Value.slice A3 n3 c3).ownBlock = some b → w1.heap.size < b := fun b hb => by
          rcases hat with e | ⟨b', e, hb'⟩
          · exact hob b (e ▸ hb)
          · rw [e] at hb; cases hb; omega
        clear do3 KS
        refine wpTill.next 5 rfl (by kernel_rfl) (by rfl) (fun KK hK => ?_)
        go_simp
        refine hK _ _ (no_wait (by kernel_rfl)) ?_
        clear hK KK
        try simp only [Act.put, List.setIfInBounds_toArray, List.set_cons_zero, List.set_cons_succ]
        refine wpTill.next 6 rfl (by kernel_rfl) (by rfl) (fun KK hK => ?_)
        go_simp
        refine hK _ _ (no_wait (by kernel_rfl)) ?_
        clear hK KK
        try simp only [Act.put, List.setIfInBounds_toArray, List.set_cons_zero, List.set_cons_succ]
        refine wpTill.done (by kernel_rfl) ?_
        have F8 := fr_set1 u2 w1.heap.size 1 (.slice A3 n3 c3)
        have fx0 := (dx0.fr G2 (.inl (by omega))).fr F8 (by omega)
        have fb2 := (db2.fr G2 (.inl (by omega))).fr F8 (by omega)
        have f5 := q5.set1 (.slice A3 n3 c3)
        have G4 := ((D (fun k => k ≤ w1.heap.size)).trans (hf.mono (T := fun k => k ≤ w1.heap.size) fun k hk _ => hk)).comp hfr (R := fun k => k ≤ w1.heap.size) fun k _ hk => ⟨hk, fun e => by have h1 := hob _ e.symm; omega⟩
        have f1 := (o1.fr (G4.mono fun k _ hk => by omega)).past F8 (fun k hk => by omega)
        have f3 := ho.past F8 (fun k hk => by omega)
        have f6 := (F.comp G4 (R := fun k => k < w.heap.size) fun k _ hk => ⟨hk, by omega⟩).comp F8 (R := fun k => k < w.heap.size) fun k _ hk => ⟨hk, by omega⟩
        have f7 := F8.size
        have f8 := G4.size
        clear e0 e1 q5 x0 b2 b5 o1 o2 do2 F D G1 G2 G4 HLn ho F8 hat hfr dx0 db2 db5
        go_wp2_with fail
        go_roundw
        case rel => exact ⟨j + 1, _, by go_num, by omega, fx0, fb2, f5, f1, by rw [HTK.out]; exact f3, hob', f6, by omega⟩
        case measure => first | (simp [intOf]; done) | (simp [intOf]; omega)
      · have HV := Lib.hid (show (((max y.num.sign 0 : Int) : Rat) : Rat) = ((0 : Int) : Rat) by rw [HC0.out]; first | (rw [if_pos h0]; rfl) | (rw [if_neg h0]; rfl) | (rcases h3 with rfl | rfl | rfl <;> first | rfl | (exfalso; omega)))
        have D := fun R => (Fr.refl R wr').drew
        have dx0 := x0.keep (D _)
        have db2 := b2.keep (D _)
        have db5 := b5.keep (D _)
        have do2 := o2.keep' (D _)
        have KS : ∀ u, Fr (fun k => k < w.heap.size + 2 ∨ k = w1.heap.size) wr'.drew u → u.cell? ⟨w1.heap.size, 1, none⟩ = some (.slice A2 n2 c2) := fun u hu => (db5.fr hu (.inr rfl)).c1
        have S0 := KS _ (Fr.refl _ _)
        have hWd : wr'.drew.heap.size = wr'.heap.size := rfl
        go_wp2_with fail
        refine wpTill.begin (fun u => u.cell? ⟨w1.heap.size, 1, none⟩ = some (.slice A2 n2 c2)) 5 (by kernel_rfl) ?_
        change wpTill _ _ _ _ _ _ 7 _ _ _
        refine wpTill.take 0 (.pointer (some ⟨w1.heap.size, 1, none⟩)) rfl (by kernel_rfl) (by kernel_rfl) (fun _ _ _ h => h) S0 (by rfl) (fun u hu => by go_simp) ?_
        try simp only [Act.put, List.setIfInBounds_toArray, List.set_cons_zero, List.set_cons_succ]
        refine wpTill.take 1 (.slice A2 n2 c2) rfl (by kernel_rfl) (by kernel_rfl) (fun _ _ _ h => h) S0 (by rfl) (fun u hu => by go_simp) ?_
        try simp only [Act.put, List.setIfInBounds_toArray, List.set_cons_zero, List.set_cons_succ]
        refine wpTill.next 2 rfl (by kernel_rfl) (by rfl) (fun KK hK => ?_)
        go_simp
        with_reducible refine (rint_s _ (0) (by decide) (by decide)).mono ?_
        rintro e u1 ⟨s9, v3, v4, rfl, hs9, hol, hf⟩
        obtain ⟨⟨P3, i4, j4, rfl⟩, ⟨P4, i5, j5, rfl⟩⟩ := hol.out.form
        have G1 : Fr (fun k => k < w.heap.size + 2 ∨ k = w1.heap.size) wr'.drew u1 := hf.mono fun k hk _ => hk
        refine hK _ _ (fun _ => KS _ G1) ?_
        clear hK KK
        try simp only [Act.put, List.setIfInBounds_toArray, List.set_cons_zero, List.set_cons_succ]
        refine wpTill.next 3 rfl (by kernel_rfl) (by rfl) (fun KK hK => ?_)
        go_simp
        refine hK _ _ (fun _ => KS _ (G1.alloc _)) ?_
        clear hK KK
        try simp only [Act.put, List.setIfInBounds_toArray, List.set_cons_zero, List.set_cons_succ]
        have do3 := do2.keep' hf
        have su := hf.size
        clear S0
        refine wpTill.next 4 rfl (by kernel_rfl) (by rfl) (fun KK hK => ?_)
        refine oper_push1 (rkT (K)) (v := .slice A2 n2 c2) (y := (((max y.num.sign 0 : Int) : Rat) : Rat)) (T := fun k => wr'.drew.heap.size ≤ k) rfl rfl rfl do3 ⟨_, _, by rw [HV.out, hs9.out], by rw [HV.out]; exact ⟨hol.out.num.wide hK6, hol.out.den.wide hK6⟩⟩ (fun k hk _ => ⟨by omega, fun e => by have h1 := lt2 k e.symm; have h2 := hob k e.symm; omega⟩) (fun k hk => by omega) HLn.out.1 HLn.out.2 ?_
        intro v5 u2 ho hfr hat
        obtain ⟨A3, n3, c3, rfl⟩ := ho.form
        have G2 : Fr (fun k => k < w.heap.size + 2 ∨ k = w1.heap.size) wr'.drew u2 := G1.comp hfr fun k _ hk => ⟨hk, fun e => by have h1 := hob _ e.symm; omega⟩
        refine hK _ _ (fun _ => KS _ G2) ?_
        clear hK KK
        try simp only [Act.put, List.setIfInBounds_toArray, List.set_cons_zero, List.set_cons_succ]
        have q5 := db5.fr G2 (.inr rfl)
        have e0 := q5.c1
        have e1 := q5.free 1
        have su2 := hfr.size
        have hob' : ∀ b, (Value.slice A3 n3 c3).ownBlock = some b → w1.heap.size < b := fun b hb => by
          rcases hat with e | ⟨b', e, hb'⟩
          · exact hob b (e ▸ hb)
          · rw [e] at hb; cases hb; omega
        clear do3 KS
        refine wpTill.next 5 rfl (by kernel_rfl) (by rfl) (fun KK hK => ?_)
        go_simp
        refine hK _ _ (no_wait (by kernel_rfl)) ?_
        clear hK KK
        try simp only [Act.put, List.setIfInBounds_toArray, List.set_cons_zero, List.set_cons_succ]
        refine wpTill.next 6 rfl (by kernel_rfl) (by rfl) (fun KK hK => ?_)
        go_simp
        refine hK _ _ (no_wait (by kernel_rfl)) ?_
        clear hK KK
        try simp only [Act.put, List.setIfInBounds_toArray, List.set_cons_zero, List.set_cons_succ]
        refine wpTill.done (by kernel_rfl) ?_
        have F8 := fr_set1 u2 w1.heap.size 1 (.slice A3 n3 c3)
        have fx0 := (dx0.fr G2 (.inl (by omega))).fr F8 (by omega)
        have fb2 := (db2.fr G2 (.inl (by omega))).fr F8 (by omega)
        have f5 := q5.set1 (.slice A3 n3 c3)
        have G4 := ((D (fun k => k ≤ w1.heap.size)).trans (hf.mono (T := fun k => k ≤ w1.heap.size) fun k hk _ => hk)).comp hfr (R := fun k => k ≤ w1.heap.size) fun k _ hk => ⟨hk, fun e => by have h1 := hob _ e.symm; omega⟩
        have f1 := (o1.fr (G4.mono fun k _ hk => by omega)).past F8 (fun k hk => by omega)
        have f3 := ho.past F8 (fun k hk => by omega)
        have f6 := (F.comp G4 (R := fun k => k < w.heap.size) fun k _ hk => ⟨hk, by omega⟩).comp F8 (R := fun k => k < w.heap.size) fun k _ hk => ⟨hk, by omega⟩
        have f7 := F8.size
        have f8 := G4.size
        clear e0 e1 q5 x0 b2 b5 o1 o2 do2 F D G1 G2 G4 HLn ho F8 hat hfr dx0 db2 db5
        go_wp2_with fail
        go_roundw
        case rel => exact ⟨j + 1, _, by go_num, by omega, fx0, fb2, f5, f1, by rw [HTK.out]; exact f3, hob', f6, by omega⟩
        case measure => first | (simp [intOf]; done) | (simp [intOf]; omega)
    · obtain rfl : j = qs.length := by omega
      rw [List.take_length] at o2
      have d0 := b5.c0
      have d1 := b5.c1
      go_wp2_with ((with_reducible apply wpList_st2); rfl; rfl; exact b2; exact tt2; rfl; rfl; intro w9 B9 F9)
      refine bodyPost_ret (results_cell2 rfl rfl B9 Tryz.underlying32 tt2) rfl ?_
      exact ⟨_, _, _, _, _, _, rfl, (o1.past F9 fun k hk => by omega).sl.any, (o2.past F9 fun k hk => by omega).sl.any, F.comp F9 fun k _ hk => ⟨hk, by omega⟩⟩
end Go.Proofs.YtlknmoegngjpcaaGreat


/- The document's Add and Mul over the elements: printed by gen_pte.py. -/
namespace Go.Proofs.YtlknmoegngjpcaaGreat
open Go.RowKit

/-- A tensor of the document and an error, answered. -/
def RefE (w : World) (sh : List Int) (qs : List Rat) (K : Nat) (r : Int) (e : Ending) (w' : World) : Prop := ∃ A i j B k l, e = .returned (.tuple #[.agg #[.slice A i j, .slice B k l], .int .i64 r]) ∧ (r = 0 → Sl Im (fun _ => True) w' (.slice A i j) sh ∧ Sl (Rk K) (fun _ => True) w' (.slice B k l) qs) ∧ Fr (fun k => k < w.heap.size) w w'
theorem zip_step {f : Rat → Rat → Rat} {qs ps : List Rat} {j : Nat} (h1 : j < qs.length) (h2 : j < ps.length) : (List.zipWith f qs ps).take (j + 1) = (List.zipWith f qs ps).take j ++ [f qs[j] ps[j]] := by
  have h : j < (List.zipWith f qs ps).length := by rw [List.length_zipWith]; omega
  rw [← List.take_append_getElem h, List.getElem_zipWith]

set_option maxRecDepth 20000 in
set_option maxHeartbeats 8000000 in
theorem r8add_t {S T U V : Nat → Prop} (w : World) (vs ve : Value) (us ue : Value) (sh2 : List Int) (ps : List Rat) (sh : List Int) (qs : List Rat) (K : Nat) (hs : Sl Im S w vs sh) (hq : Sl (Rk K) T w ve qs) (hsl : sh.length ≤ 1099511627000) (hql : qs.length ≤ 1099511627000) (hs2 : Sl Im U w us sh2) (hq2 : Sl (Rk K) V w ue ps) (hpl : ps.length ≤ 1099511627000) (hK1 : 1 ≤ K) (hKl : K ≤ 104857600) (r : Int) (hr : Hid ((if sh = sh2 then (0 : Int) else 13) = r)) (hlen : sh = sh2 → qs.length = ps.length) :
    Calls Tryz.prog 28 #[.agg #[vs, ve], .agg #[us, ue]] w (RefE w sh (List.zipWith (fun (x y : Rat) => x + y) qs ps) (4 * K) r) := by
  obtain ⟨A, c, rfl, _, _, hlx⟩ := hs.slice
  obtain ⟨A', c', rfl, _, _, hly⟩ := hq.slice
  obtain ⟨A9, c9, rfl, _, _, hl9⟩ := hs2.slice
  obtain ⟨B9, d9, rfl, _, _, hm9⟩ := hq2.slice
  have HS2 := Lib.hid (hs2.low Im_pos)
  have HQ2 := Lib.hid (hq2.low (Rk_pos K))
  clear hs2 hq2
  have F := ((((Fr.refl (fun k => k < w.heap.size) w).alloc (.cells #[.slice A sh.length c, .slice A' qs.length c'] 32)).alloc (.cells #[.slice A9 sh2.length c9, .slice B9 ps.length d9] 32)).alloc (.cells #[.slice none 0 0, .slice none 0 0] 32))
  have x0 := (((Box2.new w 32 (.slice A sh.length c) (.slice A' qs.length c')).alloc (.cells #[.slice A9 sh2.length c9, .slice B9 ps.length d9] 32)).alloc (.cells #[.slice none 0 0, .slice none 0 0] 32))
  have x1 := ((Box2.new (w.alloc (.cells #[.slice A sh.length c, .slice A' qs.length c'] 32)) 32 (.slice A9 sh2.length c9) (.slice B9 ps.length d9)).alloc (.cells #[.slice none 0 0, .slice none 0 0] 32))
  have b2 := (Box2.new ((w.alloc (.cells #[.slice A sh.length c, .slice A' qs.length c'] 32)).alloc (.cells #[.slice A9 sh2.length c9, .slice B9 ps.length d9] 32)) 32 (.slice none 0 0) (.slice none 0 0))
  simp only [World.size_alloc] at x1 b2
  have HS := Lib.hid (hs.low Im_pos)
  have HQ := Lib.hid (hq.low (Rk_pos K))
  clear hs hq
  have a0 := x0.c0
  have a1 := x0.c1
  have e0 := x1.c0
  go_enter Tryz.func28, Tryz.ntmps28
  go_wp2_with fail
  generalize ((w.alloc (.cells #[.slice A sh.length c, .slice A' qs.length c'] 32)).alloc (.cells #[.slice A9 sh2.length c9, .slice B9 ps.length d9] 32)).alloc (.cells #[.slice none 0 0, .slice none 0 0] 32) = W0 at F x0 x1 b2 a0 a1 e0 ⊢
  obtain ⟨b, hb⟩ : ∃ b, decide (sh = sh2) = b := ⟨_, rfl⟩
  have HP := Lib.hid (sameshape_calls W0 (.slice A sh.length c) (.slice A9 sh2.length c9) sh sh2 (HS.out.fr F) (HS2.out.fr F))
  rw [hb] at HP
  with_reducible refine HP.out.mono ?_
  rintro e W0 ⟨rfl, hf⟩
  replace x0 := x0.fr hf trivial
  replace x1 := x1.fr hf trivial
  replace b2 := b2.fr hf trivial
  replace F := F.comp hf (R := fun k => k < w.heap.size) fun k _ hk => ⟨hk, trivial⟩
  have HB := Lib.hid hb
  clear hf HP hb a0 a1 e0
  by_cases hbt : b = true
  case neg =>
    have hbf : b = false := by cases b; rfl; exact absurd rfl hbt
    clear hbt
    subst hbf
    have hr13 : r = 13 := by rw [← hr.out, if_neg (of_decide_eq_false HB.out)]
    subst hr13
    have lt2 := b2.lt
    go_wp2_with ((with_reducible apply wpList_st2); rfl; rfl; exact b2; exact tt2; rfl; rfl; intro w9 B9 F9)
    refine bodyPost_ret (results_cell2_tmp rfl rfl B9 Tryz.underlying32 tt2) rfl ?_
    exact ⟨none, 0, 0, none, 0, 0, rfl, fun h => absurd h (by decide), F.comp F9 fun k _ hk => ⟨hk, by omega⟩⟩
  subst hbt
  have hsh := of_decide_eq_true HB.out
  have hr0 : r = 0 := by rw [← hr.out, if_pos hsh]
  subst hr0
  have hlen9 := Nat.le_of_eq (hlen hsh)
  clear hsh HB
  have a0 := x0.c0
  have a1 := x0.c1
  go_wp2_with fail
  have sW := F.size
  have lt2 := b2.lt
  with_reducible refine (shaped_t _ (.slice A sh.length c) (.slice A' qs.length c') sh (HS.out.fr F) ⟨_, _, _, rfl⟩ hsl).mono ?_
  rintro e w1 ⟨A1, n1, c1, rfl, ho1, hf⟩
  have s1 := hf.size
  have al := fun R => (Fr.refl R w1).alloc (.cells #[.slice A1 n1 c1, .slice none 0 0] 32)
  have b5 := Box2.new w1 32 (.slice A1 n1 c1) (.slice none 0 0)
  replace x0 := (x0.keep hf).keep (al _)
  replace x1 := (x1.keep hf).keep (al _)
  replace b2 := (b2.keep hf).keep (al _)
  have o1 := (ho1.bd.keep' (al _)).mono (T := fun k => w.heap.size + 3 ≤ k ∧ k < w1.heap.size) fun k hk => ⟨by have := hk.1; omega, hk.2⟩
  replace F := fr_then (fr_then F hf) (al _)
  clear hf al ho1 a0 a1
  go_wp2_with fail
  go_loopw [7] (fun k W => ∃ (j : Nat) (v2 : Value), k = .int .i64 j ∧ j ≤ qs.length ∧ Box2 W w.heap.size 32 (.slice A sh.length c) (.slice A' qs.length c') ∧ Box2 W (w.heap.size + 1) 32 (.slice A9 sh2.length c9) (.slice B9 ps.length d9) ∧ Box2 W (w.heap.size + 2) 32 (.slice none 0 0) (.slice none 0 0) ∧ Box2 W w1.heap.size 32 (.slice A1 n1 c1) v2 ∧ Own Im 3 (fun k => w.heap.size + 3 ≤ k ∧ k < w1.heap.size) W (.slice A1 n1 c1) sh ∧ Own (Rk (4 * K)) 56 (fun k => k < w.heap.size ∨ w1.heap.size < k) W v2 ((List.zipWith (fun (x y : Rat) => x + y) qs ps).take j) ∧ (∀ b, v2.ownBlock = some b → w1.heap.size < b) ∧ Fr (fun k => k < w.heap.size) w W ∧ w1.heap.size < W.heap.size) (fun k _ => qs.length - (intOf k).toNat)
  case atStart => exact ⟨0, _, rfl, by omega, x0, x1, b2, b5, o1, Own.nil _ _ _ _, fun b h => by simp [Value.ownBlock] at h, F, by simp⟩
  case round =>
    clear x0 x1 b2 b5 o1 F
    obtain ⟨j, v2, rfl, hj, x0, x1, b2, b5, o1, o2, hob, F, hwr⟩ := hrel
    obtain ⟨A2, n2, c2, rfl⟩ := o2.form
    have a1 := x0.c1
    by_cases hlt : j < qs.length
    · have hlt9 : j < ps.length := by omega
      have HTK := Lib.hid (zip_step (f := (fun (x y : Rat) => x + y)) hlt hlt9)
      obtain ⟨ad, P, n, d, Q, m, o, rfl, hS, g0, g1, g2, rr⟩ := Rk_get (HQ.out.fr F) hlt
      obtain ⟨ae, P9, n9, e9, Q9, m9, g9, rfl, hS9, k0, k1, k2, re⟩ := Rk_get (HQ2.out.fr F) hlt9
      generalize qs[j] = y at g0 rr HTK
      generalize ps[j] = z at k0 re HTK
      have HLn := Lib.hid (show (((List.zipWith (fun (x y : Rat) => x + y) qs ps).take j).length + 1) * 56 ≤ 140737488355328 ∧ ((List.zipWith (fun (x y : Rat) => x + y) qs ps).take j).length + 1 ≤ 9223372036854775807 by rw [List.length_take, List.length_zipWith]; omega)
      have lt2 := o2.lt
      have l1 := x0.lt
      have l2 := b2.lt
      have l3 := b5.lt
      have RRd := Lib.hid (rr.keep (Fr.refl (fun k => k < wr.heap.size) wr).drew)
      have RRe := Lib.hid (re.keep (Fr.refl (fun k => k < wr.heap.size) wr).drew)
      have D := fun R => (Fr.refl R wr).drew
      have dx0 := x0.keep (D _)
      have dx1 := x1.keep (D _)
      have db2 := b2.keep (D _)
      have db5 := b5.keep (D _)
      have do2 := o2.keep' (D _)
      have KS : ∀ u, Fr (fun k => k < w.heap.size + 3 ∨ k = w1.heap.size) wr.drew u → u.cell? ⟨w1.heap.size, 1, none⟩ = some (.slice A2 n2 c2) ∧ u.cell? ⟨w.heap.size, 1, none⟩ = some (.slice (some ad) qs.length c') ∧ u.cell? (ad.add (j * 3)) = some (.bool (sg y)) ∧ u.cell? ⟨(ad.add (j * 3)).block, (ad.add (j * 3)).off + 1, none⟩ = some (.slice P n d) ∧ u.cell? ⟨(ad.add (j * 3)).block, (ad.add (j * 3)).off + 2, none⟩ = some (.slice Q m o) ∧ u.cell? ⟨w.heap.size + 1, 1, none⟩ = some (.slice (some ae) ps.length d9) ∧ u.cell? (ae.add (j * 3)) = some (.bool (sg z)) ∧ u.cell? ⟨(ae.add (j * 3)).block, (ae.add (j * 3)).off + 1, none⟩ = some (.slice P9 n9 e9) ∧ u.cell? ⟨(ae.add (j * 3)).block, (ae.add (j * 3)).off + 2, none⟩ = some (.slice Q9 m9 g9) := fun u hu => ⟨(db5.fr hu (.inr rfl)).c1, (dx0.fr hu (.inl (by omega))).c1, hu.cell g0 (.inl (by rw [addr_block]; omega)), hu.cell g1 (.inl (by show (ad.add (j * 3)).block < _; rw [addr_block]; omega)), hu.cell g2 (.inl (by show (ad.add (j * 3)).block < _; rw [addr_block]; omega)), (dx1.fr hu (.inl (by omega))).c1, hu.cell k0 (.inl (by rw [addr_block]; omega)), hu.cell k1 (.inl (by show (ae.add (j * 3)).block < _; rw [addr_block]; omega)), hu.cell k2 (.inl (by show (ae.add (j * 3)).block < _; rw [addr_block]; omega))⟩
      have S0 := KS _ (Fr.refl _ _)
      have hWd : wr.drew.heap.size = wr.heap.size := rfl
      go_wp2_with fail
      refine wpTill.begin (fun u => u.cell? ⟨w1.heap.size, 1, none⟩ = some (.slice A2 n2 c2) ∧ u.cell? ⟨w.heap.size, 1, none⟩ = some (.slice (some ad) qs.length c') ∧ u.cell? (ad.add (j * 3)) = some (.bool (sg y)) ∧ u.cell? ⟨(ad.add (j * 3)).block, (ad.add (j * 3)).off + 1, none⟩ = some (.slice P n d) ∧ u.cell? ⟨(ad.add (j * 3)).block, (ad.add (j * 3)).off + 2, none⟩ = some (.slice Q m o) ∧ u.cell? ⟨w.heap.size + 1, 1, none⟩ = some (.slice (some ae) ps.length d9) ∧ u.cell? (ae.add (j * 3)) = some (.bool (sg z)) ∧ u.cell? ⟨(ae.add (j * 3)).block, (ae.add (j * 3)).off + 1, none⟩ = some (.slice P9 n9 e9) ∧ u.cell? ⟨(ae.add (j * 3)).block, (ae.add (j * 3)).off + 2, none⟩ = some (.slice Q9 m9 g9)) 15 (by kernel_rfl) ?_
      change wpTill _ _ _ _ _ _ 17 _ _ _
      refine wpTill.take 0 (.pointer (some ⟨w1.heap.size, 1, none⟩)) rfl (by kernel_rfl) (by kernel_rfl) (fun _ _ _ h => h) S0 (by rfl) (fun u hu => by go_simp) ?_
      try simp only [Act.put, List.setIfInBounds_toArray, List.set_cons_zero, List.set_cons_succ]
      refine wpTill.take 1 (.slice A2 n2 c2) rfl (by kernel_rfl) (by kernel_rfl) (fun _ _ _ h => h) S0 (by rfl) (fun u hu => by go_simp) ?_
      try simp only [Act.put, List.setIfInBounds_toArray, List.set_cons_zero, List.set_cons_succ]
      refine wpTill.take 2 (.pointer (some ⟨w.heap.size, 1, none⟩)) rfl (by kernel_rfl) (by kernel_rfl) (fun _ _ _ h => h) S0 (by rfl) (fun u hu => by go_simp) ?_
      try simp only [Act.put, List.setIfInBounds_toArray, List.set_cons_zero, List.set_cons_succ]
      refine wpTill.take 3 (.slice (some ad) qs.length c') rfl (by kernel_rfl) (by kernel_rfl) (fun _ _ _ h => h) S0 (by rfl) (fun u hu => by go_simp) ?_
      try simp only [Act.put, List.setIfInBounds_toArray, List.set_cons_zero, List.set_cons_succ]
      refine wpTill.take 4 (.int .i64 j) rfl (by kernel_rfl) (by kernel_rfl) (fun _ _ _ h => h) S0 (by rfl) (fun u hu => by go_simp) ?_
      try simp only [Act.put, List.setIfInBounds_toArray, List.set_cons_zero, List.set_cons_succ]
      refine wpTill.take 5 (.pointer (some (ad.add (j * 3)))) rfl (by kernel_rfl) (by kernel_rfl) (fun _ _ _ h => h) S0 (by rfl) (fun u hu => by go_simp) ?_
      try simp only [Act.put, List.setIfInBounds_toArray, List.set_cons_zero, List.set_cons_succ]
      refine wpTill.take 6 (.agg #[.bool (sg y), .slice P n d, .slice Q m o]) rfl (by kernel_rfl) (by kernel_rfl) (fun _ _ _ h => h) S0 (by rfl) (fun u hu => by go_simp) ?_
      try simp only [Act.put, List.setIfInBounds_toArray, List.set_cons_zero, List.set_cons_succ]
      refine wpTill.take 7 (.pointer (some ⟨w.heap.size + 1, 1, none⟩)) rfl (by kernel_rfl) (by kernel_rfl) (fun _ _ _ h => h) S0 (by rfl) (fun u hu => by go_simp) ?_
      try simp only [Act.put, List.setIfInBounds_toArray, List.set_cons_zero, List.set_cons_succ]
      refine wpTill.take 8 (.slice (some ae) ps.length d9) rfl (by kernel_rfl) (by kernel_rfl) (fun _ _ _ h => h) S0 (by rfl) (fun u hu => by go_simp) ?_
      try simp only [Act.put, List.setIfInBounds_toArray, List.set_cons_zero, List.set_cons_succ]
      refine wpTill.take 9 (.int .i64 j) rfl (by kernel_rfl) (by kernel_rfl) (fun _ _ _ h => h) S0 (by rfl) (fun u hu => by go_simp) ?_
      try simp only [Act.put, List.setIfInBounds_toArray, List.set_cons_zero, List.set_cons_succ]
      refine wpTill.take 10 (.pointer (some (ae.add (j * 3)))) rfl (by kernel_rfl) (by kernel_rfl) (fun _ _ _ h => h) S0 (by rfl) (fun u hu => by go_simp) ?_
      try simp only [Act.put, List.setIfInBounds_toArray, List.set_cons_zero, List.set_cons_succ]
      refine wpTill.take 11 (.agg #[.bool (sg z), .slice P9 n9 e9, .slice Q9 m9 g9]) rfl (by kernel_rfl) (by kernel_rfl) (fun _ _ _ h => h) S0 (by rfl) (fun u hu => by go_simp) ?_
      try simp only [Act.put, List.setIfInBounds_toArray, List.set_cons_zero, List.set_cons_succ]
      refine wpTill.next 12 rfl (by kernel_rfl) (by rfl) (fun KK hK => ?_)
      go_simp
      with_reducible refine (radd_h _ (sg y) (sg z) (.slice P n d) (.slice Q m o) (.slice P9 n9 e9) (.slice Q9 m9 g9) y z K RRd RRe (Lib.hid rfl) (Lib.hid rfl) hK1 hKl).mono ?_
      rintro e u1 ⟨s9, v3, v4, rfl, hs9, hol, hf⟩
      obtain ⟨⟨P3, i4, j4, rfl⟩, ⟨P4, i5, j5, rfl⟩⟩ := hol.out.form
      have G1 : Fr (fun k => k < w.heap.size + 3 ∨ k = w1.heap.size) wr.drew u1 := hf.mono fun k hk _ => hk
      refine hK _ _ (fun _ => KS _ G1) ?_
      clear hK KK
      try simp only [Act.put, List.setIfInBounds_toArray, List.set_cons_zero, List.set_cons_succ]
      refine wpTill.next 13 rfl (by kernel_rfl) (by rfl) (fun KK hK => ?_)
      go_simp
      refine hK _ _ (fun _ => KS _ (G1.alloc _)) ?_
      clear hK KK
      try simp only [Act.put, List.setIfInBounds_toArray, List.set_cons_zero, List.set_cons_succ]
      have do3 := do2.keep' hf
      have su := hf.size
      clear S0
      refine wpTill.next 14 rfl (by kernel_rfl) (by rfl) (fun KK hK => ?_)
      refine oper_push1 (rkT (4 * K)) (v := .slice A2 n2 c2) (y := y + z) (T := fun k => wr.drew.heap.size ≤ k) rfl rfl rfl do3 ⟨_, _, by rw [hs9.out], hol.out⟩ (fun k hk _ => ⟨by omega, fun e => by have h1 := lt2 k e.symm; have h2 := hob k e.symm; omega⟩) (fun k hk => by omega) HLn.out.1 HLn.out.2 ?_
      intro v5 u2 ho hfr hat
      obtain ⟨A3, n3, c3, rfl⟩ := ho.form
      have G2 : Fr (fun k => k < w.heap.size + 3 ∨ k = w1.heap.size) wr.drew u2 := G1.comp hfr fun k _ hk => ⟨hk, fun e => by have h1 := hob _ e.symm; omega⟩
      refine hK _ _ (fun _ => KS _ G2) ?_
      clear hK KK
      try simp only [Act.put, List.setIfInBounds_toArray, List.set_cons_zero, List.set_cons_succ]
      have q5 := db5.fr G2 (.inr rfl)
      have e0 := q5.c1
      have e1 := q5.free 1
      have su2 := hfr.size
      have hob' : ∀ b, (Value.slice A3 n3 c3).ownBlock = some b → w1.heap.size < b := fun b hb => by
        rcases hat with e | ⟨b', e, hb'⟩
        · exact hob b (e ▸ hb)
        · rw [e] at hb; cases hb; omega
      clear do3 KS
      refine wpTill.next 15 rfl (by kernel_rfl) (by rfl) (fun KK hK => ?_)
      go_simp
      refine hK _ _ (no_wait (by kernel_rfl)) ?_
      clear hK KK
      try simp only [Act.put, List.setIfInBounds_toArray, List.set_cons_zero, List.set_cons_succ]
      refine wpTill.next 16 rfl (by kernel_rfl) (by rfl) (fun KK hK => ?_)
      go_simp
      refine hK _ _ (no_wait (by kernel_rfl)) ?_
      clear hK KK
      try simp only [Act.put, List.setIfInBounds_toArray, List.set_cons_zero, List.set_cons_succ]
      refine wpTill.done (by kernel_rfl) ?_
      have F8 := fr_set1 u2 w1.heap.size 1 (.slice A3 n3 c3)
      have fx0 := (dx0.fr G2 (.inl (by omega))).fr F8 (by omega)
      have fx1 := (dx1.fr G2 (.inl (by omega))).fr F8 (by omega)
      have fb2 := (db2.fr G2 (.inl (by omega))).fr F8 (by omega)
      have f5 := q5.set1 (.slice A3 n3 c3)
      have G4 := ((D (fun k => k ≤ w1.heap.size)).trans (hf.mono (T := fun k => k ≤ w1.heap.size) fun k hk _ => hk)).comp hfr (R := fun k => k ≤ w1.heap.size) fun k _ hk => ⟨hk, fun e => by have h1 := hob _ e.symm; omega⟩
      have f1 := (o1.fr (G4.mono fun k _ hk => by omega)).past F8 (fun k hk => by omega)
      have f3 := ho.past F8 (fun k hk => by omega)
      have f6 := (F.comp G4 (R := fun k => k < w.heap.size) fun k _ hk => ⟨hk, by omega⟩).comp F8 (R := fun k => k < w.heap.size) fun k _ hk => ⟨hk, by omega⟩
      have f7 := F8.size
      have f8 := G4.size
      clear e0 e1 q5 x0 x1 b2 b5 o1 o2 do2 F D G1 G2 G4 HLn ho F8 hat hfr dx0 dx1 db2 db5
      go_wp2_with fail
      go_roundw
      case rel => exact ⟨j + 1, _, by go_num, by omega, fx0, fx1, fb2, f5, f1, by rw [HTK.out]; exact f3, hob', f6, by omega⟩
      case measure => first | (simp [intOf]; done) | (simp [intOf]; omega)
    · obtain rfl : j = qs.length := by omega
      rw [List.take_of_length_le (by rw [List.length_zipWith]; omega)] at o2
      have d0 := b5.c0
      have d1 := b5.c1
      go_wp2_with ((with_reducible apply wpList_st2); rfl; rfl; exact b2; exact tt2; rfl; rfl; intro w9 B9 F9)
      refine bodyPost_ret (results_cell2_tmp rfl rfl B9 Tryz.underlying32 tt2) rfl ?_
      exact ⟨_, _, _, _, _, _, rfl, fun _ => ⟨(o1.past F9 fun k hk => by omega).sl.any, (o2.past F9 fun k hk => by omega).sl.any⟩, F.comp F9 fun k _ hk => ⟨hk, by omega⟩⟩

set_option maxRecDepth 20000 in
set_option maxHeartbeats 8000000 in
theorem r8mul_t {S T U V : Nat → Prop} (w : World) (vs ve : Value) (us ue : Value) (sh2 : List Int) (ps : List Rat) (sh : List Int) (qs : List Rat) (K : Nat) (hs : Sl Im S w vs sh) (hq : Sl (Rk K) T w ve qs) (hsl : sh.length ≤ 1099511627000) (hql : qs.length ≤ 1099511627000) (hs2 : Sl Im U w us sh2) (hq2 : Sl (Rk K) V w ue ps) (hpl : ps.length ≤ 1099511627000) (hK1 : 1 ≤ K) (hKl : K ≤ 104857600) (r : Int) (hr : Hid ((if sh = sh2 then (0 : Int) else 13) = r)) (hlen : sh = sh2 → qs.length = ps.length) :
    Calls Tryz.prog 32 #[.agg #[vs, ve], .agg #[us, ue]] w (RefE w sh (List.zipWith (fun (x y : Rat) => x * y) qs ps) (2 * K) r) := by
  obtain ⟨A, c, rfl, _, _, hlx⟩ := hs.slice
  obtain ⟨A', c', rfl, _, _, hly⟩ := hq.slice
  obtain ⟨A9, c9, rfl, _, _, hl9⟩ := hs2.slice
  obtain ⟨B9, d9, rfl, _, _, hm9⟩ := hq2.slice
  have HS2 := Lib.hid (hs2.low Im_pos)
  have HQ2 := Lib.hid (hq2.low (Rk_pos K))
  clear hs2 hq2
  have F := ((((Fr.refl (fun k => k < w.heap.size) w).alloc (.cells #[.slice A sh.length c, .slice A' qs.length c'] 32)).alloc (.cells #[.slice A9 sh2.length c9, .slice B9 ps.length d9] 32)).alloc (.cells #[.slice none 0 0, .slice none 0 0] 32))
  have x0 := (((Box2.new w 32 (.slice A sh.length c) (.slice A' qs.length c')).alloc (.cells #[.slice A9 sh2.length c9, .slice B9 ps.length d9] 32)).alloc (.cells #[.slice none 0 0, .slice none 0 0] 32))
  have x1 := ((Box2.new (w.alloc (.cells #[.slice A sh.length c, .slice A' qs.length c'] 32)) 32 (.slice A9 sh2.length c9) (.slice B9 ps.length d9)).alloc (.cells #[.slice none 0 0, .slice none 0 0] 32))
  have b2 := (Box2.new ((w.alloc (.cells #[.slice A sh.length c, .slice A' qs.length c'] 32)).alloc (.cells #[.slice A9 sh2.length c9, .slice B9 ps.length d9] 32)) 32 (.slice none 0 0) (.slice none 0 0))
  simp only [World.size_alloc] at x1 b2
  have HS := Lib.hid (hs.low Im_pos)
  have HQ := Lib.hid (hq.low (Rk_pos K))
  clear hs hq
  have a0 := x0.c0
  have a1 := x0.c1
  have e0 := x1.c0
  go_enter Tryz.func32, Tryz.ntmps32
  go_wp2_with fail
  generalize ((w.alloc (.cells #[.slice A sh.length c, .slice A' qs.length c'] 32)).alloc (.cells #[.slice A9 sh2.length c9, .slice B9 ps.length d9] 32)).alloc (.cells #[.slice none 0 0, .slice none 0 0] 32) = W0 at F x0 x1 b2 a0 a1 e0 ⊢
  obtain ⟨b, hb⟩ : ∃ b, decide (sh = sh2) = b := ⟨_, rfl⟩
  have HP := Lib.hid (sameshape_calls W0 (.slice A sh.length c) (.slice A9 sh2.length c9) sh sh2 (HS.out.fr F) (HS2.out.fr F))
  rw [hb] at HP
  with_reducible refine HP.out.mono ?_
  rintro e W0 ⟨rfl, hf⟩
  replace x0 := x0.fr hf trivial
  replace x1 := x1.fr hf trivial
  replace b2 := b2.fr hf trivial
  replace F := F.comp hf (R := fun k => k < w.heap.size) fun k _ hk => ⟨hk, trivial⟩
  have HB := Lib.hid hb
  clear hf HP hb a0 a1 e0
  by_cases hbt : b = true
  case neg =>
    have hbf : b = false := by cases b; rfl; exact absurd rfl hbt
    clear hbt
    subst hbf
    have hr13 : r = 13 := by rw [← hr.out, if_neg (of_decide_eq_false HB.out)]
    subst hr13
    have lt2 := b2.lt
    go_wp2_with ((with_reducible apply wpList_st2); rfl; rfl; exact b2; exact tt2; rfl; rfl; intro w9 B9 F9)
    refine bodyPost_ret (results_cell2_tmp rfl rfl B9 Tryz.underlying32 tt2) rfl ?_
    exact ⟨none, 0, 0, none, 0, 0, rfl, fun h => absurd h (by decide), F.comp F9 fun k _ hk => ⟨hk, by omega⟩⟩
  subst hbt
  have hsh := of_decide_eq_true HB.out
  have hr0 : r = 0 := by rw [← hr.out, if_pos hsh]
  subst hr0
  have hlen9 := Nat.le_of_eq (hlen hsh)
  clear hsh HB
  have a0 := x0.c0
  have a1 := x0.c1
  go_wp2_with fail
  have sW := F.size
  have lt2 := b2.lt
  with_reducible refine (shaped_t _ (.slice A sh.length c) (.slice A' qs.length c') sh (HS.out.fr F) ⟨_, _, _, rfl⟩ hsl).mono ?_
  rintro e w1 ⟨A1, n1, c1, rfl, ho1, hf⟩
  have s1 := hf.size
  have al := fun R => (Fr.refl R w1).alloc (.cells #[.slice A1 n1 c1, .slice none 0 0] 32)
  have b5 := Box2.new w1 32 (.slice A1 n1 c1) (.slice none 0 0)
  replace x0 := (x0.keep hf).keep (al _)
  replace x1 := (x1.keep hf).keep (al _)
  replace b2 := (b2.keep hf).keep (al _)
  have o1 := (ho1.bd.keep' (al _)).mono (T := fun k => w.heap.size + 3 ≤ k ∧ k < w1.heap.size) fun k hk => ⟨by have := hk.1; omega, hk.2⟩
  replace F := fr_then (fr_then F hf) (al _)
  clear hf al ho1 a0 a1
  go_wp2_with fail
  go_loopw [7] (fun k W => ∃ (j : Nat) (v2 : Value), k = .int .i64 j ∧ j ≤ qs.length ∧ Box2 W w.heap.size 32 (.slice A sh.length c) (.slice A' qs.length c') ∧ Box2 W (w.heap.size + 1) 32 (.slice A9 sh2.length c9) (.slice B9 ps.length d9) ∧ Box2 W (w.heap.size + 2) 32 (.slice none 0 0) (.slice none 0 0) ∧ Box2 W w1.heap.size 32 (.slice A1 n1 c1) v2 ∧ Own Im 3 (fun k => w.heap.size + 3 ≤ k ∧ k < w1.heap.size) W (.slice A1 n1 c1) sh ∧ Own (Rk (2 * K)) 56 (fun k => k < w.heap.size ∨ w1.heap.size < k) W v2 ((List.zipWith (fun (x y : Rat) => x * y) qs ps).take j) ∧ (∀ b, v2.ownBlock = some b → w1.heap.size < b) ∧ Fr (fun k => k < w.heap.size) w W ∧ w1.heap.size < W.heap.size) (fun k _ => qs.length - (intOf k).toNat)
  case atStart => exact ⟨0, _, rfl, by omega, x0, x1, b2, b5, o1, Own.nil _ _ _ _, fun b h => by simp [Value.ownBlock] at h, F, by simp⟩
  case round =>
    clear x0 x1 b2 b5 o1 F
    obtain ⟨j, v2, rfl, hj, x0, x1, b2, b5, o1, o2, hob, F, hwr⟩ := hrel
    obtain ⟨A2, n2, c2, rfl⟩ := o2.form
    have a1 := x0.c1
    by_cases hlt : j < qs.length
    · have hlt9 : j < ps.length := by omega
      have HTK := Lib.hid (zip_step (f := (fun (x y : Rat) => x * y)) hlt hlt9)
      obtain ⟨ad, P, n, d, Q, m, o, rfl, hS, g0, g1, g2, rr⟩ := Rk_get (HQ.out.fr F) hlt
      obtain ⟨ae, P9, n9, e9, Q9, m9, g9, rfl, hS9, k0, k1, k2, re⟩ := Rk_get (HQ2.out.fr F) hlt9
      generalize qs[j] = y at g0 rr HTK
      generalize ps[j] = z at k0 re HTK
      have HLn := Lib.hid (show (((List.zipWith (fun (x y : Rat) => x * y) qs ps).take j).length + 1) * 56 ≤ 140737488355328 ∧ ((List.zipWith (fun (x y : Rat) => x * y) qs ps).take j).length + 1 ≤ 9223372036854775807 by rw [List.length_take, List.length_zipWith]; omega)
      have lt2 := o2.lt
      have l1 := x0.lt
      have l2 := b2.lt
      have l3 := b5.lt
      have RRd := Lib.hid (rr.keep (Fr.refl (fun k => k < wr.heap.size) wr).drew)
      have RRe := Lib.hid (re.keep (Fr.refl (fun k => k < wr.heap.size) wr).drew)
      have D := fun R => (Fr.refl R wr).drew
      have dx0 := x0.keep (D _)
      have dx1 := x1.keep (D _)
      have db2 := b2.keep (D _)
      have db5 := b5.keep (D _)
      have do2 := o2.keep' (D _)
      have KS : ∀ u, Fr (fun k => k < w.heap.size + 3 ∨ k = w1.heap.size) wr.drew u → u.cell? ⟨w1.heap.size, 1, none⟩ = some (.slice A2 n2 c2) ∧ u.cell? ⟨w.heap.size, 1, none⟩ = some (.slice (some ad) qs.length c') ∧ u.cell? (ad.add (j * 3)) = some (.bool (sg y)) ∧ u.cell? ⟨(ad.add (j * 3)).block, (ad.add (j * 3)).off + 1, none⟩ = some (.slice P n d) ∧ u.cell? ⟨(ad.add (j * 3)).block, (ad.add (j * 3)).off + 2, none⟩ = some (.slice Q m o) ∧ u.cell? ⟨w.heap.size + 1, 1, none⟩ = some (.slice (some ae) ps.length d9) ∧ u.cell? (ae.add (j * 3)) = some (.bool (sg z)) ∧ u.cell? ⟨(ae.add (j * 3)).block, (ae.add (j * 3)).off + 1, none⟩ = some (.slice P9 n9 e9) ∧ u.cell? ⟨(ae.add (j * 3)).block, (ae.add (j * 3)).off + 2, none⟩ = some (.slice Q9 m9 g9) := fun u hu => ⟨(db5.fr hu (.inr rfl)).c1, (dx0.fr hu (.inl (by omega))).c1, hu.cell g0 (.inl (by rw [addr_block]; omega)), hu.cell g1 (.inl (by show (ad.add (j * 3)).block < _; rw [addr_block]; omega)), hu.cell g2 (.inl (by show (ad.add (j * 3)).block < _; rw [addr_block]; omega)), (dx1.fr hu (.inl (by omega))).c1, hu.cell k0 (.inl (by rw [addr_block]; omega)), hu.cell k1 (.inl (by show (ae.add (j * 3)).block < _; rw [addr_block]; omega)), hu.cell k2 (.inl (by show (ae.add (j * 3)).block < _; rw [addr_block]; omega))⟩
      have S0 := KS _ (Fr.refl _ _)
      have hWd : wr.drew.heap.size = wr.heap.size := rfl
      go_wp2_with fail
      refine wpTill.begin (fun u => u.cell? ⟨w1.heap.size, 1, none⟩ = some (.slice A2 n2 c2) ∧ u.cell? ⟨w.heap.size, 1, none⟩ = some (.slice (some ad) qs.length c') ∧ u.cell? (ad.add (j * 3)) = some (.bool (sg y)) ∧ u.cell? ⟨(ad.add (j * 3)).block, (ad.add (j * 3)).off + 1, none⟩ = some (.slice P n d) ∧ u.cell? ⟨(ad.add (j * 3)).block, (ad.add (j * 3)).off + 2, none⟩ = some (.slice Q m o) ∧ u.cell? ⟨w.heap.size + 1, 1, none⟩ = some (.slice (some ae) ps.length d9) ∧ u.cell? (ae.add (j * 3)) = some (.bool (sg z)) ∧ u.cell? ⟨(ae.add (j * 3)).block, (ae.add (j * 3)).off + 1, none⟩ = some (.slice P9 n9 e9) ∧ u.cell? ⟨(ae.add (j * 3)).block, (ae.add (j * 3)).off + 2, none⟩ = some (.slice Q9 m9 g9)) 15 (by kernel_rfl) ?_
      change wpTill _ _ _ _ _ _ 17 _ _ _
      refine wpTill.take 0 (.pointer (some ⟨w1.heap.size, 1, none⟩)) rfl (by kernel_rfl) (by kernel_rfl) (fun _ _ _ h => h) S0 (by rfl) (fun u hu => by go_simp) ?_
      try simp only [Act.put, List.setIfInBounds_toArray, List.set_cons_zero, List.set_cons_succ]
      refine wpTill.take 1 (.slice A2 n2 c2) rfl (by kernel_rfl) (by kernel_rfl) (fun _ _ _ h => h) S0 (by rfl) (fun u hu => by go_simp) ?_
      try simp only [Act.put, List.setIfInBounds_toArray, List.set_cons_zero, List.set_cons_succ]
      refine wpTill.take 2 (.pointer (some ⟨w.heap.size, 1, none⟩)) rfl (by kernel_rfl) (by kernel_rfl) (fun _ _ _ h => h) S0 (by rfl) (fun u hu => by go_simp) ?_
      try simp only [Act.put, List.setIfInBounds_toArray, List.set_cons_zero, List.set_cons_succ]
      refine wpTill.take 3 (.slice (some ad) qs.length c') rfl (by kernel_rfl) (by kernel_rfl) (fun _ _ _ h => h) S0 (by rfl) (fun u hu => by go_simp) ?_
      try simp only [Act.put, List.setIfInBounds_toArray, List.set_cons_zero, List.set_cons_succ]
      refine wpTill.take 4 (.int .i64 j) rfl (by kernel_rfl) (by kernel_rfl) (fun _ _ _ h => h) S0 (by rfl) (fun u hu => by go_simp) ?_
      try simp only [Act.put, List.setIfInBounds_toArray, List.set_cons_zero, List.set_cons_succ]
      refine wpTill.take 5 (.pointer (some (ad.add (j * 3)))) rfl (by kernel_rfl) (by kernel_rfl) (fun _ _ _ h => h) S0 (by rfl) (fun u hu => by go_simp) ?_
      try simp only [Act.put, List.setIfInBounds_toArray, List.set_cons_zero, List.set_cons_succ]
      refine wpTill.take 6 (.agg #[.bool (sg y), .slice P n d, .slice Q m o]) rfl (by kernel_rfl) (by kernel_rfl) (fun _ _ _ h => h) S0 (by rfl) (fun u hu => by go_simp) ?_
      try simp only [Act.put, List.setIfInBounds_toArray, List.set_cons_zero, List.set_cons_succ]
      refine wpTill.take 7 (.pointer (some ⟨w.heap.size + 1, 1, none⟩)) rfl (by kernel_rfl) (by kernel_rfl) (fun _ _ _ h => h) S0 (by rfl) (fun u hu => by go_simp) ?_
      try simp only [Act.put, List.setIfInBounds_toArray, List.set_cons_zero, List.set_cons_succ]
      refine wpTill.take 8 (.slice (some ae) ps.length d9) rfl (by kernel_rfl) (by kernel_rfl) (fun _ _ _ h => h) S0 (by rfl) (fun u hu => by go_simp) ?_
      try simp only [Act.put, List.setIfInBounds_toArray, List.set_cons_zero, List.set_cons_succ]
      refine wpTill.take 9 (.int .i64 j) rfl (by kernel_rfl) (by kernel_rfl) (fun _ _ _ h => h) S0 (by rfl) (fun u hu => by go_simp) ?_
      try simp only [Act.put, List.setIfInBounds_toArray, List.set_cons_zero, List.set_cons_succ]
      refine wpTill.take 10 (.pointer (some (ae.add (j * 3)))) rfl (by kernel_rfl) (by kernel_rfl) (fun _ _ _ h => h) S0 (by rfl) (fun u hu => by go_simp) ?_
      try simp only [Act.put, List.setIfInBounds_toArray, List.set_cons_zero, List.set_cons_succ]
      refine wpTill.take 11 (.agg #[.bool (sg z), .slice P9 n9 e9, .slice Q9 m9 g9]) rfl (by kernel_rfl) (by kernel_rfl) (fun _ _ _ h => h) S0 (by rfl) (fun u hu => by go_simp) ?_
      try simp only [Act.put, List.setIfInBounds_toArray, List.set_cons_zero, List.set_cons_succ]
      refine wpTill.next 12 rfl (by kernel_rfl) (by rfl) (fun KK hK => ?_)
      go_simp
      with_reducible refine (rmul_h _ (sg y) (sg z) (.slice P n d) (.slice Q m o) (.slice P9 n9 e9) (.slice Q9 m9 g9) y z K RRd RRe (Lib.hid rfl) (Lib.hid rfl) hK1 hKl).mono ?_
      rintro e u1 ⟨s9, v3, v4, rfl, hs9, hol, hf⟩
      obtain ⟨⟨P3, i4, j4, rfl⟩, ⟨P4, i5, j5, rfl⟩⟩ := hol.out.form
      have G1 : Fr (fun k => k < w.heap.size + 3 ∨ k = w1.heap.size) wr.drew u1 := hf.mono fun k hk _ => hk
      refine hK _ _ (fun _ => KS _ G1) ?_
      clear hK KK
      try simp only [Act.put, List.setIfInBounds_toArray, List.set_cons_zero, List.set_cons_succ]
      refine wpTill.next 13 rfl (by kernel_rfl) (by rfl) (fun KK hK => ?_)
      go_simp
      refine hK _ _ (fun _ => KS _ (G1.alloc _)) ?_
      clear hK KK
      try simp only [Act.put, List.setIfInBounds_toArray, List.set_cons_zero, List.set_cons_succ]
      have do3 := do2.keep' hf
      have su := hf.size
      clear S0
      refine wpTill.next 14 rfl (by kernel_rfl) (by rfl) (fun KK hK => ?_)
      refine oper_push1 (rkT (2 * K)) (v := .slice A2 n2 c2) (y := y * z) (T := fun k => wr.drew.heap.size ≤ k) rfl rfl rfl do3 ⟨_, _, by rw [hs9.out], hol.out⟩ (fun k hk _ => ⟨by omega, fun e => by have h1 := lt2 k e.symm; have h2 := hob k e.symm; omega⟩) (fun k hk => by omega) HLn.out.1 HLn.out.2 ?_
      intro v5 u2 ho hfr hat
      obtain ⟨A3, n3, c3, rfl⟩ := ho.form
      have G2 : Fr (fun k => k < w.heap.size + 3 ∨ k = w1.heap.size) wr.drew u2 := G1.comp hfr fun k _ hk => ⟨hk, fun e => by have h1 := hob _ e.symm; omega⟩
      refine hK _ _ (fun _ => KS _ G2) ?_
      clear hK KK
      try simp only [Act.put, List.setIfInBounds_toArray, List.set_cons_zero, List.set_cons_succ]
      have q5 := db5.fr G2 (.inr rfl)
      have e0 := q5.c1
      have e1 := q5.free 1
      have su2 := hfr.size
      have hob' : ∀ b, (Value.slice A3 n3 c3).ownBlock = some b → w1.heap.size < b := fun b hb => by
        rcases hat with e | ⟨b', e, hb'⟩
        · exact hob b (e ▸ hb)
        · rw [e] at hb; cases hb; omega
      clear do3 KS
      refine wpTill.next 15 rfl (by kernel_rfl) (by rfl) (fun KK hK => ?_)
      go_simp
      refine hK _ _ (no_wait (by kernel_rfl)) ?_
      clear hK KK
      try simp only [Act.put, List.setIfInBounds_toArray, List.set_cons_zero, List.set_cons_succ]
      refine wpTill.next 16 rfl (by kernel_rfl) (by rfl) (fun KK hK => ?_)
      go_simp
      refine hK _ _ (no_wait (by kernel_rfl)) ?_
      clear hK KK
      try simp only [Act.put, List.setIfInBounds_toArray, List.set_cons_zero, List.set_cons_succ]
      refine wpTill.done (by kernel_rfl) ?_
      have F8 := fr_set1 u2 w1.heap.size 1 (.slice A3 n3 c3)
      have fx0 := (dx0.fr G2 (.inl (by omega))).fr F8 (by omega)
      have fx1 := (dx1.fr G2 (.inl (by omega))).fr F8 (by omega)
      have fb2 := (db2.fr G2 (.inl (by omega))).fr F8 (by omega)
      have f5 := q5.set1 (.slice A3 n3 c3)
      have G4 := ((D (fun k => k ≤ w1.heap.size)).trans (hf.mono (T := fun k => k ≤ w1.heap.size) fun k hk _ => hk)).comp hfr (R := fun k => k ≤ w1.heap.size) fun k _ hk => ⟨hk, fun e => by have h1 := hob _ e.symm; omega⟩
      have f1 := (o1.fr (G4.mono fun k _ hk => by omega)).past F8 (fun k hk => by omega)
      have f3 := ho.past F8 (fun k hk => by omega)
      have f6 := (F.comp G4 (R := fun k => k < w.heap.size) fun k _ hk => ⟨hk, by omega⟩).comp F8 (R := fun k => k < w.heap.size) fun k _ hk => ⟨hk, by omega⟩
      have f7 := F8.size
      have f8 := G4.size
      clear e0 e1 q5 x0 x1 b2 b5 o1 o2 do2 F D G1 G2 G4 HLn ho F8 hat hfr dx0 dx1 db2 db5
      go_wp2_with fail
      go_roundw
      case rel => exact ⟨j + 1, _, by go_num, by omega, fx0, fx1, fb2, f5, f1, by rw [HTK.out]; exact f3, hob', f6, by omega⟩
      case measure => first | (simp [intOf]; done) | (simp [intOf]; omega)
    · obtain rfl : j = qs.length := by omega
      rw [List.take_of_length_le (by rw [List.length_zipWith]; omega)] at o2
      have d0 := b5.c0
      have d1 := b5.c1
      go_wp2_with ((with_reducible apply wpList_st2); rfl; rfl; exact b2; exact tt2; rfl; rfl; intro w9 B9 F9)
      refine bodyPost_ret (results_cell2_tmp rfl rfl B9 Tryz.underlying32 tt2) rfl ?_
      exact ⟨_, _, _, _, _, _, rfl, fun _ => ⟨(o1.past F9 fun k hk => by omega).sl.any, (o2.past F9 fun k hk => by omega).sl.any⟩, F.comp F9 fun k _ hk => ⟨hk, by omega⟩⟩
end Go.Proofs.YtlknmoegngjpcaaGreat

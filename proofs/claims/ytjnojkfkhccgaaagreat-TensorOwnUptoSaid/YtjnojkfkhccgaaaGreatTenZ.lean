import Derived.Test.YtjnojkfkhccgaaaGreatTenY

/- TensorDots. -/
namespace Go.Proofs.YtjnojkfkhccgaaaGreat
open Go.RowKit

theorem zR_q : qOf zR = 0 := by
  unfold qOf zR
  exact rv_den0 _ _
theorem getD_q (es : List RatL) (j : Nat) : (es.map qOf).getD j 0 = qOf (es.getD j zR) := by
  rw [List.getD_eq_getElem?_getD, List.getD_eq_getElem?_getD, List.getElem?_map]
  cases es[j]? with
  | none => exact zR_q.symm
  | some x => rfl
theorem sum_dot (ea eb : List RatL) : ∀ j, j ≤ ea.length → sumQ (ea.map qOf) (eb.map qOf) j = dotQ ea eb ((List.finRange ea.length).take j)
  | 0, _ => rfl
  | j + 1, h => by
    have hl : j < (List.finRange ea.length).length := by rw [List.length_finRange]; exact h
    rw [sumQ, sum_dot ea eb j (by omega), List.take_succ_eq_append_getElem hl, dotQ_step, List.getElem_finRange, getD_q, getD_q]
    rfl
theorem sum_dot' (ea eb : List RatL) : sumQ (ea.map qOf) (eb.map qOf) ea.length = dotT ea eb := by
  rw [sum_dot ea eb _ (Nat.le_refl _), List.take_of_length_le (by rw [List.length_finRange]; exact Nat.le_refl _)]
  rfl
theorem db_len {n K : Nat} (h : (dg LB n).length ≤ K) : (dg DB n).length ≤ 3 * K := by
  have h1 : n < LB ^ K := by
    have := ofB_lt (b := LB) (l := dg LB n) (dg_lt LB2 n)
    rw [ofB_dg LB2] at this
    exact Nat.lt_of_lt_of_le this (Nat.pow_le_pow_right LBpos h)
  have h2 : LB ^ K ≤ (DB ^ 3) ^ K := Nat.pow_le_pow_left (by decide) K
  rw [← Nat.pow_mul] at h2
  exact dg_len_le DB2 (Nat.lt_of_lt_of_le h1 h2)
theorem dotQ_le {ea eb : List RatL} {K : Nat} (h : ∀ pre : List (Fin ea.length), pre.length ≤ ea.length → (dg LB (dotQ ea eb pre).num.natAbs).length ≤ K ∧ (dg LB (dotQ ea eb pre).den).length ≤ K) : (dg LB (dotT ea eb).num.natAbs).length ≤ K ∧ (dg LB (dotT ea eb).den).length ≤ K :=
  h _ (by rw [List.length_finRange]; exact Nat.le_refl _)
theorem rdot_d {S T U V : Nat → Prop} (w : World) (va vea vb veb : Value) (sha shb : List Int) (ea eb : List RatL) (K M : Nat) (ha : Sl Im S w va sha) (hea : Sl (Rk K) T w vea (ea.map qOf)) (hb : Sl Im U w vb shb) (heb : Sl (Rk K) V w veb (eb.map qOf))
    (hlen : Hid (ea.length = eb.length)) (hK1 : 1 ≤ K) (hKM : 2 * K ≤ 3 * M) (h6 : 6 ≤ 3 * M) (hM : 3 * M ≤ 104857600) (hB : Hid (∀ pre : List (Fin ea.length), pre.length ≤ ea.length → (dg LB (dotQ ea eb pre).num.natAbs).length ≤ M ∧ (dg LB (dotQ ea eb pre).den).length ≤ M)) :
    Calls Tryz.prog 24 #[.agg #[va, vea], .agg #[vb, veb]] w fun e w' => ∃ s v1 v2, e = .returned (.agg #[.bool s, v1, v2]) ∧ Hid (s = sg (dotT ea eb)) ∧ Hid (RR (fun k => w.heap.size ≤ k) w' v1 v2 (dotT ea eb) (3 * M)) ∧ Fr (fun k => k < w.heap.size) w w' := by
  have h := rdot_t w va vea vb veb sha shb (ea.map qOf) (eb.map qOf) K (3 * M) ha hea hb heb (by rw [List.length_map, List.length_map]; exact hlen.out) hK1 hKM h6 hM fun j hj => by
    rw [List.length_map] at hj
    rw [sum_dot ea eb j hj]
    have := hB.out ((List.finRange ea.length).take j) (by rw [List.length_take, List.length_finRange]; omega)
    exact ⟨db_len this.1, db_len this.2⟩
  rwa [List.length_map, sum_dot'] at h
/-- A tensor in memory of its own. -/
def TOwn (sh : List Int) (es : List RatL) (u : World) (v : Value) : Prop := ∃ A n c B m k, v = .agg #[.slice A n c, .slice B m k] ∧ Sl Im (fun _ => True) u (.slice A n c) sh ∧ Sl Rm (fun _ => True) u (.slice B m k) es
theorem TOwn.of {S T : Nat → Prop} {sh : List Int} {es : List RatL} {u : World} {v1 v2 : Value} (h1 : Sl Im S u v1 sh) (h2 : Sl Rm T u v2 es) : TOwn sh es u (.agg #[v1, v2]) := by
  obtain ⟨A, n, c, rfl⟩ := h1.form
  obtain ⟨B, m, k, rfl⟩ := h2.form
  exact ⟨_, _, _, _, _, _, rfl, h1.mono fun _ _ => trivial, h2.mono fun _ _ => trivial⟩
theorem TOwn.keep {sh : List Int} {es : List RatL} {u u' : World} {v : Value} (hf : Fr (fun k => k < u.heap.size) u u') (h : TOwn sh es u v) : TOwn sh es u' v := by
  obtain ⟨A, n, c, B, m, k, rfl, h1, h2⟩ := h
  exact ⟨_, _, _, _, _, _, rfl, h1.keep' Im_pos hf, h2.keep' Rm_pos hf⟩
/-- What a product answers. -/
def DotG (r : Int) (q : Rat) (K : Nat) (u : World) (v : Value) : Prop := ∃ s P i j Q m k, v = .tuple #[.agg #[.bool s, .slice P i j, .slice Q m k], .int .i64 r] ∧ (r ≠ 0 → Value.slice P i j = .slice none 0 0 ∧ Value.slice Q m k = .slice none 0 0) ∧ (r = 0 → s = sg q ∧ SV u (.slice P i j) (.slice Q m k) q K)
theorem DotG.keep {r : Int} {q : Rat} {K : Nat} {u u' : World} {v : Value} (hf : Fr (fun k => k < u.heap.size) u u') (h : DotG r q K u v) : DotG r q K u' v := by
  obtain ⟨s, P, i, j, Q, m, k, rfl, h1, h2⟩ := h
  exact ⟨_, _, _, _, _, _, _, rfl, h1, fun h => ⟨(h2 h).1, (h2 h).2.keep hf⟩⟩
theorem dot_g {S T U V : Nat → Prop} (w : World) (va vea vb veb : Value) (sha shb : List Int) (ea eb : List RatL) (L K : Nat) (r : Int) (q : Rat) (hr : Hid (r = dotE sha ea shb eb)) (hq : Hid (q = dotT ea eb)) (ha : Sl Im S w va sha) (hea : Sl Rm T w vea ea) (hb : Sl Im U w vb shb) (heb : Sl Rm V w veb eb)
    (hLa : Hid (∀ x ∈ ea, x.2.1.length ≤ L ∧ x.2.2.length ≤ L)) (hLb : Hid (∀ x ∈ eb, x.2.1.length ≤ L ∧ x.2.2.length ≤ L)) (hL1 : 1 ≤ L) (hKL : 6 * L ≤ K) (hK6 : K ≤ 104857600)
    (hK : Hid (∀ pre : List (Fin ea.length), pre.length ≤ ea.length → (dg LB (dotQ ea eb pre).num.natAbs).length ≤ K ∧ (dg LB (dotQ ea eb pre).den).length ≤ K)) :
    Calls Tryz.prog 22 #[.agg #[va, vea], .agg #[vb, veb]] w fun e w' => ∃ v, e = .returned v ∧ DotG r q K w' v ∧ Fr (fun k => k < w.heap.size) w w' := by
  rw [hr.out, hq.out]
  refine (dot_t w va vea vb veb sha shb ea eb L K ha hea hb heb hLa.out hLb.out hL1 hKL hK6 hK.out).mono ?_
  rintro e w' ⟨s, v1, v2, rfl, h1, h2, hf⟩
  have form : (∃ A n c, v1 = Value.slice A n c) ∧ ∃ A n c, v2 = Value.slice A n c := by
    by_cases h : dotE sha ea shb eb = 0
    · exact (h2 h).2.form
    · exact ⟨⟨_, _, _, (h1 h).1⟩, ⟨_, _, _, (h1 h).2⟩⟩
  obtain ⟨⟨P, i, j, rfl⟩, ⟨Q, m, k, rfl⟩⟩ := form
  exact ⟨_, rfl, ⟨_, _, _, _, _, _, _, rfl, h1, fun h => ⟨(h2 h).1, SV.of (h2 h).2⟩⟩, hf⟩

theorem ris_dot {S : Nat → Prop} (w : World) (s t : Bool) (vn vd un ud : Value) (q p : Rat) (L K : Nat) (hq : Hid (RR S w vn vd q K)) (hs : Hid (s = sg q)) (hp : Hid (SV w un ud p L)) (ht : Hid (t = sg p)) (e : Hid (p = q)) (hL : L ≤ 1099511620) :
    Calls Tryz.prog 20 #[.agg #[.bool s, vn, vd], .agg #[.bool t, un, ud]] w fun e w' => e = .returned (.bool true) ∧ Fr (fun k => k < w.heap.size) w w' :=
  ris_sv w s t vn vd un ud q p L K hq.out hs.out hp.out ht.out e.out.symm hL

set_option maxRecDepth 20000 in
set_option maxHeartbeats 16000000 in
theorem tdots_walk {S : Nat → Prop} {sha shb : List Int} {ea eb : List RatL} (w : World) (va vb : Value) (L : Nat) (h : TL S w va sha ea L) (g : TL S w vb shb eb L) (hL : L ≤ 1048576) :
    Calls Tryz.prog 5 #[va, vb] w fun e w' => e = .returned (.bool true) ∧ Fr (fun k => k < w.heap.size) w w' := by
  obtain ⟨vs, ve, rfl, hs, he⟩ := h.ex
  obtain ⟨us, ue, rfl, gs, ge⟩ := g.ex
  have ls := h.ls
  have le := h.le
  have ks := g.ls
  have ke := g.le
  have oa := Rm_lt he
  have ob := Rm_lt ge
  have HK := Lib.hid (dot_len ea eb oa ob (by omega) (6 * (L + 1)) (by have := h.lt; have := g.lt; omega))
  have HKT := Lib.hid (dotQ_le HK.out)
  have HLA := Lib.hid (show ∀ x ∈ ea, x.2.1.length ≤ L + 1 ∧ x.2.2.length ≤ L + 1 from fun x hx => by have := h.lx x hx; omega)
  have HLB := Lib.hid (show ∀ x ∈ eb, x.2.1.length ≤ L + 1 ∧ x.2.2.length ≤ L + 1 from fun x hx => by have := g.lx x hx; omega)
  have HLA2 := Lib.hid (show ∀ x ∈ ea, x.2.1.length ≤ 1099511627000 ∧ x.2.2.length ≤ 1099511627000 from fun x hx => by have := h.lx x hx; omega)
  have HLB2 := Lib.hid (show ∀ x ∈ eb, x.2.1.length ≤ 1099511627000 ∧ x.2.2.length ≤ 1099511627000 from fun x hx => by have := g.lx x hx; omega)
  clear h g oa ob
  obtain ⟨A, c, rfl, _, _, _⟩ := hs.slice
  obtain ⟨A', c', rfl, _, _, hle⟩ := he.slice
  obtain ⟨B, d, rfl, _, _, _⟩ := gs.slice
  obtain ⟨B', d', rfl, _, _, hke⟩ := ge.slice
  have hl1 : 1 ≤ L + 1 := by omega
  have hl2 : L + 1 ≤ 104857600 := by omega
  obtain ⟨r, hr⟩ : ∃ r, r = dotE sha ea shb eb := ⟨_, rfl⟩
  obtain ⟨q, hq⟩ : ∃ q, q = dotT ea eb := ⟨_, rfl⟩
  obtain ⟨ra, hra⟩ : ∃ r, mayT sha ea = r := ⟨_, rfl⟩
  obtain ⟨rb, hrb⟩ : ∃ r, mayT shb eb = r := ⟨_, rfl⟩
  have HR := Lib.hid hr
  have HQ := Lib.hid hq
  have HRA := Lib.hid hra
  have HRB := Lib.hid hrb
  clear hr hq hra hrb
  have F := ((Fr.refl (fun k => k < w.heap.size) w).alloc (.cells #[.slice A sha.length c, .slice A' ea.length c'] 26)).alloc (.cells #[.slice B shb.length d, .slice B' eb.length d'] 26)
  have x1 := (Box2.new w 26 (.slice A sha.length c) (.slice A' ea.length c')).alloc (.cells #[.slice B shb.length d, .slice B' eb.length d'] 26)
  have x2 := Box2.new (w.alloc (.cells #[.slice A sha.length c, .slice A' ea.length c'] 26)) 26 (.slice B shb.length d) (.slice B' eb.length d')
  simp only [World.size_alloc] at x2
  generalize hW0 : (w.alloc (.cells #[.slice A sha.length c, .slice A' ea.length c'] 26)).alloc (.cells #[.slice B shb.length d, .slice B' eb.length d'] 26) = W0 at F x1 x2
  have D0 : ∀ R, Fr R W0 W0.drew := fun R => (Fr.refl R W0).drew
  replace x1 := x1.keep (D0 _)
  replace x2 := x2.keep (D0 _)
  have HSA := Lib.hid ((hs.keep' Im_pos F).keep' Im_pos (D0 _))
  have HEA := Lib.hid ((he.keep' Rm_pos F).keep' Rm_pos (D0 _))
  have HSB := Lib.hid ((gs.keep' Im_pos F).keep' Im_pos (D0 _))
  have HEB := Lib.hid ((ge.keep' Rm_pos F).keep' Rm_pos (D0 _))
  have KS : ∀ u, Fr (fun k => k < W0.drew.heap.size) W0.drew u → u.cell? ⟨w.heap.size, 0, none⟩ = some (.slice A sha.length c) ∧ u.cell? ⟨w.heap.size, 1, none⟩ = some (.slice A' ea.length c') ∧ u.cell? ⟨w.heap.size + 1, 0, none⟩ = some (.slice B shb.length d) ∧ u.cell? ⟨w.heap.size + 1, 1, none⟩ = some (.slice B' eb.length d') := fun u h => ⟨(x1.keep h).c0, (x1.keep h).c1, (x2.keep h).c0, (x2.keep h).c1⟩
  replace F := F.drew
  have G0 := Fr.refl (fun k => k < W0.drew.heap.size) W0.drew
  clear D0 hs he gs ge
  go_enter Tryz.func5, Tryz.ntmps5
  go_wp2_with fail
  clear hW0
  refine wpTill.begin (fun u => u.cell? ⟨w.heap.size, 0, none⟩ = some (.slice A sha.length c) ∧ u.cell? ⟨w.heap.size, 1, none⟩ = some (.slice A' ea.length c') ∧ u.cell? ⟨w.heap.size + 1, 0, none⟩ = some (.slice B shb.length d) ∧ u.cell? ⟨w.heap.size + 1, 1, none⟩ = some (.slice B' eb.length d')) 10 (by kernel_rfl) ?_
  change wpTill _ _ _ _ _ _ 11 _ _ _
  refine wpTill.take 0 (.agg #[.slice A sha.length c, .slice A' ea.length c']) rfl (by kernel_rfl) (by kernel_rfl) (fun _ _ _ h => h) (KS _ G0) (by rfl) (fun u hu => by go_simp) ?_
  try simp only [Act.put, List.setIfInBounds_toArray, List.set_cons_zero, List.set_cons_succ]
  refine wpTill.take 2 (.agg #[.slice B shb.length d, .slice B' eb.length d']) rfl (by kernel_rfl) (by kernel_rfl) (fun _ _ _ h => h) (KS _ G0) (by rfl) (fun u hu => by go_simp) ?_
  try simp only [Act.put, List.setIfInBounds_toArray, List.set_cons_zero, List.set_cons_succ]
  refine wpTill.via (m := 2) #[true, true, true, true, true, true, true, true, true, false, false] (fun a u => ∃ (R1 R2 R3 : Value) (b5 : Nat) (s : Bool) (P : Option Addr) (i j : Nat) (Q : Option Addr) (m k : Nat), a = { tmps := #[.agg #[.slice A sha.length c, .slice A' ea.length c'], .agg #[.slice B shb.length d, .slice B' eb.length d'], .pointer (some ⟨w.heap.size, 0, none⟩), .pointer (some ⟨w.heap.size + 1, 0, none⟩), .bool false, .pointer (some ⟨b5, 0, none⟩), undef, undef, .tuple #[.agg #[.bool s, .slice P i j, .slice Q m k], .int .i64 r], .agg #[.slice A sha.length c, .slice A' ea.length c'], R1, .agg #[.slice B shb.length d, .slice B' eb.length d'], R2, R3, .agg #[.bool s, .slice P i j, .slice Q m k], .int .i64 r, undef, undef, undef, undef, undef, undef, undef, undef, undef, undef, undef, undef, undef, undef, undef, undef, undef, undef, undef, undef, undef, undef, undef, undef, undef, undef, undef, undef, undef, undef, undef, undef, undef, undef, undef, undef, undef, undef, undef, undef, undef, undef, undef, undef, undef, undef, undef, undef, undef, undef], defers := [] } ∧ Box3 u b5 43 (.bool false) (.slice none 0 0) (.slice none 0 0) ∧ W0.drew.heap.size ≤ b5 ∧ Hid (DotG r q (6 * (L + 1)) u (.tuple #[.agg #[.bool s, .slice P i j, .slice Q m k], .int .i64 r])) ∧ Fr (fun k => k < W0.drew.heap.size) W0.drew u) ?_ (fun END => ?_)
  · rintro a u ⟨R1, R2, R3, b5, s, P, i, j, Q, m, k, rfl, xb, lb, pq, G⟩
    have S6 := KS _ (fr3 G lb (x := .bool s) (y := .slice P i j) (z := .slice Q m k))
    have o0 := xb.c0; have o1 := xb.c1; have o2 := xb.c2; have o3 := xb.free 0; have o4 := xb.free 1; have o5 := xb.free 2
    have fin := leaf1 (s := s) (v1 := .slice P i j) (v2 := .slice Q m k) xb G lb
    have GQ := Lib.hid (show DotG r q (6 * (L + 1)) (((u.setCell ⟨b5, 0, none⟩ (.bool s)).setCell ⟨b5, 1, none⟩ (.slice P i j)).setCell ⟨b5, 2, none⟩ (.slice Q m k)) (.tuple #[.agg #[.bool s, .slice P i j, .slice Q m k], .int .i64 r]) by
      obtain ⟨s', P', i', j', Q', m', k', e, g1, g2⟩ := pq.out
      cases e
      exact ⟨_, _, _, _, _, _, _, rfl, g1, fun h0 => ⟨(g2 h0).1, (g2 h0).2.over xb _ _ _⟩⟩)
    clear pq
    refine wpTill.next 9 rfl (by kernel_rfl) (by rfl) (fun K hK => ?_)
    go_simp
    refine hK _ _ (fun _ => S6) ?_
    clear hK K
    try simp only [Act.put, List.setIfInBounds_toArray, List.set_cons_zero, List.set_cons_succ]
    refine wpTill.next 10 rfl (by kernel_rfl) (by rfl) (fun K hK => ?_)
    go_simp
    refine hK _ _ (no_wait (by kernel_rfl)) ?_
    clear hK K
    try simp only [Act.put, List.setIfInBounds_toArray, List.set_cons_zero, List.set_cons_succ]
    refine wpTill.done (by kernel_rfl) ?_
    clear o0 o1 o2 o3 o4 o5 S6 xb G
    generalize ((u.setCell ⟨b5, 0, none⟩ _).setCell ⟨b5, 1, none⟩ _).setCell ⟨b5, 2, none⟩ _ = U at fin GQ ⊢
    obtain ⟨xb, G⟩ := fin
    clear lb KS G0
    replace x1 := x1.keep G
    replace x2 := x2.keep G
    replace HSA := Lib.hid (HSA.out.keep' Im_pos G)
    replace HEA := Lib.hid (HEA.out.keep' Rm_pos G)
    replace HSB := Lib.hid (HSB.out.keep' Im_pos G)
    replace HEB := Lib.hid (HEB.out.keep' Rm_pos G)
    replace F := fr_then F G
    clear G
    have a0 := x1.c0; have a1 := x1.c1; have b0 := x2.c0; have b1 := x2.c1
    go_wp2_with fail
    with_reducible refine (rmay_h _ (.slice A sha.length c) (.slice A' ea.length c') sha ea (L + 1) ra HRA HSA.out HEA.out HLA.out hl1 hl2).mono ?_
    rintro e U1 ⟨rfl, hf⟩
    replace x1 := x1.keep hf
    replace x2 := x2.keep hf
    replace xb := xb.keep hf
    replace HSA := Lib.hid (HSA.out.keep' Im_pos hf)
    replace HEA := Lib.hid (HEA.out.keep' Rm_pos hf)
    replace HSB := Lib.hid (HSB.out.keep' Im_pos hf)
    replace HEB := Lib.hid (HEB.out.keep' Rm_pos hf)
    replace F := fr_then F hf
    replace GQ := Lib.hid (GQ.out.keep hf)
    clear hf a0 a1 b0 b1
    have a0 := x1.c0; have a1 := x1.c1; have b0 := x2.c0; have b1 := x2.c1
    by_cases h0 : ra = 0
    · subst h0
      go_wp2_with fail
      with_reducible refine (rmay_h _ (.slice B shb.length d) (.slice B' eb.length d') shb eb (L + 1) rb HRB HSB.out HEB.out HLB.out hl1 hl2).mono ?_
      rintro e U2 ⟨rfl, hf⟩
      replace x1 := x1.keep hf
      replace x2 := x2.keep hf
      replace xb := xb.keep hf
      replace HSA := Lib.hid (HSA.out.keep' Im_pos hf)
      replace HEA := Lib.hid (HEA.out.keep' Rm_pos hf)
      replace HSB := Lib.hid (HSB.out.keep' Im_pos hf)
      replace HEB := Lib.hid (HEB.out.keep' Rm_pos hf)
      replace F := fr_then F hf
      replace GQ := Lib.hid (GQ.out.keep hf)
      clear hf a0 a1 b0 b1
      have a0 := x1.c0; have a1 := x1.c1; have b0 := x2.c0; have b1 := x2.c1
      by_cases h0 : rb = 0
      · subst h0
        have P5 := Lib.hid (sameshape_calls U2 (.slice A sha.length c) (.slice B shb.length d) sha shb HSA.out HSB.out)
        go_wp2_with fail
        with_reducible refine P5.out.mono ?_
        rintro e U3 ⟨rfl, hf⟩
        have hfs : Fr (fun k => k < U2.heap.size) U2 U3 := hf.mono fun _ _ _ => trivial
        replace x1 := x1.fr hf trivial
        replace x2 := x2.fr hf trivial
        replace xb := xb.fr hf trivial
        replace HSA := Lib.hid (HSA.out.keep' Im_pos hfs)
        replace HEA := Lib.hid (HEA.out.keep' Rm_pos hfs)
        replace HSB := Lib.hid (HSB.out.keep' Im_pos hfs)
        replace HEB := Lib.hid (HEB.out.keep' Rm_pos hfs)
        replace F := fr_then F hfs
        replace GQ := Lib.hid (GQ.out.keep hfs)
        clear hf hfs a0 a1 b0 b1 P5
        by_cases hsh : sha = shb
        · have HN : r = 0 := HR.out.trans (dotE_0 HRA.out HRB.out hsh)
          rw [decide_eq_true hsh]
          subst HN
          have HLEN := Lib.hid (show ea.length = eb.length from by
            have h1 := (mayT_ok HRA.out).2.1
            have h2 := (mayT_ok HRB.out).2.1
            rw [hsh] at h1
            omega)
          clear hsh
          obtain ⟨s', P', i', j', Q', m', k', e, g1, g2⟩ := GQ.out
          cases e
          obtain ⟨hsq, hsv⟩ := g2 rfl
          have HSQ := Lib.hid hsq
          have HSV := Lib.hid hsv
          clear g1 g2 GQ hsq hsv
          go_wp2_with fail
          have D2 := fun R => (Fr.refl R U3).drew
          have z1 := x1.keep (D2 _)
          have z2 := x2.keep (D2 _)
          have zb := xb.keep (D2 _)
          have KS : ∀ u, Fr (fun k => k < U3.drew.heap.size) U3.drew u → u.cell? ⟨w.heap.size, 0, none⟩ = some (.slice A sha.length c) ∧ u.cell? ⟨w.heap.size, 1, none⟩ = some (.slice A' ea.length c') ∧ u.cell? ⟨w.heap.size + 1, 0, none⟩ = some (.slice B shb.length d) ∧ u.cell? ⟨w.heap.size + 1, 1, none⟩ = some (.slice B' eb.length d') ∧ u.cell? ⟨b5, 0, none⟩ = some (.bool s) ∧ u.cell? ⟨b5, 1, none⟩ = some (.slice P i j) ∧ u.cell? ⟨b5, 2, none⟩ = some (.slice Q m k) := fun u h => ⟨(z1.keep h).c0, (z1.keep h).c1, (z2.keep h).c0, (z2.keep h).c1, (zb.keep h).c0, (zb.keep h).c1, (zb.keep h).c2⟩
          have K0 := Fr.refl (fun k => k < U3.drew.heap.size) U3.drew
          replace F := F.drew
          replace HSA := Lib.hid (HSA.out.keep' Im_pos (D2 _))
          replace HEA := Lib.hid (HEA.out.keep' Rm_pos (D2 _))
          replace HSB := Lib.hid (HSB.out.keep' Im_pos (D2 _))
          replace HEB := Lib.hid (HEB.out.keep' Rm_pos (D2 _))
          replace HSV := Lib.hid (HSV.out.keep (D2 _))
          clear x1 x2 xb z1 z2 zb D2
          go_region_held3 (fun u => u.cell? ⟨w.heap.size, 0, none⟩ = some (.slice A sha.length c) ∧ u.cell? ⟨w.heap.size, 1, none⟩ = some (.slice A' ea.length c') ∧ u.cell? ⟨w.heap.size + 1, 0, none⟩ = some (.slice B shb.length d) ∧ u.cell? ⟨w.heap.size + 1, 1, none⟩ = some (.slice B' eb.length d') ∧ u.cell? ⟨b5, 0, none⟩ = some (.bool s) ∧ u.cell? ⟨b5, 1, none⟩ = some (.slice P i j) ∧ u.cell? ⟨b5, 2, none⟩ = some (.slice Q m k)) (with_reducible exact KS _ K0) (first
            | ((with_reducible refine (tof_t _ (.slice A sha.length c) (.slice A' ea.length c') sha ea (L + 1) (HSA.out.keep' Im_pos K0) (HEA.out.keep' Rm_pos K0) (by omega) (by omega) HLA.out hl1 hl2).mono ?_); rintro e wq ⟨v5, v6, rfl, h5, h6, hf⟩; obtain ⟨B5, i5, j5, rfl⟩ := h5.form; obtain ⟨B6, i6, j6, rfl⟩ := h6.form; have K0 := fr_then K0 hf)
            | ((with_reducible refine (tof_t _ (.slice B shb.length d) (.slice B' eb.length d') shb eb (L + 1) (HSB.out.keep' Im_pos K0) (HEB.out.keep' Rm_pos K0) (by omega) (by omega) HLB.out hl1 hl2).mono ?_); rintro e wq ⟨v7, v8, rfl, h7, h8, hf⟩; obtain ⟨B7, i7, j7, rfl⟩ := h7.form; obtain ⟨B8, i8, j8, rfl⟩ := h8.form; have K0 := fr_then K0 hf; have h5s := Lib.hid (h5.sl.keep' Im_pos hf); have h6s := Lib.hid (h6.sl.keep' (Rk_pos _) hf); have h7s := Lib.hid h7.sl; have h8s := Lib.hid h8.sl)
            | ((with_reducible refine (rdot_d _ (.slice B5 i5 j5) (.slice B6 i6 j6) (.slice B7 i7 j7) (.slice B8 i8 j8) sha shb ea eb (3 * (L + 1)) (6 * (L + 1)) h5s.out h6s.out h7s.out h8s.out HLEN (by omega) (by omega) (by omega) (by omega) HK).mono ?_); rintro e wq ⟨s9, v9, v10, rfl, hs9, h9, hf⟩; obtain ⟨⟨B9, i9, j9, rfl⟩, ⟨B10, i10, j10, rfl⟩⟩ := h9.out.form; have K0 := fr_then K0 hf)
            | ((with_reducible refine (ris_dot _ s9 s (.slice B9 i9 j9) (.slice B10 i10 j10) (.slice P i j) (.slice Q m k) (dotT ea eb) q (6 * (L + 1)) (3 * (6 * (L + 1))) h9 hs9 (Lib.hid (HSV.out.keep K0)) HSQ HQ (by omega)).mono ?_); rintro e wq ⟨rfl, hf⟩; have K0 := fr_then K0 hf)
            | ((with_reducible refine (tknown _).mono ?_); rintro e wq ⟨rfl, hf⟩; have K0 := fr_then K0 hf))
          go_wp2_with fail
          go_ret
          exact ⟨rfl, fr_then F K0⟩
        · have HN : r = 13 := HR.out.trans (dotE_13 HRA.out HRB.out hsh)
          rw [decide_eq_false hsh]
          have h0 : (13 : Int) ≠ 0 := by decide
          subst HN
          obtain ⟨s', P', i', j', Q', m', k', e, g1, g2⟩ := GQ.out
          cases e
          obtain ⟨e1, e2⟩ := g1 h0
          cases e1
          cases e2
          clear g1 g2 GQ
          have o1 := xb.c1; have o2 := xb.c2
          go_wp2_with fail
          with_reducible refine (tknown _).mono ?_
          rintro e U9 ⟨rfl, hf⟩
          go_wp2_with fail
          go_ret
          exact ⟨rfl, fr_then F hf⟩
      · have HN : r = rb := HR.out.trans ((dotE_b HRA.out (by rw [HRB.out]; exact h0)).trans HRB.out)
        have hb0 : (rb == 0) = false := beq_eq_false_iff_ne.2 h0
        subst HN
        obtain ⟨s', P', i', j', Q', m', k', e, g1, g2⟩ := GQ.out
        cases e
        obtain ⟨e1, e2⟩ := g1 h0
        cases e1
        cases e2
        clear g1 g2 GQ
        have o1 := xb.c1; have o2 := xb.c2
        go_wp2_with fail
        with_reducible refine (tknown _).mono ?_
        rintro e U9 ⟨rfl, hf⟩
        go_wp2_with fail
        go_ret
        exact ⟨rfl, fr_then F hf⟩
    · have HN : r = ra := HR.out.trans ((dotE_a (by rw [HRA.out]; exact h0)).trans HRA.out)
      have hb0 : (ra == 0) = false := beq_eq_false_iff_ne.2 h0
      subst HN
      obtain ⟨s', P', i', j', Q', m', k', e, g1, g2⟩ := GQ.out
      cases e
      obtain ⟨e1, e2⟩ := g1 h0
      cases e1
      cases e2
      clear g1 g2 GQ
      have o1 := xb.c1; have o2 := xb.c2
      go_wp2_with fail
      with_reducible refine (tknown _).mono ?_
      rintro e U9 ⟨rfl, hf⟩
      go_wp2_with fail
      go_ret
      exact ⟨rfl, fr_then F hf⟩
  refine wpTill.solo (n := 5) [1, 3, 4] 8 (One (fun t5 r1 r2 r3 => { tmps := #[.agg #[.slice A sha.length c, .slice A' ea.length c'], .agg #[.slice B shb.length d, .slice B' eb.length d'], .pointer (some ⟨w.heap.size, 0, none⟩), .pointer (some ⟨w.heap.size + 1, 0, none⟩), .bool false, t5, undef, undef, undef, .agg #[.slice A sha.length c, .slice A' ea.length c'], r1, .agg #[.slice B shb.length d, .slice B' eb.length d'], r2, r3, undef, undef, undef, undef, undef, undef, undef, undef, undef, undef, undef, undef, undef, undef, undef, undef, undef, undef, undef, undef, undef, undef, undef, undef, undef, undef, undef, undef, undef, undef, undef, undef, undef, undef, undef, undef, undef, undef, undef, undef, undef, undef, undef, undef, undef, undef, undef, undef, undef, undef, undef, undef], defers := [] }) W0.drew 43 (TOwn sha ea) (TOwn shb eb) (DotG r q (6 * (L + 1)))) (by kernel_rfl) ?_ ?_ ?_ ?_ ?_ ?_
  · rintro c p a u ⟨t5, r1, r2, r3, rfl, h⟩
    exact KS _ h.fr
  · intro c i hi p
    rcases c with _ | _ | _ | c
    · obtain rfl := Option.some.inj (show some 1 = some i from hi)
      refine ⟨_, rfl, rfl, ?_⟩
      rintro a u K ⟨t5, r1, r2, r3, rfl, h⟩ hk
      go_simp
      with_reducible refine (town_t _ (.slice A sha.length c) (.slice A' ea.length c') sha ea (HSA.out.keep' Im_pos h.fr) (HEA.out.keep' Rm_pos h.fr) (by omega) (by omega) HLA2.out).mono ?_
      rintro e u' ⟨v1, v2, rfl, ha, hb, hf⟩
      exact hk _ _ ⟨_, _, _, _, rfl, h.s1 hf (TOwn.of ha.sl hb.sl)⟩
    · obtain rfl := Option.some.inj (show some 3 = some i from hi)
      refine ⟨_, rfl, rfl, ?_⟩
      rintro a u K ⟨t5, r1, r2, r3, rfl, h⟩ hk
      go_simp
      with_reducible refine (town_t _ (.slice B shb.length d) (.slice B' eb.length d') shb eb (HSB.out.keep' Im_pos h.fr) (HEB.out.keep' Rm_pos h.fr) (by omega) (by omega) HLB2.out).mono ?_
      rintro e u' ⟨v1, v2, rfl, ha, hb, hf⟩
      exact hk _ _ ⟨_, _, _, _, rfl, h.s2 (fun _ _ _ => TOwn.keep) hf (TOwn.of ha.sl hb.sl)⟩
    · obtain rfl := Option.some.inj (show some 4 = some i from hi)
      refine ⟨_, rfl, rfl, ?_⟩
      rintro a u K ⟨t5, r1, r2, r3, rfl, h⟩ hk
      obtain ⟨Aa, na, ca, Ab, nb, cb, rfl, o1, o2⟩ := h.g1 (by decide)
      obtain ⟨Ac, nc, cc, Ad, nd, cd, rfl, o3, o4⟩ := h.g2 (by decide)
      go_simp
      with_reducible refine (dot_g _ (.slice Aa na ca) (.slice Ab nb cb) (.slice Ac nc cc) (.slice Ad nd cd) sha shb ea eb (L + 1) (6 * (L + 1)) r q HR HQ o1 o2 o3 o4 HLA HLB hl1 (Nat.le_refl _) (by omega) HK).mono ?_
      rintro e u' ⟨v, rfl, hv, hf⟩
      exact hk _ _ ⟨_, _, _, _, rfl, h.s3 (fun _ _ _ => TOwn.keep) (fun _ _ _ => TOwn.keep) hf hv⟩
    · exact absurd hi (by simp)
  · intro c
    refine ⟨_, rfl, rfl, ?_⟩
    rintro a u K ⟨t5, r1, r2, r3, rfl, h⟩ hk
    go_simp
    exact hk _ _ ⟨_, _, _, _, rfl, h.new (fun _ _ _ => TOwn.keep) (fun _ _ _ => TOwn.keep) (fun _ _ _ => DotG.keep)⟩
  · rintro a u ⟨t5, r1, r2, r3, rfl, h⟩
    obtain ⟨b, rfl, xb, lb⟩ := h.x rfl
    obtain ⟨s, P, i, j, Q, m, k, rfl, pq⟩ := h.g3 (Nat.le_refl 3)
    have S5 := KS _ h.fr
    have PQ : DotG r q (6 * (L + 1)) u (.tuple #[.agg #[.bool s, .slice P i j, .slice Q m k], .int .i64 r]) := ⟨_, _, _, _, _, _, _, rfl, pq⟩
    clear pq
    refine wpTill.take 5 (.tuple #[.agg #[.bool s, .slice P i j, .slice Q m k], .int .i64 r]) rfl (by kernel_rfl) (by kernel_rfl) (fun _ _ _ h => h) (S5) (by rfl) (fun u hu => by go_simp) ?_
    try simp only [Act.put, List.setIfInBounds_toArray, List.set_cons_zero, List.set_cons_succ]
    refine wpTill.take 6 (.agg #[.bool s, .slice P i j, .slice Q m k]) rfl (by kernel_rfl) (by kernel_rfl) (fun _ _ _ h => h) (S5) (by rfl) (fun u hu => by go_simp) ?_
    try simp only [Act.put, List.setIfInBounds_toArray, List.set_cons_zero, List.set_cons_succ]
    refine wpTill.take 7 (.int .i64 r) rfl (by kernel_rfl) (by kernel_rfl) (fun _ _ _ h => h) (S5) (by rfl) (fun u hu => by go_simp) ?_
    try simp only [Act.put, List.setIfInBounds_toArray, List.set_cons_zero, List.set_cons_succ]
    exact wpTill.same (by kernel_rfl) (END _ _ ⟨_, _, _, _, _, _, _, _, _, _, _, rfl, xb, lb, Lib.hid PQ, h.fr⟩)
  · rintro a u ⟨t5, r1, r2, r3, rfl, h⟩
    obtain ⟨s, P, i, j, Q, m, k, rfl, pq⟩ := h.g3 (Nat.le_refl 3)
    have S5 := KS _ h.fr
    have PQ : DotG r q (6 * (L + 1)) u (.tuple #[.agg #[.bool s, .slice P i j, .slice Q m k], .int .i64 r]) := ⟨_, _, _, _, _, _, _, rfl, pq⟩
    clear pq
    refine wpTill.take 5 (.tuple #[.agg #[.bool s, .slice P i j, .slice Q m k], .int .i64 r]) rfl (by kernel_rfl) (by kernel_rfl) (fun _ _ _ h => h) (S5) (by rfl) (fun u hu => by go_simp) ?_
    try simp only [Act.put, List.setIfInBounds_toArray, List.set_cons_zero, List.set_cons_succ]
    refine wpTill.take 6 (.agg #[.bool s, .slice P i j, .slice Q m k]) rfl (by kernel_rfl) (by kernel_rfl) (fun _ _ _ h => h) (S5) (by rfl) (fun u hu => by go_simp) ?_
    try simp only [Act.put, List.setIfInBounds_toArray, List.set_cons_zero, List.set_cons_succ]
    refine wpTill.take 7 (.int .i64 r) rfl (by kernel_rfl) (by kernel_rfl) (fun _ _ _ h => h) (S5) (by rfl) (fun u hu => by go_simp) ?_
    try simp only [Act.put, List.setIfInBounds_toArray, List.set_cons_zero, List.set_cons_succ]
    have hA := (Fr.refl (fun k => k < u.heap.size) u).alloc (.cells #[.bool false, .slice none 0 0, .slice none 0 0] 43)
    refine wpTill.next 8 rfl (by kernel_rfl) (by rfl) (fun K hK => ?_)
    go_simp
    refine hK _ _ (fun _ => KS _ (fr_then h.fr hA)) ?_
    clear hK K
    try simp only [Act.put, List.setIfInBounds_toArray, List.set_cons_zero, List.set_cons_succ]
    exact wpTill.same (by kernel_rfl) (END _ _ ⟨_, _, _, _, _, _, _, _, _, _, _, rfl, Box3.new _ _ _ _ _, h.fr.size, Lib.hid (PQ.keep hA), fr_then h.fr hA⟩)
  · exact ⟨_, _, _, _, rfl, Solo.init G0⟩
end Go.Proofs.YtjnojkfkhccgaaaGreat

import Derived.Test.YtjnojkfkhccgaaaGreatTenQ

/- tensor.Dot. -/
namespace Go.Proofs.YtjnojkfkhccgaaaGreat
open Go.RowKit Go.Shelf
attribute [local go_sem] Oper.semAt_some

/-- Why there is no product. -/
def dotE (sha : List Int) (ea : List RatL) (shb : List Int) (eb : List RatL) : Int := if mayT sha ea ≠ 0 then mayT sha ea else if mayT shb eb ≠ 0 then mayT shb eb else if sha ≠ shb then 13 else 0
theorem dotE_a {sha shb : List Int} {ea eb : List RatL} (h : mayT sha ea ≠ 0) : dotE sha ea shb eb = mayT sha ea := if_pos h
theorem dotE_b {sha shb : List Int} {ea eb : List RatL} (h : mayT sha ea = 0) (h1 : mayT shb eb ≠ 0) : dotE sha ea shb eb = mayT shb eb := by
  unfold dotE
  rw [if_neg (by simpa using h), if_pos h1]
theorem dotE_13 {sha shb : List Int} {ea eb : List RatL} (h : mayT sha ea = 0) (h1 : mayT shb eb = 0) (h2 : sha ≠ shb) : dotE sha ea shb eb = 13 := by
  unfold dotE
  rw [if_neg (by simpa using h), if_neg (by simpa using h1), if_pos h2]
theorem dotE_0 {sha shb : List Int} {ea eb : List RatL} (h : mayT sha ea = 0) (h1 : mayT shb eb = 0) (h2 : sha = shb) : dotE sha ea shb eb = 0 := by
  unfold dotE
  rw [if_neg (by simpa using h), if_neg (by simpa using h1), if_neg (by simpa using h2)]
/-- The sum of some products. -/
def dotQ (ea eb : List RatL) (pre : List (Fin ea.length)) : Rat := pre.foldl (fun s i => s + qOf (ea.getD i.val zR) * qOf (eb.getD i.val zR)) 0
theorem dotQ_step (ea eb : List RatL) (pre : List (Fin ea.length)) (x : Fin ea.length) : dotQ ea eb (pre ++ [x]) = dotQ ea eb pre + qOf (ea.getD x.val zR) * qOf (eb.getD x.val zR) := by simp [dotQ]
def dotT (ea eb : List RatL) : Rat := dotQ ea eb (List.finRange ea.length)
def DotR (w : World) (r : Int) (q : Rat) (K : Nat) (e : Ending) (w' : World) : Prop := ∃ s v1 v2, e = .returned (.tuple #[.agg #[.bool s, v1, v2], .int .i64 r]) ∧ (r ≠ 0 → v1 = .slice none 0 0 ∧ v2 = .slice none 0 0) ∧
  (r = 0 → s = sg q ∧ RV (fun k => w.heap.size ≤ k) w' v1 v2 q K) ∧ Fr (fun k => k < w.heap.size) w w'

/-- What lies in memory from the beginning on. -/
structure DotI (w : World) (va vea vb veb : Value) (sha : List Int) (ea : List RatL) (shb : List Int) (eb : List RatL) (W : World) : Prop where
  a1 : Sl Im (fun k => k < w.heap.size) W va sha
  a2 : Sl Rm (fun k => k < w.heap.size) W vea ea
  b1 : Sl Im (fun k => k < w.heap.size) W vb shb
  b2 : Sl Rm (fun k => k < w.heap.size) W veb eb
  x0 : Box2 W w.heap.size 26 va vea
  x1 : Box2 W (w.heap.size + 1) 26 vb veb
  x2 : Box3 W (w.heap.size + 2) 43 (.bool false) (.slice none 0 0) (.slice none 0 0)
  fr : Fr (fun k => k < w.heap.size) w W
theorem DotI.keep {w : World} {va vea vb veb : Value} {sha shb : List Int} {ea eb : List RatL} {W W' : World} (h : DotI w va vea vb veb sha ea shb eb W) {R : Nat → Prop} (hf : Fr R W W') (hR : ∀ k, k < w.heap.size + 3 → R k) : DotI w va vea vb veb sha ea shb eb W' :=
  ⟨h.a1.fr (hf.mono fun k _ hk => hR k (by omega)), h.a2.fr (hf.mono fun k _ hk => hR k (by omega)), h.b1.fr (hf.mono fun k _ hk => hR k (by omega)), h.b2.fr (hf.mono fun k _ hk => hR k (by omega)),
    h.x0.fr hf (hR _ (by omega)), h.x1.fr hf (hR _ (by omega)), h.x2.fr hf (hR _ (by omega)), h.fr.comp hf fun k _ hk => ⟨hk, hR k (by omega)⟩⟩
theorem DotI.lt {w : World} {va vea vb veb : Value} {sha shb : List Int} {ea eb : List RatL} {W : World} (h : DotI w va vea vb veb sha ea shb eb W) : w.heap.size + 3 ≤ W.heap.size := h.x2.lt
theorem RV.turn {S : Nat → Prop} {w w' : World} {v1 v2 : Value} {q : Rat} {L : Nat} (h : RV S w v1 v2 q L) {row : Option Nat} (hg : w.grownBy w' row) {B : Nat} (hr : ∀ r, row = some r → B ≤ r ∧ ∃ o : Obj, w.heap[r]? = some o ∧ o.isCells = false) : RV S w' v1 v2 q L :=
  ⟨⟨h.num.own.turn (fun _ _ _ h => Kd.nat_any h) hg hr, h.num.len⟩, ⟨h.den.own.turn (fun _ _ _ h => Kd.nat_any h) hg hr, h.den.len⟩⟩
theorem RV.past {S R : Nat → Prop} {w w' : World} {v1 v2 : Value} {q : Rat} {L : Nat} (h : RV S w v1 v2 q L) (hf : Fr R w w') (hs : ∀ k, S k → R k) : RV S w' v1 v2 q L :=
  ⟨⟨h.num.own.past hf hs, h.num.len⟩, ⟨h.den.own.past hf hs, h.den.len⟩⟩
theorem RV.sizes {S : Nat → Prop} {w : World} {v1 v2 : Value} {q : Rat} {L K : Nat} (h : RV S w v1 v2 q L) (hn : (dg LB q.num.natAbs).length ≤ K) (hd : (dg LB q.den).length ≤ K) : RV S w v1 v2 q K := ⟨⟨h.num.own, hn⟩, ⟨h.den.own, hd⟩⟩
theorem RV.mon {S T : Nat → Prop} {w : World} {v1 v2 : Value} {q : Rat} {L : Nat} (h : RV S w v1 v2 q L) (hs : ∀ k, S k → T k) : RV T w v1 v2 q L := ⟨⟨h.num.own.mono hs, h.num.len⟩, ⟨h.den.own.mono hs, h.den.len⟩⟩
theorem RV.toRI {S : Nat → Prop} {w : World} {v1 v2 : Value} {q : Rat} {L M : Nat} (h : RV S w v1 v2 q L) (hl : L ≤ M) : RI S w (sg q) v1 v2 q q.num.natAbs q.den M :=
  ⟨⟨_, h.num.sl, val_dg _, Nat.le_trans h.num.len hl⟩, ⟨_, h.den.sl, val_dg _, Nat.le_trans h.den.len hl⟩, rv_self q⟩
theorem RV.bd {S : Nat → Prop} {w : World} {v1 v2 : Value} {q : Rat} {L : Nat} (h : RV S w v1 v2 q L) : RV (fun k => S k ∧ k < w.heap.size) w v1 v2 q L := ⟨⟨h.num.own.bd, h.num.len⟩, ⟨h.den.own.bd, h.den.len⟩⟩
theorem int_0 (w : World) : Calls Tryz.prog 38 #[.int .i64 0] w fun e w' => ∃ s v1 v2, e = .returned (.agg #[.bool s, v1, v2]) ∧ Hid (s = sg 0) ∧ Hid (RV (fun k => w.heap.size ≤ k) w' v1 v2 0 2) ∧ Fr (fun k => k < w.heap.size) w w' := by
  refine (int_n w 0 (by decide) (by decide)).mono ?_
  rintro e w' ⟨v1, v2, rfl, h, hf⟩
  exact ⟨_, v1, v2, rfl, Lib.hid rfl, Lib.hid h, hf⟩
theorem mul_h {S T : Nat → Prop} (w : World) (s t : Bool) (vn vd un ud : Value) (x y : Rat) (N D M E L : Nat) (hx : RI S w s vn vd x N D L) (hy : RI T w t un ud y M E L) (hL1 : 1 ≤ L) (hl : L ≤ 104857600) :
    Calls Tryz.prog 52 #[.agg #[.bool s, vn, vd], .agg #[.bool t, un, ud]] w fun e w' => ∃ r v1 v2, e = .returned (.agg #[.bool r, v1, v2]) ∧ Hid (r = sg (x * y)) ∧ Hid (RV (fun k => w.heap.size ≤ k) w' v1 v2 (x * y) (6 * L)) ∧ Fr (fun k => k < w.heap.size) w w' := by
  refine (rmul_n w s t vn vd un ud x y N D M E L hx hy hL1 hl).mono ?_
  rintro e w' ⟨v1, v2, rfl, h, hf⟩
  exact ⟨_, v1, v2, rfl, Lib.hid rfl, Lib.hid h, hf⟩
theorem add_h {S T : Nat → Prop} (w : World) (s t : Bool) (vn vd un ud : Value) (x y : Rat) (N D M E L : Nat) (hx : RI S w s vn vd x N D L) (hy : RI T w t un ud y M E L) (hL1 : 1 ≤ L) (hl : L ≤ 104857600) :
    Calls Tryz.prog 51 #[.agg #[.bool s, vn, vd], .agg #[.bool t, un, ud]] w fun e w' => ∃ r v1 v2, e = .returned (.agg #[.bool r, v1, v2]) ∧ Hid (r = sg (x + y)) ∧ Hid (RV (fun k => w.heap.size ≤ k) w' v1 v2 (x + y) (5 * L)) ∧ Fr (fun k => k < w.heap.size) w w' := by
  refine (radd_n w s t vn vd un ud x y N D M E L hx hy hL1 hl).mono ?_
  rintro e w' ⟨v1, v2, rfl, h, hf⟩
  exact ⟨_, v1, v2, rfl, Lib.hid rfl, Lib.hid h, hf⟩

/-- The sum as it stands, in block b9. -/
def SumI (ea eb : List RatL) (lo b9 n K : Nat) (w : World) (pre : List (Fin ea.length)) (W : World) : Prop :=
  ∃ s v1 v2, Box3 W b9 43 (.bool s) v1 v2 ∧ s = sg (dotQ ea eb pre) ∧ RV (fun k => lo ≤ k ∧ k ≠ b9) W v1 v2 (dotQ ea eb pre) K ∧ Fr (fun k => k < n ∧ k ≠ b9) w W
theorem SumI.own {ea eb : List RatL} {lo b9 n K : Nat} {w : World} : OwnFrom n (fun pre W => SumI ea eb lo b9 n K w pre W) := fun pre W W' row hs hg hr => by
  obtain ⟨s, v1, v2, h1, h2, h3, h4⟩ := hs
  exact ⟨s, v1, v2, grown_cells hg hr h1, h2, h3.turn hg hr, h4.comp (Fr.of_grown hg) fun k _ hk => ⟨hk, fun e => by have := (hr k e.symm).1; omega⟩⟩

set_option maxRecDepth 100000 in
set_option maxHeartbeats 8000000 in
theorem dot_t {S T U V : Nat → Prop} (w : World) (va vea vb veb : Value) (sha shb : List Int) (ea eb : List RatL) (L K : Nat) (ha : Sl Im S w va sha) (hea : Sl Rm T w vea ea) (hb : Sl Im U w vb shb) (heb : Sl Rm V w veb eb)
    (hLa : ∀ x ∈ ea, x.2.1.length ≤ L ∧ x.2.2.length ≤ L) (hLb : ∀ x ∈ eb, x.2.1.length ≤ L ∧ x.2.2.length ≤ L) (hL1 : 1 ≤ L) (hKL : 6 * L ≤ K) (hK6 : K ≤ 104857600)
    (hK : ∀ pre : List (Fin ea.length), pre.length ≤ ea.length → (dg LB (dotQ ea eb pre).num.natAbs).length ≤ K ∧ (dg LB (dotQ ea eb pre).den).length ≤ K) :
    Calls Tryz.prog 22 #[.agg #[va, vea], .agg #[vb, veb]] w (DotR w (dotE sha ea shb eb) (dotT ea eb) K) := by
  have hl : L ≤ 104857600 := by omega
  obtain ⟨A, c, rfl, _, _, _⟩ := ha.slice
  obtain ⟨A', c', rfl, _, _, hlea⟩ := hea.slice
  obtain ⟨B, d, rfl, _, _, _⟩ := hb.slice
  obtain ⟨B', d', rfl, _, _, hleb⟩ := heb.slice
  have F0 := fun R => (((Fr.refl R w).alloc (.cells #[.slice A sha.length c, .slice A' ea.length c'] 26)).alloc (.cells #[.slice B shb.length d, .slice B' eb.length d'] 26)).alloc (.cells #[.bool false, .slice none 0 0, .slice none 0 0] 43)
  have x0 := ((Box2.new w 26 (.slice A sha.length c) (.slice A' ea.length c')).alloc (.cells #[.slice B shb.length d, .slice B' eb.length d'] 26)).alloc (.cells #[.bool false, .slice none 0 0, .slice none 0 0] 43)
  have x1 := (Box2.new (w.alloc (.cells #[.slice A sha.length c, .slice A' ea.length c'] 26)) 26 (.slice B shb.length d) (.slice B' eb.length d')).alloc (.cells #[.bool false, .slice none 0 0, .slice none 0 0] 43)
  have x2 := Box3.new ((w.alloc (.cells #[.slice A sha.length c, .slice A' ea.length c'] 26)).alloc (.cells #[.slice B shb.length d, .slice B' eb.length d'] 26)) 43 (.bool false) (.slice none 0 0) (.slice none 0 0)
  simp only [World.size_alloc] at x1 x2
  have I0 : DotI w (.slice A sha.length c) (.slice A' ea.length c') (.slice B shb.length d) (.slice B' eb.length d') sha ea shb eb _ := ⟨ha.up Im_pos (Nat.le_refl _) (F0 _), hea.up Rm_pos (Nat.le_refl _) (F0 _), hb.up Im_pos (Nat.le_refl _) (F0 _), heb.up Rm_pos (Nat.le_refl _) (F0 _), x0, x1, x2, F0 _⟩
  have I1 := Lib.hid (I0.keep ((Fr.refl (fun _ => True) _).alloc (.cells #[.slice A sha.length c, .slice A' ea.length c', .slice B shb.length d, .slice B' eb.length d'] 26)) fun _ _ => trivial)
  have hrow := heap_alloc_new (((w.alloc (.cells #[.slice A sha.length c, .slice A' ea.length c'] 26)).alloc (.cells #[.slice B shb.length d, .slice B' eb.length d'] 26)).alloc (.cells #[.bool false, .slice none 0 0, .slice none 0 0] 43)) (.cells #[.slice A sha.length c, .slice A' ea.length c', .slice B shb.length d, .slice B' eb.length d'] 26)
  simp only [World.size_alloc] at hrow
  have HROW := Lib.hid hrow
  obtain ⟨r, hr⟩ : ∃ r, r = dotE sha ea shb eb := ⟨_, rfl⟩
  rw [← hr]
  obtain ⟨ra, hra⟩ : ∃ r, r = mayT sha ea := ⟨_, rfl⟩
  obtain ⟨rb, hrb⟩ : ∃ r, r = mayT shb eb := ⟨_, rfl⟩
  have HR := Lib.hid hr
  have HRA := Lib.hid hra
  have HRB := Lib.hid hrb
  have HLA := Lib.hid hLa
  have HLB := Lib.hid hLb
  have HKK := Lib.hid hK
  clear ha hea hb heb F0 x0 x1 x2 I0 hrow hr hra hrb hLa hLb hK
  refine (callsIn_wide (n := 3)).1 ?_
  refine callsIn_of_wp_marks Tryz.func22 rfl trivial ?_ rfl
  simp only [Tryz.ntmps22, List.size_toArray, List.length_cons, List.length_nil, Nat.reduceAdd, Nat.reduceSub, Array.replicate_succ, Array.replicate_zero, List.push_toArray, List.append_toArray, List.nil_append, List.cons_append]
  gi_wp2_with fail
  gi_loopw [16] (fun i wr => ∃ (k : Nat), k ≤ 2 ∧ i = .int .i64 k ∧ (0 < k → ra = 0) ∧ (1 < k → rb = 0) ∧ Hid (DotI w (.slice A sha.length c) (.slice A' ea.length c') (.slice B shb.length d) (.slice B' eb.length d') sha ea shb eb wr) ∧ Hid (wr.heap[w.heap.size + 1 + 1 + 1]? = some (.cells #[.slice A sha.length c, .slice A' ea.length c', .slice B shb.length d, .slice B' eb.length d'] 26 (0, 0)))) (fun i _ => 2 - (intOf i).toNat)
  case atStart => exact ⟨0, by omega, rfl, fun h => by omega, fun h => by omega, I1, HROW⟩
  case round =>
    clear I1 HROW
    obtain ⟨k, hk, rfl, hk0, hk1, I1, HROW⟩ := hrel
    have c0 := cell_of_row wr _ 0 _ _ (0, 0) HROW.out
    have c1 := cell_of_row wr _ 1 _ _ (0, 0) HROW.out
    have c2 := cell_of_row wr _ 2 _ _ (0, 0) HROW.out
    have c3 := cell_of_row wr _ 3 _ _ (0, 0) HROW.out
    simp only [List.getElem?_toArray, List.getElem?_cons_zero, List.getElem?_cons_succ] at c0 c1 c2 c3
    have lt := I1.out.lt
    have ltr := lt_of_block HROW.out
    obtain rfl | rfl | rfl : k = 0 ∨ k = 1 ∨ k = 2 := by omega
    · have I2 := I1.out.keep ((Fr.refl (fun _ => True) wr).alloc (.cells #[.slice A sha.length c, .slice A' ea.length c'] 26)) (fun _ _ => trivial)
      have HR2 := Lib.hid ((Below.heap_alloc wr (.cells #[.slice A sha.length c, .slice A' ea.length c'] 26) _ ltr).trans HROW.out)
      have PP := Lib.hid (may_t (wr.alloc (.cells #[.slice A sha.length c, .slice A' ea.length c'] 26)) (.slice A sha.length c) (.slice A' ea.length c') sha ea L I2.a1 I2.a2 HLA.out hL1 hl)
      rw [← HRA.out] at PP
      have HI2 := Lib.hid I2
      have ltr2 := lt_of_block HR2.out
      clear I1 HROW I2
      gi_wp2_with fail
      refine ⟨trivial, ?_⟩
      with_reducible refine (callsIn_wide.2 PP.out).mono ?_
      rintro e w2 ⟨rfl, hf⟩
      have I3 := Lib.hid (HI2.out.keep hf (fun k hk => by have := HI2.out.lt; omega))
      have HR3 := Lib.hid (hf.obj HR2.out ltr2)
      clear HI2 HR2 PP hf
      by_cases h0 : ra = 0
      · subst h0
        gi_wp2_with fail
        go_roundw
        case rel => exact ⟨1, by omega, rfl, fun _ => by first | rfl | trivial, fun h => by omega, I3, HR3⟩
        case measure => first | (simp [intOf]; done) | (simp [intOf]; omega)
      · have HN : r = ra := HR.out.trans ((dotE_a (by rw [← HRA.out]; exact h0)).trans HRA.out.symm)
        have x2 := I3.out.x2
        have d0 := x2.c0
        have d1 := x2.c1
        have d2 := x2.c2
        have f0 := x2.free 0
        have f1 := x2.free 1
        have f2 := x2.free 2
        have y2 := x2.set3 (.bool false) (.slice none 0 0) (.slice none 0 0)
        have F9 := fr_set3 w2 (w.heap.size + 2) (.bool false) (.slice none 0 0) (.slice none 0 0)
        have F8 := I3.out.fr.comp F9 (R := fun k => k < w.heap.size) fun k _ hk => ⟨hk, by omega⟩
        gi_wp2_with fail
        exact ⟨_, results_cell3_tmp rfl rfl y2 Tryz.underlying43 rat3, ⟨_, _, _, by first | rfl | rw [HN]; rfl, fun _ => ⟨rfl, rfl⟩, fun h => absurd (HN.symm.trans h) h0, F8⟩⟩
    · have hra := hk0 (by omega)
      have I2 := I1.out.keep ((Fr.refl (fun _ => True) wr).alloc (.cells #[.slice B shb.length d, .slice B' eb.length d'] 26)) (fun _ _ => trivial)
      have HR2 := Lib.hid ((Below.heap_alloc wr (.cells #[.slice B shb.length d, .slice B' eb.length d'] 26) _ ltr).trans HROW.out)
      have PP := Lib.hid (may_t (wr.alloc (.cells #[.slice B shb.length d, .slice B' eb.length d'] 26)) (.slice B shb.length d) (.slice B' eb.length d') shb eb L I2.b1 I2.b2 HLB.out hL1 hl)
      rw [← HRB.out] at PP
      have HI2 := Lib.hid I2
      have ltr2 := lt_of_block HR2.out
      clear I1 HROW I2
      gi_wp2_with fail
      refine ⟨trivial, ?_⟩
      with_reducible refine (callsIn_wide.2 PP.out).mono ?_
      rintro e w2 ⟨rfl, hf⟩
      have I3 := Lib.hid (HI2.out.keep hf (fun k hk => by have := HI2.out.lt; omega))
      have HR3 := Lib.hid (hf.obj HR2.out ltr2)
      clear HI2 HR2 PP hf
      by_cases h0 : rb = 0
      · subst h0
        gi_wp2_with fail
        go_roundw
        case rel => exact ⟨2, by omega, rfl, fun _ => by first | exact hra | trivial, fun _ => by first | rfl | trivial, I3, HR3⟩
        case measure => first | (simp [intOf]; done) | (simp [intOf]; omega)
      · have HN : r = rb := HR.out.trans ((dotE_b (by rw [← HRA.out]; exact hra) (by rw [← HRB.out]; exact h0)).trans HRB.out.symm)
        have x2 := I3.out.x2
        have d0 := x2.c0
        have d1 := x2.c1
        have d2 := x2.c2
        have f0 := x2.free 0
        have f1 := x2.free 1
        have f2 := x2.free 2
        have y2 := x2.set3 (.bool false) (.slice none 0 0) (.slice none 0 0)
        have F9 := fr_set3 w2 (w.heap.size + 2) (.bool false) (.slice none 0 0) (.slice none 0 0)
        have F8 := I3.out.fr.comp F9 (R := fun k => k < w.heap.size) fun k _ hk => ⟨hk, by omega⟩
        gi_wp2_with fail
        exact ⟨_, results_cell3_tmp rfl rfl y2 Tryz.underlying43 rat3, ⟨_, _, _, by first | rfl | rw [HN]; rfl, fun _ => ⟨rfl, rfl⟩, fun h => absurd (HN.symm.trans h) h0, F8⟩⟩
    · have hra := hk0 (by omega)
      have hrb := hk1 (by omega)
      have I2 := I1.out
      have PP := Lib.hid (slequal_calls wr (.slice A sha.length c) (.slice B shb.length d) sha shb I2.a1 I2.b1)
      have a0 := I2.x0.c0
      have b0 := I2.x1.c0
      clear I1 HROW c0 c1 c2 c3
      gi_wp2_with fail
      refine ⟨trivial, ?_⟩
      with_reducible refine (callsIn_wide.2 PP.out).mono ?_
      rintro e w4 ⟨rfl, hf⟩
      have I3 := I2.keep hf (fun _ _ => trivial)
      clear PP a0 b0 hf I2
      by_cases hsh : sha = shb
      · have HN : r = 0 := HR.out.trans (dotE_0 (by rw [← HRA.out]; exact hra) (by rw [← HRB.out]; exact hrb) hsh)
        rw [decide_eq_true hsh]
        have hlen : ea.length = eb.length := by
          have h1 := (mayT_ok (by rw [← HRA.out]; exact hra : mayT sha ea = 0)).2.1
          have h2 := (mayT_ok (by rw [← HRB.out]; exact hrb : mayT shb eb = 0)).2.1
          rw [hsh] at h1
          omega
        have HLEN := Lib.hid hlen
        clear hsh hlen
        have lt4 := I3.lt
        gi_wp2_with fail
        refine ⟨trivial, ?_⟩
        refine (callsIn_wide.2 (int_0 _)).mono ?_
        rintro e w5 ⟨s0, v1, v2, rfl, hs0, h0, hf⟩
        obtain ⟨⟨Q1, i1, j1, rfl⟩, ⟨Q2, i2, j2, rfl⟩⟩ := h0.out.form
        have I4 := (I3.keep hf (fun k hk => by omega)).keep ((Fr.refl (fun _ => True) w5).alloc (.cells #[.bool s0, .slice Q1 i1 j1, .slice Q2 i2 j2] 43)) (fun _ _ => trivial)
        have b9 := Box3.new w5 43 (.bool s0) (.slice Q1 i1 j1) (.slice Q2 i2 j2)
        have sz5 := hf.size
        have r1 := (h0.out.bd.fr ((Fr.refl _ w5).alloc (.cells #[.bool s0, .slice Q1 i1 j1, .slice Q2 i2 j2] 43)))
        have c0 := I4.x0.c0
        have c1 := I4.x0.c1
        clear I3 hf h0
        gi_wp2_with fail
        refine ⟨trivial, ?_⟩
        with_reducible refine (callsIn_wide.2 (of_t _ _ _ _ _ _ _)).mono ?_
        rintro e w6 ⟨rfl, hf6⟩
        have I6 := I4.keep hf6 (fun k hk => by have := I4.lt; omega)
        have b96 := b9.keep hf6
        have r6 := r1.keep hf6
        have s6 := hf6.size
        simp only [World.size_alloc] at s6
        clear I4 b9 r1 hf6 c0 c1
        gi_wp2_with fail
        refine ⟨trivial, ?_⟩
        with_reducible refine (callsIn_wide.2 (all_t _ _ _ _ _ _ _)).mono ?_
        rintro e w7 ⟨rfl, hbx, hf7⟩
        have I7 := I6.keep hf7 (fun k hk => by have := I6.lt; omega)
        have b97 := b96.keep hf7
        have r7 := r6.keep hf7
        have s7 := hf7.size
        have hbl := hbx.lt
        clear I6 b96 r6 hf7
        gi_wp2_with fail
        obtain ⟨E, hE1, hE2⟩ := Rm_all I7.a2
        have lt7 := I7.lt
        have HSum0 : SumI ea eb (w.heap.size + 3) w5.heap.size w7.heap.size K w7 [] w7 := ⟨_, _, _, b97, hs0.out, (r7.mon fun k hk => ⟨by omega, by omega⟩).wide (by omega), Fr.refl _ _⟩
        clear r7
        have sb5 : w5.heap.size < w7.heap.size := by omega
        refine wpIn_rangeFunc_ownH (F := Fence.wide) rfl (by omega) (gf := 69) (lb := #[.pointer (some ⟨w6.heap.size, 0, none⟩)]) rfl trivial (enter_of Tryz.func69 (by decide) rfl)
          (allF_stops (fun k => k < w7.heap.size ∧ k ≠ w5.heap.size) w7 w6.heap.size ea.length A' c' _ E hlea hbx (fun j hj => (hE1 j hj).mono fun k hk => ⟨⟨by omega, by omega⟩, by omega⟩)) frK_t (frK_b (by intro k hk; exact hk.1)) (Below.refl _ _) (fun _ => rfl)
          (SumI ea eb (w.heap.size + 3) w5.heap.size w7.heap.size K w7) (fun _ _ _ => False)
          SumI.own (fun cc => fun _ _ _ _ h _ _ => h)
          HSum0
          (fun x a W => VarX w7.heap.size E (fun x p => { tmps := #[.agg #[.slice A sha.length c, .slice A' ea.length c'], .agg #[.slice B shb.length d, .slice B' eb.length d'], .pointer (some ⟨w.heap.size, 0, none⟩), .pointer (some ⟨w.heap.size + 1, 0, none⟩), .pointer (some ⟨w.heap.size + 1 + 1, 0, none⟩), u5, undef, u7, u8, .pointer (some ⟨w5.heap.size, 0, none⟩), .int .i64 x, p, .agg #[.slice A sha.length c, .slice A' ea.length c'], .agg #[.slice B shb.length d, .slice B' eb.length d'], .slice (some ⟨w.heap.size + 1 + 1 + 1, 0, none⟩) 2 2, .int .i64 2, .int .i64 2, .bool false, u18, u19, u20, u21, u22, u23, u24, u25, u26, .pointer (some ⟨w.heap.size, 0, none⟩), .slice A sha.length c, .pointer (some ⟨w.heap.size + 1, 0, none⟩), .slice B shb.length d, .bool true, .bool false, undef, .agg #[.bool s0, .slice Q1 i1 j1, .slice Q2 i2 j2], .agg #[.slice A sha.length c, .slice A' ea.length c'], .agg #[.slice A sha.length c, .slice A' ea.length c'], .func (.func 69) #[] #[.pointer (some ⟨w6.heap.size, 0, none⟩)], .int .i64 x, E x, undef, undef, undef, undef, undef, undef, undef, undef, undef, undef], defers := [] }) x.val a W) (fun x a => VarX.own _ _ _ _ x.val a) ?assign ?body ?done ?stop
        case assign =>
          intro l pre x W K' hI hK'
          obtain ⟨P, n, o1, Q, m, o, hEx, g1, g2⟩ := hE2 x.val
          generalize (ea.getD x.val zR).1 = sx at hEx
          have HK' := Lib.hid hK'
          obtain ⟨t, v1, v2, g3, g4, g5, g6⟩ := hI
          have al := fun R => (Fr.refl R W).alloc (.cells #[.bool sx, .slice P n o1, .slice Q m o] 43)
          have HI := Lib.hid (show SumI ea eb (w.heap.size + 3) w5.heap.size w7.heap.size K w7 pre (W.alloc (.cells #[.bool sx, .slice P n o1, .slice Q m o] 43)) from ⟨t, v1, v2, g3.alloc _, g4, g5.fr (al _), g6.alloc _⟩)
          have hsz := g6.size
          clear hK' g1 g2 g3 g4 g5 g6 al
          gi_wp2
          exact HK'.out _ _ (keeps_alloc _ _ _) ((Fr.refl _ _).alloc _) HI.out ⟨W.heap.size, _, P, n, o1, Q, m, o, by simp only [hEx], hsz, hEx, Box3.new _ _ _ _ _⟩
        case body =>
          rintro l pre x a' W hl' - ⟨t, v1, v2, b9, ht, rv, i3⟩ ⟨b, s, P, n, o1, Q, m, o, rfl, hb, hEx, hx3⟩ hpre
          obtain ⟨P', n', o1', Q', m', o', hEx', g1, g2⟩ := (hE2 x.val).fr (i3.mono fun k _ hk => ⟨by omega, by omega⟩)
          have hlx := getD_len HLA.out x.val
          obtain ⟨y, hy⟩ : ∃ y, y = ea.getD x.val zR := ⟨_, rfl⟩
          rw [← hy] at hEx' g1 g2 hlx
          rw [hEx'] at hEx
          injection hEx with hEx
          injection hEx with hEx
          injection hEx with e1 hEx
          injection hEx with e2 hEx
          injection hEx with e3 hEx
          injection e1 with e1
          injection e2 with e4 e5 e6
          injection e3 with e7 e8 e9
          subst e1 e4 e5 e6 e7 e8 e9
          have sW := i3.size
          have I8 := I7.keep i3 (fun k hk => ⟨by omega, by omega⟩)
          have hxb : x.val < eb.length := by rw [← HLEN.out]; exact x.isLt
          have D := fun R => (Fr.refl R W).drew
          have I9 := I8.keep (D (fun _ => True)) (fun _ _ => trivial)
          obtain ⟨ad, P2, n2, d2, Q2', m2, o2, rfl, hS2, z0, z1, z2, g3, g4⟩ := Rm_get I9.b2 hxb
          have hly := HLB.out _ (List.getElem_mem hxb)
          have hgd : eb.getD x.val zR = eb[x.val] := by rw [List.getD_eq_getElem?_getD, List.getElem?_eq_getElem hxb]; rfl
          generalize eb[x.val] = y2 at z0 g3 g4 hly hgd
          obtain ⟨⟨Q3, i3', j3, rfl⟩, ⟨Q4, i4, j4, rfl⟩⟩ := rv.form
          have b9' := b9.fr (D (fun _ => True)) trivial
          have rv' := rv.fr (D _)
          have hx' := hx3.fr (D (fun _ => True)) trivial
          have HQ := Lib.hid (show dotQ ea eb (pre ++ [x]) = dotQ ea eb pre + qOf y * qOf y2 by rw [dotQ_step, ← hy, hgd])
          have HB := Lib.hid (HKK.out (pre ++ [x]) (by rw [List.length_append, List.length_singleton]; omega))
          have HT := Lib.hid ht
          have HRV := Lib.hid rv'
          obtain ⟨xv, hxv⟩ : ∃ n : Nat, n = x.val := ⟨_, rfl⟩
          have p := mul_h W.drew y.1 y2.1 (.slice P' n' o1') (.slice Q' m' o') (.slice P2 n2 d2) (.slice Q2' m2 o2) (qOf y) (qOf y2) _ _ _ _ L ⟨⟨y.2.1, g1.fr (D _), rfl, hlx.1⟩, ⟨y.2.2, g2.fr (D _), rfl, hlx.2⟩, rfl⟩ ⟨⟨y2.2.1, g3, rfl, hly.1⟩, ⟨y2.2.2, g4, rfl, hly.2⟩, rfl⟩ hL1 hl
          generalize y.1 = sy at hx' p hEx'
          generalize y2.1 = sy2 at z0 p
          have PP := Lib.hid p
          have l9 := b9.lt
          have lb := hx3.lt
          have hne9 : b ≠ w5.heap.size := by omega
          have KS : ∀ u, Fr (fun k => k < W.heap.size) W.drew u → u.cell? ⟨w5.heap.size, 0, none⟩ = some (.bool t) ∧ u.cell? ⟨w5.heap.size, 1, none⟩ = some (.slice Q3 i3' j3) ∧ u.cell? ⟨w5.heap.size, 2, none⟩ = some (.slice Q4 i4 j4) ∧ u.cell? ⟨b, 0, none⟩ = some (.bool sy) ∧ u.cell? ⟨b, 1, none⟩ = some (.slice P' n' o1') ∧ u.cell? ⟨b, 2, none⟩ = some (.slice Q' m' o') ∧ u.cell? ⟨w.heap.size + 1, 1, none⟩ = some (.slice (some ad) eb.length d') ∧ u.cell? (ad.add (x.val * 3)) = some (.bool sy2) ∧ u.cell? ⟨(ad.add (x.val * 3)).block, (ad.add (x.val * 3)).off + 1, none⟩ = some (.slice P2 n2 d2) ∧ u.cell? ⟨(ad.add (x.val * 3)).block, (ad.add (x.val * 3)).off + 2, none⟩ = some (.slice Q2' m2 o2) := fun u hu =>
            ⟨(b9'.fr hu l9).c0, (b9'.fr hu l9).c1, (b9'.fr hu l9).c2, (hx'.fr hu lb).c0, (hx'.fr hu lb).c1, (hx'.fr hu lb).c2, (I9.x1.fr hu (by omega)).c1, hu.cell z0 (by rw [addr_block]; omega), hu.cell z1 (show (ad.add (x.val * 3)).block < W.heap.size by rw [addr_block]; omega), hu.cell z2 (show (ad.add (x.val * 3)).block < W.heap.size by rw [addr_block]; omega)⟩
          have S0 := KS _ (Fr.refl _ _)
          have hWd : W.drew.heap.size = W.heap.size := rfl
          clear p g1 g2 g3 g4 hlx hly hy hEx' hx3 hgd ht rv rv' I8 z0 z1 z2 hxv
          gi_wp2_with fail
          refine wpTill.beginIn (fun u => u.cell? ⟨w5.heap.size, 0, none⟩ = some (.bool t) ∧ u.cell? ⟨w5.heap.size, 1, none⟩ = some (.slice Q3 i3' j3) ∧ u.cell? ⟨w5.heap.size, 2, none⟩ = some (.slice Q4 i4 j4) ∧ u.cell? ⟨b, 0, none⟩ = some (.bool sy) ∧ u.cell? ⟨b, 1, none⟩ = some (.slice P' n' o1') ∧ u.cell? ⟨b, 2, none⟩ = some (.slice Q' m' o') ∧ u.cell? ⟨w.heap.size + 1, 1, none⟩ = some (.slice (some ad) eb.length d') ∧ u.cell? (ad.add (x.val * 3)) = some (.bool sy2) ∧ u.cell? ⟨(ad.add (x.val * 3)).block, (ad.add (x.val * 3)).off + 1, none⟩ = some (.slice P2 n2 d2) ∧ u.cell? ⟨(ad.add (x.val * 3)).block, (ad.add (x.val * 3)).off + 2, none⟩ = some (.slice Q2' m2 o2)) 9 (by kernel_rfl) (by kernel_rfl) out_none ?_
          change wpTill _ _ _ _ _ _ 10 _ _ _
          refine wpTill.take 0 (.agg #[.bool t, .slice Q3 i3' j3, .slice Q4 i4 j4]) rfl (by kernel_rfl) (by kernel_rfl) (fun _ _ _ h => h) S0 (by rfl) (fun u hu => by go_simp) ?_
          try simp only [Act.put, List.setIfInBounds_toArray, List.set_cons_zero, List.set_cons_succ]
          refine wpTill.take 1 (.agg #[.bool sy, .slice P' n' o1', .slice Q' m' o']) rfl (by kernel_rfl) (by kernel_rfl) (fun _ _ _ h => h) S0 (by rfl) (fun u hu => by go_simp) ?_
          try simp only [Act.put, List.setIfInBounds_toArray, List.set_cons_zero, List.set_cons_succ]
          refine wpTill.take 2 (.pointer (some ⟨w.heap.size + 1, 1, none⟩)) rfl (by kernel_rfl) (by kernel_rfl) (fun _ _ _ h => h) S0 (by rfl) (fun u hu => by go_simp) ?_
          try simp only [Act.put, List.setIfInBounds_toArray, List.set_cons_zero, List.set_cons_succ]
          refine wpTill.take 3 (.slice (some ad) eb.length d') rfl (by kernel_rfl) (by kernel_rfl) (fun _ _ _ h => h) S0 (by rfl) (fun u hu => by go_simp) ?_
          try simp only [Act.put, List.setIfInBounds_toArray, List.set_cons_zero, List.set_cons_succ]
          refine wpTill.take 4 (.int .i64 (x.val : Nat)) rfl (by kernel_rfl) (by kernel_rfl) (fun _ _ _ h => h) S0 (by rfl) (fun u hu => by go_simp) ?_
          try simp only [Act.put, List.setIfInBounds_toArray, List.set_cons_zero, List.set_cons_succ]
          refine wpTill.take 5 (.pointer (some (ad.add (x.val * 3)))) rfl (by kernel_rfl) (by kernel_rfl) (fun _ _ _ h => h) S0 (by rfl) (fun u hu => by go_simp) ?_
          try simp only [Act.put, List.setIfInBounds_toArray, List.set_cons_zero, List.set_cons_succ]
          refine wpTill.take 6 (.agg #[.bool sy2, .slice P2 n2 d2, .slice Q2' m2 o2]) rfl (by kernel_rfl) (by kernel_rfl) (fun _ _ _ h => h) S0 (by rfl) (fun u hu => by go_simp) ?_
          try simp only [Act.put, List.setIfInBounds_toArray, List.set_cons_zero, List.set_cons_succ]
          refine wpTill.next 7 rfl (by kernel_rfl) (by rfl) (fun KC hKC => ?_)
          go_simp
          with_reducible refine PP.out.mono ?_
          rintro e u1 ⟨s8, v3, v4, rfl, hs8, h8, hf1⟩
          obtain ⟨⟨Q5, i5, j5, rfl⟩, ⟨Q6, i6, j6, rfl⟩⟩ := h8.out.form
          have G1 : Fr (fun k => k < W.heap.size) W.drew u1 := hf1
          refine hKC _ _ (fun _ => KS _ G1) ?_
          clear hKC KC
          try simp only [Act.put, List.setIfInBounds_toArray, List.set_cons_zero, List.set_cons_succ]
          refine wpTill.next 8 rfl (by kernel_rfl) (by rfl) (fun KC hKC => ?_)
          go_simp
          refine (add_h _ t s8 (.slice Q3 i3' j3) (.slice Q4 i4 j4) (.slice Q5 i5 j5) (.slice Q6 i6 j6) _ _ _ _ _ _ K (HT.out ▸ (HRV.out.keep hf1).toRI (Nat.le_refl _)) (hs8.out ▸ h8.out.toRI hKL) (by omega) hK6).mono ?_
          rintro e u2 ⟨s9, v5, v6, rfl, hs9, h9, hf2⟩
          obtain ⟨⟨Q7, i7, j7, rfl⟩, ⟨Q8, i8, j8, rfl⟩⟩ := h9.out.form
          have G2 : Fr (fun k => k < W.heap.size) W.drew u2 := fr_then hf1 hf2
          refine hKC _ _ (fun _ => KS _ G2) ?_
          clear hKC KC
          try simp only [Act.put, List.setIfInBounds_toArray, List.set_cons_zero, List.set_cons_succ]
          have j9 := b9'.fr G2 l9
          have G3 : Fr (fun k => k < w7.heap.size ∧ k ≠ w5.heap.size) W u2 := (D _).trans (G2.mono fun k hk _ => hk)
          have e0 := j9.c0
          have e1 := j9.c1
          have e2 := j9.c2
          have e3 := j9.free 0
          have e4 := j9.free 1
          have e5 := j9.free 2
          clear G1 PP S0
          refine wpTill.next 9 rfl (by kernel_rfl) (by rfl) (fun KC hKC => ?_)
          go_simp
          refine hKC _ _ (no_wait (by kernel_rfl)) ?_
          clear hKC KC
          try simp only [Act.put, List.setIfInBounds_toArray, List.set_cons_zero, List.set_cons_succ]
          refine wpTill.done (by kernel_rfl) ?_
          have F9 := fr_set3 u2 w5.heap.size (.bool s9) (.slice Q7 i7 j7) (.slice Q8 i8 j8)
          have k9 := j9.set3 (.bool s9) (.slice Q7 i7 j7) (.slice Q8 i8 j8)
          clear e0 e1 e2 e3 e4 e5
          gi_wp2_with fail
          refine ⟨((((KeepsOthers.drew W).from _).trans ((keeps_fr _ hf1).trans (keeps_fr _ hf2))).trans (keeps_cell _ _ _ _)).trans ((keeps_cell _ _ _ _).trans (keeps_cell _ _ _ _)), G3.comp F9 fun k _ hk => ⟨hk, by omega⟩, ⟨_, _, _, k9, by rw [HQ.out]; exact hs9.out, ?_, (i3.trans G3).comp F9 fun k _ hk => ⟨hk, by omega⟩⟩⟩
          have hv := h9.out.past F9 (fun k hk => by have := hf1.size; omega)
          rw [← HQ.out] at hv
          exact (hv.mon fun k hk => ⟨by have := hf1.size; omega, by have := hf1.size; omega⟩).sizes HB.out.1 HB.out.2
        case done =>
          rintro D ys W hD rfl ⟨t, v1, v2, b9, ht, rv, i3⟩ hK'
          obtain ⟨⟨Q3, i3', j3, rfl⟩, ⟨Q4, i4, j4, rfl⟩⟩ := rv.form
          have I8 := I7.keep i3 (fun k hk => ⟨by omega, by omega⟩)
          have c0 := b9.c0
          have c1 := b9.c1
          have c2 := b9.c2
          have x2 := I8.x2
          have d0 := x2.c0
          have d1 := x2.c1
          have d2 := x2.c2
          have f0 := x2.free 0
          have f1 := x2.free 1
          have f2 := x2.free 2
          have y2 := x2.set3 (.bool t) (.slice Q3 i3' j3) (.slice Q4 i4 j4)
          have F9 := fr_set3 W (w.heap.size + 2) (.bool t) (.slice Q3 i3' j3) (.slice Q4 i4 j4)
          have F8 := I8.fr.comp F9 (R := fun k => k < w.heap.size) fun k _ hk => ⟨hk, by omega⟩
          have HT := Lib.hid ht
          clear ht
          subst HN
          gi_wp2
          have q1 := (KeepsOthers.setCell W ⟨w.heap.size + 2, 0, none⟩ (.bool t)).same D _ hK' rfl
          have q2 := (KeepsOthers.setCell (W.setCell ⟨w.heap.size + 2, 0, none⟩ (.bool t)) ⟨w.heap.size + 2, 1, none⟩ (.slice Q3 i3' j3)).same D _ q1 rfl
          have q3 := (KeepsOthers.setCell ((W.setCell ⟨w.heap.size + 2, 0, none⟩ (.bool t)).setCell ⟨w.heap.size + 2, 1, none⟩ (.slice Q3 i3' j3)) ⟨w.heap.size + 2, 2, none⟩ (.slice Q4 i4 j4)).same D _ q2 rfl
          have gr := grownBy_putObj' (((W.setCell ⟨w.heap.size + 2, 0, none⟩ (.bool t)).setCell ⟨w.heap.size + 2, 1, none⟩ (.slice Q3 i3' j3)).setCell ⟨w.heap.size + 2, 2, none⟩ (.slice Q4 i4 j4)) D (.deferred none)
          have hrw : ∀ r, some D = some r → 0 ≤ r ∧ ∃ o : Obj, (((W.setCell ⟨w.heap.size + 2, 0, none⟩ (.bool t)).setCell ⟨w.heap.size + 2, 1, none⟩ (.slice Q3 i3' j3)).setCell ⟨w.heap.size + 2, 2, none⟩ (.slice Q4 i4 j4)).heap[r]? = some o ∧ o.isCells = false := fun r e => by cases e; exact ⟨Nat.zero_le _, _, q3, rfl⟩
          exact leaves_mark q3 rfl (results_cell3_tmp rfl rfl (grown_cells gr hrw y2) Tryz.underlying43 rat3)
            ⟨_, _, _, rfl, fun h => absurd rfl h, fun _ => ⟨HT.out, ((rv.past F9 fun k hk => by omega).turn gr hrw).mon fun k hk => by omega⟩, F8.comp (Fr.of_grown gr) fun k hk hk' => ⟨hk', fun e => by cases e; omega⟩⟩ rfl
        case stop => rintro D cc pre W hD hpre h hK'; exact h.elim
      · have HN : r = 13 := HR.out.trans (dotE_13 (by rw [← HRA.out]; exact hra) (by rw [← HRB.out]; exact hrb) hsh)
        rw [decide_eq_false hsh]
        clear hsh
        have x2 := I3.x2
        have d0 := x2.c0
        have d1 := x2.c1
        have d2 := x2.c2
        have f0 := x2.free 0
        have f1 := x2.free 1
        have f2 := x2.free 2
        have y2 := x2.set3 (.bool false) (.slice none 0 0) (.slice none 0 0)
        have F9 := fr_set3 w4 (w.heap.size + 2) (.bool false) (.slice none 0 0) (.slice none 0 0)
        have F8 := I3.fr.comp F9 (R := fun k => k < w.heap.size) fun k _ hk => ⟨hk, by omega⟩
        gi_wp2_with fail
        exact ⟨_, results_cell3_tmp rfl rfl y2 Tryz.underlying43 rat3, ⟨_, _, _, by first | rfl | rw [HN]; rfl, fun _ => ⟨rfl, rfl⟩, fun h => absurd (HN.symm.trans h) (by decide), F8⟩⟩
end Go.Proofs.YtjnojkfkhccgaaaGreat

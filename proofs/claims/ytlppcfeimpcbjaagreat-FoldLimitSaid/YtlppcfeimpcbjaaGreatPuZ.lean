/- Texts merged: PtZ, PuB, PuC, PuD, PuJ. -/
import Derived.Test.YtlppcfeimpcbjaaGreatPointC
set_option linter.unusedSimpArgs false
set_option linter.unusedVariables false

/- Contracts in words of values, further ones: rationals, the document's powers. -/
namespace Go.Proofs.YtlppcfeimpcbjaaGreat
open Go.RowKit

theorem wanted_undef {ops : Array Oper} {A : Act} {o : Oper} {g : Nat} {b : Bool} {t : Tmp} (hg : o.guard = some (g, b)) (hd : dstOf ops g = some t) (ht : A.tmps[t]? = some undef) : Region.wanted o (yielded ops A.tmps) = false := by
  have hy : yielded ops A.tmps g = none := by
    unfold yielded
    unfold dstOf at hd
    rw [hd, Option.bind_some, ht]
    rfl
  unfold Region.wanted
  rw [hg]
  simp [hy]
/-- a rational of the document's, answered -/
def RQ (q : Rat) (K : Nat) (u : World) (v : Value) : Prop := ∃ A n c B m k, v = .agg #[.bool (sg q), .slice A n c, .slice B m k] ∧ RR (fun _ => True) u (.slice A n c) (.slice B m k) q K
theorem RQ.out {q : Rat} {K : Nat} {u : World} {s a b : Value} (h : RQ q K u (.agg #[s, a, b])) : RR (fun _ => True) u a b q K := by
  obtain ⟨A, n, c, B, m, k, e, h⟩ := h
  cases e
  exact h
/-- the limbs of a rational's parts -/
def LV (x : RatL) (u : World) (a b : Value) : Prop := Sl Lm (fun _ => True) u a x.2.1 ∧ Sl Lm (fun _ => True) u b x.2.2
theorem LV.hold {x : RatL} {u : World} {a b : Value} (h : LV x u a b) : Hold (fun u => LV x u a b) u := fun _ hu => ⟨h.1.keep' Lm_pos hu, h.2.keep' Lm_pos hu⟩
theorem rof_u {w : World} {x : RatL} {a b : Value} {L : Nat} (h : LV x w a b) (hl : Hid (x.2.1.length ≤ L ∧ x.2.2.length ≤ L)) (hL1 : 1 ≤ L) (hL : L ≤ 104857600) : Calls Tryz.prog 32 #[.agg #[.bool x.1, a, b]] w (Ret w (RQ (qOf x) (3 * L))) := by
  refine (rof_h w x x.1 a b L (Lib.hid h.1) (Lib.hid h.2) rfl hl hL1 hL).mono ?_
  rintro e u ⟨s, v1, v2, rfl, hs, hr, hf⟩
  obtain ⟨⟨A, n, c, rfl⟩, ⟨B, m, k, rfl⟩⟩ := hr.out.form
  rw [hs.out]
  exact ⟨_, rfl, hf, fun u' hu' => ⟨_, _, _, _, _, _, rfl, (hr.out.keep hu').mono fun _ _ => trivial⟩⟩
end Go.Proofs.YtlppcfeimpcbjaaGreat


/- tensor.Same of tensors that are the same. -/
namespace Go.Proofs.YtlppcfeimpcbjaaGreat
open Go.RowKit

set_option maxHeartbeats 4000000 in
theorem eqfunc_y {S T : Nat → Prop} (w : World) (va vb : Value) (ea eb : List RatL) (L : Nat) (ha : Sl Rm S w va ea) (hb : Sl Rm T w vb eb) (hq : Hid (ea.map qOf = eb.map qOf)) (hLa : Hid (∀ x ∈ ea, x.2.1.length ≤ L ∧ x.2.2.length ≤ L)) (hLb : Hid (∀ x ∈ eb, x.2.1.length ≤ L ∧ x.2.2.length ≤ L)) (hL1 : 1 ≤ L) (hl : L ≤ 104857600) :
    Calls Tryz.prog 65 #[va, vb, .func (.func 66) #[] #[]] w fun e w' => e = .returned (.bool true) ∧ Fr (fun k => k < w.heap.size) w w' := by
  obtain ⟨A, c, rfl, _, _, hla⟩ := ha.slice
  obtain ⟨B, d, rfl, _, _, hlb⟩ := hb.slice
  have HA := Lib.hid (ha.low Rm_pos)
  have HB := Lib.hid (hb.low Rm_pos)
  have hlen := Lib.hid (show ea.length = eb.length by have := congrArg List.length hq.out; rwa [List.length_map, List.length_map] at this)
  have hli : ((ea.length : Int) == (eb.length : Int)) = true := by simp [hlen.out]
  clear ha hb
  go_enter Tryz.func65, Tryz.ntmps65
  go_wp2_with fail
  simp only [show (((ea.length : Int) != (eb.length : Int)) = false) by rw [bne, hli]; rfl]
  clear hli
  go_loopw [17] (fun k W => ∃ (j : Nat), k = .int .i64 j ∧ j ≤ ea.length ∧ Fr (fun k => k < w.heap.size) w W) (fun k _ => ea.length - (intOf k).toNat)
  case atStart => exact ⟨0, rfl, by omega, Fr.refl _ _⟩
  case round =>
    obtain ⟨j, rfl, hj, F⟩ := hrel
    by_cases hlt : j < ea.length
    · have hlt2 : j < eb.length := by have := hlen.out; omega
      obtain ⟨ad, P, n, d1, Q, m, o, rfl, hS, g0, g1, g2, r1, r2⟩ := Rm_get (HA.out.fr F) hlt
      obtain ⟨ae, P', n', d2, Q', m', o', rfl, hS', k0, k1, k2, q1, q2⟩ := Rm_get (HB.out.fr F) hlt2
      have HQ := Lib.hid (show decide (qOf ea[j] = qOf eb[j]) = true from decide_eq_true (by
        have h := hq.out
        have h1 : (ea.map qOf)[j]'(by rw [List.length_map]; exact hlt) = (eb.map qOf)[j]'(by rw [List.length_map]; exact hlt2) := by simp only [h]
        rwa [List.getElem_map, List.getElem_map] at h1))
      have hx := hLa.out _ (List.getElem_mem hlt)
      have hy := hLb.out _ (List.getElem_mem hlt2)
      generalize ea[j] = x at g0 r1 r2 hx HQ
      generalize eb[j] = y at k0 q1 q2 hy HQ
      have al := fun R => ((Fr.refl R wr).alloc (.cells #[.bool x.1, .slice P n d1, .slice Q m o] 54)).alloc (.cells #[.bool y.1, .slice P' n' d2, .slice Q' m' o'] 54)
      have x8 := (Box3.new wr 54 (.bool x.1) (.slice P n d1) (.slice Q m o)).alloc (.cells #[.bool y.1, .slice P' n' d2, .slice Q' m' o'] 54)
      have x9 := Box3.new (wr.alloc (.cells #[.bool x.1, .slice P n d1, .slice Q m o] 54)) 54 (.bool y.1) (.slice P' n' d2) (.slice Q' m' o')
      simp only [World.size_alloc] at x9
      have H1 := Lib.hid (ri_x (r1.keep' Lm_pos (al _)) (r2.keep' Lm_pos (al _)) hx)
      have H2 := Lib.hid (ri_x (q1.keep' Lm_pos (al _)) (q2.keep' Lm_pos (al _)) hy)
      replace F := fr_then F (al _)
      have e0 := x8.c0
      have e1 := x8.c1
      have e2 := x8.c2
      have f0 := x9.c0
      have f1 := x9.c1
      have f2 := x9.c2
      have k0' := World.cell?_of_block (w := wr) (w' := wr.alloc (.cells #[.bool x.1, .slice P n d1, .slice Q m o] 54)) (Below.heap_alloc _ _ _ (World.block_lt_of_cell? _ _ k0))
      have z0 := ((Fr.refl (fun _ => True) wr).alloc (.cells #[.bool x.1, .slice P n d1, .slice Q m o] 54)).cell k0 trivial
      have z1 := ((Fr.refl (fun _ => True) wr).alloc (.cells #[.bool x.1, .slice P n d1, .slice Q m o] 54)).cell k1 trivial
      have z2 := ((Fr.refl (fun _ => True) wr).alloc (.cells #[.bool x.1, .slice P n d1, .slice Q m o] 54)).cell k2 trivial
      clear r1 r2 q1 q2 hx hy al k0'
      go_wp2_with fail
      with_reducible refine (rsame_z _ x.1 y.1 (.slice P n d1) (.slice Q m o) (.slice P' n' d2) (.slice Q' m' o') (qOf x) (qOf y) _ _ _ _ L true HQ H1.out H2.out hL1 hl).mono ?_
      rintro e u1 ⟨rfl, hf⟩
      replace F := fr_then F hf
      clear hf g0 g1 g2 k0 k1 k2 e0 e1 e2 f0 f1 f2 z0 z1 z2 x8 x9 H1 H2
      go_wp2_with fail
      go_roundw
      case rel => exact ⟨j + 1, by go_num, by omega, F⟩
      case measure => first | (simp [intOf]; done) | (simp [intOf]; omega)
    · obtain rfl : j = ea.length := by omega
      go_wp2_with fail
      go_ret
      exact ⟨rfl, F⟩
theorem tsame_u {w : World} {sha shb : List Int} {ea eb : List RatL} {a b c d : Value} {L : Nat} (h : TV sha ea w a b) (g : TV shb eb w c d) (fa : Hid (Fit sha ea L)) (fb : Hid (Fit shb eb L)) (hs : sha = shb) (hq : Hid (ea.map qOf = eb.map qOf)) :
    Calls Tryz.prog 24 #[.agg #[a, b], .agg #[c, d]] w (Ret w fun _ v => v = .bool true) := by
  subst hs
  refine Calls.mono (show Calls Tryz.prog 24 #[.agg #[a, b], .agg #[c, d]] w (fun e w' => e = .returned (.bool true) ∧ Fr (fun k => k < w.heap.size) w w') from ?_) fun _ _ h => Ret.eq h.1 h.2
  obtain ⟨⟨A, i, j, rfl⟩, ⟨B, k, l, rfl⟩⟩ := h.form
  obtain ⟨⟨A', i', j', rfl⟩, ⟨B', k', l', rfl⟩⟩ := g.form
  have F := ((Fr.refl (fun k => k < w.heap.size) w).alloc (.cells #[.slice A i j, .slice B k l] 26)).alloc (.cells #[.slice A' i' j', .slice B' k' l'] 26)
  have x0 := (Box2.new w 26 (.slice A i j) (.slice B k l)).alloc (.cells #[.slice A' i' j', .slice B' k' l'] 26)
  have x1 := Box2.new (w.alloc (.cells #[.slice A i j, .slice B k l] 26)) 26 (.slice A' i' j') (.slice B' k' l')
  simp only [World.size_alloc] at x1
  have H := h.hold.keep F
  have G := g.hold.keep F
  clear h g
  have d0 := x0.c0
  have e0 := x1.c0
  go_enter Tryz.func24, Tryz.ntmps24
  go_wp2_with fail
  have p := Lib.hid (slequal_calls _ (.slice A i j) (.slice A' i' j') sha sha H.now.1 G.now.1)
  rw [show decide (sha = sha) = true from decide_eq_true rfl] at p
  with_reducible refine p.out.mono ?_
  rintro e w1 ⟨rfl, hf⟩
  have HF := fun R => hf.mono (T := R) fun _ _ _ => trivial
  replace x0 := x0.keep (HF _)
  replace x1 := x1.keep (HF _)
  replace H := H.keep (HF _)
  replace G := G.keep (HF _)
  replace F := fr_then F (HF _)
  clear hf HF p d0 e0
  have d1 := x0.c1
  have e1 := x1.c1
  go_wp2_with fail
  have p := Lib.hid (eqfunc_y _ (.slice B k l) (.slice B' k' l') ea eb L H.now.2 G.now.2 hq (Lib.hid fa.out.lx) (Lib.hid fb.out.lx) fa.out.one (by have := fa.out.top; omega))
  with_reducible refine p.out.mono ?_
  rintro e w2 ⟨rfl, hf⟩
  go_wp2_with fail
  go_ret
  exact ⟨rfl, fr_then F hf⟩
end Go.Proofs.YtlppcfeimpcbjaaGreat


/- The plain law behind PointRelus: printed by gen_puc.py. -/
namespace Go.Proofs.YtlppcfeimpcbjaaGreat
open Go.RowKit

def rluQ (q : Rat) : Rat := if q.num.sign < 0 then 0 else q
def stpQ (q : Rat) : Rat := ((max q.num.sign 0 : Int) : Rat)
theorem fit_can {sh : List Int} {l : List Rat} {L : Nat} (h1 : sh.length ≤ 1099511627000) (h2 : l.length ≤ 1099511627000) (h : ∀ q ∈ l, (dg LB q.num.natAbs).length ≤ L ∧ (dg LB q.den).length ≤ L) (hL1 : 1 ≤ L) (hL : L ≤ 1048578) : Fit sh (l.map canR) L :=
  ⟨h1, by rw [List.length_map]; exact h2, fun x hx => by obtain ⟨q, hq, rfl⟩ := List.mem_map.1 hx; exact h q hq, hL1, hL, fun x hx => by obtain ⟨q, hq, rfl⟩ := List.mem_map.1 hx; exact ⟨dg_lt LB2 _, dg_lt LB2 _⟩⟩
theorem can_map (f : Rat → Rat) (ea : List RatL) : (ea.map fun x => canR (f (qOf x))) = ((ea.map qOf).map f).map canR := by rw [List.map_map, List.map_map]; rfl
theorem q_can_map (f : Rat → Rat) (ea : List RatL) : (ea.map fun x => canR (f (qOf x))).map qOf = (ea.map qOf).map f := by rw [can_map, k_q]
theorem Fit.lens {sh : List Int} {es : List RatL} {L : Nat} (f : Fit sh es L) : ∀ q ∈ es.map qOf, (dg LB q.num.natAbs).length ≤ L ∧ (dg LB q.den).length ≤ L := fun q hq => by
  obtain ⟨x, hx, rfl⟩ := List.mem_map.1 hq
  exact qOf_len (f.lt x hx) (f.lx x hx).1 (f.lx x hx).2 f.one
theorem Fit.can {sh : List Int} {es : List RatL} {L : Nat} (f : Fit sh es L) (g : Rat → Rat) (hg : ∀ q, (dg LB q.num.natAbs).length ≤ L → (dg LB q.den).length ≤ L → (dg LB (g q).num.natAbs).length ≤ L ∧ (dg LB (g q).den).length ≤ L) : Fit sh (es.map fun x => canR (g (qOf x))) L := by
  rw [can_map]
  refine fit_can f.nsh (by rw [List.length_map, List.length_map]; exact f.nes) (fun q hq => ?_) f.one f.top
  obtain ⟨p, hp, rfl⟩ := List.mem_map.1 hq
  have := f.lens p hp
  exact hg p this.1 this.2
theorem may_can {sh : List Int} {es : List RatL} {l : List Rat} (h : mayT sh es = 0) (hl : l.length = es.length) : mayT sh (l.map canR) = 0 := mayT_0 (by
    have h1 := mayT_ok h
    rw [List.length_map]
    exact fitsT_0 h1.1 (by rw [hl]; exact h1.2.1)) fun x hx => by
  obtain ⟨q, _, rfl⟩ := List.mem_map.1 hx
  exact like_can _
theorem may_map {sh : List Int} {es : List RatL} (h : mayT sh es = 0) (g : Rat → Rat) : mayT sh (es.map fun x => canR (g (qOf x))) = 0 := by
  rw [can_map]
  exact may_can h (by rw [List.length_map, List.length_map])
theorem one_len {L : Nat} (hL : 1 ≤ L) : (dg LB 1).length ≤ L := Nat.le_trans (dg_len_le LB2 (k := 1) (by decide)) hL
theorem neg_lens {L : Nat} (q : Rat) (h1 : (dg LB q.num.natAbs).length ≤ L) (h2 : (dg LB q.den).length ≤ L) : (dg LB (-q).num.natAbs).length ≤ L ∧ (dg LB (-q).den).length ≤ L := by
  rw [Rat.neg_num, Int.natAbs_neg, Rat.neg_den]
  exact ⟨h1, h2⟩
theorem rlu_lens {L : Nat} (hL : 1 ≤ L) (q : Rat) (h1 : (dg LB q.num.natAbs).length ≤ L) (h2 : (dg LB q.den).length ≤ L) : (dg LB (rluQ q).num.natAbs).length ≤ L ∧ (dg LB (rluQ q).den).length ≤ L := by
  unfold rluQ
  split
  · exact ⟨by rw [show (0 : Rat).num.natAbs = 0 from rfl, dg_zero]; exact Nat.zero_le _, one_len hL⟩
  · exact ⟨h1, h2⟩
theorem stp_lens {L : Nat} (hL : 1 ≤ L) (q : Rat) (_ : (dg LB q.num.natAbs).length ≤ L) (_ : (dg LB q.den).length ≤ L) : (dg LB (stpQ q).num.natAbs).length ≤ L ∧ (dg LB (stpQ q).den).length ≤ L := by
  unfold stpQ
  rw [Rat.num_intCast, Rat.den_intCast]
  rcases sign_3 q with h | h | h <;> rw [h]
  · exact ⟨by rw [show (max (-1 : Int) 0).natAbs = 0 from rfl, dg_zero]; exact Nat.zero_le _, one_len hL⟩
  · exact ⟨by rw [show (max (0 : Int) 0).natAbs = 0 from rfl, dg_zero]; exact Nat.zero_le _, one_len hL⟩
  · exact ⟨by rw [show (max (1 : Int) 0).natAbs = 1 from rfl]; exact one_len hL, one_len hL⟩
theorem rlu_stp (q : Rat) : rluQ q = q * stpQ q := by
  unfold rluQ stpQ
  rcases sign_3 q with h | h | h <;> rw [h]
  · rw [if_pos (by decide), show ((max (-1 : Int) 0 : Int) : Rat) = 0 from rfl, Rat.mul_zero]
  · rw [if_neg (by decide), show ((max (0 : Int) 0 : Int) : Rat) = 0 from rfl, Rat.mul_zero]
    exact Rat.num_eq_zero.1 (Int.sign_eq_zero_iff_zero.1 h)
  · rw [if_neg (by decide), show ((max (1 : Int) 0 : Int) : Rat) = 1 from rfl, Rat.mul_one]
theorem rlu_neg (q : Rat) : rluQ q - rluQ (-q) = q := by
  unfold rluQ
  rw [Rat.neg_num, Int.sign_neg]
  rcases sign_3 q with h | h | h <;> rw [h]
  · rw [if_pos (by decide), if_neg (by decide), Rat.sub_eq_add_neg, Rat.neg_neg, Rat.zero_add]
  · have h0 : q = 0 := Rat.num_eq_zero.1 (Int.sign_eq_zero_iff_zero.1 h)
    rw [if_neg (by decide), if_neg (by decide), h0]
    decide +kernel
  · rw [if_neg (by decide), if_pos (by decide), Rat.sub_eq_add_neg, Rat.neg_zero, Rat.add_zero]
theorem zip_self (f : Rat → Rat → Rat) (g h : Rat → Rat) : ∀ l : List Rat, List.zipWith f (l.map g) (l.map h) = l.map fun q => f (g q) (h q)
  | [] => rfl
  | q :: l => by rw [List.map_cons, List.map_cons, List.zipWith_cons_cons, zip_self f g h l]; rfl
theorem relus_1 (ea : List RatL) : (ea.map fun x => canR (rluQ (qOf x))).map qOf = ((List.range ea.length).map (zipG mulG ea (ea.map fun x => canR (stpQ (qOf x))))).map qOf := by
  rw [zip_mul ea _ (by rw [List.length_map]), q_can_map, k_q, q_can_map]
  have := zip_self (fun x y => x * y) (fun q => q) stpQ (ea.map qOf)
  rw [List.map_id'] at this
  rw [this]
  exact List.map_congr_left fun q _ => rlu_stp q
theorem relus_2 (ea : List RatL) : ((List.range (ea.map fun x => canR (rluQ (qOf x))).length).map (zipG subG (ea.map fun x => canR (rluQ (qOf x))) ((ea.map fun x => canR (-(qOf x))).map fun x => canR (rluQ (qOf x))))).map qOf = ea.map qOf := by
  rw [zip_map (fun x y => x - y) subG (fun _ _ => rfl) _ _ (by simp), k_q, q_can_map, q_can_map rluQ (ea.map fun x => canR (-(qOf x))), q_can_map (fun q => -q), show ∀ l : List Rat, (l.map fun q => -q).map rluQ = l.map fun q => rluQ (-q) from fun l => by rw [List.map_map]; rfl, zip_self]
  refine (List.map_congr_left fun q _ => ?_).trans (List.map_id _)
  exact rlu_neg q
theorem relus_mu (ea : List RatL) : (ea.map fun x => canR (rluQ (qOf x))) = (List.range ea.length).map (zipG mulG ea (ea.map fun x => canR (stpQ (qOf x)))) := by
  have h := congrArg (List.map canR) (relus_1 ea)
  rw [q_can_map, ← can_map] at h
  rw [h, zip_mul ea _ (by rw [List.length_map]), k_q]
theorem relus_su (ea : List RatL) : (List.range (ea.map fun x => canR (rluQ (qOf x))).length).map (zipG subG (ea.map fun x => canR (rluQ (qOf x))) ((ea.map fun x => canR (-(qOf x))).map fun x => canR (rluQ (qOf x)))) = ea.map fun x => canR (qOf x) := by
  have h := congrArg (List.map canR) (relus_2 ea)
  rw [zip_map (fun x y => x - y) subG (fun _ _ => rfl) _ _ (by simp), k_q] at h
  rw [zip_map (fun x y => x - y) subG (fun _ _ => rfl) _ _ (by simp), h, List.map_map]
  rfl
end Go.Proofs.YtlppcfeimpcbjaaGreat


/- The plain law behind PointField: what is answered is of few limbs; the laws of a field, element by element. -/
namespace Go.Proofs.YtlppcfeimpcbjaaGreat
open Go.RowKit

/-- a rational of at most M limbs each way -/
def Lens (M : Nat) (q : Rat) : Prop := (dg LB q.num.natAbs).length ≤ M ∧ (dg LB q.den).length ≤ M
theorem Lens.wide {M N : Nat} {q : Rat} (h : Lens M q) (hl : M ≤ N) : Lens N q := ⟨Nat.le_trans h.1 hl, Nat.le_trans h.2 hl⟩
theorem lens_mk {q : Rat} {z : Int} {P K : Nat} (hP : 0 < P) (e : q = mkRat z P) (hz : z.natAbs < LB ^ K) (hp : P < LB ^ K) : Lens K q := by
  have hden : q.den ≤ P := by
    rw [e, Rat.den_mkRat, if_neg (by omega)]
    exact Nat.div_le_self _ _
  have hnum : q.num.natAbs ≤ z.natAbs := by
    rw [e, Rat.num_mkRat, if_neg (by omega)]
    exact Int.natAbs_ediv_le_natAbs _ _
  exact ⟨dg_len_le LB2 (Nat.lt_of_le_of_lt hnum hz), dg_len_le LB2 (Nat.lt_of_le_of_lt hden hp)⟩
theorem lens_add {M : Nat} {x y : Rat} (hx : Lens M x) (hy : Lens M y) : Lens (2 * M + 1) (x + y) := by
  have a1 := lt_of_dg hx.1
  have a2 := lt_of_dg hx.2
  have b1 := lt_of_dg hy.1
  have b2 := lt_of_dg hy.2
  have hpow : LB ^ (2 * M + 1) = LB ^ M * LB ^ M * LB := by rw [Nat.pow_succ, Nat.two_mul, Nat.pow_add]
  have h1 : x.num.natAbs * y.den ≤ LB ^ M * LB ^ M := Nat.mul_le_mul (Nat.le_of_lt a1) (Nat.le_of_lt b2)
  have h2 : y.num.natAbs * x.den ≤ LB ^ M * LB ^ M := Nat.mul_le_mul (Nat.le_of_lt b1) (Nat.le_of_lt a2)
  have h3 : x.den * y.den ≤ LB ^ M * LB ^ M := Nat.mul_le_mul (Nat.le_of_lt a2) (Nat.le_of_lt b2)
  have hp : 0 < LB ^ M * LB ^ M := Nat.mul_pos (Nat.pow_pos LBpos) (Nat.pow_pos LBpos)
  have hb : LB ^ M * LB ^ M * 4294967296 = LB ^ (2 * M + 1) := by rw [hpow]; rfl
  refine lens_mk (Nat.mul_pos x.den_pos y.den_pos) (Rat.add_def' x y) ?_ ?_
  · refine Nat.lt_of_le_of_lt (Int.natAbs_add_le _ _) ?_
    rw [Int.natAbs_mul, Int.natAbs_mul, Int.natAbs_natCast, Int.natAbs_natCast]
    omega
  · omega
theorem lens_neg {M : Nat} {x : Rat} (hx : Lens M x) : Lens M (-x) := neg_lens x hx.1 hx.2
theorem lens_sub {M : Nat} {x y : Rat} (hx : Lens M x) (hy : Lens M y) : Lens (2 * M + 1) (x - y) := by
  rw [Rat.sub_eq_add_neg]
  exact lens_add hx (lens_neg hy)
theorem lens_mul {M : Nat} {x y : Rat} (hx : Lens M x) (hy : Lens M y) : Lens (2 * M) (x * y) := by
  have a1 := lt_of_dg hx.1
  have a2 := lt_of_dg hx.2
  have b1 := lt_of_dg hy.1
  have b2 := lt_of_dg hy.2
  have hpow : LB ^ (2 * M) = LB ^ M * LB ^ M := by rw [Nat.two_mul, Nat.pow_add]
  have hp : 0 < LB ^ M := Nat.pow_pos LBpos
  refine lens_mk (Nat.mul_pos x.den_pos y.den_pos) (Rat.mul_def' x y) ?_ ?_
  · rw [Int.natAbs_mul, hpow]
    exact Nat.mul_lt_mul'' a1 b1
  · rw [hpow]
    exact Nat.mul_lt_mul'' a2 b2
theorem lens_inv {M : Nat} (hM : 1 ≤ M) {x : Rat} (hx : Lens M x) : Lens M x⁻¹ := by
  by_cases h : x = 0
  · subst h
    rw [Rat.inv_zero]
    exact ⟨by rw [show (0 : Rat).num.natAbs = 0 from rfl, dg_zero]; exact Nat.zero_le _, one_len hM⟩
  · exact ⟨by rw [inv_num h]; exact hx.2, by rw [inv_den h]; exact hx.1⟩
theorem lens_div {M : Nat} (hM : 1 ≤ M) {x y : Rat} (hx : Lens M x) (hy : Lens M y) : Lens (2 * M) (x / y) := by
  rw [Rat.div_def]
  exact lens_mul hx (lens_inv hM hy)
def LensL (M : Nat) (l : List Rat) : Prop := ∀ q ∈ l, Lens M q
theorem lensl_zip {M N : Nat} {f : Rat → Rat → Rat} (hf : ∀ {x y}, Lens M x → Lens M y → Lens N (f x y)) {a b : List Rat} (ha : LensL M a) (hb : LensL M b) : LensL N (List.zipWith f a b) := fun q hq => by
  rw [List.mem_iff_getElem] at hq
  obtain ⟨i, hi, rfl⟩ := hq
  rw [List.getElem_zipWith]
  exact hf (ha _ (List.getElem_mem _)) (hb _ (List.getElem_mem _))
theorem LensL.wide {M N : Nat} {l : List Rat} (h : LensL M l) (hl : M ≤ N) : LensL N l := fun q hq => (h q hq).wide hl
theorem LensL.fit {sh : List Int} {l : List Rat} {M : Nat} (h : LensL M l) (h1 : sh.length ≤ 1099511627000) (h2 : l.length ≤ 1099511627000) (hM : 1 ≤ M) (hM2 : M ≤ 1048578) : Fit sh (l.map canR) M := fit_can h1 h2 h hM hM2
/-- what a zip of answered tensors answers -/
theorem zip_can (f : Rat → Rat → Rat) (g : RatL → RatL → RatL) (hg : ∀ x y, g x y = canR (f (qOf x) (qOf y))) (a b : List Rat) (h : a.length = b.length) : (List.range (a.map canR).length).map (zipG g (a.map canR) (b.map canR)) = (List.zipWith f a b).map canR := by
  rw [zip_map f g hg _ _ (by simp [h]), k_q, k_q]
theorem ext_q {a b : List Rat} (hl : a.length = b.length) (h : ∀ (i : Nat) (h1 : i < a.length) (h2 : i < b.length), a[i] = b[i]) : a = b := List.ext_getElem hl h
theorem field_1 {x y z : List Rat} (h1 : x.length = y.length) (h2 : x.length = z.length) : List.zipWith (fun a b => a * b) (List.zipWith (fun a b => a + b) x y) z = List.zipWith (fun a b => a + b) (List.zipWith (fun a b => a * b) x z) (List.zipWith (fun a b => a * b) y z) := by
  refine ext_q (by simp; omega) fun i g1 g2 => ?_
  simp only [List.getElem_zipWith]
  exact Rat.add_mul _ _ _
theorem field_2 {x y : List Rat} (h1 : x.length = y.length) : List.zipWith (fun a b => a - b) (List.zipWith (fun a b => a + b) x y) y = x := by
  refine ext_q (by simp; omega) fun i g1 g2 => ?_
  simp only [List.getElem_zipWith]
  rw [Rat.sub_eq_add_neg, Rat.add_assoc, Rat.add_neg_cancel, Rat.add_zero]
theorem field_3 {x z : List Rat} (h1 : x.length = z.length) (h0 : ∀ q ∈ z, q ≠ 0) : List.zipWith (fun a b => a / b) (List.zipWith (fun a b => a * b) x z) z = x := by
  refine ext_q (by simp; omega) fun i g1 g2 => ?_
  simp only [List.getElem_zipWith]
  exact Rat.mul_div_cancel (h0 _ (List.getElem_mem _))
end Go.Proofs.YtlppcfeimpcbjaaGreat


/- Contracts over tensors of answered numbers. -/
namespace Go.Proofs.YtlppcfeimpcbjaaGreat
open Go.RowKit

/-- two ends that differ by the names of two blocks are one -/
theorem merge2 {H G : Nat → Nat → World → Prop} {X : Prop} (h : (∀ b c V, H b c V → G b c V) → X) (k : ∀ b c V, H b c V → G b c V) : X := h k
/-- A tensor that may be, of answered numbers of few limbs. -/
structure KF (sh : List Int) (a : List Rat) (M : Nat) : Prop where
  nsh : sh.length ≤ 1099511627000
  na : a.length ≤ 1099511627000
  may : mayT sh (a.map canR) = 0
  lens : LensL M a
  one : 1 ≤ M
  top : M ≤ 1048578
theorem KF.fit {sh : List Int} {a : List Rat} {M : Nat} (h : KF sh a M) : Fit sh (a.map canR) M := h.lens.fit h.nsh h.na h.one h.top
theorem KF.wide {sh : List Int} {a : List Rat} {M N : Nat} (h : KF sh a M) (hl : M ≤ N) (ht : N ≤ 1048578) : KF sh a N := ⟨h.nsh, h.na, h.may, h.lens.wide hl, by have := h.one; omega, ht⟩
theorem KF.len {sh : List Int} {a b : List Rat} {M N : Nat} (h : KF sh a M) (g : KF sh b N) : a.length = b.length := by
  have := may_same h.may g.may
  rwa [List.length_map, List.length_map] at this
theorem KF.zip {sh : List Int} {a b : List Rat} {M N K : Nat} {f : Rat → Rat → Rat} (hf : ∀ {x y}, Lens M x → Lens N y → Lens K (f x y)) (h : KF sh a M) (g : KF sh b N) (h1 : 1 ≤ K) (ht : K ≤ 1048578) : KF sh (List.zipWith f a b) K := by
  have hl := h.len g
  refine ⟨h.nsh, by rw [List.length_zipWith]; have := h.na; omega, may_can h.may (by rw [List.length_zipWith, List.length_map]; omega), fun q hq => ?_, h1, ht⟩
  rw [List.mem_iff_getElem] at hq
  obtain ⟨i, hi, rfl⟩ := hq
  rw [List.getElem_zipWith]
  exact hf (h.lens _ (List.getElem_mem _)) (g.lens _ (List.getElem_mem _))
theorem like_eq {x : RatL} (h : LikeR x) : x = canR (qOf x) := by
  obtain ⟨h1, h2, h3⟩ := h
  obtain ⟨s, xs, ys⟩ := x
  exact Prod.ext h1 (Prod.ext h2 h3)
theorem may_eq {sh : List Int} {es : List RatL} (h : mayT sh es = 0) : es = (es.map qOf).map canR := by
  rw [List.map_map]
  exact ((List.map_congr_left fun x hx => (like_eq ((mayT_ok h).2.2 x hx)).symm).trans (List.map_id es)).symm
section
variable {w : World} {sh : List Int} {a b : List Rat} {x y z t : Value} {M : Nat}
theorem zipk (f : Rat → Rat → Rat) (g : RatL → RatL → RatL) (hg : ∀ x y, g x y = canR (f (qOf x) (qOf y))) (fa : KF sh a M) (fb : KF sh b M) : (List.range (a.map canR).length).map (zipG g (a.map canR) (b.map canR)) = (List.zipWith f a b).map canR := zip_can f g hg a b (fa.len fb)
theorem add_k (h : TV sh (a.map canR) w x y) (g : TV sh (b.map canR) w z t) (fa : Hid (KF sh a M)) (fb : Hid (KF sh b M)) : Calls Tryz.prog 33 #[.agg #[x, y], .agg #[z, t]] w (Ret w (Tup 0 (TC 0 sh ((List.zipWith (fun p q => p + q) a b).map canR)))) := by
  have p := add_u h g (Lib.hid fa.out.fit) (Lib.hid fb.out.fit) (Lib.hid (bothE_0 fa.out.may fb.out.may rfl fun _ _ => rfl))
  rwa [zipk _ addG (fun _ _ => rfl) fa.out fb.out] at p
theorem same_k (h : TV sh (a.map canR) w x y) (g : TV sh (b.map canR) w z t) (fa : Hid (KF sh a M)) (fb : Hid (KF sh b M)) (he : Hid (a = b)) : Calls Tryz.prog 24 #[.agg #[x, y], .agg #[z, t]] w (Ret w fun _ v => v = .bool true) :=
  tsame_u h g (Lib.hid fa.out.fit) (Lib.hid fb.out.fit) rfl (Lib.hid (by rw [k_q, k_q]; exact he.out))
theorem may_k (h : TV sh (a.map canR) w x y) (fa : Hid (KF sh a M)) : Calls Tryz.prog 25 #[.agg #[x, y]] w (Ret w fun _ v => v = .int .i64 0) :=
  (may_h w x y sh (a.map canR) M 0 (Lib.hid fa.out.may) h.1 h.2 fa.out.fit.lx fa.out.one (by have := fa.out.top; omega)).mono fun _ _ h => Ret.eq h.1 h.2
end
end Go.Proofs.YtlppcfeimpcbjaaGreat

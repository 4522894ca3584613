import Derived.Test.YtlknmoegngjpcaaGreatPuB
set_option linter.unusedSimpArgs false
set_option linter.unusedVariables false

/- The plain law behind PointRelus: printed by gen_puc.py. -/
namespace Go.Proofs.YtlknmoegngjpcaaGreat
open Go.RowKit

def rluQ (q : Rat) : Rat := if q.num.sign < 0 then 0 else q
def stpQ (q : Rat) : Rat := ((max q.num.sign 0 : Int) : Rat)
theorem fit_can {sh : List Int} {l : List Rat} {L : Nat} (h1 : sh.length ≤ 1099511627000) (h2 : l.length ≤ 1099511627000) (h : ∀ q ∈ l, (dg LB q.num.natAbs).length ≤ L ∧ (dg LB q.den).length ≤ L) (hL1 : 1 ≤ L) (hL : L ≤ 1048578) : Fit sh (l.map canR) L :=
  ⟨h1, by rw [List.length_map]; exact h2, fun x hx => by obtain ⟨q, hq, rfl⟩ := List.mem_map.1 hx; exact h q hq, hL1, hL, fun x hx => by obtain ⟨q, hq, rfl⟩ := List.mem_map.1 hx; exact ⟨dg_lt LB2 _, dg_lt LB2 _⟩⟩
theorem can_map (f : Rat → Rat) (ea : List RatL) : (ea.map fun x => canR (f (qOf x))) = ((ea.map qOf).map f).map canR := by rw [List.map_map, List.map_map]; rfl
theorem q_can_map (f : Rat → Rat) (ea : List RatL) : (ea.map fun x => canR (f (qOf x))).map qOf = (ea.map qOf).map f := by rw [can_map, k_q]
theorem Fit.lens {sh : List Int} {es : List RatL} {L : Nat} (f : Fit sh es L) : ∀ q ∈ es.map qOf, (dg LB q.num.natAbs).length ≤ L ∧ (dg LB q.den).length ≤ L := fun q hq => by
  obtain ⟨x, hx, rfl⟩ := List.mem_map.1 hq
  exact qOf_len (f.lt x hx) (f.lx x hx).1 (f.lx x hx).2 f.one
theorem Fit.can {sh : List Int} {es : List RatL} {L : Nat} (f : Fit sh es L) (g : Rat → Rat) (hg : ∀ q, (dg LB q.num.natAbs).length ≤ L → (dg LB q.den).length ≤ L → (dg LB (g q).num.natAbs).length ≤ L ∧ (dg LB (g q).den).length ≤ L) : Fit sh (es.map fun x => canR (g (qOf x))) L := by
  rw [can_map]
  refine fit_can f.nsh (by rw [List.length_map, List.length_map]; exact f.nes) (fun q hq => ?_) f.one f.top
  obtain ⟨p, hp, rfl⟩ := List.mem_map.1 hq
  have := f.lens p hp
  exact hg p this.1 this.2
theorem may_can {sh : List Int} {es : List RatL} {l : List Rat} (h : mayT sh es = 0) (hl : l.length = es.length) : mayT sh (l.map canR) = 0 := mayT_0 (by
    have h1 := mayT_ok h
    rw [List.length_map]
    exact fitsT_0 h1.1 (by rw [hl]; exact h1.2.1)) fun x hx => by
  obtain ⟨q, _, rfl⟩ := List.mem_map.1 hx
  exact like_can _
theorem may_map {sh : List Int} {es : List RatL} (h : mayT sh es = 0) (g : Rat → Rat) : mayT sh (es.map fun x => canR (g (qOf x))) = 0 := by
  rw [can_map]
  exact may_can h (by rw [List.length_map, List.length_map])
theorem one_len {L : Nat} (hL : 1 ≤ L) : (dg LB 1).length ≤ L := Nat.le_trans (dg_len_le LB2 (k := 1) (by decide)) hL
theorem neg_lens {L : Nat} (q : Rat) (h1 : (dg LB q.num.natAbs).length ≤ L) (h2 : (dg LB q.den).length ≤ L) : (dg LB (-q).num.natAbs).length ≤ L ∧ (dg LB (-q).den).length ≤ L := by
  rw [Rat.neg_num, Int.natAbs_neg, Rat.neg_den]
  exact ⟨h1, h2⟩
theorem rlu_lens {L : Nat} (hL : 1 ≤ L) (q : Rat) (h1 : (dg LB q.num.natAbs).length ≤ L) (h2 : (dg LB q.den).length ≤ L) : (dg LB (rluQ q).num.natAbs).length ≤ L ∧ (dg LB (rluQ q).den).length ≤ L := by
  unfold rluQ
  split
  · exact ⟨by rw [show (0 : Rat).num.natAbs = 0 from rfl, dg_zero]; exact Nat.zero_le _, one_len hL⟩
  · exact ⟨h1, h2⟩
theorem stp_lens {L : Nat} (hL : 1 ≤ L) (q : Rat) (_ : (dg LB q.num.natAbs).length ≤ L) (_ : (dg LB q.den).length ≤ L) : (dg LB (stpQ q).num.natAbs).length ≤ L ∧ (dg LB (stpQ q).den).length ≤ L := by
  unfold stpQ
  rw [Rat.num_intCast, Rat.den_intCast]
  rcases sign_3 q with h | h | h <;> rw [h]
  · exact ⟨by rw [show (max (-1 : Int) 0).natAbs = 0 from rfl, dg_zero]; exact Nat.zero_le _, one_len hL⟩
  · exact ⟨by rw [show (max (0 : Int) 0).natAbs = 0 from rfl, dg_zero]; exact Nat.zero_le _, one_len hL⟩
  · exact ⟨by rw [show (max (1 : Int) 0).natAbs = 1 from rfl]; exact one_len hL, one_len hL⟩
theorem rlu_stp (q : Rat) : rluQ q = q * stpQ q := by
  unfold rluQ stpQ
  rcases sign_3 q with h | h | h <;> rw [h]
  · rw [if_pos (by decide), show ((max (-1 : Int) 0 : Int) : Rat) = 0 from rfl, Rat.mul_zero]
  · rw [if_neg (by decide), show ((max (0 : Int) 0 : Int) : Rat) = 0 from rfl, Rat.mul_zero]
    exact Rat.num_eq_zero.1 (Int.sign_eq_zero_iff_zero.1 h)
  · rw [if_neg (by decide), show ((max (1 : Int) 0 : Int) : Rat) = 1 from rfl, Rat.mul_one]
theorem rlu_neg (q : Rat) : rluQ q - rluQ (-q) = q := by
  unfold rluQ
  rw [Rat.neg_num, Int.sign_neg]
  rcases sign_3 q with h | h | h <;> rw [h]
  · rw [if_pos (by decide), if_neg (by decide), Rat.sub_eq_add_neg, Rat.neg_neg, Rat.zero_add]
  · have h0 : q = 0 := Rat.num_eq_zero.1 (Int.sign_eq_zero_iff_zero.1 h)
    rw [if_neg (by decide), if_neg (by decide), h0]
    decide +kernel
  · rw [if_neg (by decide), if_pos (by decide), Rat.sub_eq_add_neg, Rat.neg_zero, Rat.add_zero]
theorem zip_self (f : Rat → Rat → Rat) (g h : Rat → Rat) : ∀ l : List Rat, List.zipWith f (l.map g) (l.map h) = l.map fun q => f (g q) (h q)
  | [] => rfl
  | q :: l => by rw [List.map_cons, List.map_cons, List.zipWith_cons_cons, zip_self f g h l]; rfl
theorem relus_1 (ea : List RatL) : (ea.map fun x => canR (rluQ (qOf x))).map qOf = ((List.range ea.length).map (zipG mulG ea (ea.map fun x => canR (stpQ (qOf x))))).map qOf := by
  rw [zip_mul ea _ (by rw [List.length_map]), q_can_map, k_q, q_can_map]
  have := zip_self (fun x y => x * y) (fun q => q) stpQ (ea.map qOf)
  rw [List.map_id'] at this
  rw [this]
  exact List.map_congr_left fun q _ => rlu_stp q
theorem relus_2 (ea : List RatL) : ((List.range (ea.map fun x => canR (rluQ (qOf x))).length).map (zipG subG (ea.map fun x => canR (rluQ (qOf x))) ((ea.map fun x => canR (-(qOf x))).map fun x => canR (rluQ (qOf x))))).map qOf = ea.map qOf := by
  rw [zip_map (fun x y => x - y) subG (fun _ _ => rfl) _ _ (by simp), k_q, q_can_map, q_can_map rluQ (ea.map fun x => canR (-(qOf x))), q_can_map (fun q => -q), show ∀ l : List Rat, (l.map fun q => -q).map rluQ = l.map fun q => rluQ (-q) from fun l => by rw [List.map_map]; rfl, zip_self]
  refine (List.map_congr_left fun q _ => ?_).trans (List.map_id _)
  exact rlu_neg q
theorem relus_mu (ea : List RatL) : (ea.map fun x => canR (rluQ (qOf x))) = (List.range ea.length).map (zipG mulG ea (ea.map fun x => canR (stpQ (qOf x)))) := by
  have h := congrArg (List.map canR) (relus_1 ea)
  rw [q_can_map, ← can_map] at h
  rw [h, zip_mul ea _ (by rw [List.length_map]), k_q]
theorem relus_su (ea : List RatL) : (List.range (ea.map fun x => canR (rluQ (qOf x))).length).map (zipG subG (ea.map fun x => canR (rluQ (qOf x))) ((ea.map fun x => canR (-(qOf x))).map fun x => canR (rluQ (qOf x)))) = ea.map fun x => canR (qOf x) := by
  have h := congrArg (List.map canR) (relus_2 ea)
  rw [zip_map (fun x y => x - y) subG (fun _ _ => rfl) _ _ (by simp), k_q] at h
  rw [zip_map (fun x y => x - y) subG (fun _ _ => rfl) _ _ (by simp), h, List.map_map]
  rfl
end Go.Proofs.YtlknmoegngjpcaaGreat

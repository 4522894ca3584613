import Derived.Test.YtlknmoegngjpcaaGreatTenX
set_option linter.unusedSimpArgs false
set_option linter.unusedVariables false

/- fluxionref07.Dot. -/
namespace Go.Proofs.YtlknmoegngjpcaaGreat
open Go.RowKit

/-- The sum of the first products. -/
def sumQ (a b : List Rat) : Nat → Rat
  | 0 => 0
  | j + 1 => sumQ a b j + a.getD j 0 * b.getD j 0
theorem RR.bd {S : Nat → Prop} {w : World} {vn vd : Value} {q : Rat} {L : Nat} (h : RR S w vn vd q L) : RR (fun k => S k ∧ k < w.heap.size) w vn vd q L := ⟨⟨h.num.sl.bd Dg_pos, h.num.len⟩, ⟨h.den.sl.bd Dg_pos, h.den.len⟩⟩
theorem RR.past {S R : Nat → Prop} {w w' : World} {vn vd : Value} {q : Rat} {L : Nat} (h : RR S w vn vd q L) (hf : Fr R w w') (hs : ∀ k, S k → R k) : RR S w' vn vd q L := h.fr (hf.mono fun k _ hk => hs k hk)
theorem RR.sizes {S : Nat → Prop} {w : World} {vn vd : Value} {q : Rat} {L K : Nat} (h : RR S w vn vd q L) (hn : (dg DB q.num.natAbs).length ≤ K) (hd : (dg DB q.den).length ≤ K) : RR S w vn vd q K := ⟨⟨h.num.sl, hn⟩, ⟨h.den.sl, hd⟩⟩
theorem rmul_h {S T : Nat → Prop} (w : World) (s t : Bool) (vn vd un ud : Value) (x y : Rat) (L : Nat) (hx : Hid (RR S w vn vd x L)) (hy : Hid (RR T w un ud y L)) (hs : Hid (s = sg x)) (ht : Hid (t = sg y)) (hL1 : 1 ≤ L) (hl : L ≤ 104857600) :
    Calls Tryz.prog 72 #[.agg #[.bool s, vn, vd], .agg #[.bool t, un, ud]] w fun e w' => ∃ r v1 v2, e = .returned (.agg #[.bool r, v1, v2]) ∧ Hid (r = sg (x * y)) ∧ Hid (RR (fun k => w.heap.size ≤ k) w' v1 v2 (x * y) (2 * L)) ∧ Fr (fun k => k < w.heap.size) w w' := by
  refine (rmul_q w s t vn vd un ud x y L hx.out hy.out hs.out ht.out hL1 hl).mono ?_
  rintro e w' ⟨v1, v2, rfl, h, hf⟩
  exact ⟨_, v1, v2, rfl, Lib.hid rfl, Lib.hid h, hf⟩
theorem radd_h {S T : Nat → Prop} (w : World) (s t : Bool) (vn vd un ud : Value) (x y : Rat) (L : Nat) (hx : Hid (RR S w vn vd x L)) (hy : Hid (RR T w un ud y L)) (hs : Hid (s = sg x)) (ht : Hid (t = sg y)) (hL1 : 1 ≤ L) (hl : L ≤ 104857600) :
    Calls Tryz.prog 69 #[.agg #[.bool s, vn, vd], .agg #[.bool t, un, ud]] w fun e w' => ∃ r v1 v2, e = .returned (.agg #[.bool r, v1, v2]) ∧ Hid (r = sg (x + y)) ∧ Hid (RR (fun k => w.heap.size ≤ k) w' v1 v2 (x + y) (4 * L)) ∧ Fr (fun k => k < w.heap.size) w w' := by
  refine (radd_q w s t vn vd un ud x y L hx.out hy.out hs.out ht.out hL1 hl).mono ?_
  rintro e w' ⟨v1, v2, rfl, h, hf⟩
  exact ⟨_, v1, v2, rfl, Lib.hid rfl, Lib.hid h, hf⟩

end Go.Proofs.YtlknmoegngjpcaaGreat

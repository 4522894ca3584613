import Derived.Test.YtjnojkfkhccgaaaTenT

/- fluxionref07.Of: a tensor as the document has it. -/
namespace Go.Proofs.Ytjnojkfkhccgaaa
open Go.RowKit

theorem imT2 : ElemT Try.prog Im 22 3 8 := ElemT.mk' (.int .i64 0) Try.underlying22 Im_pos (by kernel_rfl) rfl
theorem tt2 : (Try.prog.info? 79).map (·.size) = some 2 := by kernel_rfl
theorem rof_h {S : Nat → Prop} (w : World) (x : RatL) (s : Bool) (vn vd : Value) (L : Nat) (h1 : Hid (Sl Lm S w vn x.2.1)) (h2 : Hid (Sl Lm S w vd x.2.2)) (hs : s = x.1) (hl : Hid (x.2.1.length ≤ L ∧ x.2.2.length ≤ L)) (hL1 : 1 ≤ L) (hL : L ≤ 104857600) :
    Calls Try.prog 32 #[.agg #[.bool s, vn, vd]] w fun e w' => ∃ r v1 v2, e = .returned (.agg #[.bool r, v1, v2]) ∧ Hid (r = sg (qOf x)) ∧ Hid (RR (fun k => w.heap.size ≤ k) w' v1 v2 (qOf x) (3 * L)) ∧ Fr (fun k => k < w.heap.size) w w' := by
  subst hs
  refine (rof_r w x.1 vn vd (qOf x) _ _ L ⟨⟨_, h1.out, rfl, hl.out.1⟩, ⟨_, h2.out, rfl, hl.out.2⟩, rfl⟩ hL1 hL).mono ?_
  rintro e w' ⟨v1, v2, rfl, h, hf⟩
  exact ⟨_, v1, v2, rfl, Lib.hid rfl, Lib.hid h, hf⟩

end Go.Proofs.Ytjnojkfkhccgaaa

import Derived.Test.YtjnojkfkhccgaaaTenU

/- fluxionref07.Is, Empty. -/
namespace Go.Proofs.Ytjnojkfkhccgaaa
open Go.RowKit

theorem is_can {S T U : Nat → Prop} (w : World) (s t : Bool) (vn vd un ud : Value) (q : Rat) (L K : Nat) (hs : Hid (s = sg q)) (ht : Hid (t = sg q)) (hq : Hid (RR S w vn vd q K)) (h1 : Hid (Sl Lm T w un (dg LB q.num.natAbs))) (h2 : Hid (Sl Lm U w ud (dg LB q.den))) (hl : Hid ((dg LB q.num.natAbs).length ≤ L ∧ (dg LB q.den).length ≤ L)) (hL : L ≤ 1099511620) :
    Calls Try.prog 28 #[.agg #[.bool s, vn, vd], .agg #[.bool t, un, ud]] w fun e w' => e = .returned (.bool true) ∧ Fr (fun k => k < w.heap.size) w w' := by
  have h := ris_full w s t vn vd un ud q _ _ L K hq.out hs.out h1.out h2.out hl.out.1 hl.out.2 hL
  rwa [decide_eq_true (show Like t (dg LB q.num.natAbs) (dg LB q.den) q from ⟨ht.out, rfl, rfl⟩)] at h
theorem sameshape_y {S T : Nat → Prop} (w : World) (va vb : Value) (a : List Int) (ha : Sl Im S w va a) (hb : Sl Im T w vb a) :
    Calls Try.prog 9 #[va, vb] w fun e w' => e = .returned (.bool true) ∧ Fr (fun _ => True) w w' := by
  have h := sameshape_calls w va vb a a ha hb
  rwa [decide_eq_true rfl] at h
end Go.Proofs.Ytjnojkfkhccgaaa

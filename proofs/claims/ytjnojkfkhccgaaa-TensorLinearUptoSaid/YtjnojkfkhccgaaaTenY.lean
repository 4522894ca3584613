import Derived.Test.YtjnojkfkhccgaaaTenX

/- fluxionref07.Dot. -/
namespace Go.Proofs.Ytjnojkfkhccgaaa
open Go.RowKit

/-- The sum of the first products. -/
def sumQ (a b : List Rat) : Nat → Rat
  | 0 => 0
  | j + 1 => sumQ a b j + a.getD j 0 * b.getD j 0
theorem RR.bd {S : Nat → Prop} {w : World} {vn vd : Value} {q : Rat} {L : Nat} (h : RR S w vn vd q L) : RR (fun k => S k ∧ k < w.heap.size) w vn vd q L := ⟨⟨h.num.sl.bd Dg_pos, h.num.len⟩, ⟨h.den.sl.bd Dg_pos, h.den.len⟩⟩
theorem RR.past {S R : Nat → Prop} {w w' : World} {vn vd : Value} {q : Rat} {L : Nat} (h : RR S w vn vd q L) (hf : Fr R w w') (hs : ∀ k, S k → R k) : RR S w' vn vd q L := h.fr (hf.mono fun k _ hk => hs k hk)
theorem RR.sizes {S : Nat → Prop} {w : World} {vn vd : Value} {q : Rat} {L K : Nat} (h : RR S w vn vd q L) (hn : (dg DB q.num.natAbs).length ≤ K) (hd : (dg DB q.den).length ≤ K) : RR S w vn vd q K := ⟨⟨h.num.sl, hn⟩, ⟨h.den.sl, hd⟩⟩
end Go.Proofs.Ytjnojkfkhccgaaa

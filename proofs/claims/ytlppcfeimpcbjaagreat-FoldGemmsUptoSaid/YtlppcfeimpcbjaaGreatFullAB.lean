/- Texts merged: FullA, FullB. -/
import Derived.Test.YtlppcfeimpcbjaaGreatTenUZ
import Derived.Test.YtlppcfeimpcbjaaGreatFree
set_option linter.unusedSimpArgs false
set_option linter.unusedVariables false

/- Two tensors that have the same limbs: sameRaw, limbs. -/
namespace Go.Proofs.YtlppcfeimpcbjaaGreat
open Go.RowKit

end Go.Proofs.YtlppcfeimpcbjaaGreat


/- A copy of a tensor: grid.turned by any function, tensor.Copy. -/
namespace Go.Proofs.YtlppcfeimpcbjaaGreat
open Go.RowKit Go.Shelf
attribute [local go_sem] Oper.semAt_some

def trn (g : RatL → RatL) (es : List RatL) (i : Nat) : RatL := g (es.getD i zR)
theorem trn_all (g : RatL → RatL) (es : List RatL) : (List.range es.length).map (trn g es) = es.map g := by
  refine List.ext_getElem (by simp) fun i h1 h2 => ?_
  have hi : i < es.length := by simpa using h2
  simp [trn, List.getD_eq_getElem?_getD, List.getElem?_eq_getElem hi]
/-- What lies in memory while each is turned. -/
def TurnF (g : RatL → RatL) (es : List RatL) (b5 n : Nat) (s : Value) (w : World) (pre : List Nat) (W : World) : Prop :=
  ∃ v2, Box2 W b5 105 s v2 ∧ Own Rm 54 (fun k => n ≤ k) W v2 (pre.map (trn g es)) ∧ Fr (fun k => k < n ∧ k ≠ b5) w W
theorem TurnF.own {g : RatL → RatL} {es : List RatL} {b5 n : Nat} {s : Value} {w : World} (hb : b5 < n) : OwnFrom n (fun pre W => TurnF g es b5 n s w pre W) := fun pre W W' row hs hg hr => by
  obtain ⟨v2, h1, h2, h3⟩ := hs
  exact ⟨v2, grown_cells hg hr h1, h2.turn (fun _ _ _ => Rm_cl) hg hr, h3.comp (Fr.of_grown hg) fun k _ hk => ⟨hk, fun e => by have := (hr k e.symm).1; omega⟩⟩
end Go.Proofs.YtlppcfeimpcbjaaGreat

import Derived.Test.YtlknmoegngjpcaaGreatTenO
set_option linter.unusedSimpArgs false
set_option linter.unusedVariables false

/- tensor.Bits. -/
namespace Go.Proofs.YtlknmoegngjpcaaGreat
open Go.RowKit Go.Shelf
attribute [local go_sem] Oper.semAt_some

/-- The bits of an element. -/
def eb (es : List RatL) (i : Nat) : Nat := max (blen (qOf (es.getD i zR)).num.natAbs) (blen (qOf (es.getD i zR)).den)
/-- The greatest of some. -/
def bm (es : List RatL) (pre : List Nat) : Nat := pre.foldl (fun n i => max n (eb es i)) 0
theorem bm_step (es : List RatL) (pre : List Nat) (x : Nat) : bm es (pre ++ [x]) = max (bm es pre) (eb es x) := by simp [bm]
def bitsT (es : List RatL) : Nat := bm es (List.range es.length)

def BitsI (es : List RatL) (b n m : Nat) (w : World) (pre : List Nat) (W : World) : Prop := Box W b 3 (.int .i64 (bm es pre : Nat)) ∧ Fr (fun k => k < n) w W
theorem BitsI.own {es : List RatL} {b n m : Nat} {w : World} (hn : n ≤ m) : OwnFrom m (fun pre W => BitsI es b n m w pre W) := fun pre W W' row hs hg hr =>
  ⟨grown_cells hg hr hs.1, hs.2.comp (Fr.of_grown hg) fun k _ hk => ⟨hk, fun e => by have := (hr k e.symm).1; omega⟩⟩

end Go.Proofs.YtlknmoegngjpcaaGreat

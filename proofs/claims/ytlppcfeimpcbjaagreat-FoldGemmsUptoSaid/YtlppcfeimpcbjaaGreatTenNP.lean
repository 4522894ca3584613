/- Texts merged: TenN, TenO, TenP. -/
import Derived.Test.YtlppcfeimpcbjaaGreatTenJM
set_option linter.unusedSimpArgs false
set_option linter.unusedVariables false

/- grid.turned, by rat.Norm. -/
namespace Go.Proofs.YtlppcfeimpcbjaaGreat
open Go.RowKit Go.Shelf
attribute [local go_sem] Oper.semAt_some

/-- A number in its one form, of whatever form. -/
def normR (x : RatL) : RatL := canR (qOf x)
def nrm (es : List RatL) (i : Nat) : RatL := normR (es.getD i zR)
theorem nrm_all (es : List RatL) : (List.range es.length).map (nrm es) = es.map normR := by
  refine List.ext_getElem (by simp) fun i h1 h2 => ?_
  have hi : i < es.length := by simpa using h2
  simp [nrm, List.getD_eq_getElem?_getD, List.getElem?_eq_getElem hi]

/-- What lies in memory while each is turned. -/
def TurnI (es : List RatL) (b5 n : Nat) (s : Value) (w : World) (pre : List Nat) (W : World) : Prop :=
  ∃ v2, Box2 W b5 105 s v2 ∧ Own Rm 54 (fun k => n ≤ k) W v2 (pre.map (nrm es)) ∧ Fr (fun k => k < n ∧ k ≠ b5) w W
theorem TurnI.own {es : List RatL} {b5 n : Nat} {s : Value} {w : World} (hb : b5 < n) : OwnFrom n (fun pre W => TurnI es b5 n s w pre W) := fun pre W W' row hs hg hr => by
  obtain ⟨v2, h1, h2, h3⟩ := hs
  exact ⟨v2, grown_cells hg hr h1, h2.turn (fun _ _ _ => Rm_cl) hg hr, h3.comp (Fr.of_grown hg) fun k _ hk => ⟨hk, fun e => by have := (hr k e.symm).1; omega⟩⟩
theorem out_none {α : Type} {B : Nat} {Kp : World → World → Prop} {I : List α → World → Prop} {Ix : Code → List α → World → Prop} {xs : List α} {W : World} {id : Nat} : ¬ LetsOut (Exit.inBlock id (ownPostG B Kp I Ix xs W)) := by
  rintro ⟨a, w, h⟩
  exact h

/-- A loop's variable of three cells, laid behind the row that grows. -/
def VarZ (b5 : Nat) (t : TypeId) (s0 : Value) (B : Nat) (E : Nat → Value) (T : Nat → Value → Act) (x : Nat) (a : Act) (W : World) : Prop :=
  ∃ b s P n c Q m k v2, a = T x (.pointer (some ⟨b, 0, none⟩)) ∧ B ≤ b ∧ E x = .agg #[.bool s, .slice P n c, .slice Q m k] ∧ Box3 W b 54 (.bool s) (.slice P n c) (.slice Q m k) ∧ Box2 W b5 t s0 v2 ∧ ∀ g, v2.ownBlock = some g → g < b
theorem VarZ.own (b5 : Nat) (t : TypeId) (s0 : Value) (B C : Nat) (E : Nat → Value) (T : Nat → Value → Act) (x : Nat) (a : Act) : OwnFrom C (fun (_ : Unit) W => VarZ b5 t s0 B E T x a W) := fun _ W W' row hs hg hr => by
  obtain ⟨b, s, P, n, c, Q, m, k, v2, e, hb, hE, hx, h2, h3⟩ := hs
  exact ⟨b, s, P, n, c, Q, m, k, v2, e, hb, hE, grown_cells hg hr hx, grown_cells hg hr h2, h3⟩
theorem Box2.same {w : World} {b : Nat} {t : TypeId} {x y x' y' : Value} (h : Box2 w b t x y) (h' : Box2 w b t x' y') : y = y' := by
  have := h.symm.trans h'
  injection this with this
  injection this with this
  injection this with this
  injection this with _ this
  injection this

end Go.Proofs.YtlppcfeimpcbjaaGreat


/- tensor.Make. -/
namespace Go.Proofs.YtlppcfeimpcbjaaGreat
open Go.RowKit

/-- What Make answers. -/
def MakeR (w : World) (sh : List Int) (es : List RatL) (r : Int) (e : Ending) (w' : World) : Prop := ∃ v1 v2, e = .returned (.tuple #[.agg #[v1, v2], .int .i64 r]) ∧ (r ≠ 0 → v1 = .slice none 0 0 ∧ v2 = .slice none 0 0) ∧
  (r = 0 → Own Im 3 (fun k => w.heap.size ≤ k) w' v1 sh ∧ Own Rm 54 (fun k => w.heap.size ≤ k) w' v2 (es.map normR)) ∧ Fr (fun k => k < w.heap.size) w w'

end Go.Proofs.YtlppcfeimpcbjaaGreat


/- tensor.Bits. -/
namespace Go.Proofs.YtlppcfeimpcbjaaGreat
open Go.RowKit Go.Shelf
attribute [local go_sem] Oper.semAt_some

/-- The bits of an element. -/
def eb (es : List RatL) (i : Nat) : Nat := max (blen (qOf (es.getD i zR)).num.natAbs) (blen (qOf (es.getD i zR)).den)
/-- The greatest of some. -/
def bm (es : List RatL) (pre : List Nat) : Nat := pre.foldl (fun n i => max n (eb es i)) 0
theorem bm_step (es : List RatL) (pre : List Nat) (x : Nat) : bm es (pre ++ [x]) = max (bm es pre) (eb es x) := by simp [bm]
def bitsT (es : List RatL) : Nat := bm es (List.range es.length)

def BitsI (es : List RatL) (b n m : Nat) (w : World) (pre : List Nat) (W : World) : Prop := Box W b 3 (.int .i64 (bm es pre : Nat)) ∧ Fr (fun k => k < n) w W
theorem BitsI.own {es : List RatL} {b n m : Nat} {w : World} (hn : n ≤ m) : OwnFrom m (fun pre W => BitsI es b n m w pre W) := fun pre W W' row hs hg hr =>
  ⟨grown_cells hg hr hs.1, hs.2.comp (Fr.of_grown hg) fun k _ hk => ⟨hk, fun e => by have := (hr k e.symm).1; omega⟩⟩

end Go.Proofs.YtlppcfeimpcbjaaGreat

import Derived.Test.YtjnojkfkhccgaaaGreatTenS

/- TensorMay. -/
namespace Go.Proofs.YtjnojkfkhccgaaaGreat
open Go.RowKit

/-- How many limbs there are in all. -/
def limbsN (l : List RatL) : Nat := (l.map fun x => x.2.1.length).sum
def limbsD (l : List RatL) : Nat := (l.map fun x => x.2.2.length).sum
/-- A tensor in memory, of L places at most. -/
structure TL (S : Nat → Prop) (w : World) (v : Value) (sh : List Int) (es : List RatL) (L : Nat) : Prop where
  ex : ∃ vs ve, v = .agg #[vs, ve] ∧ Sl Im S w vs sh ∧ Sl Rm S w ve es
  ls : sh.length ≤ L
  le : es.length ≤ L
  lx : ∀ x ∈ es, x.2.1.length ≤ L ∧ x.2.2.length ≤ L
  lt : limbsN es + limbsD es ≤ L
theorem TL.wide {S : Nat → Prop} {w : World} {v : Value} {sh : List Int} {es : List RatL} {L M : Nat} (h : TL S w v sh es L) (hl : L ≤ M) : TL S w v sh es M :=
  ⟨h.ex, Nat.le_trans h.ls hl, Nat.le_trans h.le hl, fun x hx => ⟨Nat.le_trans (h.lx x hx).1 hl, Nat.le_trans (h.lx x hx).2 hl⟩, Nat.le_trans h.lt hl⟩

theorem may_h {S T : Nat → Prop} (w : World) (vs ve : Value) (sh : List Int) (es : List RatL) (L : Nat) (m : Int) (hm : Hid (mayT sh es = m)) (hs : Sl Im S w vs sh) (he : Sl Rm T w ve es) (hL : ∀ x ∈ es, x.2.1.length ≤ L ∧ x.2.2.length ≤ L) (hL1 : 1 ≤ L) (hl : L ≤ 104857600) :
    Calls Tryz.prog 16 #[.agg #[vs, ve]] w fun e w' => e = .returned (.int .i64 m) ∧ Fr (fun k => k < w.heap.size) w w' := by
  have := may_t w vs ve sh es L hs he hL hL1 hl
  rwa [hm.out] at this
theorem rmay_h {S T : Nat → Prop} (w : World) (vs ve : Value) (sh : List Int) (es : List RatL) (L : Nat) (m : Int) (hm : Hid (mayT sh es = m)) (hs : Sl Im S w vs sh) (he : Sl Rm T w ve es) (hL : ∀ x ∈ es, x.2.1.length ≤ L ∧ x.2.2.length ≤ L) (hL1 : 1 ≤ L) (hl : L ≤ 104857600) :
    Calls Tryz.prog 18 #[.agg #[vs, ve]] w fun e w' => e = .returned (.int .i64 m) ∧ Fr (fun k => k < w.heap.size) w w' := by
  have := rmayT_t w vs ve sh es L hs he hL hL1 hl
  rwa [hm.out] at this

end Go.Proofs.YtjnojkfkhccgaaaGreat

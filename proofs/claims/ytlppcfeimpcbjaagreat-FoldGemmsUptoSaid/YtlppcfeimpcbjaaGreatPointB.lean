
/- Texts merged: PtF, PtG, PtH, PtI, PtJ. -/
import Derived.Test.YtlppcfeimpcbjaaGreatPointA
import Derived.RangeFuncNested
import Derived.Stop.RegionWithIn
import Derived.Test.YtlppcfeimpcbjaaGreatTenNP
import Derived.Test.YtlppcfeimpcbjaaGreatFacts
set_option linter.unusedSimpArgs false
set_option linter.unusedVariables false

/- Pairs of elements, gone over: point.pairs. -/
namespace Go.Proofs.YtlppcfeimpcbjaaGreat
open Go.RowKit Go.Shelf
attribute [local go_sem] Oper.semAt_some

end Go.Proofs.YtlppcfeimpcbjaaGreat


/- point.pairs, sure. -/
namespace Go.Proofs.YtlppcfeimpcbjaaGreat
open Go.RowKit

/-- A function of two elements, with an error. -/
def Two (g : RatL → RatL → RatL) (x y : RatL) (r : Int) (w : World) (e : Ending) (w' : World) : Prop := ∃ s A i j B k l, e = .returned (.tuple #[.agg #[.bool s, .slice A i j, .slice B k l], .int .i64 r]) ∧ (r = 0 → s = (g x y).1 ∧ OL (fun k => w.heap.size ≤ k) w' (.slice A i j) (.slice B k l) (g x y).2.1 (g x y).2.2) ∧ Fr (fun k => k < w.heap.size) w w'

end Go.Proofs.YtlppcfeimpcbjaaGreat


/- point.both. -/
namespace Go.Proofs.YtlppcfeimpcbjaaGreat
open Go.RowKit Go.Shelf
attribute [local go_sem] Oper.semAt_some

section
variable {er : RatL → RatL → Int} {sha shb : List Int} {ea eb : List RatL}
end
def zipG (g : RatL → RatL → RatL) (ea eb : List RatL) (i : Nat) : RatL := g (ea.getD i zR) (eb.getD i zR)

/-- What lies in memory from the beginning on. -/
structure BothI (w : World) (va vea vb veb vf : Value) (sha : List Int) (ea : List RatL) (shb : List Int) (eb : List RatL) (W : World) : Prop where
  a1 : Sl Im (fun k => k < w.heap.size) W va sha
  a2 : Sl Rm (fun k => k < w.heap.size) W vea ea
  b1 : Sl Im (fun k => k < w.heap.size) W vb shb
  b2 : Sl Rm (fun k => k < w.heap.size) W veb eb
  x0 : Box2 W w.heap.size 26 va vea
  x1 : Box2 W (w.heap.size + 1) 26 vb veb
  x2 : Box W (w.heap.size + 2) 118 vf
  x3 : Box2 W (w.heap.size + 3) 26 (.slice none 0 0) (.slice none 0 0)
  x4 : Box W (w.heap.size + 4) 29 (.int .i64 0)
  fr : Fr (fun k => k < w.heap.size) w W
theorem BothI.keep {w : World} {va vea vb veb vf : Value} {sha shb : List Int} {ea eb : List RatL} {W W' : World} (h : BothI w va vea vb veb vf sha ea shb eb W) {R : Nat → Prop} (hf : Fr R W W') (hR : ∀ k, k < w.heap.size + 5 → R k) : BothI w va vea vb veb vf sha ea shb eb W' :=
  ⟨h.a1.fr (hf.mono fun k _ hk => hR k (by omega)), h.a2.fr (hf.mono fun k _ hk => hR k (by omega)), h.b1.fr (hf.mono fun k _ hk => hR k (by omega)), h.b2.fr (hf.mono fun k _ hk => hR k (by omega)),
    h.x0.fr hf (hR _ (by omega)), h.x1.fr hf (hR _ (by omega)), h.x2.fr hf (hR _ (by omega)), h.x3.fr hf (hR _ (by omega)), h.x4.fr hf (hR _ (by omega)), h.fr.comp hf fun k _ hk => ⟨hk, hR k (by omega)⟩⟩
theorem BothI.lt {w : World} {va vea vb veb vf : Value} {sha shb : List Int} {ea eb : List RatL} {W : World} (h : BothI w va vea vb veb vf sha ea shb eb W) : w.heap.size + 5 ≤ W.heap.size := h.x4.lt

theorem act_named {p : Act → Prop} (a : Act) (h : ∀ A0, A0 = a → p A0) : p a := h a rfl
section
variable {P : Program} {α : Type} {K : Kd α} {e : TypeId} {t : TypeId} {bytes : Nat} {o : Oper} {ops : Array Oper} {rest : List Oper} {a : Act} {Q : Exit → Act → World → Prop} {l n : Nat}
theorem wpListIn_push1 (E : ElemT P K t e bytes) (hgd : o.guard = none) {s x : Operand} (ho : o.op = .call { callee := .builtin .append, args := #[s, x], argTypes := #[t, t] }) {w : World}
    {S T : Nat → Prop} {v : Value} {xs : List α} {y : α} {cs : List Value} (hs : a.eval s = v) (hx : a.eval x = .slice (some ⟨w.heap.size, 0, none⟩) 1 1) (h : Own K e S w v xs) (hy : K.rd T w y cs)
    (hT : ∀ k, T k → k < w.heap.size → S k ∧ some k ≠ v.ownBlock)
    (hnew : ∀ k, w.heap.size ≤ k → S k) (hl : (xs.length + 1) * bytes ≤ 140737488355328) (hm : xs.length + 1 ≤ 9223372036854775807)
    (next : ∀ v' w', Own K e S w' v' (xs ++ [y]) → Fr (fun k => some k ≠ v.ownBlock) w w' → (v'.ownBlock = v.ownBlock ∨ ∃ b, v'.ownBlock = some b ∧ w.heap.size ≤ b) → wpListIn (Fence.wide.inRound l) n P ops Q rest (a.put o.dst v') w') :
    wpListIn (Fence.wide.inRound l) n P ops Q (o :: rest) a (w.alloc (.cells cs.toArray e)) :=
  wpListIn_plain hgd fun K' hK' => oper_in l n (by rw [ho]; intro c hc; cases hc) (oper_push1 E ho hs hx h hy hT hnew hl hm fun v' w' h1 h2 h3 => hK' _ _ (next v' w' h1 h2 h3))
end
/-- Two loops' variables of three cells, laid behind the row that grows. -/
def VarY (b5 : Nat) (t : TypeId) (s0 : Value) (B : Nat) (E1 E2 : Nat → Value) (T : Nat → Value → Value → Act) (x : Nat) (a : Act) (W : World) : Prop :=
  ∃ b s P n c Q m k b' s' P' n' c' Q' m' k' v2, a = T x (.pointer (some ⟨b, 0, none⟩)) (.pointer (some ⟨b', 0, none⟩)) ∧ B ≤ b ∧ B ≤ b' ∧ E1 x = .agg #[.bool s, .slice P n c, .slice Q m k] ∧ E2 x = .agg #[.bool s', .slice P' n' c', .slice Q' m' k'] ∧ Box3 W b 54 (.bool s) (.slice P n c) (.slice Q m k) ∧ Box3 W b' 54 (.bool s') (.slice P' n' c') (.slice Q' m' k') ∧ Box2 W b5 t s0 v2 ∧ ∀ g, v2.ownBlock = some g → g < b ∧ g < b'
theorem VarY.own (b5 : Nat) (t : TypeId) (s0 : Value) (B C : Nat) (E1 E2 : Nat → Value) (T : Nat → Value → Value → Act) (x : Nat) (a : Act) : OwnFrom C (fun (_ : Unit) W => VarY b5 t s0 B E1 E2 T x a W) := fun _ W W' row hs hg hr => by
  obtain ⟨b, s, P, n, c, Q, m, k, b', s', P', n', c', Q', m', k', v2, e, hb, hb', hE1, hE2, hx, hx', h2, h3⟩ := hs
  exact ⟨b, s, P, n, c, Q, m, k, b', s', P', n', c', Q', m', k', v2, e, hb, hb', hE1, hE2, grown_cells hg hr hx, grown_cells hg hr hx', grown_cells hg hr h2, h3⟩
/-- What lies in memory while the pairs are gone over. -/
def BothL (g : RatL → RatL → RatL) (er : RatL → RatL → Int) (ea eb : List RatL) (b5 n : Nat) (s : Value) (w : World) (pre : List Nat) (W : World) : Prop :=
  (∀ i ∈ pre, er (ea.getD i zR) (eb.getD i zR) = 0) ∧ ∃ v2, Box2 W b5 26 s v2 ∧ Own RZ 54 (fun k => n ≤ k) W v2 (pre.map (zipG g ea eb)) ∧ Fr (fun k => k < n ∧ k ≠ b5) w W
theorem BothL.own {g : RatL → RatL → RatL} {er : RatL → RatL → Int} {ea eb : List RatL} {b5 n : Nat} {s : Value} {w : World} (hb : b5 < n) : OwnFrom n (fun pre W => BothL g er ea eb b5 n s w pre W) := fun pre W W' row hs hg hr => by
  obtain ⟨h0, v2, h1, h2, h3⟩ := hs
  exact ⟨h0, v2, grown_cells hg hr h1, h2.turn (fun _ _ _ => RZ_cl) hg hr, h3.comp (Fr.of_grown hg) fun k _ hk => ⟨hk, fun e => by have := (hr k e.symm).1; omega⟩⟩

end Go.Proofs.YtlppcfeimpcbjaaGreat


/- point.Div. -/
namespace Go.Proofs.YtlppcfeimpcbjaaGreat
open Go.RowKit

end Go.Proofs.YtlppcfeimpcbjaaGreat


/- point.Add, Sub, Mul: printed by gen_ptj.py. -/
namespace Go.Proofs.YtlppcfeimpcbjaaGreat
open Go.RowKit

/-- What point.sure answers. -/
def Sure (f : FuncId) (u : World) (v : Value) : Prop := ∃ b, v = .func (.func 119) #[] #[.pointer (some ⟨b, 0, none⟩)] ∧ Box u b 82 (.func (.func f) #[] #[])
theorem Sure.keep {f : FuncId} {v : Value} {u u' : World} (hf : Fr (fun k => k < u.heap.size) u u') (h : Sure f u v) : Sure f u' v := by
  obtain ⟨b, e, h⟩ := h
  exact ⟨b, e, h.fr hf h.lt⟩
def EachV (n : Nat) (sh : List Int) (es : List RatL) (r : Int) (u : World) (v : Value) : Prop := ∃ A i j B k l, v = .tuple #[.agg #[.slice A i j, .slice B k l], .int .i64 r] ∧ (r ≠ 0 → Value.slice A i j = .slice none 0 0 ∧ Value.slice B k l = .slice none 0 0) ∧ (r = 0 → Own Im 3 (fun k => n ≤ k) u (.slice A i j) sh ∧ Own RZ 54 (fun k => n ≤ k) u (.slice B k l) es)
theorem EachV.keep {n : Nat} {sh : List Int} {es : List RatL} {r : Int} {v : Value} {u u' : World} (hf : Fr (fun k => k < u.heap.size) u u') (h : EachV n sh es r u v) : EachV n sh es r u' v := by
  obtain ⟨A, i, j, B, k, l, e, h1, h2⟩ := h
  exact ⟨A, i, j, B, k, l, e, h1, fun h => ⟨(h2 h).1.keep' hf, (h2 h).2.keep' hf⟩⟩
end Go.Proofs.YtlppcfeimpcbjaaGreat

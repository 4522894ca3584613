import Derived.Test.YtlppcfeimpcbjaaGreatPuZ
set_option linter.unusedSimpArgs false
set_option linter.unusedVariables false

/- PointField: printed by gen_pui.py. -/
namespace Go.Proofs.YtlppcfeimpcbjaaGreat
open Go.RowKit

/-- a list of rationals, read, with its bounds -/
structure RS (S : Nat → Prop) (w : World) (v : Value) (es : List RatL) (L : Nat) : Prop where
  sl : Sl Rm S w v es
  le : es.length ≤ L
  lx : ∀ x ∈ es, x.2.1.length ≤ L ∧ x.2.2.length ≤ L

/-- the elements of a list laid round -/
def rot (l : List RatL) (j : Nat) : List Rat := (List.range j).map fun i => qOf (l.getD (i % l.length) zR)
theorem rot_len (l : List RatL) (j : Nat) : (rot l j).length = j := by rw [rot, List.length_map, List.length_range]
theorem rot_step (l : List RatL) (j : Nat) (h : j % l.length < l.length) : rot l (j + 1) = rot l j ++ [qOf l[j % l.length]] := by
  rw [rot, List.range_succ, List.map_append, ← rot, List.map_singleton, List.getD_eq_getElem?_getD, List.getElem?_eq_getElem h]
  rfl
theorem rot_can {l : List RatL} {j : Nat} {q : Rat} (h : rot l (j + 1) = rot l j ++ [q]) : (rot l (j + 1)).map canR = (rot l j).map canR ++ [canR q] := by rw [h, List.map_append]; rfl
theorem lensl_snoc {M : Nat} {l : List Rat} {q : Rat} (h : LensL M l) (hq : Lens M q) : LensL M (l ++ [q]) := fun p hp => by
  rcases List.mem_append.1 hp with hp | hp
  · exact h p hp
  · rw [List.mem_singleton] at hp; rw [hp]; exact hq
/-- a rational, answered by Back -/
def OQ (n0 : Nat) (q : Rat) (u : World) (v : Value) : Prop := ∃ A n c B m k, v = .agg #[.bool (sg q), .slice A n c, .slice B m k] ∧ OL (fun k => n0 ≤ k) u (.slice A n c) (.slice B m k) (dg LB q.num.natAbs) (dg LB q.den)
theorem OQ.out {n0 : Nat} {q : Rat} {u : World} {x a b : Value} (h : OQ n0 q u (.agg #[x, a, b])) : OL (fun k => n0 ≤ k) u a b (dg LB q.num.natAbs) (dg LB q.den) := by
  obtain ⟨A, n, c, B, m, k, e, h⟩ := h
  cases e
  exact h
theorem rback_u {w : World} {s a b : Value} {q : Rat} {K n0 : Nat} (h : RQ q K w (.agg #[s, a, b])) (hs : s = .bool (sg q)) (hn : n0 ≤ w.heap.size) (hK : K ≤ 1099511627000) (hl : Lens 6 q) : Calls Tryz.prog 28 #[.agg #[s, a, b]] w (Ret w (OQ n0 q)) := by
  subst hs
  refine (rback_r w (sg q) a b q K h.out rfl hK (by have := hl.1; omega) (by have := hl.2; omega)).mono ?_
  rintro e u ⟨v1, v2, rfl, ho, hf⟩
  obtain ⟨⟨A, n, c, rfl⟩, ⟨B, m, k, rfl⟩⟩ := ho.form
  exact ⟨_, rfl, hf, fun u' hu' => ⟨_, _, _, _, _, _, rfl, (ho.keep hu').num.mono fun k hk => by omega, (ho.keep hu').den.mono fun k hk => by omega⟩⟩
/-- a row of one rational -/
def OneE (n0 : Nat) (q : Rat) (u : World) (v : Value) : Prop := ∃ b, v = .slice (some ⟨b, 0, none⟩) 1 1 ∧ Sl Rm (fun k => n0 ≤ k) u v [canR q]
theorem one_e {n0 : Nat} {q : Rat} {u : World} {a b : Value} (h : OL (fun k => n0 ≤ k) u a b (dg LB q.num.natAbs) (dg LB q.den)) (hn : n0 ≤ u.heap.size) : Hold (fun u' => OneE n0 q u' (.slice (some ⟨u.heap.size, 0, none⟩) 1 1)) (u.alloc (.cells #[.bool (sg q), a, b] 54)) := by
  have o := Own.single (K := Rm) (e := 54) (S := fun k => n0 ≤ k) (x := canR q) (cs := [.bool (sg q), a, b]) u hn ⟨a, b, rfl, h.num.bd.sl, h.den.bd.sl⟩
  exact fun u' hu' => ⟨_, rfl, o.sl.keep' Rm_pos hu'⟩

/-- is one of the numbers 0? -/
def anyZ (l : List Rat) : Bool := l.any fun q => decide (q = 0)
theorem anyz_step {l : List Rat} {j : Nat} (h : j < l.length) : anyZ (l.take (j + 1)) = (anyZ (l.take j) || decide (l[j] = 0)) := by
  unfold anyZ
  rw [← List.take_append_getElem h, List.any_append]
  simp
theorem anyz_true {l : List Rat} (h : ¬ ∀ p ∈ l, p ≠ 0) : anyZ l = true := by
  unfold anyZ
  rw [List.any_eq_true]
  refine Classical.byContradiction fun hn => h fun p hp h0 => hn ⟨p, hp, decide_eq_true h0⟩

end Go.Proofs.YtlppcfeimpcbjaaGreat

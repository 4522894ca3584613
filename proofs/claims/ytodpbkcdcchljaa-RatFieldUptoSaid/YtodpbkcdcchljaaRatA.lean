
/- Blocks of three cells; rat's one, by, limbs, size. -/
import Derived.Test.YtodpbkcdcchljaaQuoQ
import Derived.Test.YtodpbkcdcchljaaRatPure
import Derived.Laws.Tables
namespace Go.Proofs.Ytodpbkcdcchljaa
open Go.RowKit

/-- A block of three cells. -/
def Box3 (w : World) (b : Nat) (t : TypeId) (x y z : Value) : Prop := w.heap[b]? = some (.cells #[x, y, z] t (0, 0))
theorem Box3.c0 {w : World} {b : Nat} {t : TypeId} {x y z : Value} (h : Box3 w b t x y z) : w.cell? ⟨b, 0, none⟩ = some x := (cell_of_row w b 0 _ _ _ h).trans rfl
theorem Box3.c1 {w : World} {b : Nat} {t : TypeId} {x y z : Value} (h : Box3 w b t x y z) : w.cell? ⟨b, 1, none⟩ = some y := (cell_of_row w b 1 _ _ _ h).trans rfl
theorem Box3.c2 {w : World} {b : Nat} {t : TypeId} {x y z : Value} (h : Box3 w b t x y z) : w.cell? ⟨b, 2, none⟩ = some z := (cell_of_row w b 2 _ _ _ h).trans rfl
theorem Box3.free {w : World} {b : Nat} {t : TypeId} {x y z : Value} (h : Box3 w b t x y z) (j : Nat) : w.frozen? ⟨b, j, none⟩ = false := frozen_of_row w b j _ _ h
theorem Box3.lt {w : World} {b : Nat} {t : TypeId} {x y z : Value} (h : Box3 w b t x y z) : b < w.heap.size := lt_of_block h
theorem Box3.fr {w w' : World} {b : Nat} {t : TypeId} {x y z : Value} {S : Nat → Prop} (h : Box3 w b t x y z) (hf : Fr S w w') (hs : S b) : Box3 w' b t x y z := hf.obj h hs
theorem Box3.keep {w w' : World} {b : Nat} {t : TypeId} {x y z : Value} (h : Box3 w b t x y z) (hf : Fr (fun k => k < w.heap.size) w w') : Box3 w' b t x y z := hf.obj h h.lt
theorem Box3.set {w : World} {b : Nat} {t : TypeId} {x y z : Value} (h : Box3 w b t x y z) (j : Nat) (u : Value) : (w.setCell ⟨b, j, none⟩ u).heap[b]? = some (.cells (#[x, y, z].setIfInBounds j u) t (0, 0)) := by
  have h' : w.heap[b]? = some (.cells #[x, y, z] t (0, 0)) := h
  simp [World.setCell, Array.getElem?_modify, h']
theorem Box3.set0 {w : World} {b : Nat} {t : TypeId} {x y z : Value} (h : Box3 w b t x y z) (u : Value) : Box3 (w.setCell ⟨b, 0, none⟩ u) b t u y z := h.set 0 u
theorem Box3.set3 {w : World} {b : Nat} {t : TypeId} {x y z : Value} (h : Box3 w b t x y z) (x' y' z' : Value) : Box3 (((w.setCell ⟨b, 0, none⟩ x').setCell ⟨b, 1, none⟩ y').setCell ⟨b, 2, none⟩ z') b t x' y' z' := by
  have h0 : Box3 (w.setCell ⟨b, 0, none⟩ x') b t x' y z := h.set 0 x'
  have h1 : Box3 ((w.setCell ⟨b, 0, none⟩ x').setCell ⟨b, 1, none⟩ y') b t x' y' z := h0.set 1 y'
  exact h1.set 2 z'
theorem fr_set3 (w : World) (b : Nat) (x y z : Value) : Fr (fun k => k ≠ b) w (((w.setCell ⟨b, 0, none⟩ x).setCell ⟨b, 1, none⟩ y).setCell ⟨b, 2, none⟩ z) :=
  (((Fr.refl _ _).setCell (p := ⟨b, 0, none⟩) (fun _ h => h rfl) _).setCell (p := ⟨b, 1, none⟩) (fun _ h => h rfl) _).setCell (p := ⟨b, 2, none⟩) (fun _ h => h rfl) _
theorem Box3.new (w : World) (t : TypeId) (x y z : Value) : Box3 (w.alloc (.cells #[x, y, z] t)) w.heap.size t x y z := heap_alloc_new w _
theorem Box3.alloc {w : World} {b : Nat} {t : TypeId} {x y z : Value} (h : Box3 w b t x y z) (o : Obj) : Box3 (w.alloc o) b t x y z := (Below.heap_alloc w o b h.lt).trans h

/-- A store of three cells into a block of three. -/
theorem wpList_st3 {P : Program} {ops : Array Oper} {rest : List Oper} {d : Option Tmp} {ty tt : TypeId} {x y : Operand} {pos : String} {af : Array Edge} {a : Act} {w : World} {Q : Exit → Act → World → Prop}
    {b : Nat} {t : TypeId} {x0 y0 z0 x1 y1 z1 : Value} (hx : a.eval x = .pointer (some ⟨b, 0, none⟩)) (hy : a.eval y = .agg #[x1, y1, z1]) (hb : Box3 w b t x0 y0 z0)
    (hi : (P.info? ty).map (·.size) = some 3) (h1 : x1.oneCell' = true) (h2 : y1.oneCell' = true) (h3 : z1.oneCell' = true)
    (next : ∀ w', Box3 w' b t x1 y1 z1 → Fr (fun k => k ≠ b) w w' → wpList P ops Q rest (a.put d undef) w') :
    wpList P ops Q ({ dst := d, op := .store ty x y, type := tt, pos := pos, after := af, guard := none } :: rest) a w := by
  refine wpList_store_row rfl ty x y rfl b #[x1, y1, z1] hx hy t #[x0, y0, z0] hb hi rfl (by simp [h1, h2, h3]) (next _ ?_ ?_)
  · exact setRow_heap w b _ _ t _ hb
  · exact ⟨rfl, rfl, rfl, by simp [World.setRow], fun k _ hk => by simp [World.setRow, Array.getElem?_modify, show ¬ b = k from fun e => hk e.symm]⟩

theorem load3 {P : Program} {w : World} {b : Nat} {t ty : TypeId} {x y z : Value} {fs : _} (hb : Box3 w b t x y z) (hu : P.underlying ty = some (.struct fs)) (hi : (P.info? ty).map (·.size) = some 3) :
    (loadVar ty ⟨b, 0, none⟩).run P w = .ok (.agg #[x, y, z]) w := run_loadVar_row w b t ty #[x, y, z] (0, 0) _ hb hu rfl hi
/-- The results of a function whose one result lives in a block of three cells. -/
theorem results_cell3 {fn : Func} {c : Tmp} {ty : TypeId} (h : fn.results = #[.cell c ty]) {tmps : Array Value} {P : Program} {w : World} {b : Nat} {t : TypeId} {x y z : Value} {fs : _}
    (hc : tmps.getD c undef = .pointer (some ⟨b, 0, none⟩)) (hb : Box3 w b t x y z) (hu : P.underlying ty = some (.struct fs)) (hi : (P.info? ty).map (·.size) = some 3) :
    (results fn tmps).run P w = .ok (.agg #[x, y, z]) w := by
  have hl := load3 hb hu hi
  rw [Array.getD_eq_getD_getElem?] at hc
  simp [results, h, hc, asAddr, hl]
theorem results_cell3_tmp {fn : Func} {c u : Tmp} {ty : TypeId} (h : fn.results = #[.cell c ty, .tmp u]) {tmps : Array Value} {P : Program} {w : World} {b : Nat} {t : TypeId} {x y z : Value} {fs : _}
    (hc : tmps.getD c undef = .pointer (some ⟨b, 0, none⟩)) (hb : Box3 w b t x y z) (hu : P.underlying ty = some (.struct fs)) (hi : (P.info? ty).map (·.size) = some 3) :
    (results fn tmps).run P w = .ok (.tuple #[.agg #[x, y, z], tmps.getD u undef]) w := by
  have hl := load3 hb hu hi
  rw [Array.getD_eq_getD_getElem?] at hc
  simp [results, h, hc, asAddr, hl]

theorem rat3 : (Try.prog.info? 25).map (·.size) = some 3 := by kernel_rfl

theorem one_n (w : World) :
    Calls Try.prog 47 #[] w fun e w' => ∃ v, e = .returned v ∧ Can (fun k => w.heap.size ≤ k) w' v 1 2 ∧ Fr (fun k => k < w.heap.size) w w' := by
  go_enter Try.func47, Try.ntmps47
  go_wp2_with fail
  refine (of_lit _ 1 1 rfl (by decide)).mono ?_
  rintro e w1 ⟨v1, rfl, h1, hf⟩
  go_wp2_with fail
  go_ret
  exact ⟨v1, rfl, h1, hf⟩

theorem by_n {S T : Nat → Prop} (w : World) (va vb : Value) (A B L K : Nat) (ha : Num S w va A L) (hb : Num T w vb B K) (hB : 0 < B) (hl : L ≤ 1048576000) (hk : K ≤ 1048576000) :
    Calls Try.prog 54 #[va, vb] w fun e w' => ∃ v, e = .returned v ∧ Can (fun k => w.heap.size ≤ k) w' v (A / B) L ∧ Fr (fun k => k < w.heap.size) w w' := by
  go_enter Try.func54, Try.ntmps54
  go_wp2_with fail
  refine (divmod_n _ _ _ _ _ _ _ ha hb hB hl hk).mono ?_
  rintro e w1 ⟨q, r, rfl, hq, _, hf⟩
  go_wp2_with fail
  go_ret
  exact ⟨q, rfl, hq, hf⟩

theorem part_n {S T : Nat → Prop} (w : World) (va vb : Value) (b : Nat) (A B L K : Nat) (ha : Num S w va A L) (hb : Num T w vb B K) (hx : Box w b 23 vb) (hB : 0 < B) (hl : L ≤ 1048576000) (hk : K ≤ 1048576000) :
    Calls Try.prog 53 #[va, .pointer (some ⟨b, 0, none⟩)] w fun e w' => ∃ v, e = .returned v ∧ Can (fun k => w.heap.size ≤ k) w' v (A / B) L ∧ Fr (fun k => k < w.heap.size) w w' := by
  have hc := hx.cell
  go_enter Try.func53, Try.ntmps53
  go_wp2_with fail
  refine (by_n _ _ _ _ _ _ _ ha hb hB hl hk).mono ?_
  rintro e w1 ⟨q, rfl, hq, hf⟩
  go_wp2_with fail
  go_ret
  exact ⟨q, rfl, hq, hf⟩

/-- Two lists of limbs, are they the same? -/
theorem limbs_calls {S T : Nat → Prop} (w : World) (va vb : Value) (xs ys : List Nat) (ha : Sl Lm S w va xs) (hb : Sl Lm T w vb ys) :
    Calls Try.prog 48 #[va, vb] w fun e w' => e = .returned (.bool (decide (xs = ys))) ∧ Fr (fun k => k < w.heap.size) w w' := by
  have hd : xs = ys ↔ xs.length = ys.length ∧ val xs = val ys := ⟨fun h => by subst h; exact ⟨rfl, rfl⟩, fun h => same_iff (Kd.nat_all ha) (Kd.nat_all hb) h.1 h.2⟩
  have hc := cmp_n w va vb _ _ _ _ ⟨xs, ha, rfl, Nat.le_refl _⟩ ⟨ys, hb, rfl, Nat.le_refl _⟩
  obtain ⟨A, c, rfl, _, _, _⟩ := ha.slice
  obtain ⟨A', c', rfl, _, _, _⟩ := hb.slice
  have HC := Lib.hid hc
  have HD := Lib.hid hd
  clear hc hd
  go_enter Try.func48, Try.ntmps48
  by_cases hl : xs.length = ys.length
  · have hb2 : ((xs.length : Int) == (ys.length : Int)) = true := beq_iff_eq.2 (by omega)
    have HL := Lib.hid hl
    clear hl
    go_wp2_with fail
    refine HC.out.mono ?_
    rintro e w1 ⟨rfl, hf⟩
    go_wp2_with fail
    go_ret
    refine ⟨congrArg (fun b : Bool => Ending.returned (.bool b)) ?_, hf⟩
    have h0 : cmpN (val xs) (val ys) = 0 ↔ val xs = val ys := by unfold cmpN; split <;> (try split) <;> omega
    by_cases hv : val xs = val ys
    · rw [decide_eq_true (HD.out.2 ⟨HL.out, hv⟩), h0.2 hv]; rfl
    · rw [decide_eq_false fun e => hv (HD.out.1 e).2]
      exact beq_eq_false_iff_ne.2 fun e => hv (h0.1 e)
  · have hb2 : ((xs.length : Int) == (ys.length : Int)) = false := beq_eq_false_iff_ne.2 (by omega)
    go_wp2_with fail
    go_ret
    exact ⟨congrArg (fun b : Bool => Ending.returned (.bool b)) (decide_eq_false fun e => hl (HD.out.1 e).1).symm, Fr.refl _ _⟩
end Go.Proofs.Ytodpbkcdcchljaa

/- The base, part H: what the elder chapters' texts prove, of the functions that this seat has. -/
import Derived.Test.YtlppcfeimpcbjaaGreatBaseA
import Derived.Test.YtlppcfeimpcbjaaGreatBaseG
import Derived.Laws.Tables
set_option linter.unusedSimpArgs false
set_option linter.unusedVariables false

/- Rationals in plain words: what a sign and two naturals come to ('rv'), and the laws of sums, products, signs. No program in sight. -/
namespace Go.Proofs.YtlppcfeimpcbjaaGreat
/-- the number of a sign and a natural -/
def sgn (s : Bool) (N : Nat) : Int := if s then -(N : Int) else N
/-- the rational of a sign and two naturals, 0 where the second one is 0 -/
def rv (s : Bool) (N D : Nat) : Rat := mkRat (sgn s N) D
/-- is it below 0? -/
def sg (q : Rat) : Bool := decide (q.num < 0)

theorem sgn_zero (s : Bool) : sgn s 0 = 0 := by cases s <;> rfl
theorem sgn_natAbs (s : Bool) (N : Nat) : (sgn s N).natAbs = N := by cases s <;> simp [sgn]
theorem sgn_self (z : Int) : sgn (decide (z < 0)) z.natAbs = z := by
  unfold sgn; by_cases h : z < 0 <;> simp [h] <;> omega
theorem rv_self (q : Rat) : rv (sg q) q.num.natAbs q.den = q := by
  unfold rv sg; rw [sgn_self, Rat.mkRat_self]
theorem rv_den0 (s : Bool) (N : Nat) : rv s N 0 = 0 := by simp [rv]
theorem rv_num0 (s : Bool) (D : Nat) : rv s 0 D = 0 := by simp [rv, sgn_zero]
theorem rv_zero {s : Bool} {N D : Nat} (hD : 0 < D) : rv s N D = 0 ↔ N = 0 := by
  unfold rv; rw [Rat.mkRat_eq_zero (by omega)]; have := sgn_natAbs s N; omega
theorem rv_num {s : Bool} {N D : Nat} (hD : 0 < D) : (rv s N D).num.natAbs = N / Nat.gcd N D := by
  unfold rv; rw [Rat.num_mkRat, if_neg (by omega), sgn_natAbs, Nat.gcd_comm]
  rw [Int.natAbs_ediv_of_dvd]
  · rw [sgn_natAbs, Int.natAbs_natCast]
  · have := Nat.gcd_dvd_left N D
    cases s
    · exact Int.natCast_dvd_natCast.2 this
    · exact Int.dvd_neg.2 (Int.natCast_dvd_natCast.2 this)
theorem rv_den {s : Bool} {N D : Nat} (hD : 0 < D) : (rv s N D).den = D / Nat.gcd N D := by
  unfold rv; rw [Rat.den_mkRat, if_neg (by omega), sgn_natAbs, Nat.gcd_comm]
theorem rv_sg {s : Bool} {N D : Nat} (hD : 0 < D) (hN : 0 < N) : sg (rv s N D) = s := by
  have hne : rv s N D ≠ 0 := fun h => by have := (rv_zero hD).1 h; omega
  unfold sg
  cases s
  · refine decide_eq_false ?_
    rw [Int.not_lt, Rat.num_nonneg]
    unfold rv sgn
    rw [← Rat.divInt_ofNat]
    exact Rat.divInt_nonneg (by simp) (by omega)
  · refine decide_eq_true ?_
    have h1 : -(rv true N D) = rv false N D := by
      unfold rv sgn; rw [Rat.neg_mkRat]; simp
    have h2 : 0 ≤ (rv false N D).num := by
      rw [Rat.num_nonneg]
      unfold rv sgn
      rw [← Rat.divInt_ofNat]
      exact Rat.divInt_nonneg (by simp) (by omega)
    rw [← h1, Rat.neg_num] at h2
    have h3 : (rv true N D).num ≠ 0 := fun h => hne (Rat.num_eq_zero.1 h)
    omega
theorem sg_zero : sg 0 = false := rfl
theorem rv_add_same {x y : Rat} (h : sg x = sg y) : rv (sg x) (x.num.natAbs * y.den + y.num.natAbs * x.den) (x.den * y.den) = x + y := by
  rw [Rat.add_def']; unfold rv
  congr 1
  have hx := sgn_self x.num
  have hy := sgn_self y.num
  change sgn (sg x) _ = _ at hx
  change sgn (sg y) _ = _ at hy
  rw [← h] at hy
  conv => rhs; rw [← hx, ← hy]
  cases sg x <;> simp [sgn, Int.neg_add, Int.neg_mul]
theorem rv_add_ge {x y : Rat} (h : sg x ≠ sg y) (hle : y.num.natAbs * x.den ≤ x.num.natAbs * y.den) : rv (sg x) (x.num.natAbs * y.den - y.num.natAbs * x.den) (x.den * y.den) = x + y := by
  rw [Rat.add_def']; unfold rv
  congr 1
  have hx := sgn_self x.num
  have hy := sgn_self y.num
  change sgn (sg x) _ = _ at hx
  change sgn (sg y) _ = _ at hy
  have hy2 : sg y = !sg x := by cases hsx : sg x <;> cases hsy : sg y <;> simp_all
  rw [hy2] at hy
  conv => rhs; rw [← hx, ← hy]
  cases sg x <;> simp [sgn, Int.neg_mul] <;> omega
theorem rv_add_lt {x y : Rat} (h : sg x ≠ sg y) (hle : x.num.natAbs * y.den ≤ y.num.natAbs * x.den) : rv (sg y) (y.num.natAbs * x.den - x.num.natAbs * y.den) (x.den * y.den) = x + y := by
  rw [Rat.add_comm, Nat.mul_comm x.den]
  exact rv_add_ge (fun e => h e.symm) hle
theorem rv_mul {s t : Bool} {N M D E : Nat} : rv (s != t) (N * M) (D * E) = rv s N D * rv t M E := by
  unfold rv
  rw [Rat.mkRat_mul_mkRat]
  congr 1
  cases s <;> cases t <;> simp [sgn, Int.neg_mul, Int.mul_neg]
theorem rv_inv (y : Rat) : rv (sg y) y.den y.num.natAbs = y⁻¹ := by
  unfold rv
  rw [Rat.inv_def, ← Rat.divInt_ofNat]
  unfold sg sgn
  by_cases h : y.num < 0
  · simp only [h, decide_true, if_true]
    rw [← Rat.neg_divInt_neg, Int.neg_neg]
    congr 1; omega
  · simp only [h, decide_false]
    congr 1; omega
theorem sg_neg {q : Rat} : sg (-q) = (decide (q.num ≠ 0) && !sg q) := by
  unfold sg
  rw [Rat.neg_num]
  by_cases h0 : q.num = 0
  · simp [h0]
  · by_cases h : q.num < 0 <;> simp [h, h0] <;> omega
theorem neg_natAbs (q : Rat) : (-q).num.natAbs = q.num.natAbs := by rw [Rat.neg_num, Int.natAbs_neg]
theorem sign_mul (a b : Rat) : (a * b).num.sign = a.num.sign * b.num.sign := by
  rw [Rat.num_mul, ← Int.sign_mul]
  generalize hg : (a.num * b.num).natAbs.gcd (a.den * b.den) = g
  have hd : (g : Int) ∣ a.num * b.num := by
    rw [← hg, Int.ofNat_dvd_left]
    exact Nat.gcd_dvd_left _ _
  have hgp : 0 < g := by
    rw [← hg]; exact Nat.gcd_pos_of_pos_right _ (Nat.mul_pos a.den_pos b.den_pos)
  obtain ⟨k, hk⟩ := hd
  rw [hk, Int.mul_ediv_cancel_left _ (by omega), Int.sign_mul, Int.sign_natCast_of_ne_zero (by omega), Int.one_mul]
theorem sign_sub_swap (a b : Rat) : (b - a).num.sign = -(a - b).num.sign := by
  rw [← Rat.neg_sub, Rat.neg_num, Int.sign_neg]
theorem sign_cases (q : Rat) : (q.num = 0 ∧ q.num.sign = 0) ∨ (q.num < 0 ∧ sg q = true ∧ q.num.sign = -1) ∨ (0 < q.num ∧ sg q = false ∧ q.num.sign = 1) := by
  unfold sg
  rcases Int.lt_trichotomy q.num 0 with h | h | h
  · exact .inr (.inl ⟨h, decide_eq_true h, Int.sign_eq_neg_one_of_neg h⟩)
  · exact .inl ⟨h, by rw [h]; rfl⟩
  · exact .inr (.inr ⟨h, decide_eq_false (by omega), Int.sign_eq_one_of_pos h⟩)

end Go.Proofs.YtlppcfeimpcbjaaGreat


/- Blocks of three cells; rat's one, by, limbs, size. -/
namespace Go.Proofs.YtlppcfeimpcbjaaGreat
open Go.RowKit

/-- A block of three cells. -/
def Box3 (w : World) (b : Nat) (t : TypeId) (x y z : Value) : Prop := w.heap[b]? = some (.cells #[x, y, z] t (0, 0))
theorem Box3.c0 {w : World} {b : Nat} {t : TypeId} {x y z : Value} (h : Box3 w b t x y z) : w.cell? ⟨b, 0, none⟩ = some x := (cell_of_row w b 0 _ _ _ h).trans rfl
theorem Box3.c1 {w : World} {b : Nat} {t : TypeId} {x y z : Value} (h : Box3 w b t x y z) : w.cell? ⟨b, 1, none⟩ = some y := (cell_of_row w b 1 _ _ _ h).trans rfl
theorem Box3.c2 {w : World} {b : Nat} {t : TypeId} {x y z : Value} (h : Box3 w b t x y z) : w.cell? ⟨b, 2, none⟩ = some z := (cell_of_row w b 2 _ _ _ h).trans rfl
theorem Box3.free {w : World} {b : Nat} {t : TypeId} {x y z : Value} (h : Box3 w b t x y z) (j : Nat) : w.frozen? ⟨b, j, none⟩ = false := frozen_of_row w b j _ _ h
theorem Box3.lt {w : World} {b : Nat} {t : TypeId} {x y z : Value} (h : Box3 w b t x y z) : b < w.heap.size := lt_of_block h
theorem Box3.fr {w w' : World} {b : Nat} {t : TypeId} {x y z : Value} {S : Nat → Prop} (h : Box3 w b t x y z) (hf : Fr S w w') (hs : S b) : Box3 w' b t x y z := hf.obj h hs
theorem Box3.keep {w w' : World} {b : Nat} {t : TypeId} {x y z : Value} (h : Box3 w b t x y z) (hf : Fr (fun k => k < w.heap.size) w w') : Box3 w' b t x y z := hf.obj h h.lt
theorem Box3.set {w : World} {b : Nat} {t : TypeId} {x y z : Value} (h : Box3 w b t x y z) (j : Nat) (u : Value) : (w.setCell ⟨b, j, none⟩ u).heap[b]? = some (.cells (#[x, y, z].setIfInBounds j u) t (0, 0)) := by
  have h' : w.heap[b]? = some (.cells #[x, y, z] t (0, 0)) := h
  simp [World.setCell, Array.getElem?_modify, h']
theorem Box3.set0 {w : World} {b : Nat} {t : TypeId} {x y z : Value} (h : Box3 w b t x y z) (u : Value) : Box3 (w.setCell ⟨b, 0, none⟩ u) b t u y z := h.set 0 u
theorem Box3.set3 {w : World} {b : Nat} {t : TypeId} {x y z : Value} (h : Box3 w b t x y z) (x' y' z' : Value) : Box3 (((w.setCell ⟨b, 0, none⟩ x').setCell ⟨b, 1, none⟩ y').setCell ⟨b, 2, none⟩ z') b t x' y' z' := by
  have h0 : Box3 (w.setCell ⟨b, 0, none⟩ x') b t x' y z := h.set 0 x'
  have h1 : Box3 ((w.setCell ⟨b, 0, none⟩ x').setCell ⟨b, 1, none⟩ y') b t x' y' z := h0.set 1 y'
  exact h1.set 2 z'
theorem fr_set3 (w : World) (b : Nat) (x y z : Value) : Fr (fun k => k ≠ b) w (((w.setCell ⟨b, 0, none⟩ x).setCell ⟨b, 1, none⟩ y).setCell ⟨b, 2, none⟩ z) :=
  (((Fr.refl _ _).setCell (p := ⟨b, 0, none⟩) (fun _ h => h rfl) _).setCell (p := ⟨b, 1, none⟩) (fun _ h => h rfl) _).setCell (p := ⟨b, 2, none⟩) (fun _ h => h rfl) _
theorem Box3.new (w : World) (t : TypeId) (x y z : Value) : Box3 (w.alloc (.cells #[x, y, z] t)) w.heap.size t x y z := heap_alloc_new w _
theorem Box3.alloc {w : World} {b : Nat} {t : TypeId} {x y z : Value} (h : Box3 w b t x y z) (o : Obj) : Box3 (w.alloc o) b t x y z := (Below.heap_alloc w o b h.lt).trans h

/-- A store of three cells into a block of three. -/
theorem wpList_st3 {P : Program} {ops : Array Oper} {rest : List Oper} {d : Option Tmp} {ty tt : TypeId} {x y : Operand} {pos : String} {af : Array Edge} {a : Act} {w : World} {Q : Exit → Act → World → Prop}
    {b : Nat} {t : TypeId} {x0 y0 z0 x1 y1 z1 : Value} (hx : a.eval x = .pointer (some ⟨b, 0, none⟩)) (hy : a.eval y = .agg #[x1, y1, z1]) (hb : Box3 w b t x0 y0 z0)
    (hi : (P.info? ty).map (·.size) = some 3) (h1 : x1.oneCell' = true) (h2 : y1.oneCell' = true) (h3 : z1.oneCell' = true)
    (next : ∀ w', Box3 w' b t x1 y1 z1 → Fr (fun k => k ≠ b) w w' → wpList P ops Q rest (a.put d undef) w') :
    wpList P ops Q ({ dst := d, op := .store ty x y, type := tt, pos := pos, after := af, guard := none } :: rest) a w := by
  refine wpList_store_row rfl ty x y rfl b #[x1, y1, z1] hx hy t #[x0, y0, z0] hb hi rfl (by simp [h1, h2, h3]) (next _ ?_ ?_)
  · exact setRow_heap w b _ _ t _ hb
  · exact ⟨rfl, rfl, rfl, by simp [World.setRow], fun k _ hk => by simp [World.setRow, Array.getElem?_modify, show ¬ b = k from fun e => hk e.symm]⟩

theorem load3 {P : Program} {w : World} {b : Nat} {t ty : TypeId} {x y z : Value} {fs : _} (hb : Box3 w b t x y z) (hu : P.underlying ty = some (.struct fs)) (hi : (P.info? ty).map (·.size) = some 3) :
    (loadVar ty ⟨b, 0, none⟩).run P w = .ok (.agg #[x, y, z]) w := run_loadVar_row w b t ty #[x, y, z] (0, 0) _ hb hu rfl hi
/-- The results of a function whose one result lives in a block of three cells. -/
theorem results_cell3 {fn : Func} {c : Tmp} {ty : TypeId} (h : fn.results = #[.cell c ty]) {tmps : Array Value} {P : Program} {w : World} {b : Nat} {t : TypeId} {x y z : Value} {fs : _}
    (hc : tmps.getD c undef = .pointer (some ⟨b, 0, none⟩)) (hb : Box3 w b t x y z) (hu : P.underlying ty = some (.struct fs)) (hi : (P.info? ty).map (·.size) = some 3) :
    (results fn tmps).run P w = .ok (.agg #[x, y, z]) w := by
  have hl := load3 hb hu hi
  rw [Array.getD_eq_getD_getElem?] at hc
  simp [results, h, hc, asAddr, hl]
theorem results_cell3_tmp {fn : Func} {c u : Tmp} {ty : TypeId} (h : fn.results = #[.cell c ty, .tmp u]) {tmps : Array Value} {P : Program} {w : World} {b : Nat} {t : TypeId} {x y z : Value} {fs : _}
    (hc : tmps.getD c undef = .pointer (some ⟨b, 0, none⟩)) (hb : Box3 w b t x y z) (hu : P.underlying ty = some (.struct fs)) (hi : (P.info? ty).map (·.size) = some 3) :
    (results fn tmps).run P w = .ok (.tuple #[.agg #[x, y, z], tmps.getD u undef]) w := by
  have hl := load3 hb hu hi
  rw [Array.getD_eq_getD_getElem?] at hc
  simp [results, h, hc, asAddr, hl]

theorem rat3 : (Tryz.prog.info? 54).map (·.size) = some 3 := by kernel_rfl

theorem one_n (w : World) :
    Calls Tryz.prog 104 #[] w fun e w' => ∃ v, e = .returned v ∧ Can (fun k => w.heap.size ≤ k) w' v 1 2 ∧ Fr (fun k => k < w.heap.size) w w' := by
  go_enter Tryz.func104, Tryz.ntmps104
  go_wp2_with fail
  refine (of_lit _ 1 1 rfl (by decide)).mono ?_
  rintro e w1 ⟨v1, rfl, h1, hf⟩
  go_wp2_with fail
  go_ret
  exact ⟨v1, rfl, h1, hf⟩

theorem by_n {S T : Nat → Prop} (w : World) (va vb : Value) (A B L K : Nat) (ha : Num S w va A L) (hb : Num T w vb B K) (hB : 0 < B) (hl : L ≤ 1048576000) (hk : K ≤ 1048576000) :
    Calls Tryz.prog 134 #[va, vb] w fun e w' => ∃ v, e = .returned v ∧ Can (fun k => w.heap.size ≤ k) w' v (A / B) L ∧ Fr (fun k => k < w.heap.size) w w' := by
  go_enter Tryz.func134, Tryz.ntmps134
  go_wp2_with fail
  refine (divmod_n _ _ _ _ _ _ _ ha hb hB hl hk).mono ?_
  rintro e w1 ⟨q, r, rfl, hq, _, hf⟩
  go_wp2_with fail
  go_ret
  exact ⟨q, rfl, hq, hf⟩

theorem part_n {S T : Nat → Prop} (w : World) (va vb : Value) (b : Nat) (A B L K : Nat) (ha : Num S w va A L) (hb : Num T w vb B K) (hx : Box w b 52 vb) (hB : 0 < B) (hl : L ≤ 1048576000) (hk : K ≤ 1048576000) :
    Calls Tryz.prog 133 #[va, .pointer (some ⟨b, 0, none⟩)] w fun e w' => ∃ v, e = .returned v ∧ Can (fun k => w.heap.size ≤ k) w' v (A / B) L ∧ Fr (fun k => k < w.heap.size) w w' := by
  have hc := hx.cell
  go_enter Tryz.func133, Tryz.ntmps133
  go_wp2_with fail
  refine (by_n _ _ _ _ _ _ _ ha hb hB hl hk).mono ?_
  rintro e w1 ⟨q, rfl, hq, hf⟩
  go_wp2_with fail
  go_ret
  exact ⟨q, rfl, hq, hf⟩

/-- Two lists of limbs, are they the same? -/
theorem limbs_calls {S T : Nat → Prop} (w : World) (va vb : Value) (xs ys : List Nat) (ha : Sl Lm S w va xs) (hb : Sl Lm T w vb ys) :
    Calls Tryz.prog 107 #[va, vb] w fun e w' => e = .returned (.bool (decide (xs = ys))) ∧ Fr (fun k => k < w.heap.size) w w' := by
  have hd : xs = ys ↔ xs.length = ys.length ∧ val xs = val ys := ⟨fun h => by subst h; exact ⟨rfl, rfl⟩, fun h => same_iff (Kd.nat_all ha) (Kd.nat_all hb) h.1 h.2⟩
  have hc := cmp_n w va vb _ _ _ _ ⟨xs, ha, rfl, Nat.le_refl _⟩ ⟨ys, hb, rfl, Nat.le_refl _⟩
  obtain ⟨A, c, rfl, _, _, _⟩ := ha.slice
  obtain ⟨A', c', rfl, _, _, _⟩ := hb.slice
  have HC := Lib.hid hc
  have HD := Lib.hid hd
  clear hc hd
  go_enter Tryz.func107, Tryz.ntmps107
  by_cases hl : xs.length = ys.length
  · have hb2 : ((xs.length : Int) == (ys.length : Int)) = true := beq_iff_eq.2 (by omega)
    have HL := Lib.hid hl
    clear hl
    go_wp2_with fail
    refine HC.out.mono ?_
    rintro e w1 ⟨rfl, hf⟩
    go_wp2_with fail
    go_ret
    refine ⟨congrArg (fun b : Bool => Ending.returned (.bool b)) ?_, hf⟩
    have h0 : cmpN (val xs) (val ys) = 0 ↔ val xs = val ys := by unfold cmpN; split <;> (try split) <;> omega
    by_cases hv : val xs = val ys
    · rw [decide_eq_true (HD.out.2 ⟨HL.out, hv⟩), h0.2 hv]; rfl
    · rw [decide_eq_false fun e => hv (HD.out.1 e).2]
      exact beq_eq_false_iff_ne.2 fun e => hv (h0.1 e)
  · have hb2 : ((xs.length : Int) == (ys.length : Int)) = false := beq_eq_false_iff_ne.2 (by omega)
    go_wp2_with fail
    go_ret
    exact ⟨congrArg (fun b : Bool => Ending.returned (.bool b)) (decide_eq_false fun e => hl (HD.out.1 e).1).symm, Fr.refl _ _⟩
end Go.Proofs.YtlppcfeimpcbjaaGreat


/- Rationals in memory; rat.Make, Norm. -/
namespace Go.Proofs.YtlppcfeimpcbjaaGreat
open Go.RowKit

/-- A rational as it is answered. -/
structure RV (S : Nat → Prop) (w : World) (vn vd : Value) (q : Rat) (L : Nat) : Prop where
  num : Can S w vn q.num.natAbs L
  den : Can S w vd q.den L
/-- A rational of whatever form: the sign's bool and two naturals that come to it. -/
structure RI (S : Nat → Prop) (w : World) (s : Bool) (vn vd : Value) (q : Rat) (N D L : Nat) : Prop where
  num : Num S w vn N L
  den : Num S w vd D L
  val : rv s N D = q
theorem RV.keep {S : Nat → Prop} {w w' : World} {vn vd : Value} {q : Rat} {L : Nat} (h : RV S w vn vd q L) (hf : Fr (fun k => k < w.heap.size) w w') : RV S w' vn vd q L := ⟨h.num.keep hf, h.den.keep hf⟩
theorem RV.mono {S T : Nat → Prop} {w : World} {vn vd : Value} {q : Rat} {L : Nat} (h : RV S w vn vd q L) (hs : ∀ k, S k → T k) : RV T w vn vd q L := ⟨h.num.mono hs, h.den.mono hs⟩
theorem RV.wide {S : Nat → Prop} {w : World} {vn vd : Value} {q : Rat} {L K : Nat} (h : RV S w vn vd q L) (hl : L ≤ K) : RV S w vn vd q K := ⟨h.num.wide hl, h.den.wide hl⟩
theorem RV.fr {S : Nat → Prop} {w w' : World} {vn vd : Value} {q : Rat} {L : Nat} (h : RV S w vn vd q L) (hf : Fr S w w') : RV S w' vn vd q L := ⟨h.num.fr hf, h.den.fr hf⟩
theorem RI.keep {S : Nat → Prop} {w w' : World} {s : Bool} {vn vd : Value} {q : Rat} {N D L : Nat} (h : RI S w s vn vd q N D L) (hf : Fr (fun k => k < w.heap.size) w w') : RI S w' s vn vd q N D L := ⟨h.num.keep hf, h.den.keep hf, h.val⟩
theorem Num.low {S : Nat → Prop} {w : World} {v : Value} {N L : Nat} (h : Num S w v N L) : Num (fun k => k < w.heap.size) w v N L := by
  obtain ⟨xs, h1, h2⟩ := h
  exact ⟨xs, h1.low Lm_pos, h2⟩
theorem Num.fr {S : Nat → Prop} {w w' : World} {v : Value} {N L : Nat} (h : Num S w v N L) (hf : Fr S w w') : Num S w' v N L := by
  obtain ⟨xs, h1, h2⟩ := h
  exact ⟨xs, h1.fr hf, h2⟩
theorem RI.low {S : Nat → Prop} {w : World} {s : Bool} {vn vd : Value} {q : Rat} {N D L : Nat} (h : RI S w s vn vd q N D L) : RI (fun k => k < w.heap.size) w s vn vd q N D L := ⟨h.num.low, h.den.low, h.val⟩
theorem RI.fr {S : Nat → Prop} {w w' : World} {s : Bool} {vn vd : Value} {q : Rat} {N D L : Nat} (h : RI S w s vn vd q N D L) (hf : Fr S w w') : RI S w' s vn vd q N D L := ⟨h.num.fr hf, h.den.fr hf, h.val⟩
theorem RI.wide {S : Nat → Prop} {w : World} {s : Bool} {vn vd : Value} {q : Rat} {N D L K : Nat} (h : RI S w s vn vd q N D L) (hl : L ≤ K) : RI S w s vn vd q N D K := ⟨h.num.wide hl, h.den.wide hl, h.val⟩
theorem RV.ri {S : Nat → Prop} {w : World} {vn vd : Value} {q : Rat} {L : Nat} (h : RV S w vn vd q L) : RI S w (sg q) vn vd q q.num.natAbs q.den L := ⟨h.num.num, h.den.num, rv_self q⟩
/-- its inverse -/
theorem RV.inv {S : Nat → Prop} {w : World} {vn vd : Value} {q : Rat} {L : Nat} (h : RV S w vn vd q L) : RI S w (sg q) vd vn q⁻¹ q.den q.num.natAbs L := ⟨h.den.num, h.num.num, rv_inv q⟩
theorem RI.form {S : Nat → Prop} {w : World} {s : Bool} {vn vd : Value} {q : Rat} {N D L : Nat} (h : RI S w s vn vd q N D L) : (∃ A n c, vn = .slice A n c) ∧ ∃ A n c, vd = .slice A n c := ⟨h.num.form, h.den.form⟩
theorem RV.form {S : Nat → Prop} {w : World} {vn vd : Value} {q : Rat} {L : Nat} (h : RV S w vn vd q L) : (∃ A n c, vn = .slice A n c) ∧ ∃ A n c, vd = .slice A n c := ⟨h.num.form, h.den.form⟩
theorem Can.tight {S : Nat → Prop} {w : World} {v : Value} {N L K : Nat} (h : Can S w v N L) (hl : N < LB ^ K) : Can S w v N K := ⟨h.own, dg_len_le LB2 hl⟩
theorem Can.one {S : Nat → Prop} {w : World} {v : Value} {L K : Nat} (h : Can S w v 1 L) (hk : 1 ≤ K) : Can S w v 1 K := h.tight (Nat.lt_of_lt_of_le (show 1 < LB ^ 1 by decide) (Nat.pow_le_pow_right LBpos hk))
theorem RV.zero {S : Nat → Prop} {w : World} {v : Value} {L : Nat} (h : Can S w v 1 L) : RV S w (.slice none 0 0) v 0 L := ⟨⟨by rw [show (0 : Rat).num.natAbs = 0 from rfl, dg_zero]; exact Own.nil _ _ _ _, by rw [show (0 : Rat).num.natAbs = 0 from rfl, dg_zero]; exact Nat.zero_le _⟩, h⟩

theorem Can.out {a b : Nat} {R : Nat → Prop} {w w' : World} {v : Value} {N L : Nat} (h : Can (fun k => a ≤ k) w v N L) (hf : Fr R w w') (hr : ∀ k, a ≤ k → R k) (hb : b ≤ a) : Can (fun k => b ≤ k) w' v N L :=
  (h.fr (hf.mono fun k _ hk => hr k hk)).mono fun _ hk => Nat.le_trans hb hk
theorem RV.out {a b : Nat} {R : Nat → Prop} {w w' : World} {vn vd : Value} {q : Rat} {L : Nat} (h : RV (fun k => a ≤ k) w vn vd q L) (hf : Fr R w w') (hr : ∀ k, a ≤ k → R k) (hb : b ≤ a) : RV (fun k => b ≤ k) w' vn vd q L :=
  ⟨h.num.out hf hr hb, h.den.out hf hr hb⟩

theorem blen_eq0 (n : Nat) : ((blen n : Int) == 0) = decide (n = 0) := by
  rcases Nat.eq_zero_or_pos n with rfl | h
  · rw [blen_zero]; rfl
  · obtain ⟨k, hk, _, _⟩ := blen_pos h
    rw [hk, decide_eq_false (by omega)]
    exact beq_eq_false_iff_ne.2 (by omega)

/-- the world with the result's block laid -/
def nz (w : World) : World := w.alloc (.cells #[.bool false, .slice none 0 0, .slice none 0 0] 54)
theorem fr_nz (S : Nat → Prop) (w : World) : Fr S w (w.alloc (.cells #[.bool false, .slice none 0 0, .slice none 0 0] 54)) := (Fr.refl _ _).alloc _
theorem box_nz (w : World) : Box3 (w.alloc (.cells #[.bool false, .slice none 0 0, .slice none 0 0] 54)) w.heap.size 54 (.bool false) (.slice none 0 0) (.slice none 0 0) := Box3.new _ _ _ _ _

set_option maxHeartbeats 1000000 in
theorem make_0 {S T : Nat → Prop} (w : World) (s : Bool) (vn vd : Value) (N L K : Nat) (_ : Num S w vn N L) (hd : Num T w vd 0 K) (hk : K ≤ 1048576000) :
    Calls Tryz.prog 97 #[.bool s, vn, vd] w fun e w' => e = .returned (.tuple #[.agg #[.bool false, .slice none 0 0, .slice none 0 0], .int .i64 17]) ∧ Fr (fun k => k < w.heap.size) w w' := by
  have p1 := bits_n _ _ _ _ (hd.keep (fr_nz _ w)) (by omega)
  rw [blen_zero] at p1
  go_enter Tryz.func97, Tryz.ntmps97
  go_wp2_with fail
  refine p1.mono ?_
  rintro e w1 ⟨rfl, rfl⟩
  clear p1 hd
  go_wp2_with fail
  refine bodyPost_ret (results_cell3_tmp rfl rfl (box_nz w) Tryz.underlying54 rat3) rfl ?_
  exact ⟨rfl, fr_nz _ w⟩

set_option maxHeartbeats 1000000 in
theorem make_n {S T : Nat → Prop} (w : World) (s : Bool) (vn vd : Value) (N D L : Nat) (hn : Num S w vn N L) (hd : Num T w vd D L) (hD : 0 < D) (hL1 : 1 ≤ L) (hl : L ≤ 1048576000) :
    Calls Tryz.prog 97 #[.bool s, vn, vd] w fun e w' => ∃ v1 v2, e = .returned (.tuple #[.agg #[.bool (sg (rv s N D)), v1, v2], .int .i64 0]) ∧ RV (fun k => w.heap.size ≤ k) w' v1 v2 (rv s N D) L ∧ Fr (fun k => k < w.heap.size) w w' := by
  have p1 := bits_n _ _ _ _ (hd.keep (fr_nz _ w)) (by omega)
  have p2 := bits_n _ _ _ _ (hn.keep (fr_nz _ w)) (by omega)
  have hn0 := hn.keep (fr_nz _ w)
  have hd0 := hd.keep (fr_nz _ w)
  have hb := box_nz w
  have F := fr_nz (fun k => k < w.heap.size) w
  have e1 : ((blen D : Int) == 0) = false := by rw [blen_eq0, decide_eq_false (by omega)]
  go_enter Tryz.func97, Tryz.ntmps97
  rcases Nat.eq_zero_or_pos N with rfl | h0
  · rw [blen_zero] at p2
    rw [rv_num0, sg_zero]
    go_wp2_with fail
    refine p1.mono ?_
    rintro e w1 ⟨rfl, rfl⟩
    go_wp2_with fail
    refine p2.mono ?_
    rintro e w1 ⟨rfl, rfl⟩
    clear p1 p2
    go_wp2_with fail
    refine (one_n _).mono ?_
    rintro e w1 ⟨v1, rfl, h1, hf⟩
    obtain ⟨A1, n1, c1, rfl⟩ := h1.form
    replace F := fr_then F hf
    replace hb := hb.keep hf
    clear hn hd hn0 hd0 hf
    have s1 := F.size
    go_wp2_with ((with_reducible apply wpList_st3); rfl; rfl; assumption; exact rat3; rfl; rfl; rfl; intro w9 B9 F9)
    refine bodyPost_ret (results_cell3_tmp rfl rfl B9 Tryz.underlying54 rat3) rfl ?_
    refine ⟨_, _, rfl, ?_, F.comp F9 fun k hk h => ⟨h, by omega⟩⟩
    simp only [World.size_alloc] at h1
    exact (RV.zero (((h1.one hL1).mono (T := fun k => w.heap.size + 1 ≤ k) fun k hk => hk).fr (F9.mono fun k _ hk => by omega))).mono fun k hk => by omega
  · rw [rv_sg hD h0]
    have hgp : 0 < Nat.gcd N D := Nat.gcd_pos_of_pos_left _ h0
    have e2 : ((blen N : Int) == 0) = false := by rw [blen_eq0, decide_eq_false (by omega)]
    go_wp2_with fail
    refine p1.mono ?_
    rintro e w1 ⟨rfl, rfl⟩
    go_wp2_with fail
    refine p2.mono ?_
    rintro e w1 ⟨rfl, rfl⟩
    clear p1 p2
    go_wp2_with fail
    refine (gcd_n _ _ _ _ _ _ hn0 hd0 hl).mono ?_
    rintro e w1 ⟨v1, rfl, h1, hf⟩
    obtain ⟨A1, n1, c1, rfl⟩ := h1.form
    replace F := fr_then F hf
    replace hb := hb.keep hf
    replace hn0 := hn0.keep hf
    replace hd0 := hd0.keep hf
    clear hn hd hf
    simp only [World.size_alloc] at h1
    have s0 := hb.lt
    have hx := Box.new w1 52 (.slice A1 n1 c1)
    have G := (Fr.refl (fun k => k < w1.heap.size) w1).alloc (.cells #[.slice A1 n1 c1] 52)
    have h1' := h1.keep G
    go_wp2_with fail
    refine (part_n _ _ _ _ _ _ _ _ (hn0.keep G) h1'.num hx hgp hl hl).mono ?_
    rintro e w2 ⟨v2, rfl, h2, hf⟩
    obtain ⟨A2, n2, c2, rfl⟩ := h2.form
    replace G := fr_then G hf
    have s4 := G.size
    replace hx := hx.fr hf (by simp)
    replace h1' := h1'.keep hf
    simp only [World.size_alloc] at h2
    clear hf
    go_wp2_with fail
    refine (part_n _ _ _ _ _ _ _ _ (hd0.keep G) h1'.num hx hgp hl hl).mono ?_
    rintro e w3 ⟨v3, rfl, h3, hf⟩
    obtain ⟨A3, n3, c3, rfl⟩ := h3.form
    replace G := fr_then G hf
    replace h2 := h2.keep hf
    replace hb := hb.keep G
    replace F := fr_then F G
    have s1 := F.size
    have s2 := G.size
    have s3 := hf.size
    clear hf h1' h1 hn0 hd0 hx G
    go_wp2_with ((with_reducible apply wpList_st3); rfl; rfl; assumption; exact rat3; rfl; rfl; rfl; intro w9 B9 F9)
    refine bodyPost_ret (results_cell3_tmp rfl rfl B9 Tryz.underlying54 rat3) rfl ?_
    refine ⟨_, _, rfl, ⟨?_, ?_⟩, F.comp F9 fun k hk h => ⟨h, by omega⟩⟩
    · rw [rv_num hD]
      exact ((h2.mono (T := fun k => w.heap.size + 1 ≤ k) fun k hk => by omega).fr (F9.mono fun k _ hk => by omega)).mono fun k hk => by omega
    · rw [rv_den hD]
      exact ((h3.mono (T := fun k => w.heap.size + 1 ≤ k) fun k hk => by omega).fr (F9.mono fun k _ hk => by omega)).mono fun k hk => by omega

theorem make_q {S T : Nat → Prop} (w : World) (s : Bool) (vn vd : Value) (N D L : Nat) (q : Rat) (hq : Hid (rv s N D = q)) (hn : Num S w vn N L) (hd : Num T w vd D L) (hD : 0 < D) (hL1 : 1 ≤ L) (hl : L ≤ 1048576000) :
    Calls Tryz.prog 97 #[.bool s, vn, vd] w fun e w' => ∃ v1 v2, e = .returned (.tuple #[.agg #[.bool (sg q), v1, v2], .int .i64 0]) ∧ RV (fun k => w.heap.size ≤ k) w' v1 v2 q L ∧ Fr (fun k => k < w.heap.size) w w' := by
  have := make_n w s vn vd N D L hn hd hD hL1 hl
  rwa [hq.out] at this

set_option maxHeartbeats 1000000 in
theorem norm_n {S : Nat → Prop} (w : World) (s : Bool) (vn vd : Value) (q : Rat) (N D L : Nat) (h : RI S w s vn vd q N D L) (hL1 : 1 ≤ L) (hl : L ≤ 1048576000) :
    Calls Tryz.prog 106 #[.agg #[.bool s, vn, vd]] w fun e w' => ∃ v1 v2, e = .returned (.agg #[.bool (sg q), v1, v2]) ∧ RV (fun k => w.heap.size ≤ k) w' v1 v2 q L ∧ Fr (fun k => k < w.heap.size) w w' := by
  obtain ⟨⟨A1, n1, c1, rfl⟩, ⟨A2, n2, c2, rfl⟩⟩ := h.form
  have F := ((Fr.refl (fun k => k < w.heap.size) w).alloc (.cells #[.bool s, .slice A1 n1 c1, .slice A2 n2 c2] 54)).alloc (.cells #[.bool false, .slice none 0 0, .slice none 0 0] 54)
  have hb := box_nz (w.alloc (.cells #[.bool s, .slice A1 n1 c1, .slice A2 n2 c2] 54))
  have h0 := h.keep F
  simp only [World.size_alloc] at hb
  go_enter Tryz.func106, Tryz.ntmps106
  rcases Nat.eq_zero_or_pos D with rfl | hD
  · obtain rfl : 0 = q := by rw [← h.val, rv_den0]
    go_wp2_with fail
    refine (make_0 _ _ _ _ _ _ _ h0.num h0.den hl).mono ?_
    rintro e w1 ⟨rfl, hf⟩
    replace F := fr_then F hf
    replace hb := hb.keep hf
    have s1 := hf.size
    clear hf h h0
    go_wp2_with fail
    refine (one_n _).mono ?_
    rintro e w2 ⟨v1, rfl, h1, hf⟩
    obtain ⟨A3, n3, c3, rfl⟩ := h1.form
    replace F := fr_then (F.alloc (.cells #[.bool false, .slice none 0 0, .slice none 0 0] 54)) hf
    replace hb := (hb.alloc _).keep hf
    have s2 := hf.size
    simp only [World.size_alloc] at h1 s1 s2
    clear hf
    go_wp2_with ((with_reducible apply wpList_st3); rfl; rfl; assumption; exact rat3; rfl; rfl; rfl; intro w9 B9 F9)
    refine bodyPost_ret (results_cell3 rfl rfl B9 Tryz.underlying54 rat3) rfl ?_
    refine ⟨_, _, rfl, ?_, F.comp F9 fun k hk h => ⟨h, by omega⟩⟩
    exact (RV.zero (((h1.one hL1).mono (T := fun k => w.heap.size + 2 ≤ k) fun k hk => by omega).fr (F9.mono fun k _ hk => by omega))).mono fun k hk => by omega
  · go_wp2_with fail
    refine (make_n _ _ _ _ _ _ _ h0.num h0.den hD hL1 hl).mono ?_
    rintro e w1 ⟨v1, v2, rfl, h1, hf⟩
    obtain ⟨⟨A3, n3, c3, rfl⟩, ⟨A4, n4, c4, rfl⟩⟩ := h1.form
    replace F := fr_then F hf
    replace hb := hb.keep hf
    rw [h.val] at h1 ⊢
    have s1 := hf.size
    simp only [World.size_alloc] at h1 s1
    clear hf h h0
    have B1 := hb.alloc (.cells #[.bool (sg q), .slice A3 n3 c3, .slice A4 n4 c4] 54)
    have F1 := F.alloc (.cells #[.bool (sg q), .slice A3 n3 c3, .slice A4 n4 c4] 54)
    have h2 := h1.fr ((Fr.refl _ _).alloc (.cells #[.bool (sg q), .slice A3 n3 c3, .slice A4 n4 c4] 54))
    clear F hb h1
    go_wp2_with ((with_reducible apply wpList_st3); rfl; rfl; assumption; exact rat3; rfl; rfl; rfl; intro w9 B9 F9)
    refine bodyPost_ret (results_cell3 rfl rfl B9 Tryz.underlying54 rat3) rfl ?_
    refine ⟨_, _, rfl, ?_, F1.comp F9 fun k hk h => ⟨h, by omega⟩⟩
    exact ((h2.mono (T := fun k => w.heap.size + 2 ≤ k) fun k hk => by omega).fr (F9.mono fun k _ hk => by omega)).mono fun k hk => by omega
end Go.Proofs.YtlppcfeimpcbjaaGreat


/- rat.Neg, side.take, sum's closure. -/
namespace Go.Proofs.YtlppcfeimpcbjaaGreat
open Go.RowKit

set_option maxHeartbeats 1000000 in
theorem made_n {S T : Nat → Prop} (w : World) (s : Bool) (vn vd : Value) (b N D L : Nat) (hn : Num S w vn N L) (hd : Num T w vd D L) (hx : Box w b 52 vd) (hD : 0 < D) (hL1 : 1 ≤ L) (hl : L ≤ 1048576000) :
    Calls Tryz.prog 127 #[.bool s, vn, .pointer (some ⟨b, 0, none⟩)] w fun e w' => ∃ v1 v2, e = .returned (.agg #[.bool (sg (rv s N D)), v1, v2]) ∧ RV (fun k => w.heap.size ≤ k) w' v1 v2 (rv s N D) L ∧ Fr (fun k => k < w.heap.size) w w' := by
  have F := fr_nz (fun k => k < w.heap.size) w
  have hb := box_nz w
  have hn0 := hn.keep (fr_nz _ w)
  have hd0 := hd.keep (fr_nz _ w)
  have hc := (hx.alloc (.cells #[.bool false, .slice none 0 0, .slice none 0 0] 54)).cell
  go_enter Tryz.func127, Tryz.ntmps127
  go_wp2_with fail
  refine (make_n _ _ _ _ _ _ _ hn0 hd0 hD hL1 hl).mono ?_
  rintro e w1 ⟨v1, v2, rfl, h1, hf⟩
  obtain ⟨⟨A3, n3, c3, rfl⟩, ⟨A4, n4, c4, rfl⟩⟩ := h1.form
  have s1 := hf.size
  simp only [World.size_alloc] at h1 s1
  have B1 := (hb.keep hf).alloc (.cells #[.bool (sg (rv s N D)), .slice A3 n3 c3, .slice A4 n4 c4] 54)
  have F1 := (fr_then F hf).alloc (.cells #[.bool (sg (rv s N D)), .slice A3 n3 c3, .slice A4 n4 c4] 54)
  have h2 := h1.fr ((Fr.refl _ _).alloc (.cells #[.bool (sg (rv s N D)), .slice A3 n3 c3, .slice A4 n4 c4] 54))
  clear F hb h1 hf hc hn hd hn0 hd0 hx
  go_wp2_with ((with_reducible apply wpList_st3); rfl; rfl; assumption; exact rat3; rfl; rfl; rfl; intro w9 B9 F9)
  refine bodyPost_ret (results_cell3 rfl rfl B9 Tryz.underlying54 rat3) rfl ?_
  refine ⟨_, _, rfl, ?_, F1.comp F9 fun k hk h => ⟨h, by omega⟩⟩
  exact ((h2.mono (T := fun k => w.heap.size + 1 ≤ k) fun k hk => by omega).fr (F9.mono fun k _ hk => by omega)).mono fun k hk => by omega

theorem made_q {S T : Nat → Prop} (w : World) (s : Bool) (vn vd : Value) (b N D L : Nat) (q : Rat) (hq : Hid (rv s N D = q)) (hn : Num S w vn N L) (hd : Num T w vd D L) (hx : Box w b 52 vd) (hD : 0 < D) (hL1 : 1 ≤ L) (hl : L ≤ 1048576000) :
    Calls Tryz.prog 127 #[.bool s, vn, .pointer (some ⟨b, 0, none⟩)] w fun e w' => ∃ v1 v2, e = .returned (.agg #[.bool (sg q), v1, v2]) ∧ RV (fun k => w.heap.size ≤ k) w' v1 v2 q L ∧ Fr (fun k => k < w.heap.size) w w' := by
  have := made_n w s vn vd b N D L hn hd hx hD hL1 hl
  rwa [hq.out] at this

set_option maxHeartbeats 2000000 in
theorem neg_n {S : Nat → Prop} (w : World) (s : Bool) (vn vd : Value) (q : Rat) (N D L : Nat) (h : RI S w s vn vd q N D L) (hL1 : 1 ≤ L) (hl : L ≤ 1048576000) :
    Calls Tryz.prog 130 #[.agg #[.bool s, vn, vd]] w fun e w' => ∃ v1 v2, e = .returned (.agg #[.bool (sg (-q)), v1, v2]) ∧ RV (fun k => w.heap.size ≤ k) w' v1 v2 (-q) L ∧ Fr (fun k => k < w.heap.size) w w' := by
  obtain ⟨⟨A1, n1, c1, rfl⟩, ⟨A2, n2, c2, rfl⟩⟩ := h.form
  have F := ((Fr.refl (fun k => k < w.heap.size) w).alloc (.cells #[.bool s, .slice A1 n1 c1, .slice A2 n2 c2] 54)).alloc (.cells #[.bool false, .slice none 0 0, .slice none 0 0] 54)
  have hb := box_nz (w.alloc (.cells #[.bool s, .slice A1 n1 c1, .slice A2 n2 c2] 54))
  have hx := (Box3.new w 54 (.bool s) (.slice A1 n1 c1) (.slice A2 n2 c2)).alloc (.cells #[.bool false, .slice none 0 0, .slice none 0 0] 54)
  have h0 := h.keep F
  simp only [World.size_alloc] at hb
  go_enter Tryz.func130, Tryz.ntmps130
  go_wp2_with fail
  refine (norm_n _ _ _ _ _ _ _ _ h0 hL1 hl).mono ?_
  rintro e w1 ⟨v1, v2, rfl, h1, hf⟩
  have hnum : ∃ A c, v1 = .slice A (dg LB q.num.natAbs).length c := by obtain ⟨A, c, e, _⟩ := h1.num.sl.slice; exact ⟨A, c, e⟩
  obtain ⟨A3, c3, rfl⟩ := hnum
  obtain ⟨_, ⟨A4, n4, c4, rfl⟩⟩ := h1.form
  have s1 := hf.size
  simp only [World.size_alloc] at h1 s1
  replace hb := hb.keep hf
  replace hx := hx.keep hf
  replace F := fr_then F hf
  clear hf h h0
  have hm := dg_len_pos LB2 (n := q.num.natAbs)
  obtain ⟨m, hmm⟩ : ∃ m, m = (dg LB q.num.natAbs).length := ⟨_, rfl⟩
  have hsg := sg_neg (q := q)
  rw [← hmm] at hm h1 ⊢
  have hd0 := dg_len_pos LB2 (n := q.num.natAbs)
  rcases Nat.eq_zero_or_pos m with rfl | h0
  · have hq : q.num = 0 := by omega
    have HS := Lib.hid (show sg (-q) = false by rw [hsg, hq]; rfl)
    clear hsg hq hmm hm hd0
    go_wp2_with (first
      | ((with_reducible apply wpList_st3); rfl; rfl; exact hx; exact rat3; rfl; rfl; rfl; intro w2 B2 F2; have b0 := B2.c0; have b1 := B2.c1; have b2 := B2.c2; have bf := B2.free 0
         have F3 : Fr (fun k => k ≠ w.heap.size) w1 (w2.setCell ⟨w.heap.size, 0, none⟩ (.bool false)) := F2.setCell (p := ⟨w.heap.size, 0, none⟩) (fun _ h => h rfl) _
         have hb3 := hb.fr F3 (by omega))
      | ((with_reducible apply wpList_st3); rfl; rfl; exact hb3; exact rat3; rfl; rfl; rfl; intro w9 B9 F9))
    refine bodyPost_ret (results_cell3 rfl rfl B9 Tryz.underlying54 rat3) rfl ?_
    have F4 := F3.comp F9 (R := fun k => k < w.heap.size ∨ w.heap.size + 2 ≤ k) fun k hk h => ⟨by omega, by omega⟩
    refine ⟨_, _, by rw [HS.out], ⟨?_, ?_⟩, F.comp F4 fun k hk h => ⟨h, .inl h⟩⟩
    · rw [neg_natAbs]
      exact h1.num.out F4 (fun k hk => .inr hk) (by omega)
    · exact h1.den.out F4 (fun k hk => .inr hk) (by omega)
  · have hq : q.num ≠ 0 := by omega
    have HS := Lib.hid (show sg (-q) = !sg q by rw [hsg, decide_eq_true hq]; rfl)
    clear hsg hq hmm hm hd0
    go_wp2_with (first
      | ((with_reducible apply wpList_st3); rfl; rfl; exact hx; exact rat3; rfl; rfl; rfl; intro w2 B2 F2; have b0 := B2.c0; have b1 := B2.c1; have b2 := B2.c2; have bf := B2.free 0
         have F3 : Fr (fun k => k ≠ w.heap.size) w1 (w2.setCell ⟨w.heap.size, 0, none⟩ (.bool (!sg q))) := F2.setCell (p := ⟨w.heap.size, 0, none⟩) (fun _ h => h rfl) _
         have hb3 := hb.fr F3 (by omega))
      | ((with_reducible apply wpList_st3); rfl; rfl; exact hb3; exact rat3; rfl; rfl; rfl; intro w9 B9 F9))
    refine bodyPost_ret (results_cell3 rfl rfl B9 Tryz.underlying54 rat3) rfl ?_
    have F4 := F3.comp F9 (R := fun k => k < w.heap.size ∨ w.heap.size + 2 ≤ k) fun k hk h => ⟨by omega, by omega⟩
    refine ⟨_, _, by rw [HS.out], ⟨?_, ?_⟩, F.comp F4 fun k hk h => ⟨h, .inl h⟩⟩
    · rw [neg_natAbs]
      exact h1.num.out F4 (fun k hk => .inr hk) (by omega)
    · exact h1.den.out F4 (fun k hk => .inr hk) (by omega)

set_option maxHeartbeats 1000000 in
theorem take_n {S : Nat → Prop} (w : World) (b : Bool) (s : Bool) (vn vd : Value) (q : Rat) (L : Nat) (h : RV S w vn vd q L) (hs : s = sg q) (hL1 : 1 ≤ L) (hl : L ≤ 1048576000) :
    Calls Tryz.prog 96 #[.agg #[.bool b], .agg #[.bool s, vn, vd]] w fun e w' => ∃ v1 v2, e = .returned (.agg #[.bool (sg (if b then -q else q)), v1, v2]) ∧ RV (fun k => S k ∨ w.heap.size ≤ k) w' v1 v2 (if b then -q else q) L ∧ Fr (fun k => k < w.heap.size) w w' := by
  subst hs
  have hq := h
  obtain ⟨⟨A1, n1, c1, rfl⟩, ⟨A2, n2, c2, rfl⟩⟩ := h.form
  have F := (((Fr.refl (fun k => k < w.heap.size) w).alloc (.cells #[.bool b] 134)).alloc (.cells #[.bool (sg q), .slice A1 n1 c1, .slice A2 n2 c2] 54)).alloc (.cells #[.bool false, .slice none 0 0, .slice none 0 0] 54)
  go_enter Tryz.func96, Tryz.ntmps96
  cases b with
  | false =>
    have F' := (((Fr.refl (fun k => k < w.heap.size) w).alloc (.cells #[.bool false] 134)).alloc (.cells #[.bool (sg q), .slice A1 n1 c1, .slice A2 n2 c2] 54)).alloc (.cells #[.bool (sg q), .slice A1 n1 c1, .slice A2 n2 c2] 54)
    go_wp2_with fail
    refine bodyPost_ret (v := .agg #[.bool (sg q), .slice A1 n1 c1, .slice A2 n2 c2]) (by simp [results, Tryz.results96, go_sem]) rfl ?_
    exact ⟨_, _, rfl, (hq.keep F').mono fun k hk => .inl hk, F'⟩
  | true =>
    have hb := box_nz ((w.alloc (.cells #[.bool true] 134)).alloc (.cells #[.bool (sg q), .slice A1 n1 c1, .slice A2 n2 c2] 54))
    go_wp2_with fail
    refine (neg_n _ _ _ _ _ _ _ _ (h.keep F).ri hL1 hl).mono ?_
    rintro e w1 ⟨v1, v2, rfl, h1, hf⟩
    obtain ⟨⟨A3, n3, c3, rfl⟩, ⟨A4, n4, c4, rfl⟩⟩ := h1.form
    have s1 := hf.size
    simp only [World.size_alloc] at h1 s1 hb
    replace hb := hb.keep hf
    replace F := fr_then F hf
    clear hf h hq
    go_wp2_with ((with_reducible apply wpList_st3); rfl; rfl; exact hb; exact rat3; rfl; rfl; rfl; intro w9 B9 F9)
    refine bodyPost_ret (results_cell3 rfl rfl B9 Tryz.underlying54 rat3) rfl ?_
    exact ⟨_, _, rfl, (h1.out F9 (b := w.heap.size) (fun k hk => by omega) (by omega)).mono fun k hk => .inr hk, F.comp F9 fun k hk h => ⟨h, by omega⟩⟩
theorem take_z {S : Nat → Prop} (w : World) (b : Bool) (s : Bool) (vn vd : Value) (q z : Rat) (L : Nat) (hz : Hid ((if b then -q else q) = z)) (h : RV S w vn vd q L) (hs : s = sg q) (hL1 : 1 ≤ L) (hl : L ≤ 1048576000) :
    Calls Tryz.prog 96 #[.agg #[.bool b], .agg #[.bool s, vn, vd]] w fun e w' => ∃ v1 v2, e = .returned (.agg #[.bool (sg z), v1, v2]) ∧ RV (fun k => S k ∨ w.heap.size ≤ k) w' v1 v2 z L ∧ Fr (fun k => k < w.heap.size) w w' := by
  have := take_n w b s vn vd q L h hs hL1 hl
  rwa [hz.out] at this
end Go.Proofs.YtlppcfeimpcbjaaGreat


/- rat.sum, Add, Sub. -/
namespace Go.Proofs.YtlppcfeimpcbjaaGreat
open Go.RowKit

set_option maxHeartbeats 4000000 in
theorem sum_n {S T : Nat → Prop} (w : World) (b : Bool) (s t : Bool) (vn vd un ud : Value) (x y z : Rat) (N D M E L : Nat) (hz : Hid ((if b then -y else y) = z)) (hx : RI S w s vn vd x N D L) (hy : RI T w t un ud y M E L) (hL1 : 1 ≤ L) (hl : L ≤ 104857600) :
    Calls Tryz.prog 95 #[.agg #[.bool s, vn, vd], .agg #[.bool t, un, ud], .func (.func 96) #[.agg #[.bool b]] #[]] w fun e w' => ∃ v1 v2, e = .returned (.agg #[.bool (sg (x + z)), v1, v2]) ∧ RV (fun k => w.heap.size ≤ k) w' v1 v2 (x + z) (5 * L) ∧ Fr (fun k => k < w.heap.size) w w' := by
  obtain ⟨⟨A1, n1, c1, rfl⟩, ⟨A2, n2, c2, rfl⟩⟩ := hx.form
  obtain ⟨⟨A3, n3, c3, rfl⟩, ⟨A4, n4, c4, rfl⟩⟩ := hy.form
  have F := (((Fr.refl (fun k => k < w.heap.size) w).alloc (.cells #[.bool s, .slice A1 n1 c1, .slice A2 n2 c2] 54)).alloc (.cells #[.bool t, .slice A3 n3 c3, .slice A4 n4 c4] 54)).alloc (.cells #[.bool false, .slice none 0 0, .slice none 0 0] 54)
  have b1 := ((Box3.new w 54 (.bool s) (.slice A1 n1 c1) (.slice A2 n2 c2)).alloc (.cells #[.bool t, .slice A3 n3 c3, .slice A4 n4 c4] 54)).alloc (.cells #[.bool false, .slice none 0 0, .slice none 0 0] 54)
  have b2 := (Box3.new (w.alloc (.cells #[.bool s, .slice A1 n1 c1, .slice A2 n2 c2] 54)) 54 (.bool t) (.slice A3 n3 c3) (.slice A4 n4 c4)).alloc (.cells #[.bool false, .slice none 0 0, .slice none 0 0] 54)
  have b3 := box_nz ((w.alloc (.cells #[.bool s, .slice A1 n1 c1, .slice A2 n2 c2] 54)).alloc (.cells #[.bool t, .slice A3 n3 c3, .slice A4 n4 c4] 54))
  simp only [World.size_alloc] at b1 b2 b3
  generalize hW0 : (((w.alloc (.cells #[.bool s, .slice A1 n1 c1, .slice A2 n2 c2] 54)).alloc (.cells #[.bool t, .slice A3 n3 c3, .slice A4 n4 c4] 54)).alloc (.cells #[.bool false, .slice none 0 0, .slice none 0 0] 54)) = W0 at F b1 b2 b3
  have FD := F.drew
  have dr : ∀ R, Fr R W0 W0.drew := fun R => (Fr.refl R W0).drew
  have hxD := (hx.keep F).keep (dr _)
  have hyD := (hy.keep F).keep (dr _)
  have x1 := b1.keep (dr _)
  have x2 := b2.keep (dr _)
  have x3 := b3.keep (dr _)
  have p0 := x1.c0; have p1 := x1.c1; have p2 := x1.c2
  have q0 := x2.c0; have q1 := x2.c1; have q2 := x2.c2
  have hl1 : L ≤ 1048576000 := by omega
  clear hx hy b1 b2 b3 F
  go_enter Tryz.func95, Tryz.ntmps95
  go_wp2_with fail
  clear hW0
  go_region_with (first
    | ((with_reducible refine (norm_n _ s (.slice A1 n1 c1) (.slice A2 n2 c2) x N D L hxD hL1 hl1).mono ?_); rintro e w1 ⟨v1, v2, rfl, h1, hf1⟩; obtain ⟨⟨B1, m1, k1, rfl⟩, ⟨B2, m2, k2, rfl⟩⟩ := h1.form; have y1 := x1.keep hf1; have y2 := x2.keep hf1; have r0 := y2.c0; have r1 := y2.c1; have r2 := y2.c2)
    | ((with_reducible refine (norm_n _ t (.slice A3 n3 c3) (.slice A4 n4 c4) y M E L (hyD.keep hf1) hL1 hl1).mono ?_); rintro e w2 ⟨v1, v2, rfl, h2, hf2⟩; obtain ⟨⟨B3, m3, k3, rfl⟩, ⟨B4, m4, k4, rfl⟩⟩ := h2.form)
    | ((with_reducible refine (take_z _ b (sg y) (.slice B3 m3 k3) (.slice B4 m4 k4) y z L hz h2 rfl hL1 hl1).mono ?_); rintro e w3 ⟨v1, v2, rfl, h3, hf3⟩; obtain ⟨⟨B5, m5, k5, rfl⟩, ⟨B6, m6, k6, rfl⟩⟩ := h3.form; have z1 := (y1.keep hf2).keep hf3; have z2 := (y2.keep hf2).keep hf3; have u0 := z1.c0; have u1 := z1.c1; have u2 := z1.c2; have g0 := z1.free 0; have g1 := z1.free 1; have g2 := z1.free 2; have e0 := z2.c0; have e1 := z2.c1; have e2 := z2.c2; have i0 := z2.free 0; have i1 := z2.free 1; have i2 := z2.free 2))
  all_goals
    have Za := z1.set3 (.bool (sg x)) (.slice B1 m1 k1) (.slice B2 m2 k2)
    have Ga := fr_set3 w3 w.heap.size (.bool (sg x)) (.slice B1 m1 k1) (.slice B2 m2 k2)
    have Zb := (z2.fr Ga (by omega)).set3 (.bool (sg z)) (.slice B5 m5 k5) (.slice B6 m6 k6)
    have Gb := fr_set3 (((w3.setCell ⟨w.heap.size, 0, none⟩ (.bool (sg x))).setCell ⟨w.heap.size, 1, none⟩ (.slice B1 m1 k1)).setCell ⟨w.heap.size, 2, none⟩ (.slice B2 m2 k2)) (w.heap.size + 1) (.bool (sg z)) (.slice B5 m5 k5) (.slice B6 m6 k6)
    have Zc := Za.fr Gb (by omega)
    have G4 := Ga.comp Gb (R := fun k => k ≠ w.heap.size ∧ k ≠ w.heap.size + 1) fun k _ hk => hk
    have s1 := x3.lt
    have s2 := hf1.size
    have s3 := hf2.size
    have Zd := (((x3.keep hf1).keep hf2).keep hf3).fr G4 (by omega)
    have F4 := (fr_then (fr_then (fr_then FD hf1) hf2) hf3).comp G4 fun k hk h => ⟨h, by omega⟩
    have hX := ((h1.keep hf2).keep hf3).out (b := w.heap.size + 1 + 1 + 1) G4 (fun k hk => by omega) (by omega)
    have hZ := (h3.mono (T := fun k => w.heap.size + 1 + 1 + 1 ≤ k) (fun k hk => by omega)).out G4 (fun k hk => by omega) (Nat.le_refl _)
    generalize hw4 : World.setCell _ ⟨w.heap.size + 1, 2, none⟩ _ = w4 at Zb Zc Zd F4 hX hZ ⊢
    clear hw4 Za Ga Gb G4 s1 s2 s3 x1 x2 x3 y1 y2 z1 z2 h1 h2 h3 hf1 hf2 hf3 hxD hyD FD dr p0 p1 p2 q0 q1 q2 r0 r1 r2 u0 u1 u2 g0 g1 g2 e0 e1 e2 i0 i1 i2
    have drw : ∀ R, Fr R w4 w4.drew := fun R => (Fr.refl R w4).drew
    replace Zb := Zb.keep (drw _)
    replace Zc := Zc.keep (drw _)
    replace Zd := Zd.keep (drw _)
    replace F4 := F4.drew
    have hXd := hX.keep (drw _)
    have hZd := hZ.keep (drw _)
    clear hX hZ
    go_wp2_with fail
    have S4 : w4.drew.cell? ⟨w.heap.size, 1, none⟩ = some (.slice B1 m1 k1) ∧ w4.drew.cell? ⟨w.heap.size, 2, none⟩ = some (.slice B2 m2 k2) ∧ w4.drew.cell? ⟨w.heap.size + 1, 1, none⟩ = some (.slice B5 m5 k5) ∧ w4.drew.cell? ⟨w.heap.size + 1, 2, none⟩ = some (.slice B6 m6 k6) := ⟨Zc.c1, Zc.c2, Zb.c1, Zb.c2⟩
    go_region_held3 (fun u => u.cell? ⟨w.heap.size, 1, none⟩ = some (.slice B1 m1 k1) ∧ u.cell? ⟨w.heap.size, 2, none⟩ = some (.slice B2 m2 k2) ∧ u.cell? ⟨w.heap.size + 1, 1, none⟩ = some (.slice B5 m5 k5) ∧ u.cell? ⟨w.heap.size + 1, 2, none⟩ = some (.slice B6 m6 k6)) (first | exact S4 | exact S5 | exact S6) (first
      | ((with_reducible refine (mul_n _ (.slice B1 m1 k1) (.slice B6 m6 k6) _ _ L L hXd.num.num hZd.den.num (by omega)).mono ?_); rintro e w5 ⟨v1, rfl, h5, hf5⟩; obtain ⟨B7, m7, k7, rfl⟩ := h5.form; have S5 := (show w5.cell? ⟨w.heap.size, 1, none⟩ = some (.slice B1 m1 k1) ∧ w5.cell? ⟨w.heap.size, 2, none⟩ = some (.slice B2 m2 k2) ∧ w5.cell? ⟨w.heap.size + 1, 1, none⟩ = some (.slice B5 m5 k5) ∧ w5.cell? ⟨w.heap.size + 1, 2, none⟩ = some (.slice B6 m6 k6) from ⟨(Zc.keep hf5).c1, (Zc.keep hf5).c2, (Zb.keep hf5).c1, (Zb.keep hf5).c2⟩))
      | ((with_reducible refine (mul_n _ (.slice B5 m5 k5) (.slice B2 m2 k2) _ _ L L (hZd.num.keep hf5).num (hXd.den.keep hf5).num (by omega)).mono ?_); rintro e w6 ⟨v1, rfl, h6, hf6⟩; obtain ⟨B8, m8, k8, rfl⟩ := h6.form; have Zb6 := (Zb.keep hf5).keep hf6; have Zc6 := (Zc.keep hf5).keep hf6; have S6 := (show w6.cell? ⟨w.heap.size, 1, none⟩ = some (.slice B1 m1 k1) ∧ w6.cell? ⟨w.heap.size, 2, none⟩ = some (.slice B2 m2 k2) ∧ w6.cell? ⟨w.heap.size + 1, 1, none⟩ = some (.slice B5 m5 k5) ∧ w6.cell? ⟨w.heap.size + 1, 2, none⟩ = some (.slice B6 m6 k6) from ⟨Zc6.c1, Zc6.c2, Zb6.c1, Zb6.c2⟩)))
    have s4 := Zd.lt
    have s5 := hf5.size
    have s6 := hf6.size
    have Zd6 := (Zd.keep hf5).keep hf6
    have F6 := fr_then (fr_then F4 hf5) hf6
    have hX6 := (hXd.keep hf5).keep hf6
    have hZ6 := (hZd.keep hf5).keep hf6
    have h56 := h5.keep hf6
    have b0 := Zc6.c0
    have b1 := Zb6.c0
    clear S4 S5 S6 Zb Zc Zd F4 hXd hZd h5 hf5 hf6 drw
    go_wp2_with fail
    refine (mul_n _ _ _ _ _ L L hX6.den.num hZ6.den.num (by omega)).mono ?_
    rintro e w7 ⟨v7, rfl, h7, hf7⟩
    obtain ⟨B9, m9, k9, rfl⟩ := h7.form
    have s7 := hf7.size
    have Ga := (Fr.refl (fun k => k < w7.heap.size) w7).alloc (.cells #[.slice B9 m9 k9] 52)
    have hbx := Box.new w7 52 (.slice B9 m9 k9)
    have G7 := fr_then (hf7.mono (T := fun k => k < w6.heap.size) fun _ _ h => h) Ga
    have Zb7 := Zb6.keep G7
    have Zc7 := Zc6.keep G7
    have Zd7 := Zd6.keep G7
    have F7 := fr_then F6 G7
    have hA := h56.keep G7
    have hB := h6.keep G7
    have hD := h7.keep Ga
    have hDpos : 0 < x.den * z.den := Nat.mul_pos x.den_pos z.den_pos
    replace b0 := Zc7.c0
    replace b1 := Zb7.c0
    clear Zb6 Zc6 Zd6 F6 hX6 hZ6 h56 h6 h7 G7 Ga hf7
    generalize hW7 : w7.alloc _ = W7 at *
    have z1 := Zc7.lt
    have hA' := hA.num.wide (K := 5 * L) (by omega)
    have hB' := hB.num.wide (K := 5 * L) (by omega)
    have hD' := hD.num.wide (K := 5 * L) (by omega)
    have hL5 : 1 ≤ 5 * L := by omega
    have hl5 : 5 * L ≤ 1048576000 := by omega
    have zd := Zd7.lt
    by_cases hsx : sg x = sg z
    · have HR := Lib.hid (rv_add_same hsx)
      have hsb : (sg x == sg z) = true := beq_iff_eq.2 hsx
      clear hsx
      have dr7 : ∀ R, Fr R W7 W7.drew := fun R => (Fr.refl R W7).drew
      replace hA := hA.keep (dr7 _)
      replace hB := hB.keep (dr7 _)
      replace hD := hD'.keep (dr7 _)
      have hbx' := hbx.fr (dr7 (fun _ => True)) trivial
      have Zc8 := Zc7.keep (dr7 _)
      have Zd8 := Zd7.keep (dr7 _)
      have hxl : w7.heap.size < W7.drew.heap.size := hbx'.lt
      have S7 := Zc8.c0
      replace F7 := F7.drew
      go_wp2_with fail
      go_region_held3 (fun u => u.cell? ⟨w.heap.size, 0, none⟩ = some (.bool (sg x))) (first | exact S7 | exact S8 | exact S9 | exact S10) (first
        | ((with_reducible refine (add_n _ (.slice B7 m7 k7) (.slice B8 m8 k8) _ _ (L + L) (L + L) hA.num hB.num (by omega) (by omega)).mono ?_); rintro e w8 ⟨v1, rfl, h8, hf8⟩; obtain ⟨C1, i1, j1, rfl⟩ := h8.form; have S8 := (Zc8.keep hf8).c0)
        | ((with_reducible refine (made_q _ (sg x) (.slice C1 i1 j1) (.slice B9 m9 k9) w7.heap.size _ _ (5 * L) (x + z) HR (h8.num.wide (by omega)) (hD.keep hf8) (hbx'.fr hf8 hxl) hDpos hL5 hl5).mono ?_); rintro e w9 ⟨v1, v2, rfl, h9, hf9⟩; obtain ⟨⟨C2, i2, j2, rfl⟩, ⟨C3, i3, j3, rfl⟩⟩ := h9.form; have S9 := ((Zc8.keep hf8).keep hf9).c0; have Zd9 := (Zd8.keep hf8).keep hf9; have S10 := (((Zc8.keep hf8).keep hf9).fr (fr_set3 w9 (w.heap.size + 1 + 1) (.bool (sg (x + z))) (.slice C2 i2 j2) (.slice C3 i3 j3)) (by omega)).c0; have d0 := Zd9.c0; have d1 := Zd9.c1; have d2 := Zd9.c2; have f0 := Zd9.free 0; have f1 := Zd9.free 1; have f2 := Zd9.free 2))
      have B10 := Zd9.set3 (.bool (sg (x + z))) (.slice C2 i2 j2) (.slice C3 i3 j3)
      have F10 := fr_set3 w9 (w.heap.size + 1 + 1) (.bool (sg (x + z))) (.slice C2 i2 j2) (.slice C3 i3 j3)
      have s8 := hf8.size
      replace F7 := fr_then (fr_then F7 hf8) hf9
      go_wp2_with fail
      refine bodyPost_ret (results_cell3 rfl rfl B10 Tryz.underlying54 rat3) rfl ?_
      exact ⟨_, _, rfl, h9.out F10 (fun k hk => by omega) (by omega), F7.comp F10 fun k hk h => ⟨h, by omega⟩⟩
    · have hsb : (sg x == sg z) = false := beq_eq_false_iff_ne.2 hsx
      by_cases hle : z.num.natAbs * x.den ≤ x.num.natAbs * z.den
      · have HR := Lib.hid (rv_add_ge hsx hle)
        clear hsx
        have p1 := sub_n _ _ _ _ _ _ _ hA.num hB.num (by omega) hle
        clear hle
        go_wp2_with fail
        refine p1.mono ?_
        rintro e w8 ⟨v1, rfl, h8, hf8⟩
        obtain ⟨C1, i1, j1, rfl⟩ := h8.form
        replace b0 := (Zc7.keep hf8).c0
        have Zd8 := Zd7.keep hf8
        clear p1
        go_wp2_with fail
        refine (made_q _ (sg x) (.slice C1 i1 j1) (.slice B9 m9 k9) w7.heap.size _ _ (5 * L) (x + z) HR (h8.num.wide (by omega)) (hD'.keep hf8) (hbx.fr hf8 hbx.lt) hDpos hL5 hl5).mono ?_
        rintro e w9 ⟨v1, v2, rfl, h9, hf9⟩
        obtain ⟨⟨C2, i2, j2, rfl⟩, ⟨C3, i3, j3, rfl⟩⟩ := h9.form
        have Zd9 := Zd8.keep hf9
        have s8 := hf8.size
        replace F7 := fr_then (fr_then F7 hf8) hf9
        go_wp2_with ((with_reducible apply wpList_st3); rfl; rfl; exact Zd9; exact rat3; rfl; rfl; rfl; intro w10 B10 F10)
        refine bodyPost_ret (results_cell3 rfl rfl B10 Tryz.underlying54 rat3) rfl ?_
        exact ⟨_, _, rfl, h9.out F10 (fun k hk => by omega) (by omega), F7.comp F10 fun k hk h => ⟨h, by omega⟩⟩
      · have HR := Lib.hid (rv_add_lt hsx (by omega))
        clear hsx
        have p1 := sub_no _ _ _ _ _ _ _ hA.num hB.num (by omega) (by omega)
        have hle' : x.num.natAbs * z.den ≤ z.num.natAbs * x.den := by omega
        clear hle
        go_wp2_with fail
        refine p1.mono ?_
        rintro e w8 ⟨rfl, hf8⟩
        have hA8 := hA.keep hf8
        have hB8 := hB.keep hf8
        have p2 := sub_n _ _ _ _ _ _ _ hB8.num hA8.num (by omega) hle'
        clear p1 hle'
        go_wp2_with fail
        refine p2.mono ?_
        rintro e w9 ⟨v1, rfl, h8, hf9⟩
        obtain ⟨C1, i1, j1, rfl⟩ := h8.form
        have b9 := ((Zb7.keep hf8).keep hf9).c0
        have Zd8 := (Zd7.keep hf8).keep hf9
        clear p2
        go_wp2_with fail
        refine (made_q _ (sg z) (.slice C1 i1 j1) (.slice B9 m9 k9) w7.heap.size _ _ (5 * L) (x + z) HR (h8.num.wide (by omega)) ((hD'.keep hf8).keep hf9) ((hbx.fr hf8 hbx.lt).fr hf9 (hbx.fr hf8 hbx.lt).lt) hDpos hL5 hl5).mono ?_
        rintro e w10 ⟨v1, v2, rfl, h9, hf10⟩
        obtain ⟨⟨C2, i2, j2, rfl⟩, ⟨C3, i3, j3, rfl⟩⟩ := h9.form
        have Zd9 := Zd8.keep hf10
        have s8 := hf8.size
        have s9 := hf9.size
        replace F7 := fr_then (fr_then (fr_then F7 hf8) hf9) hf10
        go_wp2_with ((with_reducible apply wpList_st3); rfl; rfl; exact Zd9; exact rat3; rfl; rfl; rfl; intro w11 B11 F11)
        refine bodyPost_ret (results_cell3 rfl rfl B11 Tryz.underlying54 rat3) rfl ?_
        exact ⟨_, _, rfl, h9.out F11 (fun k hk => by omega) (by omega), F7.comp F11 fun k hk h => ⟨h, by omega⟩⟩
end Go.Proofs.YtlppcfeimpcbjaaGreat

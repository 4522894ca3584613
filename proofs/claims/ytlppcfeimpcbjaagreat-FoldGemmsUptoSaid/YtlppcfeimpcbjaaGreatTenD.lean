import Derived.Test.YtlppcfeimpcbjaaGreatTenAC
import Derived.Test.YtlppcfeimpcbjaaGreatBaseK
set_option linter.unusedSimpArgs false
set_option linter.unusedVariables false

/- Tensors in memory; of, all, fits. -/
namespace Go.Proofs.YtlppcfeimpcbjaaGreat
open Go.RowKit Go.Shelf
attribute [local go_sem] Oper.semAt_some

/-- A rational as it lies in memory: its sign, its numerator's limbs, its denominator's. -/
abbrev RatL := Bool × List Nat × List Nat
def Rm : Kd RatL where
  size := 3
  rd S w x cs := ∃ vn vd, cs = [.bool x.1, vn, vd] ∧ Sl Lm S w vn x.2.1 ∧ Sl Lm S w vd x.2.2
  len h := by obtain ⟨_, _, rfl, _⟩ := h; rfl
  one h u hu := by
    obtain ⟨vn, vd, rfl, hn, hd⟩ := h
    obtain ⟨A, n, c, rfl⟩ := hn.form
    obtain ⟨B, m, k, rfl⟩ := hd.form
    simp only [List.mem_cons, List.not_mem_nil, or_false] at hu
    rcases hu with rfl | rfl | rfl <;> rfl
  mono hs h := by obtain ⟨vn, vd, e, hn, hd⟩ := h; exact ⟨vn, vd, e, hn.mono hs, hd.mono hs⟩
  bd h := by obtain ⟨vn, vd, e, hn, hd⟩ := h; exact ⟨vn, vd, e, hn.bd Lm_pos, hd.bd Lm_pos⟩
  fr h hf := by obtain ⟨vn, vd, e, hn, hd⟩ := h; exact ⟨vn, vd, e, hn.fr hf, hd.fr hf⟩
theorem Rm_pos : 0 < Rm.size := by decide
theorem rmT : ElemT Tryz.prog Rm 24 54 56 := ElemT.mk' (.agg #[.bool false, .slice none 0 0, .slice none 0 0]) Tryz.underlying24 Rm_pos (by kernel_rfl) rfl

theorem addr_next (ad : Addr) (n i : Nat) : (⟨(ad.add n).block, (ad.add n).off + (i + 1), none⟩ : Addr) = ad.add (n + (i + 1)) := by
  unfold Addr.add
  by_cases h : n = 0
  · subst h; simp
  · simp [h]; omega
/-- The cells of an element. -/
def Elem (S : Nat → Prop) (W : World) (A : Option Addr) (j : Nat) (v : Value) : Prop :=
  ∃ ad s P n c Q m k, A = some ad ∧ S ad.block ∧ v = .agg #[.bool s, .slice P n c, .slice Q m k] ∧ W.cell? (ad.add (j * 3)) = some (.bool s) ∧ W.cell? ⟨(ad.add (j * 3)).block, (ad.add (j * 3)).off + 1, none⟩ = some (.slice P n c) ∧ W.cell? ⟨(ad.add (j * 3)).block, (ad.add (j * 3)).off + 2, none⟩ = some (.slice Q m k)
theorem Elem.fr {S : Nat → Prop} {W W' : World} {A : Option Addr} {j : Nat} {v : Value} (h : Elem S W A j v) (hf : Fr S W W') : Elem S W' A j v := by
  obtain ⟨ad, s, P, n, c, Q, m, k, e, hS, hv, h0, h1, h2⟩ := h
  exact ⟨ad, s, P, n, c, Q, m, k, e, hS, hv, hf.cell h0 (by rw [addr_block]; exact hS), hf.cell h1 (show S (ad.add (j * 3)).block by rw [addr_block]; exact hS), hf.cell h2 (show S (ad.add (j * 3)).block by rw [addr_block]; exact hS)⟩
theorem Elem.mono {S T : Nat → Prop} {W : World} {A : Option Addr} {j : Nat} {v : Value} (h : Elem S W A j v) (hs : ∀ k, S k → T k) : Elem T W A j v := by
  obtain ⟨ad, s, P, n, c, Q, m, k, e, hS, h⟩ := h
  exact ⟨ad, s, P, n, c, Q, m, k, e, hs _ hS, h⟩
/-- A value that tells a rational. -/
def RatV (S : Nat → Prop) (W : World) (v : Value) (x : RatL) : Prop :=
  ∃ P n c Q m k, v = .agg #[.bool x.1, .slice P n c, .slice Q m k] ∧ Sl Lm S W (.slice P n c) x.2.1 ∧ Sl Lm S W (.slice Q m k) x.2.2
theorem RatV.fr {S : Nat → Prop} {W W' : World} {v : Value} {x : RatL} (h : RatV S W v x) (hf : Fr S W W') : RatV S W' v x := by
  obtain ⟨P, n, c, Q, m, k, e, h1, h2⟩ := h
  exact ⟨P, n, c, Q, m, k, e, h1.fr hf, h2.fr hf⟩
theorem RatV.mono {S T : Nat → Prop} {W : World} {v : Value} {x : RatL} (h : RatV S W v x) (hs : ∀ k, S k → T k) : RatV T W v x := by
  obtain ⟨P, n, c, Q, m, k, e, h1, h2⟩ := h
  exact ⟨P, n, c, Q, m, k, e, h1.mono hs, h2.mono hs⟩
theorem RatV.keep {S : Nat → Prop} {W W' : World} {v : Value} {x : RatL} (h : RatV S W v x) (hf : Fr (fun k => k < W.heap.size) W W') : RatV S W' v x := by
  obtain ⟨P, n, c, Q, m, k, e, h1, h2⟩ := h
  exact ⟨P, n, c, Q, m, k, e, h1.keep' Lm_pos hf, h2.keep' Lm_pos hf⟩
theorem Rm_cell {S : Nat → Prop} {w : World} {es : List RatL} {A : Option Addr} {c : Nat} (h : Sl Rm S w (.slice A es.length c) es) {i : Nat} (hi : i < es.length) : ∃ v, Elem S w A i v ∧ RatV S w v es[i] := by
  obtain ⟨A', c', he, h1, h2, h3, h4⟩ := h
  cases he
  obtain ⟨ad, rfl, hS, hc⟩ := h4 (by omega)
  obtain ⟨cs, ⟨vn, vd, rfl, hn, hd⟩, hu⟩ := hc i es[i] (by simp [hi])
  obtain ⟨P, n, c, rfl⟩ := hn.form
  obtain ⟨Q, m, k, rfl⟩ := hd.form
  exact ⟨_, ⟨ad, _, P, n, c, Q, m, k, rfl, hS, rfl, hu 0 _ rfl, (congrArg w.cell? (addr_next ad (i * 3) 0)).trans (hu 1 _ rfl), (congrArg w.cell? (addr_next ad (i * 3) 1)).trans (hu 2 _ rfl)⟩, ⟨P, n, c, Q, m, k, rfl, hn, hd⟩⟩
theorem Rm_fun {S : Nat → Prop} {w : World} {es : List RatL} {A : Option Addr} {c : Nat} (h : Sl Rm S w (.slice A es.length c) es) : ∃ E : Nat → Value, ∀ (i : Nat) (hi : i < es.length), Elem S w A i (E i) ∧ RatV S w (E i) es[i] := by
  have : ∀ i, ∃ v, ∀ hi : i < es.length, Elem S w A i v ∧ RatV S w v es[i] := fun i => by
    by_cases hi : i < es.length
    · obtain ⟨v, hv⟩ := Rm_cell h hi
      exact ⟨v, fun _ => hv⟩
    · exact ⟨undef, fun h => absurd h hi⟩
  obtain ⟨E, hE⟩ := Classical.axiomOfChoice this
  exact ⟨E, hE⟩

/-- Two cells in memory. -/
def Box2 (w : World) (b : Nat) (t : TypeId) (x y : Value) : Prop := w.heap[b]? = some (.cells #[x, y] t (0, 0))
section
variable {w w' : World} {b : Nat} {t : TypeId} {x y : Value}
theorem Box2.c0 (h : Box2 w b t x y) : w.cell? ⟨b, 0, none⟩ = some x := (cell_of_row w b 0 _ _ _ h).trans rfl
theorem Box2.c1 (h : Box2 w b t x y) : w.cell? ⟨b, 1, none⟩ = some y := (cell_of_row w b 1 _ _ _ h).trans rfl
theorem Box2.free (h : Box2 w b t x y) (j : Nat) : w.frozen? ⟨b, j, none⟩ = false := frozen_of_row w b j _ _ h
theorem Box2.lt (h : Box2 w b t x y) : b < w.heap.size := lt_of_block h
theorem Box2.fr {S : Nat → Prop} (h : Box2 w b t x y) (hf : Fr S w w') (hs : S b) : Box2 w' b t x y := hf.obj h hs
theorem Box2.keep (h : Box2 w b t x y) (hf : Fr (fun k => k < w.heap.size) w w') : Box2 w' b t x y := hf.obj h h.lt
theorem Box2.new (w : World) (t : TypeId) (x y : Value) : Box2 (w.alloc (.cells #[x, y] t)) w.heap.size t x y := heap_alloc_new w _
theorem Box2.alloc (h : Box2 w b t x y) (o : Obj) : Box2 (w.alloc o) b t x y := (Below.heap_alloc w o b h.lt).trans h
theorem Box2.set (h : Box2 w b t x y) (j : Nat) (u : Value) : (w.setCell ⟨b, j, none⟩ u).heap[b]? = some (.cells (#[x, y].setIfInBounds j u) t (0, 0)) := by
  have h' : w.heap[b]? = some (.cells #[x, y] t (0, 0)) := h
  simp [World.setCell, Array.getElem?_modify, h']
theorem Box2.set2 (h : Box2 w b t x y) (x' y' : Value) : Box2 ((w.setCell ⟨b, 0, none⟩ x').setCell ⟨b, 1, none⟩ y') b t x' y' := by
  have h0 : Box2 (w.setCell ⟨b, 0, none⟩ x') b t x' y := h.set 0 x'
  exact h0.set 1 y'
end

/-- A store of two cells into a block of two. -/
theorem wpList_st2 {P : Program} {ops : Array Oper} {rest : List Oper} {d : Option Tmp} {ty tt : TypeId} {x y : Operand} {pos : String} {af : Array Edge} {a : Act} {w : World} {Q : Exit → Act → World → Prop}
    {b : Nat} {t : TypeId} {x0 y0 x1 y1 : Value} (hx : a.eval x = .pointer (some ⟨b, 0, none⟩)) (hy : a.eval y = .agg #[x1, y1]) (hb : Box2 w b t x0 y0)
    (hi : (P.info? ty).map (·.size) = some 2) (h1 : x1.oneCell' = true) (h2 : y1.oneCell' = true)
    (next : ∀ w', Box2 w' b t x1 y1 → Fr (fun k => k ≠ b) w w' → wpList P ops Q rest (a.put d undef) w') :
    wpList P ops Q ({ dst := d, op := .store ty x y, type := tt, pos := pos, after := af, guard := none } :: rest) a w := by
  refine wpList_store_row rfl ty x y rfl b #[x1, y1] hx hy t #[x0, y0] hb hi rfl (by simp [h1, h2]) (next _ ?_ ?_)
  · exact setRow_heap w b _ _ t _ hb
  · exact ⟨rfl, rfl, rfl, by simp [World.setRow], fun k _ hk => by simp [World.setRow, Array.getElem?_modify, show ¬ b = k from fun e => hk e.symm]⟩
theorem load2 {P : Program} {w : World} {b : Nat} {t ty : TypeId} {x y : Value} {fs : _} (hb : Box2 w b t x y) (hu : P.underlying ty = some (.struct fs)) (hi : (P.info? ty).map (·.size) = some 2) :
    (loadVar ty ⟨b, 0, none⟩).run P w = .ok (.agg #[x, y]) w := run_loadVar_row w b t ty #[x, y] (0, 0) _ hb hu rfl hi
/-- The results of a function whose one result lives in a block of two cells. -/
theorem results_cell2 {fn : Func} {c : Tmp} {ty : TypeId} (h : fn.results = #[.cell c ty]) {tmps : Array Value} {P : Program} {w : World} {b : Nat} {t : TypeId} {x y : Value} {fs : _}
    (hc : tmps.getD c undef = .pointer (some ⟨b, 0, none⟩)) (hb : Box2 w b t x y) (hu : P.underlying ty = some (.struct fs)) (hi : (P.info? ty).map (·.size) = some 2) :
    (results fn tmps).run P w = .ok (.agg #[x, y]) w := by
  have hl := load2 hb hu hi
  rw [Array.getD_eq_getD_getElem?] at hc
  simp [results, h, hc, asAddr, hl]
theorem results_cell2_tmp {fn : Func} {c u : Tmp} {ty : TypeId} (h : fn.results = #[.cell c ty, .tmp u]) {tmps : Array Value} {P : Program} {w : World} {b : Nat} {t : TypeId} {x y : Value} {fs : _}
    (hc : tmps.getD c undef = .pointer (some ⟨b, 0, none⟩)) (hb : Box2 w b t x y) (hu : P.underlying ty = some (.struct fs)) (hi : (P.info? ty).map (·.size) = some 2) :
    (results fn tmps).run P w = .ok (.tuple #[.agg #[x, y], tmps.getD u undef]) w := by
  have hl := load2 hb hu hi
  rw [Array.getD_eq_getD_getElem?] at hc
  simp [results, h, hc, asAddr, hl]
theorem ten2 : (Tryz.prog.info? 26).map (·.size) = some 2 := by kernel_rfl
theorem grid2 : (Tryz.prog.info? 105).map (·.size) = some 2 := by kernel_rfl

/-- Why a tensor may not be, its elements aside. -/
def fitsT (sh : List Int) (n : Nat) : Int := if mayS sh ≠ 0 then mayS sh else if (n : Int) ≠ cntS sh then 13 else 0
theorem fitsT_no {sh : List Int} {n : Nat} (h : mayS sh ≠ 0) : fitsT sh n = mayS sh := if_pos h
theorem fitsT_13 {sh : List Int} {n : Nat} (h : mayS sh = 0) (h1 : (n : Int) ≠ cntS sh) : fitsT sh n = 13 := by
  unfold fitsT
  rw [if_neg (by simpa using h), if_pos h1]
theorem fitsT_0 {sh : List Int} {n : Nat} (h : mayS sh = 0) (h1 : (n : Int) = cntS sh) : fitsT sh n = 0 := by
  unfold fitsT
  rw [if_neg (by simpa using h), if_neg (by simpa using h1)]

set_option maxHeartbeats 1000000 in
theorem of_t (w : World) (A B : Option Addr) (n c m k : Nat) :
    Calls Tryz.prog 68 #[.agg #[.slice A n c, .slice B m k]] w fun e w' => e = .returned (.agg #[.slice A n c, .slice B m k]) ∧ Fr (fun k => k < w.heap.size) w w' := by
  have hf := ((Fr.refl (fun k => k < w.heap.size) w).alloc (.cells #[.slice A n c, .slice B m k] 26)).alloc (.cells #[.slice A n c, .slice B m k] 105)
  go_enter Tryz.func68, Tryz.ntmps68
  go_wp2_with fail
  refine bodyPost_ret (results_cell2 rfl rfl (b := w.heap.size + 1) (x := .slice A n c) (y := .slice B m k) (t := 105) ?_ Tryz.underlying105 grid2) rfl ?_
  · have := Box2.new (w.alloc (.cells #[.slice A n c, .slice B m k] 26)) 105 (.slice A n c) (.slice B m k)
    rwa [World.size_alloc] at this
  exact ⟨rfl, hf⟩
set_option maxHeartbeats 1000000 in
theorem all_t (w : World) (A B : Option Addr) (n c m k : Nat) :
    Calls Tryz.prog 69 #[.agg #[.slice A n c, .slice B m k]] w fun e w' => e = .returned (.func (.func 108) #[] #[.pointer (some ⟨w.heap.size, 0, none⟩)]) ∧
      Box2 w' w.heap.size 105 (.slice A n c) (.slice B m k) ∧ Fr (fun k => k < w.heap.size) w w' := by
  have hf := (Fr.refl (fun k => k < w.heap.size) w).alloc (.cells #[.slice A n c, .slice B m k] 105)
  go_enter Tryz.func69, Tryz.ntmps69
  go_wp2_with fail
  go_ret
  exact ⟨rfl, Box2.new _ _ _ _, hf⟩

set_option maxHeartbeats 2000000 in
theorem fits_t {S : Nat → Prop} (w : World) (vs : Value) (B : Option Addr) (m k : Nat) (sh : List Int) (h : Sl Im S w vs sh) (hm : m ≤ 9223372036854775807) :
    Calls Tryz.prog 67 #[.agg #[vs, .slice B m k]] w fun e w' => e = .returned (.int .i64 (fitsT sh m)) ∧ Fr (fun k => k < w.heap.size) w w' := by
  obtain ⟨A, c, rfl, _, _, hlx⟩ := h.slice
  obtain ⟨r, hr⟩ : ∃ r, r = fitsT sh m := ⟨_, rfl⟩
  rw [← hr]
  have F := (Fr.refl (fun k => k < w.heap.size) w).alloc (.cells #[.slice A sh.length c, .slice B m k] 26)
  have hb := Box2.new w 26 (.slice A sh.length c) (.slice B m k)
  have h0 := h.keep' Im_pos F
  generalize hW : w.alloc (.cells #[.slice A sh.length c, .slice B m k] 26) = W at F hb h0
  have p := shmay_calls W _ sh h0
  have hd := Fr.refl (fun k => k < W.heap.size) W
  have p2 := shcount_calls W.drew _ sh (h0.keep' Im_pos hd.drew)
  obtain ⟨e, he⟩ : ∃ e, e = mayS sh := ⟨_, rfl⟩
  obtain ⟨z, hz⟩ : ∃ z, z = cntS sh := ⟨_, rfl⟩
  rw [← he] at p
  rw [← hz] at p2
  have HR := Lib.hid hr
  have HE := Lib.hid he
  have HZ := Lib.hid hz
  have c0 := hb.c0
  have c1 := hb.c1
  have FD := F.drew
  clear h h0 hr he hz hd
  go_enter Tryz.func67, Tryz.ntmps67
  by_cases h0 : e = 0
  · subst h0
    by_cases h1 : (m : Int) = z
    · have HN : r = 0 := HR.out.trans (fitsT_0 HE.out.symm (h1.trans HZ.out))
      have hli : ((m : Int) == z) = true := by rw [beq_iff_eq]; exact h1
      clear h1
      go_wp2_with fail
      refine p.mono ?_
      rintro e w1 ⟨rfl, rfl⟩
      go_wp2_with fail
      go_region_with (first | (with_reducible refine p2.mono ?_; rintro e w1 ⟨rfl, rfl⟩))
      all_goals
        go_wp2_with fail
        go_ret
        exact ⟨by first | rfl | exact congrArg (fun z : Int => Ending.returned (.int .i64 z)) HN.symm, FD⟩
    · have HN : r = 13 := HR.out.trans (fitsT_13 HE.out.symm (fun h => h1 (h.trans HZ.out.symm)))
      have hli : ((m : Int) == z) = false := by rw [beq_eq_false_iff_ne]; exact h1
      clear h1
      go_wp2_with fail
      refine p.mono ?_
      rintro e w1 ⟨rfl, rfl⟩
      go_wp2_with fail
      go_region_with (first | (with_reducible refine p2.mono ?_; rintro e w1 ⟨rfl, rfl⟩))
      all_goals
        go_wp2_with fail
        go_ret
        exact ⟨by first | rfl | exact congrArg (fun z : Int => Ending.returned (.int .i64 z)) HN.symm, FD⟩
  · have HN : r = e := HR.out.trans ((fitsT_no (by rw [← HE.out]; exact h0)).trans HE.out.symm)
    go_wp2_with fail
    refine p.mono ?_
    rintro e w1 ⟨rfl, rfl⟩
    go_wp2_with fail
    go_ret
    exact ⟨by first | rfl | exact congrArg (fun z : Int => Ending.returned (.int .i64 z)) HN.symm, F⟩
end Go.Proofs.YtlppcfeimpcbjaaGreat

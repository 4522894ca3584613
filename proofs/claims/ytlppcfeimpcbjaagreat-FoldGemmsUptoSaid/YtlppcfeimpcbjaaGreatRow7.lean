import Derived.Test.YtlppcfeimpcbjaaGreatBaseL
import Derived.Test.YtlppcfeimpcbjaaGreatTenQT
import Derived.Deep.SlicePairs
set_option linter.unusedSimpArgs false
set_option linter.unusedVariables false

/- Opening the arguments of a law: tensors. -/
namespace Go.Proofs.YtlppcfeimpcbjaaGreat
open Go.ChangeShapes Go.WideShapes Go.ChangeAt Go.RowKit Go.Joins Go.Deep

theorem bulk_mem {H : Type} {l : List (DataW H)} {d : DataW H} (h : d ∈ l) : Rows.uptoBulk d ≤ Rows.uptoBulkAll l := by
  induction l with
  | nil => cases h
  | cons x r ih =>
    simp only [Rows.uptoBulkAll]
    rcases List.mem_cons.1 h with rfl | h
    · omega
    · have := ih h; omega
theorem bulk_sum {H : Type} (D : Nat → DataW H) (R : Nat → RatL) (l : List Nat) (h : ∀ i ∈ l, (R i).2.1.length + (R i).2.2.length ≤ Rows.uptoBulk (D i)) : limbsN (l.map R) + limbsD (l.map R) ≤ Rows.uptoBulkAll (l.map D) := by
  induction l with
  | nil => simp [limbsN, limbsD, Rows.uptoBulkAll]
  | cons x r ih =>
    have h1 := h x List.mem_cons_self
    have h2 := ih fun i hi => h i (List.mem_cons_of_mem _ hi)
    simp only [limbsN, limbsD, List.map_cons, List.sum_cons, Rows.uptoBulkAll] at h2 ⊢
    omega
theorem cells_ten : Tryz.prog.cellsOf 26 = 2 := by kernel_rfl

theorem open_shape {H : Type} {enc : TypeId × Value → H} {W : World} {v : Value} {d : DataW H} {p : List MemPlace} {n : Nat}
    (h : DataW.trod enc Tryz.prog W 0 (fun _ => true) true n 23 [v] = some (d, p)) :
    ∃ xs, Sl Im (fun k => k < W.heap.size) W v xs ∧ xs.length + 1 ≤ Rows.uptoBulk d := by
  rcases open_ints Tryz.underlying23 Tryz.underlying3 (by kernel_rfl) h with ⟨hcs, _⟩ | ⟨x, l, c, zs, hcs, _, hl, hm, hz, hd, hcell, hwz⟩
  · simp only [List.cons.injEq, and_true] at hcs
    subst hcs
    exact ⟨[], Sl.nil _ _ _, by have := bulk_pos d; simpa using this⟩
  · simp only [List.cons.injEq, and_true] at hcs
    subst hcs
    simp only [if_true] at hz
    simp only [Prod.mk.injEq] at hd
    obtain ⟨rfl, rfl⟩ := hd
    have hlen : (zs.take l).length = l := by rw [List.length_take]; omega
    refine ⟨zs.take l, ⟨some x, c, by rw [hlen], by omega, hm, fun h => by simp at h, fun hp => ⟨x, rfl, ?_, fun i y hy => ?_⟩⟩, ?_⟩
    · have h0 := hcell 0 (by omega)
      have := World.block_lt_of_cell? W _ h0
      rwa [addr_block] at this
    · have hi : i < l := by have := (List.getElem?_eq_some_iff.1 hy).1; omega
      have hzi : i < zs.length := by omega
      rw [List.getElem?_take, if_pos hi, List.getElem?_eq_getElem hzi] at hy
      simp at hy
      have hw := hwz zs[i] (List.getElem_mem hzi)
      have hr : -9223372036854775808 ≤ zs[i] ∧ zs[i] < 9223372036854775808 := by
        simp [Lit.wf, IntKind.min, IntKind.max, IntKind.signed, IntKind.bits] at hw
        omega
      have hc := hcell i hzi
      rw [List.getD_eq_getElem?_getD, List.getElem?_eq_getElem hzi] at hc
      subst hy
      refine ⟨[.int .i64 zs[i]], ⟨rfl, hr⟩, fun j u hj => ?_⟩
      have hj0 : j = 0 := by
        have := (List.getElem?_eq_some_iff.1 hj).1
        simp at this; exact this
      subst hj0
      simp at hj
      subst hj
      simpa [Kd.int] using hc
    · rw [hlen]
      have h1 := bulk_len (H := H) (lits .i64 (zs.take l))
      have h2 : (lits (H := H) .i64 (zs.take l)).length = l := by simp [lits]; omega
      simp only [Rows.uptoBulk]
      omega

set_option maxRecDepth 20000 in
theorem open_rat_cells {H : Type} {enc : TypeId × Value → H} {W : World} {cs : List Value} {y : DataW H × List MemPlace} {n : Nat} (hl : cs.length = 3)
    (h : DataW.trod enc Tryz.prog W 0 (fun _ => true) true n 54 cs = some y) :
    ∃ x : RatL, Rm.rd (fun k => k < W.heap.size) W x cs ∧ x.2.1.length + x.2.2.length + 2 ≤ Rows.uptoBulk y.1 := by
  obtain ⟨y0, y1, y2, m, hx, _, h0, h1, h2⟩ := trod_struct3 Tryz.underlying54 h
  match cs, hl with
  | [c0, c1, c2], _ =>
    have g0 : DataW.trod enc Tryz.prog W 0 (fun _ => true) true m 4 [c0] = some y0 := h0
    have g1 : DataW.trod enc Tryz.prog W 0 (fun _ => true) true m 52 [c1] = some y1 := h1
    have g2 : DataW.trod enc Tryz.prog W 0 (fun _ => true) true m 52 [c2] = some y2 := h2
    obtain ⟨s, e0, _⟩ := DataW.trod_bool Tryz.underlying4 g0
    obtain ⟨a1, l1, k1, e1⟩ := slice_form Tryz.underlying52 g1
    obtain ⟨a2, l2, k2, e2⟩ := slice_form Tryz.underlying52 g2
    simp only [List.cons.injEq, and_true] at e0 e1 e2
    subst e0 e1 e2
    obtain ⟨xs, hx1, lx⟩ := open_nat ⟨a1, l1, k1, rfl⟩ ⟨m, by simpa [Value.cells] using g1⟩
    obtain ⟨ys, hy1, ly⟩ := open_nat ⟨a2, l2, k2, rfl⟩ ⟨m, by simpa [Value.cells] using g2⟩
    refine ⟨(s, xs, ys), ⟨_, _, rfl, hx1, hy1⟩, ?_⟩
    have h3 := bulk_pos y0.1
    rw [hx]
    simp only [Rows.uptoBulk, Rows.uptoBulkAll]
    omega

theorem open_rats {H : Type} {enc : TypeId × Value → H} {W : World} {v : Value} {d : DataW H} {p : List MemPlace} {n : Nat}
    (h : DataW.trod enc Tryz.prog W 0 (fun _ => true) true n 24 [v] = some (d, p)) :
    ∃ es, Sl Rm (fun k => k < W.heap.size) W v es ∧ es.length + 1 ≤ Rows.uptoBulk d ∧ (∀ x ∈ es, x.2.1.length + x.2.2.length + 2 ≤ Rows.uptoBulk d) ∧ limbsN es + limbsD es ≤ Rows.uptoBulk d := by
  rcases open_slice Tryz.underlying24 h with ⟨hcs, _⟩ | ⟨a, len, cap, m, n', D, Pl, hcs, _, hl, hm, hmm, hx, hel⟩
  · simp only [List.cons.injEq, and_true] at hcs
    subst hcs
    exact ⟨[], Sl.nil _ _ _, by have := bulk_pos d; simpa using this, by simp, by simp [limbsN, limbsD]⟩
  · simp only [List.cons.injEq, and_true] at hcs
    subst hcs
    simp only [if_true] at hmm
    simp only [Prod.mk.injEq] at hx
    obtain ⟨rfl, _⟩ := hx
    rw [cells_rat] at hel
    have each : ∀ i, ∃ x : RatL, i < len → ∃ cs, Rm.rd (fun k => k < W.heap.size) W x cs ∧ (∀ (j : Nat) (u : Value), cs[j]? = some u → W.cell? (a.add (i * 3 + j)) = some u) ∧ x.2.1.length + x.2.2.length + 2 ≤ Rows.uptoBulk (D i) := fun i => by
      by_cases hi : i < len
      · obtain ⟨cs', h1, h2⟩ := hel i (by omega)
        obtain ⟨_, hlen, hcell⟩ := World.cells?_some h1
        obtain ⟨x, hr, hb⟩ := open_rat_cells hlen h2
        refine ⟨x, fun _ => ⟨cs', hr, fun j u hj => ?_, hb⟩⟩
        have hj3 : j < 3 := by have := (List.getElem?_eq_some_iff.1 hj).1; omega
        have := hcell j hj3
        rw [addr_add_add] at this
        rw [this]
        rw [List.getElem?_eq_getElem (by omega)] at hj
        first | exact hj | simpa [List.getD_eq_getElem?_getD, List.getElem?_eq_getElem (show j < cs'.length by omega)] using hj
      · exact ⟨zR, fun h => absurd h hi⟩
    obtain ⟨R, hR⟩ := Classical.axiomOfChoice each
    have hlen : ((List.range len).map R).length = len := by simp
    have hD := bulk_len ((List.range len).map D)
    rw [List.length_map, List.length_range] at hD
    refine ⟨(List.range len).map R, ⟨some a, cap, by rw [hlen], by omega, hm, fun h => by simp at h, fun hp => ⟨a, rfl, ?_, fun i x hx => ?_⟩⟩, ?_, fun x hx => ?_, ?_⟩
    · rw [hlen] at hp
      obtain ⟨cs, hr, hc, _⟩ := hR 0 hp
      obtain ⟨u, hu⟩ := Kd.cells_size hr Rm_pos
      have := World.block_lt_of_cell? W _ (hc 0 u hu)
      rwa [addr_block] at this
    · have hi : i < len := by have := (List.getElem?_eq_some_iff.1 hx).1; rwa [hlen] at this
      rw [List.getElem?_map, List.getElem?_range hi] at hx
      simp at hx
      subst hx
      obtain ⟨cs, hr, hc, _⟩ := hR i hi
      exact ⟨cs, hr, hc⟩
    · rw [hlen]
      simp only [Rows.uptoBulk]
      omega
    · obtain ⟨i, hi, rfl⟩ := List.mem_map.1 hx
      have hi' := List.mem_range.1 hi
      obtain ⟨cs, _, _, hb⟩ := hR i hi'
      have := bulk_mem (List.mem_map_of_mem (f := D) hi)
      simp only [Rows.uptoBulk]
      omega
    · have := bulk_sum D R (List.range len) fun i hi => by
        obtain ⟨_, _, _, hb⟩ := hR i (List.mem_range.1 hi)
        omega
      simp only [Rows.uptoBulk]
      omega

set_option maxRecDepth 20000 in
theorem open_tensor {H : Type} {enc : TypeId × Value → H} {W : World} {r : Reach} {b0 : Nat} {v : Value} {d : DataW H} {p : List MemPlace} (hv : Value.okWide Tryz.prog W r b0 26 v)
    (h : DataW.Trod enc Tryz.prog W 0 (fun _ => true) true 26 v d p) : ∃ sh es, TL (fun k => k < W.heap.size) W v sh es (Rows.uptoBulk d) := by
  obtain ⟨c0, c1, y0, y1, n, rfl, rfl, rfl, h0, h1⟩ := open_agg2 Tryz.underlying26 (by kernel_rfl) cells_ten hv h
  obtain ⟨sh, hs, l0⟩ := open_shape (d := y0.1) (p := y0.2) h0
  obtain ⟨es, he, l1, l2, l3⟩ := open_rats (d := y1.1) (p := y1.2) h1
  refine ⟨sh, es, ⟨⟨_, _, rfl, hs, he⟩, ?_, ?_, fun x hx => ?_, ?_⟩⟩
  · simp only [Rows.uptoBulk, Rows.uptoBulkAll]; omega
  · simp only [Rows.uptoBulk, Rows.uptoBulkAll]; omega
  · have := l2 x hx
    simp only [Rows.uptoBulk, Rows.uptoBulkAll]
    omega
  · simp only [Rows.uptoBulk, Rows.uptoBulkAll]; omega
end Go.Proofs.YtlppcfeimpcbjaaGreat

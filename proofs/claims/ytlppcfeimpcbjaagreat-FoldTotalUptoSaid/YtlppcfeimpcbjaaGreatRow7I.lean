import Derived.Test.YtlppcfeimpcbjaaGreatRow7
set_option linter.unusedSimpArgs false
set_option linter.unusedVariables false

/- Opening the arguments of a law: lists of numbers. -/
namespace Go.Proofs.YtlppcfeimpcbjaaGreat
open Go.ChangeShapes Go.WideShapes Go.ChangeAt Go.RowKit Go.Joins Go.Deep

theorem open_list_n {H : Type} {enc : TypeId × Value → H} {W : World} {v : Value} {d : DataW H} {p : List MemPlace} {n : Nat}
    (h : DataW.trod enc Tryz.prog W 0 (fun _ => true) true n 22 [v] = some (d, p)) :
    ∃ xs, Sl Im (fun k => k < W.heap.size) W v xs ∧ xs.length + 1 ≤ Rows.uptoBulk d := by
  rcases open_ints Tryz.underlying22 Tryz.underlying3 (by kernel_rfl) h with ⟨hcs, _⟩ | ⟨x, l, c, zs, hcs, _, hl, hm, hz, hd, hcell, hwz⟩
  · simp only [List.cons.injEq, and_true] at hcs
    subst hcs
    exact ⟨[], Sl.nil _ _ _, by have := bulk_pos d; simpa using this⟩
  · simp only [List.cons.injEq, and_true] at hcs
    subst hcs
    simp only [if_true] at hz
    simp only [Prod.mk.injEq] at hd
    obtain ⟨rfl, rfl⟩ := hd
    have hlen : (zs.take l).length = l := by rw [List.length_take]; omega
    refine ⟨zs.take l, ⟨some x, c, by rw [hlen], by omega, hm, fun h => by simp at h, fun hp => ⟨x, rfl, ?_, fun i y hy => ?_⟩⟩, ?_⟩
    · have h0 := hcell 0 (by omega)
      have := World.block_lt_of_cell? W _ h0
      rwa [addr_block] at this
    · have hi : i < l := by have := (List.getElem?_eq_some_iff.1 hy).1; omega
      have hzi : i < zs.length := by omega
      rw [List.getElem?_take, if_pos hi, List.getElem?_eq_getElem hzi] at hy
      simp at hy
      have hw := hwz zs[i] (List.getElem_mem hzi)
      have hr : -9223372036854775808 ≤ zs[i] ∧ zs[i] < 9223372036854775808 := by
        simp [Lit.wf, IntKind.min, IntKind.max, IntKind.signed, IntKind.bits] at hw
        omega
      have hc := hcell i hzi
      rw [List.getD_eq_getElem?_getD, List.getElem?_eq_getElem hzi] at hc
      subst hy
      refine ⟨[.int .i64 zs[i]], ⟨rfl, hr⟩, fun j u hj => ?_⟩
      have hj0 : j = 0 := by
        have := (List.getElem?_eq_some_iff.1 hj).1
        simp at this; exact this
      subst hj0
      simp at hj
      subst hj
      simpa [Kd.int] using hc
    · rw [hlen]
      have h1 := bulk_len (H := H) (lits .i64 (zs.take l))
      have h2 : (lits (H := H) .i64 (zs.take l)).length = l := by simp [lits]; omega
      simp only [Rows.uptoBulk]
      omega
theorem open_list {H : Type} {enc : TypeId × Value → H} {W : World} {v : Value} {d : DataW H} {p : List MemPlace} (hv : ∃ a len cap, v = .slice a len cap)
    (h : DataW.Trod enc Tryz.prog W 0 (fun _ => true) true 22 v d p) : ∃ xs, Sl Im (fun k => k < W.heap.size) W v xs ∧ xs.length + 1 ≤ Rows.uptoBulk d := by
  obtain ⟨a, len, cap, rfl⟩ := hv
  obtain ⟨fuel, hf⟩ := h
  exact open_list_n (n := fuel) (by simpa [Value.cells] using hf)
theorem open_dims {H : Type} {enc : TypeId × Value → H} {W : World} {v : Value} {d : DataW H} {p : List MemPlace} (hv : ∃ a len cap, v = .slice a len cap)
    (h : DataW.Trod enc Tryz.prog W 0 (fun _ => true) true 23 v d p) : ∃ xs, Sl Im (fun k => k < W.heap.size) W v xs ∧ xs.length + 1 ≤ Rows.uptoBulk d := by
  obtain ⟨a, len, cap, rfl⟩ := hv
  obtain ⟨fuel, hf⟩ := h
  exact open_shape (n := fuel) (by simpa [Value.cells] using hf)
end Go.Proofs.YtlppcfeimpcbjaaGreat

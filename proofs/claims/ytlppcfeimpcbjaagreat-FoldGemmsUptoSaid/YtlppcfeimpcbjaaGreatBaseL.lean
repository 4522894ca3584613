/- The base, part L: what the elder chapters' texts prove, of the functions that this seat has. -/
import Derived.Test.YtlppcfeimpcbjaaGreatBaseC
import Derived.Test.YtlppcfeimpcbjaaGreatRows
import Derived.WalkKit
import Derived.ProofKit
import Derived.OpenShut
import Derived.ChangeOld
import Derived.Below
import Derived.JoinedCond
import Derived.Test.YtlppcfeimpcbjaaGreatBaseJ
import Derived.Lib.SmallJoins
set_option linter.unusedSimpArgs false
set_option linter.unusedVariables false

/- Opening the arguments of a law: limbs. -/
namespace Go.Proofs.YtlppcfeimpcbjaaGreat
open Go.ChangeShapes Go.WideShapes Go.ChangeAt Go.RowKit

theorem bulk_pos {H : Type} (d : DataW H) : 1 ≤ Rows.uptoBulk d := by
  cases d with
  | lit l => cases l <;> simp [Rows.uptoBulk]
  | _ => simp [Rows.uptoBulk]
theorem bulk_len {H : Type} (l : List (DataW H)) : l.length ≤ Rows.uptoBulkAll l := by
  induction l with
  | nil => simp [Rows.uptoBulkAll]
  | cons x r ih => have := bulk_pos x; simp only [Rows.uptoBulkAll, List.length_cons]; omega
theorem bulk_small {H : Type} {l : List (DataW H)} (hk : Rows.uptoSmall H l = true) : Rows.uptoBulkAll l ≤ 1048576 := of_decide_eq_true hk

theorem own_knob : ownKnob Tryz.prog.godebug = none := by kernel_rfl
theorem laid_out : laidOutB Tryz.prog = true := by kernel_rfl

theorem open_nat {H : Type} {enc : TypeId × Value → H} {W : World} {v : Value} {d : DataW H} {p : List MemPlace} (hv : ∃ a len cap, v = .slice a len cap)
    (h : DataW.Trod enc Tryz.prog W 0 (fun _ => true) true 52 v d p) :
    ∃ xs, Sl Lm (fun k => k < W.heap.size) W v xs ∧ xs.length + 1 ≤ Rows.uptoBulk d := by
  obtain ⟨a, len, cap, rfl⟩ := hv
  obtain ⟨fuel, hf⟩ := h
  have hlt := DataW.trod_lt fuel _ _ _ hf
  rcases open_ints Tryz.underlying52 Tryz.underlying150 (by kernel_rfl) hf with ⟨hcs, _⟩ | ⟨x, l, c, zs, hcs, _, hl, hm, hz, hd, hcell, hwz⟩
  · simp [Value.cells] at hcs
    obtain ⟨rfl, rfl, rfl⟩ := hcs
    exact ⟨[], Sl.nil _ _ _, by have := bulk_pos d; simpa using this⟩
  · simp [Value.cells] at hcs
    obtain ⟨rfl, rfl, rfl⟩ := hcs
    simp only [if_true] at hz
    simp only [Prod.mk.injEq] at hd
    obtain ⟨rfl, rfl⟩ := hd
    have hlen : ((zs.take len).map Int.toNat).length = len := by simp; omega
    refine ⟨(zs.take len).map Int.toNat, ⟨some x, cap, by rw [hlen], by omega, hm, fun h => by simp at h, fun hp => ⟨x, rfl, ?_, fun i y hy => ?_⟩⟩, ?_⟩
    · have h0 := hcell 0 (by omega)
      have := World.block_lt_of_cell? W _ h0
      rwa [addr_block] at this
    · have hi : i < len := by have := (List.getElem?_eq_some_iff.1 hy).1; omega
      have hzi : i < zs.length := by omega
      rw [List.getElem?_map, List.getElem?_take, if_pos hi, List.getElem?_eq_getElem hzi] at hy
      simp at hy
      have hw := hwz zs[i] (List.getElem_mem hzi)
      have hr : 0 ≤ zs[i] ∧ zs[i] < 4294967296 := by
        simp [Lit.wf, IntKind.min, IntKind.max, IntKind.signed, IntKind.bits] at hw
        omega
      have hc := hcell i hzi
      rw [List.getD_eq_getElem?_getD, List.getElem?_eq_getElem hzi] at hc
      refine ⟨[.int .u32 (y : Int)], ⟨rfl, by unfold LB; omega⟩, fun j u hj => ?_⟩
      have hj0 : j = 0 := by
        have := (List.getElem?_eq_some_iff.1 hj).1
        simp at this; exact this
      subst hj0
      simp at hj
      subst hj
      have e : ((y : Nat) : Int) = zs[i] := by omega
      rw [e]
      simpa [Lm, Kd.nat] using hc
    · rw [hlen]
      have h1 := bulk_len (H := H) (lits .u32 (zs.take len))
      have h2 : (lits (H := H) .u32 (zs.take len)).length = len := by simp [lits]; omega
      simp only [Rows.uptoBulk]
      omega
end Go.Proofs.YtlppcfeimpcbjaaGreat


/- Opening the arguments of a law: rationals. -/
namespace Go.Proofs.YtlppcfeimpcbjaaGreat
open Go.ChangeShapes Go.WideShapes Go.ChangeAt Go.RowKit Go.Joins

theorem cells_rat : Tryz.prog.cellsOf 54 = 3 := by kernel_rfl
set_option maxRecDepth 20000 in
theorem open_rat {H : Type} {enc : TypeId × Value → H} {W : World} {r : Reach} {b0 : Nat} {v : Value} {d : DataW H} {p : List MemPlace} (hv : Value.okWide Tryz.prog W r b0 54 v)
    (h : DataW.Trod enc Tryz.prog W 0 (fun _ => true) true 54 v d p) :
    ∃ s vn vd xs ys, v = .agg #[.bool s, vn, vd] ∧ Sl Lm (fun k => k < W.heap.size) W vn xs ∧ Sl Lm (fun k => k < W.heap.size) W vd ys ∧ xs.length + ys.length + 2 ≤ Rows.uptoBulk d := by
  obtain ⟨c0, c1, c2, y0, y1, y2, n, rfl, rfl, rfl, h0, h1, h2⟩ := open_agg3 Tryz.underlying54 (by kernel_rfl) cells_rat hv h
  obtain ⟨s, e0, _⟩ := DataW.trod_bool Tryz.underlying4 h0
  obtain ⟨a1, l1, k1, e1⟩ := slice_form Tryz.underlying52 h1
  obtain ⟨a2, l2, k2, e2⟩ := slice_form Tryz.underlying52 h2
  simp only [List.cons.injEq, and_true] at e0 e1 e2
  subst e0 e1 e2
  obtain ⟨xs, hx, lx⟩ := open_nat ⟨a1, l1, k1, rfl⟩ ⟨n, by simpa [Value.cells] using h1⟩
  obtain ⟨ys, hy, ly⟩ := open_nat ⟨a2, l2, k2, rfl⟩ ⟨n, by simpa [Value.cells] using h2⟩
  refine ⟨s, _, _, xs, ys, rfl, hx, hy, ?_⟩
  have h3 := bulk_pos y0.1
  simp only [Rows.uptoBulk, Rows.uptoBulkAll]
  omega
end Go.Proofs.YtlppcfeimpcbjaaGreat

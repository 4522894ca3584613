
/- quo.Short. -/
import Derived.Test.YtodpbkcdcchljaaQuoA
import Derived.Test.YtodpbkcdcchljaaNum
namespace Go.Proofs.Ytodpbkcdcchljaa
open Go.RowKit

def urowOf (qs : List Nat) : Array Value := (qs.map fun q : Nat => Value.int .u32 (q : Int)).toArray
/-- A row of limbs in a block of its own. -/
def URow (w : World) (g : Nat) (qs : List Nat) : Prop := w.heap[g]? = some (.cells (urowOf qs) 62 (0, 0))
theorem URow.free {w : World} {g : Nat} {qs : List Nat} (h : URow w g qs) (j : Nat) : w.frozen? ⟨g, j, none⟩ = false := frozen_of_row w g j _ _ h
theorem URow.lt {w : World} {g : Nat} {qs : List Nat} (h : URow w g qs) : g < w.heap.size := lt_of_block h
theorem URow.cell {w : World} {g : Nat} {qs : List Nat} (h : URow w g qs) {j : Nat} (hj : j < qs.length) : w.cell? ⟨g, j, none⟩ = some (.int .u32 (qs[j] : Int)) := by
  rw [cell_of_row w g j _ _ (0, 0) h]
  simp [urowOf, hj]
theorem URow.set {w : World} {g : Nat} {qs : List Nat} (h : URow w g qs) (j q : Nat) : URow (w.setCell ⟨g, j, none⟩ (.int .u32 (q : Int))) g (qs.set j q) := by
  have h1 : w.heap[g]? = some (.cells (urowOf qs) 62 (0, 0)) := h
  unfold URow
  simp only [World.setCell, Array.getElem?_modify, h1, if_true, Option.map_some]
  congr 2
  apply Array.ext'
  simp [urowOf, List.map_set]
theorem URow.far {w : World} {g g' : Nat} {qs : List Nat} (h : URow w g qs) (hg : g ≠ g') (j : Nat) (u : Value) : URow (w.setCell ⟨g', j, none⟩ u) g qs :=
  (Below.heap_setCell w ⟨g', j, none⟩ u g hg).trans h
theorem URow.fr {S : Nat → Prop} {w w' : World} {g : Nat} {qs : List Nat} (h : URow w g qs) (hf : Fr S w w') (hS : S g) : URow w' g qs := hf.obj h hS
theorem URow.own {S : Nat → Prop} {w : World} {g : Nat} {qs : List Nat} (h : URow w g qs) (hS : S g) (hd : ∀ q ∈ qs, q < LB) (hl : qs.length ≤ 1099511627000) : Own Lm 62 S w (.slice (some ⟨g, 0, none⟩) qs.length qs.length) qs := by
  refine ⟨qs.map fun q : Nat => Value.int .u32 (q : Int), ⟨by simp [Lm, Kd.nat], .inr ⟨g, qs.length, urowOf qs, rfl, Nat.zero_le _, h, Nat.le_refl _, by unfold maxLen; omega, by simp [urowOf, Lm, Kd.nat], ?_⟩⟩, fun k hk => by simp [Value.ownBlock] at hk; subst hk; exact hS, fun i x hx => ⟨[.int .u32 (x : Int)], ⟨rfl, hd x (List.mem_of_getElem? hx)⟩, fun j u hj => ?_⟩⟩
  · rw [List.take_of_length_le (by simp [urowOf, Lm, Kd.nat])]; simp [urowOf]
  · have hj0 : j = 0 := by
      have := (List.getElem?_eq_some_iff.1 hj).1
      simp at this; exact this
    subst hj0
    simp at hj
    subst hj
    simp [Lm, Kd.nat, hx]
/-- A part of a row. -/
theorem URow.part {S : Nat → Prop} {w : World} {g : Nat} {qs : List Nat} (h : URow w g qs) (hS : S g) (hd : ∀ q ∈ qs, q < LB) {j n c : Nat} (hj : j + n ≤ qs.length) (hc : n ≤ c) (hc2 : c ≤ 9223372036854775807) :
    Sl Lm S w (.slice (some ⟨g, j, none⟩) n c) ((qs.drop j).take n) := by
  have hlen : ((qs.drop j).take n).length = n := by simp; omega
  refine ⟨some ⟨g, j, none⟩, c, by rw [hlen], by omega, hc2, fun h => by simp at h, fun _ => ⟨_, rfl, hS, fun i x hx => ?_⟩⟩
  have hi : i < n := by have := (List.getElem?_eq_some_iff.1 hx).1; omega
  rw [List.getElem?_take, if_pos hi, List.getElem?_drop] at hx
  refine ⟨[.int .u32 (x : Int)], ⟨rfl, hd x (List.mem_of_getElem? hx)⟩, fun k u hk => ?_⟩
  have hk0 : k = 0 := by
    have := (List.getElem?_eq_some_iff.1 hk).1
    simp at this; exact this
  subst hk0
  simp at hk
  subst hk
  obtain ⟨hlt, rfl⟩ := List.getElem?_eq_some_iff.1 hx
  have hc := h.cell hlt
  have e : (⟨g, j, none⟩ : Addr).add (i * Lm.size + 0) = ⟨g, j + i, none⟩ := by simp [Addr.add, Lm, Kd.nat]
  rw [e]; exact hc

theorem make_nat (t : TypeId) (ht : Try.prog.underlying t = some (.slice 62)) (n : Nat) (hn : n ≤ 1099511627000) (u : World) : (Instr.makeSlice t (.int .i64 (n : Int)) (.int .i64 (n : Int))).run Try.prog u = .ok (.slice (some ⟨u.heap.size, 0, none⟩) n n) (u.alloc (.cells (urowOf (List.replicate n 0)) 62)) := by
  obtain ⟨i0, hi, hz0, hz1, hz2⟩ := info_parts info_u32
  have h := run_make (P := Try.prog) u t 62 i0 (.int .u32 0) ht hi hz0 .i64 .i64 (n : Int) (n : Int) (by omega) (Int.le_refl _) (by rw [hz2]; omega) (by omega)
  rw [Int.toNat_natCast, hz1, Nat.mul_one] at h
  rw [h]
  refine congrArg (fun c => Result.ok _ (World.alloc u (Obj.cells c _ _))) ?_
  apply Array.ext'
  simp [madeCells, urowOf, Value.cells]
  apply List.ext_getElem
  · simp
  · intro i h1 h2
    simp [Nat.mod_one]

structure QShortN (xs : List Nat) (d k : Nat) (qs : List Nat) (r : Nat) : Prop where
  len : qs.length = xs.length
  small : ∀ q ∈ qs, q < LB
  rest : r < d
  sum : val (xs.drop k) = d * val (qs.drop k) + r
theorem QShortN.step {xs : List Nat} {d j : Nat} {qs : List Nat} {r x : Nat} (h : QShortN xs d (j + 1) qs r) (hj : j < xs.length) (hx : ∀ d ∈ xs, d < LB) (e : x = r * LB + xs[j]) : x / d < LB ∧ QShortN xs d j (qs.set j (x / d)) (x % d) := by
  obtain ⟨h1, h2, h3, h4⟩ := h
  have hxj := hx xs[j] (List.getElem_mem hj)
  have hq : x / d < LB := by
    refine Nat.div_lt_of_lt_mul ?_
    have h5 := Nat.mul_le_mul_right LB (show r + 1 ≤ d from h3)
    rw [Nat.add_mul, Nat.one_mul] at h5
    omega
  refine ⟨hq, by simp [h1], ?_, Nat.mod_lt _ (by omega), ?_⟩
  · intro q hm
    rcases List.mem_or_eq_of_mem_set hm with h | rfl
    · exact h2 q h
    · exact hq
  · have e1 : (qs.set j (x / d)).drop j = x / d :: qs.drop (j + 1) := by
      rw [List.drop_eq_getElem_cons (by simp; omega)]
      simp [List.drop_set_of_lt]
    have e2 := Nat.div_add_mod x d
    have h4' := congrArg (fun n => LB * n) h4
    simp only [Nat.mul_add] at h4'
    rw [e1, List.drop_eq_getElem_cons hj]
    show xs[j] + LB * val (xs.drop (j + 1)) = d * (x / d + LB * val (qs.drop (j + 1))) + x % d
    rw [Nat.mul_add, Nat.mul_left_comm d LB, h4', Nat.mul_comm LB r]
    omega

set_option maxHeartbeats 1000000 in
theorem qshort_n {S : Nat → Prop} (w : World) (va : Value) (N L d : Nat) (ha : Num S w va N L) (hl : L ≤ 1099511627000) (hd : 0 < d) (hd2 : d < LB) :
    Calls Try.prog 92 #[va, .int .u32 d] w fun e w' => ∃ v, e = .returned (.tuple #[v, .int .u32 ((N % d : Nat) : Int), .int .i64 0]) ∧ Can (fun k => w.heap.size ≤ k) w' v (N / d) L ∧ Fr (fun k => k < w.heap.size) w w' := by
  have hlt := ha.lt
  obtain ⟨xs, hs, hm, hxl⟩ := ha
  have hs := hs.up Lm_pos (Nat.le_refl _) (Fr.refl _ _)
  have hxd := Kd.nat_all hs
  obtain ⟨A, c, rfl, _, _, hlx⟩ := hs.slice
  have hmk := make_nat 23 Try.underlying23 xs.length (by omega)
  have hd4 : d < 4294967296 := hd2
  have hdz : ((d : Int) == 0) = false := beq_eq_false_iff_ne.2 (by omega)
  have HX := Lib.hid hs
  have HV := Lib.hid hm
  clear hs hm
  go_enter Try.func92, Try.ntmps92
  go_wp2_with fail
  go_loopw [8, 9] (fun r i wr => ∃ (k m : Nat) (qs : List Nat), k ≤ xs.length ∧ i = .int .i64 ((k : Int) - 1) ∧ r = .int .u64 m ∧ QShortN xs d k qs m ∧ URow wr w.heap.size qs ∧ Fr (fun k => k < w.heap.size) w wr) (fun _ i _ => (intOf i + 1).toNat)
  case atStart => exact ⟨xs.length, 0, List.replicate xs.length 0, Nat.le_refl _, rfl, rfl, ⟨by simp, fun q h => by rw [List.eq_of_mem_replicate h]; exact LBpos, hd, by simp [val, ofB]⟩, heap_alloc_new _ _, (Fr.refl _ _).alloc _⟩
  case round =>
    obtain ⟨k, m, qs, hk, rfl, rfl, hN, hrow, hfr⟩ := hrel
    by_cases h0 : 0 < k
    · obtain ⟨j, rfl⟩ : ∃ j, k = j + 1 := ⟨k - 1, by omega⟩
      have hj : j < xs.length := by omega
      obtain ⟨ad, rfl, hc, hmy⟩ := Kd.nat_cell HX.out (i := j) hj
      have hadw := World.block_lt_of_cell? _ _ hc
      have hcw := hfr.cell hc hadw
      obtain ⟨x, hx⟩ : ∃ x, x = m * LB + xs[j] := ⟨_, rfl⟩
      have hst := hN.step hj hxd hx
      have hlen := hN.len
      have hr := hN.rest
      obtain ⟨y, hy⟩ : ∃ y, y = xs[j] := ⟨_, rfl⟩
      rw [← hy] at hx hc hmy hcw
      have hy' : y < 4294967296 := hmy
      have hxi : (m : Int) * 4294967296 + (y : Int) = (x : Int) := by unfold LB at hx; omega
      have hjoin := join32 (x := (m : Int)) (y := (y : Int)) (by omega) (by omega) (by omega) (by omega)
      obtain ⟨uq, hcell⟩ : ∃ u, wr.cell? ⟨w.heap.size, j, none⟩ = some u := ⟨_, hrow.cell (j := j) (by omega)⟩
      have hfree := hrow.free j
      have hrlt := hrow.lt
      have hidx : ((j + 1 : Nat) : Int) - 1 = (j : Int) := by omega
      rw [hidx]
      have HST := Lib.hid hst
      have HY := Lib.hid (And.intro hy hx)
      have HQ := Lib.hid hlen
      clear hst hidx hy hx hlen
      go_wp2_with fail
      have hq : x / d < 4294967296 := HST.out.1
      have hw : IntKind.u64.wrap ((x : Int) / (d : Int)) % 4294967296 = ((x / d : Nat) : Int) := by
        rw [← Int.natCast_ediv, IntKind.wrap_u64]
        generalize x / d = q at hq
        omega
      rw [hw]
      go_roundw
      case rel => exact ⟨j, x % d, _, by omega, by go_num, by rw [Int.natCast_emod], HST.out.2, hrow.set j (x / d), hfr.setCell (fun h => by simp at h) _⟩
      case measure => first | (simp [intOf]; done) | (simp [intOf]; omega)
    · obtain rfl : k = 0 := by omega
      have hown := hrow.own (S := fun k => w.heap.size ≤ k) (Nat.le_refl _) hN.small (by rw [hN.len]; omega)
      rw [hN.len] at hown
      have hsum := hN.sum
      have hrest := hN.rest
      rw [List.drop_zero, List.drop_zero, HV.out] at hsum
      have e1 : N / d = val qs := by rw [hsum, Nat.mul_add_div hd, Nat.div_eq_of_lt hrest, Nat.add_zero]
      have e2 : N % d = m := by rw [hsum, Nat.mul_add_mod, Nat.mod_eq_of_lt hrest]
      have hnum : Num (fun k => w.heap.size ≤ k) wr (.slice (some ⟨w.heap.size, 0, none⟩) xs.length xs.length) (N / d) L := ⟨qs, hown.sl, e1.symm, by rw [hN.len]; exact hxl⟩
      have hm4 : m < 4294967296 := by omega
      have HE := Lib.hid (And.intro e1 e2)
      clear hsum e1 e2 hown
      go_wp2_with fail
      refine (trim_n wr _ _ _ hnum (by omega)).mono ?_
      rintro e w2 ⟨v, rfl, hv, hf2⟩
      go_wp2_with fail
      go_ret3
      have hs := hfr.size
      exact ⟨v, congrArg (fun n : Nat => Ending.returned (.tuple #[v, .int .u32 (n : Int), .int .i64 0])) HE.out.2.symm, ⟨hv.own.mono fun k hk => by omega, hv.len⟩, fr_then hfr hf2⟩
end Go.Proofs.Ytodpbkcdcchljaa


/- The reference's Short, Bits, Power. -/
import Derived.Test.YtodpbkcdcchljaaRefD
namespace Go.Proofs.Ytodpbkcdcchljaa
open Go.RowKit

def rowOf (qs : List Nat) : Array Value := (qs.map fun q : Nat => Value.int .i64 (q : Int)).toArray
/-- A row of numbers in a block of its own. -/
def Row (w : World) (g : Nat) (qs : List Nat) : Prop := w.heap[g]? = some (.cells (rowOf qs) 3)
theorem Row.free {w : World} {g : Nat} {qs : List Nat} (h : Row w g qs) (j : Nat) : w.frozen? ⟨g, j, none⟩ = false := frozen_of_row w g j _ _ h
theorem Row.lt {w : World} {g : Nat} {qs : List Nat} (h : Row w g qs) : g < w.heap.size := lt_of_block h
theorem Row.cell {w : World} {g : Nat} {qs : List Nat} (h : Row w g qs) {j : Nat} (hj : j < qs.length) : w.cell? ⟨g, j, none⟩ = some (.int .i64 (qs[j] : Int)) := by
  rw [cell_of_row w g j _ _ (0, 0) h]
  simp [rowOf, hj]
theorem Row.set {w : World} {g : Nat} {qs : List Nat} (h : Row w g qs) (j q : Nat) : Row (w.setCell ⟨g, j, none⟩ (.int .i64 (q : Int))) g (qs.set j q) := by
  have h1 : w.heap[g]? = some (.cells (rowOf qs) 3 (0, 0)) := h
  unfold Row
  simp only [World.setCell, Array.getElem?_modify, h1, if_true, Option.map_some]
  congr 2
  apply Array.ext'
  simp [rowOf, List.map_set]
theorem Row.own {S : Nat → Prop} {w : World} {g : Nat} {qs : List Nat} (h : Row w g qs) (hS : S g) (hd : ∀ q ∈ qs, q < DB) (hl : qs.length ≤ 1099511627000) : Own Dg 3 S w (.slice (some ⟨g, 0, none⟩) qs.length qs.length) qs := by
  refine ⟨qs.map fun q : Nat => Value.int .i64 (q : Int), ⟨by simp [Dg, Kd.nat], .inr ⟨g, qs.length, rowOf qs, rfl, Nat.zero_le _, h, Nat.le_refl _, by unfold maxLen; omega, by simp [rowOf, Dg, Kd.nat], ?_⟩⟩, fun k hk => by simp [Value.ownBlock] at hk; subst hk; exact hS, fun i x hx => ⟨[.int .i64 (x : Int)], ⟨rfl, hd x (List.mem_of_getElem? hx)⟩, fun j u hj => ?_⟩⟩
  · rw [List.take_of_length_le (by simp [rowOf, Dg, Kd.nat])]; simp [rowOf]
  · have hj0 : j = 0 := by
      have := (List.getElem?_eq_some_iff.1 hj).1
      simp at this; exact this
    subst hj0
    simp at hj
    subst hj
    simp [Dg, Kd.nat, hx]
theorem Row.fr {S : Nat → Prop} {w w' : World} {g : Nat} {qs : List Nat} (h : Row w g qs) (hf : Fr S w w') (hS : S g) : Row w' g qs := hf.obj h hS

structure ShortN (xs : List Nat) (d k : Nat) (qs : List Nat) (r : Nat) : Prop where
  len : qs.length = xs.length
  small : ∀ q ∈ qs, q < DB
  rest : r < d
  sum : ofB DB (xs.drop k) = d * ofB DB (qs.drop k) + r
theorem ShortN.step {xs : List Nat} {d j : Nat} {qs : List Nat} {r x : Nat} (h : ShortN xs d (j + 1) qs r) (hj : j < xs.length) (hx : ∀ d ∈ xs, d < DB) (e : x = r * DB + xs[j]) : x / d < DB ∧ ShortN xs d j (qs.set j (x / d)) (x % d) := by
  obtain ⟨h1, h2, h3, h4⟩ := h
  have hxj := hx xs[j] (List.getElem_mem hj)
  have hq : x / d < DB := by
    refine Nat.div_lt_of_lt_mul ?_
    have h5 := Nat.mul_le_mul_right DB (show r + 1 ≤ d from h3)
    rw [Nat.add_mul, Nat.one_mul] at h5
    omega
  refine ⟨hq, by simp [h1], ?_, Nat.mod_lt _ (by omega), ?_⟩
  · intro q hm
    rcases List.mem_or_eq_of_mem_set hm with h | rfl
    · exact h2 q h
    · exact hq
  · have e1 : (qs.set j (x / d)).drop j = x / d :: qs.drop (j + 1) := by
      rw [List.drop_eq_getElem_cons (by simp; omega)]
      simp [List.drop_set_of_lt]
    have e2 := Nat.div_add_mod x d
    have h4' := congrArg (fun n => DB * n) h4
    simp only [Nat.mul_add] at h4'
    rw [e1, List.drop_eq_getElem_cons hj]
    show xs[j] + DB * ofB DB (xs.drop (j + 1)) = d * (x / d + DB * ofB DB (qs.drop (j + 1))) + x % d
    rw [Nat.mul_add, Nat.mul_left_comm d DB, h4', Nat.mul_comm DB r]
    omega

set_option maxHeartbeats 1000000 in
theorem short_r {S : Nat → Prop} (w : World) (va : Value) (N L d : Nat) (ha : RC S w va N L) (hl : L ≤ 1099511627000) (hd : 0 < d) (hd2 : d ≤ 4294967296) :
    Calls Try.prog 86 #[va, .int .i64 d] w fun e w' => ∃ v, e = .returned (.tuple #[v, .int .i64 ((N % d : Nat) : Int)]) ∧ RC (fun k => w.heap.size ≤ k) w' v (N / d) L ∧ Fr (fun k => k < w.heap.size) w w' := by
  have hlt := ha.lt
  have hxl := Nat.le_trans ha.len hl
  have hs := ha.sl.up Dg_pos (Nat.le_refl _) (Fr.refl _ _)
  have hxd := Kd.nat_all hs
  have hm := val_dd N
  generalize dg DB N = xs at hs hxd hm hxl
  clear ha
  obtain ⟨A, c, rfl, _, _, hlx⟩ := hs.slice
  obtain ⟨i0, hi, hz0, hz1, hz2⟩ := info_parts info_int
  have hmk : ∀ u : World, (Instr.makeSlice 32 (.int .i64 (xs.length : Int)) (.int .i64 (xs.length : Int))).run Try.prog u = .ok (.slice (some ⟨u.heap.size, 0, none⟩) xs.length xs.length) (u.alloc (.cells (rowOf (List.replicate xs.length 0)) 3)) := fun u => by
    have h := run_make (P := Try.prog) u 32 3 i0 (.int .i64 0) Try.underlying32 hi hz0 .i64 .i64 (xs.length : Int) (xs.length : Int) (by omega) (Int.le_refl _) (by rw [hz2]; omega) (by omega)
    rw [Int.toNat_natCast, hz1, Nat.mul_one] at h
    rw [h]
    refine congrArg (fun c => Result.ok _ (World.alloc u (Obj.cells c _ _))) ?_
    apply Array.ext'
    simp [madeCells, rowOf, Value.cells]
    apply List.ext_getElem
    · simp
    · intro i h1 h2
      simp [Nat.mod_one]
  have HX := Lib.hid hs
  have HV := Lib.hid hm
  clear hs hm
  go_enter Try.func86, Try.ntmps86
  go_wp2_with fail
  go_loopw [7, 8, 9] (fun r i _ wr => ∃ (k m : Nat) (qs : List Nat), k ≤ xs.length ∧ i = .int .i64 ((k : Int) - 1) ∧ r = .int .i64 m ∧ ShortN xs d k qs m ∧ Row wr w.heap.size qs ∧ Fr (fun k => k < w.heap.size) w wr) (fun _ i _ _ => (intOf i + 1).toNat)
  case atStart => exact ⟨xs.length, 0, List.replicate xs.length 0, Nat.le_refl _, rfl, rfl, ⟨by simp, fun q h => by rw [List.eq_of_mem_replicate h]; exact DBpos, hd, by simp [ofB]⟩, heap_alloc_new _ _, (Fr.refl _ _).alloc _⟩
  case round =>
    obtain ⟨k, m, qs, hk, rfl, rfl, hN, hrow, hfr⟩ := hrel
    by_cases h0 : 0 < k
    · obtain ⟨j, rfl⟩ : ∃ j, k = j + 1 := ⟨k - 1, by omega⟩
      have hj : j < xs.length := by omega
      obtain ⟨ad, rfl, hc, hmy⟩ := Kd.nat_cell HX.out (i := j) hj
      have hadw := World.block_lt_of_cell? _ _ hc
      have hcw := hfr.cell hc hadw
      obtain ⟨x, hx⟩ : ∃ x, x = m * DB + xs[j] := ⟨_, rfl⟩
      have hst := hN.step hj hxd hx
      have hlen := hN.len
      have hr := hN.rest
      obtain ⟨y, hy⟩ : ∃ y, y = xs[j] := ⟨_, rfl⟩
      rw [← hy] at hx hc hmy hcw
      have hxi : (m : Int) * 10000 + (y : Int) = (x : Int) := by unfold DB at hx; omega
      obtain ⟨uq, hcell⟩ : ∃ u, wr.cell? ⟨w.heap.size, j, none⟩ = some u := ⟨_, hrow.cell (j := j) (by omega)⟩
      have hfree := hrow.free j
      have hrlt := hrow.lt
      have hy' : y < 10000 := hmy
      have hidx : ((j + 1 : Nat) : Int) - 1 = (j : Int) := by omega
      rw [hidx]
      have HST := Lib.hid hst
      have HY := Lib.hid (And.intro hy hx)
      have HQ := Lib.hid hlen
      clear hst hidx hy hx hlen
      go_wp2_with fail
      have hq := HST.out.1
      have hw : wrap64 ((x : Int) / (d : Int)) = ((x / d : Nat) : Int) := by
        rw [← Int.natCast_ediv]
        unfold DB at hq
        generalize x / d = q at hq
        unfold wrap64; omega
      rw [hw]
      go_roundw
      case rel =>
        exact ⟨j, x % d, _, by omega, by go_num, by rw [Int.natCast_emod], HST.out.2, hrow.set j (x / d), hfr.setCell (fun h => by simp at h) _⟩
      case measure => first | (simp [intOf]; done) | (simp [intOf]; omega)
    · obtain rfl : k = 0 := by omega
      have hown := hrow.own (S := fun k => w.heap.size ≤ k) (Nat.le_refl _) hN.small (by rw [hN.len]; exact hxl)
      rw [hN.len] at hown
      have hsum := hN.sum
      have hrest := hN.rest
      rw [List.drop_zero, List.drop_zero, HV.out] at hsum
      have e1 : N / d = ofB DB qs := by rw [hsum, Nat.mul_add_div hd, Nat.div_eq_of_lt hrest, Nat.add_zero]
      have e2 : N % d = m := by rw [hsum, Nat.mul_add_mod, Nat.mod_eq_of_lt hrest]
      have HE := Lib.hid (And.intro e1 e2)
      have HO := Lib.hid hown
      clear hsum e1 e2 hown
      go_wp2_with fail
      refine (rtrim_calls wr _ qs HO.out).mono ?_
      rintro e w2 ⟨v, rfl, hv, rfl⟩
      rw [← HE.out.1] at hv
      go_wp2_with fail
      go_ret2
      exact ⟨_, congrArg (fun n : Nat => Ending.returned (.tuple #[v, .int .i64 (n : Int)])) HE.out.2.symm, .of hv (Nat.lt_of_le_of_lt (Nat.div_le_self _ _) hlt), hfr⟩

/-- the row answered to what came in: half -/
theorem short_2 {S : Nat → Prop} (w : World) (va : Value) (N L : Nat) (ha : RC S w va N L) (hl : L ≤ 1099511627000) :
    Calls Try.prog 86 #[va, .int .i64 2] w fun e w' => ∃ v, e = .returned (.tuple #[v, .int .i64 ((N % 2 : Nat) : Int)]) ∧ RC (fun k => w.heap.size ≤ k) w' v (N / 2) L ∧ Fr (fun k => k < w.heap.size) w w' :=
  short_r w va N L 2 ha hl (by decide) (by decide)

theorem blen_le {n L : Nat} (h : n < DB ^ L) : blen n ≤ 14 * L := dg_len_le (by decide) (by
  rw [Nat.pow_mul]
  exact Nat.lt_of_lt_of_le h (Nat.pow_le_pow_left (by decide) L))

set_option maxHeartbeats 1000000 in
theorem bits_r {S : Nat → Prop} (w : World) (va : Value) (N L : Nat) (ha : RC S w va N L) (hl : L ≤ 1099511627) :
    Calls Try.prog 69 #[va] w fun e w' => e = .returned (.int .i64 ((blen N : Nat) : Int)) ∧ Fr (fun k => k < w.heap.size) w w' := by
  have hlt := ha.lt
  have hbl := blen_le hlt
  have HA := Lib.hid (show RC (fun _ => True) w va N L from ha.mono fun _ _ => trivial)
  clear ha
  go_enter Try.func69, Try.ntmps69
  go_wp2_with fail
  go_loopw [0, 3, 4, 5] (fun v k _ _ wr => ∃ (M n : Nat), k = .int .i64 n ∧ RC (fun _ => True) wr v M L ∧ n + blen M = blen N ∧ Fr (fun k => k < w.heap.size) w wr) (fun _ k _ _ _ => (blen N - (intOf k).toNat))
  case atStart => exact ⟨N, 0, rfl, HA.out, Nat.zero_add _, Fr.refl _ _⟩
  case round =>
    obtain ⟨M, n, rfl, hv, hs, hfr⟩ := hrel
    have HV := Lib.hid hv
    obtain ⟨_, _, hvf, _, _, _⟩ := hv.sl.slice
    subst hvf
    clear hv
    by_cases h0 : 0 < M
    · have hpos : 0 < (dg DB M).length := (dg_len_pos DB2).2 h0
      have hh := blen_half h0
      generalize dg DB M = ms at *
      go_wp2_with fail
      refine (short_2 wr _ M L HV.out (by omega)).mono ?_
      rintro e w2 ⟨v, rfl, hv2, hf2⟩
      go_wp2_with fail
      go_roundw
      case rel => exact ⟨M / 2, n + 1, by go_num, hv2.mono fun _ _ => trivial, by omega, fr_then hfr hf2⟩
      case measure => first | (simp [intOf]; done) | (simp [intOf]; omega)
    · obtain rfl : M = 0 := by omega
      rw [blen_zero, Nat.add_zero] at hs
      rw [dg_zero] at HV ⊢
      have HS := Lib.hid hs
      clear hs
      go_wp2_with fail
      go_ret
      exact ⟨congrArg (fun n : Nat => Ending.returned (.int .i64 (n : Int))) HS.out, hfr⟩

theorem short_odd {S : Nat → Prop} (w : World) (va : Value) (N L : Nat) (ha : RC S w va N L) (hl : L ≤ 1099511627000) (h : N % 2 = 1) :
    Calls Try.prog 86 #[va, .int .i64 2] w fun e w' => ∃ v, e = .returned (.tuple #[v, .int .i64 1]) ∧ RC (fun k => w.heap.size ≤ k) w' v (N / 2) L ∧ Fr (fun k => k < w.heap.size) w w' := by
  have := short_2 w va N L ha hl
  rw [h] at this
  exact this
theorem short_even {S : Nat → Prop} (w : World) (va : Value) (N L : Nat) (ha : RC S w va N L) (hl : L ≤ 1099511627000) (h : N % 2 = 0) :
    Calls Try.prog 86 #[va, .int .i64 2] w fun e w' => ∃ v, e = .returned (.tuple #[v, .int .i64 0]) ∧ RC (fun k => w.heap.size ≤ k) w' v (N / 2) L ∧ Fr (fun k => k < w.heap.size) w w' := by
  have := short_2 w va N L ha hl
  rw [h] at this
  exact this

end Go.Proofs.Ytodpbkcdcchljaa

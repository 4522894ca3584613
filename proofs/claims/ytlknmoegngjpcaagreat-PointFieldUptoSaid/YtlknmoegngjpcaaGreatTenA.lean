import Derived.Test.YtlknmoegngjpcaaGreatBaseC
import Derived.WalkMore
set_option linter.unusedSimpArgs false
set_option linter.unusedVariables false

/- Shapes: which may be, and how many elements they count. -/
namespace Go.Proofs.YtlknmoegngjpcaaGreat
open Go.RowKit

abbrev Im : Kd Int := Kd.int .i64 (-9223372036854775808) 9223372036854775808
theorem Im_pos : 0 < Im.size := by decide
theorem imT : ElemT Tryz.prog Im 23 3 8 := ElemT.mk' (.int .i64 0) Tryz.underlying23 Im_pos (by kernel_rfl) rfl
theorem Kd.int_cell {k : IntKind} {lo hi : Int} {S : Nat → Prop} {w : World} {xs : List Int} {A : Option Addr} {c : Nat} (h : Sl (Kd.int k lo hi) S w (.slice A xs.length c) xs) {i : Nat} (hi' : i < xs.length) :
    ∃ ad, A = some ad ∧ w.cell? (ad.add i) = some (.int k (xs[i] : Int)) ∧ lo ≤ xs[i] ∧ xs[i] < hi := by
  obtain ⟨A', c', he, h1, h2, h3, h4⟩ := h
  cases he
  obtain ⟨ad, rfl, _, hc⟩ := h4 (by omega)
  obtain ⟨cs, ⟨rfl, hlt⟩, hu⟩ := hc i xs[i] (by simp [hi'])
  refine ⟨ad, rfl, ?_, hlt⟩
  have := hu 0 _ rfl
  simpa [Kd.int] using this
theorem Kd.int_all {k : IntKind} {lo hi : Int} {S : Nat → Prop} {w : World} {xs : List Int} {v : Value} (h : Sl (Kd.int k lo hi) S w v xs) : ∀ d ∈ xs, lo ≤ d ∧ d < hi := by
  intro d hd
  obtain ⟨i, hi, rfl⟩ := List.mem_iff_getElem.1 hd
  obtain ⟨A', c', he, h1, h2, h3, h4⟩ := h
  obtain ⟨ad, rfl, _, hc⟩ := h4 (by omega)
  obtain ⟨cs, ⟨rfl, hlt⟩, hu⟩ := hc i xs[i] (by simp [hi])
  exact hlt

/-- The product of dimensions. -/
def pr : List Int → Int
  | [] => 1
  | d :: l => d * pr l
theorem pr_append (a b : List Int) : pr (a ++ b) = pr a * pr b := by
  induction a with
  | nil => simp [pr]
  | cons d a ih => simp [pr, ih, Int.mul_assoc]
theorem pr_take {l : List Int} {i : Nat} (h : i < l.length) : pr (l.take (i + 1)) = pr (l.take i) * l[i] := by
  rw [List.take_succ_eq_append_getElem h, pr_append]; simp [pr]
theorem pr_pos {l : List Int} (h : ∀ d ∈ l, 1 ≤ d) : 1 ≤ pr l := by
  induction l with
  | nil => decide
  | cons d l ih =>
    have h1 := h d (List.mem_cons_self)
    have h2 := ih fun d hd => h d (List.mem_cons_of_mem _ hd)
    have := Int.mul_le_mul h1 h2 (by decide) (by omega)
    simpa [pr] using this
theorem pr_take_pos {l : List Int} (h : ∀ d ∈ l, 1 ≤ d) (i : Nat) : 1 ≤ pr (l.take i) := pr_pos fun d hd => h d (List.mem_of_mem_take hd)
/-- A product of the first ones is at most that of all. -/
theorem pr_take_le {l : List Int} (h : ∀ d ∈ l, 1 ≤ d) (i : Nat) : pr (l.take i) ≤ pr l := by
  have h1 := pr_append (l.take i) (l.drop i)
  rw [List.take_append_drop] at h1
  have h2 := pr_take_pos h i
  have h3 : 1 ≤ pr (l.drop i) := pr_pos fun d hd => h d (List.mem_of_mem_drop hd)
  have := Int.mul_le_mul_of_nonneg_left h3 (show (0 : Int) ≤ pr (l.take i) by omega)
  omega
/-- Why a shape may not be. -/
def mayS (l : List Int) : Int := if 4 < l.length then 14 else if ∀ d ∈ l, 1 ≤ d then (if 1024 < pr l then 14 else 0) else 13
/-- How many elements. -/
def cntS (l : List Int) : Int := if mayS l = 0 then pr l else 0
theorem mayS_4 {l : List Int} (h : 4 < l.length) : mayS l = 14 := if_pos h
theorem mayS_1 {l : List Int} (h : ¬ 4 < l.length) {d : Int} (hd : d ∈ l) (h1 : d < 1) : mayS l = 13 := by
  unfold mayS
  rw [if_neg h, if_neg fun hh => absurd (hh d hd) (by omega)]
theorem mayS_n {l : List Int} (h : ¬ 4 < l.length) (h1 : ∀ d ∈ l, 1 ≤ d) (h2 : 1024 < pr l) : mayS l = 14 := by
  unfold mayS
  rw [if_neg h, if_pos h1, if_pos h2]
theorem mayS_0 {l : List Int} (h : ¬ 4 < l.length) (h1 : ∀ d ∈ l, 1 ≤ d) (h2 : ¬ 1024 < pr l) : mayS l = 0 := by
  unfold mayS
  rw [if_neg h, if_pos h1, if_neg h2]
theorem mayS_ok {l : List Int} (h : mayS l = 0) : l.length ≤ 4 ∧ (∀ d ∈ l, 1 ≤ d) ∧ pr l ≤ 1024 := by
  unfold mayS at h
  split at h
  · omega
  · split at h
    · split at h
      · omega
      · exact ⟨by omega, by assumption, by omega⟩
    · omega
theorem cntS_ok {l : List Int} (h : mayS l = 0) : cntS l = pr l := if_pos h
theorem cntS_no {l : List Int} (h : mayS l ≠ 0) : cntS l = 0 := if_neg h
theorem mayS_lo (l : List Int) : 0 ≤ mayS l ∧ mayS l ≤ 14 := by
  unfold mayS
  split
  · omega
  · split
    · split <;> omega
    · omega
theorem tdiv_lt {n d : Int} (hn : 1 ≤ n) : (1024 / n < d) ↔ 1024 < n * d := by
  rw [Int.ediv_lt_iff_lt_mul (by omega), Int.mul_comm]

set_option maxHeartbeats 1000000 in
theorem product_calls {S : Nat → Prop} (w : World) (v : Value) (l : List Int) (h : Sl Im S w v l) (h1 : ∀ d ∈ l, 1 ≤ d) :
    Calls Tryz.prog 133 #[v] w fun e w' => e = .returned (.int .i64 (if 1024 < pr l then 1025 else pr l)) ∧ w' = w := by
  obtain ⟨A, c, rfl, _, _, hlx⟩ := h.slice
  obtain ⟨r, hr⟩ : ∃ r, r = (if 1024 < pr l then 1025 else pr l) := ⟨_, rfl⟩
  rw [← hr]
  have H := Lib.hid h
  have H1 := Lib.hid h1
  have HR := Lib.hid hr
  clear h h1 hr
  go_enter Tryz.func133, Tryz.ntmps133
  go_wp2
  go_step3
  go_wp2
  go_step3
  go_wp2
  go_loop [3, 8] (fun n i => ∃ (j : Nat) (m : Int), j ≤ l.length ∧ i = .int .i64 j ∧ n = .int .i64 m ∧ 1 ≤ m ∧ m ≤ 1024 ∧ Hid (m = pr (l.take j))) (fun _ i => l.length - (intOf i).toNat)
  case atStart => exact ⟨0, 1, Nat.zero_le _, rfl, rfl, by omega, by omega, Lib.hid (by simp [pr])⟩
  case round =>
    obtain ⟨j, m, hj, rfl, rfl, hm1, hm2, hm⟩ := hrel
    by_cases hlt : j < l.length
    · obtain ⟨ad, rfl, hx, hx1, hx2⟩ := Kd.int_cell H.out (i := j) hlt
      have hp := pr_take hlt
      have hd1 := H1.out _ (List.getElem_mem hlt)
      rw [← hm.out] at hp
      have hle := pr_take_le H1.out (j + 1)
      rw [hp] at hle
      generalize l[j] = d at hx hx1 hx2 hp hd1 hle
      have HP := Lib.hid hp
      have hiff := tdiv_lt (d := d) hm1
      clear hp
      by_cases hgt : 1024 < m * d
      · have hb := hiff.2 hgt
        have HE : r = 1025 := HR.out.trans (if_pos (by omega))
        clear hiff hgt hle
        go_wp2_with fail
        go_ret
        exact ⟨by first | rfl | exact congrArg (fun z : Int => Ending.returned (.int .i64 z)) HE.symm, rfl⟩
      · have hb : ¬ 1024 / m < d := fun h => hgt (hiff.1 h)
        obtain ⟨q, hq⟩ : ∃ q, q = m * d := ⟨_, rfl⟩
        have h1md : 1 ≤ m * d := by
          have := Int.mul_le_mul hm1 hd1 (by decide) (by omega)
          omega
        have hw : IntKind.i64.wrap (m * d) = q := by
          rw [← hq, IntKind.wrap_i64]
          omega
        have hq1 : 1 ≤ q := by omega
        have hq2 : q ≤ 1024 := by omega
        have HQ := Lib.hid hq
        clear hiff hgt hle hq h1md
        go_wp2_with fail
        go_round
        case rel => exact ⟨j + 1, q, by omega, by go_num, rfl, hq1, hq2, HQ.out.trans HP.out.symm⟩
        case measure => simp [intOf]; omega
    · obtain rfl : j = l.length := by omega
      have HE : r = m := by rw [HR.out, hm.out, List.take_length]; exact if_neg (by rw [hm.out, List.take_length] at hm2; omega)
      go_wp2_with fail
      go_ret
      exact ⟨by first | rfl | exact congrArg (fun z : Int => Ending.returned (.int .i64 z)) HE.symm, rfl⟩
end Go.Proofs.YtlknmoegngjpcaaGreat

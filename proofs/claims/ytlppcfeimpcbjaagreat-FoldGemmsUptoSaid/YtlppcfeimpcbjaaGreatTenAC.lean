/- Texts merged: TenA, TenB, TenC. -/
import Derived.Test.YtlppcfeimpcbjaaGreatBaseC
import Derived.WalkMore
set_option linter.unusedSimpArgs false
set_option linter.unusedVariables false

/- Shapes: which may be, and how many elements they count. -/
namespace Go.Proofs.YtlppcfeimpcbjaaGreat
open Go.RowKit

abbrev Im : Kd Int := Kd.int .i64 (-9223372036854775808) 9223372036854775808
theorem Im_pos : 0 < Im.size := by decide
theorem imT : ElemT Tryz.prog Im 23 3 8 := ElemT.mk' (.int .i64 0) Tryz.underlying23 Im_pos (by kernel_rfl) rfl
theorem Kd.int_cell {k : IntKind} {lo hi : Int} {S : Nat → Prop} {w : World} {xs : List Int} {A : Option Addr} {c : Nat} (h : Sl (Kd.int k lo hi) S w (.slice A xs.length c) xs) {i : Nat} (hi' : i < xs.length) :
    ∃ ad, A = some ad ∧ w.cell? (ad.add i) = some (.int k (xs[i] : Int)) ∧ lo ≤ xs[i] ∧ xs[i] < hi := by
  obtain ⟨A', c', he, h1, h2, h3, h4⟩ := h
  cases he
  obtain ⟨ad, rfl, _, hc⟩ := h4 (by omega)
  obtain ⟨cs, ⟨rfl, hlt⟩, hu⟩ := hc i xs[i] (by simp [hi'])
  refine ⟨ad, rfl, ?_, hlt⟩
  have := hu 0 _ rfl
  simpa [Kd.int] using this
theorem Kd.int_all {k : IntKind} {lo hi : Int} {S : Nat → Prop} {w : World} {xs : List Int} {v : Value} (h : Sl (Kd.int k lo hi) S w v xs) : ∀ d ∈ xs, lo ≤ d ∧ d < hi := by
  intro d hd
  obtain ⟨i, hi, rfl⟩ := List.mem_iff_getElem.1 hd
  obtain ⟨A', c', he, h1, h2, h3, h4⟩ := h
  obtain ⟨ad, rfl, _, hc⟩ := h4 (by omega)
  obtain ⟨cs, ⟨rfl, hlt⟩, hu⟩ := hc i xs[i] (by simp [hi])
  exact hlt

/-- The product of dimensions. -/
def pr : List Int → Int
  | [] => 1
  | d :: l => d * pr l
theorem pr_append (a b : List Int) : pr (a ++ b) = pr a * pr b := by
  induction a with
  | nil => simp [pr]
  | cons d a ih => simp [pr, ih, Int.mul_assoc]
theorem pr_take {l : List Int} {i : Nat} (h : i < l.length) : pr (l.take (i + 1)) = pr (l.take i) * l[i] := by
  rw [List.take_succ_eq_append_getElem h, pr_append]; simp [pr]
theorem pr_pos {l : List Int} (h : ∀ d ∈ l, 1 ≤ d) : 1 ≤ pr l := by
  induction l with
  | nil => decide
  | cons d l ih =>
    have h1 := h d (List.mem_cons_self)
    have h2 := ih fun d hd => h d (List.mem_cons_of_mem _ hd)
    have := Int.mul_le_mul h1 h2 (by decide) (by omega)
    simpa [pr] using this
theorem pr_take_pos {l : List Int} (h : ∀ d ∈ l, 1 ≤ d) (i : Nat) : 1 ≤ pr (l.take i) := pr_pos fun d hd => h d (List.mem_of_mem_take hd)
/-- A product of the first ones is at most that of all. -/
theorem pr_take_le {l : List Int} (h : ∀ d ∈ l, 1 ≤ d) (i : Nat) : pr (l.take i) ≤ pr l := by
  have h1 := pr_append (l.take i) (l.drop i)
  rw [List.take_append_drop] at h1
  have h2 := pr_take_pos h i
  have h3 : 1 ≤ pr (l.drop i) := pr_pos fun d hd => h d (List.mem_of_mem_drop hd)
  have := Int.mul_le_mul_of_nonneg_left h3 (show (0 : Int) ≤ pr (l.take i) by omega)
  omega
/-- Why a shape may not be. -/
def mayS (l : List Int) : Int := if 4 < l.length then 14 else if ∀ d ∈ l, 1 ≤ d then (if 1024 < pr l then 14 else 0) else 13
/-- How many elements. -/
def cntS (l : List Int) : Int := if mayS l = 0 then pr l else 0
theorem mayS_4 {l : List Int} (h : 4 < l.length) : mayS l = 14 := if_pos h
theorem mayS_1 {l : List Int} (h : ¬ 4 < l.length) {d : Int} (hd : d ∈ l) (h1 : d < 1) : mayS l = 13 := by
  unfold mayS
  rw [if_neg h, if_neg fun hh => absurd (hh d hd) (by omega)]
theorem mayS_n {l : List Int} (h : ¬ 4 < l.length) (h1 : ∀ d ∈ l, 1 ≤ d) (h2 : 1024 < pr l) : mayS l = 14 := by
  unfold mayS
  rw [if_neg h, if_pos h1, if_pos h2]
theorem mayS_0 {l : List Int} (h : ¬ 4 < l.length) (h1 : ∀ d ∈ l, 1 ≤ d) (h2 : ¬ 1024 < pr l) : mayS l = 0 := by
  unfold mayS
  rw [if_neg h, if_pos h1, if_neg h2]
theorem mayS_ok {l : List Int} (h : mayS l = 0) : l.length ≤ 4 ∧ (∀ d ∈ l, 1 ≤ d) ∧ pr l ≤ 1024 := by
  unfold mayS at h
  split at h
  · omega
  · split at h
    · split at h
      · omega
      · exact ⟨by omega, by assumption, by omega⟩
    · omega
theorem cntS_ok {l : List Int} (h : mayS l = 0) : cntS l = pr l := if_pos h
theorem cntS_no {l : List Int} (h : mayS l ≠ 0) : cntS l = 0 := if_neg h
theorem mayS_lo (l : List Int) : 0 ≤ mayS l ∧ mayS l ≤ 14 := by
  unfold mayS
  split
  · omega
  · split
    · split <;> omega
    · omega
theorem tdiv_lt {n d : Int} (hn : 1 ≤ n) : (1024 / n < d) ↔ 1024 < n * d := by
  rw [Int.ediv_lt_iff_lt_mul (by omega), Int.mul_comm]

set_option maxHeartbeats 1000000 in
theorem product_calls {S : Nat → Prop} (w : World) (v : Value) (l : List Int) (h : Sl Im S w v l) (h1 : ∀ d ∈ l, 1 ≤ d) :
    Calls Tryz.prog 93 #[v] w fun e w' => e = .returned (.int .i64 (if 1024 < pr l then 1025 else pr l)) ∧ w' = w := by
  obtain ⟨A, c, rfl, _, _, hlx⟩ := h.slice
  obtain ⟨r, hr⟩ : ∃ r, r = (if 1024 < pr l then 1025 else pr l) := ⟨_, rfl⟩
  rw [← hr]
  have H := Lib.hid h
  have H1 := Lib.hid h1
  have HR := Lib.hid hr
  clear h h1 hr
  go_enter Tryz.func93, Tryz.ntmps93
  go_wp2
  go_step3
  go_wp2
  go_step3
  go_wp2
  go_loop [3, 8] (fun n i => ∃ (j : Nat) (m : Int), j ≤ l.length ∧ i = .int .i64 j ∧ n = .int .i64 m ∧ 1 ≤ m ∧ m ≤ 1024 ∧ Hid (m = pr (l.take j))) (fun _ i => l.length - (intOf i).toNat)
  case atStart => exact ⟨0, 1, Nat.zero_le _, rfl, rfl, by omega, by omega, Lib.hid (by simp [pr])⟩
  case round =>
    obtain ⟨j, m, hj, rfl, rfl, hm1, hm2, hm⟩ := hrel
    by_cases hlt : j < l.length
    · obtain ⟨ad, rfl, hx, hx1, hx2⟩ := Kd.int_cell H.out (i := j) hlt
      have hp := pr_take hlt
      have hd1 := H1.out _ (List.getElem_mem hlt)
      rw [← hm.out] at hp
      have hle := pr_take_le H1.out (j + 1)
      rw [hp] at hle
      generalize l[j] = d at hx hx1 hx2 hp hd1 hle
      have HP := Lib.hid hp
      have hiff := tdiv_lt (d := d) hm1
      clear hp
      by_cases hgt : 1024 < m * d
      · have hb := hiff.2 hgt
        have HE : r = 1025 := HR.out.trans (if_pos (by omega))
        clear hiff hgt hle
        go_wp2_with fail
        go_ret
        exact ⟨by first | rfl | exact congrArg (fun z : Int => Ending.returned (.int .i64 z)) HE.symm, rfl⟩
      · have hb : ¬ 1024 / m < d := fun h => hgt (hiff.1 h)
        obtain ⟨q, hq⟩ : ∃ q, q = m * d := ⟨_, rfl⟩
        have h1md : 1 ≤ m * d := by
          have := Int.mul_le_mul hm1 hd1 (by decide) (by omega)
          omega
        have hw : IntKind.i64.wrap (m * d) = q := by
          rw [← hq, IntKind.wrap_i64]
          omega
        have hq1 : 1 ≤ q := by omega
        have hq2 : q ≤ 1024 := by omega
        have HQ := Lib.hid hq
        clear hiff hgt hle hq h1md
        go_wp2_with fail
        go_round
        case rel => exact ⟨j + 1, q, by omega, by go_num, rfl, hq1, hq2, HQ.out.trans HP.out.symm⟩
        case measure => simp [intOf]; omega
    · obtain rfl : j = l.length := by omega
      have HE : r = m := by rw [HR.out, hm.out, List.take_length]; exact if_neg (by rw [hm.out, List.take_length] at hm2; omega)
      go_wp2_with fail
      go_ret
      exact ⟨by first | rfl | exact congrArg (fun z : Int => Ending.returned (.int .i64 z)) HE.symm, rfl⟩
end Go.Proofs.YtlppcfeimpcbjaaGreat


/- Shapes: May and Count, of the program and of the document. -/
namespace Go.Proofs.YtlppcfeimpcbjaaGreat
open Go.RowKit

theorem all_step {l : List Int} {j : Nat} (h : ∀ d ∈ l.take j, 1 ≤ d) (hj : j < l.length) (h1 : 1 ≤ l[j]) : ∀ d ∈ l.take (j + 1), 1 ≤ d := by
  intro d hd
  rw [List.take_succ_eq_append_getElem hj, List.mem_append] at hd
  rcases hd with hd | hd
  · exact h d hd
  · simp at hd
    subst hd
    exact h1

set_option maxHeartbeats 2000000 in
theorem smay_calls {S : Nat → Prop} (w : World) (v : Value) (l : List Int) (h : Sl Im S w v l) :
    Calls Tryz.prog 50 #[v] w fun e w' => e = .returned (.int .i64 (mayS l)) ∧ w' = w := by
  obtain ⟨A, c, rfl, _, _, hlx⟩ := h.slice
  obtain ⟨r, hr⟩ : ∃ r, r = mayS l := ⟨_, rfl⟩
  rw [← hr]
  have H := Lib.hid h
  have HR := Lib.hid hr
  clear h hr
  go_enter Tryz.func50, Tryz.ntmps50
  by_cases h4 : 4 < l.length
  · have HE : r = 14 := HR.out.trans (mayS_4 h4)
    go_wp2
    go_ret
    exact ⟨by first | rfl | exact congrArg (fun z : Int => Ending.returned (.int .i64 z)) HE.symm, rfl⟩
  go_wp2
  go_loop [3] (fun i => ∃ j : Nat, j ≤ l.length ∧ i = .int .i64 j ∧ Hid (∀ d ∈ l.take j, 1 ≤ d)) (fun i => l.length - (intOf i).toNat)
  case atStart => exact ⟨0, Nat.zero_le _, rfl, Lib.hid (by simp)⟩
  case round =>
    obtain ⟨j, hj, rfl, HA⟩ := hrel
    by_cases hlt : j < l.length
    · obtain ⟨ad, rfl, hx, hx1, hx2⟩ := Kd.int_cell H.out (i := j) hlt
      have hmem := List.getElem_mem hlt
      have hst := all_step HA.out hlt
      generalize l[j] = d at hx hx1 hx2 hmem hst
      by_cases hd : d < 1
      · have HE : r = 13 := HR.out.trans (mayS_1 h4 hmem hd)
        clear hst
        go_wp2
        go_ret
        exact ⟨by first | rfl | exact congrArg (fun z : Int => Ending.returned (.int .i64 z)) HE.symm, rfl⟩
      · have HA := Lib.hid (hst (by omega))
        clear hst
        go_wp2
        go_round
        case rel => exact ⟨j + 1, by omega, by go_num, HA⟩
        case measure => simp [intOf]; omega
    · obtain rfl : j = l.length := by omega
      have H1 := Lib.hid (show ∀ d ∈ l, 1 ≤ d from fun d hd => HA.out d (by rwa [List.take_length]))
      clear HA
      go_wp2
      go_loop [4, 5] (fun n i => ∃ (j : Nat) (m : Int), j ≤ l.length ∧ i = .int .i64 j ∧ n = .int .i64 m ∧ 1 ≤ m ∧ m ≤ 1024 ∧ Hid (m = pr (l.take j))) (fun _ i => l.length - (intOf i).toNat)
      case atStart => exact ⟨0, 1, Nat.zero_le _, rfl, rfl, by omega, by omega, Lib.hid (by simp [pr])⟩
      case round =>
        obtain ⟨j, m, hj, rfl, rfl, hm1, hm2, hm⟩ := hrel
        by_cases hlt : j < l.length
        · obtain ⟨ad, rfl, hx, hx1, hx2⟩ := Kd.int_cell H.out (i := j) hlt
          have hp := pr_take hlt
          have hd1 := H1.out _ (List.getElem_mem hlt)
          rw [← hm.out] at hp
          have hle := pr_take_le H1.out (j + 1)
          rw [hp] at hle
          generalize l[j] = d at hx hx1 hx2 hp hd1 hle
          have HP := Lib.hid hp
          clear hp
          have hmd : d ≤ m * d := by have := Int.mul_le_mul hm1 (Int.le_refl d) (by omega) (by omega); omega
          by_cases hg : 1024 < d
          · have HE : r = 14 := HR.out.trans (mayS_n h4 H1.out (by omega))
            clear hle hmd
            go_wp2
            go_ret
            exact ⟨by first | rfl | exact congrArg (fun z : Int => Ending.returned (.int .i64 z)) HE.symm, rfl⟩
          · have hmm : m * d ≤ 1024 * 1024 := Int.mul_le_mul hm2 (by omega) (by omega) (by omega)
            have hw : IntKind.i64.wrap (m * d) = m * d := by rw [IntKind.wrap_i64]; omega
            obtain ⟨q, hq⟩ : ∃ q, q = m * d := ⟨_, rfl⟩
            rw [← hq] at hw hle hmd hmm
            have HW := Lib.hid hq
            by_cases hgt : 1024 < q
            · have HE : r = 14 := HR.out.trans (mayS_n h4 H1.out (by omega))
              rw [hq] at hw hgt
              clear hle hmd hmm hq
              go_wp2
              go_ret
              exact ⟨by first | rfl | exact congrArg (fun z : Int => Ending.returned (.int .i64 z)) HE.symm, rfl⟩
            · rw [hq] at hw hgt
              clear hle hmm hq
              rw [HW.out] at hmd
              go_wp2
              go_round
              case rel => exact ⟨j + 1, m * d, by omega, by go_num, rfl, by omega, by omega, HP.out.symm⟩
              case measure => simp [intOf]; omega
        · obtain rfl : j = l.length := by omega
          have HE : r = 0 := HR.out.trans (mayS_0 h4 H1.out (by rw [hm.out, List.take_length] at hm2; omega))
          go_wp2
          go_ret
          exact ⟨by first | rfl | exact congrArg (fun z : Int => Ending.returned (.int .i64 z)) HE.symm, rfl⟩

set_option maxHeartbeats 2000000 in
theorem scount_calls {S : Nat → Prop} (w : World) (v : Value) (l : List Int) (h : Sl Im S w v l) :
    Calls Tryz.prog 51 #[v] w fun e w' => e = .returned (.int .i64 (cntS l)) ∧ w' = w := by
  obtain ⟨A, c, rfl, _, _, hlx⟩ := h.slice
  obtain ⟨r, hr⟩ : ∃ r, r = cntS l := ⟨_, rfl⟩
  rw [← hr]
  have p := smay_calls w (.slice A l.length c) l h
  obtain ⟨e, he⟩ : ∃ e, e = mayS l := ⟨_, rfl⟩
  rw [← he] at p
  have H := Lib.hid h
  have HR := Lib.hid hr
  have HE := Lib.hid he
  clear h hr he
  go_enter Tryz.func51, Tryz.ntmps51
  by_cases h0 : e = 0
  · subst h0
    obtain ⟨h4, h1, h2⟩ := mayS_ok HE.out.symm
    have H1 := Lib.hid h1
    have HC : r = pr l := HR.out.trans (cntS_ok HE.out.symm)
    clear h1
    go_wp2_with fail
    refine p.mono ?_
    rintro e w1 ⟨rfl, rfl⟩
    go_wp2_with fail
    go_loop [3, 4] (fun n i => ∃ (j : Nat) (m : Int), j ≤ l.length ∧ i = .int .i64 j ∧ n = .int .i64 m ∧ 1 ≤ m ∧ m ≤ 1024 ∧ Hid (m = pr (l.take j))) (fun _ i => l.length - (intOf i).toNat)
    case atStart => exact ⟨0, 1, Nat.zero_le _, rfl, rfl, by omega, by omega, Lib.hid (by simp [pr])⟩
    case round =>
      obtain ⟨j, m, hj, rfl, rfl, hm1, hm2, hm⟩ := hrel
      by_cases hlt : j < l.length
      · obtain ⟨ad, rfl, hx, hx1, hx2⟩ := Kd.int_cell H.out (i := j) hlt
        have hp := pr_take hlt
        have hq1 := pr_take_pos H1.out (j + 1)
        rw [← hm.out] at hp
        have hle := pr_take_le H1.out (j + 1)
        rw [hp] at hle hq1
        generalize l[j] = d at hx hx1 hx2 hp hle hq1
        have HP := Lib.hid hp
        have hw : IntKind.i64.wrap (m * d) = m * d := by rw [IntKind.wrap_i64]; omega
        clear hp
        go_wp2
        go_round
        case rel => exact ⟨j + 1, m * d, by omega, by go_num, rfl, by omega, by omega, HP.out.symm⟩
        case measure => simp [intOf]; omega
      · obtain rfl : j = l.length := by omega
        have HE' : r = m := by rw [HC, hm.out, List.take_length]
        go_wp2
        go_ret
        exact ⟨by first | rfl | exact congrArg (fun z : Int => Ending.returned (.int .i64 z)) HE'.symm | exact congrArg (fun z : Int => Ending.returned (.int .i64 z)) (HE'.symm.trans HC), rfl⟩
  · have HC : r = 0 := HR.out.trans (cntS_no (by rw [← HE.out]; exact h0))
    go_wp2_with fail
    refine p.mono ?_
    rintro e w1 ⟨rfl, rfl⟩
    go_wp2_with fail
    go_ret
    exact ⟨by first | rfl | exact congrArg (fun z : Int => Ending.returned (.int .i64 z)) HC.symm, rfl⟩

set_option maxHeartbeats 2000000 in
theorem shmay_calls {S : Nat → Prop} (w : World) (v : Value) (l : List Int) (h : Sl Im S w v l) :
    Calls Tryz.prog 60 #[v] w fun e w' => e = .returned (.int .i64 (mayS l)) ∧ w' = w := by
  obtain ⟨A, c, rfl, _, _, hlx⟩ := h.slice
  obtain ⟨r, hr⟩ : ∃ r, r = mayS l := ⟨_, rfl⟩
  rw [← hr]
  have H := Lib.hid h
  have HR := Lib.hid hr
  clear h hr
  go_enter Tryz.func60, Tryz.ntmps60
  by_cases h4 : 4 < l.length
  · have HE : r = 14 := HR.out.trans (mayS_4 h4)
    go_wp2
    go_ret
    exact ⟨by first | rfl | exact congrArg (fun z : Int => Ending.returned (.int .i64 z)) HE.symm, rfl⟩
  go_wp2
  go_loop [10] (fun i => ∃ j : Nat, j ≤ l.length ∧ i = .int .i64 j ∧ Hid (∀ d ∈ l.take j, 1 ≤ d)) (fun i => l.length - (intOf i).toNat)
  case atStart => exact ⟨0, Nat.zero_le _, rfl, Lib.hid (by simp)⟩
  case round =>
    obtain ⟨j, hj, rfl, HA⟩ := hrel
    by_cases hlt : j < l.length
    · obtain ⟨ad, rfl, hx, hx1, hx2⟩ := Kd.int_cell H.out (i := j) hlt
      have hmem := List.getElem_mem hlt
      have hst := all_step HA.out hlt
      generalize l[j] = d at hx hx1 hx2 hmem hst
      by_cases hd : d < 1
      · have HE : r = 13 := HR.out.trans (mayS_1 h4 hmem hd)
        clear hst
        go_wp2
        go_ret
        exact ⟨by first | rfl | exact congrArg (fun z : Int => Ending.returned (.int .i64 z)) HE.symm, rfl⟩
      · have HA := Lib.hid (hst (by omega))
        clear hst
        go_wp2
        go_round
        case rel => exact ⟨j + 1, by omega, by go_num, HA⟩
        case measure => simp [intOf]; omega
    · obtain rfl : j = l.length := by omega
      have H1 := Lib.hid (show ∀ d ∈ l, 1 ≤ d from fun d hd => HA.out d (by rwa [List.take_length]))
      have p := product_calls w (.slice A l.length c) l H.out H1.out
      clear HA
      by_cases hg : 1024 < pr l
      · have HE : r = 14 := HR.out.trans (mayS_n h4 H1.out hg)
        rw [if_pos hg] at p
        clear hg
        go_wp2_with fail
        refine p.mono ?_
        rintro e w1 ⟨rfl, rfl⟩
        go_wp2_with fail
        go_ret
        exact ⟨by first | rfl | exact congrArg (fun z : Int => Ending.returned (.int .i64 z)) HE.symm, rfl⟩
      · have HE : r = 0 := HR.out.trans (mayS_0 h4 H1.out hg)
        have hp1 := pr_pos H1.out
        rw [if_neg hg] at p
        generalize pr l = q at p hg hp1
        go_wp2_with fail
        refine p.mono ?_
        rintro e w1 ⟨rfl, rfl⟩
        go_wp2_with fail
        go_ret
        exact ⟨by first | rfl | exact congrArg (fun z : Int => Ending.returned (.int .i64 z)) HE.symm, rfl⟩

set_option maxHeartbeats 1000000 in
theorem shcount_calls {S : Nat → Prop} (w : World) (v : Value) (l : List Int) (h : Sl Im S w v l) :
    Calls Tryz.prog 90 #[v] w fun e w' => e = .returned (.int .i64 (cntS l)) ∧ w' = w := by
  obtain ⟨A, c, rfl, _, _, hlx⟩ := h.slice
  obtain ⟨r, hr⟩ : ∃ r, r = cntS l := ⟨_, rfl⟩
  rw [← hr]
  have p := shmay_calls w (.slice A l.length c) l h
  obtain ⟨e, he⟩ : ∃ e, e = mayS l := ⟨_, rfl⟩
  rw [← he] at p
  have H := Lib.hid h
  have HR := Lib.hid hr
  have HE := Lib.hid he
  clear h hr he
  go_enter Tryz.func90, Tryz.ntmps90
  by_cases h0 : e = 0
  · subst h0
    obtain ⟨h4, h1, h2⟩ := mayS_ok HE.out.symm
    have q := product_calls w (.slice A l.length c) l H.out h1
    rw [if_neg (by omega)] at q
    have HC : r = pr l := HR.out.trans (cntS_ok HE.out.symm)
    clear h1
    go_wp2_with fail
    refine p.mono ?_
    rintro e w1 ⟨rfl, rfl⟩
    go_wp2_with fail
    refine q.mono ?_
    rintro e w1 ⟨rfl, rfl⟩
    go_wp2_with fail
    go_ret
    exact ⟨by first | rfl | exact congrArg (fun z : Int => Ending.returned (.int .i64 z)) HC.symm, rfl⟩
  · have HC : r = 0 := HR.out.trans (cntS_no (by rw [← HE.out]; exact h0))
    go_wp2_with fail
    refine p.mono ?_
    rintro e w1 ⟨rfl, rfl⟩
    go_wp2_with fail
    go_ret
    exact ⟨by first | rfl | exact congrArg (fun z : Int => Ending.returned (.int .i64 z)) HC.symm, rfl⟩
end Go.Proofs.YtlppcfeimpcbjaaGreat


/- Shapes: are two the same; a copy. Tensors in memory. -/
namespace Go.Proofs.YtlppcfeimpcbjaaGreat
open Go.RowKit

theorem ne_at {a b : List Int} (j : Nat) (h1 : j < a.length) (h2 : j < b.length) (h : a[j] ≠ b[j]) : a ≠ b := by
  rintro rfl
  exact h rfl
theorem eq_of_all {a b : List Int} (hl : a.length = b.length) (h : ∀ (k : Nat) (h1 : k < a.length) (h2 : k < b.length), a[k] = b[k]) : a = b := List.ext_getElem hl h
theorem eq_step {a b : List Int} {j : Nat} (h : ∀ (k : Nat) (h1 : k < a.length) (h2 : k < b.length), k < j → a[k] = b[k]) (g : ∀ (h1 : j < a.length) (h2 : j < b.length), a[j] = b[j]) : ∀ (k : Nat) (h1 : k < a.length) (h2 : k < b.length), k < j + 1 → a[k] = b[k] := by
  intro k h1 h2 hk
  rcases Nat.lt_succ_iff_lt_or_eq.1 hk with hk | rfl
  · exact h k h1 h2 hk
  · exact g h1 h2

set_option maxHeartbeats 2000000 in
theorem sameshape_calls {S T : Nat → Prop} (w : World) (va vb : Value) (a b : List Int) (ha : Sl Im S w va a) (hb : Sl Im T w vb b) :
    Calls Tryz.prog 85 #[va, vb] w fun e w' => e = .returned (.bool (decide (a = b))) ∧ Fr (fun _ => True) w w' := by
  obtain ⟨A, c, rfl, _, _, hlx⟩ := ha.slice
  obtain ⟨A', c', rfl, _, _, hly⟩ := hb.slice
  obtain ⟨r, hr⟩ : ∃ r, r = decide (a = b) := ⟨_, rfl⟩
  rw [← hr]
  have HA := Lib.hid ha.any
  have HB := Lib.hid hb.any
  have HR := Lib.hid hr
  clear ha hb hr
  go_enter Tryz.func85, Tryz.ntmps85
  by_cases hl : a.length = b.length
  · have hli : ((a.length : Int) == (b.length : Int)) = true := by simp [hl]
    go_wp2_with fail
    go_loopw [5] (fun i wr => ∃ (n : Nat), i = .int .i64 n ∧ n ≤ a.length ∧ Hid (∀ (k : Nat) (h1 : k < a.length) (h2 : k < b.length), k < n → a[k] = b[k]) ∧ Fr (fun _ => True) w wr) (fun i _ => a.length - (intOf i).toNat)
    case atStart => exact ⟨0, rfl, by omega, Lib.hid (fun k _ _ hk => by omega), Fr.refl _ _⟩
    case round =>
      obtain ⟨n, rfl, hn, HE, G⟩ := hrel
      by_cases hlt : n < a.length
      · have hlt2 : n < b.length := by omega
        replace G := G.drew
        obtain ⟨ad, rfl, hx, _⟩ := Kd.int_cell (HA.out.fr G) (i := n) hlt
        obtain ⟨ad', rfl, hy, _⟩ := Kd.int_cell (HB.out.fr G) (i := n) hlt2
        have hst := eq_step HE.out
        have hno := ne_at n hlt hlt2
        generalize hX : a[n] = X at hx hno
        generalize hY : b[n] = Y at hy hno
        by_cases he : X = Y
        · subst he
          have HN := Lib.hid (hst fun _ _ => hX.trans hY.symm)
          clear hst hno hX hY HE
          go_wp2_with fail
          go_region
          all_goals
            go_wp2_with fail
            go_roundw
            case rel => exact ⟨n + 1, by go_num, by omega, HN, G⟩
            case measure => first | (simp [intOf]; done) | (simp [intOf]; omega)
        · have HN : r = false := HR.out.trans (decide_eq_false (hno he))
          clear hst hno hX hY HE
          go_wp2_with fail
          go_region
          all_goals
            go_wp2_with fail
            go_ret
            exact ⟨by first | rfl | exact congrArg (fun b : Bool => Ending.returned (.bool b)) HN.symm, G⟩
      · have HN : r = true := HR.out.trans (decide_eq_true (eq_of_all hl fun k h1 h2 => HE.out k h1 h2 (by omega)))
        go_wp2_with fail
        go_ret
        exact ⟨by first | rfl | exact congrArg (fun b : Bool => Ending.returned (.bool b)) HN.symm, G⟩
  · have hli : ((a.length : Int) == (b.length : Int)) = false := by rw [beq_eq_false_iff_ne]; omega
    have HN : r = false := HR.out.trans (decide_eq_false (by rintro rfl; exact hl rfl))
    go_wp2_with fail
    go_ret
    exact ⟨by first | rfl | exact congrArg (fun b : Bool => Ending.returned (.bool b)) HN.symm, Fr.refl _ _⟩

set_option maxHeartbeats 2000000 in
theorem slequal_calls {S T : Nat → Prop} (w : World) (va vb : Value) (a b : List Int) (ha : Sl Im S w va a) (hb : Sl Im T w vb b) :
    Calls Tryz.prog 64 #[va, vb] w fun e w' => e = .returned (.bool (decide (a = b))) ∧ Fr (fun _ => True) w w' := by
  obtain ⟨A, c, rfl, _, _, hlx⟩ := ha.slice
  obtain ⟨A', c', rfl, _, _, hly⟩ := hb.slice
  obtain ⟨r, hr⟩ : ∃ r, r = decide (a = b) := ⟨_, rfl⟩
  rw [← hr]
  have HA := Lib.hid ha.any
  have HB := Lib.hid hb.any
  have HR := Lib.hid hr
  clear ha hb hr
  go_enter Tryz.func64, Tryz.ntmps64
  by_cases hl : a.length = b.length
  · have hli : ((a.length : Int) == (b.length : Int)) = true := by simp [hl]
    go_wp2_with fail
    go_loopw [13] (fun i wr => ∃ (n : Nat), i = .int .i64 n ∧ n ≤ a.length ∧ Hid (∀ (k : Nat) (h1 : k < a.length) (h2 : k < b.length), k < n → a[k] = b[k]) ∧ Fr (fun _ => True) w wr) (fun i _ => a.length - (intOf i).toNat)
    case atStart => exact ⟨0, rfl, by omega, Lib.hid (fun k _ _ hk => by omega), Fr.refl _ _⟩
    case round =>
      obtain ⟨n, rfl, hn, HE, G⟩ := hrel
      by_cases hlt : n < a.length
      · have hlt2 : n < b.length := by omega
        replace G := G.drew
        obtain ⟨ad, rfl, hx, _⟩ := Kd.int_cell (HA.out.fr G) (i := n) hlt
        obtain ⟨ad', rfl, hy, _⟩ := Kd.int_cell (HB.out.fr G) (i := n) hlt2
        have hst := eq_step HE.out
        have hno := ne_at n hlt hlt2
        generalize hX : a[n] = X at hx hno
        generalize hY : b[n] = Y at hy hno
        by_cases he : X = Y
        · subst he
          have HN := Lib.hid (hst fun _ _ => hX.trans hY.symm)
          clear hst hno hX hY HE
          go_wp2_with fail
          go_region
          all_goals
            go_wp2_with fail
            go_roundw
            case rel => exact ⟨n + 1, by go_num, by omega, HN, G⟩
            case measure => first | (simp [intOf]; done) | (simp [intOf]; omega)
        · have HN : r = false := HR.out.trans (decide_eq_false (hno he))
          clear hst hno hX hY HE
          go_wp2_with fail
          go_region
          all_goals
            go_wp2_with fail
            go_ret
            exact ⟨by first | rfl | exact congrArg (fun b : Bool => Ending.returned (.bool b)) HN.symm, G⟩
      · have HN : r = true := HR.out.trans (decide_eq_true (eq_of_all hl fun k h1 h2 => HE.out k h1 h2 (by omega)))
        go_wp2_with fail
        go_ret
        exact ⟨by first | rfl | exact congrArg (fun b : Bool => Ending.returned (.bool b)) HN.symm, G⟩
  · have hli : ((a.length : Int) == (b.length : Int)) = false := by rw [beq_eq_false_iff_ne]; omega
    have HN : r = false := HR.out.trans (decide_eq_false (by rintro rfl; exact hl rfl))
    go_wp2_with fail
    go_ret
    exact ⟨by first | rfl | exact congrArg (fun b : Bool => Ending.returned (.bool b)) HN.symm, Fr.refl _ _⟩

theorem eqlNilS (W : World) (a : Option Addr) (n c : Nat) : (binOp .eql 23 (.slice a n c) (.slice none 0 0)).run Tryz.prog W = .ok (.bool a.isNone) W :=
  Lib.run_eql_slice_nil W 23 3 a n c 0 0 Tryz.underlying23

set_option maxHeartbeats 400000 in
theorem sclone_calls {S : Nat → Prop} (w : World) (v : Value) (xs : List Int) (h : Sl Im S w v xs) (hl : xs.length ≤ 1099511627000) :
    Calls Tryz.prog 88 #[v] w fun e w' => ∃ v, e = .returned v ∧ Own Im 3 (fun k => w.heap.size ≤ k) w' v xs ∧ Fr (fun k => k < w.heap.size) w w' := by
  obtain ⟨A, c, rfl, hcap, _, hlx⟩ := h.slice
  have he := eqlNilS
  cases A with
  | none =>
    obtain rfl : xs = [] := by
      obtain ⟨A', c', hv, _, _, _, h4⟩ := h
      cases xs with
      | nil => rfl
      | cons x xs => cases hv; obtain ⟨ad, h, _⟩ := h4 (by simp); cases h
    go_enter Tryz.func88, Tryz.ntmps88
    go_wp2_with fail
    go_ret
    exact ⟨_, rfl, Own.nil _ _ _ _, Fr.refl _ _⟩
  | some ad =>
    have hf := fun R => (Fr.refl R w).alloc (.cells #[] 3)
    have hsl := h.up Im_pos (Nat.le_refl _) (hf _)
    have H := Lib.hid hsl
    clear h hsl
    go_enter Tryz.func88, Tryz.ntmps88
    have hn1 : ∀ k, (w.alloc (.cells #[] 3)).heap.size ≤ k → w.heap.size ≤ k := fun k hk => by simp at hk; omega
    have hl1 : (([] : List Int).length + xs.length) * 8 ≤ 140737488355328 := by simp; omega
    have hl2 : ([] : List Int).length + xs.length ≤ 9223372036854775807 := by simp; omega
    have HN := Lib.hid (And.intro hn1 (And.intro hl1 hl2))
    clear hn1 hl1 hl2
    go_wp2_with (at_builtin; refine wpList_push (v := .slice (some ⟨w.heap.size, 0, none⟩) 0 0) imT rfl rfl rfl rfl (Own.empty Im 3 (S := fun k => w.heap.size ≤ k) w (Nat.le_refl _)) H.out (fun y cs h => Kd.int_any (S := fun k => k < w.heap.size) h) HN.out.1 HN.out.2.1 HN.out.2.2 ?_; intro v' w1 hown hfr hat)
    go_ret
    exact ⟨_, rfl, hown, (hf _).comp hfr fun k hk _ => ⟨hk, by simp [Value.ownBlock]; omega⟩⟩
end Go.Proofs.YtlppcfeimpcbjaaGreat

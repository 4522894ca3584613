
/- Texts merged: FoA, FoP, FoC. -/
import Derived.Test.YtlppcfeimpcbjaaGreatPointB
import Derived.Test.YtlppcfeimpcbjaaGreatTenQT
import Derived.Test.YtlppcfeimpcbjaaGreatPuZ
import Derived.Test.YtlppcfeimpcbjaaGreatIdxAB
set_option linter.unusedSimpArgs false
set_option linter.unusedVariables false

/- fold.every: all twos of numbers, gone over. -/
namespace Go.Proofs.YtlppcfeimpcbjaaGreat
open Go.RowKit Go.Shelf
attribute [local go_sem] Oper.semAt_some

/-- what doesn't panic -/
def Calm (Q : Exit → Act → World → Prop) (e : Exit) (a : Act) (w : World) : Prop := (∀ c, e ≠ .panic c) ∧ Q e a w
theorem wp_calm {P : Program} {c : Code} {Q : Exit → Act → World → Prop} {a : Act} {w : World} (h : c.wp P (Calm Q) a w) : c.wp P Q a w := Code.wp_mono (fun _ _ _ h => h.2) h
theorem divmod_at {c i j : Nat} (hj : j < c) : (i * c + j) / c = i ∧ (i * c + j) % c = j := by
  have hc : 0 < c := by omega
  rw [Nat.mul_comm i c]
  exact ⟨by rw [Nat.mul_add_div hc, Nat.div_eq_of_lt hj, Nat.add_zero], by rw [Nat.mul_add_mod, Nat.mod_eq_of_lt hj]⟩
theorem row_lt {a c i j : Nat} (hi : i < a) (hj : j < c) : i * c + j < a * c :=
  Nat.lt_of_lt_of_le (Nat.add_lt_add_left hj _) (by rw [← Nat.succ_mul]; exact Nat.mul_le_mul_right c hi)

set_option maxRecDepth 100000 in
set_option maxHeartbeats 4000000 in
theorem every1_in (l B1 B2 a c : Nat) (S : Nat → Prop) (ha : a ≤ 1099511627000) (hc : c ≤ 1099511627000) (J Jx : List (Fin (a * c)) → World → Prop) (W : World)
    (hb1 : Box W B1 3 (.int .i64 a)) (hb2 : Box W B2 3 (.int .i64 c)) (hS1 : S B1) (hS2 : S B2) (hJ : AbidesFrom W.heap.size J)
    (hY : ∀ pre x W1, J pre W1 → pre.length < a * c → YieldAt Fence.wide (2 - 1) Tryz.prog l #[.int .i64 (x.val / c : Nat), .int .i64 (x.val % c : Nat)] W1 fun e W' =>
      (e = .returned (.bool true) ∧ J (pre ++ [x]) W' ∧ Fr S W1 W') ∨ (e = .returned (.bool false) ∧ Jx (pre ++ [x]) W'))
    (h0 : J [] W) :
    CallsIn Fence.wide 2 Tryz.prog 103 #[.func (.yield l) #[] #[], .pointer (some ⟨B1, 0, none⟩), .pointer (some ⟨B2, 0, none⟩)] W fun e W' => (∃ v, e = .returned v) ∧
      ((∃ ys, ys = List.finRange (a * c) ∧ J ys W') ∨ (∃ pre, pre <+: List.finRange (a * c) ∧ Jx pre W')) := by
  have k1 := hb1.cell
  have HY := Lib.hid hY
  clear hJ hY
  refine callsIn_of_wp Tryz.func103 rfl trivial ?_ rfl
  simp only [Tryz.ntmps103, List.size_toArray, List.length_cons, List.length_nil, Nat.reduceAdd, Nat.reduceSub, Array.replicate_succ, Array.replicate_zero, List.push_toArray, List.append_toArray, List.nil_append, List.cons_append]
  gi_wp2
  gi_loopw [7] (fun i wr => ∃ k : Nat, k ≤ a ∧ i = .int .i64 (k : Int) ∧ J ((List.finRange (a * c)).take (k * c)) wr ∧ Fr S W wr) (fun i _ => a - (intOf i).toNat)
  case atStart => exact ⟨0, Nat.zero_le _, by simp, by simpa using h0, Fr.refl _ _⟩
  case round =>
    clear k1
    obtain ⟨i, hi, rfl, hJs, hF⟩ := hrel
    by_cases hlt : i < a
    · have k2 := (hb2.fr hF hS2).cell
      have HF := Lib.hid hF
      have HJs := Lib.hid hJs
      clear hF hJs
      gi_wp2
      clear k2
      gi_loopw [11] (fun i2 wr => ∃ j : Nat, j ≤ c ∧ i2 = .int .i64 (j : Int) ∧ J ((List.finRange (a * c)).take (i * c + j)) wr ∧ Fr S W wr) (fun i2 _ => c - (intOf i2).toNat)
      case atStart => exact ⟨0, Nat.zero_le _, by simp, by simpa using HJs.out, HF.out⟩
      case round =>
        clear HF HJs
        obtain ⟨j, hj, rfl, hJs, hF⟩ := hrel
        by_cases hlj : j < c
        · obtain ⟨fn, tmps, assign, body, hy, hR⟩ := HY.out _ ⟨i * c + j, row_lt hlt hlj⟩ _ hJs (by rw [List.length_take, List.length_finRange]; have := row_lt hlt hlj; omega)
          simp only [(divmod_at hlj).1, (divmod_at hlj).2] at hy
          have HF := Lib.hid hF
          have HR := Lib.hid hR
          clear hJs hF hR
          gi_wp2
          refine HR.out.mono ?_
          rintro e W3 hd
          obtain ⟨b, rfl, HD⟩ : ∃ b, e = .returned (.bool b) ∧ Hid ((b = true ∧ J ((List.finRange (a * c)).take (i * c + j) ++ [⟨i * c + j, row_lt hlt hlj⟩]) W3 ∧ Fr S wr W3) ∨ (b = false ∧ Jx ((List.finRange (a * c)).take (i * c + j) ++ [⟨i * c + j, row_lt hlt hlj⟩]) W3)) := (by rcases hd with ⟨rfl, h⟩ | ⟨rfl, h⟩; exact ⟨true, rfl, Lib.hid (.inl ⟨rfl, h⟩)⟩; exact ⟨false, rfl, Lib.hid (.inr ⟨rfl, h⟩)⟩)
          clear hd
          rcases HD.out with ⟨rfl, hJ3, hk3⟩ | ⟨rfl, hJx3⟩
          · gi_wp2
            go_roundw
            case rel => exact ⟨j + 1, by omega, by congr 1, by rw [← Nat.add_assoc, fin_take (row_lt hlt hlj)]; exact hJ3, HF.out.trans hk3⟩
            case measure => simp [intOf]; omega
          · gi_wp2
            refine bodyPost_ret (results_none rfl _ _ _) rfl ?_
            exact ⟨⟨_, rfl⟩, .inr ⟨_, by rw [← fin_take (row_lt hlt hlj)]; exact List.take_prefix _ _, hJx3⟩⟩
        · obtain rfl : j = c := by omega
          gi_wp2
          go_roundw
          case rel => exact ⟨i + 1, by omega, by congr 1, by rw [Nat.succ_mul]; exact hJs, hF⟩
          case measure => simp [intOf]; omega
    · obtain rfl : i = a := by omega
      gi_wp2
      go_end0
      exact ⟨⟨_, rfl⟩, .inl ⟨_, rfl, by rwa [List.take_of_length_le (by rw [List.length_finRange]; exact Nat.le_refl _)] at hJs⟩⟩

theorem every_stops (S : Nat → Prop) (w : World) (B1 B2 a c : Nat) (ha : a ≤ 1099511627000) (hc : c ≤ 1099511627000)
    (hb1 : Box w B1 3 (.int .i64 a)) (hb2 : Box w B2 3 (.int .i64 c)) (hS1 : S B1) (hS2 : S B2) :
    SeqStopsK Fence.wide 2 Tryz.prog 103 #[.pointer (some ⟨B1, 0, none⟩), .pointer (some ⟨B2, 0, none⟩)] (fun x : Fin (a * c) => #[.int .i64 (x.val / c : Nat), .int .i64 (x.val % c : Nat)]) (Fr S) (fun ys => ys = List.finRange (a * c)) (fun pre => pre <+: List.finRange (a * c)) (a * c) w :=
  fun l J Jx W hW hJ _ hY h0 =>
    have hf := Fr.of_below hW
    every1_in l B1 B2 a c S ha hc J Jx W (hb1.fr hf hb1.lt) (hb2.fr hf hb2.lt) hS1 hS2 hJ hY h0
theorem every_t (w : World) (a c : Int) :
    Calls Tryz.prog 61 #[.int .i64 a, .int .i64 c] w fun e w' => e = .returned (.func (.func 103) #[] #[.pointer (some ⟨w.heap.size, 0, none⟩), .pointer (some ⟨w.heap.size + 1, 0, none⟩)]) ∧ Box w' w.heap.size 3 (.int .i64 a) ∧ Box w' (w.heap.size + 1) 3 (.int .i64 c) ∧ Fr (fun k => k < w.heap.size) w w' := by
  have F := ((Fr.refl (fun k => k < w.heap.size) w).alloc (.cells #[.int .i64 a] 3)).alloc (.cells #[.int .i64 c] 3)
  have b1 := (Box.new w 3 (.int .i64 a)).alloc (.cells #[.int .i64 c] 3)
  have b2 := Box.new (w.alloc (.cells #[.int .i64 a] 3)) 3 (.int .i64 c)
  rw [World.size_alloc] at b2
  go_enter Tryz.func61, Tryz.ntmps61
  go_wp2_with fail
  go_ret
  exact ⟨rfl, b1, b2, F⟩
theorem pr_two (a b : Nat) : pr [(a : Int), (b : Int)] = ((a * b : Nat) : Int) := by simp [pr]
/-- the dimensions of a matrix that may be -/
theorem two_dims {sh : List Int} {es : List RatL} (h : mayT sh es = 0) (hl : sh.length = 2) : ∃ a b : Nat, sh = [(a : Int), (b : Int)] ∧ 1 ≤ a ∧ 1 ≤ b ∧ a ≤ 1024 ∧ b ≤ 1024 ∧ es.length = a * b := by
  obtain ⟨h1, h2, _⟩ := mayT_ok h
  obtain ⟨_, h3, h4⟩ := mayS_ok h1
  rw [cntS_ok h1] at h2
  match sh, hl with
  | [x, y], _ =>
    have hx := h3 x (by simp)
    have hy := h3 y (by simp)
    obtain ⟨a, rfl⟩ : ∃ a : Nat, x = a := ⟨x.toNat, by omega⟩
    obtain ⟨b, rfl⟩ : ∃ b : Nat, y = b := ⟨y.toNat, by omega⟩
    rw [pr_two] at h2 h4
    have h5 : a * b ≤ 1024 := by omega
    have ha : a ≤ a * b := Nat.le_mul_of_pos_right a (by omega)
    have hb : b ≤ a * b := Nat.le_mul_of_pos_left b (by omega)
    exact ⟨a, b, rfl, by omega, by omega, by omega, by omega, by omega⟩
end Go.Proofs.YtlppcfeimpcbjaaGreat


/- The plain law of chapter 10: finite sums, products of matrices, sums over places. -/
namespace Go.Proofs.YtlppcfeimpcbjaaGreat
open Go.RowKit

/-- f 0 and so on, n of them, summed up -/
def sumN (f : Nat → Rat) : Nat → Rat
  | 0 => 0
  | n + 1 => sumN f n + f n
/-! ### Sizes -/
theorem lens_add' {M N : Nat} {x y : Rat} (hx : Lens M x) (hy : Lens N y) : Lens (M + N + 1) (x + y) := by
  have a1 := lt_of_dg hx.1
  have a2 := lt_of_dg hx.2
  have b1 := lt_of_dg hy.1
  have b2 := lt_of_dg hy.2
  have hpow : LB ^ (M + N + 1) = LB ^ M * LB ^ N * LB := by rw [Nat.pow_succ, Nat.pow_add]
  have h1 : x.num.natAbs * y.den ≤ LB ^ M * LB ^ N := Nat.mul_le_mul (Nat.le_of_lt a1) (Nat.le_of_lt b2)
  have h2 : y.num.natAbs * x.den ≤ LB ^ M * LB ^ N := by rw [Nat.mul_comm (LB ^ M)]; exact Nat.mul_le_mul (Nat.le_of_lt b1) (Nat.le_of_lt a2)
  have h3 : x.den * y.den ≤ LB ^ M * LB ^ N := Nat.mul_le_mul (Nat.le_of_lt a2) (Nat.le_of_lt b2)
  have hp : 0 < LB ^ M * LB ^ N := Nat.mul_pos (Nat.pow_pos LBpos) (Nat.pow_pos LBpos)
  have hb : LB ^ M * LB ^ N * 4294967296 = LB ^ (M + N + 1) := by rw [hpow]; rfl
  refine lens_mk (Nat.mul_pos x.den_pos y.den_pos) (Rat.add_def' x y) ?_ ?_
  · refine Nat.lt_of_le_of_lt (Int.natAbs_add_le _ _) ?_
    rw [Int.natAbs_mul, Int.natAbs_mul, Int.natAbs_natCast, Int.natAbs_natCast]
    omega
  · omega
theorem lens_mul' {M N : Nat} {x y : Rat} (hx : Lens M x) (hy : Lens N y) : Lens (M + N) (x * y) := by
  have a1 := lt_of_dg hx.1
  have a2 := lt_of_dg hx.2
  have b1 := lt_of_dg hy.1
  have b2 := lt_of_dg hy.2
  refine lens_mk (Nat.mul_pos x.den_pos y.den_pos) (Rat.mul_def' x y) ?_ ?_
  · rw [Int.natAbs_mul, Nat.pow_add]
    exact Nat.mul_lt_mul'' a1 b1
  · rw [Nat.pow_add]
    exact Nat.mul_lt_mul'' a2 b2
theorem lens_0 {M : Nat} (h : 1 ≤ M) : Lens M 0 := ⟨by rw [show (0 : Rat).num.natAbs = 0 from rfl, dg_zero]; exact Nat.zero_le _, one_len h⟩
theorem lens_sum {M : Nat} {f : Nat → Rat} : ∀ {n : Nat}, (∀ i, i < n → Lens M (f i)) → Lens (n * (M + 1) + 1) (sumN f n)
  | 0, _ => lens_0 (by omega)
  | n + 1, h => (lens_add' (lens_sum (n := n) fun i hi => h i (by omega)) (h n (by omega))).wide (by rw [Nat.succ_mul]; omega)
theorem lens_at {M : Nat} {l : List Rat} (h : LensL M l) (hM : 1 ≤ M) (i : Nat) : Lens M (l.getD i 0) := by
  rw [List.getD_eq_getElem?_getD]
  by_cases hi : i < l.length
  · rw [List.getElem?_eq_getElem hi]
    exact h _ (List.getElem_mem hi)
  · rw [List.getElem?_eq_none (by omega)]
    exact lens_0 hM

/-! ### Products of matrices -/
/-- An element of a product of matrices: the first k products' sum. -/
def mmS (qa qb : List Rat) (b c n k : Nat) : Rat := sumN (fun k => qa.getD (n / c * b + k) 0 * qb.getD (k * c + n % c) 0) k
theorem mmS_step (qa qb : List Rat) (b c n k : Nat) : mmS qa qb b c n (k + 1) = mmS qa qb b c n k + qa.getD (n / c * b + k) 0 * qb.getD (k * c + n % c) 0 := rfl
def mmL (qa qb : List Rat) (a b c : Nat) : List Rat := (List.range (a * c)).map fun n => mmS qa qb b c n b
theorem mmL_len (qa qb : List Rat) (a b c : Nat) : (mmL qa qb a b c).length = a * c := by rw [mmL, List.length_map, List.length_range]
theorem getD_map_range (f : Nat → Rat) (n i : Nat) (h : i < n) : ((List.range n).map f).getD i 0 = f i := by
  rw [List.getD_eq_getElem?_getD, List.getElem?_map, List.getElem?_range h]
  rfl
theorem lt_row {a c n : Nat} (h : n < a * c) : n / c < a ∧ n % c < c := by
  have hc : 0 < c := by
    rcases Nat.eq_zero_or_pos c with rfl | h'
    · rw [Nat.mul_zero] at h; omega
    · exact h'
  exact ⟨Nat.div_lt_of_lt_mul (by rwa [Nat.mul_comm]), Nat.mod_lt _ hc⟩
theorem getD_ext {l m : List Rat} (hl : l.length = m.length) (h : ∀ i, i < l.length → l.getD i 0 = m.getD i 0) : l = m :=
  List.ext_getElem hl fun i h1 h2 => by
    have := h i h1
    rwa [List.getD_eq_getElem?_getD, List.getD_eq_getElem?_getD, List.getElem?_eq_getElem h1, List.getElem?_eq_getElem h2] at this
theorem lens_mm {M N : Nat} {x y : List Rat} (hx : LensL M x) (hy : LensL N y) (hM : 1 ≤ M) (hN : 1 ≤ N) (b c n k : Nat) : Lens (k * (M + N + 1) + 1) (mmS x y b c n k) :=
  lens_sum fun i _ => lens_mul' (lens_at hx hM _) (lens_at hy hN _)
/-! ### Sums over places -/
/-- the sum of the first i numbers whose place is n -/
def sumP (pl : Nat → Nat) (q : List Rat) (n i : Nat) : Rat := sumN (fun j => if pl j = n then q.getD j 0 else 0) i
/-- those of all places below N -/
def sumL (pl : Nat → Nat) (q : List Rat) (N i : Nat) : List Rat := (List.range N).map fun n => sumP pl q n i
theorem sumL_len (pl : Nat → Nat) (q : List Rat) (N i : Nat) : (sumL pl q N i).length = N := by rw [sumL, List.length_map, List.length_range]
theorem sumL_at (pl : Nat → Nat) (q : List Rat) {N i n : Nat} (h : n < N) : (sumL pl q N i).getD n 0 = sumP pl q n i := getD_map_range _ _ _ h
theorem sumL_0 (pl : Nat → Nat) (q : List Rat) (N : Nat) : sumL pl q N 0 = List.replicate N 0 := by
  rw [sumL, List.eq_replicate_iff]
  exact ⟨by rw [List.length_map, List.length_range], fun b hb => by obtain ⟨n, _, rfl⟩ := List.mem_map.1 hb; rfl⟩
theorem sumL_step (pl : Nat → Nat) (q : List Rat) {N i : Nat} (h : pl i < N) : sumL pl q N (i + 1) = (sumL pl q N i).set (pl i) ((sumL pl q N i).getD (pl i) 0 + q.getD i 0) := by
  refine getD_ext (by rw [List.length_set, sumL_len, sumL_len]) fun n hn => ?_
  rw [sumL_len] at hn
  rw [sumL_at _ _ hn, sumL_at _ _ h, List.getD_eq_getElem?_getD, List.getElem?_set, sumP, sumN]
  by_cases he : pl i = n
  · subst he
    rw [if_pos rfl, if_pos rfl, sumL_len, if_pos hn]
    rfl
  · rw [if_neg he, if_neg he, Rat.add_zero, ← List.getD_eq_getElem?_getD, sumL_at _ _ hn]
    rfl
/-! ### Axes -/
/-- A list without the places that are named. -/
def dropI (axes : List Int) : Nat → List Int → List Int
  | _, [] => []
  | i, x :: xs => if (i : Int) ∈ axes then dropI axes (i + 1) xs else x :: dropI axes (i + 1) xs
theorem drop_mem {axes : List Int} : ∀ {i : Nat} {l : List Int} {x : Int}, x ∈ dropI axes i l → x ∈ l
  | _, [], _, h => h
  | i, y :: l, x, h => by
    rw [dropI] at h
    split at h
    · exact List.mem_cons_of_mem _ (drop_mem h)
    · rcases List.mem_cons.1 h with rfl | h
      · exact List.mem_cons_self
      · exact List.mem_cons_of_mem _ (drop_mem h)
theorem drop_len {axes : List Int} : ∀ {i : Nat} {l : List Int}, (dropI axes i l).length ≤ l.length
  | _, [] => Nat.le_refl _
  | i, y :: l => by
    rw [dropI]
    have := drop_len (axes := axes) (i := i + 1) (l := l)
    split
    · rw [List.length_cons]; omega
    · rw [List.length_cons, List.length_cons]; omega
theorem drop_pr {axes : List Int} : ∀ {i : Nat} {l : List Int}, (∀ d ∈ l, 1 ≤ d) → pr (dropI axes i l) ≤ pr l
  | _, [], _ => Int.le_refl _
  | i, y :: l, h => by
    have hy := h y List.mem_cons_self
    have hl : ∀ d ∈ l, 1 ≤ d := fun d hd => h d (List.mem_cons_of_mem _ hd)
    have ih := drop_pr (axes := axes) (i := i + 1) hl
    have hp := pr_pos hl
    rw [dropI]
    split
    · refine Int.le_trans ih ?_
      rw [pr]
      have := Int.mul_le_mul_of_nonneg_right hy (show 0 ≤ pr l by omega)
      omega
    · rw [pr, pr]
      exact Int.mul_le_mul_of_nonneg_left ih (by omega)
theorem drop_may {axes : List Int} {l : List Int} (h : mayS l = 0) : mayS (dropI axes 0 l) = 0 := by
  obtain ⟨h1, h2, h3⟩ := mayS_ok h
  refine mayS_0 ?_ (fun d hd => h2 d (drop_mem hd)) ?_
  · have := drop_len (axes := axes) (i := 0) (l := l); omega
  · have := drop_pr (axes := axes) (i := 0) h2; omega
theorem drop_in {axes : List Int} : ∀ {i : Nat} {s l : List Int}, inL s l → inL (dropI axes i s) (dropI axes i l)
  | _, [], [], _ => trivial
  | i, d :: s, x :: l, h => by
    rw [dropI, dropI]
    by_cases hx : (i : Int) ∈ axes
    · rw [if_pos hx, if_pos hx]; exact drop_in h.2.2
    · rw [if_neg hx, if_neg hx]; exact ⟨h.1, h.2.1, drop_in h.2.2⟩
  | _, [], _ :: _, h => h.elim
  | _, _ :: _, [], h => h.elim
/-- the place of what lies at place j, in a shape without some axes -/
def plc (sh axes : List Int) (j : Nat) : Nat := (ofsL (dropI axes 0 sh) (dropI axes 0 (seqI sh j))).toNat
theorem plc_lt {sh axes : List Int} (h : ∀ d ∈ sh, 1 ≤ d) {j : Nat} (hj : (j : Int) < pr sh) : (plc sh axes j : Int) = ofsL (dropI axes 0 sh) (dropI axes 0 (seqI sh j)) ∧ (plc sh axes j : Int) < pr (dropI axes 0 sh) := by
  have := ofsL_lt (drop_in (axes := axes) (i := 0) (seq_in h hj).1)
  unfold plc
  omega
/-- do axes rise, from 0 on? -/
def Rise (axes : List Int) : Prop := ∀ i, i < axes.length → 0 ≤ axes.getD i 0 ∧ (0 < i → axes.getD (i - 1) 0 < axes.getD i 0)
instance (axes : List Int) : Decidable (Rise axes) := by unfold Rise; exact inferInstance
/-- Why a rank has no such axes. -/
def axE (axes : List Int) (n : Nat) : Int := if Rise axes then (if ∀ x ∈ axes, x < n then 0 else 13) else 11
end Go.Proofs.YtlppcfeimpcbjaaGreat


/- Shapes without some axes: slices.Index, slices.Contains, shape.Drop, shape.Axes. -/
namespace Go.Proofs.YtlppcfeimpcbjaaGreat
open Go.RowKit Go.Shelf
attribute [local go_sem] Oper.semAt_some

set_option maxHeartbeats 2000000 in
theorem slindex_t {S : Nat → Prop} (w : World) (v : Value) (xs : List Int) (x : Int) (h : Sl Im S w v xs) :
    Calls Tryz.prog 143 #[v, .int .i64 x] w fun e w' => ∃ r : Int, e = .returned (.int .i64 r) ∧ Hid (0 ≤ r ↔ x ∈ xs) ∧ w' = w := by
  obtain ⟨A, c, rfl, _, _, hlx⟩ := h.slice
  have H := Lib.hid h
  clear h
  go_enter Tryz.func143, Tryz.ntmps143
  go_wp2_with fail
  go_loop [8] (fun i => ∃ (j : Nat), j ≤ xs.length ∧ i = .int .i64 j ∧ Hid (x ∉ xs.take j)) (fun i => xs.length - (intOf i).toNat)
  case atStart => exact ⟨0, Nat.zero_le _, rfl, Lib.hid (by simp)⟩
  case round =>
    obtain ⟨j, hj, rfl, HX⟩ := hrel
    by_cases hlt : j < xs.length
    · obtain ⟨ad, rfl, hx, hx1, hx2⟩ := Kd.int_cell H.out (i := j) hlt
      have HM := Lib.hid (List.getElem_mem hlt)
      have HT := Lib.hid (List.take_append_getElem hlt)
      generalize xs[j] = d at hx hx1 hx2 HM HT
      by_cases he : x = d
      · subst he
        go_wp2_with fail
        go_ret
        exact ⟨_, rfl, Lib.hid ⟨fun _ => HM.out, fun _ => by omega⟩, rfl⟩
      · have hb : (x == d) = false := beq_eq_false_iff_ne.2 he
        go_wp2_with fail
        go_round
        case rel => exact ⟨j + 1, by omega, by go_num, Lib.hid (by rw [← HT.out, List.mem_append, List.mem_singleton]; exact fun h => h.elim HX.out he)⟩
        case measure => simp [intOf]; omega
    · obtain rfl : j = xs.length := by omega
      go_wp2_with fail
      go_ret
      exact ⟨_, rfl, Lib.hid ⟨fun h => absurd h (by decide), fun h => absurd h (by have := HX.out; rwa [List.take_length] at this)⟩, rfl⟩
theorem scontains_t {S : Nat → Prop} (w : World) (v : Value) (xs : List Int) (x : Int) (b : Bool) (hb : Hid (decide (x ∈ xs) = b)) (h : Sl Im S w v xs) :
    Calls Tryz.prog 124 #[v, .int .i64 x] w fun e w' => e = .returned (.bool b) ∧ w' = w := by
  obtain ⟨A, c, rfl, _, _, hlx⟩ := h.slice
  have P := Lib.hid (slindex_t w _ xs x h)
  clear h
  go_enter Tryz.func124, Tryz.ntmps124
  go_wp2_with fail
  with_reducible refine P.out.mono ?_
  rintro e u ⟨r, rfl, hr, rfl⟩
  go_wp2_with fail
  go_ret
  exact ⟨by first | rfl | exact congrArg (fun b => Ending.returned (Value.bool b)) ((decide_eq_decide.2 hr.out).trans hb.out), rfl⟩
theorem drop1_t (w : World) (A : Option Addr) (n c : Nat) :
    Calls Tryz.prog 92 #[.slice A n c] w fun e w' => e = .returned (.slice A n c) ∧ w' = w := by
  go_enter Tryz.func92, Tryz.ntmps92
  go_wp2_with fail
  go_ret
  exact ⟨rfl, rfl⟩
theorem drop_snoc {axes : List Int} {x : Int} : ∀ {i : Nat} {l : List Int}, dropI axes i (l ++ [x]) = dropI axes i l ++ (if ((i + l.length : Nat) : Int) ∈ axes then [] else [x])
  | i, [] => by
    rw [List.nil_append, dropI, dropI, dropI, List.nil_append]
    rfl
  | i, y :: l => by
    rw [List.cons_append, dropI, dropI, drop_snoc, List.length_cons, show i + 1 + l.length = i + (l.length + 1) by omega]
    split
    · rfl
    · rfl
set_option maxHeartbeats 4000000 in
theorem shturned_t {S T : Nat → Prop} (w : World) (va vb : Value) (sh axes : List Int) (ha : Sl Im S w va sh) (hb : Sl Im T w vb axes) (hl : sh.length ≤ 1099511627000) :
    Calls Tryz.prog 91 #[va, vb, .func (.func 92) #[] #[]] w fun e w' => ∃ v, e = .returned v ∧ Own Im 3 (fun k => w.heap.size ≤ k) w' v (dropI axes 0 sh) ∧ Fr (fun k => k < w.heap.size) w w' := by
  obtain ⟨A, c, rfl, _, _, hlx⟩ := ha.slice
  obtain ⟨A', c', rfl, _, _, hly⟩ := hb.slice
  have HA := Lib.hid (ha.low Im_pos)
  have HB := Lib.hid (hb.low Im_pos)
  clear ha hb
  go_enter Tryz.func91, Tryz.ntmps91
  go_wp2_with fail
  go_loopw [6, 11] (fun o i wr => ∃ (j : Nat), j ≤ sh.length ∧ i = .int .i64 j ∧ Own Im 3 (fun k => w.heap.size ≤ k) wr o (dropI axes 0 (sh.take j)) ∧ Fr (fun k => k < w.heap.size) w wr) (fun _ i _ => sh.length - (intOf i).toNat)
  case atStart => exact ⟨0, Nat.zero_le _, rfl, Own.nil _ _ _ _, Fr.refl _ _⟩
  case round =>
    obtain ⟨j, hj, rfl, ho, F⟩ := hrel
    obtain ⟨B, n, d, hB⟩ := ho.form
    subst hB
    by_cases hlt : j < sh.length
    · have HS := HA.out.fr F
      have HX := HB.out.fr F
      obtain ⟨ad, rfl, hx, hx1, hx2⟩ := Kd.int_cell HS (i := j) hlt
      have htk : sh.take (j + 1) = sh.take j ++ [sh[j]] := (List.take_append_getElem hlt).symm
      have hle : (dropI axes 0 (sh.take j)).length ≤ j := Nat.le_trans drop_len (by rw [List.length_take]; omega)
      have hsn : dropI axes 0 (sh.take (j + 1)) = dropI axes 0 (sh.take j) ++ (if (j : Int) ∈ axes then [] else [sh[j]]) := by
        rw [htk, drop_snoc, List.length_take, show 0 + min j sh.length = j by omega]
      have HSN := Lib.hid hsn
      clear htk hsn
      generalize sh[j] = y at hx hx1 hx2 HSN
      obtain ⟨b, hb⟩ : ∃ b, decide ((j : Int) ∈ axes) = b := ⟨_, rfl⟩
      have P := Lib.hid (scontains_t wr (.slice A' axes.length c') axes (j : Int) b (Lib.hid hb) HX)
      have HBB := Lib.hid hb
      clear hb HS HX
      go_wp2_with fail
      with_reducible refine P.out.mono ?_
      rintro e u ⟨rfl, hu⟩
      subst hu
      cases b with
      | true =>
        rw [if_pos (of_decide_eq_true HBB.out), List.append_nil] at HSN
        go_wp2_with fail
        with_reducible refine (drop1_t _ _ _ _).mono ?_
        rintro e u ⟨rfl, hu⟩
        subst hu
        go_wp2_with fail
        go_roundw
        case rel => exact ⟨j + 1, by omega, by go_num, by rw [HSN.out]; exact ho, F⟩
        case measure => simp [intOf]; omega
      | false =>
        rw [if_neg (of_decide_eq_false HBB.out)] at HSN
        have hrd : Im.rd (fun _ => False) u y [.int .i64 y] := ⟨rfl, hx1, hx2⟩
        have HR := Lib.hid hrd
        have HLn := Lib.hid (show ((dropI axes 0 (sh.take j)).length + 1) * 8 ≤ 140737488355328 ∧ (dropI axes 0 (sh.take j)).length + 1 ≤ 9223372036854775807 by omega)
        clear hrd hle
        go_wp2_with (at_builtin; refine wpList_push1 (v := .slice B n d) imT rfl rfl rfl rfl ho HR.out (fun _ h => h.elim) (fun k hk => by have := F.size; omega) HLn.out.1 HLn.out.2 ?_; intro v' w1 hown hfr hat; obtain ⟨B1, n1, d1, rfl⟩ := hown.form)
        go_roundw
        case rel => exact ⟨j + 1, by omega, by go_num, by rw [HSN.out]; exact hown, F.push ho hfr (fun k hk _ => by omega)⟩
        case measure => simp [intOf]; omega
    · obtain rfl : j = sh.length := by omega
      rw [List.take_length] at ho
      go_wp2_with fail
      go_ret
      exact ⟨_, rfl, ho, F⟩
theorem sdrop_t {S T : Nat → Prop} (w : World) (va vb : Value) (sh axes : List Int) (ha : Sl Im S w va sh) (hb : Sl Im T w vb axes) (hl : sh.length ≤ 1099511627000) :
    Calls Tryz.prog 43 #[va, vb] w fun e w' => ∃ v, e = .returned v ∧ Own Im 3 (fun k => w.heap.size ≤ k) w' v (dropI axes 0 sh) ∧ Fr (fun k => k < w.heap.size) w w' := by
  obtain ⟨A, c, rfl, _, _, hlx⟩ := ha.slice
  obtain ⟨A', c', rfl, _, _, hly⟩ := hb.slice
  have P := Lib.hid (shturned_t w _ _ sh axes ha hb hl)
  clear ha hb
  go_enter Tryz.func43, Tryz.ntmps43
  go_wp2_with fail
  with_reducible refine P.out.mono ?_
  rintro e u ⟨v, rfl, ho, hf⟩
  obtain ⟨B, n, d, rfl⟩ := ho.form
  go_wp2_with fail
  go_ret
  exact ⟨_, rfl, ho, hf⟩
/-- Why a list isn't of axes, as layer 6 has it. -/
def axE6 (axes : List Int) (n : Nat) : Int := if Rise axes ∧ ∀ x ∈ axes, x < n then 0 else 11
set_option maxHeartbeats 4000000 in
theorem saxes_t {S : Nat → Prop} (w : World) (v : Value) (axes : List Int) (n : Nat) (r : Int) (hr : Hid (axE6 axes n = r)) (h : Sl Im S w v axes) :
    Calls Tryz.prog 87 #[v, .int .i64 (n : Int)] w fun e w' => e = .returned (.int .i64 r) ∧ w' = w := by
  obtain ⟨A, c, rfl, _, _, hlx⟩ := h.slice
  have H := Lib.hid h
  clear h
  go_enter Tryz.func87, Tryz.ntmps87
  go_wp2_with fail
  go_loop [5, 10] (fun l i => ∃ (j : Nat) (m : Int), j ≤ axes.length ∧ i = .int .i64 j ∧ l = .int .i64 m ∧ -1 ≤ m ∧ Hid (m = if j = 0 then -1 else axes.getD (j - 1) 0) ∧ Hid (∀ k, k < j → (0 ≤ axes.getD k 0 ∧ (0 < k → axes.getD (k - 1) 0 < axes.getD k 0)) ∧ axes.getD k 0 < n)) (fun _ i => axes.length - (intOf i).toNat)
  case atStart => exact ⟨0, -1, Nat.zero_le _, rfl, rfl, by omega, Lib.hid rfl, Lib.hid (fun k hk => by omega)⟩
  case round =>
    obtain ⟨j, m, hj, rfl, rfl, hm0, HM, HK⟩ := hrel
    by_cases hlt : j < axes.length
    · obtain ⟨ad, rfl, hx, hx1, hx2⟩ := Kd.int_cell H.out (i := j) hlt
      have HG := Lib.hid (getI_at hlt)
      have HMem := Lib.hid (List.getElem_mem hlt)
      generalize axes[j] = d at hx hx1 hx2 HG HMem
      have hbad : (d ≤ m ∨ (n : Int) ≤ d) → r = 11 := fun hc => hr.out.symm.trans (if_neg fun ⟨h1, h2⟩ => by
        have h3 := h1 j hlt
        have h4 := h2 _ HMem.out
        rw [HG.out] at h3
        rcases hc with hc | hc
        · rw [HM.out] at hc
          by_cases h0 : j = 0
          · rw [if_pos h0] at hc; omega
          · rw [if_neg h0] at hc; have := h3.2 (by omega); omega
        · omega)
      by_cases h1 : d ≤ m
      · have HN := hbad (.inl h1)
        clear hbad
        go_wp2_with fail
        go_ret
        exact ⟨by first | rfl | (rw [HN]; rfl), rfl⟩
      · by_cases h2 : (n : Int) ≤ d
        · have HN := hbad (.inr h2)
          clear hbad
          go_wp2_with fail
          go_ret
          exact ⟨by first | rfl | (rw [HN]; rfl), rfl⟩
        · clear hbad
          go_wp2_with fail
          go_round
          case rel =>
            refine ⟨j + 1, d, by omega, by go_num, rfl, by omega, Lib.hid (by rw [if_neg (by omega), Nat.add_sub_cancel]; exact HG.out.symm), Lib.hid fun k hk => ?_⟩
            rcases Nat.lt_succ_iff_lt_or_eq.1 hk with h | rfl
            · exact HK.out k h
            · rw [HG.out]
              refine ⟨⟨by omega, fun h0 => ?_⟩, by omega⟩
              have := HM.out
              rw [if_neg (by omega)] at this
              omega
          case measure => simp [intOf]; omega
    · obtain rfl : j = axes.length := by omega
      have HN : r = 0 := hr.out.symm.trans (if_pos ⟨fun i hi => (HK.out i hi).1, fun x hx => by
        obtain ⟨i, hi, rfl⟩ := List.mem_iff_getElem.1 hx
        rw [← getI_at hi]
        exact (HK.out i hi).2⟩)
      go_wp2_with fail
      go_ret
      exact ⟨by first | rfl | (rw [HN]; rfl), rfl⟩
end Go.Proofs.YtlppcfeimpcbjaaGreat

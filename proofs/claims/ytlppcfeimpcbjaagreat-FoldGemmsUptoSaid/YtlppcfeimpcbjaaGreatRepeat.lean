import Derived.Test.YtlppcfeimpcbjaaGreatTenNP
import Derived.Test.YtlppcfeimpcbjaaGreatIdxAB
set_option linter.unusedSimpArgs false
set_option linter.unusedVariables false

/- slices.Repeat of one rational. -/
namespace Go.Proofs.YtlppcfeimpcbjaaGreat
open Go.RowKit

/-- copy of wider elements, between rows of cells. -/
theorem run_copy_wide {P : Program} (w : World) (dT sT ty elem : TypeId) (g o dLen dCap : Nat) (a : Addr) (sLen sCap : Nat) (cur : Array Value) (t : TypeId) (cs : List Value) (k m : Nat)
    (hu : P.underlying dT = some (.slice elem)) (hs : (P.info? elem).map (·.size) = some k)
    (hg : w.heap[g]? = some (.cells cur t (0, 0))) (hm : Nat.min sLen dLen = m) (hn : cs.length = m * k)
    (hsrc : ∀ (j : Nat) (v : Value), cs[j]? = some v → w.cell? (a.add j) = some v) (hfit : o + cs.length ≤ cur.size) (h1 : ∀ v ∈ cs, v.oneCell' = true) :
    (Builtin.copy_ #[dT, sT] ty #[.slice (some ⟨g, o, none⟩) dLen dCap, .slice (some a) sLen sCap]).run P w =
      .ok (goInt m) (w.setRow g (cur.toList.take o ++ cs ++ cur.toList.drop (o + cs.length)).toArray) := by
  have hl := run_loadCells_list (P := P) w a cs hsrc
  have hst := run_storeCells_at P g o t cs 0 cur w hg (by simpa using hfit) h1
  rw [hn] at hl
  cases hq : P.info? elem with
  | none => simp [hq] at hs
  | some i =>
    have hi : i.size = k := by simpa [hq] using hs
    simp [Builtin.copy_, run_underlying hu, Builtin.lenOf, Builtin.firstCells, sizeOf, typeInfo, hq, hi, hm, hl, hst]
/-- One rational's cells, so many times, and so many zeros. -/
def reps (t z : List Value) (n m : Nat) : List Value := (List.replicate n t).flatten ++ (List.replicate m z).flatten
theorem rep_len (t : List Value) (n : Nat) : (List.replicate n t).flatten.length = n * t.length := by simp
theorem reps_len {t z : List Value} (h : t.length = 3) (g : z.length = 3) (n m : Nat) : (reps t z n m).length = (n + m) * 3 := by
  rw [reps, List.length_append, rep_len, rep_len, h, g, Nat.add_mul]
theorem reps_copy {t z : List Value} (h : t.length = 3) (g : z.length = 3) (n m k : Nat) (hk : k ≤ n) : (reps t z n (k + m)).take (n * 3) ++ (List.replicate k t).flatten ++ (reps t z n (k + m)).drop (n * 3 + (List.replicate k t).flatten.length) = reps t z (n + k) m := by
  have e1 : (List.replicate n t).flatten.length = n * 3 := by rw [rep_len, h]
  have e2 : (List.replicate k t).flatten.length = k * 3 := by rw [rep_len, h]
  have e3 : (List.replicate k z).flatten.length = k * 3 := by rw [rep_len, g]
  rw [reps, List.take_append, List.take_of_length_le (by omega), e1, Nat.sub_self, List.take_zero, List.append_nil, e2, List.drop_append, List.drop_of_length_le (by omega), List.nil_append, e1, Nat.add_sub_cancel_left]
  rw [← List.replicate_append_replicate, List.flatten_append, List.drop_append, List.drop_of_length_le (by omega), List.nil_append, e3, Nat.sub_self, List.drop_zero, reps, ← List.replicate_append_replicate, List.flatten_append]

theorem rep_get {t : List Value} (h : t.length = 3) : ∀ {N i : Nat}, i < N * 3 → (List.replicate N t).flatten[i]? = t[i % 3]?
  | 0, i, hi => by omega
  | N + 1, i, hi => by
    rw [List.replicate_succ, List.flatten_cons]
    rcases Nat.lt_or_ge i 3 with h3 | h3
    · rw [List.getElem?_append_left (by omega), Nat.mod_eq_of_lt h3]
    · rw [List.getElem?_append_right (by omega), h, rep_get h (N := N) (by omega)]
      congr 1
      omega
def zc : List Value := [.bool false, .slice none 0 0, .slice none 0 0]
theorem info_rat : (Tryz.prog.info? 54).map (fun i => (i.zero, i.size, i.bytes)) = some (some (.agg #[.bool false, .slice none 0 0, .slice none 0 0]), 3, 56) := by kernel_rfl
theorem make_rats (n : Nat) (hn : n ≤ 1099511627000) (u : World) : (Instr.makeSlice 24 (.int .i64 (n : Int)) (.int .i64 (n : Int))).run Tryz.prog u = .ok (.slice (some ⟨u.heap.size, 0, none⟩) n n) (u.alloc (.cells (List.replicate n zc).flatten.toArray 54)) := by
  obtain ⟨i0, hi, hz0, hz1, hz2⟩ := info_parts info_rat
  have h := run_make (P := Tryz.prog) u 24 54 i0 (.agg #[.bool false, .slice none 0 0, .slice none 0 0]) Tryz.underlying24 hi hz0 .i64 .i64 (n : Int) (n : Int) (by omega) (Int.le_refl _) (by rw [hz2]; omega) (by omega)
  rw [Int.toNat_natCast, hz1] at h
  rw [h]
  refine congrArg (fun c => Result.ok _ (World.alloc u (Obj.cells c _ _))) ?_
  apply Array.ext'
  apply List.ext_getElem?
  intro i
  rcases Nat.lt_or_ge i (n * 3) with hlt | hge
  · rw [List.toList_toArray, rep_get rfl hlt]
    have hz : (Value.agg #[.bool false, .slice none 0 0, .slice none 0 0]).cells = zc.toArray := by rfl
    have h3 : i % 3 < 3 := Nat.mod_lt _ (by decide)
    rw [hz]
    simp [madeCells, hlt, zc]
    rw [List.getElem?_eq_getElem (by simpa using h3)]
    simp
  · rw [List.getElem?_eq_none (by simpa [madeCells] using hge), List.getElem?_eq_none (by simp [zc]; omega)]
theorem wpList_copyw {P : Program} {ops : Array Oper} {rest : List Oper} {o : Oper} {a : Act} {w w' : World} {Q : Exit → Act → World → Prop} (hgd : o.guard = none) {d s : Operand} {dT sT : TypeId} {dv sv v : Value}
    (ho : o.op = .call { callee := .builtin .copy, args := #[d, s], argTypes := #[dT, sT] }) (hd : a.eval d = dv) (hs : a.eval s = sv) (run : (Builtin.copy_ #[dT, sT] o.type #[dv, sv]).run P w = .ok v w')
    (next : wpList P ops Q rest (a.put o.dst v) w') : wpList P ops Q (o :: rest) a w := by
  refine wpList_plain hgd fun K' hK => ?_
  unfold Oper.wp
  simp [execOp, ho, resolve, invoke, builtin, hd, hs, run, Result.andThen]
  exact hK _ _ next
theorem oper_copyw {P : Program} {o : Oper} {a : Act} {w w' : World} {K : Act → World → Prop} {Q : Exit → Act → World → Prop} {d s : Operand} {dT sT : TypeId} {dv sv v : Value}
    (ho : o.op = .call { callee := .builtin .copy, args := #[d, s], argTypes := #[dT, sT] }) (hd : a.eval d = dv) (hs : a.eval s = sv) (run : (Builtin.copy_ #[dT, sT] o.type #[dv, sv]).run P w = .ok v w')
    (next : K (a.put o.dst v) w') : o.wp P a w K Q := by
  unfold Oper.wp
  simp [execOp, ho, resolve, invoke, builtin, hd, hs, run, Result.andThen]
  exact next

set_option maxHeartbeats 2000000 in
theorem mul64_1 (w : World) (n : Nat) (hn : n ≤ 4294967295) :
    Calls Tryz.prog 142 #[.int .u64 1, .int .u64 n] w fun e w' => e = .returned (.tuple #[.int .u64 0, .int .u64 n]) ∧ w' = w := by
  have h1 : bits .and .u64 (n : Int) 4294967295 = n := by rw [mask32 (by omega) (by omega)]; omega
  have h2 : bits .and .u64 1 4294967295 = 1 := by decide
  have h3 : (n : Int) / 4294967296 = 0 := by omega
  have h4 : bits .and .u64 0 4294967295 = 0 := by decide
  go_enter Tryz.func142, Tryz.ntmps142
  go_wp2_with fail
  go_ret2
  exact ⟨rfl, rfl⟩
set_option maxHeartbeats 2000000 in
theorem bmul_1 (w : World) (n : Nat) (hn : n ≤ 4294967295) :
    Calls Tryz.prog 123 #[.int .u64 1, .int .u64 n] w fun e w' => e = .returned (.tuple #[.int .u64 0, .int .u64 n]) ∧ w' = w := by
  go_enter Tryz.func123, Tryz.ntmps123
  go_wp2_with fail
  with_reducible refine (mul64_1 _ n hn).mono ?_
  rintro e w1 ⟨rfl, rfl⟩
  go_wp2_with fail
  go_ret2
  exact ⟨rfl, rfl⟩

theorem fr_setRow (w : World) (g : Nat) (cs : Array Value) : Fr (fun k => k ≠ g) w (w.setRow g cs) :=
  ⟨rfl, rfl, rfl, by simp [World.setRow], fun k _ hk => by simp [World.setRow, Array.getElem?_modify, show ¬ g = k from fun e => hk e.symm]⟩
/-- A copy of k elements behind the first n, of a row of n repeated ones. -/
theorem rep_step {P : Program} {T : List Value} {t24 e : TypeId} (ht : P.underlying t24 = some (.slice e)) (hsz : (P.info? e).map (·.size) = some 3) (hT3 : T.length = 3) (hT1 : ∀ v ∈ T, v.oneCell' = true) {W : World} {g n N k : Nat} (ty : TypeId) (c1 c2 : Nat) (hk : k = Nat.min n (N - n)) (hn : n ≤ N)
    (hg : W.heap[g]? = some (.cells (reps T zc n (N - n)).toArray e (0, 0))) :
    (Builtin.copy_ #[t24, t24] ty #[.slice (some ⟨g, n * 3, none⟩) (N - n) c1, .slice (some ⟨g, 0, none⟩) n c2]).run P W = .ok (.int .i64 (k : Int)) (W.setRow g (reps T zc (n + k) (N - (n + k))).toArray) := by
  have hkn : k ≤ n := by rw [hk]; exact Nat.min_le_left _ _
  have hkm : k ≤ N - n := by rw [hk]; exact Nat.min_le_right _ _
  have h := run_copy_wide (P := P) W t24 t24 ty e g (n * 3) (N - n) c1 ⟨g, 0, none⟩ n c2 (reps T zc n (N - n)).toArray e (List.replicate k T).flatten 3 k ht hsz hg hk.symm (by rw [rep_len, hT3]) (fun j v hj => by
    rw [addr_lit, cell_of_row W g _ _ e (0, 0) hg]
    have hj3 : j < k * 3 := by have := (List.getElem?_eq_some_iff.1 hj).1; rw [rep_len, hT3] at this; exact this
    rw [rep_get hT3 hj3] at hj
    have hlt : j < n * 3 := Nat.lt_of_lt_of_le hj3 (Nat.mul_le_mul_right _ hkn)
    simp only [Nat.zero_add, List.getElem?_toArray, reps]
    rw [List.getElem?_append_left (by rw [rep_len, hT3]; exact hlt), rep_get hT3 hlt]
    exact hj) (by
      have := reps_len (t := T) (z := zc) hT3 rfl n (N - n)
      rw [List.size_toArray, this, rep_len, hT3]
      have := Nat.mul_le_mul_right 3 (show n + k ≤ n + (N - n) by omega)
      rw [Nat.add_mul] at this
      exact this) (fun v hv => by
      obtain ⟨l, hl, hvl⟩ := List.mem_flatten.1 hv
      rw [List.eq_of_mem_replicate hl] at hvl
      exact hT1 v hvl)
  rw [h]
  have e1 : N - n = k + (N - (n + k)) := by omega
  have e2 := reps_copy (t := T) (z := zc) hT3 rfl n (N - (n + k)) k hkn
  rw [← e1] at e2
  simp only [List.toList_toArray]
  rw [e2]
  rfl
set_option maxRecDepth 20000 in
set_option maxHeartbeats 4000000 in
theorem repeat_t (w : World) (b : Nat) (s : Bool) (P Q : Option Addr) (n1 c1 n2 c2 N : Nat) (hb : w.heap[b]? = some (.cells #[.bool s, .slice P n1 c1, .slice Q n2 c2] 54 (0, 0))) (hN : N ≤ 1024) :
    Calls Tryz.prog 89 #[.slice (some ⟨b, 0, none⟩) 1 1, .int .i64 N] w fun e w' => ∃ g, e = .returned (.slice (some ⟨g, 0, none⟩) N N) ∧ w.heap.size ≤ g ∧ w'.heap[g]? = some (.cells (List.replicate N [.bool s, .slice P n1 c1, .slice Q n2 c2]).flatten.toArray 54 (0, 0)) ∧ Fr (fun k => k < w.heap.size) w w' := by
  have hmk := make_rats N (by omega)
  have HB := Lib.hid hb
  obtain ⟨T, hT⟩ : ∃ T : List Value, T = [.bool s, .slice P n1 c1, .slice Q n2 c2] := ⟨_, rfl⟩
  have hT3 : T.length = 3 := by rw [hT]; rfl
  rw [← hT]
  go_enter Tryz.func89, Tryz.ntmps89
  go_wp2_with fail
  with_reducible refine (bmul_1 _ N (by omega)).mono ?_
  rintro e w1 ⟨rfl, rfl⟩
  have hT1 : ∀ v ∈ T, v.oneCell' = true := by
    intro v hv
    rw [hT] at hv
    simp only [List.mem_cons, List.not_mem_nil, or_false] at hv
    rcases hv with rfl | rfl | rfl <;> rfl
  obtain ⟨m, hm⟩ : ∃ m : Nat, m = Nat.min 1 N := ⟨_, rfl⟩
  have HT := Lib.hid hT
  have hm1 : m ≤ 1 := by rw [hm]; exact Nat.min_le_left _ _
  have hmN : m ≤ N := by rw [hm]; exact Nat.min_le_right _ _
  have hm0 : N ≠ 0 → m = 1 := fun h => by rw [hm]; exact Nat.min_eq_left (by omega)
  have hW := heap_alloc_new w1 (.cells (List.replicate N zc).flatten.toArray 54)
  have hb2 : (w1.alloc (.cells (List.replicate N zc).flatten.toArray 54)).heap[b]? = some (.cells #[.bool s, .slice P n1 c1, .slice Q n2 c2] 54 (0, 0)) := (Below.heap_alloc _ _ _ (lt_of_block hb)).trans hb
  have hcp := run_copy_wide (P := Tryz.prog) _ 24 24 3 54 w1.heap.size 0 N N ⟨b, 0, none⟩ 1 1 (List.replicate N zc).flatten.toArray 54 (List.replicate m T).flatten 3 m Tryz.underlying24 (by kernel_rfl) hW hm.symm (by rw [rep_len, hT3]) (fun j v hj => by
    rw [addr_lit, cell_of_row _ b _ _ _ (0, 0) hb2]
    have hj3 : j < m * 3 := by have := (List.getElem?_eq_some_iff.1 hj).1; rw [rep_len, hT3] at this; exact this
    rw [rep_get hT3 hj3, hT] at hj
    have : j % 3 = j := Nat.mod_eq_of_lt (by omega)
    rw [this] at hj
    simpa using hj) (by
      rw [List.size_toArray, rep_len, rep_len, hT3, show zc.length = 3 from rfl, Nat.zero_add]
      exact Nat.mul_le_mul_right _ hmN) (fun v hv => by
      obtain ⟨l, hl, hvl⟩ := List.mem_flatten.1 hv
      rw [List.eq_of_mem_replicate hl] at hvl
      exact hT1 v hvl)
  have e0 : ((List.replicate N zc).flatten.toArray.toList.take 0 ++ (List.replicate m T).flatten ++ (List.replicate N zc).flatten.toArray.toList.drop (0 + (List.replicate m T).flatten.length)).toArray = (reps T zc m (N - m)).toArray := by
    congr 1
    simp only [List.take_zero, List.nil_append, Nat.zero_add]
    rw [rep_len, hT3, reps]
    congr 1
    rw [show N = m + (N - m) by omega, ← List.replicate_append_replicate, List.flatten_append, List.drop_append, List.drop_of_length_le (by rw [rep_len]; exact Nat.le_refl _), List.nil_append, rep_len, show zc.length = 3 from rfl, Nat.sub_self, List.drop_zero, Nat.add_sub_cancel_left]
  rw [e0] at hcp
  have hrow := setRow_heap _ w1.heap.size _ (reps T zc m (N - m)).toArray _ _ hW
  have F := ((Fr.refl (fun k => k < w1.heap.size) w1).alloc (.cells (List.replicate N zc).flatten.toArray 54)).comp (fr_setRow _ w1.heap.size (reps T zc m (N - m)).toArray) (R := fun k => k < w1.heap.size) fun k _ hk => ⟨hk, by omega⟩
  have hcp' : (Builtin.copy_ #[24, 24] 3 #[.slice (some ⟨w1.heap.size, 0, none⟩) N N, .slice (some ⟨b, 0, none⟩) 1 1]).run Tryz.prog (w1.alloc (.cells (List.replicate N zc).flatten.toArray 54)) = .ok (.int .i64 (m : Int)) ((w1.alloc (.cells (List.replicate N zc).flatten.toArray 54)).setRow w1.heap.size (reps T zc m (N - m)).toArray) := hcp
  clear hcp e0 hW hb2 hb hT hm
  go_wp2_with fail
  generalize (w1.alloc (.cells (List.replicate N zc).flatten.toArray 54)).setRow w1.heap.size (reps T zc m (N - m)).toArray = W2 at hrow F ⊢
  clear hcp' hmk HB
  go_loopw [8] (fun i wr => ∃ n : Nat, n ≤ N ∧ (N ≠ 0 → 1 ≤ n) ∧ i = .int .i64 n ∧ wr.heap[w1.heap.size]? = some (.cells (reps T zc n (N - n)).toArray 54 (0, 0)) ∧ Fr (fun k => k < w1.heap.size) w1 wr) (fun i _ => N - (intOf i).toNat)
  case atStart => exact ⟨m, hmN, fun h => by rw [hm0 h]; omega, rfl, hrow, F⟩
  case round =>
    clear hrow F
    obtain ⟨n, hn, hn1, rfl, hrow, F⟩ := hrel
    by_cases hlt : n < N
    · replace F := F.drew
      obtain ⟨k, hk⟩ : ∃ k : Nat, k = Nat.min n (N - n) := ⟨_, rfl⟩
      have hk1 : 1 ≤ k := by rw [hk]; exact Nat.le_min.2 ⟨hn1 (by omega), by omega⟩
      have hk2 : k ≤ N - n := by rw [hk]; exact Nat.min_le_right _ _
      have hcp := rep_step (P := Tryz.prog) (W := wr.drew) Tryz.underlying24 (by kernel_rfl) hT3 hT1 3 (N - n) N hk hn hrow
      have hne : ¬ N = n := by omega
      clear hk
      go_wp2_with fail
      refine wpTill.begin (fun _ => True) 9 (by kernel_rfl) ?_
      change wpTill _ _ _ _ _ _ 10 _ _ _
      refine wpTill.take 0 (.int .i64 n) rfl (by kernel_rfl) (by kernel_rfl) (fun _ _ _ h => h) trivial (by rfl) (fun u hu => by go_simp) ?_
      try simp only [Act.put, List.setIfInBounds_toArray, List.set_cons_zero, List.set_cons_succ]
      refine wpTill.take 1 (.slice (some ⟨w1.heap.size, 0, none⟩) N N) rfl (by kernel_rfl) (by kernel_rfl) (fun _ _ _ h => h) trivial (by rfl) (fun u hu => by go_simp) ?_
      try simp only [Act.put, List.setIfInBounds_toArray, List.set_cons_zero, List.set_cons_succ]
      refine wpTill.take 2 (.int .i64 n) rfl (by kernel_rfl) (by kernel_rfl) (fun _ _ _ h => h) trivial (by rfl) (fun u hu => by go_simp) ?_
      try simp only [Act.put, List.setIfInBounds_toArray, List.set_cons_zero, List.set_cons_succ]
      refine wpTill.take 3 (.slice (some ⟨w1.heap.size, n * 3, none⟩) (N - n) (N - n)) rfl (by kernel_rfl) (by kernel_rfl) (fun _ _ _ h => h) trivial (by rfl) (fun u hu => by go_simp) ?_
      try simp only [Act.put, List.setIfInBounds_toArray, List.set_cons_zero, List.set_cons_succ]
      refine wpTill.take 4 (.slice (some ⟨w1.heap.size, 0, none⟩) N N) rfl (by kernel_rfl) (by kernel_rfl) (fun _ _ _ h => h) trivial (by rfl) (fun u hu => by go_simp) ?_
      try simp only [Act.put, List.setIfInBounds_toArray, List.set_cons_zero, List.set_cons_succ]
      refine wpTill.take 5 (.int .i64 n) rfl (by kernel_rfl) (by kernel_rfl) (fun _ _ _ h => h) trivial (by rfl) (fun u hu => by go_simp) ?_
      try simp only [Act.put, List.setIfInBounds_toArray, List.set_cons_zero, List.set_cons_succ]
      refine wpTill.take 6 (.slice (some ⟨w1.heap.size, 0, none⟩) n N) rfl (by kernel_rfl) (by kernel_rfl) (fun _ _ _ h => h) trivial (by rfl) (fun u hu => by go_simp) ?_
      try simp only [Act.put, List.setIfInBounds_toArray, List.set_cons_zero, List.set_cons_succ]
      refine wpTill.next 7 rfl (by kernel_rfl) (by rfl) (fun K hK => ?_)
      go_simp
      refine hK _ _ (fun _ => trivial) ?_
      clear hK K
      try simp only [Act.put, List.setIfInBounds_toArray, List.set_cons_zero, List.set_cons_succ]
      have hwk : IntKind.i64.wrap ((n : Int) + (k : Int)) = ((n + k : Nat) : Int) := by rw [IntKind.wrap_i64]; omega
      refine wpTill.next 8 rfl (by kernel_rfl) (by rfl) (fun K hK => ?_)
      go_simp
      refine hK _ _ (fun _ => trivial) ?_
      clear hK K
      try simp only [Act.put, List.setIfInBounds_toArray, List.set_cons_zero, List.set_cons_succ]
      refine wpTill.next 9 rfl (by kernel_rfl) (by rfl) (fun K hK => ?_)
      go_simp
      refine hK _ _ (no_wait (by kernel_rfl)) ?_
      clear hK K
      try simp only [Act.put, List.setIfInBounds_toArray, List.set_cons_zero, List.set_cons_succ]
      refine wpTill.done (by kernel_rfl) ?_
      have hrow2 := setRow_heap _ w1.heap.size _ (reps T zc (n + k) (N - (n + k))).toArray _ _ (show wr.drew.heap[w1.heap.size]? = _ from hrow)
      have F2 := F.comp (fr_setRow _ w1.heap.size (reps T zc (n + k) (N - (n + k))).toArray) (R := fun k => k < w1.heap.size) fun k _ hk => ⟨hk, by omega⟩
      go_wp2_with fail
      go_roundw
      case rel => exact ⟨n + k, by omega, fun _ => by omega, by go_num, hrow2, F2⟩
      case measure => first | (simp [intOf]; done) | (simp [intOf]; omega)
    · obtain rfl : n = N := by omega
      rw [Nat.sub_self] at hrow
      go_wp2_with fail
      go_ret
      exact ⟨_, rfl, Nat.le_refl _, by simpa [reps] using hrow, F⟩
end Go.Proofs.YtlppcfeimpcbjaaGreat

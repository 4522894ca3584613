import Derived.Test.YtlknmoegngjpcaaGreatTenO
import Derived.Test.YtlknmoegngjpcaaGreatIdxA
set_option linter.unusedSimpArgs false
set_option linter.unusedVariables false

/- slices.Repeat of one rational. -/
namespace Go.Proofs.YtlknmoegngjpcaaGreat
open Go.RowKit

/-- copy of wider elements, between rows of cells. -/
theorem run_copy_wide {P : Program} (w : World) (dT sT ty elem : TypeId) (g o dLen dCap : Nat) (a : Addr) (sLen sCap : Nat) (cur : Array Value) (t : TypeId) (cs : List Value) (k m : Nat)
    (hu : P.underlying dT = some (.slice elem)) (hs : (P.info? elem).map (·.size) = some k)
    (hg : w.heap[g]? = some (.cells cur t (0, 0))) (hm : Nat.min sLen dLen = m) (hn : cs.length = m * k)
    (hsrc : ∀ (j : Nat) (v : Value), cs[j]? = some v → w.cell? (a.add j) = some v) (hfit : o + cs.length ≤ cur.size) (h1 : ∀ v ∈ cs, v.oneCell' = true) :
    (Builtin.copy_ #[dT, sT] ty #[.slice (some ⟨g, o, none⟩) dLen dCap, .slice (some a) sLen sCap]).run P w =
      .ok (goInt m) (w.setRow g (cur.toList.take o ++ cs ++ cur.toList.drop (o + cs.length)).toArray) := by
  have hl := run_loadCells_list (P := P) w a cs hsrc
  have hst := run_storeCells_at P g o t cs 0 cur w hg (by simpa using hfit) h1
  rw [hn] at hl
  cases hq : P.info? elem with
  | none => simp [hq] at hs
  | some i =>
    have hi : i.size = k := by simpa [hq] using hs
    simp [Builtin.copy_, run_underlying hu, Builtin.lenOf, Builtin.firstCells, sizeOf, typeInfo, hq, hi, hm, hl, hst]
/-- One rational's cells, so many times, and so many zeros. -/
def reps (t z : List Value) (n m : Nat) : List Value := (List.replicate n t).flatten ++ (List.replicate m z).flatten
theorem rep_len (t : List Value) (n : Nat) : (List.replicate n t).flatten.length = n * t.length := by simp
theorem reps_len {t z : List Value} (h : t.length = 3) (g : z.length = 3) (n m : Nat) : (reps t z n m).length = (n + m) * 3 := by
  rw [reps, List.length_append, rep_len, rep_len, h, g, Nat.add_mul]
theorem reps_copy {t z : List Value} (h : t.length = 3) (g : z.length = 3) (n m k : Nat) (hk : k ≤ n) : (reps t z n (k + m)).take (n * 3) ++ (List.replicate k t).flatten ++ (reps t z n (k + m)).drop (n * 3 + (List.replicate k t).flatten.length) = reps t z (n + k) m := by
  have e1 : (List.replicate n t).flatten.length = n * 3 := by rw [rep_len, h]
  have e2 : (List.replicate k t).flatten.length = k * 3 := by rw [rep_len, h]
  have e3 : (List.replicate k z).flatten.length = k * 3 := by rw [rep_len, g]
  rw [reps, List.take_append, List.take_of_length_le (by omega), e1, Nat.sub_self, List.take_zero, List.append_nil, e2, List.drop_append, List.drop_of_length_le (by omega), List.nil_append, e1, Nat.add_sub_cancel_left]
  rw [← List.replicate_append_replicate, List.flatten_append, List.drop_append, List.drop_of_length_le (by omega), List.nil_append, e3, Nat.sub_self, List.drop_zero, reps, ← List.replicate_append_replicate, List.flatten_append]

theorem rep_get {t : List Value} (h : t.length = 3) : ∀ {N i : Nat}, i < N * 3 → (List.replicate N t).flatten[i]? = t[i % 3]?
  | 0, i, hi => by omega
  | N + 1, i, hi => by
    rw [List.replicate_succ, List.flatten_cons]
    rcases Nat.lt_or_ge i 3 with h3 | h3
    · rw [List.getElem?_append_left (by omega), Nat.mod_eq_of_lt h3]
    · rw [List.getElem?_append_right (by omega), h, rep_get h (N := N) (by omega)]
      congr 1
      omega
def zc : List Value := [.bool false, .slice none 0 0, .slice none 0 0]
theorem info_rat : (Tryz.prog.info? 51).map (fun i => (i.zero, i.size, i.bytes)) = some (some (.agg #[.bool false, .slice none 0 0, .slice none 0 0]), 3, 56) := by kernel_rfl
theorem make_rats (n : Nat) (hn : n ≤ 1099511627000) (u : World) : (Instr.makeSlice 24 (.int .i64 (n : Int)) (.int .i64 (n : Int))).run Tryz.prog u = .ok (.slice (some ⟨u.heap.size, 0, none⟩) n n) (u.alloc (.cells (List.replicate n zc).flatten.toArray 51)) := by
  obtain ⟨i0, hi, hz0, hz1, hz2⟩ := info_parts info_rat
  have h := run_make (P := Tryz.prog) u 24 51 i0 (.agg #[.bool false, .slice none 0 0, .slice none 0 0]) Tryz.underlying24 hi hz0 .i64 .i64 (n : Int) (n : Int) (by omega) (Int.le_refl _) (by rw [hz2]; omega) (by omega)
  rw [Int.toNat_natCast, hz1] at h
  rw [h]
  refine congrArg (fun c => Result.ok _ (World.alloc u (Obj.cells c _ _))) ?_
  apply Array.ext'
  apply List.ext_getElem?
  intro i
  rcases Nat.lt_or_ge i (n * 3) with hlt | hge
  · rw [List.toList_toArray, rep_get rfl hlt]
    have hz : (Value.agg #[.bool false, .slice none 0 0, .slice none 0 0]).cells = zc.toArray := by rfl
    have h3 : i % 3 < 3 := Nat.mod_lt _ (by decide)
    rw [hz]
    simp [madeCells, hlt, zc]
    rw [List.getElem?_eq_getElem (by simpa using h3)]
    simp
  · rw [List.getElem?_eq_none (by simpa [madeCells] using hge), List.getElem?_eq_none (by simp [zc]; omega)]
theorem wpList_copyw {P : Program} {ops : Array Oper} {rest : List Oper} {o : Oper} {a : Act} {w w' : World} {Q : Exit → Act → World → Prop} (hgd : o.guard = none) {d s : Operand} {dT sT : TypeId} {dv sv v : Value}
    (ho : o.op = .call { callee := .builtin .copy, args := #[d, s], argTypes := #[dT, sT] }) (hd : a.eval d = dv) (hs : a.eval s = sv) (run : (Builtin.copy_ #[dT, sT] o.type #[dv, sv]).run P w = .ok v w')
    (next : wpList P ops Q rest (a.put o.dst v) w') : wpList P ops Q (o :: rest) a w := by
  refine wpList_plain hgd fun K' hK => ?_
  unfold Oper.wp
  simp [execOp, ho, resolve, invoke, builtin, hd, hs, run, Result.andThen]
  exact hK _ _ next
theorem oper_copyw {P : Program} {o : Oper} {a : Act} {w w' : World} {K : Act → World → Prop} {Q : Exit → Act → World → Prop} {d s : Operand} {dT sT : TypeId} {dv sv v : Value}
    (ho : o.op = .call { callee := .builtin .copy, args := #[d, s], argTypes := #[dT, sT] }) (hd : a.eval d = dv) (hs : a.eval s = sv) (run : (Builtin.copy_ #[dT, sT] o.type #[dv, sv]).run P w = .ok v w')
    (next : K (a.put o.dst v) w') : o.wp P a w K Q := by
  unfold Oper.wp
  simp [execOp, ho, resolve, invoke, builtin, hd, hs, run, Result.andThen]
  exact next

theorem fr_setRow (w : World) (g : Nat) (cs : Array Value) : Fr (fun k => k ≠ g) w (w.setRow g cs) :=
  ⟨rfl, rfl, rfl, by simp [World.setRow], fun k _ hk => by simp [World.setRow, Array.getElem?_modify, show ¬ g = k from fun e => hk e.symm]⟩
/-- A copy of k elements behind the first n, of a row of n repeated ones. -/
theorem rep_step {P : Program} {T : List Value} {t24 e : TypeId} (ht : P.underlying t24 = some (.slice e)) (hsz : (P.info? e).map (·.size) = some 3) (hT3 : T.length = 3) (hT1 : ∀ v ∈ T, v.oneCell' = true) {W : World} {g n N k : Nat} (ty : TypeId) (c1 c2 : Nat) (hk : k = Nat.min n (N - n)) (hn : n ≤ N)
    (hg : W.heap[g]? = some (.cells (reps T zc n (N - n)).toArray e (0, 0))) :
    (Builtin.copy_ #[t24, t24] ty #[.slice (some ⟨g, n * 3, none⟩) (N - n) c1, .slice (some ⟨g, 0, none⟩) n c2]).run P W = .ok (.int .i64 (k : Int)) (W.setRow g (reps T zc (n + k) (N - (n + k))).toArray) := by
  have hkn : k ≤ n := by rw [hk]; exact Nat.min_le_left _ _
  have hkm : k ≤ N - n := by rw [hk]; exact Nat.min_le_right _ _
  have h := run_copy_wide (P := P) W t24 t24 ty e g (n * 3) (N - n) c1 ⟨g, 0, none⟩ n c2 (reps T zc n (N - n)).toArray e (List.replicate k T).flatten 3 k ht hsz hg hk.symm (by rw [rep_len, hT3]) (fun j v hj => by
    rw [addr_lit, cell_of_row W g _ _ e (0, 0) hg]
    have hj3 : j < k * 3 := by have := (List.getElem?_eq_some_iff.1 hj).1; rw [rep_len, hT3] at this; exact this
    rw [rep_get hT3 hj3] at hj
    have hlt : j < n * 3 := Nat.lt_of_lt_of_le hj3 (Nat.mul_le_mul_right _ hkn)
    simp only [Nat.zero_add, List.getElem?_toArray, reps]
    rw [List.getElem?_append_left (by rw [rep_len, hT3]; exact hlt), rep_get hT3 hlt]
    exact hj) (by
      have := reps_len (t := T) (z := zc) hT3 rfl n (N - n)
      rw [List.size_toArray, this, rep_len, hT3]
      have := Nat.mul_le_mul_right 3 (show n + k ≤ n + (N - n) by omega)
      rw [Nat.add_mul] at this
      exact this) (fun v hv => by
      obtain ⟨l, hl, hvl⟩ := List.mem_flatten.1 hv
      rw [List.eq_of_mem_replicate hl] at hvl
      exact hT1 v hvl)
  rw [h]
  have e1 : N - n = k + (N - (n + k)) := by omega
  have e2 := reps_copy (t := T) (z := zc) hT3 rfl n (N - (n + k)) k hkn
  rw [← e1] at e2
  simp only [List.toList_toArray]
  rw [e2]
  rfl
end Go.Proofs.YtlknmoegngjpcaaGreat

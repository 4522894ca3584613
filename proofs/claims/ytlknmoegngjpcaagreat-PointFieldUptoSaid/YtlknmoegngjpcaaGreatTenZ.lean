import Derived.Test.YtlknmoegngjpcaaGreatTenY
set_option linter.unusedSimpArgs false
set_option linter.unusedVariables false

/- TensorDots. -/
namespace Go.Proofs.YtlknmoegngjpcaaGreat
open Go.RowKit

theorem zR_q : qOf zR = 0 := by
  unfold qOf zR
  exact rv_den0 _ _
theorem getD_q (es : List RatL) (j : Nat) : (es.map qOf).getD j 0 = qOf (es.getD j zR) := by
  rw [List.getD_eq_getElem?_getD, List.getD_eq_getElem?_getD, List.getElem?_map]
  cases es[j]? with
  | none => exact zR_q.symm
  | some x => rfl
theorem sum_dot (ea eb : List RatL) : ∀ j, j ≤ ea.length → sumQ (ea.map qOf) (eb.map qOf) j = dotQ ea eb ((List.finRange ea.length).take j)
  | 0, _ => rfl
  | j + 1, h => by
    have hl : j < (List.finRange ea.length).length := by rw [List.length_finRange]; exact h
    rw [sumQ, sum_dot ea eb j (by omega), List.take_succ_eq_append_getElem hl, dotQ_step, List.getElem_finRange, getD_q, getD_q]
    rfl
theorem sum_dot' (ea eb : List RatL) : sumQ (ea.map qOf) (eb.map qOf) ea.length = dotT ea eb := by
  rw [sum_dot ea eb _ (Nat.le_refl _), List.take_of_length_le (by rw [List.length_finRange]; exact Nat.le_refl _)]
  rfl
theorem db_len {n K : Nat} (h : (dg LB n).length ≤ K) : (dg DB n).length ≤ 3 * K := by
  have h1 : n < LB ^ K := by
    have := ofB_lt (b := LB) (l := dg LB n) (dg_lt LB2 n)
    rw [ofB_dg LB2] at this
    exact Nat.lt_of_lt_of_le this (Nat.pow_le_pow_right LBpos h)
  have h2 : LB ^ K ≤ (DB ^ 3) ^ K := Nat.pow_le_pow_left (by decide) K
  rw [← Nat.pow_mul] at h2
  exact dg_len_le DB2 (Nat.lt_of_lt_of_le h1 h2)
theorem dotQ_le {ea eb : List RatL} {K : Nat} (h : ∀ pre : List (Fin ea.length), pre.length ≤ ea.length → (dg LB (dotQ ea eb pre).num.natAbs).length ≤ K ∧ (dg LB (dotQ ea eb pre).den).length ≤ K) : (dg LB (dotT ea eb).num.natAbs).length ≤ K ∧ (dg LB (dotT ea eb).den).length ≤ K :=
  h _ (by rw [List.length_finRange]; exact Nat.le_refl _)
/-- A tensor in memory of its own. -/
def TOwn (sh : List Int) (es : List RatL) (u : World) (v : Value) : Prop := ∃ A n c B m k, v = .agg #[.slice A n c, .slice B m k] ∧ Sl Im (fun _ => True) u (.slice A n c) sh ∧ Sl Rm (fun _ => True) u (.slice B m k) es
theorem TOwn.of {S T : Nat → Prop} {sh : List Int} {es : List RatL} {u : World} {v1 v2 : Value} (h1 : Sl Im S u v1 sh) (h2 : Sl Rm T u v2 es) : TOwn sh es u (.agg #[v1, v2]) := by
  obtain ⟨A, n, c, rfl⟩ := h1.form
  obtain ⟨B, m, k, rfl⟩ := h2.form
  exact ⟨_, _, _, _, _, _, rfl, h1.mono fun _ _ => trivial, h2.mono fun _ _ => trivial⟩
theorem TOwn.keep {sh : List Int} {es : List RatL} {u u' : World} {v : Value} (hf : Fr (fun k => k < u.heap.size) u u') (h : TOwn sh es u v) : TOwn sh es u' v := by
  obtain ⟨A, n, c, B, m, k, rfl, h1, h2⟩ := h
  exact ⟨_, _, _, _, _, _, rfl, h1.keep' Im_pos hf, h2.keep' Rm_pos hf⟩
/-- What a product answers. -/
def DotG (r : Int) (q : Rat) (K : Nat) (u : World) (v : Value) : Prop := ∃ s P i j Q m k, v = .tuple #[.agg #[.bool s, .slice P i j, .slice Q m k], .int .i64 r] ∧ (r ≠ 0 → Value.slice P i j = .slice none 0 0 ∧ Value.slice Q m k = .slice none 0 0) ∧ (r = 0 → s = sg q ∧ SV u (.slice P i j) (.slice Q m k) q K)
theorem DotG.keep {r : Int} {q : Rat} {K : Nat} {u u' : World} {v : Value} (hf : Fr (fun k => k < u.heap.size) u u') (h : DotG r q K u v) : DotG r q K u' v := by
  obtain ⟨s, P, i, j, Q, m, k, rfl, h1, h2⟩ := h
  exact ⟨_, _, _, _, _, _, _, rfl, h1, fun h => ⟨(h2 h).1, (h2 h).2.keep hf⟩⟩
theorem ris_dot {S : Nat → Prop} (w : World) (s t : Bool) (vn vd un ud : Value) (q p : Rat) (L K : Nat) (hq : Hid (RR S w vn vd q K)) (hs : Hid (s = sg q)) (hp : Hid (SV w un ud p L)) (ht : Hid (t = sg p)) (e : Hid (p = q)) (hL : L ≤ 1099511620) :
    Calls Tryz.prog 87 #[.agg #[.bool s, vn, vd], .agg #[.bool t, un, ud]] w fun e w' => e = .returned (.bool true) ∧ Fr (fun k => k < w.heap.size) w w' :=
  ris_sv w s t vn vd un ud q p L K hq.out hs.out hp.out ht.out e.out.symm hL

end Go.Proofs.YtlknmoegngjpcaaGreat

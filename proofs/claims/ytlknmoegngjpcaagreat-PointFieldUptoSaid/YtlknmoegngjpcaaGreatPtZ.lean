import Derived.Test.YtlknmoegngjpcaaGreatPointE
set_option linter.unusedSimpArgs false
set_option linter.unusedVariables false

/- Contracts in words of values, further ones: rationals, the document's powers. -/
namespace Go.Proofs.YtlknmoegngjpcaaGreat
open Go.RowKit

theorem wanted_undef {ops : Array Oper} {A : Act} {o : Oper} {g : Nat} {b : Bool} {t : Tmp} (hg : o.guard = some (g, b)) (hd : dstOf ops g = some t) (ht : A.tmps[t]? = some undef) : Region.wanted o (yielded ops A.tmps) = false := by
  have hy : yielded ops A.tmps g = none := by
    unfold yielded
    unfold dstOf at hd
    rw [hd, Option.bind_some, ht]
    rfl
  unfold Region.wanted
  rw [hg]
  simp [hy]
/-- a rational of the document's, answered -/
def RQ (q : Rat) (K : Nat) (u : World) (v : Value) : Prop := ∃ A n c B m k, v = .agg #[.bool (sg q), .slice A n c, .slice B m k] ∧ RR (fun _ => True) u (.slice A n c) (.slice B m k) q K
theorem RQ.out {q : Rat} {K : Nat} {u : World} {s a b : Value} (h : RQ q K u (.agg #[s, a, b])) : RR (fun _ => True) u a b q K := by
  obtain ⟨A, n, c, B, m, k, e, h⟩ := h
  cases e
  exact h
/-- the limbs of a rational's parts -/
def LV (x : RatL) (u : World) (a b : Value) : Prop := Sl Lm (fun _ => True) u a x.2.1 ∧ Sl Lm (fun _ => True) u b x.2.2
theorem LV.hold {x : RatL} {u : World} {a b : Value} (h : LV x u a b) : Hold (fun u => LV x u a b) u := fun _ hu => ⟨h.1.keep' Lm_pos hu, h.2.keep' Lm_pos hu⟩
theorem rof_u {w : World} {x : RatL} {a b : Value} {L : Nat} (h : LV x w a b) (hl : Hid (x.2.1.length ≤ L ∧ x.2.2.length ≤ L)) (hL1 : 1 ≤ L) (hL : L ≤ 104857600) : Calls Tryz.prog 36 #[.agg #[.bool x.1, a, b]] w (Ret w (RQ (qOf x) (3 * L))) := by
  refine (rof_h w x x.1 a b L (Lib.hid h.1) (Lib.hid h.2) rfl hl hL1 hL).mono ?_
  rintro e u ⟨s, v1, v2, rfl, hs, hr, hf⟩
  obtain ⟨⟨A, n, c, rfl⟩, ⟨B, m, k, rfl⟩⟩ := hr.out.form
  rw [hs.out]
  exact ⟨_, rfl, hf, fun u' hu' => ⟨_, _, _, _, _, _, rfl, (hr.out.keep hu').mono fun _ _ => trivial⟩⟩
theorem rpow_u {w : World} {sha : List Int} {qa : List Rat} {K : Nat} {a b : Value} {n r : Int} (h : QV sha qa K w a b) (f : Hid (FitQ sha qa K)) (hK : K ≤ 3145742) (hr : Hid ((if n < 0 ∨ 16 < n then (11 : Int) else 0) = r)) : Calls Tryz.prog 18 #[.agg #[a, b], .int .i64 n] w (Ret w (Tup r (QC r sha (qa.map (fun q => q ^ n.toNat)) (16 * K + 6)))) := by
  by_cases hn : n < 0 ∨ 16 < n
  · obtain rfl : r = 11 := by rw [← hr.out, if_pos hn]
    obtain ⟨⟨A, i, c, rfl⟩, ⟨B, m, k, rfl⟩⟩ := h.form
    refine (r8pow_no w A B i c m k n hn).mono fun _ _ h => ?_
    obtain ⟨A, i, j, B, k, l, rfl, h2, hf⟩ := h
    exact ⟨_, rfl, hf, fun u' hu' => ⟨_, _, _, _, _, _, rfl, fun e => absurd e (by decide)⟩⟩
  · obtain rfl : r = 0 := by rw [← hr.out, if_neg hn]
    obtain ⟨k, rfl⟩ : ∃ k : Nat, n = k := ⟨n.toNat, by omega⟩
    exact (r8pow_t w a b k (16 * K + 6) sha qa K h.1 h.2 f.out.nsh f.out.nqs (by omega) (by have := Nat.mul_le_mul_left K (show k ≤ 16 by omega); omega) (by omega) (by omega)).mono fun _ _ h => h.ret
end Go.Proofs.YtlknmoegngjpcaaGreat


/- Package nat: Of, Uint, Trim, Add, row, Mul. -/
import Derived.Test.YtodpbkcdcchljaaNatB
namespace Go.Proofs.Ytodpbkcdcchljaa
open Go.RowKit

theorem limb_quiet {S : Nat → Prop} (w : World) (n : Nat) (v : Value) (xs : List Nat) (i : Int) (h : Sl Lm S w v xs) :
    Calls Try.prog 90 #[v, .int .i64 i] (w.drewN n) fun e w'' => e = .returned (.int .u64 (limbAt xs i : Int)) ∧ ∃ m, w'' = w.drewN m :=
  Calls.quiet_of_same (limb_calls _ v xs i (h.fr ((Fr.refl _ _).drewN _)))
theorem limbAt_lt {xs : List Nat} (h : ∀ d ∈ xs, d < LB) (i : Int) : limbAt xs i < 4294967296 := by
  unfold limbAt
  split
  · decide
  · rw [List.getD_eq_getElem?_getD]
    cases hx : xs[i.toNat]? with
    | none => decide
    | some d => exact h d (List.mem_of_getElem? hx)
theorem limbAt_nat (xs : List Nat) (i : Nat) : limbAt xs (i : Int) = xs.getD i 0 := by unfold limbAt; rw [if_neg (by omega), Int.toNat_natCast]

set_option maxHeartbeats 400000 in
theorem add1_calls {S T : Nat → Prop} (w : World) (i : Int) (ba bb : Nat) (va vb : Value) (xs ys : List Nat) (ha : Sl Lm S w va xs) (hb : Sl Lm T w vb ys) (h1 : Box w ba 23 va) (h2 : Box w bb 23 vb) :
    Calls Try.prog 100 #[.int .i64 i, .pointer (some ⟨ba, 0, none⟩), .pointer (some ⟨bb, 0, none⟩)] w fun e w' => e = .returned (.int .u64 ((limbAt xs i + limbAt ys i : Nat) : Int)) ∧ ∃ m, w' = w.drewN m := by
  have c1 := h1.cell
  have c2 := h2.cell
  have l1 := limbAt_lt (Kd.nat_all ha) i
  have l2 := limbAt_lt (Kd.nat_all hb) i
  have hwrap : IntKind.u64.wrap ((limbAt xs i : Int) + (limbAt ys i : Int)) = (limbAt xs i : Int) + (limbAt ys i : Int) := Int.emod_eq_of_lt (by omega) (by simp [IntKind.bits]; omega)
  go_enter Try.func100, Try.ntmps100
  go_wp2_with fail
  go_quiet (first | (with_reducible exact limb_quiet _ _ va xs _ ha) | (with_reducible exact limb_quiet _ _ vb ys _ hb))
  go_wp2_with fail
  go_ret
  exact ⟨by rw [Int.natCast_add]; rfl, _, rfl⟩

theorem enter_of {P : Program} {k : FuncId} {fn : Func} (hf : P.funcs[k]? = some fn) (hn : (fn.name == "runtime.NumGoroutine") = false) (hb : fn.body.isNone = false) (args : Array Value) (w : World) :
    (callFunc k args).run P w = .ok (.enter k args) w := by
  have hn' : ¬ fn.name = "runtime.NumGoroutine" := by simpa using hn
  have hb' : ¬ fn.body = none := by intro e; rw [e] at hb; simp at hb
  simp [callFunc, hf, hn', hb']

/-- The same memory, read from a call's beginning on. -/
theorem Sl.low {α : Type} {K : Kd α} {S : Nat → Prop} {w : World} {v : Value} {xs : List α} (hpos : 0 < K.size) (h : Sl K S w v xs) : Sl K (fun k => k < w.heap.size) w v xs := (h.bd hpos).mono fun _ hk => hk.2

theorem add_at (B ba bb : Nat) (va vb : Value) (xs ys : List Nat) (n : Nat) (hx : ∀ d ∈ xs, d < LB) (hy : ∀ d ∈ ys, d < LB) : At Try.prog 100 #[.pointer (some ⟨ba, 0, none⟩), .pointer (some ⟨bb, 0, none⟩)] n (fun i => xs.getD i 0 + ys.getD i 0) (fun _ => False) B
    (fun _ w => (Sl Lm (fun k => k < B) w va xs ∧ Sl Lm (fun k => k < B) w vb ys) ∧ (Box w ba 23 va ∧ Box w bb 23 vb) ∧ ba < B ∧ bb < B) where
  enter := enter_of Try.func100 (by decide) rfl
  keep := by
    rintro i w w' ⟨⟨h1, h2⟩, ⟨h3, h4⟩, h5, h6⟩ hf
    exact ⟨⟨h1.fr hf, h2.fr hf⟩, ⟨h3.fr hf h5, h4.fr hf h6⟩, h5, h6⟩
  call := by
    rintro i w hi ⟨⟨h1, h2⟩, ⟨h3, h4⟩, h5, h6⟩ hB
    refine (add1_calls w i ba bb va vb xs ys h1 h2 h3 h4).mono ?_
    rintro e w' ⟨rfl, m, rfl⟩
    have hf : ∀ S, Fr S w (w.drewN m) := fun S => (Fr.refl S w).drewN m
    exact ⟨by rw [limbAt_nat, limbAt_nat], ⟨⟨h1.fr (hf _), h2.fr (hf _)⟩, ⟨h3.fr (hf (fun _ => True)) trivial, h4.fr (hf (fun _ => True)) trivial⟩, h5, h6⟩, hf _⟩
  low := fun _ h => h.elim
  small := by
    intro i hi
    have h1 := limbAt_lt hx i
    have h2 := limbAt_lt hy i
    rw [limbAt_nat] at h1 h2
    omega

set_option maxHeartbeats 400000 in
theorem add_calls {S T : Nat → Prop} (w : World) (va vb : Value) (xs ys : List Nat) (ha : Sl Lm S w va xs) (hb : Sl Lm T w vb ys) (hxl : xs.length ≤ 1099511627000) (hyl : ys.length ≤ 1099511627000) :
    Calls Try.prog 84 #[va, vb] w fun e w' => ∃ v, e = .returned v ∧ Own Lm 62 (fun k => w.heap.size ≤ k) w' v (dg LB (val xs + val ys)) ∧ Fr (fun k => k < w.heap.size) w w' := by
  obtain ⟨A, c, rfl, _, _, hlx⟩ := ha.slice
  obtain ⟨A', c', rfl, _, _, hly⟩ := hb.slice
  have hxd := Kd.nat_all ha
  have hyd := Kd.nat_all hb
  have HA := Lib.hid ha
  have HB := Lib.hid hb
  clear ha hb
  by_cases hlt : xs.length < ys.length
  all_goals
    go_enter Try.func84, Try.ntmps84
    go_wp2_with fail
    have hf := fun R => ((Fr.refl R w).alloc (.cells #[.slice A xs.length c] 23)).alloc (.cells #[.slice A' ys.length c'] 23)
    refine (gather_calls _ _ (by omega) _ _ _ _ _ (add_at _ w.heap.size (w.heap.size + 1) (.slice A xs.length c) (.slice A' ys.length c') xs ys _ hxd hyd)
      ⟨⟨HA.out.up Lm_pos (by simp; omega) (hf _), HB.out.up Lm_pos (by simp; omega) (hf _)⟩, ⟨(Box.new _ _ _).alloc _, by simpa using Box.new (w.alloc _) 23 _⟩, by simp; omega, by simp⟩).mono ?_
    rintro e w1 ⟨v, rfl, ho, hfr⟩
    go_wp2_with fail
    go_ret
    refine ⟨_, rfl, ?_, (hf _).comp hfr fun k hk _ => ⟨hk, by simp; omega, id⟩⟩
    rw [sumTo_add, sumTo_all _ _ _ (by omega), sumTo_all _ _ _ (by omega)] at ho
    exact ho.mono fun k hk => by simp at hk; omega
end Go.Proofs.Ytodpbkcdcchljaa

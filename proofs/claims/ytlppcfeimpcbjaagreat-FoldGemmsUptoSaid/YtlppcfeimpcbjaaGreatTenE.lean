import Derived.Test.YtlppcfeimpcbjaaGreatTenD
import Derived.RangeFuncNested
set_option linter.unusedSimpArgs false
set_option linter.unusedVariables false

/- A tensor's elements, gone over: grid.all. -/
namespace Go.Proofs.YtlppcfeimpcbjaaGreat
open Go.RowKit Go.Shelf
attribute [local go_sem] Oper.semAt_some

theorem range_take {n k : Nat} (h : k < n) : List.range (k + 1) = List.range k ++ [k] := List.range_succ
theorem range_prefix {n k : Nat} (h : k ≤ n) : List.range k <+: List.range n := by
  obtain ⟨m, rfl⟩ := Nat.exists_eq_add_of_le h
  rw [List.range_add]
  exact List.prefix_append _ _

set_option maxRecDepth 100000 in
set_option maxHeartbeats 2000000 in
theorem all1_in (l B N : Nat) (S : Nat → Prop) (A : Option Addr) (c : Nat) (vsh : Value) (E : Nat → Value) (hN : N ≤ 9223372036854775807) (J Jx : List Nat → World → Prop) (W : World)
    (hbx : Box2 W B 105 vsh (.slice A N c)) (hel : ∀ j, j < N → Elem S W A j (E j)) (hJ : AbidesFrom W.heap.size J)
    (hY : ∀ pre x W1, J pre W1 → pre.length < N → YieldAt Fence.wide (2 - 1) Tryz.prog l #[.int .i64 (x : Nat), E x] W1 fun e W' =>
      (e = .returned (.bool true) ∧ J (pre ++ [x]) W' ∧ Fr S W1 W') ∨ (e = .returned (.bool false) ∧ Jx (pre ++ [x]) W'))
    (h0 : J [] W) :
    CallsIn Fence.wide 2 Tryz.prog 108 #[.func (.yield l) #[] #[], .pointer (some ⟨B, 0, none⟩)] W fun e W' => (∃ v, e = .returned v) ∧
      ((∃ ys, ys = List.range N ∧ J ys W') ∨ (∃ pre, pre <+: List.range N ∧ Jx pre W')) := by
  have c1 := hbx.c1
  have HE := Lib.hid hel
  have HJ := Lib.hid hJ
  have HY := Lib.hid hY
  clear hel hJ hY
  refine callsIn_of_wp Tryz.func108 rfl trivial ?_ rfl
  simp only [Tryz.ntmps108, List.size_toArray, List.length_cons, List.length_nil, Nat.reduceAdd, Nat.reduceSub, Array.replicate_succ, Array.replicate_zero, List.push_toArray, List.append_toArray, List.nil_append, List.cons_append]
  gi_wp2
  gi_loopw [8] (fun i wr => ∃ k : Nat, k ≤ N ∧ i = .int .i64 (k : Int) ∧ J (List.range k) wr ∧ Fr S W wr) (fun i _ => N - (intOf i).toNat)
  case atStart => exact ⟨0, Nat.zero_le _, by simp, by simpa using h0, Fr.refl _ _⟩
  case round =>
    obtain ⟨k, hk, rfl, hJs, hF⟩ := hrel
    by_cases hlt : k < N
    · obtain ⟨ad, s, P, n, d, Q, m, o, rfl, hS, hv, g0, g1, g2⟩ := (HE.out k hlt).fr hF
      have hJs' := HJ.out _ _ _ none hJs (World.grownBy_alloc wr (.cells #[.bool s, .slice P n d, .slice Q m o] 54) none) (fun r e => by cases e)
      obtain ⟨fn, tmps, assign, body, hy, hR⟩ := HY.out _ k _ hJs' (by rw [List.length_range]; exact hlt)
      rw [hv] at hy
      have hF' : Fr S W (wr.alloc (.cells #[.bool s, .slice P n d, .slice Q m o] 54)) := hF.alloc _
      have HF := Lib.hid hF'
      clear hJs' hF'
      gi_wp2
      refine hR.mono ?_
      rintro e W3 (⟨rfl, hJ3, hk3⟩ | ⟨rfl, hJx3⟩)
      · gi_wp2
        go_roundw
        case rel => exact ⟨k + 1, by omega, by congr 1, by rw [List.range_succ]; exact hJ3, HF.out.trans hk3⟩
        case measure => simp [intOf]; omega
      · gi_wp2
        refine bodyPost_ret (results_none rfl _ _ _) rfl ?_
        exact ⟨⟨_, rfl⟩, .inr ⟨_, by rw [← List.range_succ]; exact range_prefix hlt, hJx3⟩⟩
    · obtain rfl : k = N := by omega
      gi_wp2
      go_end0
      exact ⟨⟨_, rfl⟩, .inl ⟨_, rfl, hJs⟩⟩

theorem all_stops (S : Nat → Prop) (w : World) (B N : Nat) (A : Option Addr) (c : Nat) (vsh : Value) (E : Nat → Value) (hN : N ≤ 9223372036854775807)
    (hbx : Box2 w B 105 vsh (.slice A N c)) (hel : ∀ j, j < N → Elem (fun k => S k ∧ k < w.heap.size) w A j (E j)) :
    SeqStopsK Fence.wide 2 Tryz.prog 108 #[.pointer (some ⟨B, 0, none⟩)] (fun x : Nat => #[.int .i64 x, E x]) (Fr S) (fun ys => ys = List.range N) (fun pre => pre <+: List.range N) N w :=
  fun l J Jx W hW hJ _ hY h0 =>
    have hf := Fr.of_below hW
    all1_in l B N S A c vsh E hN J Jx W (hbx.fr hf hbx.lt) (fun j hj => ((hel j hj).fr (hf.mono fun k _ hk => hk.2)).mono fun k hk => hk.1) hJ hY h0
end Go.Proofs.YtlppcfeimpcbjaaGreat

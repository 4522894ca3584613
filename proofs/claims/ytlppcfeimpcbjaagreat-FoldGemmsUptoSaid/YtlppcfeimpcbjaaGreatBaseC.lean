/- The base, part C: what the elder chapters' texts prove, of the functions that this seat has. -/
import Derived.Test.YtlppcfeimpcbjaaGreatBaseB
import Derived.RangeFuncFrom
import Derived.RangeFuncBound
import Derived.RangeFuncCalls
import Derived.RangeFuncLeaves
import Derived.RangeFuncBox
import Derived.Shelf.Abstract
import Derived.Shelf.RegionOpen
import Derived.OwnWalkIn
import Derived.TacticsInMore
import Derived.LoopNIn
import Derived.LoopIn
import Derived.Sort.CutIn
set_option linter.unusedSimpArgs false
set_option linter.unusedVariables false

/- Package nat: down, Cmp. -/
namespace Go.Proofs.YtlppcfeimpcbjaaGreat
open Go.RowKit Go.Shelf
attribute [local go_sem] Oper.semAt_some

set_option maxHeartbeats 400000 in
theorem down_calls (w : World) (b : Nat) (A A' : Option Addr) (n n' c c' : Nat)
    (h0 : w.cell? ⟨b, 0, none⟩ = some (.slice A n c)) (h1 : w.cell? ⟨b, 1, none⟩ = some (.slice A' n' c')) :
    Calls Tryz.prog 154 #[.slice (some ⟨b, 0, none⟩) 2 2] w fun e w' => e = .returned (.func (.func 165) #[] #[.pointer (some ⟨w.heap.size, 0, none⟩)]) ∧
      Box w' w.heap.size 3 (.int .i64 (max n n' : Nat)) ∧ Fr (fun k => k < w.heap.size) w w' := by
  have hb : b < w.heap.size := World.block_lt_of_cell? w ⟨b, 0, none⟩ h0
  go_enter Tryz.func154, Tryz.ntmps154
  go_wp2_with fail
  go_loopw [8] (fun i wr => ∃ (k : Nat), k ≤ 2 ∧ i = .int .i64 k ∧ Box wr w.heap.size 3 (.int .i64 (if k = 0 then 0 else if k = 1 then n else max n n' : Nat)) ∧ Fr (fun k => k < w.heap.size) w wr) (fun i _ => 2 - (intOf i).toNat)
  case atStart => exact ⟨0, by omega, rfl, Box.new _ _ _, (Fr.refl _ _).alloc _⟩
  case round =>
    obtain ⟨k, hk, rfl, hbx, hfr⟩ := hrel
    have c0 := hfr.cell h0 hb
    have c1 := hfr.cell h1 hb
    have cb := hbx.cell
    have fb := hbx.free
    obtain rfl | rfl | rfl : k = 0 ∨ k = 1 ∨ k = 2 := by omega
    · simp only [if_true] at cb
      go_wp2_with fail
      exact ⟨⟨1, by omega, rfl, by simpa using hbx.set (.int .i64 n), hfr.setCell (p := ⟨w.heap.size, 0, none⟩) (fun h => absurd h (Nat.lt_irrefl _)) _⟩, by simp [intOf]⟩
    · simp only [Nat.one_ne_zero, if_false, if_true] at cb
      have hs := fun m : Nat => hfr.setCell (p := ⟨w.heap.size, 0, none⟩) (fun h => absurd h (Nat.lt_irrefl _)) (.int .i64 m)
      have e1 : max (n : Int) (n' : Int) = ((max n n' : Nat) : Int) := by omega
      have HE := Lib.hid e1
      clear e1
      go_wp2_with fail
      rw [HE.out]
      exact ⟨⟨2, by omega, rfl, by simpa using hbx.set (.int .i64 (max n n' : Nat)), hs _⟩, by simp [intOf]⟩
    · go_wp2_with fail
      go_ret
      exact ⟨rfl, hbx, hfr⟩

/-- the places below a number, from the highest one -/
def downFrom (n : Nat) : List Nat := (List.range n).reverse
theorem downFrom_length (n : Nat) : (downFrom n).length = n := by simp [downFrom]
theorem downFrom_get {n k : Nat} (h : k < n) : (downFrom n)[k]? = some (n - 1 - k) := by
  unfold downFrom
  rw [List.getElem?_reverse (by simpa using h), List.length_range, List.getElem?_range (by omega)]
theorem downFrom_take {n k : Nat} (h : k < n) : (downFrom n).take (k + 1) = (downFrom n).take k ++ [n - 1 - k] := by
  have h1 : k < (downFrom n).length := by rw [downFrom_length]; exact h
  rw [List.take_succ_eq_append_getElem h1]
  have := downFrom_get h
  rw [List.getElem?_eq_getElem h1] at this
  rw [Option.some.inj this]

set_option maxRecDepth 100000 in
set_option maxHeartbeats 1000000 in
theorem down1_in (l Bs N : Nat) (hN : N ≤ 9223372036854775807) (J Jx : List Nat → World → Prop)
    (hY : ∀ pre x W, J pre W → pre.length < N → YieldAt Fence.wide (2 - 1) Tryz.prog l #[.int .i64 (x : Nat)] W fun e W' =>
      (e = .returned (.bool true) ∧ J (pre ++ [x]) W' ∧ Fr (fun k => k = Bs) W W') ∨ (e = .returned (.bool false) ∧ Jx (pre ++ [x]) W'))
    (W : World) (hBs : W.cell? ⟨Bs, 0, none⟩ = some (.int .i64 N)) (h0 : J [] W) :
    CallsIn Fence.wide 2 Tryz.prog 165 #[.func (.yield l) #[] #[], .pointer (some ⟨Bs, 0, none⟩)] W fun e W' => (∃ v, e = .returned v) ∧
      ((∃ ys, ys = downFrom N ∧ J ys W') ∨ (∃ pre, pre <+: downFrom N ∧ Jx pre W')) := by
  refine callsIn_of_wp Tryz.func165 rfl trivial ?_ rfl
  simp only [Tryz.ntmps165, List.size_toArray, List.length_cons, List.length_nil, Nat.reduceAdd, Nat.reduceSub, Array.replicate_succ, Array.replicate_zero, List.push_toArray, List.append_toArray, List.nil_append, List.cons_append]
  gi_wp2
  gi_loopw [3] (fun i wr => ∃ k : Nat, k ≤ N ∧ i = .int .i64 ((N : Int) - 1 - (k : Int)) ∧ J ((downFrom N).take k) wr) (fun i _ => (intOf i + 1).toNat)
  case atStart => exact ⟨0, Nat.zero_le _, by simp, by simpa using h0⟩
  case round =>
    obtain ⟨k, hk, rfl, hJs⟩ := hrel
    by_cases hlt : k < N
    · obtain ⟨fn, tmps, assign, body, hy, hR⟩ := hY _ (N - 1 - k) wr hJs (by rw [List.length_take, downFrom_length]; omega)
      rw [show ((N - 1 - k : Nat) : Int) = (N : Int) - 1 - (k : Int) from by omega] at hy
      gi_wp2
      refine hR.mono ?_
      rintro e W3 (⟨rfl, hJ3, hk3⟩ | ⟨rfl, hJx3⟩)
      · gi_wp2
        go_roundw
        case rel => exact ⟨k + 1, by omega, by congr 1; omega, by rw [downFrom_take hlt]; exact hJ3⟩
        case measure => simp [intOf]; omega
      · gi_wp2
        refine bodyPost_ret (results_none rfl _ _ _) rfl ?_
        exact ⟨⟨_, rfl⟩, .inr ⟨_, by rw [← downFrom_take hlt]; exact List.take_prefix _ _, hJx3⟩⟩
    · obtain rfl : k = N := by omega
      gi_wp2
      go_end0
      exact ⟨⟨_, rfl⟩, .inl ⟨_, rfl, by rw [List.take_of_length_le (by rw [downFrom_length]; omega)] at hJs; exact hJs⟩⟩

theorem down_stops (Bs N : Nat) (hN : N ≤ 9223372036854775807) (w : World) (hb : Box w Bs 3 (.int .i64 N)) :
    SeqStopsK Fence.wide 2 Tryz.prog 165 #[.pointer (some ⟨Bs, 0, none⟩)] (fun x : Nat => #[.int .i64 x]) (Fr (fun k => k = Bs)) (fun ys => ys = downFrom N) (fun pre => pre <+: downFrom N) N w :=
  fun l J Jx W hW _ _ hY h0 => down1_in l Bs N hN J Jx hY W (hb.fr (Fr.of_below hW) hb.lt).cell h0

theorem sumTo_lt_pow {b : Nat} {f : Nat → Nat} {n : Nat} (hf : ∀ i, i < n → f i < b) : sumTo b f n < b ^ n := by
  induction n with
  | zero => simp [sumTo]
  | succ n ih =>
    have h1 := ih fun i hi => hf i (by omega)
    have h2 := hf n (by omega)
    have h3 := Nat.mul_le_mul_left (b ^ n) (show f n + 1 ≤ b from h2)
    rw [Nat.mul_add] at h3
    rw [sumTo, Nat.pow_succ]; omega
theorem sumTo_less {b : Nat} {f g : Nat → Nat} {i n : Nat} (hi : i < n) (hf : ∀ i, f i < b) (he : ∀ j, i < j → j < n → f j = g j) (hl : f i < g i) : sumTo b f n < sumTo b g n := by
  induction n with
  | zero => omega
  | succ n ih =>
    rcases Nat.lt_or_ge i n with h | h
    · rw [sumTo, sumTo, he n h (by omega)]
      have := ih h fun j h1 h2 => he j h1 (by omega)
      omega
    · obtain rfl : i = n := by omega
      have h1 := sumTo_lt_pow (b := b) (f := f) (n := i) fun j _ => hf j
      have h2 := Nat.mul_le_mul_left (b ^ i) (show f i + 1 ≤ g i from hl)
      rw [Nat.mul_add] at h2
      rw [sumTo, sumTo]; omega
theorem getD_lt {xs : List Nat} (h : ∀ d ∈ xs, d < LB) (i : Nat) : xs.getD i 0 < LB := by
  have := limbAt_lt h i
  rw [limbAt_nat] at this; exact this
theorem val_less {xs ys : List Nat} {i : Nat} (hx : ∀ d ∈ xs, d < LB) (he : ∀ j, i < j → j < max xs.length ys.length → xs.getD j 0 = ys.getD j 0) (hl : xs.getD i 0 < ys.getD i 0) : val xs < val ys := by
  have hi : i < max xs.length ys.length := by
    rcases Nat.lt_or_ge i (max xs.length ys.length) with h | h
    · exact h
    · rw [List.getD_eq_getElem?_getD, List.getD_eq_getElem?_getD, List.getElem?_eq_none (by omega), List.getElem?_eq_none (by omega)] at hl
      exact absurd hl (Nat.lt_irrefl _)
  have := sumTo_less (b := LB) (f := fun j => xs.getD j 0) (g := fun j => ys.getD j 0) hi (getD_lt hx) he hl
  rwa [sumTo_all _ _ _ (by omega), sumTo_all _ _ _ (by omega)] at this
theorem val_same {xs ys : List Nat} (he : ∀ j, j < max xs.length ys.length → xs.getD j 0 = ys.getD j 0) : val xs = val ys := by
  have := sumTo_congr (b := LB) (f := fun j => xs.getD j 0) (g := fun j => ys.getD j 0) he
  rwa [sumTo_all _ _ _ (by omega), sumTo_all _ _ _ (by omega)] at this
/-- less, the same, or more: -1, 0, 1 -/
def cmpN (a b : Nat) : Int := if a < b then -1 else if b < a then 1 else 0
theorem mem_downFrom {n i : Nat} : i ∈ downFrom n ↔ i < n := by simp [downFrom]
/-- What stands ahead of a place in the way down. -/
theorem downFrom_before {n i : Nat} {pre : List Nat} (h : pre ++ [i] <+: downFrom n) {j : Nat} (h1 : i < j) (h2 : j < n) : j ∈ pre := by
  have hlen := h.length_le
  rw [downFrom_length, List.length_append, List.length_singleton] at hlen
  have hget : ∀ k, k < pre.length + 1 → (pre ++ [i])[k]? = some (n - 1 - k) := by
    intro k hk
    rw [List.prefix_iff_eq_take.1 h, List.getElem?_take, if_pos (by simp; omega)]
    exact downFrom_get (by omega)
  have hi := hget pre.length (by omega)
  rw [List.getElem?_append_right (Nat.le_refl _)] at hi
  simp at hi
  have hj := hget (n - 1 - j) (by omega)
  rw [List.getElem?_append_left (by omega)] at hj
  have := List.mem_of_getElem? hj
  rwa [show n - 1 - (n - 1 - j) = j from by omega] at this

/-! What the laws on ranging over a function ask, said of frames. -/
theorem ownFrom_fr {β : Type} {B : Nat} {I : β → World → Prop} (h : ∀ s W W', I s W → Fr (fun k => k < B) W W' → I s W') : OwnFrom B I :=
  fun s W W' row hs hg hr => h s W W' hs ((Fr.of_grown hg).mono fun k _ hk e => by have := (hr k e.symm).1; omega)
theorem frK_t {S : Nat → Prop} {A B C : World} (h : Fr S A B) (k : Fr S B C) : Fr S A C := h.trans k
theorem frK_b {S : Nat → Prop} {w : World} (hS : ∀ k, S k → k < w.heap.size) (W : World) (l : Nat) (o o' : Obj) (hl : w.heap.size ≤ l) (_ : W.heap[l]? = some o) (_ : o.isCells = false) (_ : o.isWalk = false) : Fr S W (W.putObj l o') :=
  (Fr.of_grown (grownBy_putObj' W l o')).mono fun k _ hk e => by cases e; have := hS _ hk; omega
theorem keepsOthers_fr {W W' : World} (h : Fr (fun k => k < W.heap.size) W W') : KeepsOthers W W' :=
  ⟨h.size, fun _ _ hk _ => h.obj hk (Array.getElem?_eq_some_iff.1 hk).1⟩

/-- What lies in memory while the places are gone over. -/
structure CmpI (w : World) (va vb : Value) (xs ys : List Nat) (W : World) : Prop where
  sa : Sl Lm (fun k => k < w.heap.size) W va xs
  sb : Sl Lm (fun k => k < w.heap.size) W vb ys
  ba : Box W w.heap.size 52 va
  bb : Box W (w.heap.size + 1) 52 vb
  br : ∃ r, Box W (w.heap.size + 1 + 1) 3 r
  fr : Fr (fun k => k < w.heap.size) w W
theorem CmpI.keep {w : World} {va vb : Value} {xs ys : List Nat} {W W' : World} (h : CmpI w va vb xs ys W) {S : Nat → Prop} (hf : Fr S W W') (hS : ∀ k, k < w.heap.size + 3 → S k) : CmpI w va vb xs ys W' where
  sa := h.sa.fr (hf.mono fun k _ hk => hS k (by omega))
  sb := h.sb.fr (hf.mono fun k _ hk => hS k (by omega))
  ba := h.ba.fr hf (hS _ (by omega))
  bb := h.bb.fr hf (hS _ (by omega))
  br := by obtain ⟨r, h⟩ := h.br; exact ⟨r, h.fr hf (hS _ (by omega))⟩
  fr := h.fr.comp hf fun k _ hk => ⟨hk, hS k (by omega)⟩

/-- between two rounds -/
def CmpPre (w : World) (va vb : Value) (xs ys : List Nat) (pre : List Nat) (W : World) : Prop := (∀ i ∈ pre, xs.getD i 0 = ys.getD i 0) ∧ CmpI w va vb xs ys W
/-- a round has returned -/
def CmpStop (w : World) (va vb : Value) (xs ys : List Nat) (cc : Code) (pre : List Nat) (W : World) : Prop :=
  cc = .ret ∧ (∃ pre' i, pre = pre' ++ [i] ∧ (∀ j ∈ pre', xs.getD j 0 = ys.getD j 0) ∧ ((xs.getD i 0 < ys.getD i 0 ∧ Box W (w.heap.size + 1 + 1) 3 (.int .i64 (-1))) ∨ (ys.getD i 0 < xs.getD i 0 ∧ Box W (w.heap.size + 1 + 1) 3 (.int .i64 1)))) ∧ CmpI w va vb xs ys W
theorem CmpI.res {w W : World} {va vb : Value} {xs ys : List Nat} (h : CmpI w va vb xs ys W) (r : Value) : CmpI w va vb xs ys (W.setCell ⟨w.heap.size + 1 + 1, 0, none⟩ r) ∧ Box (W.setCell ⟨w.heap.size + 1 + 1, 0, none⟩ r) (w.heap.size + 1 + 1) 3 r := by
  obtain ⟨r0, hb⟩ := h.br
  have hf : Fr (fun k => k < w.heap.size) W (W.setCell ⟨w.heap.size + 1 + 1, 0, none⟩ r) := (Fr.refl _ _).setBox (fun _ => by omega) _
  exact ⟨⟨h.sa.fr hf, h.sb.fr hf, h.ba.other' (by omega) _, h.bb.other' (by omega) _, ⟨_, hb.set r⟩, h.fr.setBox (fun _ => by omega) _⟩, hb.set r⟩

set_option maxRecDepth 100000 in
set_option maxHeartbeats 2000000 in
theorem cmp_calls {S T : Nat → Prop} (w : World) (va vb : Value) (xs ys : List Nat) (ha : Sl Lm S w va xs) (hb : Sl Lm T w vb ys) :
    Calls Tryz.prog 136 #[va, vb] w fun e w' => e = .returned (.int .i64 (cmpN (val xs) (val ys))) ∧ Fr (fun k => k < w.heap.size) w w' := by
  obtain ⟨A, c, rfl, _, _, hlx⟩ := ha.slice
  obtain ⟨A', c', rfl, _, _, hly⟩ := hb.slice
  have hxd := Kd.nat_all ha
  have hyd := Kd.nat_all hb
  have HA := Lib.hid (ha.up Lm_pos (Nat.le_refl _) (Fr.refl _ _))
  have HB := Lib.hid (hb.up Lm_pos (Nat.le_refl _) (Fr.refl _ _))
  clear ha hb
  refine (callsIn_wide (n := 3)).1 ?_
  refine callsIn_of_wp_marks Tryz.func136 rfl trivial ?_ rfl
  simp only [Tryz.ntmps136, List.size_toArray, List.length_cons, List.length_nil, Nat.reduceAdd, Nat.reduceSub, Array.replicate_succ, Array.replicate_zero, List.push_toArray, List.append_toArray, List.nil_append, List.cons_append]
  have hcI : CmpI w (.slice A xs.length c) (.slice A' ys.length c') xs ys (((w.alloc (.cells #[.slice A xs.length c] 52)).alloc (.cells #[.slice A' ys.length c'] 52)).alloc (.cells #[.int .i64 0] 3)) := by
    have hf := fun R => (((Fr.refl R w).alloc (.cells #[.slice A xs.length c] 52)).alloc (.cells #[.slice A' ys.length c'] 52)).alloc (.cells #[.int .i64 0] 3)
    exact ⟨HA.out.fr (hf _), HB.out.fr (hf _), ((Box.new _ _ _).alloc _).alloc _, (Box.at2 rfl).alloc _, ⟨_, Box.at3 rfl⟩, hf _⟩
  gi_wp2_with fail
  refine ⟨trivial, ?_⟩
  refine (callsIn_wide.2 (down_calls _ (w.heap.size + 1 + 1 + 1) A A' xs.length ys.length c c' ?h0 ?h1)).mono ?_
  case h0 => rw [World.cell?_alloc_at _ _ _ _ (by simp)]; rfl
  case h1 => rw [World.cell?_alloc_at _ _ _ _ (by simp)]; rfl
  rintro e w1 ⟨rfl, hbx, hfr⟩
  gi_wp2_with fail
  simp only [World.size_alloc] at hbx hfr
  have hsz := hbx.lt
  have hI1 := (hcI.keep ((Fr.refl (fun _ => True) _).alloc (.cells #[.slice A xs.length c, .slice A' ys.length c'] 52)) (fun _ _ => trivial)).keep hfr (fun k hk => by omega)
  clear hcI
  refine wpIn_rangeFunc_ownF (F := Fence.wide) rfl (by omega) (gf := 165) (lb := #[.pointer (some ⟨w.heap.size + 1 + 1 + 1 + 1, 0, none⟩)]) rfl trivial (enter_of Tryz.func165 (by decide) rfl)
    (down_stops (w.heap.size + 1 + 1 + 1 + 1) (max xs.length ys.length) (by omega) w1 hbx) frK_t (frK_b (by intro k hk; subst hk; exact hsz)) (Below.refl _ _) (fun _ => rfl)
    (CmpPre w (.slice A xs.length c) (.slice A' ys.length c') xs ys) (CmpStop w (.slice A xs.length c) (.slice A' ys.length c') xs ys)
    (ownFrom_fr fun s W W' h hf => ⟨h.1, h.2.keep hf (fun k hk => by omega)⟩)
    (fun cc => ownFrom_fr fun s W W' h hf => ?own)
    ⟨by simp, hI1⟩
    (fun x => { tmps := #[.slice A xs.length c, .slice A' ys.length c', .pointer (some ⟨w.heap.size, 0, none⟩), .pointer (some ⟨w.heap.size + 1, 0, none⟩), .pointer (some ⟨w.heap.size + 1 + 1, 0, none⟩), .int .i64 x, undef, undef, .slice A xs.length c, .slice A' ys.length c', .slice (some ⟨w.heap.size + 1 + 1 + 1, 0, none⟩) 2 2, .func (.func 165) #[] #[.pointer (some ⟨w.heap.size + 1 + 1 + 1 + 1, 0, none⟩)], .int .i64 x, undef, undef, undef, undef, undef, undef, undef, undef, undef, undef, undef, undef, undef, undef], defers := [] }) ?assign ?body ?done ?stop
  case own =>
    obtain ⟨h1, ⟨pre', i, h2, h3, h4⟩, h5⟩ := h
    refine ⟨h1, ⟨pre', i, h2, h3, ?_⟩, h5.keep hf (fun k hk => by omega)⟩
    rcases h4 with ⟨h4, hb⟩ | ⟨h4, hb⟩
    · exact .inl ⟨h4, hb.fr hf (by omega)⟩
    · exact .inr ⟨h4, hb.fr hf (by omega)⟩
  case assign =>
    intro l x W K hK
    gi_wp2
    exact hK
  case body =>
    rintro l pre x W ⟨hpre, hc⟩ _
    have hmx : Tryz.prog.follows .mixedOrders = true := by kernel_rfl
    have ca := hc.ba.cell
    have cb := hc.bb.cell
    have hq : CmpI w (.slice A xs.length c) (.slice A' ys.length c') xs ys W.drew := hc.keep (Fr.refl (fun _ => True) _).drew (fun _ _ => trivial)
    obtain ⟨r, hbr⟩ := hq.br
    have cr := hbr.cell
    have fr := hbr.free
    have p1 := limb_calls W.drew (.slice A xs.length c) xs x hq.sa
    have p2 := limb_calls W.drew (.slice A' ys.length c') ys x hq.sb
    rw [limbAt_nat] at p1 p2
    obtain ⟨X, hX⟩ : ∃ X, X = xs.getD x 0 := ⟨_, rfl⟩
    obtain ⟨Y, hY⟩ : ∃ Y, Y = ys.getD x 0 := ⟨_, rfl⟩
    rw [← hX] at p1
    rw [← hY] at p2
    have HX := Lib.hid hX
    have HY := Lib.hid hY
    have HP := Lib.hid hpre
    have q1 := Lib.hid (CallsIn.inRound l (callsIn_wide.2 p1 : CallsIn Fence.wide 0 _ _ _ _ _))
    have q2 := Lib.hid (CallsIn.inRound l (callsIn_wide.2 p2 : CallsIn Fence.wide 0 _ _ _ _ _))
    clear p1 p2 hX hY hpre
    gi_wp2
    gi_cut [6, 7] from 13 (fun v6 v7 wc => v6 = .int .u64 X ∧ v7 = .int .u64 Y ∧ wc = W.drew)
    case first =>
      gi_region_with_o (first
        | (refine ⟨trivial, ?_⟩; (with_reducible refine q1.out.mono ?_); rintro e w' ⟨rfl, rfl⟩)
        | (refine ⟨trivial, ?_⟩; (with_reducible refine q2.out.mono ?_); rintro e w' ⟨rfl, rfl⟩))
      all_goals
        gi_wp2_with fail
        gi_meet
        case rel => exact ⟨rfl, rfl, rfl⟩
    case rest =>
      obtain ⟨rfl, rfl, rfl⟩ := hcut
      have hko : KeepsOthers W W.drew := KeepsOthers.drew W
      rcases Nat.lt_trichotomy X Y with hlt | heq | hgt
      · gi_wp2
        exact ⟨hko.trans (KeepsOthers.setCell _ _ _), rfl, ⟨pre, x, rfl, HP.out, .inl ⟨by rw [← HX.out, ← HY.out]; exact hlt, (hq.res _).2⟩⟩, (hq.res _).1⟩
      · subst heq
        gi_wp2
        exact ⟨hko, (Fr.refl _ _).drew, fun i hi => (List.mem_append.1 hi).elim (HP.out i) (fun e => by simp at e; subst e; rw [← HX.out, ← HY.out]), hq⟩
      · gi_wp2
        exact ⟨hko.trans (KeepsOthers.setCell _ _ _), rfl, ⟨pre, x, rfl, HP.out, .inr ⟨by rw [← HX.out, ← HY.out]; exact hgt, (hq.res _).2⟩⟩, (hq.res _).1⟩
  case done =>
    rintro D ys' W hD rfl ⟨hpre, hc⟩ hK
    have heq : val xs = val ys := val_same fun j hj => hpre j (mem_downFrom.2 hj)
    have hr0 := hc.res (.int .i64 0)
    obtain ⟨r, hbr⟩ := hc.br
    have cr := hbr.cell
    have fr := hbr.free
    have HE := Lib.hid heq
    clear heq hpre
    gi_wp2
    have hK' := (KeepsOthers.setCell W ⟨w.heap.size + 1 + 1, 0, none⟩ (.int .i64 0)).same D _ hK rfl
    refine ⟨by simp, .inl ⟨_, _, rfl, run_takeDeferred hK', ?_⟩⟩
    have hc5 := cell_kept hr0.2.cell (grownBy_putObj' _ D (.deferred none)) (fun r e => by cases e; exact ⟨_, hK', rfl⟩)
    refine ⟨.int .i64 0, by simp [results, Tryz.f136, go_sem, hc5], by rw [HE.out]; simp [cmpN], hr0.1.fr.comp (Fr.of_grown (grownBy_putObj' _ D (.deferred none))) fun k hk hk' => ⟨hk', fun e => by cases e; omega⟩⟩
  case stop =>
    rintro D cc pre W hD hpre ⟨rfl, ⟨pre', i, rfl, hall, hdec⟩, hc⟩ hK
    have hbef := fun j (h1 : i < j) (h2 : j < max xs.length ys.length) => hall j (downFrom_before hpre h1 h2)
    obtain ⟨r, hbr⟩ : ∃ r, Box W (w.heap.size + 1 + 1) 3 (.int .i64 r) ∧ cmpN (val xs) (val ys) = r := by
      rcases hdec with ⟨h1, h2⟩ | ⟨h1, h2⟩
      · have := val_less hxd hbef h1
        exact ⟨_, h2, by unfold cmpN; rw [if_pos this]⟩
      · have := val_less hyd (fun j a b => (hbef j a (by omega)).symm) h1
        exact ⟨_, h2, by unfold cmpN; rw [if_neg (by omega), if_pos this]⟩
    have HE := Lib.hid hbr.2
    have hbr := hbr.1
    clear hbef hall hdec
    gi_wp2
    refine ⟨by simp, .inl ⟨_, _, rfl, run_takeDeferred hK, ?_⟩⟩
    have hc5 := cell_kept hbr.cell (grownBy_putObj' _ D (.deferred none)) (fun r e => by cases e; exact ⟨_, hK, rfl⟩)
    refine ⟨.int .i64 r, by simp [results, Tryz.f136, go_sem, hc5], by rw [HE.out], hc.fr.comp (Fr.of_grown (grownBy_putObj' _ D (.deferred none))) fun k hk hk' => ⟨hk', fun e => by cases e; omega⟩⟩
end Go.Proofs.YtlppcfeimpcbjaaGreat


/- Package nat: Sub, Shl, Shr. -/
namespace Go.Proofs.YtlppcfeimpcbjaaGreat
open Go.RowKit

/-- what is borrowed -/
def subL (xs ys : List Nat) : Nat → Nat
  | 0 => 0
  | i + 1 => if xs.getD i 0 < ys.getD i 0 + subL xs ys i then 1 else 0
def subF (xs ys : List Nat) (i : Nat) : Nat :=
  if xs.getD i 0 < ys.getD i 0 + subL xs ys i then xs.getD i 0 + LB - (ys.getD i 0 + subL xs ys i) else xs.getD i 0 - (ys.getD i 0 + subL xs ys i)
theorem subL_le (xs ys : List Nat) (i : Nat) : subL xs ys i ≤ 1 := by
  cases i with
  | zero => simp [subL]
  | succ i => rw [subL]; split <;> omega
theorem subF_lt {xs ys : List Nat} (hx : ∀ d ∈ xs, d < LB) (hy : ∀ d ∈ ys, d < LB) (i : Nat) : subF xs ys i < LB := by
  have h1 := getD_lt hx i
  have h2 := getD_lt hy i
  have h3 := subL_le xs ys i
  unfold subF
  split <;> omega
theorem sub_sum {xs ys : List Nat} (hx : ∀ d ∈ xs, d < LB) (hy : ∀ d ∈ ys, d < LB) (n : Nat) :
    sumTo LB (subF xs ys) n + sumTo LB (fun i => ys.getD i 0) n = sumTo LB (fun i => xs.getD i 0) n + LB ^ n * subL xs ys n := by
  induction n with
  | zero => simp [sumTo, subL]
  | succ n ih =>
    have h1 := getD_lt hx n
    have h2 := getD_lt hy n
    have h3 := subL_le xs ys n
    have key : subF xs ys n + ys.getD n 0 + subL xs ys n = xs.getD n 0 + LB * subL xs ys (n + 1) := by
      rw [subF, subL]
      split <;> omega
    have key2 := congrArg (fun t => LB ^ n * t) key
    simp only [Nat.mul_add] at key2
    rw [← Nat.mul_assoc, ← Nat.pow_succ] at key2
    simp only [sumTo]
    rw [show n.succ = n + 1 from rfl] at key2
    omega
theorem sub_total {xs ys : List Nat} (hx : ∀ d ∈ xs, d < LB) (hy : ∀ d ∈ ys, d < LB) (hle : val ys ≤ val xs) : sumTo LB (subF xs ys) xs.length = val xs - val ys := by
  have h := sub_sum hx hy xs.length
  have h1 := sumTo_lt_pow (b := LB) (f := subF xs ys) (n := xs.length) fun i _ => subF_lt hx hy i
  have h2 : val xs < LB ^ xs.length := ofB_lt hx
  have hyv : sumTo LB (fun i => ys.getD i 0) xs.length = val ys := by
    rw [sumTo_getD]
    have hs := List.take_append_drop xs.length ys
    rcases Nat.lt_or_ge xs.length ys.length with hl | hl
    · have hv : val ys = ofB LB (ys.take xs.length) + LB ^ xs.length * ofB LB (ys.drop xs.length) := by
        conv => lhs; rw [← hs]
        rw [val, ofB_append, List.length_take, Nat.min_eq_left (by omega)]
      have : ofB LB (ys.drop xs.length) = 0 := by
        rcases Nat.eq_zero_or_pos (ofB LB (ys.drop xs.length)) with h0 | hp
        · exact h0
        · have := Nat.le_mul_of_pos_right (LB ^ xs.length) hp; omega
      rw [hv, this]; simp
    · rw [List.take_of_length_le hl]
  rw [hyv, sumTo_all _ _ _ (Nat.le_refl _)] at h
  have h3 := subL_le xs ys xs.length
  obtain h0 | h0 : subL xs ys xs.length = 0 ∨ subL xs ys xs.length = 1 := by omega
  · rw [h0] at h; show _ = ofB LB xs - _; omega
  · rw [h0] at h
    have h4 : val ys ≤ ofB LB xs := hle
    omega

set_option maxHeartbeats 400000 in
theorem sub1_calls {S T : Nat → Prop} (w : World) (i : Nat) (ba bb bl : Nat) (va vb : Value) (xs ys : List Nat) (ha : Sl Lm S w va xs) (hb : Sl Lm T w vb ys)
    (h1 : Box w ba 52 va) (h2 : Box w bb 52 vb) (h3 : Box w bl 170 (.int .u64 (subL xs ys i))) :
    Calls Tryz.prog 148 #[.int .i64 i, .pointer (some ⟨ba, 0, none⟩), .pointer (some ⟨bb, 0, none⟩), .pointer (some ⟨bl, 0, none⟩)] w fun e w' => e = .returned (.int .u64 (subF xs ys i : Int)) ∧
      Box w' bl 170 (.int .u64 (subL xs ys (i + 1))) ∧ Fr (fun k => k ≠ bl) w w' := by
  have c1 := h1.cell
  have c2 := h2.cell
  have c3 := h3.cell
  have f3 := h3.free
  have l1 := getD_lt (Kd.nat_all ha) i
  have l2 := getD_lt (Kd.nat_all hb) i
  have l3 := subL_le xs ys i
  have p1 := fun n => limb_quiet w n va xs i ha
  have p2 := fun n => limb_quiet w n vb ys i hb
  simp only [limbAt_nat] at p1 p2
  have hF : subF xs ys i = if xs.getD i 0 < ys.getD i 0 + subL xs ys i then xs.getD i 0 + LB - (ys.getD i 0 + subL xs ys i) else xs.getD i 0 - (ys.getD i 0 + subL xs ys i) := rfl
  have hL : subL xs ys (i + 1) = if xs.getD i 0 < ys.getD i 0 + subL xs ys i then 1 else 0 := rfl
  generalize xs.getD i 0 = X at p1 l1 hF hL
  generalize ys.getD i 0 = Y at p2 l2 hF hL
  generalize subL xs ys i = L at c3 l3 hF hL
  have l1' : X < 4294967296 := l1
  have l2' : Y < 4294967296 := l2
  have hw : IntKind.u64.wrap ((Y : Int) + (L : Int)) = (Y : Int) + (L : Int) := wrap_u64_lt (by omega) (by omega)
  have hset : ∀ (m : Nat) (v u : Value), Box (((w.drewN m).setCell ⟨bl, 0, none⟩ v).setCell ⟨bl, 0, none⟩ u) bl 170 u := fun m v u => (Box.set (w := (w.drewN m)) h3 v).set u
  have hset1 : ∀ (m : Nat) (v : Value), Box ((w.drewN m).setCell ⟨bl, 0, none⟩ v) bl 170 v := fun m v => Box.set (w := (w.drewN m)) h3 v
  have hfr1 : ∀ (m : Nat) (v : Value), Fr (fun k => k ≠ bl) w ((w.drewN m).setCell ⟨bl, 0, none⟩ v) := fun m v => ((Fr.refl _ _).drewN m).setBox (fun _ h => h rfl) v
  have P1 := Lib.hid p1
  have P2 := Lib.hid p2
  have HF := Lib.hid hF
  have HL := Lib.hid hL
  clear p1 p2 hF hL
  by_cases hlt : X < Y + L
  · go_enter Tryz.func148, Tryz.ntmps148
    go_wp2_with fail
    go_quiet (first | (with_reducible exact P1.out _) | (with_reducible exact P2.out _))
    go_wp2_with fail
    go_ret
    have e1 : ((X : Int) + 4294967296 - ((Y : Int) + (L : Int))) = ((subF xs ys i : Nat) : Int) := by rw [HF.out, if_pos hlt]; unfold LB; omega
    rw [← e1, HL.out, if_pos hlt]
    exact ⟨rfl, hset _ _ _, (hfr1 _ _).setBox (fun _ h => h rfl) _⟩
  · go_enter Tryz.func148, Tryz.ntmps148
    go_wp2_with fail
    go_quiet (first | (with_reducible exact P1.out _) | (with_reducible exact P2.out _))
    go_wp2_with fail
    go_ret
    have e1 : ((X : Int) - ((Y : Int) + (L : Int))) = ((subF xs ys i : Nat) : Int) := by rw [HF.out, if_neg hlt]; omega
    rw [← e1, HL.out, if_neg hlt]
    exact ⟨rfl, hset1 _ _, hfr1 _ _⟩

theorem sub_at (B ba bb bl : Nat) (va vb : Value) (xs ys : List Nat) (n : Nat) (hx : ∀ d ∈ xs, d < LB) (hy : ∀ d ∈ ys, d < LB) (hbl : bl < B) :
    At Tryz.prog 148 #[.pointer (some ⟨ba, 0, none⟩), .pointer (some ⟨bb, 0, none⟩), .pointer (some ⟨bl, 0, none⟩)] n (subF xs ys) (fun k => k = bl) B
    (fun i w => (Sl Lm (fun k => k < B ∧ k ≠ bl) w va xs ∧ Sl Lm (fun k => k < B ∧ k ≠ bl) w vb ys) ∧ (Box w ba 52 va ∧ Box w bb 52 vb) ∧ Box w bl 170 (.int .u64 (subL xs ys i)) ∧ (ba < B ∧ ba ≠ bl) ∧ (bb < B ∧ bb ≠ bl)) where
  enter := enter_of Tryz.func148 (by decide) rfl
  keep := by
    rintro i w w' ⟨⟨h1, h2⟩, ⟨h3, h4⟩, h5, h6, h7⟩ hf
    exact ⟨⟨h1.fr (hf.mono fun _ _ hk => hk.1), h2.fr (hf.mono fun _ _ hk => hk.1)⟩, ⟨h3.fr hf h6.1, h4.fr hf h7.1⟩, h5.fr hf hbl, h6, h7⟩
  call := by
    rintro i w hi ⟨⟨h1, h2⟩, ⟨h3, h4⟩, h5, h6, h7⟩ hB
    refine (sub1_calls w i ba bb bl va vb xs ys h1 h2 h3 h4 h5).mono ?_
    rintro e w' ⟨rfl, hb, hf⟩
    exact ⟨rfl, ⟨⟨h1.fr (hf.mono fun _ _ hk => hk.2), h2.fr (hf.mono fun _ _ hk => hk.2)⟩, ⟨h3.fr hf h6.2, h4.fr hf h7.2⟩, hb, h6, h7⟩, hf⟩
  low := by rintro k rfl; exact hbl
  small := by
    intro i _
    have : subF xs ys i < 4294967296 := subF_lt hx hy i
    omega

set_option maxHeartbeats 400000 in
theorem sub_calls {S T : Nat → Prop} (w : World) (va vb : Value) (xs ys : List Nat) (ha : Sl Lm S w va xs) (hb : Sl Lm T w vb ys) (hxl : xs.length ≤ 1099511627000) :
    Calls Tryz.prog 129 #[va, vb] w fun e w' => Fr (fun k => k < w.heap.size) w w' ∧
      ((val xs < val ys ∧ e = .returned (.tuple #[.slice none 0 0, .int .i64 20])) ∨
       (val ys ≤ val xs ∧ ∃ v, e = .returned (.tuple #[v, .int .i64 0]) ∧ Own Lm 150 (fun k => w.heap.size ≤ k) w' v (dg LB (val xs - val ys)))) := by
  obtain ⟨A, c, rfl, _, _, hlx⟩ := ha.slice
  obtain ⟨A', c', rfl, _, _, hly⟩ := hb.slice
  have hxd := Kd.nat_all ha
  have hyd := Kd.nat_all hb
  have hf := fun R => ((Fr.refl R w).alloc (.cells #[.slice A xs.length c] 52)).alloc (.cells #[.slice A' ys.length c'] 52)
  have b1 := (Box.new w 52 (.slice A xs.length c)).alloc (.cells #[.slice A' ys.length c'] 52)
  have b2 : Box ((w.alloc (.cells #[.slice A xs.length c] 52)).alloc (.cells #[.slice A' ys.length c'] 52)) (w.heap.size + 1) 52 (.slice A' ys.length c') := Box.at2 rfl
  have HA := Lib.hid (ha.up Lm_pos (Nat.le_refl _) (hf _))
  have HB := Lib.hid (hb.up Lm_pos (Nat.le_refl _) (hf _))
  clear ha hb
  by_cases hlt : val xs < val ys
  · have hc : cmpN (val xs) (val ys) = -1 := by unfold cmpN; rw [if_pos hlt]
    go_enter Tryz.func129, Tryz.ntmps129
    go_wp2_with fail
    refine (cmp_calls _ _ _ xs ys HA.out HB.out).mono ?_
    rintro e w1 ⟨rfl, hfr⟩
    rw [hc]
    go_wp2_with fail
    go_ret2
    exact ⟨(hf _).comp hfr fun k hk _ => ⟨hk, by simp; omega⟩, .inl ⟨hlt, rfl⟩⟩
  · have hc : 0 ≤ cmpN (val xs) (val ys) := by unfold cmpN; rw [if_neg hlt]; split <;> omega
    generalize hcc : cmpN (val xs) (val ys) = cc at hc
    have HC := Lib.hid hcc
    clear hcc
    go_enter Tryz.func129, Tryz.ntmps129
    go_wp2_with fail
    refine (cmp_calls _ _ _ xs ys HA.out HB.out).mono ?_
    rw [HC.out]
    rintro e w1 ⟨rfl, hfr⟩
    have hsz := hfr.size
    simp only [World.size_alloc] at hfr hsz
    have b1' := b1.fr hfr (by omega)
    have b2' := b2.fr hfr (by omega)
    have ca := b1'.cell
    have cb := b2'.cell
    have hz1 : w.heap.size < w1.heap.size := by omega
    have hz2 : w.heap.size + 1 < w1.heap.size := by omega
    go_wp2_with fail
    have hg := fun R => (Fr.refl R w1).alloc (.cells #[.int .u64 0] 170)
    refine (gather_calls _ xs.length (by omega) _ _ _ _ _ (sub_at _ w.heap.size (w.heap.size + 1) w1.heap.size (.slice A xs.length c) (.slice A' ys.length c') xs ys _ hxd hyd ?hbl) ?_).mono ?_
    case hbl => rw [World.size_alloc]; omega
    · exact ⟨⟨((HA.out.fr (hfr.mono fun k _ hk => by omega)).fr (hg _)).mono fun k hk => ⟨by simp; omega, by omega⟩, ((HB.out.fr (hfr.mono fun k _ hk => by omega)).fr (hg _)).mono fun k hk => ⟨by simp; omega, by omega⟩⟩, ⟨b1'.alloc _, b2'.alloc _⟩, Box.new _ _ _, ⟨by simp; omega, by omega⟩, ⟨by simp; omega, by omega⟩⟩
    rintro e w2 ⟨v, rfl, ho, hfr2⟩
    go_wp2_with fail
    go_ret2
    refine ⟨((hf _).comp hfr fun k hk _ => ⟨hk, by omega⟩).comp ((hg _).trans hfr2) fun k hk _ => ⟨hk, by first | omega | (simp <;> omega), by omega⟩, .inr ⟨by omega, _, rfl, ?_⟩⟩
    rw [sub_total hxd hyd (by omega)] at ho
    exact ho.mono fun k hk => by simp at hk; omega

/-! Shifts. -/
theorem rowC_shift {xs : List Nat} (s : Nat) (j : Nat) : rowC xs (2 ^ s) (j + 1) = (xs.getD j 0 * 2 ^ s + rowC xs (2 ^ s) j) / LB := rfl
theorem two_split {s : Nat} (hs : s < 32) : LB = 2 ^ s * 2 ^ (32 - s) := by rw [← Nat.pow_add, Nat.add_sub_cancel' (by omega)]; rfl
theorem rowC_pow {xs : List Nat} (hx : ∀ d ∈ xs, d < LB) {s : Nat} (hs : s < 32) (j : Nat) : rowC xs (2 ^ s) (j + 1) = xs.getD j 0 / 2 ^ (32 - s) ∧ rowC xs (2 ^ s) j < 2 ^ s := by
  have hp : 0 < 2 ^ s := Nat.two_pow_pos s
  have step : ∀ j, rowC xs (2 ^ s) j < 2 ^ s → rowC xs (2 ^ s) (j + 1) = xs.getD j 0 / 2 ^ (32 - s) := by
    intro j h
    rw [rowC_shift, two_split hs, ← Nat.div_div_eq_div_mul, Nat.mul_comm, Nat.add_comm, Nat.add_mul_div_left _ _ hp, Nat.div_eq_of_lt h, Nat.zero_add]
  have lt : ∀ j, rowC xs (2 ^ s) j < 2 ^ s := by
    intro j
    induction j with
    | zero => exact hp
    | succ j ih =>
      rw [step j ih]
      refine Nat.div_lt_of_lt_mul ?_
      have := getD_lt hx j
      rw [two_split hs, Nat.mul_comm] at this
      exact this
  exact ⟨step j (lt j), lt j⟩
/-- The word that the code reckons is the digit. -/
theorem shl_word {a b s : Nat} (hs : s < 32) : (a * 4294967296 + b) * 2 ^ s % 18446744073709551616 / 4294967296 = (a * 2 ^ s + b / 2 ^ (32 - s)) % 4294967296 := by
  have hL : 4294967296 = 2 ^ s * 2 ^ (32 - s) := two_split hs
  have e1 : (18446744073709551616 : Nat) = 4294967296 * 4294967296 := rfl
  rw [e1, Nat.mod_mul_right_div_self]
  congr 1
  rw [Nat.add_mul, Nat.mul_right_comm, Nat.add_comm, Nat.add_mul_div_right _ _ (by omega), Nat.add_comm]
  congr 1
  conv => lhs; rw [hL]
  rw [← Nat.div_div_eq_div_mul, Nat.mul_div_cancel _ (Nat.two_pow_pos s)]

theorem shl_digit {xs : List Nat} (hx : ∀ d ∈ xs, d < LB) {s : Nat} (hs : s < 32) (j : Nat) :
    (xs.getD j 0 * 4294967296 + limbAt xs ((j : Int) - 1)) * 2 ^ s % 18446744073709551616 / 4294967296 = (xs.getD j 0 * 2 ^ s + rowC xs (2 ^ s) j) % LB := by
  rw [shl_word hs]
  cases j with
  | zero => simp [limbAt, rowC, LB]
  | succ j =>
    rw [(rowC_pow hx hs j).1, show (((j + 1 : Nat) : Int) - 1) = (j : Int) from by omega, limbAt_nat]
    rfl

set_option maxHeartbeats 400000 in
theorem shl1_calls {S : Nat → Prop} (w : World) (i n : Nat) (bn ba : Nat) (va : Value) (xs : List Nat) (ha : Sl Lm S w va xs) (h1 : Box w bn 3 (.int .i64 n)) (h2 : Box w ba 52 va) (hi : i < 4611686018427387904) (hn : n < 4611686018427387904) :
    Calls Tryz.prog 166 #[.int .i64 i, .pointer (some ⟨bn, 0, none⟩), .pointer (some ⟨ba, 0, none⟩)] w fun e w' => e = .returned (.int .u64 ((rowF xs (2 ^ (n % 32)) (n / 32) i : Nat) : Int)) ∧ ∃ m, w' = w.drewN m := by
  have c1 := h1.cell
  have c2 := h2.cell
  have hxd := Kd.nat_all ha
  by_cases hlt : i < n / 32
  · have hlt' : (i : Int) - (n : Int) / 32 < 0 := by omega
    go_enter Tryz.func166, Tryz.ntmps166
    go_wp2_with fail
    go_ret
    exact ⟨by rw [rowF, if_pos hlt]; rfl, 0, rfl⟩
  · obtain ⟨j, hj⟩ : ∃ j, j = i - n / 32 := ⟨_, rfl⟩
    have hsub : (i : Int) - (n : Int) / 32 = (j : Int) := by omega
    have hs : n % 32 < 32 := Nat.mod_lt _ (by omega)
    have p1 := fun m => limb_quiet w m va xs j ha
    have p2 := fun m => limb_quiet w m va xs ((j : Int) - 1) ha
    have hd := shl_digit hxd hs j
    have l1 := getD_lt hxd j
    have l2 := limbAt_lt hxd ((j : Int) - 1)
    have hrow : rowF xs (2 ^ (n % 32)) (n / 32) i = (xs.getD j 0 * 2 ^ (n % 32) + rowC xs (2 ^ (n % 32)) j) % LB := by rw [rowF, if_neg hlt, ← hj]
    simp only [limbAt_nat] at p1
    rw [← hd] at hrow
    clear hd
    generalize xs.getD j 0 = X at p1 l1 hrow
    generalize limbAt xs ((j : Int) - 1) = Y at p2 l2 hrow
    have l1' : X < 4294967296 := l1
    have P1 := Lib.hid p1
    have P2 := Lib.hid p2
    have HR := Lib.hid hrow
    have HJ := Lib.hid hj
    clear p1 p2 hrow hj
    go_enter Tryz.func166, Tryz.ntmps166
    go_wp2_with fail
    go_quiet (first | (with_reducible exact P1.out _) | (with_reducible exact P2.out _))
    go_wp2_with fail
    go_ret
    refine ⟨?_, _, rfl⟩
    have e1 := join32 (x := (X : Int)) (y := (Y : Int)) (by omega) (by omega) (by omega) (by omega)
    have e2 : IntKind.u64.wrap (((X : Int) * 4294967296 + (Y : Int)) * 2 ^ (n % 32)) / 4294967296 = ((rowF xs (2 ^ (n % 32)) (n / 32) i : Nat) : Int) := by
      rw [HR.out, IntKind.wrap_u64]
      simp
    have hlt4 : rowF xs (2 ^ (n % 32)) (n / 32) i < 4294967296 := by
      unfold rowF
      split
      · omega
      · exact Nat.mod_lt _ LBpos
    show Ending.returned (.int .u64 (bits .and .u64 (IntKind.u64.wrap (bits .or .u64 ((X : Int) * 4294967296) (Y : Int) * 2 ^ (n % 32)) / 4294967296) 4294967295)) = _
    rw [e1, e2, mask32 (by omega) (by omega), Int.emod_eq_of_lt (by omega) (by omega)]

theorem shl_at (B bn ba : Nat) (va : Value) (xs : List Nat) (n m : Nat) (hn : n < 4611686018427387904) (hm : m < 4611686018427387904) :
    At Tryz.prog 166 #[.pointer (some ⟨bn, 0, none⟩), .pointer (some ⟨ba, 0, none⟩)] m (rowF xs (2 ^ (n % 32)) (n / 32)) (fun _ => False) B
    (fun _ w => Sl Lm (fun k => k < B) w va xs ∧ (Box w bn 3 (.int .i64 n) ∧ Box w ba 52 va) ∧ bn < B ∧ ba < B) where
  enter := enter_of Tryz.func166 (by decide) rfl
  keep := by
    rintro i w w' ⟨h1, ⟨h3, h4⟩, h5, h6⟩ hf
    exact ⟨h1.fr hf, ⟨h3.fr hf h5, h4.fr hf h6⟩, h5, h6⟩
  call := by
    rintro i w hi ⟨h1, ⟨h3, h4⟩, h5, h6⟩ hB
    refine (shl1_calls w i n bn ba va xs h1 h3 h4 (by omega) hn).mono ?_
    rintro e w' ⟨rfl, m, rfl⟩
    have hf : ∀ S, Fr S w (w.drewN m) := fun S => (Fr.refl S w).drewN m
    exact ⟨rfl, ⟨h1.fr (hf _), ⟨h3.fr (hf (fun _ => True)) trivial, h4.fr (hf (fun _ => True)) trivial⟩, h5, h6⟩, hf _⟩
  low := fun _ h => h.elim
  small := by
    intro i _
    have : rowF xs (2 ^ (n % 32)) (n / 32) i < 4294967296 := by
      unfold rowF
      split
      · omega
      · exact Nat.mod_lt _ LBpos
    omega

set_option maxHeartbeats 400000 in
theorem shl_calls {S : Nat → Prop} (w : World) (va : Value) (xs : List Nat) (n : Int) (ha : Sl Lm S w va xs) (hn : n < 1099511627000) (hxl : xs.length ≤ 549755813000) :
    Calls Tryz.prog 160 #[va, .int .i64 n] w fun e w' => ∃ v, e = .returned v ∧ Own Lm 150 (fun k => w.heap.size ≤ k) w' v (dg LB (val xs * 2 ^ n.toNat)) ∧ Fr (fun k => k < w.heap.size) w w' := by
  obtain ⟨A, c, rfl, _, _, hlx⟩ := ha.slice
  have hxd := Kd.nat_all ha
  have hmax : max n 0 = (n.toNat : Int) := by omega
  obtain ⟨m, hm⟩ : ∃ m, m = n.toNat := ⟨_, rfl⟩
  rw [← hm] at hmax
  rw [← hm]
  have hml : m < 1099511627000 := by omega
  have hf : ∀ R, Fr R w (((w.alloc (.cells #[.slice A xs.length c] 52)).alloc (.cells #[.int .i64 m] 3))) := fun R => ((Fr.refl R w).alloc _).alloc _
  have HA := Lib.hid (ha.up Lm_pos (Nat.le_refl _) (hf _))
  have HM := Lib.hid hm
  clear ha hm
  by_cases h0 : val xs = 0
  · have hz : (dg LB (val xs)).length = 0 := by rw [h0, dg_zero]; rfl
    have hpos : ((((dg LB (val xs)).length : Nat) : Int) == 0) = true := by rw [hz]; rfl
    have H0 := Lib.hid h0
    clear hz h0
    go_enter Tryz.func160, Tryz.ntmps160
    go_wp2_with (go_at_call 149; refine (top_calls _ _ _ HA.out).mono ?_; rintro e w' ⟨rfl, rfl⟩)
    go_ret
    exact ⟨_, rfl, by rw [H0.out, Nat.zero_mul, dg_zero]; exact Own.nil _ _ _ _, hf _⟩
  · have hpos : ((((dg LB (val xs)).length : Nat) : Int) == 0) = false := beq_eq_false_iff_ne.2 (by have := (dg_len_pos LB2 (n := val xs)).2 (by omega); omega)
    go_enter Tryz.func160, Tryz.ntmps160
    go_wp2_with fail
    refine (top_calls _ _ _ HA.out).mono ?_
    rintro e w1 ⟨rfl, rfl⟩
    go_wp2_with fail
    refine (gather_calls _ (xs.length + m / 32 + 1) (by omega) _ _ _ _ _ (shl_at _ (w.heap.size + 1) w.heap.size (.slice A xs.length c) xs m _ (by omega) (by omega)) ?_).mono ?_
    · exact ⟨HA.out.mono fun k hk => by simp; omega, ⟨Box.at2 rfl, (Box.new _ _ _).alloc _⟩, by simp, by simp <;> omega⟩
    rintro e w2 ⟨v, rfl, ho, hfr⟩
    go_wp2_with fail
    go_ret
    refine ⟨_, rfl, ?_, (hf _).comp hfr fun k hk _ => ⟨hk, by simp; omega, id⟩⟩
    rw [row_total hxd (by have := Nat.pow_lt_pow_right (a := 2) (by omega) (Nat.mod_lt m (show 32 > 0 by omega)); exact this), LB_pow, Nat.mul_assoc, ← Nat.pow_add, Nat.mod_add_div] at ho
    exact ho.mono fun k hk => by simp at hk; omega

/-! Shr. -/
/-- the digits of a number, a power of 2 below -/
def shrF (V n i : Nat) : Nat := V / 2 ^ n / LB ^ i % LB
theorem sumTo_digits (V n : Nat) : sumTo LB (fun i => V / LB ^ i % LB) n = V % LB ^ n := by
  induction n with
  | zero => simp [sumTo, Nat.mod_one]
  | succ n ih => rw [sumTo, ih, Nat.pow_succ, Nat.mod_mul]
theorem shr_total {xs : List Nat} (hx : ∀ d ∈ xs, d < LB) (n : Nat) : sumTo LB (shrF (val xs) n) xs.length = val xs / 2 ^ n := by
  rw [show shrF (val xs) n = fun i => (val xs / 2 ^ n) / LB ^ i % LB from rfl, sumTo_digits]
  exact Nat.mod_eq_of_lt (Nat.lt_of_le_of_lt (Nat.div_le_self _ _) (ofB_lt hx))
theorem shr_digit {xs : List Nat} (hx : ∀ d ∈ xs, d < LB) (n i : Nat) :
    (xs.getD (i + n / 32 + 1) 0 * 4294967296 + xs.getD (i + n / 32) 0) / 2 ^ (n % 32) % 4294967296 = shrF (val xs) n i := by
  have hs : n % 32 < 32 := Nat.mod_lt _ (by omega)
  have e1 : shrF (val xs) n i = (val xs / LB ^ (i + n / 32)) / 2 ^ (n % 32) % LB := by
    unfold shrF
    rw [Nat.div_div_eq_div_mul, Nat.div_div_eq_div_mul]
    congr 2
    rw [LB_pow, LB_pow, ← Nat.pow_add, ← Nat.pow_add]
    congr 1
    omega
  rw [e1, ofB_get LBpos hx (i + n / 32 + 1), ofB_get LBpos hx (i + n / 32), Nat.pow_succ, ← Nat.div_div_eq_div_mul]
  generalize ofB LB xs / LB ^ (i + n / 32) = Y
  have hL : LB = 2 ^ (n % 32) * 2 ^ (32 - n % 32) := two_split hs
  have e2 : Y / LB % LB * 4294967296 + Y % LB = Y % (LB * LB) := by
    rw [Nat.mod_mul]
    show Y / LB % LB * LB + Y % LB = _
    rw [Nat.mul_comm, Nat.add_comm]
  rw [e2]
  generalize hS : 2 ^ (n % 32) = P at hL
  generalize 2 ^ (32 - n % 32) = R at hL
  show Y % (LB * LB) / P % LB = Y / P % LB
  have e3 : LB * LB = P * (R * LB) := by rw [hL]; simp only [Nat.mul_assoc]
  rw [e3, Nat.mod_mul_right_div_self, Nat.mod_mul_left_mod]

set_option maxHeartbeats 400000 in
theorem shr1_calls {S : Nat → Prop} (w : World) (i n : Nat) (bn ba : Nat) (va : Value) (xs : List Nat) (ha : Sl Lm S w va xs) (h1 : Box w bn 3 (.int .i64 n)) (h2 : Box w ba 52 va) (hi : i < 4611686018427387904) (hn : n < 4611686018427387904) :
    Calls Tryz.prog 169 #[.int .i64 i, .pointer (some ⟨bn, 0, none⟩), .pointer (some ⟨ba, 0, none⟩)] w fun e w' => e = .returned (.int .u64 ((shrF (val xs) n i : Nat) : Int)) ∧ ∃ m, w' = w.drewN m := by
  have c1 := h1.cell
  have c2 := h2.cell
  have hxd := Kd.nat_all ha
  obtain ⟨j, hj⟩ : ∃ j, j = i + n / 32 := ⟨_, rfl⟩
  have hsub : (i : Int) + (n : Int) / 32 = (j : Int) := by omega
  have hjl : j < 9223372036854775800 := by omega
  have hs : n % 32 < 32 := Nat.mod_lt _ (by omega)
  have p1 := fun m => limb_quiet w m va xs ((j : Int) + 1) ha
  have p2 := fun m => limb_quiet w m va xs j ha
  have hd := shr_digit hxd n i
  rw [← hj] at hd
  have l1 := getD_lt hxd (j + 1)
  have l2 := getD_lt hxd j
  rw [show ((j : Int) + 1) = ((j + 1 : Nat) : Int) from by omega] at p1
  simp only [limbAt_nat] at p1 p2
  rw [show ((j + 1 : Nat) : Int) = (j : Int) + 1 from by omega] at p1
  generalize xs.getD (j + 1) 0 = X at p1 l1 hd
  generalize xs.getD j 0 = Y at p2 l2 hd
  have l1' : X < 4294967296 := l1
  have l2' : Y < 4294967296 := l2
  have P1 := Lib.hid p1
  have P2 := Lib.hid p2
  have HR := Lib.hid hd
  have HJ := Lib.hid hj
  clear p1 p2 hd hj
  go_enter Tryz.func169, Tryz.ntmps169
  go_wp2_with fail
  go_quiet (first | (with_reducible exact P1.out _) | (with_reducible exact P2.out _))
  go_wp2_with fail
  go_ret
  refine ⟨?_, _, rfl⟩
  have e1 := join32 (x := (X : Int)) (y := (Y : Int)) (by omega) (by omega) (by omega) (by omega)
  show Ending.returned (.int .u64 (bits .and .u64 (bits .or .u64 ((X : Int) * 4294967296) (Y : Int) / 2 ^ (n % 32)) 4294967295)) = _
  have e2 : ((X : Int) * 4294967296 + (Y : Int)) / 2 ^ (n % 32) = (((X * 4294967296 + Y) / 2 ^ (n % 32) : Nat) : Int) := by simp
  have hq : (X * 4294967296 + Y) / 2 ^ (n % 32) ≤ X * 4294967296 + Y := Nat.div_le_self _ _
  rw [e1, e2, mask32 (Int.natCast_nonneg _) (Int.ofNat_lt.2 (Nat.lt_of_le_of_lt hq (by omega) : _ < 18446744073709551616)), ← HR.out]
  simp

theorem shr_at (B bn ba : Nat) (va : Value) (xs : List Nat) (n m : Nat) (hn : n < 4611686018427387904) (hm : m < 4611686018427387904) :
    At Tryz.prog 169 #[.pointer (some ⟨bn, 0, none⟩), .pointer (some ⟨ba, 0, none⟩)] m (shrF (val xs) n) (fun _ => False) B
    (fun _ w => Sl Lm (fun k => k < B) w va xs ∧ (Box w bn 3 (.int .i64 n) ∧ Box w ba 52 va) ∧ bn < B ∧ ba < B) where
  enter := enter_of Tryz.func169 (by decide) rfl
  keep := by
    rintro i w w' ⟨h1, ⟨h3, h4⟩, h5, h6⟩ hf
    exact ⟨h1.fr hf, ⟨h3.fr hf h5, h4.fr hf h6⟩, h5, h6⟩
  call := by
    rintro i w hi ⟨h1, ⟨h3, h4⟩, h5, h6⟩ hB
    refine (shr1_calls w i n bn ba va xs h1 h3 h4 (by omega) hn).mono ?_
    rintro e w' ⟨rfl, m, rfl⟩
    have hf : ∀ S, Fr S w (w.drewN m) := fun S => (Fr.refl S w).drewN m
    exact ⟨rfl, ⟨h1.fr (hf _), ⟨h3.fr (hf (fun _ => True)) trivial, h4.fr (hf (fun _ => True)) trivial⟩, h5, h6⟩, hf _⟩
  low := fun _ h => h.elim
  small := by
    intro i _
    have : shrF (val xs) n i < 4294967296 := Nat.mod_lt _ LBpos
    omega

set_option maxHeartbeats 400000 in
theorem shr_calls {S : Nat → Prop} (w : World) (va : Value) (xs : List Nat) (n : Int) (ha : Sl Lm S w va xs) (hn : n < 1099511627000) (hxl : xs.length ≤ 549755813000) :
    Calls Tryz.prog 164 #[va, .int .i64 n] w fun e w' => ∃ v, e = .returned v ∧ Own Lm 150 (fun k => w.heap.size ≤ k) w' v (dg LB (val xs / 2 ^ n.toNat)) ∧ Fr (fun k => k < w.heap.size) w w' := by
  obtain ⟨A, c, rfl, _, _, hlx⟩ := ha.slice
  have hxd := Kd.nat_all ha
  have hmax : max n 0 = (n.toNat : Int) := by omega
  obtain ⟨m, hm⟩ : ∃ m, m = n.toNat := ⟨_, rfl⟩
  rw [← hm] at hmax
  rw [← hm]
  have hml : m < 1099511627000 := by omega
  have hf : ∀ R, Fr R w (((w.alloc (.cells #[.slice A xs.length c] 52)).alloc (.cells #[.int .i64 m] 3))) := fun R => ((Fr.refl R w).alloc _).alloc _
  have HA := Lib.hid (ha.up Lm_pos (Nat.le_refl _) (hf _))
  have HM := Lib.hid hm
  clear ha hm
  by_cases h0 : xs.length ≤ m / 32
  · have hz : val xs / 2 ^ m = 0 := by
      refine Nat.div_eq_of_lt (Nat.lt_of_lt_of_le (ofB_lt hxd) ?_)
      rw [LB_pow]
      exact Nat.pow_le_pow_right (by omega) (by omega)
    have HZ := Lib.hid hz
    clear hz
    have hge : (xs.length : Int) ≤ (m : Int) / 32 := by omega
    go_enter Tryz.func164, Tryz.ntmps164
    go_wp2_with fail
    go_ret
    exact ⟨_, rfl, by rw [HZ.out, dg_zero]; exact Own.nil _ _ _ _, hf _⟩
  · have hge : (m : Int) / 32 < (xs.length : Int) := by omega
    go_enter Tryz.func164, Tryz.ntmps164
    go_wp2_with fail
    refine (gather_calls _ xs.length (by omega) _ _ _ _ _ (shr_at _ (w.heap.size + 1) w.heap.size (.slice A xs.length c) xs m _ (by omega) (by omega)) ?_).mono ?_
    · exact ⟨HA.out.mono fun k hk => by simp; omega, ⟨Box.at2 rfl, (Box.new _ _ _).alloc _⟩, by simp, by simp <;> omega⟩
    rintro e w2 ⟨v, rfl, ho, hfr⟩
    go_wp2_with fail
    go_ret
    refine ⟨_, rfl, ?_, (hf _).comp hfr fun k hk _ => ⟨hk, by simp; omega, id⟩⟩
    rw [shr_total hxd] at ho
    exact ho.mono fun k hk => by simp at hk; omega
end Go.Proofs.YtlppcfeimpcbjaaGreat


/- Equal, Own, same, known; lists in memory. -/
namespace Go.Proofs.YtlppcfeimpcbjaaGreat
open Go.RowKit

/-- Limbs that a text lays. -/
theorem sl_lit {w : World} {t : TypeId} {b : Nat} (xs : List Nat) (cells : List Value) (hc : cells = xs.map (fun x => .int .u32 (x : Int))) (hx : ∀ x ∈ xs, x < LB) (hl : xs.length ≤ 1099511627000) (hb : w.heap[b]? = some (.cells cells.toArray t)) :
    Sl Lm (fun k => k < w.heap.size) w (.slice (some ⟨b, 0, none⟩) xs.length xs.length) xs := by
  refine ⟨some ⟨b, 0, none⟩, xs.length, rfl, Nat.le_refl _, by omega, fun h => by simp at h, fun _ => ⟨_, rfl, lt_of_block hb, fun i x hxi => ?_⟩⟩
  refine ⟨[.int .u32 (x : Int)], ⟨rfl, hx x (List.mem_of_getElem? hxi)⟩, fun j u hj => ?_⟩
  have hj0 : j = 0 := by
    have := (List.getElem?_eq_some_iff.1 hj).1
    simp at this; exact this
  subst hj0
  simp at hj
  subst hj
  rw [addr_lit, cell_of_row w b _ _ t (0, 0) hb, hc]
  simp [hxi, Lm, Kd.nat]

theorem fr_then {n : Nat} {a b c : World} (h : Fr (fun k => k < n) a b) (hf : Fr (fun k => k < b.heap.size) b c) : Fr (fun k => k < n) a c :=
  h.comp hf fun _ hk hs => ⟨hs, Nat.lt_of_lt_of_le hk h.size⟩

theorem val_ne_at {xs ys : List Nat} (hx : ∀ d ∈ xs, d < LB) (hy : ∀ d ∈ ys, d < LB) {i : Nat} (h : xs.getD i 0 ≠ ys.getD i 0) : ¬ val xs = val ys := fun e => h (by
  rw [ofB_get LBpos hx i, ofB_get LBpos hy i]; exact congrArg (fun n => n / LB ^ i % LB) e)

theorem same_iff {xs ys : List Nat} (hx : ∀ d ∈ xs, d < LB) (hy : ∀ d ∈ ys, d < LB) (hl : xs.length = ys.length) (he : val xs = val ys) : xs = ys := by
  refine List.ext_getElem hl fun i h1 h2 => ?_
  have := (ofB_get LBpos hx i).trans ((congrArg (fun n => n / LB ^ i % LB) he).trans (ofB_get LBpos hy i).symm)
  rwa [List.getD_eq_getElem?_getD, List.getD_eq_getElem?_getD, List.getElem?_eq_getElem h1, List.getElem?_eq_getElem h2] at this

end Go.Proofs.YtlppcfeimpcbjaaGreat


/- known. -/
namespace Go.Proofs.YtlppcfeimpcbjaaGreat
open Go.RowKit

theorem k1 : dg LB (val [4294967295] + val [1]) = [0, 1] :=
  (congrArg (dg LB) (show val [4294967295] + val [1] = ofB LB [0, 1] by decide)).trans (dg_ofB LB2 (by decide) (by intro d hd; simp at hd; omega))
theorem k2 : dg LB (val [4294967295] * val [4294967295]) = [1, 4294967294] :=
  (congrArg (dg LB) (show val [4294967295] * val [4294967295] = ofB LB [1, 4294967294] by decide)).trans (dg_ofB LB2 (by decide) (by intro d hd; simp at hd; omega))
theorem k3 : val [1] < val [2] := by decide
theorem k4 : blen (val [0, 1]) = 33 := blen_of (by decide) (by decide)

end Go.Proofs.YtlppcfeimpcbjaaGreat


/- Numbers in memory: what is read (Num), what is answered (Can); the contracts said of them. -/
namespace Go.Proofs.YtlppcfeimpcbjaaGreat
open Go.RowKit

/-- Limbs of a number, noughts at the end or not. -/
def Num (S : Nat → Prop) (w : World) (v : Value) (N L : Nat) : Prop := ∃ xs, Sl Lm S w v xs ∧ val xs = N ∧ xs.length ≤ L
/-- A number's limbs, as they are answered. -/
structure Can (S : Nat → Prop) (w : World) (v : Value) (N L : Nat) : Prop where
  own : Own Lm 150 S w v (dg LB N)
  len : (dg LB N).length ≤ L
theorem Can.sl {S : Nat → Prop} {w : World} {v : Value} {N L : Nat} (h : Can S w v N L) : Sl Lm S w v (dg LB N) := h.own.sl
theorem Can.num {S : Nat → Prop} {w : World} {v : Value} {N L : Nat} (h : Can S w v N L) : Num S w v N L := ⟨_, h.sl, val_dg N, h.len⟩
theorem Can.form {S : Nat → Prop} {w : World} {v : Value} {N L : Nat} (h : Can S w v N L) : ∃ A n c, v = .slice A n c := h.sl.form
theorem Num.form {S : Nat → Prop} {w : World} {v : Value} {N L : Nat} (h : Num S w v N L) : ∃ A n c, v = .slice A n c := by obtain ⟨_, h, _⟩ := h; exact h.form
theorem Can.keep {S : Nat → Prop} {w w' : World} {v : Value} {N L : Nat} (h : Can S w v N L) (hf : Fr (fun k => k < w.heap.size) w w') : Can S w' v N L := ⟨h.own.keep' hf, h.len⟩
theorem Num.keep {S : Nat → Prop} {w w' : World} {v : Value} {N L : Nat} (h : Num S w v N L) (hf : Fr (fun k => k < w.heap.size) w w') : Num S w' v N L := by
  obtain ⟨xs, h1, h2⟩ := h
  exact ⟨xs, h1.keep' Lm_pos hf, h2⟩
theorem Can.fr {S : Nat → Prop} {w w' : World} {v : Value} {N L : Nat} (h : Can S w v N L) (hf : Fr S w w') : Can S w' v N L := ⟨h.own.fr hf, h.len⟩
theorem Num.lt {S : Nat → Prop} {w : World} {v : Value} {N L : Nat} (h : Num S w v N L) : N < LB ^ L := by
  obtain ⟨xs, h1, rfl, h3⟩ := h
  exact Nat.lt_of_lt_of_le (ofB_lt (Kd.nat_all h1)) (Nat.pow_le_pow_right LBpos h3)
theorem Can.of {S : Nat → Prop} {w : World} {v : Value} {N L : Nat} (h : Own Lm 150 S w v (dg LB N)) (hl : N < LB ^ L) : Can S w v N L := ⟨h, dg_len_le LB2 hl⟩

theorem add_n {S T : Nat → Prop} (w : World) (va vb : Value) (M N L K : Nat) (ha : Num S w va M L) (hb : Num T w vb N K) (hl : L ≤ 1099511627000) (hk : K ≤ 1099511627000) :
    Calls Tryz.prog 128 #[va, vb] w fun e w' => ∃ v, e = .returned v ∧ Can (fun k => w.heap.size ≤ k) w' v (M + N) (L + K + 1) ∧ Fr (fun k => k < w.heap.size) w w' := by
  have hm := ha.lt
  have hn := hb.lt
  obtain ⟨xs, a1, rfl, a3⟩ := ha
  obtain ⟨ys, b1, rfl, b3⟩ := hb
  refine (add_calls w va vb xs ys a1 b1 (by omega) (by omega)).mono ?_
  rintro e w' ⟨v, rfl, h, hf⟩
  refine ⟨v, rfl, .of h ?_, hf⟩
  have h1 : LB ^ L ≤ LB ^ (L + K) := Nat.pow_le_pow_right LBpos (by omega)
  have h2 : LB ^ K ≤ LB ^ (L + K) := Nat.pow_le_pow_right LBpos (by omega)
  rw [Nat.pow_succ]
  have h3 : LB ^ (L + K) * 2 ≤ LB ^ (L + K) * LB := Nat.mul_le_mul_left _ LB2
  omega
theorem mul_n {S T : Nat → Prop} (w : World) (va vb : Value) (M N L K : Nat) (ha : Num S w va M L) (hb : Num T w vb N K) (hl : L + K ≤ 1099511626000) :
    Calls Tryz.prog 126 #[va, vb] w fun e w' => ∃ v, e = .returned v ∧ Can (fun k => w.heap.size ≤ k) w' v (M * N) (L + K) ∧ Fr (fun k => k < w.heap.size) w w' := by
  have hm := ha.lt
  have hn := hb.lt
  obtain ⟨xs, a1, rfl, a3⟩ := ha
  obtain ⟨ys, b1, rfl, b3⟩ := hb
  refine (mul_calls w va vb xs ys a1 b1 (by omega)).mono ?_
  rintro e w' ⟨v, rfl, h, hf⟩
  exact ⟨v, rfl, .of h (by rw [Nat.pow_add]; exact Nat.mul_lt_mul_of_lt_of_lt hm hn), hf⟩
theorem sub_n {S T : Nat → Prop} (w : World) (va vb : Value) (M N L K : Nat) (ha : Num S w va M L) (hb : Num T w vb N K) (hl : L ≤ 1099511627000) (hle : N ≤ M) :
    Calls Tryz.prog 129 #[va, vb] w fun e w' => ∃ v, e = .returned (.tuple #[v, .int .i64 0]) ∧ Can (fun k => w.heap.size ≤ k) w' v (M - N) L ∧ Fr (fun k => k < w.heap.size) w w' := by
  have hm := ha.lt
  obtain ⟨xs, a1, rfl, a3⟩ := ha
  obtain ⟨ys, b1, rfl, b3⟩ := hb
  refine (sub_calls w va vb xs ys a1 b1 (by omega)).mono ?_
  rintro e w' ⟨hf, ⟨hlt, _⟩ | ⟨_, v, rfl, h⟩⟩
  · omega
  · exact ⟨v, rfl, .of h (by omega), hf⟩
theorem sub_no {S T : Nat → Prop} (w : World) (va vb : Value) (M N L K : Nat) (ha : Num S w va M L) (hb : Num T w vb N K) (hl : L ≤ 1099511627000) (hlt : M < N) :
    Calls Tryz.prog 129 #[va, vb] w fun e w' => e = .returned (.tuple #[.slice none 0 0, .int .i64 20]) ∧ Fr (fun k => k < w.heap.size) w w' := by
  obtain ⟨xs, a1, rfl, a3⟩ := ha
  obtain ⟨ys, b1, rfl, b3⟩ := hb
  refine (sub_calls w va vb xs ys a1 b1 (by omega)).mono ?_
  rintro e w' ⟨hf, ⟨_, rfl⟩ | ⟨hle, _⟩⟩
  · exact ⟨rfl, hf⟩
  · omega
theorem trim_n {S : Nat → Prop} (w : World) (va : Value) (M L : Nat) (ha : Num S w va M L) (hl : L ≤ 1099511627000) :
    Calls Tryz.prog 151 #[va] w fun e w' => ∃ v, e = .returned v ∧ Can (fun k => w.heap.size ≤ k) w' v M L ∧ Fr (fun k => k < w.heap.size) w w' := by
  have hm := ha.lt
  obtain ⟨xs, a1, rfl, a3⟩ := ha
  refine (trim_calls w va xs a1 (by omega)).mono ?_
  rintro e w' ⟨v, rfl, h, hf⟩
  exact ⟨v, rfl, .of h hm, hf⟩
end Go.Proofs.YtlppcfeimpcbjaaGreat


/- NatRing. -/
namespace Go.Proofs.YtlppcfeimpcbjaaGreat
open Go.RowKit

end Go.Proofs.YtlppcfeimpcbjaaGreat


/- NatOwn. -/
namespace Go.Proofs.YtlppcfeimpcbjaaGreat
open Go.RowKit

/-- Limbs that may vary: a slice of the call's own, in a block between two bounds, of whatever limbs. -/
def Vary (lo hi : Nat) (w : World) (v : Value) : Prop := v = .slice none 0 0 ∨ ∃ g n c, v = .slice (some ⟨g, 0, none⟩) n c ∧ lo ≤ g ∧ g < hi ∧ n ≤ 9223372036854775807 ∧
  ∃ cur : Array Value, w.heap[g]? = some (.cells cur 150 (0, 0)) ∧ ∀ j, j < n → ∃ z : Nat, cur[j]? = some (.int .u32 (z : Int)) ∧ z < LB
theorem Vary.of {lo hi : Nat} {S : Nat → Prop} {w : World} {v : Value} {xs : List Nat} (h : Own Lm 150 S w v xs) (hS : ∀ k, S k → lo ≤ k) (hh : w.heap.size ≤ hi) : Vary lo hi w v := by
  have hlt := h.lt
  obtain ⟨cells, ⟨hl, h1⟩, h2, h3⟩ := h
  rcases h1 with ⟨rfl, _⟩ | ⟨g, cap, cur, rfl, _, hg, hcap, hmax, hsz, htk⟩
  · exact .inl rfl
  · refine .inr ⟨g, xs.length, cap, rfl, hS _ (h2 g rfl), Nat.lt_of_lt_of_le (hlt g rfl) hh, by unfold maxLen at hmax; omega, cur, hg, fun j hj => ?_⟩
    obtain ⟨cs, ⟨rfl, hz⟩, hc⟩ := h3 j xs[j] (List.getElem?_eq_getElem hj)
    have h5 := hc 0 _ rfl
    refine ⟨xs[j], ?_, hz⟩
    rw [← htk, List.getElem?_take] at h5
    split at h5
    · simpa [Lm, Kd.nat] using h5
    · cases h5
theorem Vary.fr {lo hi : Nat} {S : Nat → Prop} {w w' : World} {v : Value} (h : Vary lo hi w v) (hf : Fr S w w') (hS : ∀ k, lo ≤ k → k < hi → S k) : Vary lo hi w' v := by
  rcases h with h | ⟨g, n, c, h1, h2, h3, h4, cur, h5, h6⟩
  · exact .inl h
  · exact .inr ⟨g, n, c, h1, h2, h3, h4, cur, hf.obj h5 (hS g h2 h3), h6⟩
theorem Vary.up {lo hi hi' : Nat} {w : World} {v : Value} (h : Vary lo hi w v) (hh : hi ≤ hi') : Vary lo hi' w v := by
  rcases h with h | ⟨g, n, c, h1, h2, h3, h4, h5⟩
  · exact .inl h
  · exact .inr ⟨g, n, c, h1, h2, by omega, h4, h5⟩
theorem Vary.set {lo hi : Nat} {w : World} {v : Value} (h : Vary lo hi w v) (g k z : Nat) (hz : z < LB) : Vary lo hi (w.setCell ⟨g, k, none⟩ (.int .u32 (z : Int))) v := by
  rcases h with h | ⟨g', n, c, h1, h2, h3, h4, cur, h5, h6⟩
  · exact .inl h
  · refine .inr ⟨g', n, c, h1, h2, h3, h4, ?_⟩
    by_cases e : g = g'
    · subst e
      refine ⟨cur.setIfInBounds k (.int .u32 (z : Int)), by simp [World.setCell, Array.getElem?_modify, h5], fun j hj => ?_⟩
      obtain ⟨z', hc, hz'⟩ := h6 j hj
      by_cases ejk : k = j
      · subst ejk
        have : k < cur.size := (Array.getElem?_eq_some_iff.1 hc).1
        exact ⟨z, by simp [this], hz⟩
      · exact ⟨z', by rw [Array.getElem?_setIfInBounds_ne ejk]; exact hc, hz'⟩
    · exact ⟨cur, (Below.heap_setCell w ⟨g, k, none⟩ _ g' (fun h => e h.symm)).trans h5, h6⟩

theorem Vary.form {lo hi : Nat} {w : World} {v : Value} (h : Vary lo hi w v) : ∃ A n c, v = .slice A n c := by
  rcases h with h | ⟨g, n, c, h, _⟩
  · exact ⟨_, _, _, h⟩
  · exact ⟨_, _, _, h⟩

theorem sub_any {S T : Nat → Prop} (w : World) (va vb : Value) (xs ys : List Nat) (ha : Sl Lm S w va xs) (hb : Sl Lm T w vb ys) (hxl : xs.length ≤ 1099511627000) :
    Calls Tryz.prog 129 #[va, vb] w fun e w' => ∃ v k ds, e = .returned (.tuple #[v, .int .i64 k]) ∧ Own Lm 150 (fun k => w.heap.size ≤ k) w' v ds ∧ Fr (fun k => k < w.heap.size) w w' := by
  refine (sub_calls w va vb xs ys ha hb hxl).mono ?_
  rintro e w' ⟨hf, ⟨_, rfl⟩ | ⟨_, v, rfl, h⟩⟩
  · exact ⟨_, _, [], rfl, Own.nil _ _ _ _, hf⟩
  · exact ⟨_, _, _, rfl, h, hf⟩

end Go.Proofs.YtlppcfeimpcbjaaGreat


/- Package nat: down, Cmp. -/
import Derived.Test.YtodpbkcdcchljaaNatE
import Derived.RangeFuncFrom
import Derived.RangeFuncBound
import Derived.RangeFuncCalls
import Derived.RangeFuncLeaves
import Derived.RangeFuncBox
import Derived.Shelf.Abstract
import Derived.Shelf.RegionOpen
import Derived.OwnWalkIn
import Derived.TacticsInMore
import Derived.LoopNIn
import Derived.LoopIn
import Derived.Sort.CutIn
namespace Go.Proofs.Ytodpbkcdcchljaa
open Go.RowKit Go.Shelf
attribute [local go_sem] Oper.semAt_some

set_option maxHeartbeats 400000 in
theorem down_calls (w : World) (b : Nat) (A A' : Option Addr) (n n' c c' : Nat)
    (h0 : w.cell? ⟨b, 0, none⟩ = some (.slice A n c)) (h1 : w.cell? ⟨b, 1, none⟩ = some (.slice A' n' c')) :
    Calls Try.prog 89 #[.slice (some ⟨b, 0, none⟩) 2 2] w fun e w' => e = .returned (.func (.func 103) #[] #[.pointer (some ⟨w.heap.size, 0, none⟩)]) ∧
      Box w' w.heap.size 3 (.int .i64 (max n n' : Nat)) ∧ Fr (fun k => k < w.heap.size) w w' := by
  have hb : b < w.heap.size := World.block_lt_of_cell? w ⟨b, 0, none⟩ h0
  go_enter Try.func89, Try.ntmps89
  go_wp2_with fail
  go_loopw [8] (fun i wr => ∃ (k : Nat), k ≤ 2 ∧ i = .int .i64 k ∧ Box wr w.heap.size 3 (.int .i64 (if k = 0 then 0 else if k = 1 then n else max n n' : Nat)) ∧ Fr (fun k => k < w.heap.size) w wr) (fun i _ => 2 - (intOf i).toNat)
  case atStart => exact ⟨0, by omega, rfl, Box.new _ _ _, (Fr.refl _ _).alloc _⟩
  case round =>
    obtain ⟨k, hk, rfl, hbx, hfr⟩ := hrel
    have c0 := hfr.cell h0 hb
    have c1 := hfr.cell h1 hb
    have cb := hbx.cell
    have fb := hbx.free
    obtain rfl | rfl | rfl : k = 0 ∨ k = 1 ∨ k = 2 := by omega
    · simp only [if_true] at cb
      go_wp2_with fail
      exact ⟨⟨1, by omega, rfl, by simpa using hbx.set (.int .i64 n), hfr.setCell (p := ⟨w.heap.size, 0, none⟩) (fun h => absurd h (Nat.lt_irrefl _)) _⟩, by simp [intOf]⟩
    · simp only [Nat.one_ne_zero, if_false, if_true] at cb
      have hs := fun m : Nat => hfr.setCell (p := ⟨w.heap.size, 0, none⟩) (fun h => absurd h (Nat.lt_irrefl _)) (.int .i64 m)
      have e1 : max (n : Int) (n' : Int) = ((max n n' : Nat) : Int) := by omega
      have HE := Lib.hid e1
      clear e1
      go_wp2_with fail
      rw [HE.out]
      exact ⟨⟨2, by omega, rfl, by simpa using hbx.set (.int .i64 (max n n' : Nat)), hs _⟩, by simp [intOf]⟩
    · go_wp2_with fail
      go_ret
      exact ⟨rfl, hbx, hfr⟩

/-- the places below a number, from the highest one -/
def downFrom (n : Nat) : List Nat := (List.range n).reverse
theorem downFrom_length (n : Nat) : (downFrom n).length = n := by simp [downFrom]
theorem downFrom_get {n k : Nat} (h : k < n) : (downFrom n)[k]? = some (n - 1 - k) := by
  unfold downFrom
  rw [List.getElem?_reverse (by simpa using h), List.length_range, List.getElem?_range (by omega)]
theorem downFrom_take {n k : Nat} (h : k < n) : (downFrom n).take (k + 1) = (downFrom n).take k ++ [n - 1 - k] := by
  have h1 : k < (downFrom n).length := by rw [downFrom_length]; exact h
  rw [List.take_succ_eq_append_getElem h1]
  have := downFrom_get h
  rw [List.getElem?_eq_getElem h1] at this
  rw [Option.some.inj this]

set_option maxRecDepth 100000 in
set_option maxHeartbeats 1000000 in
theorem down1_in (l Bs N : Nat) (hN : N ≤ 9223372036854775807) (J Jx : List Nat → World → Prop)
    (hY : ∀ pre x W, J pre W → pre.length < N → YieldAt Fence.wide (2 - 1) Try.prog l #[.int .i64 (x : Nat)] W fun e W' =>
      (e = .returned (.bool true) ∧ J (pre ++ [x]) W' ∧ Fr (fun k => k = Bs) W W') ∨ (e = .returned (.bool false) ∧ Jx (pre ++ [x]) W'))
    (W : World) (hBs : W.cell? ⟨Bs, 0, none⟩ = some (.int .i64 N)) (h0 : J [] W) :
    CallsIn Fence.wide 2 Try.prog 103 #[.func (.yield l) #[] #[], .pointer (some ⟨Bs, 0, none⟩)] W fun e W' => (∃ v, e = .returned v) ∧
      ((∃ ys, ys = downFrom N ∧ J ys W') ∨ (∃ pre, pre <+: downFrom N ∧ Jx pre W')) := by
  refine callsIn_of_wp Try.func103 rfl trivial ?_ rfl
  simp only [Try.ntmps103, List.size_toArray, List.length_cons, List.length_nil, Nat.reduceAdd, Nat.reduceSub, Array.replicate_succ, Array.replicate_zero, List.push_toArray, List.append_toArray, List.nil_append, List.cons_append]
  gi_wp2
  gi_loopw [3] (fun i wr => ∃ k : Nat, k ≤ N ∧ i = .int .i64 ((N : Int) - 1 - (k : Int)) ∧ J ((downFrom N).take k) wr) (fun i _ => (intOf i + 1).toNat)
  case atStart => exact ⟨0, Nat.zero_le _, by simp, by simpa using h0⟩
  case round =>
    obtain ⟨k, hk, rfl, hJs⟩ := hrel
    by_cases hlt : k < N
    · obtain ⟨fn, tmps, assign, body, hy, hR⟩ := hY _ (N - 1 - k) wr hJs (by rw [List.length_take, downFrom_length]; omega)
      rw [show ((N - 1 - k : Nat) : Int) = (N : Int) - 1 - (k : Int) from by omega] at hy
      gi_wp2
      refine hR.mono ?_
      rintro e W3 (⟨rfl, hJ3, hk3⟩ | ⟨rfl, hJx3⟩)
      · gi_wp2
        go_roundw
        case rel => exact ⟨k + 1, by omega, by congr 1; omega, by rw [downFrom_take hlt]; exact hJ3⟩
        case measure => simp [intOf]; omega
      · gi_wp2
        refine bodyPost_ret (results_none rfl _ _ _) rfl ?_
        exact ⟨⟨_, rfl⟩, .inr ⟨_, by rw [← downFrom_take hlt]; exact List.take_prefix _ _, hJx3⟩⟩
    · obtain rfl : k = N := by omega
      gi_wp2
      go_end0
      exact ⟨⟨_, rfl⟩, .inl ⟨_, rfl, by rw [List.take_of_length_le (by rw [downFrom_length]; omega)] at hJs; exact hJs⟩⟩

theorem down_stops (Bs N : Nat) (hN : N ≤ 9223372036854775807) (w : World) (hb : Box w Bs 3 (.int .i64 N)) :
    SeqStopsK Fence.wide 2 Try.prog 103 #[.pointer (some ⟨Bs, 0, none⟩)] (fun x : Nat => #[.int .i64 x]) (Fr (fun k => k = Bs)) (fun ys => ys = downFrom N) (fun pre => pre <+: downFrom N) N w :=
  fun l J Jx W hW _ _ hY h0 => down1_in l Bs N hN J Jx hY W (hb.fr (Fr.of_below hW) hb.lt).cell h0

theorem sumTo_lt_pow {b : Nat} {f : Nat → Nat} {n : Nat} (hf : ∀ i, i < n → f i < b) : sumTo b f n < b ^ n := by
  induction n with
  | zero => simp [sumTo]
  | succ n ih =>
    have h1 := ih fun i hi => hf i (by omega)
    have h2 := hf n (by omega)
    have h3 := Nat.mul_le_mul_left (b ^ n) (show f n + 1 ≤ b from h2)
    rw [Nat.mul_add] at h3
    rw [sumTo, Nat.pow_succ]; omega
theorem sumTo_less {b : Nat} {f g : Nat → Nat} {i n : Nat} (hi : i < n) (hf : ∀ i, f i < b) (he : ∀ j, i < j → j < n → f j = g j) (hl : f i < g i) : sumTo b f n < sumTo b g n := by
  induction n with
  | zero => omega
  | succ n ih =>
    rcases Nat.lt_or_ge i n with h | h
    · rw [sumTo, sumTo, he n h (by omega)]
      have := ih h fun j h1 h2 => he j h1 (by omega)
      omega
    · obtain rfl : i = n := by omega
      have h1 := sumTo_lt_pow (b := b) (f := f) (n := i) fun j _ => hf j
      have h2 := Nat.mul_le_mul_left (b ^ i) (show f i + 1 ≤ g i from hl)
      rw [Nat.mul_add] at h2
      rw [sumTo, sumTo]; omega
theorem getD_lt {xs : List Nat} (h : ∀ d ∈ xs, d < LB) (i : Nat) : xs.getD i 0 < LB := by
  have := limbAt_lt h i
  rw [limbAt_nat] at this; exact this
theorem val_less {xs ys : List Nat} {i : Nat} (hx : ∀ d ∈ xs, d < LB) (he : ∀ j, i < j → j < max xs.length ys.length → xs.getD j 0 = ys.getD j 0) (hl : xs.getD i 0 < ys.getD i 0) : val xs < val ys := by
  have hi : i < max xs.length ys.length := by
    rcases Nat.lt_or_ge i (max xs.length ys.length) with h | h
    · exact h
    · rw [List.getD_eq_getElem?_getD, List.getD_eq_getElem?_getD, List.getElem?_eq_none (by omega), List.getElem?_eq_none (by omega)] at hl
      exact absurd hl (Nat.lt_irrefl _)
  have := sumTo_less (b := LB) (f := fun j => xs.getD j 0) (g := fun j => ys.getD j 0) hi (getD_lt hx) he hl
  rwa [sumTo_all _ _ _ (by omega), sumTo_all _ _ _ (by omega)] at this
theorem val_same {xs ys : List Nat} (he : ∀ j, j < max xs.length ys.length → xs.getD j 0 = ys.getD j 0) : val xs = val ys := by
  have := sumTo_congr (b := LB) (f := fun j => xs.getD j 0) (g := fun j => ys.getD j 0) he
  rwa [sumTo_all _ _ _ (by omega), sumTo_all _ _ _ (by omega)] at this
/-- less, the same, or more: -1, 0, 1 -/
def cmpN (a b : Nat) : Int := if a < b then -1 else if b < a then 1 else 0
theorem mem_downFrom {n i : Nat} : i ∈ downFrom n ↔ i < n := by simp [downFrom]
/-- What stands ahead of a place in the way down. -/
theorem downFrom_before {n i : Nat} {pre : List Nat} (h : pre ++ [i] <+: downFrom n) {j : Nat} (h1 : i < j) (h2 : j < n) : j ∈ pre := by
  have hlen := h.length_le
  rw [downFrom_length, List.length_append, List.length_singleton] at hlen
  have hget : ∀ k, k < pre.length + 1 → (pre ++ [i])[k]? = some (n - 1 - k) := by
    intro k hk
    rw [List.prefix_iff_eq_take.1 h, List.getElem?_take, if_pos (by simp; omega)]
    exact downFrom_get (by omega)
  have hi := hget pre.length (by omega)
  rw [List.getElem?_append_right (Nat.le_refl _)] at hi
  simp at hi
  have hj := hget (n - 1 - j) (by omega)
  rw [List.getElem?_append_left (by omega)] at hj
  have := List.mem_of_getElem? hj
  rwa [show n - 1 - (n - 1 - j) = j from by omega] at this

/-! What the laws on ranging over a function ask, said of frames. -/
theorem ownFrom_fr {β : Type} {B : Nat} {I : β → World → Prop} (h : ∀ s W W', I s W → Fr (fun k => k < B) W W' → I s W') : OwnFrom B I :=
  fun s W W' row hs hg hr => h s W W' hs ((Fr.of_grown hg).mono fun k _ hk e => by have := (hr k e.symm).1; omega)
theorem frK_t {S : Nat → Prop} {A B C : World} (h : Fr S A B) (k : Fr S B C) : Fr S A C := h.trans k
theorem frK_b {S : Nat → Prop} {w : World} (hS : ∀ k, S k → k < w.heap.size) (W : World) (l : Nat) (o o' : Obj) (hl : w.heap.size ≤ l) (_ : W.heap[l]? = some o) (_ : o.isCells = false) (_ : o.isWalk = false) : Fr S W (W.putObj l o') :=
  (Fr.of_grown (grownBy_putObj' W l o')).mono fun k _ hk e => by cases e; have := hS _ hk; omega
theorem keepsOthers_fr {W W' : World} (h : Fr (fun k => k < W.heap.size) W W') : KeepsOthers W W' :=
  ⟨h.size, fun _ _ hk _ => h.obj hk (Array.getElem?_eq_some_iff.1 hk).1⟩

/-- What lies in memory while the places are gone over. -/
structure CmpI (w : World) (va vb : Value) (xs ys : List Nat) (W : World) : Prop where
  sa : Sl Lm (fun k => k < w.heap.size) W va xs
  sb : Sl Lm (fun k => k < w.heap.size) W vb ys
  ba : Box W w.heap.size 23 va
  bb : Box W (w.heap.size + 1) 23 vb
  br : ∃ r, Box W (w.heap.size + 1 + 1) 3 r
  fr : Fr (fun k => k < w.heap.size) w W
theorem CmpI.keep {w : World} {va vb : Value} {xs ys : List Nat} {W W' : World} (h : CmpI w va vb xs ys W) {S : Nat → Prop} (hf : Fr S W W') (hS : ∀ k, k < w.heap.size + 3 → S k) : CmpI w va vb xs ys W' where
  sa := h.sa.fr (hf.mono fun k _ hk => hS k (by omega))
  sb := h.sb.fr (hf.mono fun k _ hk => hS k (by omega))
  ba := h.ba.fr hf (hS _ (by omega))
  bb := h.bb.fr hf (hS _ (by omega))
  br := by obtain ⟨r, h⟩ := h.br; exact ⟨r, h.fr hf (hS _ (by omega))⟩
  fr := h.fr.comp hf fun k _ hk => ⟨hk, hS k (by omega)⟩

/-- between two rounds -/
def CmpPre (w : World) (va vb : Value) (xs ys : List Nat) (pre : List Nat) (W : World) : Prop := (∀ i ∈ pre, xs.getD i 0 = ys.getD i 0) ∧ CmpI w va vb xs ys W
/-- a round has returned -/
def CmpStop (w : World) (va vb : Value) (xs ys : List Nat) (cc : Code) (pre : List Nat) (W : World) : Prop :=
  cc = .ret ∧ (∃ pre' i, pre = pre' ++ [i] ∧ (∀ j ∈ pre', xs.getD j 0 = ys.getD j 0) ∧ ((xs.getD i 0 < ys.getD i 0 ∧ Box W (w.heap.size + 1 + 1) 3 (.int .i64 (-1))) ∨ (ys.getD i 0 < xs.getD i 0 ∧ Box W (w.heap.size + 1 + 1) 3 (.int .i64 1)))) ∧ CmpI w va vb xs ys W
theorem CmpI.res {w W : World} {va vb : Value} {xs ys : List Nat} (h : CmpI w va vb xs ys W) (r : Value) : CmpI w va vb xs ys (W.setCell ⟨w.heap.size + 1 + 1, 0, none⟩ r) ∧ Box (W.setCell ⟨w.heap.size + 1 + 1, 0, none⟩ r) (w.heap.size + 1 + 1) 3 r := by
  obtain ⟨r0, hb⟩ := h.br
  have hf : Fr (fun k => k < w.heap.size) W (W.setCell ⟨w.heap.size + 1 + 1, 0, none⟩ r) := (Fr.refl _ _).setBox (fun _ => by omega) _
  exact ⟨⟨h.sa.fr hf, h.sb.fr hf, h.ba.other' (by omega) _, h.bb.other' (by omega) _, ⟨_, hb.set r⟩, h.fr.setBox (fun _ => by omega) _⟩, hb.set r⟩

set_option maxRecDepth 100000 in
set_option maxHeartbeats 2000000 in
theorem cmp_calls {S T : Nat → Prop} (w : World) (va vb : Value) (xs ys : List Nat) (ha : Sl Lm S w va xs) (hb : Sl Lm T w vb ys) :
    Calls Try.prog 72 #[va, vb] w fun e w' => e = .returned (.int .i64 (cmpN (val xs) (val ys))) ∧ Fr (fun k => k < w.heap.size) w w' := by
  obtain ⟨A, c, rfl, _, _, hlx⟩ := ha.slice
  obtain ⟨A', c', rfl, _, _, hly⟩ := hb.slice
  have hxd := Kd.nat_all ha
  have hyd := Kd.nat_all hb
  have HA := Lib.hid (ha.up Lm_pos (Nat.le_refl _) (Fr.refl _ _))
  have HB := Lib.hid (hb.up Lm_pos (Nat.le_refl _) (Fr.refl _ _))
  clear ha hb
  refine (callsIn_wide (n := 3)).1 ?_
  refine callsIn_of_wp_marks Try.func72 rfl trivial ?_ rfl
  simp only [Try.ntmps72, List.size_toArray, List.length_cons, List.length_nil, Nat.reduceAdd, Nat.reduceSub, Array.replicate_succ, Array.replicate_zero, List.push_toArray, List.append_toArray, List.nil_append, List.cons_append]
  have hcI : CmpI w (.slice A xs.length c) (.slice A' ys.length c') xs ys (((w.alloc (.cells #[.slice A xs.length c] 23)).alloc (.cells #[.slice A' ys.length c'] 23)).alloc (.cells #[.int .i64 0] 3)) := by
    have hf := fun R => (((Fr.refl R w).alloc (.cells #[.slice A xs.length c] 23)).alloc (.cells #[.slice A' ys.length c'] 23)).alloc (.cells #[.int .i64 0] 3)
    exact ⟨HA.out.fr (hf _), HB.out.fr (hf _), ((Box.new _ _ _).alloc _).alloc _, (Box.at2 rfl).alloc _, ⟨_, Box.at3 rfl⟩, hf _⟩
  gi_wp2_with fail
  refine ⟨trivial, ?_⟩
  refine (callsIn_wide.2 (down_calls _ (w.heap.size + 1 + 1 + 1) A A' xs.length ys.length c c' ?h0 ?h1)).mono ?_
  case h0 => rw [World.cell?_alloc_at _ _ _ _ (by simp)]; rfl
  case h1 => rw [World.cell?_alloc_at _ _ _ _ (by simp)]; rfl
  rintro e w1 ⟨rfl, hbx, hfr⟩
  gi_wp2_with fail
  simp only [World.size_alloc] at hbx hfr
  have hsz := hbx.lt
  have hI1 := (hcI.keep ((Fr.refl (fun _ => True) _).alloc (.cells #[.slice A xs.length c, .slice A' ys.length c'] 23)) (fun _ _ => trivial)).keep hfr (fun k hk => by omega)
  clear hcI
  refine wpIn_rangeFunc_ownF (F := Fence.wide) rfl (by omega) (gf := 103) (lb := #[.pointer (some ⟨w.heap.size + 1 + 1 + 1 + 1, 0, none⟩)]) rfl trivial (enter_of Try.func103 (by decide) rfl)
    (down_stops (w.heap.size + 1 + 1 + 1 + 1) (max xs.length ys.length) (by omega) w1 hbx) frK_t (frK_b (by intro k hk; subst hk; exact hsz)) (Below.refl _ _) (fun _ => rfl)
    (CmpPre w (.slice A xs.length c) (.slice A' ys.length c') xs ys) (CmpStop w (.slice A xs.length c) (.slice A' ys.length c') xs ys)
    (ownFrom_fr fun s W W' h hf => ⟨h.1, h.2.keep hf (fun k hk => by omega)⟩)
    (fun cc => ownFrom_fr fun s W W' h hf => ?own)
    ⟨by simp, hI1⟩
    (fun x => { tmps := #[.slice A xs.length c, .slice A' ys.length c', .pointer (some ⟨w.heap.size, 0, none⟩), .pointer (some ⟨w.heap.size + 1, 0, none⟩), .pointer (some ⟨w.heap.size + 1 + 1, 0, none⟩), .int .i64 x, undef, undef, .slice A xs.length c, .slice A' ys.length c', .slice (some ⟨w.heap.size + 1 + 1 + 1, 0, none⟩) 2 2, .func (.func 103) #[] #[.pointer (some ⟨w.heap.size + 1 + 1 + 1 + 1, 0, none⟩)], .int .i64 x, undef, undef, undef, undef, undef, undef, undef, undef, undef, undef, undef, undef, undef, undef], defers := [] }) ?assign ?body ?done ?stop
  case own =>
    obtain ⟨h1, ⟨pre', i, h2, h3, h4⟩, h5⟩ := h
    refine ⟨h1, ⟨pre', i, h2, h3, ?_⟩, h5.keep hf (fun k hk => by omega)⟩
    rcases h4 with ⟨h4, hb⟩ | ⟨h4, hb⟩
    · exact .inl ⟨h4, hb.fr hf (by omega)⟩
    · exact .inr ⟨h4, hb.fr hf (by omega)⟩
  case assign =>
    intro l x W K hK
    gi_wp2
    exact hK
  case body =>
    rintro l pre x W ⟨hpre, hc⟩ _
    have hmx : Try.prog.follows .mixedOrders = true := by kernel_rfl
    have ca := hc.ba.cell
    have cb := hc.bb.cell
    have hq : CmpI w (.slice A xs.length c) (.slice A' ys.length c') xs ys W.drew := hc.keep (Fr.refl (fun _ => True) _).drew (fun _ _ => trivial)
    obtain ⟨r, hbr⟩ := hq.br
    have cr := hbr.cell
    have fr := hbr.free
    have p1 := limb_calls W.drew (.slice A xs.length c) xs x hq.sa
    have p2 := limb_calls W.drew (.slice A' ys.length c') ys x hq.sb
    rw [limbAt_nat] at p1 p2
    obtain ⟨X, hX⟩ : ∃ X, X = xs.getD x 0 := ⟨_, rfl⟩
    obtain ⟨Y, hY⟩ : ∃ Y, Y = ys.getD x 0 := ⟨_, rfl⟩
    rw [← hX] at p1
    rw [← hY] at p2
    have HX := Lib.hid hX
    have HY := Lib.hid hY
    have HP := Lib.hid hpre
    have q1 := Lib.hid (CallsIn.inRound l (callsIn_wide.2 p1 : CallsIn Fence.wide 0 _ _ _ _ _))
    have q2 := Lib.hid (CallsIn.inRound l (callsIn_wide.2 p2 : CallsIn Fence.wide 0 _ _ _ _ _))
    clear p1 p2 hX hY hpre
    gi_wp2
    gi_cut [6, 7] from 13 (fun v6 v7 wc => v6 = .int .u64 X ∧ v7 = .int .u64 Y ∧ wc = W.drew)
    case first =>
      gi_region_with_o (first
        | (refine ⟨trivial, ?_⟩; (with_reducible refine q1.out.mono ?_); rintro e w' ⟨rfl, rfl⟩)
        | (refine ⟨trivial, ?_⟩; (with_reducible refine q2.out.mono ?_); rintro e w' ⟨rfl, rfl⟩))
      all_goals
        gi_wp2_with fail
        gi_meet
        case rel => exact ⟨rfl, rfl, rfl⟩
    case rest =>
      obtain ⟨rfl, rfl, rfl⟩ := hcut
      have hko : KeepsOthers W W.drew := KeepsOthers.drew W
      rcases Nat.lt_trichotomy X Y with hlt | heq | hgt
      · gi_wp2
        exact ⟨hko.trans (KeepsOthers.setCell _ _ _), rfl, ⟨pre, x, rfl, HP.out, .inl ⟨by rw [← HX.out, ← HY.out]; exact hlt, (hq.res _).2⟩⟩, (hq.res _).1⟩
      · subst heq
        gi_wp2
        exact ⟨hko, (Fr.refl _ _).drew, fun i hi => (List.mem_append.1 hi).elim (HP.out i) (fun e => by simp at e; subst e; rw [← HX.out, ← HY.out]), hq⟩
      · gi_wp2
        exact ⟨hko.trans (KeepsOthers.setCell _ _ _), rfl, ⟨pre, x, rfl, HP.out, .inr ⟨by rw [← HX.out, ← HY.out]; exact hgt, (hq.res _).2⟩⟩, (hq.res _).1⟩
  case done =>
    rintro D ys' W hD rfl ⟨hpre, hc⟩ hK
    have heq : val xs = val ys := val_same fun j hj => hpre j (mem_downFrom.2 hj)
    have hr0 := hc.res (.int .i64 0)
    obtain ⟨r, hbr⟩ := hc.br
    have cr := hbr.cell
    have fr := hbr.free
    have HE := Lib.hid heq
    clear heq hpre
    gi_wp2
    have hK' := (KeepsOthers.setCell W ⟨w.heap.size + 1 + 1, 0, none⟩ (.int .i64 0)).same D _ hK rfl
    refine ⟨by simp, .inl ⟨_, _, rfl, run_takeDeferred hK', ?_⟩⟩
    have hc5 := cell_kept hr0.2.cell (grownBy_putObj' _ D (.deferred none)) (fun r e => by cases e; exact ⟨_, hK', rfl⟩)
    refine ⟨.int .i64 0, by simp [results, Try.f72, go_sem, hc5], by rw [HE.out]; simp [cmpN], hr0.1.fr.comp (Fr.of_grown (grownBy_putObj' _ D (.deferred none))) fun k hk hk' => ⟨hk', fun e => by cases e; omega⟩⟩
  case stop =>
    rintro D cc pre W hD hpre ⟨rfl, ⟨pre', i, rfl, hall, hdec⟩, hc⟩ hK
    have hbef := fun j (h1 : i < j) (h2 : j < max xs.length ys.length) => hall j (downFrom_before hpre h1 h2)
    obtain ⟨r, hbr⟩ : ∃ r, Box W (w.heap.size + 1 + 1) 3 (.int .i64 r) ∧ cmpN (val xs) (val ys) = r := by
      rcases hdec with ⟨h1, h2⟩ | ⟨h1, h2⟩
      · have := val_less hxd hbef h1
        exact ⟨_, h2, by unfold cmpN; rw [if_pos this]⟩
      · have := val_less hyd (fun j a b => (hbef j a (by omega)).symm) h1
        exact ⟨_, h2, by unfold cmpN; rw [if_neg (by omega), if_pos this]⟩
    have HE := Lib.hid hbr.2
    have hbr := hbr.1
    clear hbef hall hdec
    gi_wp2
    refine ⟨by simp, .inl ⟨_, _, rfl, run_takeDeferred hK, ?_⟩⟩
    have hc5 := cell_kept hbr.cell (grownBy_putObj' _ D (.deferred none)) (fun r e => by cases e; exact ⟨_, hK, rfl⟩)
    refine ⟨.int .i64 r, by simp [results, Try.f72, go_sem, hc5], by rw [HE.out], hc.fr.comp (Fr.of_grown (grownBy_putObj' _ D (.deferred none))) fun k hk hk' => ⟨hk', fun e => by cases e; omega⟩⟩
end Go.Proofs.Ytodpbkcdcchljaa

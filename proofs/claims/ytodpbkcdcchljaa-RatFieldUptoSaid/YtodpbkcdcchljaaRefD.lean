
/- The reference's Sub, Mul. -/
import Derived.Test.YtodpbkcdcchljaaRefC
namespace Go.Proofs.Ytodpbkcdcchljaa
open Go.RowKit

/-- What has been put of a difference, and what is lent. -/
structure SubN (xs ys : List Nat) (i : Nat) (ds : List Nat) (c : Nat) : Prop where
  len : ds.length = i
  small : ∀ d ∈ ds, d < DB
  lent : c ≤ 1
  sum : ofB DB ds + sumTo DB (fun j => ys.getD j 0) i = sumTo DB (fun j => xs.getD j 0) i + DB ^ i * c
theorem SubN.step {xs ys : List Nat} {i : Nat} {ds : List Nat} {c d c' : Nat} (h : SubN xs ys i ds c) (hd : d < DB) (hc : c' ≤ 1) (e : d + ys.getD i 0 + c = xs.getD i 0 + DB * c') : SubN xs ys (i + 1) (ds ++ [d]) c' := by
  obtain ⟨h1, h2, h3, h4⟩ := h
  refine ⟨by simp [h1], ?_, hc, ?_⟩
  · intro x hx'
    rcases List.mem_append.1 hx' with hm | hm
    · exact h2 x hm
    · simp at hm; subst hm; exact hd
  · rw [ofB_snoc, sumTo, sumTo, h1, Nat.pow_succ, Nat.mul_assoc]
    have := congrArg (fun n => DB ^ i * n) e
    simp only [Nat.mul_add] at this
    omega
theorem SubN.done {xs ys : List Nat} {i : Nat} {ds : List Nat} {c : Nat} (h : SubN xs ys i ds c) (h1 : xs.length ≤ i) (h2 : ys.length ≤ i) (hle : ofB DB ys ≤ ofB DB xs) : ofB DB ds = ofB DB xs - ofB DB ys := by
  obtain ⟨a1, a2, a3, a4⟩ := h
  rw [sumTo_all _ _ _ h1, sumTo_all _ _ _ h2] at a4
  have hlt := ofB_lt a2
  rw [a1] at hlt
  have : c = 0 := by
    rcases Nat.eq_zero_or_pos c with h | h
    · exact h
    · have := Nat.mul_le_mul_left (DB ^ i) h
      omega
  subst this
  omega

theorem digit_quiet {S : Nat → Prop} (w : World) (v : Value) (xs : List Nat) (i : Nat) (n : Nat) (h : Sl Dg S w v xs) :
    Calls Try.prog 78 #[v, .int .i64 i] (w.drewN n) fun e w'' => e = .returned (.int .i64 (xs.getD i 0 : Nat)) ∧ ∃ m, w'' = w.drewN m :=
  Calls.quiet_of_same (digit_calls _ _ _ _ (h.fr ((Fr.refl _ _).drewN _)))

set_option maxHeartbeats 1000000 in
theorem sub_r {S T : Nat → Prop} (w : World) (va vb : Value) (M N L K : Nat) (ha : RC S w va M L) (hb : RC T w vb N K) (hl : L ≤ 1099511627000) (hle : N ≤ M) :
    Calls Try.prog 64 #[va, vb] w fun e w' => ∃ v, e = .returned (.tuple #[v, .bool true]) ∧ RC (fun k => w.heap.size ≤ k) w' v (M - N) L ∧ Fr (fun k => k < w.heap.size) w w' := by
  have hlt := ha.lt
  have hc := cmp_r w va vb M N L K ha hb
  have hxl := Nat.le_trans ha.len hl
  have hs := ha.sl.up Dg_pos (Nat.le_refl _) (Fr.refl _ _)
  have hs' := hb.sl.up Dg_pos (Nat.le_refl _) (Fr.refl _ _)
  have hxd := Kd.nat_all hs
  have hyd := Kd.nat_all hs'
  have hm := val_dd M
  have hn := val_dd N
  have hmono := @dg_len_mono DB DB2 N M hle
  generalize dg DB M = xs at hs hxd hm hmono hxl
  generalize dg DB N = ys at hs' hyd hn hmono
  clear ha hb
  obtain ⟨A, c, rfl, _, _, hlx⟩ := hs.slice
  obtain ⟨A', c', rfl, _, _, hly⟩ := hs'.slice
  obtain ⟨r, hr, hr0⟩ : ∃ r, r = cmpN M N ∧ 0 ≤ r := ⟨_, rfl, by unfold cmpN; split <;> (try split) <;> omega⟩
  rw [← hr] at hc
  have HC := Lib.hid hc
  have HX := Lib.hid hs
  have HY := Lib.hid hs'
  have HV := Lib.hid (And.intro hm hn)
  clear hs hs' hr hm hn hc
  go_enter Try.func64, Try.ntmps64
  go_wp2_with fail
  refine HC.out.mono ?_
  rintro e w1 ⟨rfl, hf1⟩
  have HX1 := Lib.hid (HX.out.fr (hf1.mono fun _ _ _ => trivial))
  have HY1 := Lib.hid (HY.out.fr (hf1.mono fun _ _ _ => trivial))
  have hf1' : Fr (fun k => k < w.heap.size) w w1 := hf1.mono fun _ _ _ => trivial
  have hsz1 := hf1.size
  clear hf1 HX HY HC
  go_wp2_with fail
  go_loopw [6, 7, 8, 9] (fun o l i _ wr => ∃ (j k : Nat) (ds : List Nat), j ≤ xs.length ∧ l = .int .i64 k ∧ i = .int .i64 j ∧ SubN xs ys j ds k ∧ Own Dg 3 (fun k => w.heap.size ≤ k) wr o ds ∧ Fr (fun k => k < w.heap.size) w1 wr) (fun _ _ i _ _ => xs.length - (intOf i).toNat)
  case atStart => exact ⟨0, 0, [], Nat.zero_le _, rfl, rfl, ⟨rfl, by simp, by omega, rfl⟩, Own.nil _ _ _ _, Fr.refl _ _⟩
  case round =>
    obtain ⟨j, k, ds, hj, rfl, rfl, hN, ho, hfr⟩ := hrel
    have hlen := hN.len
    have hk1 := hN.lent
    by_cases hgo : j < xs.length
    · have hsa := HX1.out.fr hfr
      have hsb := HY1.out.fr hfr
      obtain ⟨ad, rfl, hcx, hmx⟩ := Kd.nat_cell hsa (i := j) hgo
      have e1 := getD_at hgo
      have p1 := fun n => digit_quiet wr _ ys j n hsb
      have a2 := digit_lt hyd j
      have hst : ∀ d c', _ := fun d c' => hN.step (d := d) (c' := c')
      rw [e1] at hst
      generalize xs[j] = X at hcx hmx e1 hst
      generalize ys.getD j 0 = Y at p1 a2 hst
      have hX : X < 10000 := hmx
      have hY : Y < 10000 := a2
      have P1 := Lib.hid p1
      have HL := Lib.hid hlen
      have HST := Lib.hid hst
      have HE := Lib.hid e1
      have HA := Lib.hid (And.intro hsa hsb)
      clear p1 hlen hst e1 hsa hsb
      by_cases hneg : Y + k ≤ X
      · have hrd : Dg.rd (fun _ => False) wr (X - Y - k) [.int .i64 ((X : Int) - (Y : Int) - (k : Int))] := by
          refine ⟨?_, by unfold DB; omega⟩
          congr 2; omega
        have HR := Lib.hid hrd
        clear hrd
        go_wp2_with fail
        go_quiet (first | (with_reducible exact P1.out _))
        have hoN : Own Dg 3 (fun k => w.heap.size ≤ k) (wr.drewN nq) u6 ds := ho.fr ((Fr.refl _ _).drewN _)
        have hfN : Fr (fun k => k < w.heap.size) w1 (wr.drewN nq) := hfr.drewN nq
        have HS2 := Lib.hid (HST.out (X - Y - k) 0 (by unfold DB; omega) (by omega) (by omega))
        have HR2 := Lib.hid (show Dg.rd (fun _ => False) (wr.drewN nq) (X - Y - k) [.int .i64 ((X : Int) - (Y : Int) - (k : Int))] from HR.out)
        clear HR ho hfr HST
        generalize wr.drewN nq = wq at *
        go_wp2_with (at_builtin; refine wpList_push1 (v := u6) dgT rfl rfl rfl rfl hoN HR2.out (fun _ h => h.elim) (fun k hk => by have := hfN.size; omega) (by rw [HL.out]; omega) (by rw [HL.out]; omega) ?_; intro v' w2 hown hfr1 hat)
        go_roundw
        case rel => exact ⟨j + 1, 0, _, by omega, rfl, by go_num, HS2.out, hown, hfN.comp hfr1 fun k hk h => ⟨h, fun e => by have := hoN.in_ k e.symm; omega⟩⟩
        case measure => first | (simp [intOf]; done) | (simp [intOf]; omega)
      · have hrd : Dg.rd (fun _ => False) wr (X + 10000 - Y - k) [.int .i64 ((X : Int) - (Y : Int) - (k : Int) + 10000)] := by
          refine ⟨?_, by unfold DB; omega⟩
          congr 2; omega
        have HR := Lib.hid hrd
        clear hrd
        go_wp2_with fail
        go_quiet (first | (with_reducible exact P1.out _))
        have hoN : Own Dg 3 (fun k => w.heap.size ≤ k) (wr.drewN nq) u6 ds := ho.fr ((Fr.refl _ _).drewN _)
        have hfN : Fr (fun k => k < w.heap.size) w1 (wr.drewN nq) := hfr.drewN nq
        have HS2 := Lib.hid (HST.out (X + 10000 - Y - k) 1 (by unfold DB; omega) (by omega) (by unfold DB; omega))
        have HR2 := Lib.hid (show Dg.rd (fun _ => False) (wr.drewN nq) (X + 10000 - Y - k) [.int .i64 ((X : Int) - (Y : Int) - (k : Int) + 10000)] from HR.out)
        clear HR ho hfr HST
        generalize wr.drewN nq = wq at *
        go_wp2_with (at_builtin; refine wpList_push1 (v := u6) dgT rfl rfl rfl rfl hoN HR2.out (fun _ h => h.elim) (fun k hk => by have := hfN.size; omega) (by rw [HL.out]; omega) (by rw [HL.out]; omega) ?_; intro v' w2 hown hfr1 hat)
        go_roundw
        case rel => exact ⟨j + 1, 1, _, by omega, rfl, by go_num, HS2.out, hown, hfN.comp hfr1 fun k hk h => ⟨h, fun e => by have := hoN.in_ k e.symm; omega⟩⟩
        case measure => first | (simp [intOf]; done) | (simp [intOf]; omega)
    · obtain rfl : j = xs.length := by omega
      go_wp2_with fail
      refine (rtrim_calls wr _ ds ho).mono ?_
      rintro e w2 ⟨v, rfl, hv, rfl⟩
      go_wp2_with fail
      go_ret2
      rw [hN.done (Nat.le_refl _) hmono (by rw [HV.out.1, HV.out.2]; exact hle), HV.out.1, HV.out.2] at hv
      exact ⟨_, rfl, .of hv (by omega), hf1'.comp hfr fun k hk h => ⟨h, h⟩⟩

theorem Own.one {α : Type} {K : Kd α} {e : TypeId} {S : Nat → Prop} (w : World) (hS : S w.heap.size) {x : α} {cs : List Value} (h1 : K.size = 1) (hr : ∀ T W, K.rd T W x cs) : Own K e S (w.alloc (.cells cs.toArray e)) (.slice (some ⟨w.heap.size, 0, none⟩) 1 1) [x] := by
  have hcl := K.len (hr (fun _ => True) w)
  refine ⟨cs, ⟨by simp [h1, hcl], .inr ⟨w.heap.size, 1, cs.toArray, rfl, Nat.zero_le _, heap_alloc_new _ _, Nat.le_refl _, by decide, by simp [hcl, h1], ?_⟩⟩, fun g hg => by simp [Value.ownBlock] at hg; subst hg; exact hS, fun i y hy => ?_⟩
  · rw [h1, List.take_of_length_le (by simp [hcl, h1])]
  cases i with
  | zero =>
    simp at hy; subst hy
    exact ⟨cs, hr _ _, fun j u hj => by simpa using hj⟩
  | succ n => simp at hy
theorem dg_shift (M : Nat) (h : 0 < M) : dg DB (DB * M) = 0 :: dg DB M := by
  have := dg_cons (b := DB) (d := 0) (n := M) DB2 DBpos (by have := Nat.mul_pos DBpos h; omega)
  rwa [Nat.zero_add] at this
theorem ofB_drop_le {b : Nat} (hb : 0 < b) : ∀ (l : List Nat) (i : Nat), ofB b (l.drop i) ≤ ofB b l := by
  intro l
  induction l with
  | nil => intro i; simp
  | cons d l ih =>
    intro i
    cases i with
    | zero => exact Nat.le_refl _
    | succ n =>
      rw [List.drop_succ_cons]
      have h1 := ih n
      have h2 : ofB b l ≤ b * ofB b l := Nat.le_mul_of_pos_left _ hb
      show _ ≤ d + b * ofB b l
      omega

set_option maxHeartbeats 1000000 in
theorem mul_r {S T : Nat → Prop} (w : World) (va vb : Value) (M N L K : Nat) (ha : RC S w va M L) (hb : RC T w vb N K) (hl : L + K ≤ 1099511620) :
    Calls Try.prog 62 #[va, vb] w fun e w' => ∃ v, e = .returned v ∧ RC (fun k => w.heap.size ≤ k) w' v (M * N) (L + K) ∧ Fr (fun k => k < w.heap.size) w w' := by
  have hm := ha.lt
  have hn := hb.lt
  have hyl := hb.len
  have hs' := hb.sl.up Dg_pos (Nat.le_refl _) (Fr.refl _ _)
  have ha' : RC (fun k => k < w.heap.size) w va M L := ⟨ha.sl.up Dg_pos (Nat.le_refl _) (Fr.refl _ _), ha.len⟩
  have hyd := Kd.nat_all hs'
  have hv := val_dd N
  generalize dg DB N = ys at hs' hyd hv hyl
  clear ha hb
  obtain ⟨A', c', rfl, _, _, hly⟩ := hs'.slice
  have HA := Lib.hid ha'
  have HY := Lib.hid hs'
  have HV := Lib.hid hv
  clear ha' hs' hv
  have hbig : ∀ i, M * ofB DB (ys.drop i) < DB ^ (L + K) := fun i => by
    have h1 := ofB_drop_le DBpos ys i
    rw [HV.out] at h1
    rw [Nat.pow_add]
    exact Nat.lt_of_le_of_lt (Nat.mul_le_mul_left _ h1) (Nat.mul_lt_mul_of_lt_of_lt hm hn)
  have HB := Lib.hid hbig
  clear hbig
  go_enter Try.func62, Try.ntmps62
  go_wp2_with fail
  go_loopw [5, 6, 7] (fun o i _ wr => ∃ (k : Nat), k ≤ ys.length ∧ i = .int .i64 ((k : Int) - 1) ∧ RC (fun k => w.heap.size ≤ k) wr o (M * ofB DB (ys.drop k)) (L + K) ∧ Fr (fun k => k < w.heap.size) w wr) (fun _ i _ _ => (intOf i + 1).toNat)
  case atStart => exact ⟨ys.length, Nat.le_refl _, rfl, by rw [List.drop_length]; exact RC.nil _ _ _, Fr.refl _ _⟩
  case round =>
    obtain ⟨k, hk, rfl, ho, hfr⟩ := hrel
    by_cases h0 : 0 < k
    · obtain ⟨j, rfl⟩ : ∃ j, k = j + 1 := ⟨k - 1, by omega⟩
      have hj : j < ys.length := by omega
      have hval : M * ofB DB (ys.drop j) = DB * (M * ofB DB (ys.drop (j + 1))) + M * ys[j] := by
        rw [List.drop_eq_getElem_cons hj]
        show M * (ys[j] + DB * ofB DB (ys.drop (j + 1))) = _
        rw [Nat.mul_add, Nat.mul_left_comm, Nat.add_comm]
      obtain ⟨ad, rfl, hc, hmy⟩ := Kd.nat_cell HY.out (i := j) hj
      have hadw := World.block_lt_of_cell? _ _ hc
      have hb1 := HB.out j
      generalize ys[j] = y at hval hc hmy
      generalize M * ofB DB (ys.drop (j + 1)) = R at hval ho
      obtain ⟨R', hR'⟩ : ∃ R', R' = M * ofB DB (ys.drop j) := ⟨_, rfl⟩
      rw [← hR'] at hval hb1
      have hidx : ((j + 1 : Nat) : Int) - 1 = (j : Int) := by omega
      rw [hidx]
      have HVV := Lib.hid (And.intro hval (And.intro hb1 hR'))
      have hy' : y ≤ 4294967296 := by unfold DB at hmy; omega
      clear hval hidx hR' hb1
      obtain ⟨A1, n1, c1, hv1⟩ := ho.form
      have hlen := ho.len
      have hsl := ho.sl
      obtain ⟨_, _, hv2, _, _, _⟩ := ho.sl.slice
      rw [hv2] at hv1
      have hcw := hfr.cell hc hadw
      by_cases hR0 : R = 0
      · subst hR0
        rw [dg_zero] at hsl hv2
        subst hv2
        have HA1 : RC (fun k => k < w.heap.size) wr va M L := ⟨HA.out.sl.fr hfr, HA.out.len⟩
        have hup : RC (fun k => w.heap.size ≤ k) wr (.slice none 0 0) (DB * 0) (L + K) := RC.nil _ _ _
        clear hsl hlen ho
        go_wp2_with fail
        refine (times_r _ _ _ _ y HA1 hy' (by omega)).mono ?_
        rintro e w2 ⟨v2, rfl, h2, hf2⟩
        replace h2 := h2.len' (K := L + K) (Nat.lt_of_le_of_lt (by have := HVV.out.1; omega) HVV.out.2.1)
        go_wp2_with fail
        refine (add_r _ _ _ (DB * 0) _ _ _ (hup.keep hf2) h2 (by omega) (by omega)).mono ?_
        rintro e w3 ⟨v3, rfl, h3, hf3⟩
        go_wp2_with fail
        go_roundw
        case rel =>
          rw [← HVV.out.1] at h3
          refine ⟨j, by omega, by go_num, ?_, fr_then (fr_then hfr hf2) hf3⟩
          rw [← HVV.out.2.2]
          have s1 := hfr.size
          have s2 := hf2.size
          exact (h3.len' HVV.out.2.1).mono fun k hk => by omega
        case measure => first | (simp [intOf]; done) | (simp [intOf]; omega)
      · have hpos : 0 < (dg DB R).length := (dg_len_pos DB2).2 (by omega)
        subst hv2
        have hsh := dg_shift R (by omega)
        have hDR : DB * R < DB ^ (L + K) := Nat.lt_of_le_of_lt (by have := HVV.out.1; omega) HVV.out.2.1
        generalize dg DB R = rs at *
        have HSH := Lib.hid (And.intro hsh hDR)
        have HSL := Lib.hid hsl
        have HN := Lib.hid (show ([0].length + rs.length) * 8 ≤ 140737488355328 ∧ [0].length + rs.length ≤ 9223372036854775807 from by simp; omega)
        have hb8 := World.block_lt_of_cell? _ _ hcw
        clear hsh hsl ho hDR
        go_wp2_with (at_builtin; refine wpList_push (v := .slice (some ⟨wr.heap.size, 0, none⟩) 1 1) dgT rfl rfl rfl rfl (Own.one (K := Dg) (e := 3) (S := fun k => wr.heap.size ≤ k) wr (Nat.le_refl _) (x := 0) (cs := [.int .i64 0]) rfl (fun _ _ => ⟨rfl, DBpos⟩)) (HSL.out.fr ((Fr.refl _ wr).alloc _)) (fun y cs h => Kd.nat_any (S := fun k => w.heap.size ≤ k) h) (fun k hk => by simp at hk; omega) HN.out.1 HN.out.2 ?_; intro v' w1 hown hfr1 hat; have fW : Fr (fun k => k < w.heap.size) w w1 := (hfr.alloc _).comp hfr1 (fun k hk h => ⟨h, by have := hfr.size; simp [Value.ownBlock]; omega⟩); have hcw1 := fW.cell hc hadw)
        have HA1 : RC (fun k => k < w.heap.size) w1 va M L := ⟨HA.out.sl.fr fW, HA.out.len⟩
        have hup : RC (fun k => wr.heap.size ≤ k) w1 v' (DB * R) (L + K) := by
          have h := hown
          rw [List.singleton_append, ← HSH.out.1] at h
          exact .of h HSH.out.2
        obtain ⟨A3, n3, c3, rfl⟩ := hup.form
        go_wp2_with fail
        refine (times_r _ _ _ _ y HA1 hy' (by omega)).mono ?_
        rintro e w2 ⟨v2, rfl, h2, hf2⟩
        replace h2 := h2.len' (K := L + K) (Nat.lt_of_le_of_lt (by have := HVV.out.1; omega) HVV.out.2.1)
        go_wp2_with fail
        refine (add_r _ _ _ (DB * R) _ _ _ (hup.keep hf2) h2 (by omega) (by omega)).mono ?_
        rintro e w3 ⟨v3, rfl, h3, hf3⟩
        go_wp2_with fail
        go_roundw
        case rel =>
          rw [← HVV.out.1] at h3
          refine ⟨j, by omega, by go_num, ?_, fr_then (fr_then fW hf2) hf3⟩
          rw [← HVV.out.2.2]
          have s1 := fW.size
          have s2 := hf2.size
          exact (h3.len' HVV.out.2.1).mono fun k hk => by omega
        case measure => first | (simp [intOf]; done) | (simp [intOf]; omega)
    · obtain rfl : k = 0 := by omega
      go_wp2_with fail
      go_ret
      rw [List.drop_zero, HV.out] at ho
      exact ⟨_, rfl, ho, hfr⟩
end Go.Proofs.Ytodpbkcdcchljaa

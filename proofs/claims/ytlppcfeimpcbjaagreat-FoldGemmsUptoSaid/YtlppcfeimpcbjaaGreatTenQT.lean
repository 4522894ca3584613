/- Texts merged: TenQ, TenR, TenS, TenT. -/
import Derived.Test.YtlppcfeimpcbjaaGreatTenNP
set_option linter.unusedSimpArgs false
set_option linter.unusedVariables false

/- grid.all, its places known to be below their number; sums of products. -/
namespace Go.Proofs.YtlppcfeimpcbjaaGreat
open Go.RowKit Go.Shelf
attribute [local go_sem] Oper.semAt_some

theorem fin_take {N k : Nat} (h : k < N) : (List.finRange N).take (k + 1) = (List.finRange N).take k ++ [⟨k, h⟩] := by
  rw [List.take_succ_eq_append_getElem (by rw [List.length_finRange]; exact h)]
  simp

set_option maxRecDepth 100000 in
set_option maxHeartbeats 2000000 in
theorem allF_in (l B N : Nat) (S : Nat → Prop) (A : Option Addr) (c : Nat) (vsh : Value) (E : Nat → Value) (hN : N ≤ 9223372036854775807) (J Jx : List (Fin N) → World → Prop) (W : World)
    (hbx : Box2 W B 105 vsh (.slice A N c)) (hel : ∀ j, j < N → Elem S W A j (E j)) (hJ : AbidesFrom W.heap.size J)
    (hY : ∀ pre x W1, J pre W1 → pre.length < N → YieldAt Fence.wide (2 - 1) Tryz.prog l #[.int .i64 (x.val : Nat), E x.val] W1 fun e W' =>
      (e = .returned (.bool true) ∧ J (pre ++ [x]) W' ∧ Fr S W1 W') ∨ (e = .returned (.bool false) ∧ Jx (pre ++ [x]) W'))
    (h0 : J [] W) :
    CallsIn Fence.wide 2 Tryz.prog 108 #[.func (.yield l) #[] #[], .pointer (some ⟨B, 0, none⟩)] W fun e W' => (∃ v, e = .returned v) ∧
      ((∃ ys, ys = List.finRange N ∧ J ys W') ∨ (∃ pre, pre <+: List.finRange N ∧ Jx pre W')) := by
  have c1 := hbx.c1
  have HE := Lib.hid hel
  have HJ := Lib.hid hJ
  have HY := Lib.hid hY
  clear hel hJ hY
  refine callsIn_of_wp Tryz.func108 rfl trivial ?_ rfl
  simp only [Tryz.ntmps108, List.size_toArray, List.length_cons, List.length_nil, Nat.reduceAdd, Nat.reduceSub, Array.replicate_succ, Array.replicate_zero, List.push_toArray, List.append_toArray, List.nil_append, List.cons_append]
  gi_wp2
  gi_loopw [8] (fun i wr => ∃ k : Nat, k ≤ N ∧ i = .int .i64 (k : Int) ∧ J ((List.finRange N).take k) wr ∧ Fr S W wr) (fun i _ => N - (intOf i).toNat)
  case atStart => exact ⟨0, Nat.zero_le _, by simp, by simpa using h0, Fr.refl _ _⟩
  case round =>
    obtain ⟨k, hk, rfl, hJs, hF⟩ := hrel
    by_cases hlt : k < N
    · obtain ⟨ad, s, P, n, d, Q, m, o, rfl, hS, hv, g0, g1, g2⟩ := (HE.out k hlt).fr hF
      have hJs' := HJ.out _ _ _ none hJs (World.grownBy_alloc wr (.cells #[.bool s, .slice P n d, .slice Q m o] 54) none) (fun r e => by cases e)
      obtain ⟨fn, tmps, assign, body, hy, hR⟩ := HY.out _ ⟨k, hlt⟩ _ hJs' (by rw [List.length_take, List.length_finRange]; omega)
      simp only [hv] at hy
      have hF' : Fr S W (wr.alloc (.cells #[.bool s, .slice P n d, .slice Q m o] 54)) := hF.alloc _
      have HF := Lib.hid hF'
      clear hJs' hF'
      gi_wp2
      refine hR.mono ?_
      rintro e W3 (⟨rfl, hJ3, hk3⟩ | ⟨rfl, hJx3⟩)
      · gi_wp2
        go_roundw
        case rel => exact ⟨k + 1, by omega, by congr 1, by rw [fin_take hlt]; exact hJ3, HF.out.trans hk3⟩
        case measure => simp [intOf]; omega
      · gi_wp2
        refine bodyPost_ret (results_none rfl _ _ _) rfl ?_
        exact ⟨⟨_, rfl⟩, .inr ⟨_, by rw [← fin_take hlt]; exact List.take_prefix _ _, hJx3⟩⟩
    · obtain rfl : k = N := by omega
      gi_wp2
      go_end0
      exact ⟨⟨_, rfl⟩, .inl ⟨_, rfl, by rwa [List.take_of_length_le (by rw [List.length_finRange]; exact Nat.le_refl _)] at hJs⟩⟩

theorem allF_stops (S : Nat → Prop) (w : World) (B N : Nat) (A : Option Addr) (c : Nat) (vsh : Value) (E : Nat → Value) (hN : N ≤ 9223372036854775807)
    (hbx : Box2 w B 105 vsh (.slice A N c)) (hel : ∀ j, j < N → Elem (fun k => S k ∧ k < w.heap.size) w A j (E j)) :
    SeqStopsK Fence.wide 2 Tryz.prog 108 #[.pointer (some ⟨B, 0, none⟩)] (fun x : Fin N => #[.int .i64 (x.val : Nat), E x.val]) (Fr S) (fun ys => ys = List.finRange N) (fun pre => pre <+: List.finRange N) N w :=
  fun l J Jx W hW hJ _ hY h0 =>
    have hf := Fr.of_below hW
    allF_in l B N S A c vsh E hN J Jx W (hbx.fr hf hbx.lt) (fun j hj => ((hel j hj).fr (hf.mono fun k _ hk => hk.2)).mono fun k hk => hk.1) hJ hY h0
end Go.Proofs.YtlppcfeimpcbjaaGreat


/- tensor.Dot. -/
namespace Go.Proofs.YtlppcfeimpcbjaaGreat
open Go.RowKit Go.Shelf
attribute [local go_sem] Oper.semAt_some

/-- Why there is no product. -/
def dotE (sha : List Int) (ea : List RatL) (shb : List Int) (eb : List RatL) : Int := if mayT sha ea ≠ 0 then mayT sha ea else if mayT shb eb ≠ 0 then mayT shb eb else if sha ≠ shb then 13 else 0
theorem dotE_a {sha shb : List Int} {ea eb : List RatL} (h : mayT sha ea ≠ 0) : dotE sha ea shb eb = mayT sha ea := if_pos h
theorem dotE_b {sha shb : List Int} {ea eb : List RatL} (h : mayT sha ea = 0) (h1 : mayT shb eb ≠ 0) : dotE sha ea shb eb = mayT shb eb := by
  unfold dotE
  rw [if_neg (by simpa using h), if_pos h1]
theorem dotE_13 {sha shb : List Int} {ea eb : List RatL} (h : mayT sha ea = 0) (h1 : mayT shb eb = 0) (h2 : sha ≠ shb) : dotE sha ea shb eb = 13 := by
  unfold dotE
  rw [if_neg (by simpa using h), if_neg (by simpa using h1), if_pos h2]
theorem dotE_0 {sha shb : List Int} {ea eb : List RatL} (h : mayT sha ea = 0) (h1 : mayT shb eb = 0) (h2 : sha = shb) : dotE sha ea shb eb = 0 := by
  unfold dotE
  rw [if_neg (by simpa using h), if_neg (by simpa using h1), if_neg (by simpa using h2)]
/-- The sum of some products. -/
def dotQ (ea eb : List RatL) (pre : List (Fin ea.length)) : Rat := pre.foldl (fun s i => s + qOf (ea.getD i.val zR) * qOf (eb.getD i.val zR)) 0
theorem dotQ_step (ea eb : List RatL) (pre : List (Fin ea.length)) (x : Fin ea.length) : dotQ ea eb (pre ++ [x]) = dotQ ea eb pre + qOf (ea.getD x.val zR) * qOf (eb.getD x.val zR) := by simp [dotQ]
def dotT (ea eb : List RatL) : Rat := dotQ ea eb (List.finRange ea.length)
def DotR (w : World) (r : Int) (q : Rat) (K : Nat) (e : Ending) (w' : World) : Prop := ∃ s v1 v2, e = .returned (.tuple #[.agg #[.bool s, v1, v2], .int .i64 r]) ∧ (r ≠ 0 → v1 = .slice none 0 0 ∧ v2 = .slice none 0 0) ∧
  (r = 0 → s = sg q ∧ RV (fun k => w.heap.size ≤ k) w' v1 v2 q K) ∧ Fr (fun k => k < w.heap.size) w w'

/-- What lies in memory from the beginning on. -/
structure DotI (w : World) (va vea vb veb : Value) (sha : List Int) (ea : List RatL) (shb : List Int) (eb : List RatL) (W : World) : Prop where
  a1 : Sl Im (fun k => k < w.heap.size) W va sha
  a2 : Sl Rm (fun k => k < w.heap.size) W vea ea
  b1 : Sl Im (fun k => k < w.heap.size) W vb shb
  b2 : Sl Rm (fun k => k < w.heap.size) W veb eb
  x0 : Box2 W w.heap.size 26 va vea
  x1 : Box2 W (w.heap.size + 1) 26 vb veb
  x2 : Box3 W (w.heap.size + 2) 54 (.bool false) (.slice none 0 0) (.slice none 0 0)
  fr : Fr (fun k => k < w.heap.size) w W
theorem DotI.keep {w : World} {va vea vb veb : Value} {sha shb : List Int} {ea eb : List RatL} {W W' : World} (h : DotI w va vea vb veb sha ea shb eb W) {R : Nat → Prop} (hf : Fr R W W') (hR : ∀ k, k < w.heap.size + 3 → R k) : DotI w va vea vb veb sha ea shb eb W' :=
  ⟨h.a1.fr (hf.mono fun k _ hk => hR k (by omega)), h.a2.fr (hf.mono fun k _ hk => hR k (by omega)), h.b1.fr (hf.mono fun k _ hk => hR k (by omega)), h.b2.fr (hf.mono fun k _ hk => hR k (by omega)),
    h.x0.fr hf (hR _ (by omega)), h.x1.fr hf (hR _ (by omega)), h.x2.fr hf (hR _ (by omega)), h.fr.comp hf fun k _ hk => ⟨hk, hR k (by omega)⟩⟩
theorem DotI.lt {w : World} {va vea vb veb : Value} {sha shb : List Int} {ea eb : List RatL} {W : World} (h : DotI w va vea vb veb sha ea shb eb W) : w.heap.size + 3 ≤ W.heap.size := h.x2.lt
theorem RV.turn {S : Nat → Prop} {w w' : World} {v1 v2 : Value} {q : Rat} {L : Nat} (h : RV S w v1 v2 q L) {row : Option Nat} (hg : w.grownBy w' row) {B : Nat} (hr : ∀ r, row = some r → B ≤ r ∧ ∃ o : Obj, w.heap[r]? = some o ∧ o.isCells = false) : RV S w' v1 v2 q L :=
  ⟨⟨h.num.own.turn (fun _ _ _ h => Kd.nat_any h) hg hr, h.num.len⟩, ⟨h.den.own.turn (fun _ _ _ h => Kd.nat_any h) hg hr, h.den.len⟩⟩
theorem RV.past {S R : Nat → Prop} {w w' : World} {v1 v2 : Value} {q : Rat} {L : Nat} (h : RV S w v1 v2 q L) (hf : Fr R w w') (hs : ∀ k, S k → R k) : RV S w' v1 v2 q L :=
  ⟨⟨h.num.own.past hf hs, h.num.len⟩, ⟨h.den.own.past hf hs, h.den.len⟩⟩
theorem RV.sizes {S : Nat → Prop} {w : World} {v1 v2 : Value} {q : Rat} {L K : Nat} (h : RV S w v1 v2 q L) (hn : (dg LB q.num.natAbs).length ≤ K) (hd : (dg LB q.den).length ≤ K) : RV S w v1 v2 q K := ⟨⟨h.num.own, hn⟩, ⟨h.den.own, hd⟩⟩
theorem RV.mon {S T : Nat → Prop} {w : World} {v1 v2 : Value} {q : Rat} {L : Nat} (h : RV S w v1 v2 q L) (hs : ∀ k, S k → T k) : RV T w v1 v2 q L := ⟨⟨h.num.own.mono hs, h.num.len⟩, ⟨h.den.own.mono hs, h.den.len⟩⟩
theorem RV.toRI {S : Nat → Prop} {w : World} {v1 v2 : Value} {q : Rat} {L M : Nat} (h : RV S w v1 v2 q L) (hl : L ≤ M) : RI S w (sg q) v1 v2 q q.num.natAbs q.den M :=
  ⟨⟨_, h.num.sl, val_dg _, Nat.le_trans h.num.len hl⟩, ⟨_, h.den.sl, val_dg _, Nat.le_trans h.den.len hl⟩, rv_self q⟩
theorem RV.bd {S : Nat → Prop} {w : World} {v1 v2 : Value} {q : Rat} {L : Nat} (h : RV S w v1 v2 q L) : RV (fun k => S k ∧ k < w.heap.size) w v1 v2 q L := ⟨⟨h.num.own.bd, h.num.len⟩, ⟨h.den.own.bd, h.den.len⟩⟩
theorem int_0 (w : World) : Calls Tryz.prog 62 #[.int .i64 0] w fun e w' => ∃ s v1 v2, e = .returned (.agg #[.bool s, v1, v2]) ∧ Hid (s = sg 0) ∧ Hid (RV (fun k => w.heap.size ≤ k) w' v1 v2 0 2) ∧ Fr (fun k => k < w.heap.size) w w' := by
  refine (int_n w 0 (by decide) (by decide)).mono ?_
  rintro e w' ⟨v1, v2, rfl, h, hf⟩
  exact ⟨_, v1, v2, rfl, Lib.hid rfl, Lib.hid h, hf⟩
theorem mul_h {S T : Nat → Prop} (w : World) (s t : Bool) (vn vd un ud : Value) (x y : Rat) (N D M E L : Nat) (hx : RI S w s vn vd x N D L) (hy : RI T w t un ud y M E L) (hL1 : 1 ≤ L) (hl : L ≤ 104857600) :
    Calls Tryz.prog 63 #[.agg #[.bool s, vn, vd], .agg #[.bool t, un, ud]] w fun e w' => ∃ r v1 v2, e = .returned (.agg #[.bool r, v1, v2]) ∧ Hid (r = sg (x * y)) ∧ Hid (RV (fun k => w.heap.size ≤ k) w' v1 v2 (x * y) (6 * L)) ∧ Fr (fun k => k < w.heap.size) w w' := by
  refine (rmul_n w s t vn vd un ud x y N D M E L hx hy hL1 hl).mono ?_
  rintro e w' ⟨v1, v2, rfl, h, hf⟩
  exact ⟨_, v1, v2, rfl, Lib.hid rfl, Lib.hid h, hf⟩
theorem add_h {S T : Nat → Prop} (w : World) (s t : Bool) (vn vd un ud : Value) (x y : Rat) (N D M E L : Nat) (hx : RI S w s vn vd x N D L) (hy : RI T w t un ud y M E L) (hL1 : 1 ≤ L) (hl : L ≤ 104857600) :
    Calls Tryz.prog 47 #[.agg #[.bool s, vn, vd], .agg #[.bool t, un, ud]] w fun e w' => ∃ r v1 v2, e = .returned (.agg #[.bool r, v1, v2]) ∧ Hid (r = sg (x + y)) ∧ Hid (RV (fun k => w.heap.size ≤ k) w' v1 v2 (x + y) (5 * L)) ∧ Fr (fun k => k < w.heap.size) w w' := by
  refine (radd_n w s t vn vd un ud x y N D M E L hx hy hL1 hl).mono ?_
  rintro e w' ⟨v1, v2, rfl, h, hf⟩
  exact ⟨_, v1, v2, rfl, Lib.hid rfl, Lib.hid h, hf⟩

/-- The sum as it stands, in block b9. -/
def SumI (ea eb : List RatL) (lo b9 n K : Nat) (w : World) (pre : List (Fin ea.length)) (W : World) : Prop :=
  ∃ s v1 v2, Box3 W b9 54 (.bool s) v1 v2 ∧ s = sg (dotQ ea eb pre) ∧ RV (fun k => lo ≤ k ∧ k ≠ b9) W v1 v2 (dotQ ea eb pre) K ∧ Fr (fun k => k < n ∧ k ≠ b9) w W
theorem SumI.own {ea eb : List RatL} {lo b9 n K : Nat} {w : World} : OwnFrom n (fun pre W => SumI ea eb lo b9 n K w pre W) := fun pre W W' row hs hg hr => by
  obtain ⟨s, v1, v2, h1, h2, h3, h4⟩ := hs
  exact ⟨s, v1, v2, grown_cells hg hr h1, h2, h3.turn hg hr, h4.comp (Fr.of_grown hg) fun k _ hk => ⟨hk, fun e => by have := (hr k e.symm).1; omega⟩⟩

end Go.Proofs.YtlppcfeimpcbjaaGreat


/- law07's known. -/
namespace Go.Proofs.YtlppcfeimpcbjaaGreat
open Go.RowKit

theorem qOf_can (q : Rat) : qOf (canR q) = q := by
  unfold qOf canR
  simp only [val_dg]
  exact rv_self q
theorem like_can (q : Rat) : LikeR (canR q) := by
  unfold LikeR
  rw [qOf_can]
  exact ⟨rfl, rfl, rfl⟩
/-- Integers that a text lays. -/
theorem sl_ints {w : World} {t : TypeId} {b : Nat} (xs : List Int) (cells : List Value) (hc : cells = xs.map (fun x => .int .i64 x)) (hx : ∀ x ∈ xs, -9223372036854775808 ≤ x ∧ x < 9223372036854775808) (hl : xs.length ≤ 1099511627000) (hb : w.heap[b]? = some (.cells cells.toArray t)) :
    Sl Im (fun k => k < w.heap.size) w (.slice (some ⟨b, 0, none⟩) xs.length xs.length) xs := by
  refine ⟨some ⟨b, 0, none⟩, xs.length, rfl, Nat.le_refl _, by omega, fun h => by simp at h, fun _ => ⟨_, rfl, lt_of_block hb, fun i x hxi => ?_⟩⟩
  refine ⟨[.int .i64 x], ⟨rfl, hx x (List.mem_of_getElem? hxi)⟩, fun j u hj => ?_⟩
  have hj0 : j = 0 := by
    have := (List.getElem?_eq_some_iff.1 hj).1
    simp at this; exact this
  subst hj0
  simp at hj
  subst hj
  rw [addr_lit, cell_of_row w b _ _ t (0, 0) hb, hc]
  simp [hxi, Kd.int]
def kes : List RatL := ([1, 2, 3, 4] : List Int).map fun (z : Int) => canR (z : Rat)
theorem kes_len : kes.length = 4 := rfl
theorem kfits : fitsT [2, 2] 4 = 0 := by decide
theorem kfits3 : fitsT [2, 2] 3 = 13 := by decide
theorem kmay : mayT [2, 2] kes = 0 := mayT_0 kfits fun x hx => by
  obtain ⟨z, _, rfl⟩ := List.mem_map.1 hx
  exact like_can _
theorem koff : offE [2, 2] [1, 0] = 0 := offE_0 (by decide) rfl fun k hk => by
  simp at hk
  obtain rfl | rfl : k = 0 ∨ k = 1 := by omega
  · decide
  · decide
theorem kat : atE [2, 2] kes [1, 0] = 0 := (atE_off kmay).trans koff
theorem kofs : (ofs [2, 2] [1, 0] 2).toNat = 2 := by decide
theorem kq (i : Nat) (h : i < 4) : qOf (kes.getD i zR) = ((i + 1 : Nat) : Rat) := by
  obtain rfl | rfl | rfl | rfl : i = 0 ∨ i = 1 ∨ i = 2 ∨ i = 3 := by omega
  all_goals exact qOf_can _
theorem kdotE : dotE [2, 2] kes [2, 2] kes = 0 := dotE_0 kmay kmay rfl
theorem ksum (pre : List (Fin kes.length)) : ∀ n : Nat, ∃ m : Nat, pre.foldl (fun s i => s + qOf (kes.getD i.val zR) * qOf (kes.getD i.val zR)) (n : Rat) = (m : Rat) ∧ m ≤ n + 16 * pre.length := by
  induction pre with
  | nil => exact fun n => ⟨n, rfl, by simp⟩
  | cons x pre ih =>
    intro n
    have hx : x.val < 4 := x.isLt
    obtain ⟨m, h1, h2⟩ := ih (n + (x.val + 1) * (x.val + 1))
    refine ⟨m, ?_, ?_⟩
    · rw [List.foldl_cons, kq _ hx, ← Rat.natCast_mul, ← Rat.natCast_add]
      exact h1
    · have : (x.val + 1) * (x.val + 1) ≤ 4 * 4 := Nat.mul_le_mul (by omega) (by omega)
      rw [List.length_cons]
      omega
theorem kbound (pre : List (Fin kes.length)) (h : pre.length ≤ kes.length) : (dg LB (dotQ kes kes pre).num.natAbs).length ≤ 12 ∧ (dg LB (dotQ kes kes pre).den).length ≤ 12 := by
  obtain ⟨m, h1, h2⟩ := ksum pre 0
  have e : dotQ kes kes pre = (m : Rat) := h1
  have hl : pre.length ≤ 4 := h
  rw [e, Rat.num_natCast, Rat.den_natCast]
  refine ⟨Nat.le_trans (dg_len_le LB2 (k := 1) ?_) (by decide), Nat.le_trans (dg_len_le LB2 (k := 1) (by decide)) (by decide)⟩
  unfold LB
  simp only [Int.natAbs_natCast]
  omega
theorem kdot : dotT kes kes = 30 := by
  unfold dotT dotQ
  have e : List.finRange kes.length = ([⟨0, by decide⟩, ⟨1, by decide⟩, ⟨2, by decide⟩, ⟨3, by decide⟩] : List (Fin kes.length)) := by
    simp [kes_len, List.finRange]
  rw [e]
  simp only [List.foldl_cons, List.foldl_nil]
  rw [kq 0 (by decide), kq 1 (by decide), kq 2 (by decide), kq 3 (by decide)]
  decide +kernel
theorem kbits : bitsT kes = 3 := by
  have h : ∀ i, i < 4 → eb kes i = blen (i + 1) := fun i hi => by
    unfold eb
    rw [kq i hi, Rat.num_natCast, Rat.den_natCast]
    simp only [Int.natAbs_natCast]
    have h1 : blen 1 = 1 := blen_of (by decide) (by decide)
    rw [h1]
    have : 1 ≤ blen (i + 1) := (dg_len_pos (by decide)).2 (by omega)
    omega
  unfold bitsT bm
  rw [kes_len]
  have e : List.range 4 = [0, 1, 2, 3] := by decide
  rw [e]
  simp only [List.foldl_cons, List.foldl_nil]
  rw [h 0 (by decide), h 1 (by decide), h 2 (by decide), h 3 (by decide), show blen (0 + 1) = 1 from blen_of (by decide) (by decide), show blen (1 + 1) = 2 from blen_of (by decide) (by decide), show blen (2 + 1) = 2 from blen_of (by decide) (by decide), show blen (3 + 1) = 3 from blen_of (by decide) (by decide)]
  decide
theorem klen (x : RatL) (h : x ∈ kes) : x.2.1.length ≤ 2 ∧ x.2.2.length ≤ 2 := by
  obtain ⟨z, hz, rfl⟩ := List.mem_map.1 h
  have hb : 0 ≤ z ∧ z ≤ 4 := by
    simp only [List.mem_cons, List.not_mem_nil, or_false] at hz
    omega
  unfold canR
  simp only [Rat.num_intCast, Rat.den_intCast]
  refine ⟨dg_len_le LB2 ?_, Nat.le_trans (dg_len_le LB2 (k := 1) (by decide)) (by decide)⟩
  unfold LB
  omega
theorem int_h (w : World) (z : Int) (h0 : -9223372036854775808 ≤ z) (h1 : z ≤ 9223372036854775807) : Calls Tryz.prog 62 #[.int .i64 z] w fun e w' => ∃ s v1 v2, e = .returned (.agg #[.bool s, v1, v2]) ∧ Hid (s = sg (z : Rat)) ∧ Hid (RV (fun k => w.heap.size ≤ k) w' v1 v2 (z : Rat) 2) ∧ Fr (fun k => k < w.heap.size) w w' := by
  refine (int_n w z h0 h1).mono ?_
  rintro e w' ⟨v1, v2, rfl, h, hf⟩
  exact ⟨_, v1, v2, rfl, Lib.hid rfl, Lib.hid h, hf⟩
theorem sl_rats3 {w : World} {b : Nat} {t : TypeId} {p q r : Rat} {s1 s2 s3 : Bool} {u1 v1 u2 v2 u3 v3 : Value} {S1 S2 S3 : Nat → Prop} {L : Nat} (hb : w.heap[b]? = some (.cells #[.bool s1, u1, v1, .bool s2, u2, v2, .bool s3, u3, v3] t (0, 0)))
    (h1 : RV S1 w u1 v1 p L) (h2 : RV S2 w u2 v2 q L) (h3 : RV S3 w u3 v3 r L) (e1 : s1 = sg p) (e2 : s2 = sg q) (e3 : s3 = sg r) : Sl Rm (fun _ => True) w (.slice (some ⟨b, 0, none⟩) 3 3) [canR p, canR q, canR r] := by
  subst e1 e2 e3
  have cell := fun (i : Nat) => cell_of_row w b i _ t (0, 0) hb
  refine ⟨some ⟨b, 0, none⟩, 3, rfl, Nat.le_refl _, by omega, fun h => by simp at h, fun _ => ⟨_, rfl, trivial, fun i x hx => ?_⟩⟩
  rcases i with _ | _ | _ | i
  · obtain rfl : canR p = x := by simpa using hx
    refine ⟨_, ⟨u1, v1, rfl, h1.num.sl.any, h1.den.sl.any⟩, fun j u hj => ?_⟩
    rw [addr_lit, cell]
    rcases j with _ | _ | _ | j
    · simpa [Rm, canR] using hj
    · simpa [Rm, canR] using hj
    · simpa [Rm, canR] using hj
    · simp at hj
  · obtain rfl : canR q = x := by simpa using hx
    refine ⟨_, ⟨u2, v2, rfl, h2.num.sl.any, h2.den.sl.any⟩, fun j u hj => ?_⟩
    rw [addr_lit, cell]
    rcases j with _ | _ | _ | j
    · simpa [Rm, canR] using hj
    · simpa [Rm, canR] using hj
    · simpa [Rm, canR] using hj
    · simp at hj
  · obtain rfl : canR r = x := by simpa using hx
    refine ⟨_, ⟨u3, v3, rfl, h3.num.sl.any, h3.den.sl.any⟩, fun j u hj => ?_⟩
    rw [addr_lit, cell]
    rcases j with _ | _ | _ | j
    · simpa [Rm, canR] using hj
    · simpa [Rm, canR] using hj
    · simpa [Rm, canR] using hj
    · simp at hj
  · simp at hx
theorem klen3 (x : RatL) (h : x ∈ [canR ((1 : Int) : Rat), canR ((2 : Int) : Rat), canR ((3 : Int) : Rat)]) : x.2.1.length ≤ 2 ∧ x.2.2.length ≤ 2 := by
  refine klen x ?_
  simp only [List.mem_cons, List.not_mem_nil, or_false] at h
  rcases h with rfl | rfl | rfl <;> simp [kes]
theorem is_3 {S T : Nat → Prop} (w : World) (s t : Bool) (vn vd un ud : Value) (q p : Rat) (L K : Nat) (hs : Hid (s = sg q)) (ht : Hid (t = sg p)) (hq : Hid (RR S w vn vd q K)) (hp : Hid (RV T w un ud p L)) (e : Hid (q = p)) (hL : L ≤ 1099511620) :
    Calls Tryz.prog 86 #[.agg #[.bool s, vn, vd], .agg #[.bool t, un, ud]] w fun e w' => e = .returned (.bool true) ∧ Fr (fun k => k < w.heap.size) w w' :=
  ris_yes w s t vn vd un ud q p L K hq.out hs.out hp.out ht.out e.out hL

end Go.Proofs.YtlppcfeimpcbjaaGreat


/- TensorMay. -/
namespace Go.Proofs.YtlppcfeimpcbjaaGreat
open Go.RowKit

/-- How many limbs there are in all. -/
def limbsN (l : List RatL) : Nat := (l.map fun x => x.2.1.length).sum
def limbsD (l : List RatL) : Nat := (l.map fun x => x.2.2.length).sum
/-- A tensor in memory, of L places at most. -/
structure TL (S : Nat → Prop) (w : World) (v : Value) (sh : List Int) (es : List RatL) (L : Nat) : Prop where
  ex : ∃ vs ve, v = .agg #[vs, ve] ∧ Sl Im S w vs sh ∧ Sl Rm S w ve es
  ls : sh.length ≤ L
  le : es.length ≤ L
  lx : ∀ x ∈ es, x.2.1.length ≤ L ∧ x.2.2.length ≤ L
  lt : limbsN es + limbsD es ≤ L
theorem TL.wide {S : Nat → Prop} {w : World} {v : Value} {sh : List Int} {es : List RatL} {L M : Nat} (h : TL S w v sh es L) (hl : L ≤ M) : TL S w v sh es M :=
  ⟨h.ex, Nat.le_trans h.ls hl, Nat.le_trans h.le hl, fun x hx => ⟨Nat.le_trans (h.lx x hx).1 hl, Nat.le_trans (h.lx x hx).2 hl⟩, Nat.le_trans h.lt hl⟩

theorem may_h {S T : Nat → Prop} (w : World) (vs ve : Value) (sh : List Int) (es : List RatL) (L : Nat) (m : Int) (hm : Hid (mayT sh es = m)) (hs : Sl Im S w vs sh) (he : Sl Rm T w ve es) (hL : ∀ x ∈ es, x.2.1.length ≤ L ∧ x.2.2.length ≤ L) (hL1 : 1 ≤ L) (hl : L ≤ 104857600) :
    Calls Tryz.prog 25 #[.agg #[vs, ve]] w fun e w' => e = .returned (.int .i64 m) ∧ Fr (fun k => k < w.heap.size) w w' := by
  have := may_t w vs ve sh es L hs he hL hL1 hl
  rwa [hm.out] at this
theorem rmay_h {S T : Nat → Prop} (w : World) (vs ve : Value) (sh : List Int) (es : List RatL) (L : Nat) (m : Int) (hm : Hid (mayT sh es = m)) (hs : Sl Im S w vs sh) (he : Sl Rm T w ve es) (hL : ∀ x ∈ es, x.2.1.length ≤ L ∧ x.2.2.length ≤ L) (hL1 : 1 ≤ L) (hl : L ≤ 104857600) :
    Calls Tryz.prog 15 #[.agg #[vs, ve]] w fun e w' => e = .returned (.int .i64 m) ∧ Fr (fun k => k < w.heap.size) w w' := by
  have := rmayT_t w vs ve sh es L hs he hL hL1 hl
  rwa [hm.out] at this

end Go.Proofs.YtlppcfeimpcbjaaGreat
